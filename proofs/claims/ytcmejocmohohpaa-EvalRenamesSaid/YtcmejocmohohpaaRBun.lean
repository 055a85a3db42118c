/- What is read of memory as data, as abstract values. -/
import Derived.Test.YtcmejocmohohpaaRDrwG
import Derived.ProofKit
import Derived.Laws.Strings
set_option linter.unusedVariables false
set_option linter.unusedSectionVars false
set_option linter.unusedSimpArgs false
noncomputable section
namespace Go.Proofs.Ytcmejocmohohpaa.R
open Go Go.ChangeShapes Go.WideShapes
/-- Cells that hold a value of a type. -/
def Fit (P : Program) : Nat → TypeId → List AV → Prop
  | 0, _, _ => False
  | n + 1, t, as =>
    match P.underlying t with
    | some .bool => ∃ b, as = [.bool b]
    | some (.int k) => ∃ i, as = [.int k i] ∧ (Lit.int k i).wf = true
    | some .string => ∃ s, as = [.str s] ∧ s.size ≤ maxLen
    | some (.slice e) => ∃ rows, as = [canI rows] ∧ rows.length ≤ maxLen ∧ ∀ r ∈ rows, Fit P n e r
    | some (.struct fs) => as.length = P.cellsOf t ∧ ∀ f ∈ fs.toList, Fit P n f.type ((as.drop f.offset).take (P.cellsOf f.type))
    | _ => False
/-- Fields that lie one behind the other. -/
def tileB (P : Program) (tys : List TypeId) : Nat → List Field → Nat → Bool
  | o, [], n => Nat.beq o n
  | o, f :: r, n => Nat.beq f.offset o && (tys.contains f.type && tileB P tys (o + P.cellsOf f.type) r n)
def tyB (P : Program) (tys : List TypeId) (t : TypeId) : Bool :=
  match P.underlying t with
  | some .bool => true
  | some (.int _) => true
  | some .string => true
  | some (.slice e) => Nat.blt 0 (P.cellsOf e) && tys.contains e
  | some (.struct fs) => tileB P tys 0 fs.toList (P.cellsOf t)
  | _ => false
def tysB (P : Program) (tys : List TypeId) : Bool := tys.all (tyB P tys)
theorem choose_list {α : Type} {Q : Nat → α → Prop} : ∀ n : Nat, (∀ i, i < n → ∃ r, Q i r) → ∃ rows : List α, rows.length = n ∧ ∀ i r, rows[i]? = some r → Q i r
  | 0, _ => ⟨[], rfl, by simp⟩
  | n + 1, h => by
    obtain ⟨rows, h1, h2⟩ := choose_list n fun i hi => h i (by omega)
    obtain ⟨r, hr⟩ := h n (by omega)
    refine ⟨rows ++ [r], by simp [h1], fun i x hx => ?_⟩
    rw [List.getElem?_append] at hx
    split at hx
    · exact h2 i x hx
    · rename_i hge
      have hi : i - rows.length = 0 := by
        rcases Nat.eq_zero_or_pos (i - rows.length) with h0 | h0
        · exact h0
        · rw [List.getElem?_eq_none (by simp; omega)] at hx; cases hx
      rw [hi] at hx
      simp at hx
      subst hx
      have : i = n := by omega
      subst this
      exact hr
section
variable {H : Type} {enc : TypeId × Value → H} {P : Program} {w : World} {base : Nat} {spare : Nat → Bool} {held : Bool} {U : Nat → Nat → Prop} {tys : List TypeId}
theorem cellBs_append : ∀ {as bs : List AV}, cellBs as = true → cellBs bs = true → cellBs (as ++ bs) = true
  | [], bs, _, h => h
  | a :: as, bs, h, h' => by
    simp only [cellBs, List.cons_append, Bool.and_eq_true] at h ⊢
    exact ⟨h.1, cellBs_append h.2 h'⟩
theorem fields_fit {n : Nat} {cs : List Value} : ∀ {fs : List Field} {o m : Nat}, tileB P tys o fs m = true → (∀ f ∈ fs, tys.contains f.type = true → ∃ as, VRs w U noRho as ((cs.drop f.offset).take (P.cellsOf f.type)) ∧ cellBs as = true ∧ Fit P n f.type as) → cs.length = m → o ≤ m →
    ∃ as, VRs w U noRho as (cs.drop o) ∧ cellBs as = true ∧ (∀ f ∈ fs, o ≤ f.offset) ∧ ∀ f ∈ fs, Fit P n f.type ((as.drop (f.offset - o)).take (P.cellsOf f.type))
  | [], o, m, h, hf, hl, ho => by
    have : o = m := Nat.eq_of_beq_eq_true h
    subst this
    refine ⟨[], ?_, rfl, by simp, by simp⟩
    rw [List.drop_eq_nil_of_le (by omega)]
    simp [VRs]
  | f :: fs, o, m, h, hf, hl, ho => by
    simp only [tileB, Bool.and_eq_true] at h
    obtain ⟨h1, h2, h3⟩ := h
    have h1 := Nat.eq_of_beq_eq_true h1
    obtain ⟨as, g1, g2, g3⟩ := hf f (by simp) h2
    have hle : ∀ (fs : List Field) (o : Nat), tileB P tys o fs m = true → o ≤ m := by
      intro fs
      induction fs with
      | nil => intro o h; exact Nat.le_of_eq (Nat.eq_of_beq_eq_true h)
      | cons f r ih =>
        intro o h
        simp only [tileB, Bool.and_eq_true] at h
        have := ih _ h.2.2
        omega
    have hom := hle _ _ h3
    obtain ⟨bs, k1, k2, k3, k4⟩ := fields_fit h3 (fun f' hf' => hf f' (by simp [hf'])) hl hom
    have hal : as.length = P.cellsOf f.type := by
      rw [VRs_length g1, List.length_take, List.length_drop]; omega
    refine ⟨as ++ bs, ?_, cellBs_append g2 k2, fun f' hf' => ?_, fun f' hf' => ?_⟩
    · have : cs.drop o = (cs.drop f.offset).take (P.cellsOf f.type) ++ cs.drop (o + P.cellsOf f.type) := by
        rw [h1, ← List.drop_drop, List.take_append_drop]
      rw [this]
      exact VRs_append g1 k1
    · rcases List.mem_cons.1 hf' with rfl | hf'
      · omega
      · have := k3 f' hf'; omega
    · rcases List.mem_cons.1 hf' with rfl | hf'
      · rw [h1, Nat.sub_self, List.drop_zero, List.take_append_of_le_length (by omega), List.take_of_length_le (by omega)]
        exact g3
      · have h5 := k3 f' hf'
        have h6 := k4 f' hf'
        rw [show f'.offset - o = as.length + (f'.offset - (o + P.cellsOf f.type)) by omega, ← List.drop_drop, List.drop_left]
        exact h6
theorem fit_one {v : Value} {a : AV} (h : VR w U noRho a v) : VRs w U noRho [a] [v] := by simp only [VRs]; exact ⟨v, [], rfl, h, rfl⟩
theorem trod_fit (hU : ∀ b o, ¬ U b o) (hT : tysB P tys = true) : ∀ (n : Nat) (t : TypeId) (cs : List Value) (x : DataW H × List MemPlace), tys.contains t = true → DataW.trod enc P w base spare held n t cs = some x → ∃ as, VRs w U noRho as cs ∧ cellBs as = true ∧ Fit P n t as
  | 0, t, cs, x, ht, h => by simp [DataW.trod] at h
  | n + 1, t, cs, x, ht, h => by
    have htB : tyB P tys t = true := by
      simp only [tysB, List.all_eq_true] at hT
      exact hT t (by simpa using ht)
    unfold tyB at htB
    split at htB
    · rename_i hu
      obtain ⟨b, rfl, _⟩ := DataW.trod_bool hu h
      refine ⟨[.bool b], fit_one (by simp [VR]), rfl, ?_⟩
      simp only [Fit, hu]
      exact ⟨b, rfl⟩
    · rename_i k hu
      obtain ⟨i, rfl, _, hw⟩ := DataW.trod_int hu h
      refine ⟨[.int k i], fit_one (by simp [VR]), rfl, ?_⟩
      simp only [Fit, hu]
      exact ⟨i, rfl, hw⟩
    · rename_i hu
      obtain ⟨s, rfl, _, hs⟩ := DataW.trod_string hu h
      refine ⟨[.str s], fit_one (by simp [VR]), rfl, ?_⟩
      simp only [Fit, hu]
      exact ⟨s, rfl, hs⟩
    · rename_i e hu
      simp only [Bool.and_eq_true] at htB
      obtain ⟨hz, he⟩ := htB
      have hz : 0 < P.cellsOf e := by rwa [Nat.blt_eq] at hz
      rcases DataW.trod_slice hu h with ⟨rfl, _⟩ | ⟨a, len, cap, elems, rest, m, hm, rfl, _, _, hlc, hcap, hel, hget, _⟩
      · refine ⟨[canI []], fit_one (VR_nilI (ρ := noRho) (by simp [VR])), rfl, ?_⟩
        simp only [Fit, hu]
        exact ⟨[], rfl, Nat.zero_le _, by simp⟩
      · have hm : n = m := by omega
        subst hm
        have hrow : ∀ i, i < len → ∃ r : List AV, (∃ cs', w.cells? base (a.add (i * P.cellsOf e)) (P.cellsOf e) = some cs' ∧ VRs w U noRho r cs') ∧ cellBs r = true ∧ Fit P n e r := by
          intro i hi
          have hg := hget i hi
          rw [List.getElem?_eq_getElem (by omega)] at hg
          cases hc : w.cells? base (a.add (i * P.cellsOf e)) (P.cellsOf e) with
          | none => rw [hc] at hg; cases hg
          | some cs' =>
            rw [hc] at hg
            obtain ⟨r, g1, g2, g3⟩ := trod_fit hU hT n e cs' _ he hg
            exact ⟨r, ⟨cs', rfl, g1⟩, g2, g3⟩
        obtain ⟨rows, h1, h2⟩ := choose_list len hrow
        refine ⟨[canI rows], fit_one (VR_canI (es := P.cellsOf e) (ex := decide (cap = len)) ?_), rfl, ?_⟩
        · simp only [VR]
          refine ⟨some a, cap, by rw [h1], by omega, fun hh => by rw [h1]; simpa using hh, ?_⟩
          rcases Nat.eq_zero_or_pos len with h0 | h0
          · left; exact List.eq_nil_of_length_eq_zero (by omega)
          · right
            obtain ⟨b, o, spot⟩ := a
            have hspot : spot = none := by
              obtain ⟨⟨cs', hc, _⟩, _, _⟩ := h2 0 rows[0] (List.getElem?_eq_getElem (by omega))
              obtain ⟨_, hlen, hcell⟩ := World.cells?_some hc
              have g0 := hcell 0 hz
              obtain ⟨c0, hc0⟩ : ∃ c0, cs'[0]? = some c0 := by
                cases cs' with
                | nil => simp at hlen; omega
                | cons c _ => exact ⟨c, rfl⟩
              rw [hc0] at g0
              simpa [Addr.add] using World.cell?_spot g0
            subst hspot
            refine ⟨b, o, rfl, RWs_mk fun i r hi => ?_⟩
            obtain ⟨⟨cs', hc, hv⟩, hb, _⟩ := h2 i r hi
            obtain ⟨_, hlen, hcell⟩ := World.cells?_some hc
            have hrl := VRs_length hv
            refine ⟨by omega, CLs_mk fun j c hj => ?_⟩
            obtain ⟨v, g1, g2⟩ := VRs_get hv hj
            have hjl := lt_of_getElem? g1
            have g3 := hcell j (by omega)
            rw [add_off, add_off, g1] at g3
            exact ⟨v, g3, hU _ _, VRs_one hb hv v (List.mem_of_getElem? g1), g2⟩
        · simp only [Fit, hu]
          refine ⟨rows, rfl, by omega, fun r hr => ?_⟩
          obtain ⟨i, hi⟩ := List.mem_iff_getElem?.1 hr
          exact (h2 i r hi).2.2
    · rename_i fs hu
      obtain ⟨xs, m, hm, _, hl, hxs, hf⟩ := DataW.trod_struct hu h
      have hm : n = m := by omega
      subst hm
      obtain ⟨as, g1, g2, _, g4⟩ := fields_fit (n := n) htB (fun f hfm hft => by
        obtain ⟨i, hi⟩ := List.mem_iff_getElem?.1 hfm
        have hi' : fs[i]? = some f := by simpa using hi
        have := hf i f hi'
        have hlt : i < xs.length := by
          rw [hxs]
          exact (Array.getElem?_eq_some_iff.1 hi').1
        rw [List.getElem?_eq_getElem hlt] at this
        exact trod_fit hU hT n f.type _ _ hft this) hl (Nat.zero_le _)
      rw [List.drop_zero] at g1
      refine ⟨as, g1, g2, ?_⟩
      simp only [Fit, hu]
      refine ⟨by rw [VRs_length g1, hl], fun f hfm => ?_⟩
      simpa using g4 f hfm
    · cases htB
end
end Go.Proofs.Ytcmejocmohohpaa.R

/- From an answer of the evaluator to what a row asks. -/
set_option linter.unusedVariables false
set_option linter.unusedSectionVars false
set_option linter.unusedSimpArgs false
noncomputable section
namespace Go.Proofs.Ytcmejocmohohpaa.R
open Go Go.ChangeShapes Go.WideShapes Go.ChangeAt Go.RowKit
def argOf (P : Program) (t : TypeId) (as : List AV) : AV :=
  match P.underlying t with
  | some (.struct _) => .agg as
  | _ => as.headD .bad
/-- Arguments, each a value of its type. -/
def Args (P : Program) : List TypeId → List AV → Prop
  | [], [] => True
  | t :: ts, a :: as => (∃ n cs, Fit P n t cs ∧ a = argOf P t cs) ∧ Args P ts as
  | _, _ => False
section
variable {H : Type} {enc : TypeId × Value → H} {P : Program} {w : World} {tys : List TypeId} {U : Nat → Nat → Prop}
theorem arg_open (hU : ∀ b o, ¬ U b o) (hT : tysB P tys = true) {base : Nat} {t : TypeId} (ht : tys.contains t = true) {v : Value} {d : DataW H} {ps : List MemPlace} (hv : Value.okWide P w .any base t v) (h : DataW.Trod enc P w 0 (fun _ => true) true t v d ps) :
    ∃ a, VR w U noRho a v ∧ ∃ n cs, Fit P n t cs ∧ a = argOf P t cs := by
  obtain ⟨n, h⟩ := h
  obtain ⟨as, h1, h2, h3⟩ := trod_fit hU hT n t _ _ ht h
  refine ⟨argOf P t as, ?_, n, as, h3, rfl⟩
  have htB : tyB P tys t = true := by
    simp only [tysB, List.all_eq_true] at hT
    exact hT t (by simpa using ht)
  have single : (∀ fs, P.underlying t ≠ some (.struct fs)) → oneB v = true → VR w U noRho (argOf P t as) v := by
    intro hns hone
    rw [cells_one hone] at h1
    cases as with
    | nil => simp [VRs] at h1
    | cons a as =>
      simp only [VRs] at h1
      obtain ⟨x, r, e1, e2, e3⟩ := h1
      have e1 : [v] = x :: r := e1
      simp only [List.cons.injEq] at e1
      obtain ⟨rfl, rfl⟩ := e1
      have : argOf P t (a :: as) = a := by
        unfold argOf
        split
        · rename_i fs hu; exact absurd hu (hns fs)
        · rfl
      rw [this]
      exact e2
  cases n with
  | zero => simp [Fit] at h3
  | succ n =>
    unfold tyB at htB
    split at htB
    · rename_i hu
      obtain ⟨b, rfl⟩ := okWide_bool hu hv
      exact single (fun fs e => by rw [hu] at e; cases e) rfl
    · rename_i k hu
      obtain ⟨b, rfl⟩ := okWide_int hu hv
      exact single (fun fs e => by rw [hu] at e; cases e) rfl
    · rename_i hu
      obtain ⟨b, rfl⟩ := okWide_string hu hv
      exact single (fun fs e => by rw [hu] at e; cases e) rfl
    · rename_i e hu
      obtain ⟨a, l, c, rfl⟩ := okWide_slice hu hv
      exact single (fun fs e => by rw [hu] at e; cases e) rfl
    · rename_i fs hu
      simp only [Value.okWide, hu] at hv
      obtain ⟨cs, rfl, _⟩ := hv
      simp only [argOf, hu, VR]
      exact ⟨cs, rfl, h1⟩
    · cases htB
theorem args_open (hU : ∀ b o, ¬ U b o) (hT : tysB P tys = true) {base : Nat} : ∀ {ts : List TypeId} {vs : List Value} {ds : List (DataW H)} {ps : List MemPlace}, (∀ t ∈ ts, tys.contains t = true) → (∀ (j : Nat) t v, ts[j]? = some t → vs[j]? = some v → Value.okWide P w .any base t v) →
    DataW.TrodAll enc P w 0 (fun _ => true) true ts vs ds ps → ∃ avs, VRs w U noRho avs vs ∧ Args P ts avs
  | [], vs, ds, ps, ht, hv, h => by
    obtain ⟨rfl, rfl, rfl⟩ := trodAll_nil h
    exact ⟨[], by simp [VRs], by simp [Args]⟩
  | t :: ts, vs, ds, ps, ht, hv, h => by
    obtain ⟨v, vs', d, ds', p, q, rfl, rfl, rfl, h1, h2⟩ := trodAll_cons h
    obtain ⟨a, g1, g2⟩ := arg_open hU hT (ht t (by simp)) (hv 0 t v rfl rfl) h1
    obtain ⟨avs, k1, k2⟩ := args_open hU hT (fun t' ht' => ht t' (by simp [ht'])) (fun j t' v' h h' => hv (j + 1) t' v' (by simpa using h) (by simpa using h')) h2
    exact ⟨a :: avs, by simp only [VRs]; exact ⟨v, vs', rfl, g1, k1⟩, by simp only [Args]; exact ⟨g2, k2⟩⟩
theorem trodAll_stays (hl : laidOutB P = true) {W W' : World} {sp : Nat → Bool} : ∀ {ts : List TypeId} {vs : List Value} {ds : List (DataW H)} {ps : List MemPlace}, (∀ t ∈ ts, P.readableRec t = true ∧ t < P.types.size) → DataW.TrodAll enc P W 0 (fun _ => true) true ts vs ds ps → (∀ p ∈ ps, W.sameAt W' p) → (∀ p ∈ ps, sp p.block = true) →
    DataW.TrodAll enc P W' 0 sp true ts vs ds ps
  | [], vs, ds, ps, ht, h, hs, hp => by
    obtain ⟨rfl, rfl, rfl⟩ := trodAll_nil h
    exact rfl
  | t :: ts, vs, ds, ps, ht, h, hs, hp => by
    obtain ⟨v, vs', d, ds', p, q, rfl, rfl, rfl, h1, h2⟩ := trodAll_cons h
    have h3 := ht t (by simp)
    exact ⟨p, q, WideElems.Trod_stays hl h3.1 h3.2 h1 (fun x hx => hs x (List.mem_append_left _ hx)) (fun x hx => hp x (List.mem_append_left _ hx)),
      trodAll_stays hl (fun t' ht' => ht t' (by simp [ht'])) h2 (fun x hx => hs x (List.mem_append_right _ hx)) (fun x hx => hp x (List.mem_append_right _ hx)), rfl⟩
theorem Below_of_fr {W W' : World} {ρ' : Rho} {H' : Heap} (h : Fr noRho [] W ρ' H' W') : Below W.heap.size W W' := by
  have hno : ∀ b o, ¬ Wr noRho [] b o := fun b o hw => by
    obtain ⟨id, es, ob, h1, _⟩ := hw
    simp at h1
  refine ⟨h.os, h.tape, h.output, h.size, fun b hb => ?_⟩
  cases hob : W.heap[b]? with
  | none => rw [Array.getElem?_eq_getElem hb] at hob; cases hob
  | some ob =>
    cases ob with
    | cells C e fr => rw [← hob]; exact blk_same h hob (hno b)
    | map es c => exact h.other b _ hob (fun C e fr hh => by cases hh)
    | _ => exact h.other b _ hob (fun C e fr hh => by cases hh)
/-- 'post', where the arguments read as they read. -/
theorem post_of_below {f : Func} {s : ChangeSpec} {apart fresh handsOn again : Bool} {W W' : World} {args : Array Value} {v : Value} {ds : List (DataW H)} {before : List MemPlace}
    (hvars : s.vars = []) (hl : laidOutB P = true) (hrd : ∀ t ∈ f.params.toList, P.readableRec t = true ∧ t < P.types.size)
    (hW : DataW.Whole enc P f.params.toList s.vars apart W args.toList ds [] before)
    (hsp : (s.fn H (ds ++ [])).args = ds) (hsv : (s.fn H (ds ++ [])).vars = [])
    (hres : ∀ (b : Nat) (sp : Nat → Bool) (hd : Bool), DataW.TrodAll enc P W' b sp hd f.resultTypes.toList (v.resultList f.resultTypes.size) (s.fn H (ds ++ [])).results [])
    (hb : Below W.heap.size W W')
    (hok : ∀ (j : Nat) (t : TypeId) (r : Value), f.resultTypes[j]? = some t → (v.resultList f.resultTypes.size)[j]? = some r → Value.okWide P W' .any 0 t r) :
    s.post enc P f apart fresh handsOn again W args v W' := by
  obtain ⟨p, q, hA, hV, hps, hz, hn⟩ := hW
  rw [hvars] at hV
  obtain ⟨_, rfl⟩ := trodVars_none hV
  simp only [List.append_nil] at hps
  subst hps
  have hlt : ∀ x ∈ before, x.block < W.heap.size := fun x hx => DataW.Whole.lt (⟨before, [], hA, by rw [hvars]; exact hV, by simp, hz, hn⟩ : DataW.Whole enc P f.params.toList s.vars apart W args.toList ds [] before) x hx
  have hsame : ∀ x ∈ before, W.sameAt W' x := fun x hx => hb.same (hlt x hx)
  have hold : ∀ x ∈ before, (fun b => decide (b < W.heap.size)) x.block = true := fun x hx => by simpa using hlt x hx
  have hargs : ∀ sp : Nat → Bool, (∀ x ∈ before, sp x.block = true) → DataW.TrodAll enc P W' 0 sp true f.params.toList args.toList (s.fn H (ds ++ [])).args before := fun sp hs => by
    rw [hsp]
    exact trodAll_stays hl hrd hA hsame hs
  have hvs : ∀ sp : Nat → Bool, DataW.TrodVars enc P W' sp s.vars (s.fn H (ds ++ [])).vars [] := fun sp => by
    rw [hvars, hsv]
    rfl
  refine ⟨ds, [], before, [], before, [], ⟨before, [], hA, by rw [hvars]; exact hV, by simp, hz, hn⟩, hres _ _ _, hargs _ hold, hvs _, hb.frame _, fun _ => ?_⟩
  refine ⟨hok, _, _, ([] ++ before) ++ [], ⟨[] ++ before, [], trodAll_append (hargs _ (fun _ _ => rfl)) (hres _ _ _), hvs _, rfl, ?_, ?_⟩, ?_⟩
  · intro b off hp
    have hp' : MemPlace.cell b off ∈ before := by simpa using hp
    rw [hb.frozen (p := ⟨b, off, none⟩) (hlt _ hp')]
    exact hz b off hp'
  · intro ha
    simpa using hn ha
  · intro x hx _
    simpa using hx
end
end Go.Proofs.Ytcmejocmohohpaa.R

/- What code does, from a state on: rules, one for each kind of code. -/
set_option linter.unusedVariables false
set_option linter.unusedSectionVars false
set_option linter.unusedSimpArgs false
noncomputable section
namespace Go.Proofs.Ytcmejocmohohpaa.R
open Go
/-! ### What code was compiled from -/
section
variable {P : Program}
theorem compC_seq {code : Code} {x y : IC} (h : compC P code = some (.seq x y)) : ∃ a b, code = .seq a b ∧ compC P a = some x ∧ compC P b = some y := by
  cases code <;> simp only [compC] at h
  case seq a b =>
    split at h
    · rename_i h1 h2
      simp only [Option.some.injEq, IC.seq.injEq] at h
      obtain ⟨rfl, rfl⟩ := h
      exact ⟨a, b, rfl, h1, h2⟩
    · cases h
  all_goals (repeat' split at h) <;> cases h
theorem compC_cond {code : Code} {x : Opd} {y z : IC} (h : compC P code = some (.cond x y z)) : ∃ o a b, code = .cond o a b ∧ opd o = some x ∧ compC P a = some y ∧ compC P b = some z := by
  cases code <;> simp only [compC] at h
  case cond o a b =>
    split at h
    · rename_i h0 h1 h2
      simp only [Option.some.injEq, IC.cond.injEq] at h
      obtain ⟨rfl, rfl, rfl⟩ := h
      exact ⟨o, a, b, rfl, h0, h1, h2⟩
    · cases h
  all_goals (repeat' split at h) <;> cases h
theorem compC_block {code : Code} {id : Nat} {x : IC} (h : compC P code = some (.block id x)) : ∃ a, code = .block id a ∧ compC P a = some x := by
  cases code <;> simp only [compC] at h
  case block i a =>
    split at h
    · rename_i h1
      simp only [Option.some.injEq, IC.block.injEq] at h
      obtain ⟨rfl, rfl⟩ := h
      exact ⟨a, rfl, h1⟩
    · cases h
  all_goals (repeat' split at h) <;> cases h
theorem compC_loop {code : Code} {x : IC} (h : compC P code = some (.loop x)) : ∃ a, code = .loop a ∧ compC P a = some x := by
  cases code <;> simp only [compC] at h
  case loop a =>
    split at h
    · rename_i h1
      simp only [Option.some.injEq, IC.loop.injEq] at h
      obtain rfl := h
      exact ⟨a, rfl, h1⟩
    · cases h
  all_goals (repeat' split at h) <;> cases h
theorem compC_out {code : Code} {id : Nat} (h : compC P code = some (.out id)) : code = .exit id := by
  cases code <;> simp only [compC] at h
  case exit i => simp only [Option.some.injEq, IC.out.injEq] at h; subst h; rfl
  all_goals (repeat' split at h) <;> cases h
theorem compC_ret {code : Code} (h : compC P code = some .ret) : code = .ret := by
  cases code <;> simp only [compC] at h
  case ret => rfl
  all_goals (repeat' split at h) <;> cases h
theorem compC_skip {code : Code} (h : compC P code = some .skip) : code = .skip ∨ ∃ l, code = .label l := by
  cases code <;> simp only [compC] at h
  case skip => exact .inl rfl
  case label l => exact .inr ⟨l, rfl⟩
  all_goals (repeat' split at h) <;> cases h
theorem compC_reg {code : Code} {k : Option (List (Nat × Nat))} {l : List Iop} (h : compC P code = some (.reg k l)) : ∃ id ops draw, code = .region id ops draw ∧ compOps P ops.toList ops.toList = some l ∧ ((draw = false ∧ k = none) ∨ (draw = true ∧ ∃ q, k = some q ∧ drawGo l ops.toList l [] = some q)) := by
  cases code <;> simp only [compC] at h
  case region id ops draw =>
    split at h
    · rename_i l' h1
      split at h
      · rename_i hd
        split at h
        · rename_i q hq
          simp only [Option.some.injEq, IC.reg.injEq] at h
          obtain ⟨rfl, rfl⟩ := h
          exact ⟨id, ops, draw, rfl, h1, .inr ⟨hd, q, rfl, hq⟩⟩
        · cases h
      · rename_i hd
        simp only [Option.some.injEq, IC.reg.injEq] at h
        obtain ⟨rfl, rfl⟩ := h
        exact ⟨id, ops, draw, rfl, h1, .inl ⟨by simpa using hd, rfl⟩⟩
    · cases h
  all_goals (repeat' split at h) <;> cases h
end

/-! ### Code -/
/-- Whatever the program does from a state on that s tells, it ends as Q tells. -/
def Wp (P : Program) (nt m : Nat) (ic : IC) (s : St) (Q : Ex → St → Prop) : Prop :=
  ∀ (code : Code), compC P code = some ic → ∀ (A : Nat → Nat → Prop) (E : Entry) (a : Act) (w : World), E.m = m → (∀ i x, E.ρ i = some x → i < E.m) → SR A E nt s a w →
    ∀ K : Exit → Act → World → Prop, (∀ e s' a' w', Q e s' → SR A E nt s' a' w' → K (exOf e) a' w') → code.wp P K a w
/-- Rounds of a loop that has begun. -/
def LoopIn (P : Program) (c : Code) (K : Exit → Act → World → Prop) (a : Act) (w : World) : Prop :=
  ∀ b k cs, ∃ e a' w', K e a' w' ∧ Arrives P (lone (b.at a (.code c :: .inLoop c :: k)) cs w) b k cs e a' w'
theorem LoopIn.step {P : Program} {c : Code} {K : Exit → Act → World → Prop} {a : Act} {w : World} (h : c.wp P (Exit.then (LoopIn P c K) K) a w) : LoopIn P c K a w := by
  intro b k cs
  obtain ⟨e, a₁, w₁, hq, harr⟩ := h b (.inLoop c :: k) cs
  cases e with
  | normal =>
    obtain ⟨e₂, a₂, w₂, hq₂, harr₂⟩ := hq b k cs
    exact ⟨e₂, a₂, w₂, hq₂, .of_steps (Steps.trans harr (.one step_inLoop)) harr₂⟩
  | exit id => exact ⟨_, a₁, w₁, hq, .pass (x := .inLoop c) rfl (fun _ _ => .inl (by simp)) harr⟩
  | goto l => exact ⟨_, a₁, w₁, hq, .pass (x := .inLoop c) rfl (fun _ _ => .inl (by simp)) harr⟩
  | ret => exact ⟨_, a₁, w₁, hq, .pass (x := .inLoop c) rfl (fun _ _ => .inl (by simp)) harr⟩
  | panic ch => exact ⟨_, a₁, w₁, hq, .pass (x := .inLoop c) rfl (fun _ _ => .inl (by simp)) harr⟩
  | outgrown => exact ⟨_, a₁, w₁, hq, .pass (x := .inLoop c) rfl (fun _ _ => .inl (by simp)) harr⟩
theorem LoopIn.wp {P : Program} {c : Code} {K : Exit → Act → World → Prop} {a : Act} {w : World} (h : LoopIn P c K a w) : (Code.loop c).wp P K a w := by
  intro b k cs
  obtain ⟨e, a', w', hq, harr⟩ := h b k cs
  exact ⟨e, a', w', hq, .of_steps (.one step_loop) harr⟩
def LWp (P : Program) (nt m : Nat) (b : IC) (s : St) (Q : Ex → St → Prop) : Prop :=
  ∀ (c : Code), compC P c = some b → ∀ (A : Nat → Nat → Prop) (E : Entry) (a : Act) (w : World), E.m = m → (∀ i x, E.ρ i = some x → i < E.m) → SR A E nt s a w →
    ∀ K : Exit → Act → World → Prop, (∀ e s' a' w', Q e s' → SR A E nt s' a' w' → K (exOf e) a' w') → LoopIn P c K a w

def seqQ (P : Program) (nt m : Nat) (b : IC) (Q : Ex → St → Prop) : Ex → St → Prop
  | .norm, s => Wp P nt m b s Q
  | e, s => Q e s
def loopQ (P : Program) (nt m : Nat) (b : IC) (Q : Ex → St → Prop) : Ex → St → Prop
  | .norm, s => LWp P nt m b s Q
  | e, s => Q e s
def blockQ (id : Nat) (Q : Ex → St → Prop) : Ex → St → Prop
  | .out j, s => if j = id then Q .norm s else Q (.out j) s
  | e, s => Q e s
/-- A state tells no more than another one. -/
def Weak (m : Nat) (s s' : St) : Prop :=
  ∀ (nt : Nat) (A : Nat → Nat → Prop) (E : Entry) (a : Act) (w : World), E.m = m → (∀ i x, E.ρ i = some x → i < E.m) → SR A E nt s a w → SR A E nt s' a w
theorem Weak.refl (m : Nat) (s : St) : Weak m s s := fun _ _ _ _ _ _ _ h => h
theorem Weak.trans {m : Nat} {s s' s'' : St} (h : Weak m s s') (h' : Weak m s' s'') : Weak m s s'' := fun nt A E a w hm hE hs => h' nt A E a w hm hE (h nt A E a w hm hE hs)
section
variable {P : Program} {nt m : Nat} {s s' s1 : St} {Q : Ex → St → Prop}
theorem Wp.seq {a b : IC} (h : Wp P nt m a s (seqQ P nt m b Q)) : Wp P nt m (.seq a b) s Q := by
  intro code hc A E act w hm hE hs K hK
  obtain ⟨x, y, rfl, h1, h2⟩ := compC_seq hc
  refine wp_seq (h x h1 A E act w hm hE hs _ ?_)
  intro e s' a' w' hq hs'
  cases e with
  | norm => exact hq y h2 A E a' w' hm hE hs' K hK
  | out id => exact hK _ _ a' w' hq hs'
  | ret => exact hK _ _ a' w' hq hs'
theorem Wp.block {id : Nat} {b : IC} (h : Wp P nt m b s (blockQ id Q)) : Wp P nt m (.block id b) s Q := by
  intro code hc A E act w hm hE hs K hK
  obtain ⟨x, rfl, h1⟩ := compC_block hc
  refine wp_block (h x h1 A E act w hm hE hs _ ?_)
  intro e s' a' w' hq hs'
  cases e with
  | norm => exact hK _ _ a' w' hq hs'
  | out j =>
    simp only [exOf, Exit.inBlock]
    simp only [blockQ] at hq
    split at hq
    · rename_i hj
      rw [if_pos hj]
      exact hK _ _ a' w' hq hs'
    · rename_i hj
      rw [if_neg hj]
      exact hK _ _ a' w' hq hs'
  | ret => exact hK _ _ a' w' hq hs'
theorem Wp.loop {b : IC} (h : LWp P nt m b s Q) : Wp P nt m (.loop b) s Q := by
  intro code hc A E act w hm hE hs K hK
  obtain ⟨x, rfl, h1⟩ := compC_loop hc
  exact (h x h1 A E act w hm hE hs K hK).wp
theorem LWp.step {b : IC} (h : Wp P nt m b s (loopQ P nt m b Q)) : LWp P nt m b s Q := by
  intro c hc A E act w hm hE hs K hK
  refine LoopIn.step (h c hc A E act w hm hE hs _ ?_)
  intro e s' a' w' hq hs'
  cases e with
  | norm => exact hq c hc A E a' w' hm hE hs' K hK
  | out id => exact hK _ _ a' w' hq hs'
  | ret => exact hK _ _ a' w' hq hs'
theorem Wp.condT {x : Opd} {a b : IC} (hx : s.ev x = .bool true) (h : Wp P nt m a s Q) : Wp P nt m (.cond x a b) s Q := by
  intro code hc A E act w hm hE hs K hK
  obtain ⟨o, y, z, rfl, h0, h1, h2⟩ := compC_cond hc
  obtain ⟨ρ, hr, hv, _⟩ := hs.ex
  have hxv := VR_opd hv h0
  rw [hx] at hxv
  simp only [VR] at hxv
  exact wp_cond_true hxv (h y h1 A E act w hm hE hs K hK)
theorem Wp.condF {x : Opd} {a b : IC} (hx : s.ev x = .bool false) (h : Wp P nt m b s Q) : Wp P nt m (.cond x a b) s Q := by
  intro code hc A E act w hm hE hs K hK
  obtain ⟨o, y, z, rfl, h0, h1, h2⟩ := compC_cond hc
  obtain ⟨ρ, hr, hv, _⟩ := hs.ex
  have hxv := VR_opd hv h0
  rw [hx] at hxv
  simp only [VR] at hxv
  exact wp_cond_false hxv (h z h2 A E act w hm hE hs K hK)
theorem Wp.skip (h : Q .norm s) : Wp P nt m .skip s Q := by
  intro code hc A E act w hm hE hs K hK
  rcases compC_skip hc with rfl | ⟨l, rfl⟩
  · exact wp_skip (hK _ _ act w h hs)
  · exact wp_label (hK _ _ act w h hs)
theorem Wp.out {id : Nat} (h : Q (.out id) s) : Wp P nt m (.out id) s Q := by
  intro code hc A E act w hm hE hs K hK
  obtain rfl := compC_out hc
  exact wp_exit (hK _ _ act w h hs)
theorem Wp.ret (h : Q .ret s) : Wp P nt m .ret s Q := by
  intro code hc A E act w hm hE hs K hK
  obtain rfl := compC_ret hc
  exact wp_ret (hK _ _ act w h hs)
theorem Wp.weak {ic : IC} (hw : Weak m s s') (h : Wp P nt m ic s' Q) : Wp P nt m ic s Q :=
  fun code hc A E act w hm hE hs K hK => h code hc A E act w hm hE (hw nt A E act w hm hE hs) K hK
theorem LWp.weak {ic : IC} (hw : Weak m s s') (h : LWp P nt m ic s' Q) : LWp P nt m ic s Q :=
  fun code hc A E act w hm hE hs K hK => h code hc A E act w hm hE (hw nt A E act w hm hE hs) K hK
end
/-! ### Regions -/
/-- A state behind a region. -/
def St.clr (s : St) : St := ⟨s.env, [], s.H, s.nx⟩
def OpsW (P : Program) (nt m : Nat) (l : List Iop) (s : St) (Q : St → Prop) : Prop :=
  ∀ (all : Array Oper) (ops : List Oper), compOps P all.toList ops = some l → ∀ (A : Nat → Nat → Prop) (E : Entry) (a : Act) (w : World), E.m = m → (∀ i x, E.ρ i = some x → i < E.m) → SR A E nt s a w →
    ∀ K : Exit → Act → World → Prop, (∀ s' a' w', Q s' → SR A E nt s' a' w' → K .normal a' w') → wpList P all K ops a w
section
variable {P : Program} {nt m : Nat} {s s1 : St} {Q : Ex → St → Prop} {T : St → Prop} {c : Cfg} {cl : Callee}
theorem OpsW.nil (h : T s) : OpsW P nt m [] s T := by
  intro all ops hc A E a w hm hE hs K hK
  cases ops with
  | nil => exact hK _ _ _ h hs
  | cons o r =>
    simp only [compOps] at hc
    split at hc <;> cases hc
theorem OpsW.one {o : Iop} {l : List Iop} (hcl : Sound P cl) (h1 : evIO c cl nt o s = some s1) (h : OpsW P nt m l s1 T) : OpsW P nt m (o :: l) s T := by
  intro all ops hc A E a w hm hE hs K hK
  cases ops with
  | nil => simp [compOps] at hc
  | cons p r =>
    simp only [compOps] at hc
    split at hc
    · rename_i io rr h2 h3
      simp only [Option.some.injEq, List.cons.injEq] at hc
      obtain ⟨rfl, rfl⟩ := hc
      refine wpList_step fun K' hK' => ?_
      exact snd_io hcl hs h2 h1 fun a' w' hs' => hK' a' w' (h all r h3 A E a' w' hm hE hs' K hK)
    · cases hc
theorem OpsW.chunk (hcl : Sound P cl) : ∀ {l1 l2 : List Iop} {s s1 : St}, evOps c cl nt l1 s = some s1 → OpsW P nt m l2 s1 T → OpsW P nt m (l1 ++ l2) s T
  | [], l2, s, s1, h, h2 => by
    rw [evOps_nil] at h
    obtain rfl := Option.some.inj h
    exact h2
  | o :: l1, l2, s, s1, h, h2 => by
    rw [evOps_cons] at h
    cases h3 : evIO c cl nt o s with
    | none => rw [h3, andThen_none] at h; cases h
    | some s2 =>
      rw [h3, andThen_some] at h
      exact OpsW.one hcl h3 (OpsW.chunk hcl h h2)
theorem OpsW.end (hcl : Sound P cl) {l : List Iop} (h : evOps c cl nt l s = some s1) (h2 : T s1) : OpsW P nt m l s T := by
  have := OpsW.chunk (l2 := []) hcl h (OpsW.nil (P := P) (nt := nt) (m := m) h2)
  rwa [List.append_nil] at this
theorem OpsW.weak {l : List Iop} {s' : St} (hw : Weak m s s') (h : OpsW P nt m l s' T) : OpsW P nt m l s T :=
  fun all ops hc A E a w hm hE hs K hK => h all ops hc A E a w hm hE (hw nt A E a w hm hE hs) K hK
theorem Wp.reg {l : List Iop} (h : OpsW P nt m l s (fun s' => Q .norm s'.clr)) : Wp P nt m (.reg none l) s Q := by
  intro code hc A E a w hm hE hs K hK
  obtain ⟨id, ops, draw, rfl, h1, h2⟩ := compC_reg hc
  rcases h2 with ⟨rfl, _⟩ | ⟨_, q, h3, _⟩
  · exact wp_region_list (h ops ops.toList h1 A E a w hm hE hs K fun s' a' w' hq hs' => hK .norm _ a' w' hq (evOps_loc (s1 := s') hs'))
  · cases h3
theorem Wp.regd {l : List Iop} {k : List (Nat × Nat)} (hP : P.follows .mixedOrders = true) {c : Cfg} (hcP : c.P = P) (hcl : Sound P cl) (h : drawA c cl nt k l s = some s1) (h2 : Q .norm s1.clr) : Wp P nt m (.reg (some k) l) s Q := by
  intro code hc A E a w hm hE hs K hK
  subst hcP
  obtain ⟨id, ops, draw, rfl, h1, h3⟩ := compC_reg hc
  rcases h3 with ⟨_, h4⟩ | ⟨rfl, q, h4, h5⟩
  · cases h4
  · obtain rfl := Option.some.inj h4
    exact drawOk hP cl hcl nt A E id ops l k s s1 a w K h1 h5 hs h fun a' w' hs' => hK .norm _ a' w' h2 (evOps_loc (s1 := s1) hs')
end

/-! ### Functions -/
/-- What a function answers, whoever asks. -/
def Spec (P : Program) (f : Nat) (args : List AV) (H : Heap) (m : Nat) (r : AV) (H' : Heap) (n' : Nat) : Prop :=
  (∃ fn, P.funcs[f]? = some fn ∧ (fn.name == "runtime.NumGoroutine") = false ∧ fn.body.isNone = false) ∧
  ∀ {A : Nat → Nat → Prop} {ρ : Rho} {w : World} {xs : Array Value}, Rep A ρ H m w → VRs w (UU A ρ H) ρ args xs.toList → Calls P f xs w (Ret A ρ H w m r H' n')
theorem Spec.of_callF {c : Cfg} {dr : Drawer} (hc : CfgOk c) (hd : DrawOk c dr) {k f : Nat} {args : List AV} {H H' : Heap} {m n' : Nat} {r : AV} (h : callF c dr k f args H m = some (r, H', n')) : Spec c.P f args H m r H' n' :=
  ⟨(sound_callF hc hd k).fn h, (sound_callF hc hd k).calls h⟩
open Classical in
/-- Callees of which so many answers are known. -/
def tab : List (Nat × List AV × Heap × Nat × (AV × Heap × Nat)) → Callee
  | [], _, _, _, _ => none
  | e :: r, f, args, H, m => if f = e.1 ∧ args = e.2.1 ∧ H = e.2.2.1 ∧ m = e.2.2.2.1 then some e.2.2.2.2 else tab r f args H m
theorem tab_nil (P : Program) : Sound P (tab []) := ⟨fun h => by simp [tab] at h, fun h => by simp [tab] at h⟩
theorem tab_cons {P : Program} {l : List (Nat × List AV × Heap × Nat × (AV × Heap × Nat))} {f m n' : Nat} {args : List AV} {H H' : Heap} {r : AV} (h : Spec P f args H m r H' n') (hl : Sound P (tab l)) : Sound P (tab ((f, args, H, m, (r, H', n')) :: l)) := by
  refine ⟨fun {f' a' H1 m1 x} hx => ?_, fun {f' a' H1 m1 r1 H2 n2} hx => ?_⟩
  · simp only [tab] at hx
    split at hx
    · rename_i hh
      obtain ⟨rfl, rfl, rfl, rfl⟩ := hh
      exact h.1
    · exact hl.fn hx
  · simp only [tab] at hx
    split at hx
    · rename_i hh
      obtain ⟨rfl, rfl, rfl, rfl⟩ := hh
      simp only [Option.some.injEq, Prod.mk.injEq] at hx
      obtain ⟨rfl, rfl, rfl⟩ := hx
      exact h.2
    · exact hl.calls hx
theorem tab_self (l : List (Nat × List AV × Heap × Nat × (AV × Heap × Nat))) (f m : Nat) (args : List AV) (H : Heap) (x : AV × Heap × Nat) : tab ((f, args, H, m, x) :: l) f args H m = some x := by simp [tab]
theorem tab_ne (l : List (Nat × List AV × Heap × Nat × (AV × Heap × Nat))) (f g m m' : Nat) (args args' : List AV) (H H' : Heap) (x : AV × Heap × Nat) (h : Nat.beq g f = false) : tab ((f, args, H, m, x) :: l) g args' H' m' = tab l g args' H' m' := by
  have : ¬ g = f := Nat.ne_of_beq_eq_false h
  simp [tab, this]
def FinQ (m : Nat) (res : List IR) (r : AV) (H' : Heap) (n' : Nat) : Ex → St → Prop := fun e s => retK m res (some (e, s)) = some (r, H', n')
theorem Spec.intro {P : Program} {f m n' : Nat} {args : List AV} {H H' : Heap} {r : AV} {i : IFn} {fn : Func} {V : List Nat} (hf : P.funcs[f]? = some fn) (hc : compF P V fn = some i) (hn : args.length ≤ i.nt)
    (hw : Wp P i.nt m i.body ⟨argEnv args i.live, [], H, m⟩ (FinQ m i.res r H' n')) : Spec P f args H m r H' n' := by
  obtain ⟨h3, body, h4, h5, h6, h7⟩ := compF_spec hc
  refine ⟨⟨fn, hf, h3, by rw [h4]; rfl⟩, fun {A ρ w xs} hr hx => ?_⟩
  have hst := SR_start hr hx hn i.live
  rw [h5] at hst
  refine calls_of_wp hf h4 ?_
  refine hw body h6 A ⟨ρ, H, w, m⟩ _ w rfl (fun j x hj => hr.ltR j x hj) (by rw [h5]; exact hst) _ fun e s1 a' w' hq hs => ?_
  unfold FinQ retK at hq
  split at hq
  · cases hq
  · rename_i e' s1' hne he
    simp only [Option.some.injEq, Prod.mk.injEq] at he
    obtain ⟨rfl, rfl⟩ := he
    split at hq
    · rename_i vs hvs
      simp only [Option.some.injEq, Prod.mk.injEq] at hq
      obtain ⟨rfl, rfl, rfl⟩ := hq
      obtain ⟨ρ1, q1, q2, q3, q4⟩ := hs.ex
      obtain ⟨ys, g1, g2⟩ := snd_res q1 q2 h7 hvs
      have hbody : ∃ v, (results fn a'.tmps).run P w' = .ok v w' ∧ Ret A ρ H w m (ren (pos (places s1.H m vs)) (one vs)) (renH (pos (places s1.H m vs)) s1.H) (places s1.H m vs).length (.returned v) w' := by
        refine ⟨_, run_results g1, ?_⟩
        obtain ⟨p1, p2⟩ := places_spec s1.H m vs
        obtain ⟨r1, r2, r3⟩ := Rep_pos (l := places s1.H m vs) q1
        refine ⟨rhoOf (places s1.H m vs) ρ1, r1, VR_pos q1 ?_, Ext_pos q3 (fun j x hj => hr.ltR j x hj) p2, q4.trans r3⟩
        have hlen := VRs_length g2
        match vs, ys, g2, hlen with
        | [], [], g2, _ => simp only [R.one, VR]; exact ⟨_, rfl, g2⟩
        | [v], [y], g2, _ =>
          simp only [R.one]
          simp only [VRs] at g2
          obtain ⟨x, r, e1, e2, e3⟩ := g2
          simp only [List.cons.injEq] at e1
          rw [e1.1]
          exact e2
        | v :: v2 :: r, y :: y2 :: r', g2, _ => simp only [R.one, VR]; exact ⟨_, rfl, g2⟩
      obtain ⟨v, b1, b2⟩ := hbody
      cases e with
      | norm => exact ⟨hs.defers, v, b1, b2⟩
      | ret => exact ⟨hs.defers, v, b1, b2⟩
      | out id => exact absurd rfl (hne id)
    · cases hq
  · rename_i he
    cases he
end Go.Proofs.Ytcmejocmohohpaa.R

/- States that tell less, in one form: slots forgotten, slices read as they are, empty slices as arrays, places named anew. -/
set_option linter.unusedVariables false
set_option linter.unusedSectionVars false
set_option linter.unusedSimpArgs false
noncomputable section
namespace Go.Proofs.Ytcmejocmohohpaa.R
open Go
/-- How a value is told in one form. virt: an empty slice as an array of one's own; frz: read as it is. -/
inductive WV where
  | virt (es : Nat)
  | frz
/-- kill: slots forgotten; at: a slot's value; cell: a cell of the box that a slot leads to; tidy: places named anew, in their order. -/
inductive WA where
  | kill (ts : List Nat)
  | at (t : Nat) (v : WV)
  | cell (t off : Nat) (v : WV)
  | tidy
def inB (t : Nat) : List Nat → Bool
  | [] => false
  | x :: r => Nat.beq x t || inB t r
def killE (ts : List Nat) : List (Nat × AV) → List (Nat × AV)
  | [] => []
  | (t, v) :: r => (if inB t ts = true then (t, .bad) else (t, v)) :: killE ts r
/-- A value in one form, the heap, the next place. -/
def wkV (k : WV) (v : AV) (H : Heap) (nx : Nat) : AV × Heap × Nat :=
  match k with
  | .frz => (frz H v, leakV H v, nx)
  | .virt es =>
    match v with
    | .nil => (.own es nx 0 0 false, (nx, .arr es [] 0) :: H, nx + 1)
    | .own es' id off len _ => (.own es' id off len false, H, nx)
    | v => (v, H, nx)
/-- The places in their order. -/
def canG (H : Heap) : Nat → Heap
  | 0 => []
  | n + 1 => match lk H n with | some o => canG H n ++ [(n, o)] | none => canG H n
def evW1 (m : Nat) (x : WA) (s : St) : Option St :=
  match x with
  | .kill ts => some { s with env := killE ts s.env }
  | .at t k =>
    match lk s.env t with
    | some v => match upd s.env t (wkV k v s.H s.nx).1 with | some e => some { s with env := e, H := (wkV k v s.H s.nx).2.1, nx := (wkV k v s.H s.nx).2.2 } | none => none
    | none => none
  | .cell t off k =>
    match lk s.env t with
    | some (.ptr id o) =>
      match lk s.H id with
      | some (.box cells) =>
        match cells[o + off]? with
        | some v => match upd (wkV k v s.H s.nx).2.1 id (.box (setAt cells (o + off) [(wkV k v s.H s.nx).1])) with | some H => some { s with H := H, nx := (wkV k v s.H s.nx).2.2 } | none => none
        | none => none
      | _ => none
    | _ => none
  | .tidy =>
    match s.tidy m with
    | ⟨e, l, H, n⟩ => some ⟨e, l, canG H n, n⟩
def evW (m : Nat) : List WA → St → Option St
  | [], s => some s
  | x :: r, s => match evW1 m x s with | some s' => evW m r s' | none => none

section
variable {A : Nat → Nat → Prop} {E : Entry} {nt : Nat} {a : Act} {w : World} {s s' : St} {ρ : Rho} {H H' : Heap} {nx : Nat}
theorem lk_killE (ts : List Nat) : ∀ (e : List (Nat × AV)) (t : Nat), lk (killE ts e) t = (lk e t).map (fun v => if inB t ts = true then .bad else v)
  | [], t => by simp [killE]
  | (k, v) :: r, t => by
    simp only [killE]
    by_cases h : inB k ts = true
    · rw [if_pos h, lk_cons, lk_cons]
      by_cases hk : k = t
      · subst hk; simp [h]
      · simp only [hk, if_false]
        exact lk_killE ts r t
    · rw [if_neg h, lk_cons, lk_cons]
      by_cases hk : k = t
      · subst hk; simp [h]
      · simp only [hk, if_false]
        exact lk_killE ts r t
theorem SR_kill (h : SR A E nt s a w) (ts : List Nat) : SR A E nt { s with env := killE ts s.env } a w := by
  obtain ⟨ρ, hr, hv, hx, hf⟩ := h.ex
  refine ⟨fun t x hx => ?_, h.size, h.defers, ρ, hr, fun t => ?_, hx, hf⟩
  · have hx : lk (killE ts s.env) t = some x := hx
    rw [lk_killE] at hx
    cases he : lk s.env t with
    | none => rw [he] at hx; cases hx
    | some y => exact h.disj t y he
  · have h1 := hv t
    rw [get_eq] at h1 ⊢
    show VR w _ ρ ((lk s.loc t).getD ((lk (killE ts s.env) t).getD .bad)) _
    rw [lk_killE]
    cases hl : lk s.loc t with
    | some y => rw [hl] at h1; exact h1
    | none =>
      rw [hl] at h1
      cases he : lk s.env t with
      | none => simp [VR]
      | some y =>
        rw [he] at h1
        simp only [Option.map_some, Option.getD_none, Option.getD_some] at h1 ⊢
        split
        · simp [VR]
        · exact h1
/-- A value in one form stands for the same. -/
theorem wkV_spec (hr : Rep A ρ H nx w) (k : WV) (v : AV) : Rep A ρ (wkV k v H nx).2.1 (wkV k v H nx).2.2 w ∧ (∀ b o, Wr ρ (wkV k v H nx).2.1 b o → Wr ρ H b o) ∧ nx ≤ (wkV k v H nx).2.2 ∧
    (∀ x, VR w (UU A ρ H) ρ v x → VR w (UU A ρ (wkV k v H nx).2.1) ρ (wkV k v H nx).1 x) ∧
    (∀ id cells, lk H id = some (.box cells) → lk (wkV k v H nx).2.1 id = some (.box cells)) := by
  cases k with
  | frz =>
    have hl := leakV_leaked v H
    refine ⟨Rep_leak hr hl, fun b o => Wr_leak hl, Nat.le_refl _, fun x hx => ?_, fun id cells h => ?_⟩
    · have := VR_frz hr v H (Leaked.refl _) (leakV H v) (Leaked.refl _) x hx
      exact VR_mono (Stay.refl _ _) _ _ _ _ (fun _ _ h => by simp [noRho] at h) this
    · obtain ⟨n, h1⟩ := hl.get id _ h
      simpa [leakOb, wkV] using h1
  | virt es =>
    cases v with
    | nil =>
      obtain ⟨h1, h2⟩ := Rep_none hr (.arr es [] 0)
      have hw : ∀ b o, Wr ρ ((nx, .arr es [] 0) :: H) b o → Wr ρ H b o := by
        intro b o hh
        obtain ⟨id, es', ob, g1, g2, g3⟩ := hh
        rcases lk_new g1 with ⟨rfl, rfl⟩ | ⟨h5, h6⟩
        · have := hr.ltR _ _ g2; omega
        · exact ⟨id, es', ob, h6, g2, g3⟩
      refine ⟨h1, hw, Nat.le_succ _, fun x hx => ?_, fun id cells h => ?_⟩
      · simp only [wkV, VR] at hx ⊢
        subst hx
        exact ⟨none, 0, rfl, Nat.le_refl _, by simp, .inl (by simp)⟩
      · have := hr.ltH _ _ h
        simp only [wkV, lk_cons]
        rw [if_neg (by omega)]
        exact h
    | own es' id off len ex =>
      refine ⟨hr, fun _ _ h => h, Nat.le_refl _, fun x hx => ?_, fun _ _ h => h⟩
      simp only [wkV, VR] at hx ⊢
      obtain ⟨B, c, h1, h2, h3, h4⟩ := hx
      exact ⟨B, c, h1, h2, by simp, h4⟩
    | _ => exact ⟨hr, fun _ _ h => h, Nat.le_refl _, fun x hx => hx, fun _ _ h => h⟩
theorem Stay_less_wr (h : ∀ b o, Wr ρ H' b o → Wr ρ H b o) : Stay w (UU A ρ H) w (UU A ρ H') := Stay.less fun b o hu => hu.imp_right (h b o)
theorem SR_at (h : SR A E nt s a w) {t : Nat} {k : WV} {v : AV} (hv0 : lk s.env t = some v) {e : List (Nat × AV)} (he : upd s.env t (wkV k v s.H s.nx).1 = some e) :
    SR A E nt { s with env := e, H := (wkV k v s.H s.nx).2.1, nx := (wkV k v s.H s.nx).2.2 } a w := by
  obtain ⟨ρ, hr, hv, hx, hf⟩ := h.ex
  obtain ⟨g1, g2, g3, g4, _⟩ := wkV_spec hr k v
  have hle := lk_upd he
  refine ⟨fun t' x hx => ?_, h.size, h.defers, ρ, g1, fun t' => ?_, ⟨hx.ext, hx.cl, Nat.le_trans hx.le g3⟩, hf.trans (Fr_less g2)⟩
  · have hx : lk e t' = some x := hx
    rw [hle] at hx
    by_cases ht : t' = t
    · subst ht; exact h.disj _ _ hv0
    · rw [if_neg ht] at hx; exact h.disj _ _ hx
  · have h1 := hv t'
    rw [get_eq] at h1 ⊢
    show VR w _ ρ ((lk s.loc t').getD ((lk e t').getD .bad)) _
    rw [hle]
    by_cases ht : t' = t
    · subst ht
      have hl := h.disj _ _ hv0
      rw [hl, hv0] at h1
      rw [hl, if_pos rfl]
      exact g4 _ h1
    · rw [if_neg ht]
      exact VR_mono (Stay_less_wr g2) _ _ _ _ (Ext.refl _) h1
theorem SR_cell (h : SR A E nt s a w) {id o : Nat} {k : WV} {v : AV} {cells : List AV} (hb : lk s.H id = some (.box cells)) (hc : cells[o]? = some v) {H : Heap} (hH : upd (wkV k v s.H s.nx).2.1 id (.box (setAt cells o [(wkV k v s.H s.nx).1])) = some H) :
    SR A E nt { s with H := H, nx := (wkV k v s.H s.nx).2.2 } a w := by
  obtain ⟨ρ, hr, hv, hx, hf⟩ := h.ex
  obtain ⟨g1, g2, g3, g4, g5⟩ := wkV_spec hr k v
  have hid := g5 id cells hb
  have hst : Stay w (UU A ρ s.H) w (UU A ρ (wkV k v s.H s.nx).2.1) := Stay_less_wr g2
  -- the cell's value stands for the same, where the box is one of the program's
  have hold : ∀ xs, VRs w (UU A ρ s.H) ρ cells xs → VRs w (UU A ρ (wkV k v s.H s.nx).2.1) ρ (setAt cells o [(wkV k v s.H s.nx).1]) xs := by
    intro xs hxs
    refine VRs_of_get (by rw [setAt_length]; exact VRs_length hxs) fun j b hbj => ?_
    rw [setAt_get] at hbj
    split at hbj
    · rename_i hcc
      simp only [List.length_cons, List.length_nil] at hcc
      have : j = o := by omega
      subst this
      simp at hbj
      subst hbj
      obtain ⟨x, h1, h2⟩ := VRs_get hxs hc
      exact ⟨x, h1, g4 x h2⟩
    · obtain ⟨x, h1, h2⟩ := VRs_get hxs hbj
      exact ⟨x, h1, VR_mono hst _ _ _ _ (Ext.refl _) h2⟩
  have hlk := lk_upd hH
  have hw : ∀ b o, Wr ρ H b o → Wr ρ (wkV k v s.H s.nx).2.1 b o := by
    rintro b' o' ⟨id', es', ob', q1, q2, q3⟩
    rw [hlk] at q1
    by_cases hi : id' = id
    · subst hi
      exact ⟨id', es', _, hid, q2, trivial⟩
    · rw [if_neg hi] at q1
      exact ⟨id', es', ob', q1, q2, q3⟩
  have old : ∀ k' o', lk H k' = some o' → ∃ o'', lk (wkV k v s.H s.nx).2.1 k' = some o'' := by
    intro k' o' hk
    rw [hlk] at hk
    by_cases hi : k' = id
    · subst hi; exact ⟨_, hid⟩
    · rw [if_neg hi] at hk; exact ⟨_, hk⟩
  have hrep : Rep A ρ H (wkV k v s.H s.nx).2.2 w :=
    { ob := fun i o' b' es' q1 q2 => by
        rw [hlk] at q1
        by_cases hi : i = id
        · subst hi
          rw [if_pos rfl] at q1
          obtain rfl := Option.some.inj q1
          obtain ⟨C, e, fr, k1, k2, k3⟩ := hr.ob _ _ b' es' hb q2
          exact ⟨C, e, fr, k1, k2, VRs_mono (Stay_less_wr hw) _ _ _ _ (Ext.refl _) (hold _ k3)⟩
        · rw [if_neg hi] at q1
          exact ObR_mono (Stay_less_wr hw) (Ext.refl _) rfl (g1.ob i o' b' es' q1 q2)
      inj := fun i j oi oj b' ei ej q1 q2 q3 q4 => by
        obtain ⟨o1, q5⟩ := old i oi q1
        obtain ⟨o2, q6⟩ := old j oj q2
        exact g1.inj i j o1 o2 b' ei ej q5 q6 q3 q4
      ltH := fun i o' q1 => by
        obtain ⟨o1, q5⟩ := old i o' q1
        exact g1.ltH i o1 q5
      ltR := g1.ltR
      ltA := g1.ltA
      apart := fun i o' b' es' off q1 q2 => by
        obtain ⟨o1, q5⟩ := old i o' q1
        exact g1.apart i o1 b' es' off q5 q2 }
  have hww : ∀ b o, Wr ρ H b o → Wr ρ s.H b o := fun b o hh => g2 b o (hw b o hh)
  refine ⟨h.disj, h.size, h.defers, ρ, hrep, fun t' => ?_, ⟨hx.ext, hx.cl, Nat.le_trans hx.le g3⟩, hf.trans (Fr_less hww)⟩
  have h1 := hv t'
  exact VR_mono (Stay_less_wr hww) _ _ _ _ (Ext.refl _) h1
theorem lk_app {α : Type} : ∀ (l l' : List (Nat × α)) (t : Nat), lk (l ++ l') t = (lk l t).or (lk l' t)
  | [], l', t => by simp
  | (k, v) :: r, l', t => by
    simp only [List.cons_append, lk_cons]
    split
    · rfl
    · exact lk_app r l' t
theorem lk_canG (H : Heap) : ∀ (n t : Nat), lk (canG H n) t = if t < n then lk H t else none
  | 0, t => by simp [canG]
  | n + 1, t => by
    simp only [canG]
    have ih := lk_canG H n t
    cases hn : lk H n with
    | none =>
      simp only
      rw [ih]
      by_cases h : t < n
      · rw [if_pos h, if_pos (by omega)]
      · rw [if_neg h]
        by_cases h2 : t = n
        · subst h2; simp [hn]
        · rw [if_neg (by omega)]
    | some o =>
      simp only
      rw [lk_app, ih, lk_cons]
      by_cases h : t < n
      · have h1 : t < n + 1 := by omega
        have h2 : ¬ n = t := by omega
        simp only [h, h1, h2, if_true, if_false, lk_nil]
        cases lk H t <;> rfl
      · by_cases h2 : t = n
        · subst h2; simp [hn]
        · have h1 : ¬ t < n + 1 := by omega
          have h3 : ¬ n = t := by omega
          simp [h, h1, h3]
theorem SR_can (h : SR A E nt s a w) : SR A E nt ⟨s.env, s.loc, canG s.H s.nx, s.nx⟩ a w := by
  obtain ⟨ρ, hr, hv, hx, hf⟩ := h.ex
  have hk : ∀ k o, lk (canG s.H s.nx) k = some o → lk s.H k = some o := by
    intro k o hk
    rw [lk_canG] at hk
    split at hk
    · exact hk
    · cases hk
  refine ⟨h.disj, h.size, h.defers, ρ, Rep_sub hr hk, fun t => ?_, hx, hf.trans (Fr_less fun b o => Wr_sub hk)⟩
  have h1 := hv t
  exact VR_mono (Stay_less_wr fun b o => Wr_sub hk) _ _ _ _ (Ext.refl _) h1
theorem weak1 {m : Nat} {x : WA} (h : evW1 m x s = some s') : Weak m s s' := by
  intro nt A E a w hm hE hs
  cases x with
  | kill ts =>
    simp only [evW1, Option.some.injEq] at h
    subst h
    exact SR_kill hs ts
  | «at» t k =>
    simp only [evW1] at h
    split at h
    · rename_i v hv
      split at h
      · rename_i e he
        simp only [Option.some.injEq] at h
        subst h
        exact SR_at hs hv he
      · cases h
    · cases h
  | cell t off k =>
    simp only [evW1] at h
    split at h
    · rename_i id o hv
      split at h
      · rename_i cells hb
        split at h
        · rename_i v hc
          split at h
          · rename_i H hH
            simp only [Option.some.injEq] at h
            subst h
            exact SR_cell hs hb hc hH
          · cases h
        · cases h
      · cases h
    · cases h
  | tidy =>
    simp only [evW1, Option.some.injEq] at h
    subst h
    subst hm
    exact SR_can (SR_tidy hE hs)
theorem weak {m : Nat} : ∀ {l : List WA} {s s' : St}, evW m l s = some s' → Weak m s s'
  | [], s, s', h => by
    simp only [evW, Option.some.injEq] at h
    subst h
    exact Weak.refl _ _
  | x :: r, s, s', h => by
    simp only [evW] at h
    split at h
    · rename_i s1 h1
      exact (weak1 h1).trans (weak h)
    · cases h
end
end Go.Proofs.Ytcmejocmohohpaa.R

/- From what a law's function answers to its row. -/
set_option linter.unusedVariables false
set_option linter.unusedSectionVars false
set_option linter.unusedSimpArgs false
noncomputable section
namespace Go.Proofs.Ytcmejocmohohpaa.R
open Go Go.ChangeShapes Go.WideShapes Go.ChangeAt Go.RowKit
section
variable {H : Type} {enc : TypeId × Value → H} {P : Program} {w : World} {tys : List TypeId} {U : Nat → Nat → Prop}
/-- What a law's row asks of the call: it answers true. -/
theorem law_spec {F : Nat} {fn : Func} {s : ChangeSpec} {fresh handsOn again : Bool} (hT : tysB P tys = true) (hp : ∀ t ∈ fn.params.toList, tys.contains t = true) (hl : laidOutB P = true) (hrd : ∀ t ∈ fn.params.toList, P.readableRec t = true ∧ t < P.types.size)
    {tb : TypeId} (hr : fn.resultTypes = #[tb]) (htb : P.underlying tb = some .bool) (hvars : s.vars = []) (hs : ∀ ds : List (DataW H), ds.length = fn.params.size → s.fn H ds = { results := [.lit (.bool true)], args := ds })
    (hev : ∀ avs, Args P fn.params.toList avs → ∃ H' n', Spec P F avs [] 0 (.bool true) H' n')
    {W : World} {base : Nat} {args : Array Value} {ds gs : List (DataW H)} {before : List MemPlace} {apart : Bool}
    (hval : ∀ (j : Nat) t v, fn.params[j]? = some t → args[j]? = some v → Value.okWide P W .any base t v)
    (hW : DataW.Whole enc P fn.params.toList s.vars apart W args.toList ds gs before) :
    Calls P F args W fun e W' => ∃ v, e = .returned v ∧ s.post enc P fn apart fresh handsOn again W args v W' := by
  have hW' := hW
  obtain ⟨p, q, hA, hV, _⟩ := hW
  rw [hvars] at hV
  obtain ⟨rfl, rfl⟩ := trodVars_none hV
  let U : Nat → Nat → Prop := UU (fun _ _ => False) noRho []
  have hU : ∀ b o, ¬ U b o := by
    rintro b o (h | ⟨id, es, ob, h1, _⟩)
    · exact h
    · simp at h1
  obtain ⟨avs, h1, h2⟩ := args_open hU hT hp (fun j t v h h' => hval j t v (by simpa using h) (by simpa using h')) hA
  obtain ⟨H', n', h3⟩ := hev avs h2
  have hrep : Rep (fun _ _ => False) noRho [] 0 W := Rep_start fun _ _ h => h.elim
  have hcall := h3.2 hrep h1
  have hdl : ∀ {ts : List TypeId} {vs : List Value} {ds : List (DataW H)} {ps : List MemPlace}, DataW.TrodAll enc P W 0 (fun _ => true) true ts vs ds ps → ds.length = ts.length := by
    intro ts
    induction ts with
    | nil => intro vs ds ps h; obtain ⟨_, rfl, _⟩ := trodAll_nil h; rfl
    | cons t ts ih =>
      intro vs ds ps h
      obtain ⟨v, vs', d, ds', p, q, rfl, rfl, rfl, _, h2⟩ := trodAll_cons h
      simp [ih h2]
  have hsd := hs (ds ++ []) (by simpa using hdl hA)
  refine Calls.mono hcall fun e W' he => ?_
  cases e with
  | panicked chain => exact he.elim
  | outgrown => exact he.elim
  | returned x =>
    obtain ⟨ρ', _, g2, _, g4⟩ := he
    simp only [VR] at g2
    subst g2
    refine ⟨_, rfl, post_of_below hvars hl hrd hW' (by rw [hsd]; simp) (by rw [hsd]) (fun b sp hd => ?_) (Below_of_fr g4) (ok_one hr rfl (okWide_bool_mk htb true))⟩
    rw [hsd, hr]
    exact trodAll_mk1 (shut_bool htb true)
end
end Go.Proofs.Ytcmejocmohohpaa.R

/- Typed values as abstract ones; what operations do to them. -/
set_option linter.unusedVariables false
set_option linter.unusedSectionVars false
set_option linter.unusedSimpArgs false
noncomputable section
namespace Go.Proofs.Ytcmejocmohohpaa.R
open Go
/-! ### Plain words of the models -/
def bnd {α β : Type} (x : Option α) (f : α → Option β) : Option β := match x with | some a => f a | none => none
theorem bndS {α β : Type} {x : Option α} {f : α → Option β} {r : β} (h : bnd x f = some r) : ∃ a, x = some a ∧ f a = some r := by
  cases x with
  | none => cases h
  | some a => exact ⟨a, rfl, h⟩
theorem bnd_some {α β : Type} (a : α) (f : α → Option β) : bnd (some a) f = f a := rfl
theorem ifS {α : Type} {b : Bool} {x y : Option α} {r : α} (h : (if b = true then x else y) = some r) : (b = true ∧ x = some r) ∨ (b = false ∧ y = some r) := by
  cases b
  · exact .inr ⟨rfl, by simpa using h⟩
  · exact .inl ⟨rfl, by simpa using h⟩
theorem reqS {α : Type} {b : Bool} {x : Option α} {r : α} (h : (if b = true then x else none) = some r) : b = true ∧ x = some r := by
  rcases ifS h with h | ⟨_, h⟩
  · exact h
  · cases h
theorem reqF {α : Type} {b : Bool} {x : Option α} {r : α} (h : (if b = true then none else x) = some r) : b = false ∧ x = some r := by
  rcases ifS h with ⟨_, h⟩ | h
  · cases h
  · exact h
theorem retS {α : Type} {a r : α} (h : some a = some r) : r = a := (Option.some.inj h).symm
/-- The element at a number. -/
def nthI {α : Type} (l : List α) (i : Int) : Option α := if 0 ≤ i then l[i.toNat]? else none
theorem nthI_some {α : Type} {l : List α} {i : Int} {x : α} (h : nthI l i = some x) : 0 ≤ i ∧ i.toNat < l.length ∧ l[i.toNat]? = some x := by
  unfold nthI at h
  split at h
  · rename_i h0
    refine ⟨h0, ?_, h⟩
    rcases Nat.lt_or_ge i.toNat l.length with h1 | h1
    · exact h1
    · rw [List.getElem?_eq_none h1] at h; cases h
  · cases h
/-- A piece of a list. -/
def sliceL {α : Type} (l : List α) (lo hi : Int) : Option (List α) := if 0 ≤ lo ∧ lo ≤ hi ∧ hi ≤ (l.length : Int) then some ((l.take hi.toNat).drop lo.toNat) else none
/-- A piece of a text. -/
def sliceS (s : ByteArray) (lo hi : Int) : Option ByteArray := if 0 ≤ lo ∧ lo ≤ hi ∧ hi ≤ (s.size : Int) then some (s.extract lo.toNat hi.toNat) else none
def nthS (s : ByteArray) (i : Int) : Option Int := if 0 ≤ i then (s.data.toList[i.toNat]?).map (fun b => (b.toNat : Int)) else none
def eqS (a b : ByteArray) : Bool := a.toList == b.toList
def ltS (a b : ByteArray) : Bool := Op.bytesLess a.toList b.toList
/-- Room for so many. -/
def capB (n : Nat) : Bool := decide (n ≤ limN)
def catB (a b : ByteArray) : Bool := decide (a.size + b.size ≤ 1099511627776)
def bytesI (s : ByteArray) : List Int := s.data.toList.map (fun b => (b.toNat : Int))
def strI (l : List Int) : ByteArray := ⟨(l.map fun n => UInt8.ofNat n.toNat).toArray⟩

/-! ### Cells of typed values -/
class Row {α : Type} (c : α → List AV) (n : outParam Nat) : Prop where
  len : ∀ x, (c x).length = n
  cell : ∀ x, cellBs (c x) = true
  free : ∀ x, idFrees (c x) = true
def ci (k : IntKind) (n : Int) : List AV := [.int k n]
def cb (b : Bool) : List AV := [.bool b]
def cs (s : ByteArray) : List AV := [.str s]
def sl {α : Type} (c : α → List AV) (l : List α) : AV := canI (l.map c)
def cl {α : Type} (c : α → List AV) (l : List α) : List AV := [sl c l]
instance (k : IntKind) : Row (ci k) 1 := ⟨fun _ => rfl, fun _ => rfl, fun _ => rfl⟩
instance : Row cb 1 := ⟨fun _ => rfl, fun _ => rfl, fun _ => rfl⟩
instance : Row cs 1 := ⟨fun _ => rfl, fun _ => rfl, fun _ => rfl⟩
instance {α : Type} (c : α → List AV) : Row (cl c) 1 := ⟨fun _ => rfl, fun _ => rfl, fun _ => rfl⟩
section
variable {α : Type} {c : α → List AV} {n : Nat}
theorem esOf_map [h : Row c n] {l : List α} : l = [] ∨ esOf (l.map c) = n := by
  cases l with
  | nil => exact .inl rfl
  | cons x r => exact .inr (h.len x)
theorem lenl_sl (l : List α) : lenlAV (sl c l) = some (.int .i64 l.length) := by simp [sl, canI, lenlAV, intV]
theorem frz_sl (H : Heap) (l : List α) : frz H (sl c l) = sl c l := rfl
theorem leak_sl (H : Heap) (l : List α) : leakV H (sl c l) = H := rfl
theorem ren_sl (f : Nat → Option Nat) (l : List α) : ren f (sl c l) = sl c l := rfl
theorem cell_sl (l : List α) : cellB (sl c l) = true := rfl
theorem idf_sl (l : List α) : idFree (sl c l) = true := rfl
theorem pl_sl (l : List α) : plainB (sl c l) = false := rfl
theorem cells_sl (l : List α) : cellsOf (sl c l) = some [sl c l] := rfl
theorem reach_sl (H : Heap) (k : Nat) (l : List α) (todo : List AV) (acc : List Nat) : reach H (k + 1) (sl c l :: todo) acc = reach H k todo acc := by simp [sl, canI, reach]
theorem rows_sl [h : Row c n] (H : Heap) (l : List α) : rowsOf n H (sl c l) = some (l.map c) := by
  have : esFit n (esOf (l.map c)) (l.map c) = true := by
    rcases esOf_map (c := c) (l := l) with h | h
    · subst h; rfl
    · rw [h]; simp [esFit]
  simp only [sl, canI, rowsOf, this, if_true]
theorem src_sl [h : Row c n] (H : Heap) (l : List α) : srcRows n H (sl c l) = some (l.map c) := rows_sl H l
theorem ias_sl [h : Row c n] {l : List α} {k : IntKind} {i : Int} {x : α} (hx : nthI l i = some x) : iasAV n (sl c l) (.int k i) = some (.iptr (c x) 0) := by
  obtain ⟨h0, h1, h2⟩ := nthI_some hx
  have he : esOf (l.map c) = n := by
    rcases esOf_map (c := c) (l := l) with h | h
    · subst h; simp at h1
    · exact h
  simp [sl, canI, iasAV, he, h0, h2]
theorem sl_slice [h : Row c n] (l : List α) (lo hi : Nat) : (.imm (esOf (((l.map c).take hi).drop lo)) (((l.map c).take hi).drop lo) false : AV) = sl c ((l.take hi).drop lo) := by
  simp [sl, canI, List.map_take, List.map_drop]
theorem sll_sl [h : Row c n] {l l' : List α} {k k' : IntKind} {lo hi : Int} (hl : sliceL l lo hi = some l') : sllAV n (sl c l) (some (.int k lo)) (some (.int k' hi)) none = some (sl c l') := by
  unfold sliceL at hl
  split at hl
  · rename_i hc
    obtain rfl := Option.some.inj hl
    have hf : esFit n (esOf (l.map c)) (l.map c) = true := by
      rcases esOf_map (c := c) (l := l) with h | h
      · subst h; rfl
      · rw [h]; simp [esFit]
    have hb : bnds (l.map c).length false (some (.int k lo)) (some (.int k' hi)) none = some (lo.toNat, hi.toNat, false) := by
      simp [bnds, optI, asI, hc.1, hc.2.1, hc.2.2]
    have := sl_slice (c := c) l lo.toNat hi.toNat
    simp only [sl, canI, sllAV, hf, if_true, hb]
    simp only [sl, canI] at this
    rw [this]
  · cases hl
theorem sll_slL [h : Row c n] {l l' : List α} {k : IntKind} {lo : Int} (hl : sliceL l lo l.length = some l') : sllAV n (sl c l) (some (.int k lo)) none none = some (sl c l') := by
  unfold sliceL at hl
  split at hl
  · rename_i hc
    obtain rfl := Option.some.inj hl
    have hf : esFit n (esOf (l.map c)) (l.map c) = true := by
      rcases esOf_map (c := c) (l := l) with h | h
      · subst h; rfl
      · rw [h]; simp [esFit]
    have hb : bnds (l.map c).length false (some (.int k lo)) none none = some (lo.toNat, l.length, false) := by
      simp [bnds, optI, asI, hc.1, hc.2.1]
    have := sl_slice (c := c) l lo.toNat l.length
    simp only [sl, canI, sllAV, hf, if_true, hb]
    simp only [sl, canI] at this
    rw [this]
    simp
  · cases hl
theorem sll_slH [h : Row c n] {l l' : List α} {k : IntKind} {hi : Int} (hl : sliceL l 0 hi = some l') : sllAV n (sl c l) none (some (.int k hi)) none = some (sl c l') := by
  unfold sliceL at hl
  split at hl
  · rename_i hc
    obtain rfl := Option.some.inj hl
    have hf : esFit n (esOf (l.map c)) (l.map c) = true := by
      rcases esOf_map (c := c) (l := l) with h | h
      · subst h; rfl
      · rw [h]; simp [esFit]
    have hb : bnds (l.map c).length false none (some (.int k hi)) none = some (0, hi.toNat, false) := by
      simp [bnds, optI, asI, hc.2.1, hc.2.2]
    have := sl_slice (c := c) l 0 hi.toNat
    simp only [sl, canI, sllAV, hf, if_true, hb]
    simp only [sl, canI] at this
    rw [this]
    simp
  · cases hl
theorem sll_empty (H : AV) (l : List α) (size : Nat) [h : Row c size] : sllAV size (sl c l) (some (.int .i64 0)) (some (.int .i64 0)) (some (.int .i64 0)) = some (.imm 0 [] true) := by
  have hf : esFit size (esOf (l.map c)) (l.map c) = true := by
    rcases esOf_map (c := c) (l := l) with h | h
    · subst h; rfl
    · rw [h]; simp [esFit]
  simp only [sl, canI, sllAV, hf, if_true]
  simp [bnds, optI, asI, esOf]
end
theorem ixs_nth {s : ByteArray} {k : IntKind} {i x : Int} (h : nthS s i = some x) : ixsAV (.str s) (.int k i) = some (.int .u8 x) := by
  unfold nthS at h
  split at h
  · rename_i h0
    simp only [Option.map_eq_some_iff] at h
    obtain ⟨b, h1, rfl⟩ := h
    simp [ixsAV, h0, h1]
  · cases h
theorem sls_sl {s s' : ByteArray} {k k' : IntKind} {lo hi : Int} (h : sliceS s lo hi = some s') : slsAV (.str s) (some (.int k lo)) (some (.int k' hi)) = some (.str s') := by
  unfold sliceS at h
  split at h
  · rename_i hc
    obtain rfl := Option.some.inj h
    simp [slsAV, bnds, optI, asI, hc.1, hc.2.1, hc.2.2]
  · cases h
theorem sls_slL {s s' : ByteArray} {k : IntKind} {lo : Int} (h : sliceS s lo s.size = some s') : slsAV (.str s) (some (.int k lo)) none = some (.str s') := by
  unfold sliceS at h
  split at h
  · rename_i hc
    obtain rfl := Option.some.inj h
    simp [slsAV, bnds, optI, asI, hc.1, hc.2.1]
  · cases h
theorem sls_slH {s s' : ByteArray} {k : IntKind} {hi : Int} (h : sliceS s 0 hi = some s') : slsAV (.str s) none (some (.int k hi)) = some (.str s') := by
  unfold sliceS at h
  split at h
  · rename_i hc
    obtain rfl := Option.some.inj h
    simp [slsAV, bnds, optI, asI, hc.2.1, hc.2.2]
  · cases h
theorem b2s_sl (H : Heap) (l : List Int) : b2sAV H (sl (ci .u8) l) = some (.str (strI l)) := by
  have h : ∀ l : List Int, bytesOf (l.map (ci .u8)) = some (l.map fun n => UInt8.ofNat n.toNat) := by
    intro l
    induction l with
    | nil => rfl
    | cons x r ih => simp only [List.map_cons, ci] at ih ⊢; simp [bytesOf, ih]
  unfold b2sAV
  rw [rows_sl]
  simp [h, strI]
theorem byteRows_eq (s : ByteArray) : byteRows s = (bytesI s).map (ci .u8) := by
  simp [byteRows, bytesI, ci, byteRow]
theorem bstr_eql (a b : ByteArray) : binStr .eql a b = some (.bool (eqS a b)) := truV_eq _
theorem bstr_neq (a b : ByteArray) : binStr .neq a b = some (.bool (!eqS a b)) := truV_eq _
theorem bstr_lss (a b : ByteArray) : binStr .lss a b = some (.bool (ltS a b)) := truV_eq _
theorem bstr_leq (a b : ByteArray) : binStr .leq a b = some (.bool (ltS a b || eqS a b)) := truV_eq _
theorem bstr_gtr (a b : ByteArray) : binStr .gtr a b = some (.bool (!(ltS a b || eqS a b))) := truV_eq _
theorem bstr_geq (a b : ByteArray) : binStr .geq a b = some (.bool (!ltS a b)) := truV_eq _
theorem toList_inj {a b : ByteArray} (h : a.toList = b.toList) : a = b := by
  have : a.data.toList = b.data.toList := by rw [← ByteArray.toList_eq, ← ByteArray.toList_eq, h]
  cases a; cases b
  simp at this
  rw [this]
theorem eqS_iff {a b : ByteArray} : eqS a b = true ↔ a = b := by
  unfold eqS
  rw [beq_iff_eq]
  exact ⟨toList_inj, fun h => by rw [h]⟩
theorem eqS_dec (a b : ByteArray) : eqS a b = decide (a = b) := by
  rw [Bool.eq_iff_iff, eqS_iff]; simp
end Go.Proofs.Ytcmejocmohohpaa.R

/- More fuel answers the same. -/
set_option linter.unusedVariables false
set_option linter.unusedSectionVars false
set_option linter.unusedSimpArgs false
noncomputable section
namespace Go.Proofs.Ytcmejocmohohpaa.R
open Go
def CLe (cl cl' : Callee) : Prop := ∀ f args H m r, cl f args H m = some r → cl' f args H m = some r
section
variable {c : Cfg} {cl cl' : Callee} (hcl : CLe cl cl')
include hcl
theorem callAV_mono {s : St} {f : Nat} {args : List AV} {r : AV × St} (h : callAV c cl s f args = some r) : callAV c cl' s f args = some r := by
  unfold callAV at h ⊢
  split at h
  · rename_i hf
    rw [if_pos hf]
    split at h
    · rename_i r1 H1 n1 h1
      rw [hcl _ _ _ _ _ h1]
      exact h
    · cases h
  · rename_i hf
    rw [if_neg hf]
    simp only at h ⊢
    split at h
    · rename_i r1 H1 n1 h1
      rw [hcl _ _ _ _ _ h1]
      exact h
    · cases h
theorem evOp_mono {s : St} {ip : IP} {r : AV × St} (h : evOp c cl s ip = some r) : evOp c cl' s ip = some r := by
  cases ip
  case call f args => exact callAV_mono hcl h
  case callv g args =>
    simp only [evOp, callvAV] at h ⊢
    split at h
    · exact callAV_mono hcl h
    · cases h
  all_goals exact h
theorem evIO_mono {nt : Nat} {o : Iop} {s r : St} (h : evIO c cl nt o s = some r) : evIO c cl' nt o s = some r := by
  obtain ⟨hd, ⟨hw, v, s1, hv, rfl⟩ | ⟨hw, rfl⟩⟩ := evIO_inv h
  · exact evIO_yes hd hw (evOp_mono hcl hv)
  · exact evIO_no hd hw
theorem evOps_mono {nt : Nat} : ∀ {l : List Iop} {s r : St}, evOps c cl nt l s = some r → evOps c cl' nt l s = some r
  | [], s, r, h => h
  | o :: l, s, r, h => by
    rw [evOps_cons] at h ⊢
    cases h1 : evIO c cl nt o s with
    | none => rw [h1, andThen_none] at h; cases h
    | some s1 =>
      rw [h1, andThen_some] at h
      rw [evIO_mono hcl h1, andThen_some]
      exact evOps_mono h
theorem evU_mono {nt : Nat} {k : List (Nat × Nat)} {base : Nat} : ∀ {l : List (Nat × Iop)} {s r : St}, evU c cl nt k base l s = some r → evU c cl' nt k base l s = some r
  | [], s, r, h => h
  | (i, o) :: l, s, r, h => by
    simp only [evU] at h ⊢
    cases h1 : evD c cl nt k base i o s with
    | none => rw [h1] at h; cases h
    | some s1 =>
      rw [h1] at h
      obtain ⟨g1, g2⟩ := evD_inv h1
      rw [evD_mk (c := c) (cl := cl') g1 (evIO_mono hcl g2)]
      exact evU_mono h
theorem drawA_mono {nt : Nat} {k : List (Nat × Nat)} {l : List Iop} {s r : St} (h : drawA c cl nt k l s = some r) : drawA c cl' nt k l s = some r := by
  unfold drawA at h ⊢
  rw [cond_eq_ite] at h ⊢
  split at h
  · rename_i hb
    rw [if_pos hb]
    cases h1 : evDs c cl nt k s.nx l 0 s with
    | none => rw [h1] at h; cases h
    | some s1 =>
      have h2 : evDs c cl' nt k s.nx l 0 s = some s1 := by
        rw [evDs_eq] at h1 ⊢
        exact evU_mono hcl h1
      rw [h1] at h
      rw [h2]
      exact h
  · cases h
end
def RLe (f g : St → Run) : Prop := ∀ s r, f s = some r → g s = some r
theorem seqK_mono {x x' : Run} {f f' : St → Run} (hx : ∀ r, x = some r → x' = some r) (hf : RLe f f') {r : Ex × St} (h : seqK x f = some r) : seqK x' f' = some r := by
  cases x with
  | none => rw [seqK_none] at h; cases h
  | some p =>
    obtain ⟨e, s⟩ := p
    rw [hx _ rfl]
    cases e with
    | norm => exact hf _ _ h
    | out id => exact h
    | ret => exact h
theorem evLoop_mono {m : Nat} {body body' : St → Run} (hb : RLe body body') : ∀ {n n' n0 : Nat} {s : St} {r : Ex × St}, n ≤ n' → evLoop m body n n0 s = some r → evLoop m body' n' n0 s = some r
  | 0, n', n0, s, r, hn, h => by rw [evLoop_zero] at h; cases h
  | n + 1, 0, n0, s, r, hn, h => by omega
  | n + 1, n' + 1, n0, s, r, hn, h => by
    rw [evLoop_succ] at h ⊢
    exact seqK_mono (fun r hr => hb _ r hr) (fun s r hr => evLoop_mono hb (by omega) hr) h
theorem evC_mono {c : Cfg} {cl cl' : Callee} (hcl : CLe cl cl') {rg rg' : List (Nat × Nat) → List Iop → St → Option St} (hrg : ∀ k l s r, rg k l s = some r → rg' k l s = some r) {nt m n n' : Nat} (hn : n ≤ n') : ∀ (ic : IC), RLe (evC c cl rg nt m n ic) (evC c cl' rg' nt m n' ic) := by
  intro ic
  induction ic with
  | skip => intro s r h; exact h
  | reg draw ops =>
    intro s r h
    cases draw with
    | none =>
      rw [evC_reg] at h ⊢
      cases h1 : evOps c cl nt ops s with
      | none => rw [h1, regK_none] at h; cases h
      | some s1 =>
        rw [h1] at h
        rw [evOps_mono hcl h1]
        exact h
    | some k =>
      rw [evC_regd] at h ⊢
      cases h1 : rg k ops s with
      | none => rw [h1, regK_none] at h; cases h
      | some s1 =>
        rw [h1] at h
        rw [hrg _ _ _ _ h1]
        exact h
  | seq a b iha ihb =>
    intro s r h
    rw [evC_seq] at h ⊢
    exact seqK_mono (fun r hr => iha s r hr) ihb h
  | cond x a b iha ihb =>
    intro s r h
    rw [evC_cond] at h ⊢
    cases hx : s.ev x with
    | bool t =>
      rw [hx, condK_bool] at h
      rw [condK_bool]
      cases t with
      | true => exact iha s r h
      | false => exact ihb s r h
    | _ => rw [hx] at h; simp [condK] at h
  | block id b ih =>
    intro s r h
    rw [evC_block] at h ⊢
    cases h1 : evC c cl rg nt m n b s with
    | none => rw [h1, blockK_none] at h; cases h
    | some p =>
      rw [h1] at h
      rw [ih s p h1]
      exact h
  | loop b ih =>
    intro s r h
    rw [evC_loop] at h ⊢
    exact evLoop_mono ih hn h
  | out id => intro s r h; exact h
  | ret => intro s r h; exact h
theorem callF_mono1 {c : Cfg} : ∀ k, CLe (callF c drawA k) (callF c drawA (k + 1))
  | 0 => fun f args H m r h => by simp [callF] at h
  | k + 1 => fun f args H m r h => by
    have ih := callF_mono1 (c := c) k
    have e : ∀ k, callF c drawA (k + 1) f args H m = match c.fn f with
      | some fn => if args.length ≤ fn.nt then retK m fn.res (evC c (callF c drawA k) (drawA c (callF c drawA k) fn.nt) fn.nt m k fn.body ⟨argEnv args fn.live, [], H, m⟩) else none
      | none => none := fun k => rfl
    rw [e] at h ⊢
    cases hf : c.fn f with
    | none => rw [hf] at h; cases h
    | some fn =>
      rw [hf] at h
      simp only at h ⊢
      split at h
      · rename_i hn
        rw [if_pos hn]
        cases h1 : evC c (callF c drawA k) (drawA c (callF c drawA k) fn.nt) fn.nt m k fn.body ⟨argEnv args fn.live, [], H, m⟩ with
        | none => rw [h1] at h; simp [retK] at h
        | some p =>
          rw [h1] at h
          rw [evC_mono ih (fun k l s r hr => drawA_mono ih hr) (Nat.le_succ k) fn.body _ p h1]
          exact h
      · cases h
theorem callF_mono {c : Cfg} {k k' : Nat} (hk : k ≤ k') : CLe (callF c drawA k) (callF c drawA k') := by
  induction hk with
  | refl => exact fun f args H m r h => h
  | step _ ih => exact fun f args H m r h => callF_mono1 _ f args H m r (ih f args H m r h)
/-- What a function answers, with enough fuel: a function of frozen arguments. -/
def Ev (c : Cfg) (f : Nat) (args : List AV) (r : AV) : Prop := ∃ K, ∀ k, K ≤ k → callF c drawA k f args [] 0 = some (r, [], 0)
theorem Ev.of {c : Cfg} {k f : Nat} {args : List AV} {r : AV} (h : callF c drawA k f args [] 0 = some (r, [], 0)) : Ev c f args r := ⟨k, fun k' hk => callF_mono hk _ _ _ _ _ h⟩
end Go.Proofs.Ytcmejocmohohpaa.R

/- More equations for simp: guards, results, frozen calls. -/
set_option linter.unusedVariables false
set_option linter.unusedSectionVars false
set_option linter.unusedSimpArgs false
noncomputable section
namespace Go.Proofs.Ytcmejocmohohpaa.R
open Go
def wantV (v : AV) (want : Bool) : Option Bool :=
  match v with
  | .bool b => some (b == want)
  | .un => some false
  | _ => none
theorem wantA_some (s : St) (d : Nat) (want : Bool) : wantA s (some (d, want)) = wantV (s.get d) want := rfl
theorem wantA_none (s : St) : wantA s none = some true := rfl
theorem wantV_bool (b want : Bool) : wantV (.bool b) want = some (b == want) := rfl
theorem wantV_un (want : Bool) : wantV .un want = some false := rfl
theorem eqb_bool (ng a b : Bool) : eqbAV ng (.bool a) (.bool b) = some (.bool (if ng then !(a == b) else a == b)) := by simp [eqbAV, truV_eq]
theorem nt_bool (a : Bool) : ntAV (.bool a) = some (.bool (!a)) := by simp [ntAV, truV_eq]
theorem ngt_int (k : IntKind) (n : Int) : ngtAV (.int k n) = some (.int k (k.wrap (0 - n))) := by simp [ngtAV, numV_eq]
theorem cvt_int (k k' : IntKind) (n : Int) : cvtAV k (.int k' n) = some (.int k (k.wrap n)) := by simp [cvtAV, numV_eq]
theorem pick_bool (b : Bool) (x y : AV) : pickAV (.bool b) x y = some (if b = true then x else y) := rfl
theorem bin_add (k : IntKind) (a b : Int) : binInt .add k a b = some (.int k (k.wrap (a + b))) := numV_eq _ _
theorem bin_sub (k : IntKind) (a b : Int) : binInt .sub k a b = some (.int k (k.wrap (a - b))) := numV_eq _ _
theorem bin_mul (k : IntKind) (a b : Int) : binInt .mul k a b = some (.int k (k.wrap (a * b))) := numV_eq _ _
theorem bin_quo (k : IntKind) (a b : Int) : binInt .quo k a b = if b = 0 then none else some (.int k (k.wrap (a.tdiv b))) := by simp [binInt, numV_eq]
theorem bin_rem (k : IntKind) (a b : Int) : binInt .rem k a b = if b = 0 then none else some (.int k (a.tmod b)) := by simp [binInt, numV_eq]
theorem bin_eql (k : IntKind) (a b : Int) : binInt .eql k a b = some (.bool (decide (a = b))) := by
  have : (a == b) = decide (a = b) := by by_cases h : a = b <;> simp [h]
  simp only [binInt, truV_eq, this]
theorem bin_neq (k : IntKind) (a b : Int) : binInt .neq k a b = some (.bool (decide (a ≠ b))) := by
  have : (a != b) = decide (a ≠ b) := by by_cases h : a = b <;> simp [h]
  simp only [binInt, truV_eq, this]
theorem bin_lss (k : IntKind) (a b : Int) : binInt .lss k a b = some (.bool (decide (a < b))) := truV_eq _
theorem bin_leq (k : IntKind) (a b : Int) : binInt .leq k a b = some (.bool (decide (a ≤ b))) := truV_eq _
theorem bin_gtr (k : IntKind) (a b : Int) : binInt .gtr k a b = some (.bool (decide (b < a))) := truV_eq _
theorem bin_geq (k : IntKind) (a b : Int) : binInt .geq k a b = some (.bool (decide (b ≤ a))) := truV_eq _

/-! ### Results -/
mutual
theorem ren_plain (f : Nat → Option Nat) : ∀ v : AV, plainB v = true → ren f v = v
  | .bool _, _ => rfl
  | .int _ _, _ => rfl
  | .str _, _ => rfl
  | .nil, _ => rfl
  | .oth _, _ => rfl
  | .agg cs, h => by simp only [ren]; rw [rens_plain f cs (by simpa [plainB] using h)]
  | .tup cs, h => by simp only [ren]; rw [rens_plain f cs (by simpa [plainB] using h)]
  | .bad, h => by simp [plainB] at h
  | .un, h => by simp [plainB] at h
  | .imm .., h => by simp [plainB] at h
  | .own .., h => by simp [plainB] at h
  | .ptr .., h => by simp [plainB] at h
  | .eptr .., h => by simp [plainB] at h
  | .iptr .., h => by simp [plainB] at h
  | .fn .., h => by simp [plainB] at h
theorem rens_plain (f : Nat → Option Nat) : ∀ vs : List AV, plainBs vs = true → rens f vs = vs
  | [], _ => rfl
  | v :: r, h => by
    simp only [plainBs, Bool.and_eq_true] at h
    simp only [rens]
    rw [ren_plain f v h.1, rens_plain f r h.2]
end
mutual
theorem frz_plain (H : Heap) : ∀ v : AV, plainB v = true → frz H v = v
  | .bool _, _ => rfl
  | .int _ _, _ => rfl
  | .str _, _ => rfl
  | .nil, h => by simp [plainB] at h
  | .oth _, _ => rfl
  | .agg cs, h => by simp only [frz]; rw [frzs_plain H cs (by simpa [plainB] using h)]
  | .tup cs, h => by simp only [frz]; rw [frzs_plain H cs (by simpa [plainB] using h)]
  | .bad, h => by simp [plainB] at h
  | .un, h => by simp [plainB] at h
  | .imm .., h => by simp [plainB] at h
  | .own .., h => by simp [plainB] at h
  | .ptr .., h => by simp [plainB] at h
  | .eptr .., h => by simp [plainB] at h
  | .iptr .., h => by simp [plainB] at h
  | .fn .., h => by simp [plainB] at h
theorem frzs_plain (H : Heap) : ∀ vs : List AV, plainBs vs = true → frzs H vs = vs
  | [], _ => rfl
  | v :: r, h => by
    simp only [plainBs, Bool.and_eq_true] at h
    simp only [frzs]
    rw [frz_plain H v h.1, frzs_plain H r h.2]
end
theorem plainBs_append : ∀ {a b : List AV}, plainBs a = true → plainBs b = true → plainBs (a ++ b) = true
  | [], b, _, h => h
  | x :: a, b, h, h' => by
    simp only [plainBs, List.cons_append, Bool.and_eq_true] at h ⊢
    exact ⟨h.1, plainBs_append h.2 h'⟩
theorem reach_plain (H : Heap) : ∀ (n : Nat) (vs : List AV), plainBs vs = true → reach H n vs [] = []
  | 0, vs, _ => by cases vs <;> rfl
  | n + 1, [], _ => rfl
  | n + 1, v :: r, h => by
    simp only [plainBs, Bool.and_eq_true] at h
    cases v <;> simp [plainB] at h <;> simp only [reach]
    case agg cs => exact reach_plain H n _ (plainBs_append h.1 h.2)
    case tup cs => exact reach_plain H n _ (plainBs_append h.1 h.2)
    all_goals exact reach_plain H n r h
theorem renH_nil : ∀ H : Heap, renH (pos []) H = []
  | [] => rfl
  | (i, o) :: r => by simp only [renH, pos_nil]; exact renH_nil r
theorem plain_one {vs : List AV} (h : plainBs vs = true) : plainB (one vs) = true := by
  match vs, h with
  | [], _ => rfl
  | [v], h => simp only [plainBs, Bool.and_eq_true] at h; exact h.1
  | _ :: _ :: _, h => exact h
/-- The results of a function that answers plain values. -/
def retP (s : St) : Option (List AV) → Option (AV × Heap × Nat)
  | some vs => if plainBs vs = true then some (one vs, [], 0) else (match places s.H 0 vs with | l => some (ren (pos l) (one vs), renH (pos l) s.H, l.length))
  | none => none
theorem retK_eq (res : List IR) (s : St) {e : Ex} (he : e = .ret ∨ e = .norm) : retK 0 res (some (e, s)) = retP s (resAV s res) := by
  have h1 : retK 0 res (some (e, s)) = match resAV s res with
      | some vs => (match places s.H 0 vs with | l => some (ren (pos l) (one vs), renH (pos l) s.H, l.length))
      | none => none := by rcases he with rfl | rfl <;> rfl
  rw [h1]
  cases hr : resAV s res with
  | none => rfl
  | some vs =>
    simp only [retP]
    split
    · rename_i hp
      have : places s.H 0 vs = [] := by
        unfold places
        simp only [List.range_zero, List.flatMap_nil, List.nil_append]
        exact reach_plain s.H fuelR vs hp
      simp only [this, ren_plain _ _ (plain_one hp), renH_nil, List.length_nil]
    · rfl
theorem retK_ret (res : List IR) (s : St) : retK 0 res (some (.ret, s)) = retP s (resAV s res) := retK_eq res s (.inl rfl)
theorem retK_norm (res : List IR) (s : St) : retK 0 res (some (.norm, s)) = retP s (resAV s res) := retK_eq res s (.inr rfl)
theorem retP_plain (s : St) (vs : List AV) (h : plainBs vs = true) : retP s (some vs) = some (one vs, [], 0) := by simp [retP, h]
theorem retK_ite (m : Nat) (res : List IR) (p : Prop) [Decidable p] (a b : Run) : retK m res (if p then a else b) = if p then retK m res a else retK m res b := by split <;> rfl
theorem le_of_ble {a b : Nat} (h : Nat.ble a b = true) : a ≤ b := Nat.le_of_ble_eq_true h
theorem ext_tup (i : Nat) (vs : List AV) : extAV i (.tup vs) = vs[i]? := rfl
theorem fld_agg (a : Bool) (size off : Nat) (cs : List AV) : fldAV a size off (.agg cs) = part a size cs off := rfl
theorem part_agg (size : Nat) (cs : List AV) (off : Nat) : part true size cs off = if off + size ≤ cs.length then some (.agg ((cs.drop off).take size)) else none := rfl
def partK : Option AV → Option AV
  | some v => if cellB v = true then some v else none
  | none => none
theorem part_one (size : Nat) (cs : List AV) (off : Nat) : part false size cs off = partK cs[off]? := rfl
theorem partK_some (v : AV) : partK (some v) = if cellB v = true then some v else none := rfl
theorem fa_ptr (off id o : Nat) : faAV off (.ptr id o) = some (.ptr id (o + off)) := rfl
theorem fa_eptr (off id i g : Nat) : faAV off (.eptr id i g) = some (.eptr id i (g + off)) := rfl
theorem fa_iptr (off : Nat) (row : List AV) (g : Nat) : faAV off (.iptr row g) = some (.iptr row (g + off)) := rfl
theorem ld_iptr (a : Bool) (size : Nat) (H : Heap) (row : List AV) (f : Nat) : loadAV a size H (.iptr row f) = part a size row f := rfl
def ldK (a : Bool) (size off : Nat) : Option Ob → Option AV
  | some (.box cells) => part a size cells off
  | _ => none
theorem ld_ptr (a : Bool) (size : Nat) (H : Heap) (id off : Nat) : loadAV a size H (.ptr id off) = ldK a size off (lk H id) := by
  simp only [loadAV, ldK]
  cases lk H id with
  | none => rfl
  | some o => cases o <;> rfl
theorem ldK_box (a : Bool) (size off : Nat) (cells : List AV) : ldK a size off (some (.box cells)) = part a size cells off := rfl
theorem lenl_nil : lenlAV .nil = some (.int .i64 0) := rfl
theorem lenl_imm (es : Nat) (rows : List (List AV)) (ex : Bool) : lenlAV (.imm es rows ex) = some (.int .i64 rows.length) := rfl
theorem lenl_own (es id off len : Nat) (ex : Bool) : lenlAV (.own es id off len ex) = some (.int .i64 len) := rfl
theorem lens_str (s : ByteArray) : lensAV (.str s) = some (.int .i64 s.size) := rfl
theorem evs_nil (s : St) : s.evs [] = [] := rfl
theorem evs_cons (s : St) (x : Opd) (r : List Opd) : s.evs (x :: r) = s.ev x :: s.evs r := rfl
theorem evp_nil (s : St) : s.evp [] = [] := rfl
theorem evp_cons (s : St) (i : Nat) (x : Opd) (r : List (Nat × Opd)) : s.evp ((i, x) :: r) = (i, s.ev x) :: s.evp r := rfl
theorem evq_nil (s : St) : s.evq [] = [] := rfl
theorem evq_cons (s : St) (i j : Nat) (x : Opd) (r : List (Nat × Nat × Opd)) : s.evq ((i, j, x) :: r) = (i, j, s.ev x) :: s.evq r := rfl
theorem evo_none (s : St) : s.evo none = none := rfl
theorem evo_some (s : St) (x : Opd) : s.evo (some x) = some (s.ev x) := rfl
def bldK : Option (List AV) → Option AV
  | some cs => some (.agg cs)
  | none => none
theorem build_eq (z : List AV) (ps : List (Nat × Nat × AV)) : buildAV z ps = bldK (fillA z ps) := by
  unfold buildAV bldK
  rfl
theorem bldK_some (cs : List AV) : bldK (some cs) = some (.agg cs) := rfl
theorem fillA_nil (cs : List AV) : fillA cs [] = some cs := rfl
def fillK (cells : List AV) (off size : Nat) (r : List (Nat × Nat × AV)) : Option (List AV) → Option (List AV)
  | some vs => if vs.length = size ∧ off + size ≤ cells.length then fillA (setAt cells off vs) r else none
  | none => none
theorem fillA_cons (cells : List AV) (off size : Nat) (v : AV) (r : List (Nat × Nat × AV)) : fillA cells ((off, size, v) :: r) = fillK cells off size r (cellsOf v) := rfl
theorem fillK_some (cells : List AV) (off size : Nat) (r : List (Nat × Nat × AV)) (vs : List AV) : fillK cells off size r (some vs) = if vs.length = size ∧ off + size ≤ cells.length then fillA (setAt cells off vs) r else none := rfl
theorem cells_agg (cs : List AV) : cellsOf (.agg cs) = some cs := rfl
theorem cells_int (k : IntKind) (n : Int) : cellsOf (.int k n) = some [.int k n] := rfl
theorem cells_bool (b : Bool) : cellsOf (.bool b) = some [.bool b] := rfl
theorem cells_str (s : ByteArray) : cellsOf (.str s) = some [.str s] := rfl
theorem cells_nil : cellsOf .nil = some [.nil] := rfl
theorem cells_imm (es : Nat) (rows : List (List AV)) (ex : Bool) : cellsOf (.imm es rows ex) = some [.imm es rows ex] := rfl
theorem cells_own (es id off len : Nat) (ex : Bool) : cellsOf (.own es id off len ex) = some [.own es id off len ex] := rfl
theorem add_mk (e l : List (Nat × AV)) (H : Heap) (n : Nat) (o : Ob) : St.add ⟨e, l, H, n⟩ o = ⟨e, l, (n, o) :: H, n + 1⟩ := rfl
theorem setH_mk (e l : List (Nat × AV)) (H H' : Heap) (n : Nat) : St.setH ⟨e, l, H, n⟩ H' = ⟨e, l, H', n⟩ := rfl
def stK (size : Nat) (H : Heap) (id off : Nat) : Option Ob → Option (List AV) → Option Heap
  | some (.box cells), some vs => if vs.length = size ∧ off + vs.length ≤ cells.length ∧ cellBs vs = true then upd H id (.box (setAt cells off vs)) else none
  | _, _ => none
theorem st_ptr (size : Nat) (H : Heap) (id off : Nat) (v : AV) : storeH size H (.ptr id off) v = stK size H id off (lk H id) (cellsOf v) := by
  simp only [storeH, stK]
  cases lk H id with
  | none => rfl
  | some o => cases o <;> cases cellsOf v <;> rfl
theorem stK_some (size : Nat) (H : Heap) (id off : Nat) (cells vs : List AV) : stK size H id off (some (.box cells)) (some vs) = if vs.length = size ∧ off + vs.length ≤ cells.length ∧ cellBs vs = true then upd H id (.box (setAt cells off vs)) else none := rfl
theorem iaa_ptr (size len id off : Nat) (k : IntKind) (n : Int) : iaaAV size len (.ptr id off) (.int k n) = if 0 ≤ n ∧ n < len then some (.ptr id (off + n.toNat * size)) else none := rfl
theorem ixa_agg (a : Bool) (size len : Nat) (cs : List AV) (k : IntKind) (n : Int) : ixaAV a size len (.agg cs) (.int k n) = if 0 ≤ n ∧ n < len then part a size cs (n.toNat * size) else none := rfl
theorem ias_imm (size es : Nat) (rows : List (List AV)) (ex : Bool) (k : IntKind) (n : Int) : iasAV size (.imm es rows ex) (.int k n) = if es = size ∧ 0 ≤ n then (match rows[n.toNat]? with | some row => some (.iptr row 0) | none => none) else none := rfl
theorem ias_own (size es id off len : Nat) (ex : Bool) (k : IntKind) (n : Int) : iasAV size (.own es id off len ex) (.int k n) = if es = size ∧ 0 ≤ n ∧ n < len then some (.eptr id (off + n.toNat) 0) else none := rfl
attribute [simp] add_mk setH_mk st_ptr stK_some iaa_ptr ixa_agg ias_imm ias_own
attribute [simp] ext_tup fld_agg part_agg part_one partK_some fa_ptr fa_eptr fa_iptr ld_iptr ld_ptr ldK_box lenl_nil lenl_imm lenl_own lens_str evs_nil evs_cons evp_nil evp_cons evq_nil evq_cons evo_none evo_some build_eq bldK_some fillA_nil fillA_cons fillK_some cells_agg cells_int cells_bool cells_str cells_nil cells_imm cells_own setAt cellB cellBs argEnv plainBs plainB one resAV
attribute [simp] wantA_some wantA_none wantV_bool wantV_un eqb_bool nt_bool ngt_int cvt_int pick_bool bin_add bin_sub bin_mul bin_quo bin_rem bin_eql bin_neq bin_lss bin_leq bin_gtr bin_geq retK_ret retK_norm retP_plain retK_ite
/-! ### Regions that draw their order -/
theorem recA (x : Option St) (f : St → Option St) : (Option.rec none f x : Option St) = andThen x f := by cases x <;> rfl
theorem evDs_nil (c : Cfg) (cl : Callee) (nt : Nat) (k : List (Nat × Nat)) (base i : Nat) (s : St) : evDs c cl nt k base [] i s = some s := rfl
theorem evDs_cons (c : Cfg) (cl : Callee) (nt : Nat) (k : List (Nat × Nat)) (base i : Nat) (o : Iop) (r : List Iop) (s : St) : evDs c cl nt k base (o :: r) i s = andThen (evD c cl nt k base i o s) (evDs c cl nt k base r (i + 1)) :=
  recA (evD c cl nt k base i o s) (evDs c cl nt k base r (i + 1))
theorem evD_eq (c : Cfg) (cl : Callee) (nt : Nat) (k : List (Nat × Nat)) (base i : Nat) (o : Iop) (e l : List (Nat × AV)) (H : Heap) (n : Nat) : evD c cl nt k base i o ⟨e, l, H, n⟩ = if gateO c k base i ⟨e, l, H, n⟩ o = true then evIO c cl nt o ⟨e, l, H, base + i⟩ else none := by
  unfold evD
  rw [cond_eq_ite]
theorem drawA_eq (c : Cfg) (cl : Callee) (nt : Nat) (k : List (Nat × Nat)) (ios : List Iop) (e l : List (Nat × AV)) (H : Heap) (n : Nat) : drawA c cl nt k ios ⟨e, l, H, n⟩ = if startB ios ⟨e, l, H, n⟩ k = true then andThen (evDs c cl nt k n ios 0 ⟨e, l, H, n⟩) (endD (n + 2 * ios.length)) else none := by
  unfold drawA
  rw [cond_eq_ite]
  split
  · exact recA _ _
  · rfl
theorem endD_mk (n m : Nat) (e l : List (Nat × AV)) (H : Heap) : endD n ⟨e, l, H, m⟩ = some ⟨e, l, H, n⟩ := rfl
theorem gateO_none (c : Cfg) (k : List (Nat × Nat)) (base i : Nat) (s : St) (d : Option Nat) (op : IP) : gateO c k base i s ⟨d, none, op⟩ = gateD c k base i s op := rfl
def gateG (b : Option Bool) (g : Bool) : Bool := match b with | some true => g | _ => true
theorem gateO_some (c : Cfg) (k : List (Nat × Nat)) (base i : Nat) (s : St) (d : Option Nat) (t : Nat) (w : Bool) (op : IP) : gateO c k base i s ⟨d, some (t, w), op⟩ = gateG (wantV (s.get t) w) (gateD c k base i s op) := rfl
theorem gateG_some (b g : Bool) : gateG (some b) g = (!b || g) := by cases b <;> rfl
def gateL (base : Nat) : Option Nat → Bool
  | some id => Nat.blt id base
  | none => true
theorem gateD_ld (c : Cfg) (k : List (Nat × Nat)) (base i : Nat) (s : St) (a : Bool) (z : Nat) (p : Opd) : gateD c k base i s (.ld a z p) = gateL base (idOf (s.ev p)) := by
  simp only [gateD, gateL]
  cases idOf (s.ev p) <;> rfl
theorem gateL_some (base id : Nat) : gateL base (some id) = decide (id < base) := by
  simp only [gateL]
  rw [Bool.eq_iff_iff, Nat.blt_eq]
  simp
theorem gateL_none (base : Nat) : gateL base none = true := rfl
theorem idOf_ptr (id off : Nat) : idOf (.ptr id off) = some id := rfl
theorem idOf_eptr (id i f : Nat) : idOf (.eptr id i f) = some id := rfl
theorem idOf_iptr (row : List AV) (f : Nat) : idOf (.iptr row f) = none := rfl
theorem startB_nil (ios : List Iop) (s : St) : startB ios s [] = true := rfl
attribute [simp] evDs_nil evDs_cons evD_eq drawA_eq endD_mk gateO_none gateO_some gateG_some gateD_ld gateL_some gateL_none idOf_ptr idOf_eptr idOf_iptr startB_nil
theorem head_mk (m n0 : Nat) (e l : List (Nat × AV)) (H : Heap) (n : Nat) : St.head m n0 ⟨e, l, H, n⟩ = if n = n0 then ⟨e, l, H, n⟩ else St.tidy m ⟨e, l, H, n⟩ := by
  unfold St.head
  rw [cond_eq_ite]
  by_cases h : n = n0
  · subst h; simp
  · have : Nat.beq n n0 = false := by
      cases hb : Nat.beq n n0 with
      | false => rfl
      | true => exact absurd (Nat.eq_of_beq_eq_true hb) h
    simp [this, h]
attribute [simp] head_mk
end Go.Proofs.Ytcmejocmohohpaa.R

/- The evaluator's equations, bundled for simp. -/
set_option linter.unusedVariables false
set_option linter.unusedSectionVars false
set_option linter.unusedSimpArgs false
noncomputable section
namespace Go.Proofs.Ytcmejocmohohpaa.R
open Go
/-- All calls of functions are frozen; all are local. -/
def cT (P : Program) : Cfg := ⟨P, fun _ => none, fun _ => true⟩
def cF (P : Program) : Cfg := ⟨P, fun _ => none, fun _ => false⟩
def evR (c : Cfg) (cl : Callee) (nt : Nat) (l : List Iop) (s : St) : Option St := match evOps c cl nt l s with | some s' => some s'.clr | none => none
def clrK (x : Option St) : Option St := match x with | some s => some s.clr | none => none
theorem evR_eq (c : Cfg) (cl : Callee) (nt : Nat) (l : List Iop) (s : St) : evR c cl nt l s = clrK (evOps c cl nt l s) := rfl
theorem clrK_some (e l : List (Nat × AV)) (H : Heap) (n : Nat) : clrK (some ⟨e, l, H, n⟩) = some ⟨e, [], H, n⟩ := rfl
section
variable {P : Program} {nt m : Nat} {s s1 : St} {Q : Ex → St → Prop} {c : Cfg} {cl : Callee}
theorem Wp.regE {l : List Iop} (hcl : Sound P cl) (h : evR c cl nt l s = some s1) (h2 : Q .norm s1) : Wp P nt m (.reg none l) s Q := by
  unfold evR at h
  split at h
  · rename_i s' he
    obtain rfl := Option.some.inj h
    exact Wp.reg (OpsW.end hcl he h2)
  · cases h
theorem OpsW.many {l : List Iop} {T : St → Prop} (n : Nat) (hcl : Sound P cl) (h : evOps c cl nt (l.take n) s = some s1) (h2 : OpsW P nt m (l.drop n) s1 T) : OpsW P nt m l s T := by
  have := OpsW.chunk (P := P) (m := m) hcl h h2
  rwa [List.take_append_drop] at this
theorem OpsW.last {l : List Iop} (hcl : Sound P cl) (h : evR c cl nt l s = some s1) (h2 : Q .norm s1) : OpsW P nt m l s (fun s' => Q .norm s'.clr) := by
  unfold evR at h
  split at h
  · rename_i s' he
    obtain rfl := Option.some.inj h
    exact OpsW.end hcl he h2
  · cases h
def evRD (c : Cfg) (cl : Callee) (nt : Nat) (k : List (Nat × Nat)) (l : List Iop) (s : St) : Option St := match drawA c cl nt k l s with | some s' => some s'.clr | none => none
theorem evRD_eq (c : Cfg) (cl : Callee) (nt : Nat) (k : List (Nat × Nat)) (l : List Iop) (s : St) : evRD c cl nt k l s = clrK (drawA c cl nt k l s) := rfl
theorem Wp.regD {l : List Iop} {k : List (Nat × Nat)} (hP : P.follows .mixedOrders = true) {c : Cfg} (hcP : c.P = P) (hcl : Sound P cl) (h : evRD c cl nt k l s = some s1) (h2 : Q .norm s1) : Wp P nt m (.reg (some k) l) s Q := by
  unfold evRD at h
  split at h
  · rename_i s' he
    obtain rfl := Option.some.inj h
    exact Wp.regd hP hcP hcl he h2
  · cases h
theorem LWp.stepC {b b' : IC} (hb : b = b') (h : Wp P nt m b' s (loopQ P nt m b Q)) : LWp P nt m b s Q := by subst hb; exact LWp.step h
theorem seqN {b : IC} (h : Wp P nt m b s Q) : seqQ P nt m b Q .norm s := h
theorem seqR {b : IC} (h : Q .ret s) : seqQ P nt m b Q .ret s := h
theorem seqO {b : IC} {j : Nat} (h : Q (.out j) s) : seqQ P nt m b Q (.out j) s := h
theorem loopN {b : IC} (h : LWp P nt m b s Q) : loopQ P nt m b Q .norm s := h
theorem loopR {b : IC} (h : Q .ret s) : loopQ P nt m b Q .ret s := h
theorem loopO {b : IC} {j : Nat} (h : Q (.out j) s) : loopQ P nt m b Q (.out j) s := h
theorem blockN {id : Nat} (h : Q .norm s) : blockQ id Q .norm s := h
theorem blockR {id : Nat} (h : Q .ret s) : blockQ id Q .ret s := h
theorem blockO {id : Nat} (h : Q .norm s) : blockQ id Q (.out id) s := by simpa [blockQ] using h
theorem blockP {id j : Nat} (hne : Nat.beq j id = false) (h : Q (.out j) s) : blockQ id Q (.out j) s := by
  have : ¬ j = id := Nat.ne_of_beq_eq_false hne
  simpa [blockQ, this] using h
theorem Wp.weakE {ic : IC} {l : List WA} {s' : St} (hw : evW m l s = some s') (h : Wp P nt m ic s' Q) : Wp P nt m ic s Q := Wp.weak (R.weak hw) h
theorem LWp.weakE {ic : IC} {l : List WA} {s' : St} (hw : evW m l s = some s') (h : LWp P nt m ic s' Q) : LWp P nt m ic s Q := LWp.weak (R.weak hw) h
end
/-! ### Calls -/
def fzK (s : St) (args : List AV) : Option (AV × Heap × Nat) → Option (AV × St)
  | some (r, H1, _) => fzRet s args (frz H1 r)
  | none => none
theorem callT (P : Program) (cl : Callee) (s : St) (f : Nat) (args : List AV) : callAV (cT P) cl s f args = fzK s args (cl f (frzs s.H args) [] 0) := by
  unfold callAV
  rw [if_pos (show (cT P).fz f = true from rfl)]
  rfl
theorem fzK_some (s : St) (args : List AV) (r : AV) (H1 : Heap) (n : Nat) : fzK s args (some (r, H1, n)) = fzRet s args (frz H1 r) := rfl
theorem fzRet_eq (s : St) (args : List AV) (r : AV) : fzRet s args r = if plainB r = true then some (r, s) else if idFree r = true then some (r, s.setH (leakVs s.H args)) else none := rfl
def locK (s : St) (l : List Nat) : Option (AV × Heap × Nat) → Option (AV × St)
  | some (r, H1, n1) => some (ren (backId l l.length s.nx) r, { s with H := renH (backId l l.length s.nx) H1 ++ dropAll s.H l, nx := s.nx + (n1 - l.length) })
  | none => none
def locC (cl : Callee) (s : St) (f : Nat) (args : List AV) (l : List Nat) : Option (AV × St) := locK s l (cl f (rens (pos l) args) (renH (pos l) s.H) l.length)
theorem locC_eq (cl : Callee) (s : St) (f : Nat) (args : List AV) (l : List Nat) : locC cl s f args l = locK s l (cl f (rens (pos l) args) (renH (pos l) s.H) l.length) := rfl
theorem callL (P : Program) (cl : Callee) (s : St) (f : Nat) (args : List AV) : callAV (cF P) cl s f args = locC cl s f args (reach s.H fuelR args []) := by
  unfold callAV
  rw [if_neg (show ¬ (cF P).fz f = true by simp [cF])]
  rfl
theorem locK_some (e l0 : List (Nat × AV)) (H : Heap) (nx : Nat) (l : List Nat) (r : AV) (H1 : Heap) (n1 : Nat) : locK ⟨e, l0, H, nx⟩ l (some (r, H1, n1)) = some (ren (backId l l.length nx) r, ⟨e, l0, renH (backId l l.length nx) H1 ++ dropAll H l, nx + (n1 - l.length)⟩) := rfl
theorem callv_fn (c : Cfg) (cl : Callee) (s : St) (f : Nat) (pre post args : List AV) : callvAV c cl s (.fn (.func f) pre post) args = callAV c cl s f (pre ++ (args ++ post)) := rfl
/-! ### Parts of memory -/
/-- The slice that holds nothing. -/
def nilI : AV := canI []
theorem sl_nil {α : Type} (c : α → List AV) : sl c [] = nilI := rfl
theorem frz_nil (H : Heap) : frz H .nil = nilI := rfl
theorem frz_imm0 (H : Heap) (es : Nat) (ex : Bool) : frz H (.imm es [] ex) = nilI := rfl
theorem frz_nilI (H : Heap) : frz H nilI = nilI := rfl
theorem leak_nilI (H : Heap) : leakV H nilI = H := rfl
theorem ren_nilI (f : Nat → Option Nat) : ren f nilI = nilI := rfl
theorem cell_nilI : cellB nilI = true := rfl
theorem idf_nilI : idFree nilI = true := rfl
theorem pl_nilI : plainB nilI = false := rfl
theorem cells_nilI : cellsOf nilI = some [nilI] := rfl
theorem lenl_nilI : lenlAV nilI = some (.int .i64 0) := rfl
theorem rows_nilI (n : Nat) (H : Heap) : rowsOf n H nilI = some [] := rfl
theorem src_nilI (n : Nat) (H : Heap) : srcRows n H nilI = some [] := rfl
theorem reach_nilI (H : Heap) (k : Nat) (todo : List AV) (acc : List Nat) : reach H (k + 1) (nilI :: todo) acc = reach H k todo acc := by simp [nilI, canI, reach]
/-! ### Bundles -/
theorem frz_bool (H : Heap) (b : Bool) : frz H (.bool b) = .bool b := rfl
theorem frz_int (H : Heap) (k : IntKind) (n : Int) : frz H (.int k n) = .int k n := rfl
theorem frz_str (H : Heap) (s : ByteArray) : frz H (.str s) = .str s := rfl
theorem frz_agg (H : Heap) (cs : List AV) : frz H (.agg cs) = .agg (frzs H cs) := rfl
theorem frz_tup (H : Heap) (cs : List AV) : frz H (.tup cs) = .tup (frzs H cs) := rfl
theorem frzs_nil (H : Heap) : frzs H [] = [] := rfl
theorem frzs_cons (H : Heap) (v : AV) (r : List AV) : frzs H (v :: r) = frz H v :: frzs H r := rfl
theorem leak_bool (H : Heap) (b : Bool) : leakV H (.bool b) = H := rfl
theorem leak_int (H : Heap) (k : IntKind) (n : Int) : leakV H (.int k n) = H := rfl
theorem leak_str (H : Heap) (s : ByteArray) : leakV H (.str s) = H := rfl
theorem leak_nil (H : Heap) : leakV H .nil = H := rfl
theorem leak_agg (H : Heap) (cs : List AV) : leakV H (.agg cs) = leakVs H cs := rfl
theorem leak_tup (H : Heap) (cs : List AV) : leakV H (.tup cs) = leakVs H cs := rfl
theorem leaks_nil (H : Heap) : leakVs H [] = H := rfl
theorem leaks_cons (H : Heap) (v : AV) (r : List AV) : leakVs H (v :: r) = leakVs (leakV H v) r := rfl
theorem ren_bool (f : Nat → Option Nat) (b : Bool) : ren f (.bool b) = .bool b := rfl
theorem ren_int (f : Nat → Option Nat) (k : IntKind) (n : Int) : ren f (.int k n) = .int k n := rfl
theorem ren_str (f : Nat → Option Nat) (s : ByteArray) : ren f (.str s) = .str s := rfl
theorem ren_nil (f : Nat → Option Nat) : ren f .nil = .nil := rfl
theorem ren_un (f : Nat → Option Nat) : ren f .un = .un := rfl
theorem ren_bad (f : Nat → Option Nat) : ren f .bad = .bad := rfl
theorem ren_agg (f : Nat → Option Nat) (cs : List AV) : ren f (.agg cs) = .agg (rens f cs) := rfl
theorem ren_tup (f : Nat → Option Nat) (cs : List AV) : ren f (.tup cs) = .tup (rens f cs) := rfl
theorem ren_fn (f : Nat → Option Nat) (g : Fn) (a b : List AV) : ren f (.fn g a b) = .fn g (rens f a) (rens f b) := rfl
theorem ren_imm (f : Nat → Option Nat) (es : Nat) (rows : List (List AV)) (ex : Bool) : ren f (.imm es rows ex) = .imm es rows ex := rfl
def renK (id : Option Nat) (k : Nat → AV) : AV := match id with | some j => k j | none => .bad
theorem renK_some (j : Nat) (k : Nat → AV) : renK (some j) k = k j := rfl
theorem ren_own (f : Nat → Option Nat) (es id off len : Nat) (ex : Bool) : ren f (.own es id off len ex) = renK (f id) (fun j => .own es j off len ex) := by simp only [ren, renK]; cases f id <;> rfl
theorem ren_ptr (f : Nat → Option Nat) (id off : Nat) : ren f (.ptr id off) = renK (f id) (fun j => .ptr j off) := by simp only [ren, renK]; cases f id <;> rfl
theorem ren_eptr (f : Nat → Option Nat) (id i g : Nat) : ren f (.eptr id i g) = renK (f id) (fun j => .eptr j i g) := by simp only [ren, renK]; cases f id <;> rfl
theorem rens_nil (f : Nat → Option Nat) : rens f [] = [] := rfl
theorem rens_cons (f : Nat → Option Nat) (v : AV) (r : List AV) : rens f (v :: r) = ren f v :: rens f r := rfl
theorem renE_nil (f : Nat → Option Nat) : renEnv f [] = [] := rfl
theorem renE_cons (f : Nat → Option Nat) (t : Nat) (v : AV) (r : List (Nat × AV)) : renEnv f ((t, v) :: r) = (t, ren f v) :: renEnv f r := rfl
theorem renO_box (f : Nat → Option Nat) (cells : List AV) : renOb f (.box cells) = .box (rens f cells) := rfl
theorem renO_arr (f : Nat → Option Nat) (es : Nat) (rows : List (List AV)) (leak : Nat) : renOb f (.arr es rows leak) = .arr es rows leak := rfl
def renHK (id : Option Nat) (o : Ob) (r : Heap) : Heap := match id with | some j => (j, o) :: r | none => r
theorem renHK_some (j : Nat) (o : Ob) (r : Heap) : renHK (some j) o r = (j, o) :: r := rfl
theorem renHK_none (o : Ob) (r : Heap) : renHK none o r = r := rfl
theorem renHn (f : Nat → Option Nat) : renH f [] = [] := rfl
theorem renHc (f : Nat → Option Nat) (id : Nat) (o : Ob) (r : Heap) : renH f ((id, o) :: r) = renHK (f id) (renOb f o) (renH f r) := by simp only [renH, renHK]; cases f id <;> rfl
theorem vals_nil : valsOf [] = [] := rfl
theorem vals_cons (t : Nat) (v : AV) (r : List (Nat × AV)) : valsOf ((t, v) :: r) = v :: valsOf r := rfl
theorem reach_nil (H : Heap) (k : Nat) (acc : List Nat) : reach H (k + 1) [] acc = acc := rfl
def reachK (H : Heap) (k id : Nat) (todo : List AV) (acc : List Nat) (o : Option Ob) : List Nat :=
  if id ∈ acc then reach H k todo acc else match o with | some (.box cells) => reach H k (cells ++ todo) (acc ++ [id]) | some _ => reach H k todo (acc ++ [id]) | none => reach H k todo acc
theorem reachK_box (H : Heap) (k id : Nat) (todo : List AV) (acc : List Nat) (cells : List AV) : reachK H k id todo acc (some (.box cells)) = if id ∈ acc then reach H k todo acc else reach H k (cells ++ todo) (acc ++ [id]) := rfl
theorem reachK_arr (H : Heap) (k id : Nat) (todo : List AV) (acc : List Nat) (es : Nat) (rows : List (List AV)) (leak : Nat) : reachK H k id todo acc (some (.arr es rows leak)) = if id ∈ acc then reach H k todo acc else reach H k todo (acc ++ [id]) := rfl
theorem reachK_none (H : Heap) (k id : Nat) (todo : List AV) (acc : List Nat) : reachK H k id todo acc none = reach H k todo acc := by simp [reachK]
def reachJ (H : Heap) (k id : Nat) (todo : List AV) (acc : List Nat) (o : Option Ob) : List Nat :=
  if id ∈ acc then reach H k todo acc else match o with | some _ => reach H k todo (acc ++ [id]) | none => reach H k todo acc
theorem reachJ_some (H : Heap) (k id : Nat) (todo : List AV) (acc : List Nat) (o : Ob) : reachJ H k id todo acc (some o) = if id ∈ acc then reach H k todo acc else reach H k todo (acc ++ [id]) := rfl
theorem reachJ_none (H : Heap) (k id : Nat) (todo : List AV) (acc : List Nat) : reachJ H k id todo acc none = reach H k todo acc := by simp [reachJ]
theorem reach_own (H : Heap) (k es id off len : Nat) (ex : Bool) (todo : List AV) (acc : List Nat) : reach H (k + 1) (.own es id off len ex :: todo) acc = reachJ H k id todo acc (lk H id) := by
  simp only [reach, reachJ]
  split
  · rfl
  · cases lk H id <;> rfl
theorem reach_eptr (H : Heap) (k id i f : Nat) (todo : List AV) (acc : List Nat) : reach H (k + 1) (.eptr id i f :: todo) acc = reachJ H k id todo acc (lk H id) := by
  simp only [reach, reachJ]
  split
  · rfl
  · cases lk H id <;> rfl
theorem reach_ptr (H : Heap) (k id off : Nat) (todo : List AV) (acc : List Nat) : reach H (k + 1) (.ptr id off :: todo) acc = reachK H k id todo acc (lk H id) := by
  simp only [reach, reachK]
  split
  · rfl
  · cases lk H id with
    | none => rfl
    | some o => cases o <;> rfl
theorem reach_fn (H : Heap) (k : Nat) (g : Fn) (pre post todo : List AV) (acc : List Nat) : reach H (k + 1) (.fn g pre post :: todo) acc = reach H k (pre ++ (post ++ todo)) acc := rfl
theorem reach_agg (H : Heap) (k : Nat) (cs todo : List AV) (acc : List Nat) : reach H (k + 1) (.agg cs :: todo) acc = reach H k (cs ++ todo) acc := rfl
theorem reach_tup (H : Heap) (k : Nat) (cs todo : List AV) (acc : List Nat) : reach H (k + 1) (.tup cs :: todo) acc = reach H k (cs ++ todo) acc := rfl
theorem reach_int (H : Heap) (k : Nat) (q : IntKind) (n : Int) (todo : List AV) (acc : List Nat) : reach H (k + 1) (.int q n :: todo) acc = reach H k todo acc := rfl
theorem reach_bool (H : Heap) (k : Nat) (b : Bool) (todo : List AV) (acc : List Nat) : reach H (k + 1) (.bool b :: todo) acc = reach H k todo acc := rfl
theorem reach_str (H : Heap) (k : Nat) (b : ByteArray) (todo : List AV) (acc : List Nat) : reach H (k + 1) (.str b :: todo) acc = reach H k todo acc := rfl
theorem reach_nilv (H : Heap) (k : Nat) (todo : List AV) (acc : List Nat) : reach H (k + 1) (.nil :: todo) acc = reach H k todo acc := rfl
theorem reach_un (H : Heap) (k : Nat) (todo : List AV) (acc : List Nat) : reach H (k + 1) (.un :: todo) acc = reach H k todo acc := rfl
theorem reach_bad (H : Heap) (k : Nat) (todo : List AV) (acc : List Nat) : reach H (k + 1) (.bad :: todo) acc = reach H k todo acc := rfl
theorem reach_oth (H : Heap) (k : Nat) (v : Value) (todo : List AV) (acc : List Nat) : reach H (k + 1) (.oth v :: todo) acc = reach H k todo acc := rfl
theorem reach_imm (H : Heap) (k es : Nat) (rows : List (List AV)) (ex : Bool) (todo : List AV) (acc : List Nat) : reach H (k + 1) (.imm es rows ex :: todo) acc = reach H k todo acc := rfl
theorem reach_iptr (H : Heap) (k : Nat) (row : List AV) (f : Nat) (todo : List AV) (acc : List Nat) : reach H (k + 1) (.iptr row f :: todo) acc = reach H k todo acc := rfl
theorem fuelR_eq : fuelR = 1999 + 1 := rfl
def boxK : Option Ob → List AV | some (.box cells) => cells | _ => []
theorem box_eq (H : Heap) (id : Nat) : boxCells H id = boxK (lk H id) := by
  simp only [boxCells, boxK]
  cases lk H id with
  | none => rfl
  | some o => cases o <;> rfl
theorem boxK_box (cells : List AV) : boxK (some (.box cells)) = cells := rfl
theorem boxK_arr (es : Nat) (rows : List (List AV)) (leak : Nat) : boxK (some (.arr es rows leak)) = [] := rfl
theorem places_eq (H : Heap) (m : Nat) (roots : List AV) : places H m roots = reach H fuelR ((List.range m).flatMap (boxCells H) ++ roots) (List.range m) := rfl
def tidK (s : St) (l : List Nat) : St := { env := renEnv (pos l) s.env, loc := [], H := renH (pos l) s.H, nx := l.length }
theorem tidy_eq (m : Nat) (s : St) : s.tidy m = tidK s (places s.H m (valsOf s.env)) := rfl
theorem tidK_mk (e l0 : List (Nat × AV)) (H : Heap) (n : Nat) (l : List Nat) : tidK ⟨e, l0, H, n⟩ l = ⟨renEnv (pos l) e, [], renH (pos l) H, l.length⟩ := rfl
/-! Weaker states -/
theorem evW_nil (m : Nat) (s : St) : evW m [] s = some s := rfl
def evWK (m : Nat) (r : List WA) : Option St → Option St | some s => evW m r s | none => none
theorem evW_cons (m : Nat) (x : WA) (r : List WA) (s : St) : evW m (x :: r) s = evWK m r (evW1 m x s) := by simp only [evW, evWK] <;> cases evW1 m x s <;> rfl
theorem evWK_some (m : Nat) (r : List WA) (s : St) : evWK m r (some s) = evW m r s := rfl
theorem ev1_kill (m : Nat) (ts : List Nat) (e l : List (Nat × AV)) (H : Heap) (n : Nat) : evW1 m (.kill ts) ⟨e, l, H, n⟩ = some ⟨killE ts e, l, H, n⟩ := rfl
theorem kill_nil (ts : List Nat) : killE ts [] = [] := rfl
theorem kill_cons (ts : List Nat) (t : Nat) (v : AV) (r : List (Nat × AV)) : killE ts ((t, v) :: r) = (if inB t ts = true then (t, .bad) else (t, v)) :: killE ts r := rfl
theorem inB_nil (t : Nat) : inB t [] = false := rfl
theorem inB_cons (t x : Nat) (r : List Nat) : inB t (x :: r) = (Nat.beq x t || inB t r) := rfl
def canK : Option St → Option St | some s => some ⟨s.env, s.loc, canG s.H s.nx, s.nx⟩ | none => none
theorem ev1_tidy (m : Nat) (s : St) : evW1 m .tidy s = canK (some (s.tidy m)) := rfl
theorem canK_some (e l : List (Nat × AV)) (H : Heap) (n : Nat) : canK (some ⟨e, l, H, n⟩) = some ⟨e, l, canG H n, n⟩ := rfl
theorem canG_zero (H : Heap) : canG H 0 = [] := rfl
def canN (H : Heap) (n : Nat) : Option Ob → Heap | some o => canG H n ++ [(n, o)] | none => canG H n
theorem canG_succ (H : Heap) (n : Nat) : canG H (n + 1) = canN H n (lk H n) := by simp only [canG, canN] <;> cases lk H n <;> rfl
theorem canN_some (H : Heap) (n : Nat) (o : Ob) : canN H n (some o) = canG H n ++ [(n, o)] := rfl
theorem canN_none (H : Heap) (n : Nat) : canN H n none = canG H n := rfl
def atK (k : AV × Heap × Nat) (l : List (Nat × AV)) : Option (List (Nat × AV)) → Option St | some e => some ⟨e, l, k.2.1, k.2.2⟩ | none => none
def atJ (k : WV) (t : Nat) (e l : List (Nat × AV)) (H : Heap) (n : Nat) : Option AV → Option St | some v => atK (wkV k v H n) l (upd e t (wkV k v H n).1) | none => none
theorem ev1_at (m t : Nat) (k : WV) (e l : List (Nat × AV)) (H : Heap) (n : Nat) : evW1 m (.at t k) ⟨e, l, H, n⟩ = atJ k t e l H n (lk e t) := by
  simp only [evW1, atJ]
  cases lk e t with
  | none => rfl
  | some v => simp only [atK] <;> cases upd e t (wkV k v H n).1 <;> rfl
theorem atJ_some (k : WV) (t : Nat) (e l : List (Nat × AV)) (H : Heap) (n : Nat) (v : AV) : atJ k t e l H n (some v) = atK (wkV k v H n) l (upd e t (wkV k v H n).1) := rfl
theorem atK_some (v : AV) (H : Heap) (n : Nat) (l e : List (Nat × AV)) : atK (v, H, n) l (some e) = some ⟨e, l, H, n⟩ := rfl
def ceL (e l : List (Nat × AV)) (n : Nat) : Option Heap → Option St | some H => some ⟨e, l, H, n⟩ | none => none
def ceK (k : AV × Heap × Nat) (id o : Nat) (cells : List AV) (e l : List (Nat × AV)) : Option St := ceL e l k.2.2 (upd k.2.1 id (.box (setAt cells o [k.1])))
def ceI (k : WV) (id o : Nat) (cells : List AV) (e l : List (Nat × AV)) (H : Heap) (n : Nat) : Option AV → Option St | some v => ceK (wkV k v H n) id o cells e l | none => none
def ceJ (k : WV) (id o : Nat) (e l : List (Nat × AV)) (H : Heap) (n : Nat) : Option Ob → Option St | some (.box cells) => ceI k id o cells e l H n cells[o]? | _ => none
def ceH (k : WV) (off : Nat) (e l : List (Nat × AV)) (H : Heap) (n : Nat) : Option AV → Option St | some (.ptr id o) => ceJ k id (o + off) e l H n (lk H id) | _ => none
theorem ev1_cell (m t off : Nat) (k : WV) (e l : List (Nat × AV)) (H : Heap) (n : Nat) : evW1 m (.cell t off k) ⟨e, l, H, n⟩ = ceH k off e l H n (lk e t) := by
  simp only [evW1, ceH]
  cases h : lk e t with
  | none => rfl
  | some v =>
    cases v <;> rfl
theorem ceH_ptr (k : WV) (off : Nat) (e l : List (Nat × AV)) (H : Heap) (n id o : Nat) : ceH k off e l H n (some (.ptr id o)) = ceJ k id (o + off) e l H n (lk H id) := rfl
theorem ceJ_box (k : WV) (id o : Nat) (e l : List (Nat × AV)) (H : Heap) (n : Nat) (cells : List AV) : ceJ k id o e l H n (some (.box cells)) = ceI k id o cells e l H n cells[o]? := rfl
theorem ceI_some (k : WV) (id o : Nat) (cells : List AV) (e l : List (Nat × AV)) (H : Heap) (n : Nat) (v : AV) : ceI k id o cells e l H n (some v) = ceK (wkV k v H n) id o cells e l := rfl
theorem ceK_mk (v : AV) (H : Heap) (n id o : Nat) (cells : List AV) (e l : List (Nat × AV)) : ceK (v, H, n) id o cells e l = ceL e l n (upd H id (.box (setAt cells o [v]))) := rfl
theorem ceL_some (e l : List (Nat × AV)) (n : Nat) (H : Heap) : ceL e l n (some H) = some ⟨e, l, H, n⟩ := rfl
theorem wk_frz (v : AV) (H : Heap) (n : Nat) : wkV .frz v H n = (frz H v, leakV H v, n) := rfl
theorem wk_nil (es : Nat) (H : Heap) (n : Nat) : wkV (.virt es) .nil H n = (.own es n 0 0 false, (n, .arr es [] 0) :: H, n + 1) := rfl
theorem wk_own (es es' id off len : Nat) (ex : Bool) (H : Heap) (n : Nat) : wkV (.virt es) (.own es' id off len ex) H n = (.own es' id off len false, H, n) := rfl
/-! Results -/
def retQ (m : Nat) (s : St) : Option (List AV) → Option (AV × Heap × Nat)
  | some vs => (match places s.H m vs with | l => some (ren (pos l) (one vs), renH (pos l) s.H, l.length))
  | none => none
def retL (v : AV) (H : Heap) (l : List Nat) : Option (AV × Heap × Nat) := some (ren (pos l) v, renH (pos l) H, l.length)
theorem retQ_some (m : Nat) (e l : List (Nat × AV)) (H : Heap) (n : Nat) (vs : List AV) : retQ m ⟨e, l, H, n⟩ (some vs) = retL (one vs) H (places H m vs) := rfl
theorem retL_eq (v : AV) (H : Heap) (l : List Nat) : retL v H l = some (ren (pos l) v, renH (pos l) H, l.length) := rfl
theorem retR (m : Nat) (res : List IR) (s : St) : retK m res (some (.ret, s)) = retQ m s (resAV s res) := by
  have h1 : retK m res (some (.ret, s)) = match resAV s res with
      | some vs => (match places s.H m vs with | l => some (ren (pos l) (one vs), renH (pos l) s.H, l.length))
      | none => none := rfl
  rw [h1]
  cases resAV s res <;> rfl
theorem retN (m : Nat) (res : List IR) (s : St) : retK m res (some (.norm, s)) = retQ m s (resAV s res) := by
  have h1 : retK m res (some (.norm, s)) = match resAV s res with
      | some vs => (match places s.H m vs with | l => some (ren (pos l) (one vs), renH (pos l) s.H, l.length))
      | none => none := rfl
  rw [h1]
  cases resAV s res <;> rfl
def resT (v : AV) : Option (List AV) → Option (List AV) | some l => some (v :: l) | none => none
theorem res_nil (s : St) : resAV s [] = some [] := rfl
theorem res_tmp (s : St) (t : Nat) (r : List IR) : resAV s (.tmp t :: r) = resT (s.get t) (resAV s r) := by simp only [resAV, resT]; cases resAV s r <;> rfl
def resC : Option AV → Option (List AV) → Option (List AV) | some v, some l => some (v :: l) | _, _ => none
theorem res_cell (s : St) (p size : Nat) (a : Bool) (r : List IR) : resAV s (.cell p a size :: r) = resC (loadAV a size s.H (s.get p)) (resAV s r) := by simp only [resAV, resC]; cases loadAV a size s.H (s.get p) <;> cases resAV s r <;> rfl
theorem resT_some (v : AV) (l : List AV) : resT v (some l) = some (v :: l) := rfl
theorem resC_some (v : AV) (l : List AV) : resC (some v) (some l) = some (v :: l) := rfl
theorem one_one (v : AV) : one [v] = v := rfl
theorem one_two (v w : AV) (r : List AV) : one (v :: w :: r) = .tup (v :: w :: r) := rfl
theorem one_nil : one [] = .tup [] := rfl
theorem finQ_eq (m : Nat) (res : List IR) (r : AV) (H' : Heap) (n' : Nat) (e : Ex) (s : St) : FinQ m res r H' n' e s = (retK m res (some (e, s)) = some (r, H', n')) := rfl
end Go.Proofs.Ytcmejocmohohpaa.R

/- Equations for slices that are made, appended to, written. -/
set_option linter.unusedVariables false
set_option linter.unusedSectionVars false
set_option linter.unusedSimpArgs false
noncomputable section
namespace Go.Proofs.Ytcmejocmohohpaa.R
open Go
section
variable (es : Nat) (e l : List (Nat × AV)) (H : Heap) (nx : Nat)
def newK (b : Bool) (x : Option (AV × St)) : Option (AV × St) := if b = true then x else none
theorem newK_t (x : Option (AV × St)) : newK true x = x := rfl
theorem newArr_eq (rows : List (List AV)) : newArr ⟨e, l, H, nx⟩ es rows = newK (capB rows.length) (some (.own es nx 0 rows.length false, ⟨e, l, (nx, .arr es rows 0) :: H, nx + 1⟩)) := by
  simp only [newArr, newK, capB, St.add]
  by_cases h : rows.length ≤ limN <;> simp [h]
def appK (s : St) (base : AV) : Option (List (List AV)) → Option (AV × St)
  | some new =>
    match base with
    | .nil => newArr s es new
    | .imm es' rows ex =>
      if esFit es es' rows = true ∧ ex = true then
        if rows.length = 0 then newArr s es new
        else if 0 < new.length then newArr s es (rows ++ new) else none
      else none
    | .own es' id off len ex =>
      if es' = es then
        match lk s.H id with
        | some (.arr _ rows leak) =>
          if ex = true then
            if len = 0 then newArr s es new
            else if 0 < new.length ∧ off + len ≤ rows.length then newArr s es ((rows.drop off).take len ++ new) else none
          else if off = 0 ∧ len = rows.length ∧ leak ≤ len ∧ len + new.length ≤ limN then
            some (.own es s.nx 0 (len + new.length) false, (s.setH (rmv s.H id)).add (.arr es (rows ++ new) leak))
          else none
        | _ => none
      else none
    | _ => none
  | none => none
theorem app_eq (s : St) (base x : AV) : appAV es s base x = appK es s base (srcRows es s.H x) := by
  unfold appAV appK
  cases srcRows es s.H x <;> rfl
theorem appK_nil (s : St) (new : List (List AV)) : appK es s .nil (some new) = newArr s es new := rfl
theorem appK_imm (s : St) (new : List (List AV)) (es' : Nat) : appK es s (.imm es' [] true) (some new) = newArr s es new := by simp [appK, esFit]
def appO (id off len : Nat) (ex : Bool) (new : List (List AV)) : Option Ob → Option (AV × St)
  | some (.arr _ rows leak) =>
    if ex = true then
      if len = 0 then newArr ⟨e, l, H, nx⟩ es new
      else if 0 < new.length ∧ off + len ≤ rows.length then newArr ⟨e, l, H, nx⟩ es ((rows.drop off).take len ++ new) else none
    else if off = 0 ∧ len = rows.length ∧ leak ≤ len then
      newK (capB (len + new.length)) (some (.own es nx 0 (len + new.length) false, ⟨e, l, (nx, .arr es (rows ++ new) leak) :: rmv H id, nx + 1⟩))
    else none
  | _ => none
theorem appK_own (id off len : Nat) (ex : Bool) (new : List (List AV)) : appK es ⟨e, l, H, nx⟩ (.own es id off len ex) (some new) = appO es e l H nx id off len ex new (lk H id) := by
  simp only [appK, if_true, appO]
  cases lk H id with
  | none => rfl
  | some o =>
    cases o with
    | box c => rfl
    | arr es2 rows leak =>
      simp only [newK, capB, St.add, St.setH]
      split
      · rfl
      · by_cases h : off = 0 ∧ len = rows.length ∧ leak ≤ len
        · rw [if_pos h]
          by_cases h2 : len + new.length ≤ limN
          · rw [if_pos ⟨h.1, h.2.1, h.2.2, h2⟩]; simp [h2]
          · rw [if_neg (fun hh => h2 hh.2.2.2)]; simp [h2]
        · rw [if_neg h, if_neg (fun hh => h ⟨hh.1, hh.2.1, hh.2.2.1⟩)]
theorem appO_f (id len es2 : Nat) (new rows : List (List AV)) (leak : Nat) : appO es e l H nx id 0 len false new (some (.arr es2 rows leak)) = if len = rows.length ∧ leak ≤ len then newK (capB (len + new.length)) (some (.own es nx 0 (len + new.length) false, ⟨e, l, (nx, .arr es (rows ++ new) leak) :: rmv H id, nx + 1⟩)) else none := by
  simp [appO]
theorem appO_t (id len es2 : Nat) (new rows : List (List AV)) (leak : Nat) : appO es e l H nx id 0 len true new (some (.arr es2 rows leak)) = if len = 0 then newArr ⟨e, l, H, nx⟩ es new else if 0 < new.length ∧ len ≤ rows.length then newArr ⟨e, l, H, nx⟩ es (rows.take len ++ new) else none := by
  simp [appO]
end
/-! Rows that a slice of one's own holds -/
def ownRK (off len : Nat) : Option Ob → Option (List (List AV))
  | some (.arr _ rows _) => if off + len ≤ rows.length then some ((rows.drop off).take len) else none
  | _ => none
theorem src_own0 (n : Nat) (H : Heap) (id off len : Nat) (ex : Bool) : srcRows n H (.own n id off len ex) = ownRK off len (lk H id) := by
  simp only [srcRows, rowsOf, if_true, ownRK]
  cases lk H id with
  | none => rfl
  | some o => cases o <;> rfl
theorem rows_own0 (n : Nat) (H : Heap) (id off len : Nat) (ex : Bool) : rowsOf n H (.own n id off len ex) = ownRK off len (lk H id) := by
  simp only [rowsOf, if_true, ownRK]
  cases lk H id with
  | none => rfl
  | some o => cases o <;> rfl
theorem take_all {α : Type} {l : List α} {n : Nat} (h : l.length = n) : l.take n = l := by subst h; simp
theorem ownRK_arr (len es : Nat) (rows : List (List AV)) (leak : Nat) (h : rows.length = len) : ownRK 0 len (some (.arr es rows leak)) = some rows := by
  simp [ownRK, h, take_all]
theorem src_nil0 (n : Nat) (H : Heap) : srcRows n H .nil = some [] := rfl
theorem src_str (H : Heap) (s : ByteArray) : srcRows 1 H (.str s) = some (byteRows s) := rfl
/-! Frozen slices of one's own -/
def frzOK (off len : Nat) : Option Ob → AV
  | some (.arr _ rows _) => if off + len ≤ rows.length then canI ((rows.drop off).take len) else .bad
  | _ => .bad
theorem frz_own0 (H : Heap) (es id off len : Nat) (ex : Bool) : frz H (.own es id off len ex) = frzOK off len (lk H id) := by
  simp only [frz, frzOK]
  cases lk H id with
  | none => rfl
  | some o => cases o <;> rfl
theorem frzOK_map {α : Type} {c : α → List AV} (l : List α) (es leak len : Nat) (h : l.length = len) : frzOK 0 len (some (.arr es (l.map c) leak)) = sl c l := by
  subst h
  simp [frzOK, sl, canI, take_all]
theorem frzOK_rows (rows : List (List AV)) (es leak len : Nat) (h : rows.length = len) : frzOK 0 len (some (.arr es rows leak)) = canI rows := by
  subst h
  simp [frzOK, take_all]
theorem leak_own0 (H : Heap) (es id off len : Nat) (ex : Bool) : leakV H (.own es id off len ex) = leakAt H id (off + len) := rfl
theorem leakAt_nil (id n : Nat) : leakAt [] id n = [] := rfl
theorem leakAt_cons (id n k : Nat) (o : Ob) (r : Heap) : leakAt ((k, o) :: r) id n = (k, if k = id then leakOb n o else o) :: leakAt r id n := by
  simp only [leakAt, List.map_cons, List.cons.injEq, and_true]
  split <;> rfl
theorem leakOb_arr (es n leak : Nat) (rows : List (List AV)) : leakOb n (.arr es rows leak) = .arr es rows (max leak n) := rfl
theorem leakOb_box (n : Nat) (cells : List AV) : leakOb n (.box cells) = .box cells := rfl
theorem max_0 (n : Nat) : max 0 n = n := by omega
theorem max_s (n : Nat) : max n n = n := by omega
/-! Literals -/
def bslK (es len : Nat) (e l : List (Nat × AV)) (H : Heap) (nx : Nat) : Option (List (List AV)) → Option (AV × St)
  | some rows => some (.own es nx 0 len true, ⟨e, l, (nx, .arr es rows 0) :: H, nx + 1⟩)
  | none => none
theorem bsl_eq (es len : Nat) (z : List AV) (e l : List (Nat × AV)) (H : Heap) (nx : Nat) (ps : List (Nat × AV)) : bslAV es z len ⟨e, l, H, nx⟩ ps = bslK es len e l (leakAll H ps) nx (fillRows es H (List.replicate len z) ps) := by
  unfold bslAV bslK
  cases fillRows es H (List.replicate len z) ps <;> rfl
theorem bslK_some (es len : Nat) (e l : List (Nat × AV)) (H : Heap) (nx : Nat) (rows : List (List AV)) : bslK es len e l H nx (some rows) = some (.own es nx 0 len true, ⟨e, l, (nx, .arr es rows 0) :: H, nx + 1⟩) := rfl
theorem fillR_nil (es : Nat) (H : Heap) (rows : List (List AV)) : fillRows es H rows [] = some rows := rfl
def fillRK (es : Nat) (H : Heap) (rows : List (List AV)) (i : Nat) (r : List (Nat × AV)) : Option (List AV) → Option (List (List AV))
  | some vs => if vs.length = es ∧ i < rows.length ∧ idFrees vs = true ∧ cellBs vs = true then fillRows es H (rows.set i vs) r else none
  | none => none
theorem fillR_cons (es : Nat) (H : Heap) (rows : List (List AV)) (i : Nat) (v : AV) (r : List (Nat × AV)) : fillRows es H rows ((i, v) :: r) = fillRK es H rows i r (cellsOf (frz H v)) := by
  simp only [fillRows, fillRK]
  cases cellsOf (frz H v) <;> rfl
theorem fillRK_some (es : Nat) (H : Heap) (rows : List (List AV)) (i : Nat) (r : List (Nat × AV)) (vs : List AV) : fillRK es H rows i r (some vs) = if vs.length = es ∧ i < rows.length ∧ idFrees vs = true ∧ cellBs vs = true then fillRows es H (rows.set i vs) r else none := rfl
theorem leakA_nil (H : Heap) : leakAll H [] = H := rfl
theorem leakA_cons (H : Heap) (i : Nat) (v : AV) (r : List (Nat × AV)) : leakAll H ((i, v) :: r) = leakAll (leakV H v) r := rfl
theorem rep_0 {α : Type} (x : α) : List.replicate 0 x = [] := rfl
theorem rep_s {α : Type} (n : Nat) (x : α) : List.replicate (n + 1) x = x :: List.replicate n x := rfl
theorem set_0 {α : Type} (a b : α) (l : List α) : (a :: l).set 0 b = b :: l := rfl
theorem set_s {α : Type} (a b : α) (l : List α) (n : Nat) : (a :: l).set (n + 1) b = a :: l.set n b := rfl
theorem s2b_eq (e l : List (Nat × AV)) (H : Heap) (nx : Nat) (s : ByteArray) : s2bAV ⟨e, l, H, nx⟩ (.str s) = some (.own 1 nx 0 (byteRows s).length false, ⟨e, l, (nx, .arr 1 (byteRows s) 0) :: H, nx + 1⟩) := rfl
/-! Reading and writing an array of one's own -/
theorem capB_0 : capB 0 = true := rfl
theorem capB_1 : capB 1 = true := rfl
theorem capB_2 : capB 2 = true := rfl
theorem capB_3 : capB 3 = true := rfl
theorem capB_4 : capB 4 = true := rfl
theorem capB_5 : capB 5 = true := rfl
theorem capB_6 : capB 6 = true := rfl
theorem capB_7 : capB 7 = true := rfl
theorem capB_8 : capB 8 = true := rfl
theorem mx_int (k : IntKind) (a b : Int) : mxAV (.int k a) (.int k b) = some (.int k (if a < b then b else a)) := by simp [mxAV, numV_eq]
theorem mn_int (k : IntKind) (a b : Int) : mnAV (.int k a) (.int k b) = some (.int k (if b < a then b else a)) := by simp [mnAV, numV_eq]
theorem nc_ptr (id off : Nat) : ncAV (.ptr id off) = some (.ptr id off) := rfl
theorem nc_eptr (id i f : Nat) : ncAV (.eptr id i f) = some (.eptr id i f) := rfl
theorem nc_iptr (row : List AV) (f : Nat) : ncAV (.iptr row f) = some (.iptr row f) := rfl
theorem nc_fn (f : Nat) (a b : List AV) : ncAV (.fn (.func f) a b) = some (.fn (.func f) a b) := rfl
def eqcK (ng : Bool) : Option Bool → Option AV | some b => truV (if ng then !b else b) | none => none
theorem eqc_eq (ng : Bool) (l : List (Nat × Nat)) (xs ys : List AV) : eqcAV ng l (.agg xs) (.agg ys) = eqcK ng (eqCells l xs ys) := by
  simp only [eqcAV, eqcK]
  cases eqCells l xs ys <;> rfl
theorem eqcK_f (b : Bool) : eqcK false (some b) = some (.bool b) := by simp [eqcK, truV_eq]
theorem eqcK_t (b : Bool) : eqcK true (some b) = some (.bool (!b)) := by simp [eqcK, truV_eq]
def andO (b : Bool) (x : Option Bool) : Option Bool := match x with | some c => some (b && c) | none => if b = true then none else some false
theorem andO_some (b c : Bool) : andO b (some c) = some (b && c) := rfl
def eqcC (r : List (Nat × Nat)) (xs ys : List AV) (q : Nat) : Option AV → Option AV → Option Bool
  | some x, some y => match eqCell q x y with | some b => andO b (eqCells r xs ys) | none => none
  | _, _ => none
theorem eqCs_nil (xs ys : List AV) : eqCells [] xs ys = some true := rfl
theorem eqCs_cons (i q : Nat) (r : List (Nat × Nat)) (xs ys : List AV) : eqCells ((i, q) :: r) xs ys = eqcC r xs ys q xs[i]? ys[i]? := by
  simp only [eqCells, eqcC]
  cases xs[i]? with
  | none => rfl
  | some x =>
    cases ys[i]? with
    | none => rfl
    | some y =>
      simp only
      cases eqCell q x y with
      | none => rfl
      | some b => cases b <;> simp only [andO] <;> cases eqCells r xs ys <;> simp
theorem eqcC_int (r : List (Nat × Nat)) (xs ys : List AV) (k : IntKind) (a b : Int) : eqcC r xs ys 1 (some (.int k a)) (some (.int k b)) = andO (decide (a = b)) (eqCells r xs ys) := by
  have : (a == b) = decide (a = b) := by by_cases h : a = b <;> simp [h]
  simp [eqcC, eqCell, this]
theorem eqcC_bool (r : List (Nat × Nat)) (xs ys : List AV) (a b : Bool) : eqcC r xs ys 0 (some (.bool a)) (some (.bool b)) = andO (a == b) (eqCells r xs ys) := rfl
theorem eqcC_str (r : List (Nat × Nat)) (xs ys : List AV) (a b : ByteArray) : eqcC r xs ys 2 (some (.str a)) (some (.str b)) = andO (eqS a b) (eqCells r xs ys) := rfl
theorem i_eq (n : Int) : (n = n) = True := by simp
theorem n_eq (n : Nat) : (n = n) = True := by simp
theorem n_le (n : Nat) : (n ≤ n) = True := by simp
theorem k_eq (n : IntKind) : (n = n) = True := by simp
theorem i_beq (n : Int) : (n == n) = true := by simp
def quoK (k : IntKind) (b : Bool) (n : Int) : Option AV := if b = true then none else some (.int k n)
theorem quoK_f (k : IntKind) (n : Int) : quoK k false n = some (.int k n) := rfl
/-! Shifts -/
def shrI (k : IntKind) (a b : Int) : Int := a.fdiv (2 ^ (min b.toNat k.bits))
def shlI (k : IntKind) (a b : Int) : Int := k.wrap (a * 2 ^ (min b.toNat k.bits))
theorem bin_shr (k : IntKind) (a b : Int) : binInt .shr k a b = quoK k (decide (b < 0)) (shrI k a b) := by
  by_cases h : b < 0 <;> simp [binInt, h, quoK, numV_eq, shrI]
theorem bin_shl (k : IntKind) (a b : Int) : binInt .shl k a b = quoK k (decide (b < 0)) (shlI k a b) := by
  by_cases h : b < 0 <;> simp [binInt, h, quoK, numV_eq, shlI]
theorem bin_intS (op : BinOp) (k k' : IntKind) (a b : Int) (h : shB op = true) : binAV op (.int k a) (.int k' b) = binInt op k a b := by simp [binAV, h]
/-! Computed places in arrays -/
/-! Elements and pieces of what is only read -/
section
variable {α : Type} {c : α → List AV} {n : Nat}
def iasK (c : α → List AV) : Option α → Option AV | some x => some (.iptr (c x) 0) | none => none
theorem iasK_some (x : α) : iasK c (some x) = some (.iptr (c x) 0) := rfl
theorem ias_sl0 [h : Row c n] (l : List α) (k : IntKind) (i : Int) : iasAV n (sl c l) (.int k i) = iasK c (nthI l i) := by
  cases hx : nthI l i with
  | some x => rw [ias_sl hx]; rfl
  | none =>
    unfold nthI at hx
    simp only [sl, canI, iasAV, iasK]
    split
    · rename_i hc
      rw [if_pos hc.2] at hx
      rw [List.getElem?_map, hx]
      rfl
    · rfl
theorem ias_nilI (size : Nat) (k : IntKind) (i : Int) : iasAV size nilI (.int k i) = none := by simp [nilI, canI, iasAV]
def sllK (c : α → List AV) : Option (List α) → Option AV | some x => some (sl c x) | none => none
theorem sllK_some (x : List α) : sllK c (some x) = some (sl c x) := rfl
theorem bnds_none {m : Nat} {ex : Bool} {lo hi : Option AV} {l h : Int} (hl : optI lo = some (some l) ∨ (lo = none ∧ l = 0)) (hh : optI hi = some (some h) ∨ (hi = none ∧ h = m)) (hc : ¬ (0 ≤ l ∧ l ≤ h ∧ h ≤ (m : Int))) : bnds m ex lo hi none = none := by
  have e1 : ∃ a, optI lo = some a ∧ a.getD 0 = l := by
    rcases hl with hl | ⟨rfl, rfl⟩
    · exact ⟨_, hl, rfl⟩
    · exact ⟨none, rfl, rfl⟩
  have e2 : ∃ a, optI hi = some a ∧ a.getD (m : Int) = h := by
    rcases hh with hh | ⟨rfl, rfl⟩
    · exact ⟨_, hh, rfl⟩
    · exact ⟨none, rfl, rfl⟩
  obtain ⟨a, a1, a2⟩ := e1
  obtain ⟨b, b1, b2⟩ := e2
  have e3 : optI none = some none := rfl
  simp only [bnds, a1, b1, e3]
  rw [if_neg]
  rintro ⟨h1, h2, h3, _⟩
  rw [a2] at h1 h2
  rw [b2] at h2 h3
  exact hc ⟨h1, h2, by simpa using h3⟩
theorem sll_hf [h : Row c n] (l : List α) : esFit n (esOf (l.map c)) (l.map c) = true := by
  rcases esOf_map (c := c) (l := l) with h | h
  · subst h; rfl
  · rw [h]; simp [esFit]
theorem sll_slA [h : Row c n] (l : List α) (k k' : IntKind) (lo hi : Int) : sllAV n (sl c l) (some (.int k lo)) (some (.int k' hi)) none = sllK c (sliceL l lo hi) := by
  cases hx : sliceL l lo hi with
  | some x => rw [sll_sl hx]; rfl
  | none =>
    have hc : ¬ (0 ≤ lo ∧ lo ≤ hi ∧ hi ≤ (l.length : Int)) := by
      unfold sliceL at hx
      split at hx
      · cases hx
      · assumption
    simp only [sl, canI, sllAV, sll_hf, if_true, sllK]
    rw [bnds_none (l := lo) (h := hi) (.inl rfl) (.inl rfl) (by simpa using hc)]
theorem sll_slB [h : Row c n] (l : List α) (k : IntKind) (lo : Int) : sllAV n (sl c l) (some (.int k lo)) none none = sllK c (sliceL l lo l.length) := by
  cases hx : sliceL l lo l.length with
  | some x => rw [sll_slL hx]; rfl
  | none =>
    have hc : ¬ (0 ≤ lo ∧ lo ≤ (l.length : Int) ∧ (l.length : Int) ≤ (l.length : Int)) := by
      unfold sliceL at hx
      split at hx
      · cases hx
      · assumption
    simp only [sl, canI, sllAV, sll_hf, if_true, sllK]
    rw [bnds_none (l := lo) (h := l.length) (.inl rfl) (.inr ⟨rfl, by simp⟩) (by simpa using hc)]
theorem sll_slC [h : Row c n] (l : List α) (k : IntKind) (hi : Int) : sllAV n (sl c l) none (some (.int k hi)) none = sllK c (sliceL l 0 hi) := by
  cases hx : sliceL l 0 hi with
  | some x => rw [sll_slH hx]; rfl
  | none =>
    have hc : ¬ ((0 : Int) ≤ 0 ∧ 0 ≤ hi ∧ hi ≤ (l.length : Int)) := by
      unfold sliceL at hx
      split at hx
      · cases hx
      · assumption
    simp only [sl, canI, sllAV, sll_hf, if_true, sllK]
    rw [bnds_none (l := 0) (h := hi) (.inr ⟨rfl, rfl⟩) (.inl rfl) (by simpa using hc)]
end
def ixsK : Option Int → Option AV | some x => some (.int .u8 x) | none => none
theorem ixsK_some (x : Int) : ixsK (some x) = some (.int .u8 x) := rfl
theorem ixs_eq (s : ByteArray) (k : IntKind) (i : Int) : ixsAV (.str s) (.int k i) = ixsK (nthS s i) := by
  cases hx : nthS s i with
  | some x => rw [ixs_nth hx]; rfl
  | none =>
    unfold nthS at hx
    simp only [ixsAV, ixsK]
    split
    · rename_i hc
      rw [if_pos hc] at hx
      simp only [Option.map_eq_none_iff] at hx
      rw [hx]
    · rfl
def slsK : Option ByteArray → Option AV | some x => some (.str x) | none => none
theorem slsK_some (x : ByteArray) : slsK (some x) = some (.str x) := rfl
theorem sls_A (s : ByteArray) (k k' : IntKind) (lo hi : Int) : slsAV (.str s) (some (.int k lo)) (some (.int k' hi)) = slsK (sliceS s lo hi) := by
  cases hx : sliceS s lo hi with
  | some x => rw [sls_sl hx]; rfl
  | none =>
    have hc : ¬ (0 ≤ lo ∧ lo ≤ hi ∧ hi ≤ (s.size : Int)) := by
      unfold sliceS at hx
      split at hx
      · cases hx
      · assumption
    simp only [slsAV, slsK]
    rw [bnds_none (l := lo) (h := hi) (.inl rfl) (.inl rfl) hc]
theorem sls_B (s : ByteArray) (k : IntKind) (lo : Int) : slsAV (.str s) (some (.int k lo)) none = slsK (sliceS s lo s.size) := by
  cases hx : sliceS s lo s.size with
  | some x => rw [sls_slL hx]; rfl
  | none =>
    have hc : ¬ (0 ≤ lo ∧ lo ≤ (s.size : Int) ∧ (s.size : Int) ≤ (s.size : Int)) := by
      unfold sliceS at hx
      split at hx
      · cases hx
      · assumption
    simp only [slsAV, slsK]
    rw [bnds_none (l := lo) (h := s.size) (.inl rfl) (.inr ⟨rfl, rfl⟩) hc]
theorem sls_C (s : ByteArray) (k : IntKind) (hi : Int) : slsAV (.str s) none (some (.int k hi)) = slsK (sliceS s 0 hi) := by
  cases hx : sliceS s 0 hi with
  | some x => rw [sls_slH hx]; rfl
  | none =>
    have hc : ¬ ((0 : Int) ≤ 0 ∧ 0 ≤ hi ∧ hi ≤ (s.size : Int)) := by
      unfold sliceS at hx
      split at hx
      · cases hx
      · assumption
    simp only [slsAV, slsK]
    rw [bnds_none (l := 0) (h := hi) (.inr ⟨rfl, rfl⟩) (.inl rfl) hc]
def catK (b : Bool) (s : ByteArray) : Option AV := if b = true then some (.str s) else none
theorem catK_t (s : ByteArray) : catK true s = some (.str s) := rfl
theorem bstr_cat (a b : ByteArray) : binStr .add a b = catK (catB a b) (a ++ b) := by
  simp only [binStr, catK, catB]
  by_cases h : a.size + b.size ≤ 1099511627776 <;> simp [h]
theorem bin_quoK (k : IntKind) (a b : Int) : binInt .quo k a b = quoK k (decide (b = 0)) (k.wrap (a.tdiv b)) := by
  rw [bin_quo]
  by_cases h : b = 0 <;> simp [h, quoK]
theorem bin_remK (k : IntKind) (a b : Int) : binInt .rem k a b = quoK k (decide (b = 0)) (a.tmod b) := by
  rw [bin_rem]
  by_cases h : b = 0 <;> simp [h, quoK]
end Go.Proofs.Ytcmejocmohohpaa.R

/- Bundles of equations. -/
set_option linter.unusedVariables false
set_option linter.unusedSimpArgs false
set_option linter.defProp false
noncomputable section
namespace Go.Proofs.Ytcmejocmohohpaa.R
open Go

theorem argE_nil (args : List AV) : argEnv args [] = [] := rfl
theorem argE_cons (args : List AV) (t : Nat) (r : List Nat) : argEnv args (t :: r) = (t, (match args[t]? with | some v => v | none => .un)) :: argEnv args r := rfl
theorem setAt_nil (n : Nat) (vs : List AV) : setAt [] n vs = [] := rfl
theorem setAt_zc (c v : AV) (cs vs : List AV) : setAt (c :: cs) 0 (v :: vs) = v :: setAt cs 0 vs := rfl
theorem setAt_zn (c : AV) (cs : List AV) : setAt (c :: cs) 0 [] = c :: cs := rfl
theorem setAt_s (c : AV) (cs : List AV) (n : Nat) (vs : List AV) : setAt (c :: cs) (n + 1) vs = c :: setAt cs n vs := rfl
theorem cB_int (k : IntKind) (n : Int) : cellB (.int k n) = true := rfl
theorem cB_bool (b : Bool) : cellB (.bool b) = true := rfl
theorem cB_str (s : ByteArray) : cellB (.str s) = true := rfl
theorem cB_nil : cellB .nil = true := rfl
theorem cB_own (es id off len : Nat) (ex : Bool) : cellB (.own es id off len ex) = true := rfl
theorem cB_ptr (id off : Nat) : cellB (.ptr id off) = true := rfl
theorem cB_eptr (id i f : Nat) : cellB (.eptr id i f) = true := rfl
theorem cB_iptr (row : List AV) (f : Nat) : cellB (.iptr row f) = true := rfl
theorem cB_fn (f : Fn) (a b : List AV) : cellB (.fn f a b) = true := rfl
theorem cB_imm (es : Nat) (rows : List (List AV)) (ex : Bool) : cellB (.imm es rows ex) = true := rfl
theorem cBs_nil : cellBs [] = true := rfl
theorem cBs_cons (v : AV) (r : List AV) : cellBs (v :: r) = (cellB v && cellBs r) := rfl
theorem cells_ptr (id off : Nat) : cellsOf (.ptr id off) = some [.ptr id off] := rfl
theorem cells_fn (f : Fn) (a b : List AV) : cellsOf (.fn f a b) = some [.fn f a b] := rfl
theorem pB_int (k : IntKind) (n : Int) : plainB (.int k n) = true := rfl
theorem pB_bool (b : Bool) : plainB (.bool b) = true := rfl
theorem pB_str (s : ByteArray) : plainB (.str s) = true := rfl
theorem pB_agg (cs : List AV) : plainB (.agg cs) = plainBs cs := rfl
theorem pB_tup (cs : List AV) : plainB (.tup cs) = plainBs cs := rfl
theorem pBs_nil : plainBs [] = true := rfl
theorem pBs_cons (v : AV) (r : List AV) : plainBs (v :: r) = (plainB v && plainBs r) := rfl
theorem iF_int (k : IntKind) (n : Int) : idFree (.int k n) = true := rfl
theorem iF_bool (b : Bool) : idFree (.bool b) = true := rfl
theorem iF_str (s : ByteArray) : idFree (.str s) = true := rfl
theorem iF_agg (cs : List AV) : idFree (.agg cs) = idFrees cs := rfl
theorem iF_tup (cs : List AV) : idFree (.tup cs) = idFrees cs := rfl
theorem iFs_nil : idFrees [] = true := rfl
theorem iFs_cons (v : AV) (r : List AV) : idFrees (v :: r) = (idFree v && idFrees r) := rfl
theorem ci_eq (k : IntKind) (n : Int) : ci k n = [.int k n] := rfl
theorem cb_eq (b : Bool) : cb b = [.bool b] := rfl
theorem cs_eq (s : ByteArray) : cs s = [.str s] := rfl
theorem cl_eq {α : Type} (c : α → List AV) (l : List α) : cl c l = [sl c l] := rfl
theorem limN_eq : limN = 549755813888 := rfl
theorem dropA_nil (H : Heap) : dropAll H [] = H := rfl
theorem dropA_cons (H : Heap) (id : Nat) (r : List Nat) : dropAll H (id :: r) = dropAll (rmv H id) r := rfl
theorem backId_eq (l : List Nat) (m nx j : Nat) : backId l m nx j = if j < m then l[j]? else some (nx + (j - m)) := rfl
theorem ctfz (P : Program) (f : Nat) : (cT P).fz f = true := rfl


section
variable {α β : Type}
theorem l_get0 (a : α) (l : List α) : (a :: l)[0]? = some a := rfl
theorem l_getS (a : α) (l : List α) (n : Nat) : (a :: l)[n + 1]? = l[n]? := rfl
theorem l_getN (n : Nat) : ([] : List α)[n]? = none := rfl
theorem l_lenC (a : α) (l : List α) : (a :: l).length = l.length + 1 := rfl
theorem l_lenN : ([] : List α).length = 0 := rfl
theorem l_appN (l : List α) : [] ++ l = l := rfl
theorem l_appC (a : α) (l l' : List α) : (a :: l) ++ l' = a :: (l ++ l') := rfl
theorem l_appR (l : List α) : l ++ [] = l := List.append_nil l
theorem l_mapC (f : α → β) (a : α) (l : List α) : (a :: l).map f = f a :: l.map f := rfl
theorem l_mapN (f : α → β) : ([] : List α).map f = [] := rfl
theorem l_dropZ (l : List α) : l.drop 0 = l := rfl
theorem l_dropS (a : α) (l : List α) (n : Nat) : (a :: l).drop (n + 1) = l.drop n := rfl
theorem l_dropN (n : Nat) : ([] : List α).drop n = [] := List.drop_nil
theorem l_takeZ (l : List α) : l.take 0 = [] := rfl
theorem l_takeS (a : α) (l : List α) (n : Nat) : (a :: l).take (n + 1) = a :: l.take n := rfl
theorem l_takeN (n : Nat) : ([] : List α).take n = [] := List.take_nil
theorem l_lenM (f : α → β) (l : List α) : (l.map f).length = l.length := List.length_map f
theorem l_lenA (l l' : List α) : (l ++ l').length = l.length + l'.length := List.length_append
theorem l_mapA (f : α → β) (l l' : List α) : (l ++ l').map f = l.map f ++ l'.map f := List.map_append
theorem l_getD (a b : α) : (some a).getD b = a := rfl
theorem l_getDn (b : α) : (none : Option α).getD b = b := rfl
theorem l_omap (f : α → β) (a : α) : (some a).map f = some (f a) := rfl
theorem l_omapn (f : α → β) : (none : Option α).map f = none := rfl
theorem l_or1 (a : α) (b : Option α) : (some a).or b = some a := rfl
theorem l_or2 (b : Option α) : (none : Option α).or b = b := rfl
theorem l_fmap (f : α → List β) (a : α) (l : List α) : (a :: l).flatMap f = f a ++ l.flatMap f := List.flatMap_cons
theorem l_fmapn (f : α → List β) : ([] : List α).flatMap f = [] := rfl
end
theorem l_range0 : List.range 0 = [] := rfl
theorem l_rangeS (n : Nat) : List.range (n + 1) = List.range n ++ [n] := List.range_succ
theorem l_mem (a b : Nat) (l : List Nat) : (a ∈ b :: l) = (a = b ∨ a ∈ l) := by simp
theorem l_memN (a : Nat) : (a ∈ ([] : List Nat)) = False := by simp
theorem b_and (a b : Bool) : ((a && b) = true) = (a = true ∧ b = true) := by simp
theorem b_or (a b : Bool) : ((a || b) = true) = (a = true ∨ b = true) := by simp
theorem b_beq (a b : Nat) : (Nat.beq a b = true) = (a = b) := by simp
theorem b_ff : (false = true) = False := by simp
theorem b_tt : (true = true) = True := by simp
theorem b_blt (a b : Nat) : (Nat.blt a b = true) = (a < b) := by simp
theorem b_cond {α : Type} (b : Bool) (x y : α) : (bif b then x else y) = if b = true then x else y := by cases b <;> rfl
theorem p_ta (p : Prop) : (True ∧ p) = p := by simp
theorem p_at (p : Prop) : (p ∧ True) = p := by simp
theorem p_fa (p : Prop) : (False ∧ p) = False := by simp
theorem p_af (p : Prop) : (p ∧ False) = False := by simp
theorem p_to (p : Prop) : (True ∨ p) = True := by simp
theorem p_ot (p : Prop) : (p ∨ True) = True := by simp
theorem p_fo (p : Prop) : (False ∨ p) = p := by simp
theorem p_of (p : Prop) : (p ∨ False) = p := by simp
theorem p_nt : (¬ True) = False := by simp
theorem p_nf : (¬ False) = True := by simp
theorem b_nt : (!true) = false := rfl
theorem b_nf : (!false) = true := rfl
theorem b_bb (b : Bool) : (b == true) = b := by cases b <;> rfl
theorem b_bc (b : Bool) : (b == false) = !b := by cases b <;> rfl
theorem b_ot (b : Bool) : (b || true) = true := by cases b <;> rfl
theorem b_of (b : Bool) : (b || false) = b := by cases b <;> rfl
theorem b_to (b : Bool) : (true || b) = true := rfl
theorem b_fo (b : Bool) : (false || b) = b := rfl
theorem b_ta (b : Bool) : (true && b) = b := rfl
theorem b_fa (b : Bool) : (false && b) = false := rfl
theorem b_at (b : Bool) : (b && true) = b := by cases b <;> rfl
theorem b_af (b : Bool) : (b && false) = false := by cases b <;> rfl
theorem z_le (n : Nat) : (0 ≤ n) = True := by simp
theorem n_add0 (n : Nat) : n + 0 = n := rfl
theorem n_0add (n : Nat) : 0 + n = n := Nat.zero_add n
theorem n_sub0 (n : Nat) : n - 0 = n := rfl
def EVa := And.intro @lk_nil (And.intro @lk_cons (And.intro @upd_nil (And.intro @upd_cons (And.intro @rmv_nil (And.intro @rmv_cons (And.intro @pos_nil (And.intro @pos_cons (And.intro @andThen_some (And.intro @andThen_none (And.intro @putR_some (And.intro @nowS_eq (And.intro @nowN_eq (And.intro @nowI_eq (And.intro @nowB_eq (And.intro @numV_eq (And.intro @truV_eq (And.intro @evOps_nil (And.intro @evOps_cons (And.intro @evIO_plain (And.intro @evIO_store (And.intro @guardK_some (And.intro @evIO_guard (And.intro @evIO_guardN (And.intro @get_mk (And.intro @updD_some (And.intro @updD_none (And.intro @put_mk (And.intro @putO_some (And.intro @putO_none (And.intro @ev_t (And.intro @ev_c (And.intro @keep_some (And.intro @keep_none (And.intro @bin_int (@bin_str)))))))))))))))))))))))))))))))))))
def EVb := And.intro @wantA_some (And.intro @wantA_none (And.intro @wantV_bool (And.intro @wantV_un (And.intro @eqb_bool (And.intro @nt_bool (And.intro @ngt_int (And.intro @cvt_int (And.intro @pick_bool (And.intro @bin_add (And.intro @bin_sub (And.intro @bin_mul (((And.intro @bin_eql (And.intro @bin_neq (And.intro @bin_lss (And.intro @bin_leq (And.intro @bin_gtr (And.intro @bin_geq (And.intro @ext_tup (And.intro @fld_agg (And.intro @part_agg (And.intro @part_one (And.intro @partK_some (And.intro @fa_ptr (And.intro @fa_eptr (And.intro @fa_iptr (And.intro @ld_iptr (And.intro @ld_ptr (And.intro @ldK_box (And.intro @lenl_nil (And.intro @lenl_own (And.intro @lens_str (And.intro @evs_nil (And.intro @evs_cons (And.intro @evp_nil (And.intro @evp_cons (And.intro @evq_nil (And.intro @evq_cons (And.intro @evo_none (And.intro @evo_some (And.intro @build_eq (And.intro @bldK_some (And.intro @fillA_nil (And.intro @fillA_cons (And.intro @fillK_some (And.intro @cells_agg (And.intro @cells_int (And.intro @cells_bool (And.intro @cells_str (And.intro @cells_nil (And.intro @cells_own (And.intro @add_mk (And.intro @setH_mk (And.intro @st_ptr (And.intro @stK_some (((And.intro @evDs_nil (And.intro @evDs_cons (And.intro @evD_eq (And.intro @drawA_eq (And.intro @endD_mk (And.intro @gateO_none (And.intro @gateO_some (And.intro @gateG_some (And.intro @gateD_ld (And.intro @gateL_some (And.intro @gateL_none (And.intro @idOf_ptr (And.intro @idOf_eptr (And.intro @idOf_iptr (@startB_nil)))))))))))))))))))))))))))))))))))))))))))))))))))))))))))))))))))))))))
def EVc := And.intro @lenl_sl (And.intro @frz_sl (And.intro @leak_sl (And.intro @ren_sl (And.intro @cell_sl (And.intro @idf_sl (And.intro @pl_sl (And.intro @cells_sl (And.intro @reach_sl (And.intro @bstr_eql (And.intro @bstr_neq (And.intro @bstr_lss (And.intro @bstr_leq (And.intro @bstr_gtr (And.intro @bstr_geq (And.intro @b2s_sl (And.intro @fzK_some (And.intro @fzRet_eq (And.intro @locC_eq (And.intro @locK_some (And.intro @frz_nil (And.intro @frz_imm0 (And.intro @frz_nilI (And.intro @leak_nilI (And.intro @ren_nilI (And.intro @cell_nilI (And.intro @idf_nilI (And.intro @pl_nilI (And.intro @cells_nilI (And.intro @lenl_nilI (And.intro @rows_nilI (And.intro @src_nilI (And.intro @reach_nilI (And.intro @frz_bool (And.intro @frz_int (And.intro @frz_str (And.intro @frz_agg (And.intro @frz_tup (And.intro @frzs_nil (And.intro @frzs_cons (And.intro @leak_bool (And.intro @leak_int (And.intro @leak_str (And.intro @leak_nil (And.intro @leak_agg (And.intro @leak_tup (And.intro @leaks_nil (And.intro @leaks_cons (And.intro @ren_bool (And.intro @ren_int (And.intro @ren_str (And.intro @ren_nil (And.intro @ren_un (And.intro @ren_bad (And.intro @ren_agg (And.intro @ren_tup (And.intro @ren_fn (And.intro @ren_imm (And.intro @renK_some (And.intro @ren_own (And.intro @ren_ptr (And.intro @ren_eptr (And.intro @rens_nil (And.intro @rens_cons (And.intro @renE_nil (And.intro @renE_cons (And.intro @renO_box (And.intro @renO_arr (And.intro @renHK_some (And.intro @renHK_none (And.intro @renHn (And.intro @renHc (And.intro @vals_nil (And.intro @vals_cons (And.intro @reach_nil (And.intro @reachK_box (And.intro @reachK_arr (And.intro @reachK_none (And.intro @reachJ_some (And.intro @reachJ_none (And.intro @reach_own (And.intro @reach_eptr (And.intro @reach_ptr (And.intro @reach_fn (And.intro @reach_agg (And.intro @reach_tup (And.intro @reach_int (And.intro @reach_bool (And.intro @reach_str (And.intro @reach_nilv (And.intro @reach_un (And.intro @reach_bad (And.intro @reach_oth (And.intro @reach_imm (And.intro @reach_iptr (And.intro @fuelR_eq (And.intro @box_eq (And.intro @boxK_box (And.intro @boxK_arr (And.intro @places_eq (And.intro @tidy_eq (And.intro @tidK_mk (And.intro @evW_nil (And.intro @evW_cons (And.intro @evWK_some (And.intro @ev1_kill (And.intro @kill_nil (And.intro @kill_cons (And.intro @inB_nil (And.intro @inB_cons (And.intro @ev1_tidy (And.intro @canK_some (And.intro @canG_zero (And.intro @canG_succ (And.intro @canN_some (And.intro @canN_none (And.intro @ev1_at (And.intro @atJ_some (And.intro @atK_some (And.intro @ev1_cell (And.intro @ceH_ptr (And.intro @ceJ_box (And.intro @ceI_some (And.intro @ceK_mk (And.intro @ceL_some (And.intro @wk_frz (And.intro @wk_nil (And.intro @wk_own (And.intro @retQ_some (And.intro @retL_eq (And.intro @retR (And.intro @retN (And.intro @res_nil (And.intro @res_tmp (And.intro @res_cell (And.intro @resT_some (And.intro @resC_some (And.intro @one_one (And.intro @one_two (And.intro @one_nil (And.intro @finQ_eq (And.intro @evR_eq (And.intro @evRD_eq (And.intro @clrK_some (And.intro @callT (And.intro @callL (And.intro @callv_fn (And.intro @sl_nil (@lk_app))))))))))))))))))))))))))))))))))))))))))))))))))))))))))))))))))))))))))))))))))))))))))))))))))))))))))))))))))))))))))))))))))))))))))))))))))))
def EVd := And.intro @argE_nil (And.intro @argE_cons (And.intro @setAt_nil (And.intro @setAt_zc (And.intro @setAt_zn (And.intro @setAt_s (And.intro @cB_int (And.intro @cB_bool (And.intro @cB_str (And.intro @cB_nil (And.intro @cB_own (And.intro @cB_ptr (And.intro @cB_eptr (And.intro @cB_iptr (And.intro @cB_fn (And.intro @cB_imm (And.intro @cBs_nil (And.intro @cBs_cons (And.intro @cells_ptr (And.intro @cells_fn (And.intro @pB_int (And.intro @pB_bool (And.intro @pB_str (And.intro @pB_agg (And.intro @pB_tup (And.intro @pBs_nil (And.intro @pBs_cons (And.intro @iF_int (And.intro @iF_bool (And.intro @iF_str (And.intro @iF_agg (And.intro @iF_tup (And.intro @iFs_nil (And.intro @iFs_cons (And.intro @ci_eq (And.intro @cb_eq (And.intro @cs_eq (And.intro @cl_eq (And.intro @limN_eq (And.intro @dropA_nil (And.intro @dropA_cons (And.intro @backId_eq (@ctfz))))))))))))))))))))))))))))))))))))))))))
def EVl := And.intro @l_get0 (And.intro @l_getS (And.intro @l_getN (And.intro @l_lenC (And.intro @l_lenN (And.intro @l_appN (And.intro @l_appC (And.intro @l_appR (And.intro @l_mapC (And.intro @l_mapN (And.intro @l_dropZ (And.intro @l_dropS (And.intro @l_dropN (And.intro @l_takeZ (And.intro @l_takeS (And.intro @l_takeN (And.intro @l_lenM (And.intro @l_lenA (And.intro @l_mapA (And.intro @l_getD (And.intro @l_getDn (And.intro @l_omap (And.intro @l_omapn (And.intro @l_or1 (And.intro @l_or2 (And.intro @l_fmap (And.intro @l_fmapn (And.intro @l_range0 (And.intro @l_rangeS (And.intro @l_mem (And.intro @l_memN (And.intro @b_and (And.intro @b_or (And.intro @b_beq (And.intro @b_ff (And.intro @b_tt (And.intro @b_blt (@b_cond)))))))))))))))))))))))))))))))))))))
def EVp := And.intro @p_ta (And.intro @p_at (And.intro @p_fa (And.intro @p_af (And.intro @p_to (And.intro @p_ot (And.intro @p_fo (And.intro @p_of (And.intro @p_nt (And.intro @p_nf (And.intro @b_nt (And.intro @b_nf (And.intro @b_bb (And.intro @b_bc (And.intro @b_ot (And.intro @b_of (And.intro @b_to (And.intro @b_fo (And.intro @b_ta (And.intro @b_fa (And.intro @b_at (And.intro @b_af (And.intro @z_le (And.intro @n_add0 (And.intro @n_0add (@n_sub0)))))))))))))))))))))))))
theorem b_tb (b : Bool) : (true == b) = b := by cases b <;> rfl
theorem b_fb (b : Bool) : (false == b) = !b := by cases b <;> rfl
theorem shr_ne : shB .shr = true := rfl
theorem iaa_2 (size id off : Nat) (k : IntKind) (i : Int) : iaaAV size 2 (.ptr id off) (.int k i) = if decide (i = 0) = true then some (.ptr id off) else if decide (i = 1) = true then some (.ptr id (off + size)) else none := by
  rw [iaa_ptr]
  by_cases h0 : i = 0
  · subst h0; simp
  · by_cases h1 : i = 1
    · subst h1; simp
    · have : ¬ (0 ≤ i ∧ i < ((2 : Nat) : Int)) := by omega
      rw [if_neg this]; simp [h0, h1]
theorem iaa_3 (size id off : Nat) (k : IntKind) (i : Int) : iaaAV size 3 (.ptr id off) (.int k i) = if decide (i = 0) = true then some (.ptr id off) else if decide (i = 1) = true then some (.ptr id (off + size)) else if decide (i = 2) = true then some (.ptr id (off + 2 * size)) else none := by
  rw [iaa_ptr]
  by_cases h0 : i = 0
  · subst h0; simp
  · by_cases h1 : i = 1
    · subst h1; simp
    · by_cases h2 : i = 2
      · subst h2; simp
      · have : ¬ (0 ≤ i ∧ i < ((3 : Nat) : Int)) := by omega
        rw [if_neg this]; simp [h0, h1, h2]
theorem ixa_2 (size : Nat) (a : Bool) (cs : List AV) (k : IntKind) (i : Int) : ixaAV a size 2 (.agg cs) (.int k i) = if decide (i = 0) = true then part a size cs 0 else if decide (i = 1) = true then part a size cs size else none := by
  rw [ixa_agg]
  by_cases h0 : i = 0
  · subst h0; simp
  · by_cases h1 : i = 1
    · subst h1; simp
    · have : ¬ (0 ≤ i ∧ i < ((2 : Nat) : Int)) := by omega
      rw [if_neg this]; simp [h0, h1]
theorem ixa_3 (size : Nat) (a : Bool) (cs : List AV) (k : IntKind) (i : Int) : ixaAV a size 3 (.agg cs) (.int k i) = if decide (i = 0) = true then part a size cs 0 else if decide (i = 1) = true then part a size cs size else if decide (i = 2) = true then part a size cs (2 * size) else none := by
  rw [ixa_agg]
  by_cases h0 : i = 0
  · subst h0; simp
  · by_cases h1 : i = 1
    · subst h1; simp
    · by_cases h2 : i = 2
      · subst h2; simp
      · have : ¬ (0 ≤ i ∧ i < ((3 : Nat) : Int)) := by omega
        rw [if_neg this]; simp [h0, h1, h2]
theorem iaa_i2 (size : Nat) (row : List AV) (f : Nat) (k : IntKind) (i : Int) : iaaAV size 2 (.iptr row f) (.int k i) = if decide (i = 0) = true then some (.iptr row f) else if decide (i = 1) = true then some (.iptr row (f + size)) else none := by
  simp only [iaaAV]
  by_cases h0 : i = 0
  · subst h0; simp
  · by_cases h1 : i = 1
    · subst h1; simp
    · have : ¬ (0 ≤ i ∧ i < ((2 : Nat) : Int)) := by omega
      rw [if_neg this]; simp [h0, h1]
theorem iaa_i3 (size : Nat) (row : List AV) (f : Nat) (k : IntKind) (i : Int) : iaaAV size 3 (.iptr row f) (.int k i) = if decide (i = 0) = true then some (.iptr row f) else if decide (i = 1) = true then some (.iptr row (f + size)) else if decide (i = 2) = true then some (.iptr row (f + 2 * size)) else none := by
  simp only [iaaAV]
  by_cases h0 : i = 0
  · subst h0; simp
  · by_cases h1 : i = 1
    · subst h1; simp
    · by_cases h2 : i = 2
      · subst h2; simp
      · have : ¬ (0 ≤ i ∧ i < ((3 : Nat) : Int)) := by omega
        rw [if_neg this]; simp [h0, h1, h2]
theorem sl_app {α : Type} (c : α → List AV) (l l' : List α) : sl c (l ++ l') = canI (l.map c ++ l'.map c) := by simp [sl, List.map_append]
theorem sl_cons {α : Type} (c : α → List AV) (x : α) (l : List α) : sl c (x :: l) = canI (c x :: l.map c) := rfl
theorem canI_nil : canI [] = nilI := rfl
theorem ca_frz (H : Heap) (rows : List (List AV)) : frz H (canI rows) = canI rows := rfl
theorem ca_leak (H : Heap) (rows : List (List AV)) : leakV H (canI rows) = H := rfl
theorem ca_ren (f : Nat → Option Nat) (rows : List (List AV)) : ren f (canI rows) = canI rows := rfl
theorem ca_cell (rows : List (List AV)) : cellB (canI rows) = true := rfl
theorem ca_idf (rows : List (List AV)) : idFree (canI rows) = true := rfl
theorem ca_pl (rows : List (List AV)) : plainB (canI rows) = false := rfl
theorem ca_cells (rows : List (List AV)) : cellsOf (canI rows) = some [canI rows] := rfl
theorem ca_len (rows : List (List AV)) : lenlAV (canI rows) = some (.int .i64 rows.length) := rfl
theorem ca_reach (H : Heap) (k : Nat) (rows : List (List AV)) (todo : List AV) (acc : List Nat) : reach H (k + 1) (canI rows :: todo) acc = reach H k todo acc := by simp [canI, reach]
theorem ca_rows (n : Nat) (H : Heap) (r : List AV) (rs : List (List AV)) : rowsOf n H (canI (r :: rs)) = if r.length = n then some (r :: rs) else none := by
  simp only [canI, rowsOf, esOf, esFit, List.isEmpty_cons, Bool.false_or]
  by_cases h : r.length = n
  · subst h; simp
  · have : Nat.beq n r.length = false := by
      cases hb : Nat.beq n r.length with
      | false => rfl
      | true => exact absurd (Nat.eq_of_beq_eq_true hb).symm h
    simp [h, this]
theorem ca_src (n : Nat) (H : Heap) (r : List AV) (rs : List (List AV)) : srcRows n H (canI (r :: rs)) = if r.length = n then some (r :: rs) else none := ca_rows n H r rs
theorem ca_map {α : Type} (c : α → List AV) (l : List α) : canI (l.map c) = sl c l := rfl
theorem b_dt (h : Decidable True) : @decide True h = true := by simp
theorem b_df (h : Decidable False) : @decide False h = false := by simp
theorem tab_neP (l : List (Nat × List AV × Heap × Nat × (AV × Heap × Nat))) (f g m m' : Nat) (args args' : List AV) (H H' : Heap) (x : AV × Heap × Nat) (h : ¬ g = f) : tab ((f, args, H, m, x) :: l) g args' H' m' = tab l g args' H' m' := tab_ne l f g m m' args args' H H' x (by cases hb : Nat.beq g f with | false => rfl | true => exact absurd (Nat.eq_of_beq_eq_true hb) h)
def EVw := And.intro @sl_app <| And.intro @iaa_2 <| And.intro @iaa_3 <| And.intro @ixa_2 <| And.intro @ixa_3 <| And.intro @iaa_i2 <| And.intro @iaa_i3 <| And.intro @sll_empty <| And.intro @byteRows_eq <| And.intro @bin_shr <| And.intro @bin_shl <| And.intro @bin_intS <| And.intro @shl_ne <| And.intro @shr_ne <| And.intro @ca_map <| And.intro @b_dt <| And.intro @b_df <| And.intro @rows_sl <| And.intro @src_sl <| And.intro @sl_cons <| And.intro @canI_nil <| And.intro @ca_frz <| And.intro @ca_leak <| And.intro @ca_ren <| And.intro @ca_cell <| And.intro @ca_idf <| And.intro @ca_pl <| And.intro @ca_cells <| And.intro @ca_len <| And.intro @ca_reach <| And.intro @ca_rows <| And.intro @ca_src <| And.intro @tab_self <| And.intro @tab_neP <| And.intro @b_tb (And.intro @b_fb (And.intro @newK_t (And.intro @newArr_eq (And.intro @app_eq (And.intro @appK_nil (And.intro @appK_imm (And.intro @appK_own (And.intro @appO_f (And.intro @appO_t (And.intro @src_own0 (And.intro @rows_own0 (And.intro @ownRK_arr (And.intro @src_nil0 (And.intro @src_str (And.intro @frz_own0 (And.intro @frzOK_map (And.intro @frzOK_rows (And.intro @leak_own0 (And.intro @leakAt_nil (And.intro @leakAt_cons (And.intro @leakOb_arr (And.intro @leakOb_box (And.intro @max_0 (And.intro @max_s (And.intro @bsl_eq (And.intro @bslK_some (And.intro @fillR_nil (And.intro @fillR_cons (And.intro @fillRK_some (And.intro @leakA_nil (And.intro @leakA_cons (And.intro @rep_0 (And.intro @rep_s (And.intro @set_0 (And.intro @set_s (And.intro @s2b_eq (And.intro @capB_0 (And.intro @capB_1 (And.intro @capB_2 (And.intro @capB_3 (And.intro @capB_4 (And.intro @capB_5 (And.intro @capB_6 (And.intro @capB_7 (And.intro @capB_8 (And.intro @mx_int (And.intro @mn_int (And.intro @nc_ptr (And.intro @nc_eptr (And.intro @nc_iptr (And.intro @nc_fn (And.intro @eqc_eq (And.intro @eqcK_f (And.intro @eqcK_t (And.intro @andO_some (And.intro @eqCs_nil (And.intro @eqCs_cons (And.intro @eqcC_int (And.intro @eqcC_bool (And.intro @eqcC_str (And.intro @i_eq (And.intro @n_eq (And.intro @n_le (And.intro @k_eq (And.intro @i_beq (And.intro @iasK_some (And.intro @ias_sl0 (And.intro @ias_nilI (And.intro @sllK_some (And.intro @sll_slA (And.intro @sll_slB (And.intro @sll_slC (And.intro @ixsK_some (And.intro @ixs_eq (And.intro @slsK_some (And.intro @sls_A (And.intro @sls_B (And.intro @sls_C (And.intro @catK_t (And.intro @bstr_cat (And.intro @quoK_f (And.intro @bin_quoK (@bin_remK)))))))))))))))))))))))))))))))))))))))))))))))))))))))))))))))))))))))))))))))))))
def EV := And.intro EVw <| And.intro EVp <| And.intro EVl (And.intro EVa (And.intro EVb (And.intro EVc EVd)))
theorem gt_mv (c : Cfg) (k : List (Nat × Nat)) (base i : Nat) (s : St) (x : Opd) : gateD c k base i s (.mv x) = true := rfl
theorem gt_pick (c : Cfg) (k : List (Nat × Nat)) (base i : Nat) (s : St) (x y z : Opd) : gateD c k base i s (.pick x y z) = true := rfl
theorem gt_bin (c : Cfg) (k : List (Nat × Nat)) (base i : Nat) (s : St) (o : BinOp) (x y : Opd) : gateD c k base i s (.bin o x y) = true := rfl
theorem gt_eqb (c : Cfg) (k : List (Nat × Nat)) (base i : Nat) (s : St) (g : Bool) (x y : Opd) : gateD c k base i s (.eqb g x y) = true := rfl
theorem gt_eqc (c : Cfg) (k : List (Nat × Nat)) (base i : Nat) (s : St) (g : Bool) (l : List (Nat × Nat)) (x y : Opd) : gateD c k base i s (.eqc g l x y) = true := rfl
theorem gt_ngt (c : Cfg) (k : List (Nat × Nat)) (base i : Nat) (s : St) (x : Opd) : gateD c k base i s (.ngt x) = true := rfl
theorem gt_nt (c : Cfg) (k : List (Nat × Nat)) (base i : Nat) (s : St) (x : Opd) : gateD c k base i s (.nt x) = true := rfl
theorem gt_cvt (c : Cfg) (k : List (Nat × Nat)) (base i : Nat) (s : St) (q : IntKind) (x : Opd) : gateD c k base i s (.cvt q x) = true := rfl
theorem gt_cst (c : Cfg) (k : List (Nat × Nat)) (base i : Nat) (s : St) (x : Opd) : gateD c k base i s (.cst x) = true := rfl
theorem gt_build (c : Cfg) (k : List (Nat × Nat)) (base i : Nat) (s : St) (z : List AV) (ps : List (Nat × Nat × Opd)) : gateD c k base i s (.build z ps) = true := rfl
theorem gt_fld (c : Cfg) (k : List (Nat × Nat)) (base i : Nat) (s : St) (a : Bool) (z o : Nat) (x : Opd) : gateD c k base i s (.fld a z o x) = true := rfl
theorem gt_ext (c : Cfg) (k : List (Nat × Nat)) (base i : Nat) (s : St) (j : Nat) (x : Opd) : gateD c k base i s (.ext j x) = true := rfl
theorem gt_fa (c : Cfg) (k : List (Nat × Nat)) (base i : Nat) (s : St) (o : Nat) (x : Opd) : gateD c k base i s (.fa o x) = true := rfl
theorem gt_ias (c : Cfg) (k : List (Nat × Nat)) (base i : Nat) (s : St) (z : Nat) (x y : Opd) : gateD c k base i s (.ias z x y) = true := rfl
theorem gt_iaa (c : Cfg) (k : List (Nat × Nat)) (base i : Nat) (s : St) (z l : Nat) (x y : Opd) : gateD c k base i s (.iaa z l x y) = true := rfl
theorem gt_ixs (c : Cfg) (k : List (Nat × Nat)) (base i : Nat) (s : St) (x y : Opd) : gateD c k base i s (.ixs x y) = true := rfl
theorem gt_ixa (c : Cfg) (k : List (Nat × Nat)) (base i : Nat) (s : St) (a : Bool) (z l : Nat) (x y : Opd) : gateD c k base i s (.ixa a z l x y) = true := rfl
theorem gt_sls (c : Cfg) (k : List (Nat × Nat)) (base i : Nat) (s : St) (x : Opd) (lo hi : Option Opd) : gateD c k base i s (.sls x lo hi) = true := rfl
theorem gt_sll (c : Cfg) (k : List (Nat × Nat)) (base i : Nat) (s : St) (z : Nat) (x : Opd) (lo hi mx : Option Opd) : gateD c k base i s (.sll z x lo hi mx) = true := rfl
theorem gt_mkf (c : Cfg) (k : List (Nat × Nat)) (base i : Nat) (s : St) (f : Nat) (a b : List Opd) : gateD c k base i s (.mkf f a b) = true := rfl
theorem gt_nc (c : Cfg) (k : List (Nat × Nat)) (base i : Nat) (s : St) (x : Opd) : gateD c k base i s (.nc x) = true := rfl
theorem gt_lens (c : Cfg) (k : List (Nat × Nat)) (base i : Nat) (s : St) (x : Opd) : gateD c k base i s (.lens x) = true := rfl
theorem gt_lenl (c : Cfg) (k : List (Nat × Nat)) (base i : Nat) (s : St) (x : Opd) : gateD c k base i s (.lenl x) = true := rfl
theorem gt_mx (c : Cfg) (k : List (Nat × Nat)) (base i : Nat) (s : St) (x y : Opd) : gateD c k base i s (.mx x y) = true := rfl
theorem gt_mn (c : Cfg) (k : List (Nat × Nat)) (base i : Nat) (s : St) (x y : Opd) : gateD c k base i s (.mn x y) = true := rfl
theorem gt_alloc (c : Cfg) (k : List (Nat × Nat)) (base i : Nat) (s : St) (z : List AV) : gateD c k base i s (.alloc z) = true := rfl
theorem gt_st (c : Cfg) (k : List (Nat × Nat)) (base i : Nat) (s : St) (z : Nat) (p x : Opd) : gateD c k base i s (.st z p x) = true := rfl
theorem gt_app (c : Cfg) (k : List (Nat × Nat)) (base i : Nat) (s : St) (z : Nat) (x y : Opd) : gateD c k base i s (.app z x y) = true := rfl
theorem gt_call (c : Cfg) (k : List (Nat × Nat)) (base i : Nat) (s : St) (f : Nat) (as : List Opd) : gateD c k base i s (.call f as) = (c.fz f && (!(memP k i i) || ownFrees (s.evs as))) := rfl
theorem gt_bsl (c : Cfg) (k : List (Nat × Nat)) (base i : Nat) (s : St) (es : Nat) (z : List AV) (n : Nat) (ps : List (Nat × Opd)) : gateD c k base i s (.bsl es z n ps) = (!(memP k i i) || ps.all fun p => ownFree (s.ev p.2)) := rfl
theorem mp_nil (i j : Nat) : memP [] i j = false := rfl
theorem mp_cons (a b : Nat) (r : List (Nat × Nat)) (i j : Nat) : memP ((a, b) :: r) i j = ((Nat.beq a i && Nat.beq b j) || memP r i j) := rfl
theorem nb_ne (a b : Nat) (h : ¬ a = b) : Nat.beq a b = false := by
  cases hb : Nat.beq a b with
  | false => rfl
  | true => exact absurd (Nat.eq_of_beq_eq_true hb) h
theorem nb_eq (a : Nat) : Nat.beq a a = true := Nat.beq_refl a
theorem of_int (k : IntKind) (n : Int) : ownFree (.int k n) = true := rfl
theorem of_bool (b : Bool) : ownFree (.bool b) = true := rfl
theorem of_str (s : ByteArray) : ownFree (.str s) = true := rfl
theorem of_nil : ownFree .nil = true := rfl
theorem of_nilI : ownFree nilI = true := rfl
theorem of_sl {α : Type} (c : α → List AV) (l : List α) : ownFree (sl c l) = true := rfl
theorem of_ptr (id off : Nat) : ownFree (.ptr id off) = true := rfl
theorem of_own (es id off len : Nat) (ex : Bool) : ownFree (.own es id off len ex) = false := rfl
theorem of_agg (cs : List AV) : ownFree (.agg cs) = ownFrees cs := rfl
theorem of_tup (cs : List AV) : ownFree (.tup cs) = ownFrees cs := rfl
theorem ofs_nil : ownFrees [] = true := rfl
theorem ofs_cons (v : AV) (r : List AV) : ownFrees (v :: r) = (ownFree v && ownFrees r) := rfl
theorem al_nil (f : Nat × Opd → Bool) : ([] : List (Nat × Opd)).all f = true := rfl
theorem al_cons (f : Nat × Opd → Bool) (p : Nat × Opd) (r : List (Nat × Opd)) : (p :: r).all f = (f p && r.all f) := rfl
def stB (ios : List Iop) (s : St) (i j : Nat) : Option Opd → Option Opd → Bool
  | some p, some q => Nat.beq i j || neId (s.ev p) (s.ev q)
  | _, _ => Nat.beq i j
theorem startB_cons (ios : List Iop) (s : St) (i j : Nat) (r : List (Nat × Nat)) : startB ios s ((i, j) :: r) = (stB ios s i j (ptrOf ios[i]?) (ptrOf ios[j]?) && startB ios s r) := by
  simp only [startB, stB]
  cases ptrOf ios[i]? with
  | none => simp
  | some p => cases ptrOf ios[j]? <;> simp
theorem stB_some (ios : List Iop) (s : St) (i j : Nat) (p q : Opd) : stB ios s i j (some p) (some q) = (Nat.beq i j || neId (s.ev p) (s.ev q)) := rfl
theorem stB_none (ios : List Iop) (s : St) (i : Nat) (q : Option Opd) : stB ios s i i none q = true := by simp [stB]
theorem po_ld (d : Option Nat) (g : Option (Nat × Bool)) (a : Bool) (z : Nat) (p : Opd) : ptrOf (some ⟨d, g, .ld a z p⟩) = some p := rfl
theorem po_st (d : Option Nat) (g : Option (Nat × Bool)) (z : Nat) (p x : Opd) : ptrOf (some ⟨d, g, .st z p x⟩) = some p := rfl
theorem po_call (d : Option Nat) (g : Option (Nat × Bool)) (f : Nat) (as : List Opd) : ptrOf (some ⟨d, g, .call f as⟩) = none := rfl
theorem po_bsl (d : Option Nat) (g : Option (Nat × Bool)) (es : Nat) (z : List AV) (n : Nat) (ps : List (Nat × Opd)) : ptrOf (some ⟨d, g, .bsl es z n ps⟩) = none := rfl
theorem ne_pp (i o j q : Nat) : neId (.ptr i o) (.ptr j q) = !(Nat.beq i j) := rfl
def EVg := And.intro @gt_mv (And.intro @gt_pick (And.intro @gt_bin (And.intro @gt_eqb (And.intro @gt_eqc (And.intro @gt_ngt (And.intro @gt_nt (And.intro @gt_cvt (And.intro @gt_cst (And.intro @gt_build (And.intro @gt_fld (And.intro @gt_ext (And.intro @gt_fa (And.intro @gt_ias (And.intro @gt_iaa (And.intro @gt_ixs (And.intro @gt_ixa (And.intro @gt_sls (And.intro @gt_sll (And.intro @gt_mkf (And.intro @gt_nc (And.intro @gt_lens (And.intro @gt_lenl (And.intro @gt_mx (And.intro @gt_mn (And.intro @gt_alloc (And.intro @gt_st (And.intro @gt_app (And.intro @gt_call (And.intro @gt_bsl (And.intro @mp_nil (And.intro @mp_cons (And.intro @nb_ne (And.intro @nb_eq (And.intro @of_int (And.intro @of_bool (And.intro @of_str (And.intro @of_nil (And.intro @of_nilI (And.intro @of_sl (And.intro @of_ptr (And.intro @of_own (And.intro @of_agg (And.intro @of_tup (And.intro @ofs_nil (And.intro @ofs_cons (And.intro @al_nil (And.intro @al_cons (And.intro @startB_cons (And.intro @stB_some (And.intro @stB_none (And.intro @po_ld (And.intro @po_st (And.intro @po_call (And.intro @po_bsl (@ne_pp)))))))))))))))))))))))))))))))))))))))))))))))))))))))
end Go.Proofs.Ytcmejocmohohpaa.R

