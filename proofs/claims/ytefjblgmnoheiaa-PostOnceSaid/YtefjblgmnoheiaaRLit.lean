/- Literal slices, bytes of texts, copy. -/
import Derived.Test.YtefjblgmnoheiaaRMake
set_option linter.unusedVariables false
set_option linter.unusedSectionVars false
set_option linter.unusedSimpArgs false
noncomputable section
namespace Go.Proofs.Ytefjblgmnoheiaa.R
open Go
def VRq (w : World) (U : Nat → Nat → Prop) (ρ : Rho) : List (Nat × AV) → List (Nat × Value) → Prop
  | [], ps => ps = []
  | (i, a) :: r, ps => ∃ x q, ps = (i, x) :: q ∧ VR w U ρ a x ∧ VRq w U ρ r q
theorem leakAll_leaked : ∀ (ps : List (Nat × AV)) (H : Heap), Leaked H (leakAll H ps)
  | [], H => Leaked.refl _
  | (i, v) :: r, H => (leakV_leaked v H).trans (leakAll_leaked r _)
section
variable {P : Program} {w : World} {A : Nat → Nat → Prop} {U : Nat → Nat → Prop} {ρ : Rho}
theorem VRq_evp {s : St} {a : Act} (hv : Vals w U ρ s a) : ∀ {pl : List (Nat × Operand)} {ps : List (Nat × Opd)}, partsOf pl = some ps → VRq w U ρ (s.evp ps) (pl.map fun p => (p.1, a.eval p.2))
  | [], ps, h => by simp only [partsOf, Option.some.injEq] at h; subst h; simp [St.evp, VRq]
  | (i, x) :: pl, ps, h => by
    simp only [partsOf] at h
    split at h
    · rename_i y q e1 e2
      simp only [Option.some.injEq] at h
      subst h
      simp only [St.evp, List.map_cons, VRq]
      exact ⟨_, _, rfl, VR_opd hv e1, VRq_evp hv e2⟩
    · cases h
theorem putVals_toList_size (xs : Array Value) (off : Nat) (ys : List Value) : (putVals xs off ys).toList.length = xs.size := by
  simp [putVals, putVals_size]
theorem ARs_put {es i : Nat} {rows : List (List AV)} {vs : List AV} {xs : Array Value} {ys : List Value} (hA : ARs w U es rows xs.toList) (hv : VRs w U noRho vs ys) (hone : ∀ y ∈ ys, oneB y = true) (hl : vs.length = es) (hi : i < rows.length) :
    ARs w U es (rows.set i vs) (putVals xs (i * es) ys).toList := by
  have hly := VRs_length hv
  have hcl : xs.toList.length = xs.size := by simp
  have hget : ∀ k, (putVals xs (i * es) ys).toList[k]? = if i * es ≤ k ∧ k < i * es + ys.length ∧ k < xs.size then ys[k - i * es]? else xs.toList[k]? := by
    intro k
    have := putVals_get ys 0 (i * es) xs k
    simp only [Nat.add_zero] at this
    rw [Array.getElem?_toList, putVals, this]
    split
    · rfl
    · rw [Array.getElem?_toList]
  refine ARs_mk fun j r hj => ?_
  rw [putVals_toList_size]
  by_cases hij : i = j
  · subst hij
    rw [List.getElem?_set_self hi] at hj
    obtain rfl := Option.some.inj hj
    obtain ⟨g1, g2, g3, g4⟩ := ARs_get hA (List.getElem?_eq_getElem hi)
    rw [hcl, Nat.succ_mul] at g2
    have heq : ((putVals xs (i * es) ys).toList.drop (i * es)).take es = ys := by
      apply List.ext_getElem?
      intro q
      rw [List.getElem?_take]
      split
      · rename_i hq
        rw [List.getElem?_drop, hget, if_pos (by omega)]
        congr 1; omega
      · rename_i hq
        rw [List.getElem?_eq_none (by omega)]
    rw [heq]
    exact ⟨hl, by rw [Nat.succ_mul]; omega, hv, hone⟩
  · rw [List.getElem?_set_ne hij] at hj
    obtain ⟨g1, g2, g3⟩ := ARs_get hA hj
    have heq : ((putVals xs (i * es) ys).toList.drop (j * es)).take es = (xs.toList.drop (j * es)).take es := by
      apply List.ext_getElem?
      intro q
      rw [List.getElem?_take, List.getElem?_take]
      split
      · rename_i hq
        rw [List.getElem?_drop, List.getElem?_drop, hget, if_neg]
        intro hh
        rcases Nat.lt_or_gt_of_ne hij with hlt | hlt
        · have : (i + 1) * es ≤ j * es := Nat.mul_le_mul_right _ hlt
          rw [Nat.succ_mul] at this; omega
        · have : (j + 1) * es ≤ i * es := Nat.mul_le_mul_right _ hlt
          rw [Nat.succ_mul] at this; omega
      · rfl
    rw [heq]
    exact ⟨g1, by rw [hcl] at g2; exact g2, g3⟩
theorem fillRows_spec {H : Heap} {nx : Nat} (hr : Rep A ρ H nx w) {es : Nat} : ∀ {ps : List (Nat × AV)} {qs : List (Nat × Value)} {rows r : List (List AV)} {xs : Array Value} (H1 H' : Heap), Leaked H H1 → Leaked (leakAll H1 ps) H' → VRq w (UU A ρ H) ρ ps qs →
    ARs w (UU A ρ H') es rows xs.toList → fillRows es H rows ps = some r → ∃ ys : Array Value, Instr.fill (fun i => some (i * es, es)) xs qs = some ys ∧ ys.size = xs.size ∧ r.length = rows.length ∧ ARs w (UU A ρ H') es r ys.toList
  | [], qs, rows, r, xs, H1, H', hl1, hl, hq, hA, h => by
    simp only [VRq] at hq
    subst hq
    simp only [fillRows, Option.some.injEq] at h
    subst h
    exact ⟨xs, rfl, rfl, rfl, hA⟩
  | (i, v) :: ps, qs, rows, r, xs, H1, H', hl1, hl, hq, hA, h => by
    simp only [VRq] at hq
    obtain ⟨x, q, rfl, hv, hq⟩ := hq
    simp only [fillRows] at h
    split at h
    · rename_i vs hvs
      split at h
      · rename_i hc
        obtain ⟨c1, c2, c3, c4⟩ := hc
        have hV := VR_frz hr v H1 hl1 H' ((leakAll_leaked ps _).trans hl) x hv
        have hX := VRs_cells hvs hV
        have hlx := VRs_length hX
        have hxs : x.cells.toList.length = x.cells.size := by simp
        have hsz := ARs_len hA
        have hcl : xs.toList.length = xs.size := by simp
        have h5 : (i + 1) * es ≤ rows.length * es := Nat.mul_le_mul_right _ c2
        rw [Nat.succ_mul] at h5
        obtain ⟨ys, g1, g2, g3, g4⟩ := fillRows_spec hr (leakV H1 v) H' (hl1.trans (leakV_leaked v H1)) hl hq (ARs_put hA hX (VRs_one c4 hX) c1 c2) h
        refine ⟨ys, ?_, by rw [g2]; simpa using putVals_toList_size xs (i * es) x.cells.toList, by rw [g3]; simp, g4⟩
        have c5 : x.cells.size = es := by omega
        have c6 : ¬ (i * es + es > xs.size) := by omega
        simp only [Instr.fill, c5]
        rw [if_neg (by simp [c6])]
        rw [← g1]
        congr 1
        simp only [putVals, ← Array.foldl_toList, Array.toList_zipIdx]
      · cases h
    · cases h
theorem snd_bsl {s s' : St} (hr : Rep A ρ s.H s.nx w) {t : TypeId} {es : Nat} {z : List AV} (hT : ElTy P t es z) {len : Nat} (hlen : len * es ≤ 16777216) {ps : List (Nat × AV)} {qs : Array (Nat × Value)} (hq : VRq w (UU A ρ s.H) ρ ps qs.toList) {v : AV} (h : bslAV es z len s ps = some (v, s')) :
    ∃ x w', (Instr.buildSlice t len qs).run P w = .ok x w' ∧ Post A ρ s w v s' x w' := by
  unfold bslAV at h
  split at h
  · rename_i rows hrows
    simp only [Option.some.injEq, Prod.mk.injEq] at h
    obtain ⟨rfl, rfl⟩ := h
    obtain ⟨e, xe, g1, g2, g3, g4, g5, rfl, g6⟩ := hT.ex
    obtain ⟨z0, g3, rfl⟩ := g3
    obtain ⟨zv, hz1, hz2, hz3⟩ := zeroCells_specF g3
    have hl := leakAll_leaked ps s.H
    have hvz : VRs w (UU A ρ (leakAll s.H ps)) noRho (frzs [] z0) zv.cells.toList := hz3
    have hA := ARs_zeros (w := w) (n := len) (c := len) g4 g5 hvz (VRs_one hz2 hvz) (Nat.le_refl _)
    obtain ⟨ys, k1, k2, k3, k4⟩ := fillRows_spec hr s.H _ (Leaked.refl _) (Leaked.refl _) hq hA hrows
    have hr1 : Rep A ρ (s.setH (leakAll s.H ps)).H (s.setH (leakAll s.H ps)).nx w := Rep_leak hr hl
    have hsz : (zeros zv.cells (len * xe.size)).size = len * xe.size := by simp [zeros]
    have hrl : rows.length = len := by simpa using k3
    have hrun : (Instr.buildSlice t len qs).run P w = .ok (.slice (some ⟨w.heap.size, 0, none⟩) len len) (pushW w (.cells ys e)) := by
      have c1 : ¬ (len * xe.size > 2 ^ 24) := by
        have : (2 : Nat) ^ 24 = 16777216 := by decide
        omega
      by_cases hz : len * xe.size = 0
      · have hzz : zeros zv.cells 0 = #[] := by simp [zeros]
        rw [hz, hzz] at k1
        have hr0 : (Array.range 0).map ((#[] : Array Value)[· % 0]!) = #[] := by simp
        simp only [Instr.buildSlice, Sem.run_bind, run_underlying g1, Result.andThen_ok, run_sizeOf' g2, Sem.run_ite, if_neg c1, Sem.run_pure, hz, if_true, List.size_toArray, List.length_nil, Array.size_empty]
        simp only [Array.range_zero', Array.map_empty]
        rw [k1]
        simp [newRow]
        rfl
      · simp only [Instr.buildSlice, Sem.run_bind, run_underlying g1, Result.andThen_ok, run_sizeOf' g2, Sem.run_ite, if_neg c1, Sem.run_pure, if_neg hz, run_zero' g2 hz1]
        have : (Array.range (len * xe.size)).map (zv.cells[· % zv.cells.size]!) = zeros zv.cells (len * xe.size) := rfl
        rw [this, k1]
        simp [newRow]
        rfl
    refine ⟨_, _, hrun, ?_⟩
    have := snd_newBlock (A := A) (s := s.setH (leakAll s.H ps)) (fr := (0, 0)) (e := e) (C := ys) hr1 g4 k4 (unfr_none _) (cap := len) (ex := true) (by rw [k2, hsz]; exact Nat.le_refl _) (by omega) (by intro _; omega) 0
    rw [hrl] at this
    exact Post.sub (s1 := s.setH (leakAll s.H ps)) rfl rfl rfl (fun b o => Wr_leak hl) this
  · cases h
theorem push_modify (w : World) (o : Obj) (f : Obj → Obj) : (w.heap.push o).modify w.heap.size f = w.heap.push (f o) := by
  apply Array.ext
  · simp
  · intro i h1 h2
    simp only [Array.size_modify, Array.size_push] at h1
    rw [Array.getElem_modify]
    by_cases hi : i = w.heap.size
    · subst hi; simp
    · have : i < w.heap.size := by omega
      rw [if_neg (by omega), Array.getElem_push_lt this, Array.getElem_push_lt this]
theorem snd_s2b {s s' : St} (hr : Rep A ρ s.H s.nx w) {a b e : TypeId} {xs xd xe : TI} (ha : tyOf P a = some xs) (hb : tyOf P b = some xd) (hd : xd.desc = .slice e) (he : tyOf P e = some xe) (hu : xe.desc = .int .u8) {X : Value} {x v : AV} (hx : VR w U ρ x X) (h : s2bAV s x = some (v, s')) :
    ∃ z w', (convert a b X).run P w = .ok z w' ∧ Post A ρ s w v s' z w' := by
  unfold s2bAV at h
  split at h
  · rename_i str
    simp only [VR] at hx
    subst hx
    simp only [Option.some.injEq, Prod.mk.injEq] at h
    obtain ⟨rfl, rfl⟩ := h
    have h2 := run_underlying' hb w
    have h3 := run_underlying' he w
    rw [hd] at h2
    rw [hu] at h3
    have hlen : (byteRows str).length = str.size := by simp [byteRows]
    let cap := (Question.appendCap str.size 0 e).cut (w.tape w.drawn (.appendCap str.size 0 e))
    have hcap : str.size ≤ cap := by simp [cap, Question.cut]
    let C : Array Value := (str.data.map fun b => .int .u8 b.toNat) ++ Array.replicate (cap - str.size) (.int .u8 0)
    have hsz : C.size = cap := by simp [C]; have : str.data.size = str.size := rfl; omega
    have hrun : (convert a b (.string str)).run P w = .ok (.slice (some ⟨w.heap.size, 0, none⟩) str.size cap) (pushW { w with drawn := w.drawn + 1 } (.cells C e (C.size, C.size + 1))) := by
      have hq : Question.forced (.appendCap str.size 0 e) = false := rfl
      simp only [convert, Sem.run_bind, run_underlying' ha w, h2, h3, Result.andThen_ok, Conv.stringToBytes, run_choose, hq, Bool.false_eq_true, if_false, newRow, run_newObj, Sem.run_pure, markStringish, run_shape]
      have hsh : World.shape? { w with drawn := w.drawn + 1, heap := w.heap.push (.cells C e) } w.heap.size = some (e, C.size) := by
        simp [World.shape?]
      rw [show (Obj.cells ((str.data.map fun b => Value.int .u8 b.toNat) ++ Array.replicate ((Question.appendCap str.size 0 e).cut (w.tape w.drawn (.appendCap str.size 0 e)) - str.size) (Value.int .u8 0)) e) = Obj.cells C e from rfl]
      rw [hsh]
      simp only [run_freeze, Result.andThen_ok, World.freeze]
      rw [if_neg (by decide)]
      simp only [push_modify, Sem.run_pure, Result.andThen_ok]
      simp [pushW, cap]
    refine ⟨_, _, hrun, ?_⟩
    have hs := SameMem.drawn w (w.drawn + 1)
    have hr1 := hs.rep hr
    have hq := Rep_quiet hr1 (Fr_new (Rep_start (w := { w with drawn := w.drawn + 1 }) (A' := fun _ _ => False) (fun _ _ h => h.elim)) (.box []) C e (C.size, C.size + 1) 1)
    obtain ⟨hr2, hf2⟩ := hq
    obtain ⟨hr3, hf3⟩ := Rep_none hr2 (.box [])
    have hb : (pushW { w with drawn := w.drawn + 1 } (.cells C e (C.size, C.size + 1))).heap[w.heap.size]? = some (Obj.cells C e (C.size, C.size + 1)) := by simp [pushW]
    refine ⟨rfl, rfl, ρ, hr3, ?_, Ext2.more _ _, Fr.trans (hs.fr ρ s.H) (Fr.trans hf2 hf3)⟩
    refine VR_canI (es := 1) (ex := false) ?_
    simp only [VR]
    refine ⟨_, cap, by rw [hlen], by rw [hlen]; exact hcap, by simp, .inr ⟨w.heap.size, 0, rfl, RWs_mk fun i r hi => ?_⟩⟩
    simp only [byteRows, List.getElem?_map, Option.map_eq_some_iff] at hi
    obtain ⟨b, hbi, rfl⟩ := hi
    refine ⟨rfl, ?_⟩
    have hlt : i < str.data.toList.length := by
      rcases Nat.lt_or_ge i str.data.toList.length with hl | hl
      · exact hl
      · rw [List.getElem?_eq_none hl] at hbi; cases hbi
    refine CLs_mk fun j a hj => ?_
    cases j with
    | succ j => simp [byteRow] at hj
    | zero =>
      simp only [byteRow, List.getElem?_cons_zero, Option.some.injEq] at hj
      subst hj
      refine ⟨.int .u8 b.toNat, ?_, fun hU => ?_, rfl, by simp [VR]⟩
      · rw [cell_of_block hb]
        simp only [C, Nat.zero_add, Nat.mul_one, Nat.add_zero]
        rw [Array.getElem?_append_left (by simpa using hlt), Array.getElem?_map, ← Array.getElem?_toList, hbi]
        rfl
      · have hU' : UU A ρ s.H w.heap.size (0 + i * 1 + 0) := by
          rcases hU with hU | hU
          · exact .inl hU
          · exact .inr (hf3.shrink _ _ (by simp [pushW]) hU)
        exact absurd (UU_lt hr1 hU') (Nat.lt_irrefl _)
  · cases h
theorem bytesOf_spec : ∀ {rows : List (List AV)} {l : List UInt8} {cs : List Value}, bytesOf rows = some l → ARs w U 1 rows cs → cs.length = rows.length * 1 → ∃ ns : List Int, cs = ns.map (Value.int .u8) ∧ l = ns.map fun n => UInt8.ofNat n.toNat
  | [], l, cs, h, hA, hl => by
    simp only [bytesOf, Option.some.injEq] at h
    subst h
    have : cs = [] := List.eq_nil_of_length_eq_zero (by simpa using hl)
    exact ⟨[], by simp [this], rfl⟩
  | r :: rs, l, cs, h, hA, hl => by
    unfold bytesOf at h
    split at h
    · rename_i heq
      cases heq
    · rename_i n r' heq
      simp only [List.cons.injEq] at heq
      obtain ⟨rfl, rfl⟩ := heq
      split at h
      · rename_i l' hl'
        simp only [Option.some.injEq] at h
        subst h
        simp only [ARs] at hA
        obtain ⟨_, g2, ⟨g3, _⟩, g4⟩ := hA
        cases cs with
        | nil => simp at g2
        | cons c cs =>
          simp only [List.take_succ_cons, List.take_zero, VRs, VR] at g3
          obtain ⟨x, q, e1, rfl, rfl⟩ := g3
          simp only [List.cons.injEq, and_true] at e1
          subst e1
          obtain ⟨ns, e2, e3⟩ := bytesOf_spec hl' (by simpa using g4) (by simpa using hl)
          exact ⟨n :: ns, by simp [e2], by simp [e3]⟩
      · cases h
    · cases h
theorem foldl_bytes : ∀ (ns : List Int) (s : ByteArray), ns.foldl (fun r n => r.push (UInt8.ofNat n.toNat)) s = ⟨s.data ++ (ns.map fun n => UInt8.ofNat n.toNat).toArray⟩
  | [], s => by simp
  | n :: ns, s => by
    rw [List.foldl_cons, foldl_bytes ns]
    simp [ByteArray.push]
theorem snd_b2s {s : St} (hr : Rep A ρ s.H s.nx w) {a b e : TypeId} {xs xd xe : TI} (ha : tyOf P a = some xs) (hsd : xs.desc = .slice e) (hb : tyOf P b = some xd) (hd : xd.desc = .string) (he : tyOf P e = some xe) (hu : xe.desc = .int .u8) {X : Value} {x v : AV} (hx : VR w (UU A ρ s.H) ρ x X) (h : b2sAV s.H x = some v) :
    ∃ z, (convert a b X).run P w = .ok z w ∧ VR w (UU A ρ s.H) ρ v z := by
  unfold b2sAV at h
  split at h
  · rename_i rows hrows
    split at h
    · rename_i l hl
      simp only [Option.some.injEq] at h
      subst h
      have hsrc : srcRows 1 s.H x = some rows := by
        unfold srcRows
        split
        · simp [rowsOf] at hrows
        · exact hrows
      obtain ⟨cs, k1, k2, k3, k4⟩ := src_spec (P := P) hr hx hsrc
      have h1 := (tyOf_spec ha).1
      have h2 := (tyOf_spec hb).1
      have h3 := (tyOf_spec he).1
      rw [hsd] at h1
      rw [hd] at h2
      rw [hu] at h3
      obtain ⟨ns, e1, e2⟩ := bytesOf_spec hl k2 k1
      have hX : ∃ B n c, X = .slice B n c := by
        cases x <;> simp [rowsOf] at hrows <;> simp only [VR] at hx
        · exact ⟨none, 0, 0, hx⟩
        · obtain ⟨B, c, rfl, _⟩ := hx; exact ⟨B, _, c, rfl⟩
        · obtain ⟨B, c, rfl, _⟩ := hx; exact ⟨B, _, c, rfl⟩
      obtain ⟨B, n, c, rfl⟩ := hX
      have hn : n = rows.length := by
        have := k3 w
        simp only [Builtin.lenOf, Sem.run_pure, Result.ok.injEq, and_true] at this
        exact this
      subst hn
      refine ⟨.string ⟨l.toArray⟩, ?_, by simp [VR]⟩
      rw [run_convert_bytes_string w a b e B _ c h1 h3 h2]
      have k5 := k4 w rfl rows.length (Nat.le_refl _)
      rw [List.take_of_length_le (by omega)] at k5
      cases B with
      | none =>
        simp only [run_firstCells_none, Result.ok.injEq, and_true] at k5
        have : cs = [] := by simpa using congrArg Array.toList k5.symm
        subst this
        have hn : ns = [] := by simpa using e1.symm
        subst hn
        simp only [List.map_nil] at e2
        subst e2
        simp [Conv.bytesToString]
        rfl
      | some bb =>
        have k6 : (loadCells bb rows.length).run P w = .ok (ns.map (Value.int .u8)).toArray w := by
          rw [← e1]
          simpa [Builtin.firstCells] using k5
        rw [run_bytesToString w bb rows.length c ns k6, foldl_bytes, e2]
        simp
    · cases h
  · cases h
end
end Go.Proofs.Ytefjblgmnoheiaa.R
