/- Arrays: made, appended to, copied. -/
import Derived.Test.YtefjblgmnoheiaaRFrz
import Derived.Laws.AppendOwn
set_option linter.unusedVariables false
set_option linter.unusedSectionVars false
set_option linter.unusedSimpArgs false
noncomputable section
namespace Go.Proofs.Ytefjblgmnoheiaa.R
open Go
theorem Post.pre {A : Nat → Nat → Prop} {ρ : Rho} {s s' : St} {w w1 w' : World} {v : AV} {x : Value} (h : SameMem w w1) (hp : Post A ρ s w1 v s' x w') : Post A ρ s w v s' x w' := by
  obtain ⟨h1, h2, ρ', h3, h4, h5, h6⟩ := hp
  exact ⟨h1, h2, ρ', h3, h4, h5, (h.fr ρ s.H).trans h6⟩
section
variable {P : Program} {w : World} {A : Nat → Nat → Prop} {U : Nat → Nat → Prop} {ρ : Rho}
theorem ARs_app {es : Nat} {rows : List (List AV)} {C D : List Value} (h : ARs w U es rows C) : ARs w U es rows (C ++ D) := by
  refine ARs_mk fun i r hi => ?_
  obtain ⟨g1, g2, g3, g4⟩ := ARs_get h hi
  rw [Nat.succ_mul] at g2 ⊢
  have : ((C ++ D).drop (i * es)).take es = (C.drop (i * es)).take es := by
    rw [List.drop_append_of_le_length (by omega), List.take_append_of_le_length (by rw [List.length_drop]; omega)]
  rw [this]
  exact ⟨g1, by rw [List.length_append]; omega, g3, g4⟩
theorem ARs_append {es : Nat} : ∀ {rows rows' : List (List AV)} {C D : List Value}, ARs w U es rows C → C.length = rows.length * es → ARs w U es rows' D → ARs w U es (rows ++ rows') (C ++ D)
  | [], rows', C, D, h, hl, h' => by
    have : C = [] := List.eq_nil_of_length_eq_zero (by simpa using hl)
    subst this
    simpa using h'
  | r :: rs, rows', C, D, h, hl, h' => by
    simp only [ARs, List.cons_append] at h ⊢
    obtain ⟨h1, h2, h3, h4⟩ := h
    simp only [List.length_cons, Nat.succ_mul] at hl
    have ht : (C ++ D).take es = C.take es := List.take_append_of_le_length h2
    refine ⟨h1, by rw [List.length_append]; omega, by rw [ht]; exact h3, ?_⟩
    rw [List.drop_append_of_le_length h2]
    exact ARs_append h4 (by rw [List.length_drop]; omega) h'
/-- Rows that lie from a place on. -/
def RowsAt (w : World) (U : Nat → Nat → Prop) (es : Nat) (rows : List (List AV)) (b o : Nat) : Prop :=
  ∀ (i : Nat) (r : List AV), rows[i]? = some r → r.length = es ∧ ∀ (j : Nat) (a : AV), r[j]? = some a → ∃ v, w.cell? ⟨b, o + i * es + j, none⟩ = some v ∧ oneB v = true ∧ VR w U noRho a v
theorem cells_list {b : Nat} : ∀ {as : List AV} {o : Nat}, (∀ (j : Nat) (a : AV), as[j]? = some a → ∃ v, w.cell? ⟨b, o + j, none⟩ = some v ∧ oneB v = true ∧ VR w U noRho a v) →
    ∃ cs, VRs w U noRho as cs ∧ (∀ x ∈ cs, oneB x = true) ∧ ∀ (j : Nat) (v : Value), cs[j]? = some v → w.cell? ⟨b, o + j, none⟩ = some v
  | [], o, h => ⟨[], by simp [VRs], by simp, by simp⟩
  | a :: as, o, h => by
    obtain ⟨v, h1, h0, h2⟩ := h 0 a rfl
    obtain ⟨cs, h3, h5, h4⟩ := cells_list (as := as) (o := o + 1) (fun j a' hj => by
      obtain ⟨v, g1, g2⟩ := h (j + 1) a' (by simpa using hj)
      exact ⟨v, by rw [show o + 1 + j = o + (j + 1) by omega]; exact g1, g2⟩)
    refine ⟨v :: cs, by simp only [VRs]; exact ⟨v, cs, rfl, h2, h3⟩, ?_, fun j v' hj => ?_⟩
    · intro x hx
      rcases List.mem_cons.1 hx with rfl | hx
      · exact h0
      · exact h5 x hx
    · cases j with
      | zero => simp at hj; subst hj; exact h1
      | succ j => simp at hj; rw [show o + (j + 1) = o + 1 + j by omega]; exact h4 j v' hj
theorem RowsAt.list {es b : Nat} : ∀ {rows : List (List AV)} {o : Nat}, RowsAt w U es rows b o → ∃ cs, cs.length = rows.length * es ∧ ARs w U es rows cs ∧ ∀ (j : Nat) (v : Value), cs[j]? = some v → w.cell? ⟨b, o + j, none⟩ = some v
  | [], o, h => ⟨[], by simp, by simp [ARs], by simp⟩
  | r :: rs, o, h => by
    obtain ⟨h1, h2⟩ := h 0 r rfl
    obtain ⟨cs, g1, g2, g3⟩ := cells_list (as := r) (o := o) (fun j a hj => by simpa using h2 j a hj)
    have hl := VRs_length g1
    obtain ⟨ds, k1, k2, k3⟩ := RowsAt.list (rows := rs) (o := o + es) (fun i r' hi => by
      obtain ⟨q1, q2⟩ := h (i + 1) r' (by simpa using hi)
      refine ⟨q1, fun j a hj => ?_⟩
      obtain ⟨v, q3⟩ := q2 j a hj
      exact ⟨v, by rw [show o + es + i * es + j = o + (i + 1) * es + j by rw [Nat.succ_mul]; omega]; exact q3⟩)
    refine ⟨cs ++ ds, ?_, ?_, ?_⟩
    · rw [List.length_append, k1, List.length_cons, Nat.succ_mul]; omega
    · simp only [ARs]
      have ht : (cs ++ ds).take es = cs := by rw [List.take_append_of_le_length (by omega)]; exact List.take_of_length_le (by omega)
      have hd : (cs ++ ds).drop es = ds := by rw [← h1, hl]; exact List.drop_left
      exact ⟨h1, by rw [List.length_append]; omega, by rw [ht]; exact ⟨g1, g2⟩, by rw [hd]; exact k2⟩
    · intro j v hj
      rw [List.getElem?_append] at hj
      split at hj
      · exact g3 j v hj
      · rename_i hjl
        have := k3 _ v hj
        rwa [show o + es + (j - cs.length) = o + j by omega] at this
theorem RowsAt_imm {es b o : Nat} {rows : List (List AV)} (h : RWs w U rows b o es) : RowsAt w U es rows b o := fun i r hi => by
  obtain ⟨h1, h2⟩ := RWs_get h hi
  refine ⟨h1, fun j a hj => ?_⟩
  obtain ⟨v, g1, g2, g3, g4⟩ := CLs_get h2 hj
  exact ⟨v, g1, g3, g4⟩
theorem RowsAt_own {H : Heap} {nx : Nat} (hr : Rep A ρ H nx w) {id b es es' leak : Nat} {rows : List (List AV)} (hid : lk H id = some (.arr es' rows leak)) (hρ : ρ id = some (b, es)) (off len : Nat) : RowsAt w (UU A ρ H) es ((rows.drop off).take len) b (off * es) := fun i r hi => by
  obtain ⟨_, _, C, e, fr, q1, q2, q3⟩ := hr.ob id _ b es hid hρ
  rw [List.getElem?_take] at hi
  split at hi
  · rw [List.getElem?_drop] at hi
    obtain ⟨g1, g2, g3, g4⟩ := ARs_get q3 hi
    refine ⟨g1, fun j a hj => ?_⟩
    obtain ⟨v, k1, k2⟩ := VRs_get g3 hj
    have k3 := g4 v (List.mem_of_getElem? k1)
    rw [List.getElem?_take] at k1
    split at k1
    · rw [List.getElem?_drop, Array.getElem?_toList] at k1
      refine ⟨v, ?_, k3, k2⟩
      rw [cell_of_block q1, show off * es + i * es + j = (off + i) * es + j by rw [Nat.add_mul]]
      exact k1
    · cases k1
  · cases hi
/-- What is appended or copied: its elements' cells. -/
theorem src_spec {H : Heap} {nx : Nat} (hr : Rep A ρ H nx w) {es : Nat} {a : AV} {X : Value} {rows : List (List AV)} (ha : VR w (UU A ρ H) ρ a X) (h : srcRows es H a = some rows) :
    ∃ cs : List Value, cs.length = rows.length * es ∧ ARs w (UU A ρ H) es rows cs ∧ (∀ w', (Builtin.lenOf X).run P w' = .ok rows.length w') ∧
      ∀ w', w'.heap = w.heap → ∀ n, n ≤ rows.length → (Builtin.firstCells es n X).run P w' = .ok (cs.take (n * es)).toArray w' := by
  have mem : ∀ (b o : Nat) (cs : List Value), (∀ (j : Nat) (v : Value), cs[j]? = some v → w.cell? ⟨b, o + j, none⟩ = some v) → cs.length = rows.length * es → ∀ len c w', w'.heap = w.heap → ∀ n, n ≤ rows.length →
      (Builtin.firstCells es n (.slice (some ⟨b, o, none⟩) len c)).run P w' = .ok (cs.take (n * es)).toArray w' := by
    intro b o cs hcs hl len c w' hw n hn
    refine run_firstCells_some w' es n ⟨b, o, none⟩ len c (cs.take (n * es)) ?_ ?_
    · rw [List.length_take, hl]
      exact Nat.min_eq_left (Nat.mul_le_mul_right _ hn)
    · intro j v hj
      rw [List.getElem?_take] at hj
      split at hj
      · rw [add_off]
        have := hcs j v hj
        unfold World.cell? at this ⊢
        rw [hw]; exact this
      · cases hj
  cases a with
  | nil =>
    simp only [srcRows, rowsOf, Option.some.injEq] at h
    subst h
    simp only [VR] at ha
    subst ha
    refine ⟨[], by simp, by simp [ARs], fun w' => rfl, fun w' _ n hn => ?_⟩
    have : n = 0 := by simpa using hn
    subst this
    simp [run_firstCells_none]
  | str s =>
    simp only [srcRows] at h
    split at h
    · rename_i he
      subst he
      simp only [Option.some.injEq] at h
      subst h
      simp only [VR] at ha
      subst ha
      refine ⟨s.data.toList.map fun b => .int .u8 b.toNat, by simp [byteRows], ?_, fun w' => ?_, fun w' _ n hn => ?_⟩
      · refine ARs_mk fun i r hi => ?_
        simp only [byteRows, List.getElem?_map, Option.map_eq_some_iff] at hi
        obtain ⟨b, hb, rfl⟩ := hi
        have hlt : i < s.data.toList.length := by
          rcases Nat.lt_or_ge i s.data.toList.length with hl | hl
          · exact hl
          · rw [List.getElem?_eq_none hl] at hb; cases hb
        have hd : ((s.data.toList.map fun b => Value.int .u8 b.toNat).drop (i * 1)).take 1 = [.int .u8 b.toNat] := by
          rw [Nat.mul_one, List.drop_eq_getElem_cons (by simpa using hlt)]
          rw [List.getElem?_eq_getElem hlt] at hb
          simp only [Option.some.injEq] at hb
          simp [hb]
        rw [hd]
        refine ⟨rfl, by simp at hlt ⊢; omega, ?_, ?_⟩
        · simp [byteRow, VRs, VR]
        · simp [oneB]
      · simp [Builtin.lenOf, byteRows]
      · simp only [byteRows, List.length_map, Array.length_toList] at hn
        simp only [Builtin.firstCells, Sem.run_pure, Nat.mul_one, Result.ok.injEq, and_true]
        apply Array.ext'
        simp [ByteArray.extract, List.map_take]
        rw [ByteArray.copySlice]
        simp
    · cases h
  | imm es' rows' ex =>
    simp only [srcRows, rowsOf] at h
    split at h
    · rename_i he
      have he := esFit_or he
      simp only [Option.some.injEq] at h
      subst h
      simp only [VR] at ha
      obtain ⟨B, c, rfl, g1, g2, g3⟩ := ha
      have g3 : rows' = [] ∨ ∃ b o, B = some ⟨b, o, none⟩ ∧ RWs w (UU A ρ H) rows' b o es := by
        rcases he with he | he
        · exact .inl he
        · rw [← he]; exact g3
      rcases g3 with rfl | ⟨b, o, rfl, g4⟩
      · refine ⟨[], by simp, by simp [ARs], fun w' => rfl, fun w' _ n hn => ?_⟩
        have : n = 0 := by simpa using hn
        subst this
        cases B with
        | none => simp [run_firstCells_none]
        | some bb => simp [Builtin.firstCells, loadCells, loadCellsFrom]
      · obtain ⟨cs, k1, k2, k3⟩ := (RowsAt_imm g4).list
        exact ⟨cs, k1, k2, fun w' => rfl, mem b o cs k3 k1 _ _⟩
    · cases h
  | own es' id off len ex =>
    simp only [srcRows, rowsOf] at h
    split at h
    · rename_i he
      subst he
      split at h
      · rename_i es2 rows2 leak hid
        split at h
        · rename_i hle
          simp only [Option.some.injEq] at h
          subst h
          have hlen : ((rows2.drop off).take len).length = len := by rw [List.length_take, List.length_drop]; omega
          simp only [VR] at ha
          obtain ⟨B, c, rfl, g1, g2, g3⟩ := ha
          rcases g3 with ⟨rfl, rfl⟩ | ⟨b, C, e, fr, g4, rfl, g5, g6⟩
          · refine ⟨[], by simp, by simp [ARs], fun w' => by simp [Builtin.lenOf], fun w' _ n hn => ?_⟩
            have : n = 0 := by simpa using hn
            subst this
            cases B with
            | none => simp [run_firstCells_none]
            | some bb => simp [Builtin.firstCells, loadCells, loadCellsFrom]
          · obtain ⟨cs, k1, k2, k3⟩ := (RowsAt_own hr hid g4 off len).list
            exact ⟨cs, k1, k2, fun w' => by rw [hlen]; rfl, mem b _ cs k3 k1 _ _⟩
        · cases h
      · cases h
    · cases h
  | _ => simp [srcRows, rowsOf] at h
theorem ARs_one {es : Nat} {rows : List (List AV)} {C : List Value} (h : ARs w U es rows C) (hl : C.length = rows.length * es) : ∀ x ∈ C, oneB x = true := by
  intro x hx
  obtain ⟨k, hk⟩ := List.mem_iff_getElem?.1 hx
  have hlt : k < C.length := by
    rcases Nat.lt_or_ge k C.length with hl | hl
    · exact hl
    · rw [List.getElem?_eq_none hl] at hk; cases hk
  rcases Nat.eq_zero_or_pos es with rfl | hz
  · rw [Nat.mul_zero] at hl; omega
  · have hi : k / es < rows.length := by
      rw [Nat.div_lt_iff_lt_mul hz]; omega
    obtain ⟨g1, g2, g3, g4⟩ := ARs_get h (List.getElem?_eq_getElem hi)
    refine g4 x (List.mem_of_getElem? (i := k % es) ?_)
    rw [List.getElem?_take, if_pos (Nat.mod_lt _ hz), List.getElem?_drop, show k / es * es + k % es = k by rw [Nat.mul_comm]; exact Nat.div_add_mod k es]
    exact hk

/-- A new array. -/
theorem snd_newBlock {s : St} (hr : Rep A ρ s.H s.nx w) {es : Nat} {rows : List (List AV)} (hz : 0 < es) {C : Array Value} {e : TypeId} {fr : Nat × Nat} (hA : ARs w (UU A ρ s.H) es rows C.toList) (hu : unfr fr C.size) {cap : Nat} (hcap : cap * es ≤ C.size) (hle : rows.length ≤ cap)
    {ex : Bool} (hex : ex = true → cap = rows.length) (leak : Nat) :
    Post A ρ s w (.own es s.nx 0 rows.length ex) (s.add (.arr es rows leak)) (.slice (some ⟨w.heap.size, 0, none⟩) rows.length cap) (pushW w (.cells C e fr)) := by
  have hfr := Fr_new hr (.arr es rows leak) C e fr es
  refine ⟨rfl, rfl, putRho ρ s.nx (w.heap.size, es), Rep_new hr ?_, ?_, hr.ext2 _, hfr⟩
  · refine ⟨rfl, hz, C, e, fr, ?_, hu, ARs_mono hfr.stay hA⟩
    simp only [pushW, push_get, if_true]
  · simp only [VR]
    refine ⟨_, cap, rfl, hle, hex, .inr ⟨w.heap.size, C, e, fr, putRho_new _ _ _, by simp, ?_, by simpa using hcap⟩⟩
    simp only [pushW, push_get, if_true]
/-- A slice without elements and room, that lies nowhere. -/
theorem snd_noBlock {s : St} (hr : Rep A ρ s.H s.nx w) (es : Nat) (B : Option Addr) {ex : Bool} (leak : Nat) : Post A ρ s w (.own es s.nx 0 0 ex) (s.add (.arr es [] leak)) (.slice B 0 0) w := by
  obtain ⟨h1, h2⟩ := Rep_none hr (.arr es [] leak)
  refine ⟨rfl, rfl, ρ, h1, ?_, Ext2.more _ _, h2⟩
  simp only [VR]
  exact ⟨B, 0, rfl, by simp⟩

/-! ### append -/
structure AppTy (P : Program) (t t2 : TypeId) (es : Nat) : Prop where
  ex : ∃ e xe x2 z, P.underlying t = some (.slice e) ∧ tyOf P e = some xe ∧ tyOf P t2 = some x2 ∧ zeroCells xe = some z ∧ 0 < xe.size ∧ xe.bytes ≤ 256 ∧ z.length = xe.size ∧ intB x2.desc = false ∧ es = xe.size
theorem zero_size {xe : TI} {z : List AV} (hz : zeroCells xe = some z) : ∃ zv, xe.zero = some zv ∧ zv.cells.size = z.length := by
  obtain ⟨zv, h1, _, h2⟩ := zeroCells_spec hz
  have := VRs_length (h2 (w := default) (U := fun _ _ => False) (ρ := noRho))
  exact ⟨zv, h1, by simpa using this.symm⟩
/-- There is room: the cells behind are written. -/
theorem run_app_room {t t2 ty : TypeId} {es : Nat} (hT : AppTy P t t2 es) {B : Option Addr} {n c m : Nat} {X : Value} {news : List Value} (hl : ∀ w', (Builtin.lenOf X).run P w' = .ok m w') (hf : (Builtin.firstCells es m X).run P w = .ok news.toArray w) (hroom : n + m ≤ c)
    {w' : World} (hst : (match B with | some a => storeCells (a.add (n * es)) news | none => pure () : Sem Unit).run P w = .ok () w') :
    (Builtin.append_ #[t, t2] ty #[.slice B n c, X]).run P w = .ok (.slice B (n + m) c) w' := by
  obtain ⟨e, xe, x2, z, h1, h2, h3, h4, h5, h6, h7, h8, rfl⟩ := hT.ex
  have hu2 := run_underlying' h3
  simp only [Builtin.append_, List.getElem?_toArray, List.getElem?_cons_zero, List.getElem?_cons_succ, Sem.run_bind, run_underlying h1, Result.andThen_ok, run_sizeOf' h2, hu2, Sem.run_pure]
  split
  · rename_i hd
    rw [hd] at h8
    simp [intB] at h8
  · cases B with
    | none =>
      simp only [Sem.run_pure, Result.ok.injEq, true_and] at hst
      subst hst
      simp [hl, hf, hroom]
    | some a =>
      simp only at hst
      simp [hl, hf, hroom, hst]
/-- There is none: a new array. -/
theorem run_app_grow {t t2 ty : TypeId} {es : Nat} (hT : AppTy P t t2 es) {B : Option Addr} {n c m : Nat} {X : Value} {olds news : List Value} (hl : ∀ w', (Builtin.lenOf X).run P w' = .ok m w')
    (ho : ∀ w', w'.heap = w.heap → (Builtin.firstCells es n (.slice B n c)).run P w' = .ok olds.toArray w') (hf : ∀ w', w'.heap = w.heap → (Builtin.firstCells es m X).run P w' = .ok news.toArray w')
    (hol : olds.length = n * es) (hnl : news.length = m * es) (hg : c < n + m) (hb : n + m ≤ limN) :
    ∃ cap D e, n + m ≤ cap ∧ D.length = (cap - (n + m)) * es ∧
      (Builtin.append_ #[t, t2] ty #[.slice B n c, X]).run P w = .ok (.slice (some ⟨w.heap.size, 0, none⟩) (n + m) cap) (pushW { w with drawn := w.drawn + 1 } (.cells (olds ++ news ++ D).toArray e)) := by
  obtain ⟨e, xe, x2, z, h1, h2, h3, h4, h5, h6, h7, h8, rfl⟩ := hT.ex
  have hu2 := run_underlying' h3
  obtain ⟨_, i, hi1, hi2, hi3, hi4⟩ := tyOf_spec h2
  obtain ⟨zv, hz1, hz2⟩ := zero_size h4
  have hn : ¬ (n + m ≤ c) := by omega
  have hlim : n + m ≤ 549755813888 := hb
  have h63' : ¬ (9223372036854775807 < ((n : Int) + (m : Int))) := by omega
  have hfit := growslice_fits (need := n + m) (old := c) (bytes := i.bytes) hg (by
    have : (n + m) * i.bytes ≤ 549755813888 * 256 := Nat.mul_le_mul hlim (by rw [hi3]; exact h6)
    omega)
  have h48' : ¬ (281474976710656 < Builtin.nextslicecap (n + m) c * i.bytes) := by omega
  have hq : Question.forced (.appendCap (n + m) c e) = false := rfl
  refine ⟨grownCap w (n + m) c e, (Builtin.zeroCells zv.cells (grownCap w (n + m) c e - (n + m))).toList, e, grownCap_ge w (n + m) c e, ?_, ?_⟩
  · rw [Array.length_toList, size_zeroCells, hz2, h7]
  · have ho' := ho w.drew rfl
    have hf' := hf w.drew rfl
    simp only [Builtin.append_, List.getElem?_toArray, List.getElem?_cons_zero, List.getElem?_cons_succ, Sem.run_bind, run_underlying h1, Result.andThen_ok, run_sizeOf' h2, hu2, Sem.run_pure]
    split
    · rename_i hd
      rw [hd] at h8
      simp [intB] at h8
    · simp [hl, typeInfo, zeroValue, hi1, hi4, hz1, hn, h63', h48', Question.forced, ho', hf', newRow, grownCap]
      have hA : (olds.toArray ++ (news.toArray ++ Builtin.zeroCells zv.cells ((Question.appendCap (n + m) c e).cut (w.tape w.drawn (Question.appendCap (n + m) c e)) - (n + m)))) = (olds ++ (news ++ (Builtin.zeroCells zv.cells ((Question.appendCap (n + m) c e).cut (w.tape w.drawn (Question.appendCap (n + m) c e)) - (n + m))).toList)).toArray := by
        apply Array.ext'; simp
      rw [hA]
      rfl
end
end Go.Proofs.Ytefjblgmnoheiaa.R
