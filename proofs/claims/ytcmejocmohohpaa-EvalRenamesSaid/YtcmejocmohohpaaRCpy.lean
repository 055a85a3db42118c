/- Equations of the evaluator, for simp. -/
import Derived.Test.YtcmejocmohohpaaRDefs
import Derived.Below
import Derived.Laws.StructEq
import Derived.Laws.Slices
import Derived.Laws.Cells
import Derived.Laws.Append
import Derived.Laws.IdiomCopy
import Derived.Laws.Bits
import Derived.Laws.AppendOwn
import Derived.Laws.BytesString
import Derived.IntWalk
import Derived.Laws.MakeOwn
set_option linter.unusedVariables false
noncomputable section
namespace Go.Proofs.Ytcmejocmohohpaa.R
open Go
section
variable {α : Type}
theorem lk_nil (t : Nat) : lk ([] : List (Nat × α)) t = none := rfl
theorem lk_cons (k : Nat) (v : α) (r : List (Nat × α)) (t : Nat) : lk ((k, v) :: r) t = if k = t then some v else lk r t := by
  change Bool.rec (motive := fun _ => Option α) (lk r t) (some v) (Nat.beq k t) = _
  cases h : Nat.beq k t
  · have := Nat.ne_of_beq_eq_false h; simp [this]
  · have := Nat.eq_of_beq_eq_true h; simp [this]
theorem upd_nil (t : Nat) (x : α) : upd ([] : List (Nat × α)) t x = none := rfl
theorem upd_cons (k : Nat) (v x : α) (r : List (Nat × α)) (t : Nat) : upd ((k, v) :: r) t x = if k = t then some ((k, x) :: r) else (upd r t x).map ((k, v) :: ·) := by
  change Bool.rec (motive := fun _ => Option (List (Nat × α))) (Option.rec (motive := fun _ => Option (List (Nat × α))) none (fun r' => some ((k, v) :: r')) (upd r t x)) (some ((k, x) :: r)) (Nat.beq k t) = _
  cases h : Nat.beq k t
  · have := Nat.ne_of_beq_eq_false h; simp only [this, if_false]; cases upd r t x <;> rfl
  · have := Nat.eq_of_beq_eq_true h; simp [this]
theorem rmv_nil (t : Nat) : rmv ([] : List (Nat × α)) t = [] := rfl
theorem rmv_cons (k : Nat) (v : α) (r : List (Nat × α)) (t : Nat) : rmv ((k, v) :: r) t = if k = t then rmv r t else (k, v) :: rmv r t := by
  change Bool.rec (motive := fun _ => List (Nat × α)) ((k, v) :: rmv r t) (rmv r t) (Nat.beq k t) = _
  cases h : Nat.beq k t
  · have := Nat.ne_of_beq_eq_false h; simp [this]
  · have := Nat.eq_of_beq_eq_true h; simp [this]
theorem pos_nil (t : Nat) : pos [] t = none := rfl
theorem pos_cons (x : Nat) (r : List Nat) (t : Nat) : pos (x :: r) t = if x = t then some 0 else (pos r t).map (· + 1) := by
  change Bool.rec (motive := fun _ => Option Nat) (Option.rec (motive := fun _ => Option Nat) none (fun n => some (n + 1)) (pos r t)) (some 0) (Nat.beq x t) = _
  cases h : Nat.beq x t
  · have := Nat.ne_of_beq_eq_false h; simp only [this, if_false]; cases pos r t <;> rfl
  · have := Nat.eq_of_beq_eq_true h; simp [this]
end

/-- One step behind another. -/
def andThen (x : Option St) (f : St → Option St) : Option St :=
  match x with
  | some s => f s
  | none => none
theorem andThen_some (s : St) (f : St → Option St) : andThen (some s) f = f s := rfl
theorem andThen_none (f : St → Option St) : andThen none f = none := rfl
theorem andThen_ite (p : Prop) [Decidable p] (a b : Option St) (f : St → Option St) : andThen (if p then a else b) f = if p then andThen a f else andThen b f := by split <;> rfl
/-- A value with a state, put into a slot. -/
def putR (d : Option Nat) (x : Option (AV × St)) : Option St :=
  match x with
  | some (v, s) => some (s.putO d v)
  | none => none
theorem putR_some (d : Option Nat) (v : AV) (s : St) : putR d (some (v, s)) = some (s.putO d v) := rfl
theorem putR_none (d : Option Nat) : putR d none = none := rfl
theorem putR_ite (d : Option Nat) (p : Prop) [Decidable p] (a b : Option (AV × St)) : putR d (if p then a else b) = if p then putR d a else putR d b := by split <;> rfl
theorem nowS_eq (s : St) : nowS s = some s := rfl
theorem nowN_eq {α : Type} (n : Nat) (k : Nat → α) : nowN n k = k n := by cases n <;> rfl
theorem nowI_eq {α : Type} (n : Int) (k : Int → α) : nowI n k = k n := by cases n <;> simp [nowI, nowN_eq]
theorem nowB_eq {α : Type} (n : Bool) (k : Bool → α) : nowB n k = k n := by cases n <;> rfl
theorem numV_eq (k : IntKind) (n : Int) : numV k n = some (.int k n) := by simp [numV, nowI_eq]
theorem truV_eq (b : Bool) : truV b = some (.bool b) := by simp [truV, nowB_eq]
theorem evOps_nil (c : Cfg) (cl : Callee) (nt : Nat) (s : St) : evOps c cl nt [] s = some s := rfl
theorem evOps_cons (c : Cfg) (cl : Callee) (nt : Nat) (o : Iop) (r : List Iop) (s : St) : evOps c cl nt (o :: r) s = andThen (evIO c cl nt o s) (evOps c cl nt r) := by
  change Option.rec (motive := fun _ => Option St) none (evOps c cl nt r) (evIO c cl nt o s) = _
  cases evIO c cl nt o s <;> rfl
theorem evIO_plain (c : Cfg) (cl : Callee) (nt : Nat) (d : Nat) (op : IP) (s : St) (h : Nat.blt d nt = true) : evIO c cl nt ⟨some d, none, op⟩ s = putR (some d) (evOp c cl s op) := by
  simp only [evIO, dstOk, h, wantA, cond_true]
  cases evOp c cl s op <;> rfl
theorem evIO_store (c : Cfg) (cl : Callee) (nt : Nat) (op : IP) (s : St) : evIO c cl nt ⟨none, none, op⟩ s = putR none (evOp c cl s op) := by
  simp only [evIO, dstOk, wantA, cond_true]
  cases evOp c cl s op <;> rfl
def guardK (g : Option Bool) (x y : Option St) : Option St :=
  match g with
  | some b => if b = true then x else y
  | none => none
theorem guardK_some (b : Bool) (x y : Option St) : guardK (some b) x y = if b = true then x else y := rfl
theorem evIO_guard (c : Cfg) (cl : Callee) (nt : Nat) (d : Nat) (g : Nat × Bool) (op : IP) (s : St) (h : Nat.blt d nt = true) :
    evIO c cl nt ⟨some d, some g, op⟩ s = guardK (wantA s (some g)) (putR (some d) (evOp c cl s op)) (some (s.put d .un)) := by
  simp only [evIO, dstOk, h, cond_true]
  cases wantA s (some g) with
  | none => rfl
  | some b => cases b <;> simp only [guardK, cond_true, cond_false] <;> first | rfl | (cases evOp c cl s op <;> rfl)
theorem evIO_guardN (c : Cfg) (cl : Callee) (nt : Nat) (g : Nat × Bool) (op : IP) (s : St) :
    evIO c cl nt ⟨none, some g, op⟩ s = guardK (wantA s (some g)) (putR none (evOp c cl s op)) (some s) := by
  simp only [evIO, dstOk, cond_true]
  cases wantA s (some g) with
  | none => rfl
  | some b => cases b <;> simp only [guardK, cond_true, cond_false] <;> first | rfl | (cases evOp c cl s op <;> rfl)
theorem evLoop_zero (m : Nat) (body : St → Run) (n0 : Nat) (s : St) : evLoop m body 0 n0 s = none := rfl
theorem evLoop_succ (m : Nat) (body : St → Run) (n n0 : Nat) (s : St) : evLoop m body (n + 1) n0 s = seqK (body (s.head m n0)) (evLoop m body n (s.head m n0).nx) := rfl
section
variable (c : Cfg) (cl : Callee) (rg : List (Nat × Nat) → List Iop → St → Option St) (nt m n : Nat) (s : St)
theorem evC_skip : evC c cl rg nt m n .skip s = some (.norm, s) := rfl
theorem evC_reg (ops : List Iop) : evC c cl rg nt m n (.reg none ops) s = regK (evOps c cl nt ops s) := rfl
theorem evC_regd (k : List (Nat × Nat)) (ops : List Iop) : evC c cl rg nt m n (.reg (some k) ops) s = regK (rg k ops s) := rfl
theorem evC_seq (a b : IC) : evC c cl rg nt m n (.seq a b) s = seqK (evC c cl rg nt m n a s) (evC c cl rg nt m n b) := rfl
theorem evC_cond (x : Opd) (a b : IC) : evC c cl rg nt m n (.cond x a b) s = condK (s.ev x) (evC c cl rg nt m n a s) (evC c cl rg nt m n b s) := rfl
theorem evC_block (id : Nat) (b : IC) : evC c cl rg nt m n (.block id b) s = blockK id (evC c cl rg nt m n b s) := rfl
theorem evC_loop (b : IC) : evC c cl rg nt m n (.loop b) s = evLoop m (evC c cl rg nt m n b) n 0 s := rfl
theorem evC_out (id : Nat) : evC c cl rg nt m n (.out id) s = some (.out id, s) := rfl
theorem evC_ret : evC c cl rg nt m n .ret s = some (.ret, s) := rfl
end
theorem seqK_norm (s : St) (f : St → Run) : seqK (some (.norm, s)) f = f s := rfl
theorem seqK_out (id : Nat) (s : St) (f : St → Run) : seqK (some (.out id, s)) f = some (.out id, s) := rfl
theorem seqK_ret (s : St) (f : St → Run) : seqK (some (.ret, s)) f = some (.ret, s) := rfl
theorem seqK_none (f : St → Run) : seqK none f = none := rfl
theorem seqK_ite (p : Prop) [Decidable p] (a b : Run) (f : St → Run) : seqK (if p then a else b) f = if p then seqK a f else seqK b f := by split <;> rfl
theorem blockK_norm (id : Nat) (s : St) : blockK id (some (.norm, s)) = some (.norm, s) := rfl
theorem blockK_ret (id : Nat) (s : St) : blockK id (some (.ret, s)) = some (.ret, s) := rfl
theorem blockK_out (id j : Nat) (s : St) : blockK id (some (.out j, s)) = if j = id then some (.norm, s) else some (.out j, s) := rfl
theorem blockK_none (id : Nat) : blockK id none = none := rfl
theorem blockK_ite (id : Nat) (p : Prop) [Decidable p] (a b : Run) : blockK id (if p then a else b) = if p then blockK id a else blockK id b := by split <;> rfl
theorem regK_some (s : St) : regK (some s) = some (.norm, ⟨s.env, [], s.H, s.nx⟩) := rfl
theorem regK_none : regK none = none := rfl
theorem regK_ite (p : Prop) [Decidable p] (a b : Option St) : regK (if p then a else b) = if p then regK a else regK b := by split <;> rfl
theorem condK_bool (t : Bool) (a b : Run) : condK (.bool t) a b = if t = true then a else b := by cases t <;> rfl
theorem get_mk (e l : List (Nat × AV)) (H : Heap) (nx t : Nat) : St.get ⟨e, l, H, nx⟩ t = ((lk l t).getD ((lk e t).getD .bad)) := by
  change getL l e t = _
  unfold getL
  cases lk l t <;> cases lk e t <;> rfl
def updD (e l : List (Nat × AV)) (H : Heap) (nx d : Nat) (v : AV) (x : Option (List (Nat × AV))) : St :=
  match x with
  | some e' => ⟨e', l, H, nx⟩
  | none => ⟨e, (d, v) :: l, H, nx⟩
theorem updD_some (e l : List (Nat × AV)) (H : Heap) (nx d : Nat) (v : AV) (e' : List (Nat × AV)) : updD e l H nx d v (some e') = ⟨e', l, H, nx⟩ := rfl
theorem updD_none (e l : List (Nat × AV)) (H : Heap) (nx d : Nat) (v : AV) : updD e l H nx d v none = ⟨e, (d, v) :: l, H, nx⟩ := rfl
theorem put_mk (e l : List (Nat × AV)) (H : Heap) (nx d : Nat) (v : AV) : St.put ⟨e, l, H, nx⟩ d v = updD e l H nx d v (upd e d v) := by
  change Option.rec (motive := fun _ => St) ⟨e, (d, v) :: l, H, nx⟩ (fun e' => ⟨e', l, H, nx⟩) (upd e d v) = _
  cases upd e d v <;> rfl
theorem putO_some (s : St) (d : Nat) (v : AV) : s.putO (some d) v = s.put d v := rfl
theorem putO_none (s : St) (v : AV) : s.putO none v = s := rfl
theorem ev_t (s : St) (n : Nat) : s.ev (.t n) = s.get n := rfl
theorem ev_c (s : St) (v : AV) : s.ev (.c v) = v := rfl
theorem keep_some (s : St) (v : AV) : keep s (some v) = some (v, s) := rfl
theorem keep_none (s : St) : keep s none = none := rfl
theorem keep_ite (s : St) (p : Prop) [Decidable p] (a b : Option AV) : keep s (if p then a else b) = if p then keep s a else keep s b := by split <;> rfl
theorem shl_ne : shB .shl = true := rfl
theorem bin_int (op : BinOp) (k : IntKind) (a b : Int) : binAV op (.int k a) (.int k b) = binInt op k a b := by simp [binAV]
theorem bin_str (op : BinOp) (a b : ByteArray) : binAV op (.str a) (.str b) = binStr op a b := rfl
theorem resAV_nil (s : St) : resAV s [] = some [] := rfl

attribute [simp] lk_nil lk_cons upd_nil upd_cons rmv_nil rmv_cons pos_nil pos_cons andThen_some andThen_none andThen_ite putR_some putR_none putR_ite nowS_eq nowN_eq nowI_eq nowB_eq numV_eq truV_eq evOps_nil evOps_cons evIO_plain evIO_store guardK_some evIO_guard evIO_guardN evLoop_zero evLoop_succ evC_skip evC_reg evC_regd evC_seq evC_cond evC_block evC_loop evC_out evC_ret seqK_norm seqK_out seqK_ret seqK_none seqK_ite blockK_norm blockK_ret blockK_out blockK_none blockK_ite regK_some regK_none regK_ite condK_bool get_mk updD_some updD_none put_mk putO_some putO_none ev_t ev_c keep_some keep_none keep_ite shl_ne bin_int bin_str resAV_nil evOp
end Go.Proofs.Ytcmejocmohohpaa.R

/- What abstract values stand for, in a world; and what stays so. -/
set_option linter.unusedVariables false
set_option linter.unusedSectionVars false
noncomputable section
namespace Go.Proofs.Ytcmejocmohohpaa.R
open Go

/-- Which block, and which size of an element, a place of the abstract heap is. -/
abbrev Rho := Nat → Option (Nat × Nat)
def noRho : Rho := fun _ => none
def oneB : Value → Bool
  | .agg _ => false
  | .tuple _ => false
  | _ => true

mutual
/-- An abstract value stands for a value. U: the cells that may be written. -/
def VR (w : World) (U : Nat → Nat → Prop) (ρ : Rho) : AV → Value → Prop
  | .bad, _ => True
  | .un, x => x = undef
  | .bool b, x => x = .bool b
  | .int k n, x => x = .int k n
  | .str s, x => x = .string s
  | .nil, x => x = .slice none 0 0
  | .oth v, x => x = v ∧ oneB v = true
  | .imm es rows ex, x => ∃ A c, x = .slice A rows.length c ∧ rows.length ≤ c ∧ (ex = true → c = rows.length) ∧
      (rows = [] ∨ ∃ b o, A = some ⟨b, o, none⟩ ∧ RWs w U rows b o es)
  | .own es id off len ex, x => ∃ A c, x = .slice A len c ∧ len ≤ c ∧ (ex = true → c = len) ∧
      ((len = 0 ∧ c = 0) ∨ ∃ b C e fr, ρ id = some (b, es) ∧ A = some ⟨b, off * es, none⟩ ∧ w.heap[b]? = some (Obj.cells C e fr) ∧ (off + c) * es ≤ C.size)
  | .ptr id off, x => ∃ b es, ρ id = some (b, es) ∧ x = .pointer (some ⟨b, off, none⟩)
  | .eptr id i f, x => ∃ b es, ρ id = some (b, es) ∧ x = .pointer (some ⟨b, i * es + f, none⟩)
  | .iptr row f, x => ∃ b o, x = .pointer (some ⟨b, o + f, none⟩) ∧ CLs w U row b o
  | .fn g pre post, x => ∃ xs ys, x = .func g xs ys ∧ VRs w U ρ pre xs.toList ∧ VRs w U ρ post ys.toList
  | .agg cs, x => ∃ xs, x = .agg xs ∧ VRs w U ρ cs xs.toList
  | .tup cs, x => ∃ xs, x = .tuple xs ∧ VRs w U ρ cs xs.toList
def VRs (w : World) (U : Nat → Nat → Prop) (ρ : Rho) : List AV → List Value → Prop
  | [], xs => xs = []
  | a :: as, xs => ∃ x r, xs = x :: r ∧ VR w U ρ a x ∧ VRs w U ρ as r
/-- Cells that stay as they are, from a place on. -/
def CLs (w : World) (U : Nat → Nat → Prop) : List AV → Nat → Nat → Prop
  | [], _, _ => True
  | a :: as, b, o => (∃ v, w.cell? ⟨b, o, none⟩ = some v ∧ ¬ U b o ∧ oneB v = true ∧ VR w U noRho a v) ∧ CLs w U as b (o + 1)
/-- Rows of them. -/
def RWs (w : World) (U : Nat → Nat → Prop) : List (List AV) → Nat → Nat → Nat → Prop
  | [], _, _, _ => True
  | r :: rs, b, o, es => r.length = es ∧ CLs w U r b o ∧ RWs w U rs b (o + es) es
end

/-- What was read stays so, and blocks stay as large as they are. -/
structure Stay (w : World) (U : Nat → Nat → Prop) (w' : World) (U' : Nat → Nat → Prop) : Prop where
  cell : ∀ b o v, ¬ U b o → w.cell? ⟨b, o, none⟩ = some v → w'.cell? ⟨b, o, none⟩ = some v ∧ ¬ U' b o
  size : ∀ (b : Nat) (C : Array Value) (e : TypeId) (fr : Nat × Nat), w.heap[b]? = some (Obj.cells C e fr) → ∃ C' fr', w'.heap[b]? = some (Obj.cells C' e fr') ∧ C'.size = C.size
def Ext (ρ ρ' : Rho) : Prop := ∀ id x, ρ id = some x → ρ' id = some x
theorem Ext.refl (ρ : Rho) : Ext ρ ρ := fun _ _ h => h
theorem Ext.trans {ρ ρ' ρ'' : Rho} (h : Ext ρ ρ') (h' : Ext ρ' ρ'') : Ext ρ ρ'' := fun i x hx => h' i x (h i x hx)
theorem Stay.refl (w : World) (U : Nat → Nat → Prop) : Stay w U w U := ⟨fun _ _ _ h c => ⟨c, h⟩, fun b C e fr h => ⟨C, fr, h, rfl⟩⟩
theorem Stay.trans {w w' w'' : World} {U U' U'' : Nat → Nat → Prop} (h : Stay w U w' U') (h' : Stay w' U' w'' U'') : Stay w U w'' U'' :=
  ⟨fun b o v hu hc => let ⟨c1, u1⟩ := h.cell b o v hu hc; h'.cell b o v u1 c1,
   fun b C e fr hb => let ⟨C1, f1, h1, s1⟩ := h.size b C e fr hb; let ⟨C2, f2, h2, s2⟩ := h'.size b C1 e f1 h1; ⟨C2, f2, h2, s2.trans s1⟩⟩

section mono
variable {w w' : World} {U U' : Nat → Nat → Prop} (hs : Stay w U w' U')
include hs
mutual
theorem VR_mono : ∀ (a : AV) (x : Value) (ρ ρ' : Rho), Ext ρ ρ' → VR w U ρ a x → VR w' U' ρ' a x
  | .bad, _, _, _, _, _ => by simp [VR]
  | .un, _, _, _, _, h => by simpa [VR] using h
  | .bool _, _, _, _, _, h => by simpa [VR] using h
  | .int _ _, _, _, _, _, h => by simpa [VR] using h
  | .str _, _, _, _, _, h => by simpa [VR] using h
  | .nil, _, _, _, _, h => by simpa [VR] using h
  | .oth _, _, _, _, _, h => by simpa [VR] using h
  | .imm es rows ex, x, ρ, ρ', hρ, h => by
    simp only [VR] at h ⊢
    obtain ⟨A, c, h1, h2, h3, h4⟩ := h
    refine ⟨A, c, h1, h2, h3, ?_⟩
    rcases h4 with h4 | ⟨b, o, h5, h7⟩
    · exact .inl h4
    · exact .inr ⟨b, o, h5, RWs_mono rows b o es h7⟩
  | .own es id off len ex, x, ρ, ρ', hρ, h => by
    simp only [VR] at h ⊢
    obtain ⟨A, c, h1, h2, h3, h4⟩ := h
    refine ⟨A, c, h1, h2, h3, ?_⟩
    rcases h4 with h4 | ⟨b, C, e, fr, h5, h6, h7, h8⟩
    · exact .inl h4
    · obtain ⟨C', fr', h9, h10⟩ := hs.size b C e fr h7
      exact .inr ⟨b, C', e, fr', hρ _ _ h5, h6, h9, by rw [h10]; exact h8⟩
  | .ptr id off, x, ρ, ρ', hρ, h => by
    simp only [VR] at h ⊢
    obtain ⟨b, es, h1, h2⟩ := h
    exact ⟨b, es, hρ _ _ h1, h2⟩
  | .eptr id i f, x, ρ, ρ', hρ, h => by
    simp only [VR] at h ⊢
    obtain ⟨b, es, h1, h2⟩ := h
    exact ⟨b, es, hρ _ _ h1, h2⟩
  | .iptr row f, x, ρ, ρ', hρ, h => by
    simp only [VR] at h ⊢
    obtain ⟨b, o, h1, h2⟩ := h
    exact ⟨b, o, h1, CLs_mono row b o h2⟩
  | .fn g pre post, x, ρ, ρ', hρ, h => by
    simp only [VR] at h ⊢
    obtain ⟨xs, ys, h1, h2, h3⟩ := h
    exact ⟨xs, ys, h1, VRs_mono pre _ ρ ρ' hρ h2, VRs_mono post _ ρ ρ' hρ h3⟩
  | .agg cs, x, ρ, ρ', hρ, h => by
    simp only [VR] at h ⊢
    obtain ⟨xs, h1, h2⟩ := h
    exact ⟨xs, h1, VRs_mono cs _ ρ ρ' hρ h2⟩
  | .tup cs, x, ρ, ρ', hρ, h => by
    simp only [VR] at h ⊢
    obtain ⟨xs, h1, h2⟩ := h
    exact ⟨xs, h1, VRs_mono cs _ ρ ρ' hρ h2⟩
theorem VRs_mono : ∀ (as : List AV) (xs : List Value) (ρ ρ' : Rho), Ext ρ ρ' → VRs w U ρ as xs → VRs w' U' ρ' as xs
  | [], _, _, _, _, h => by simpa [VRs] using h
  | a :: as, xs, ρ, ρ', hρ, h => by
    simp only [VRs] at h ⊢
    obtain ⟨x, r, h1, h2, h3⟩ := h
    exact ⟨x, r, h1, VR_mono a x ρ ρ' hρ h2, VRs_mono as r ρ ρ' hρ h3⟩
theorem CLs_mono : ∀ (as : List AV) (b o : Nat), CLs w U as b o → CLs w' U' as b o
  | [], _, _, _ => by simp [CLs]
  | a :: as, b, o, h => by
    simp only [CLs] at h ⊢
    obtain ⟨⟨v, h1, h2, h0, h3⟩, h4⟩ := h
    obtain ⟨c1, c2⟩ := hs.cell b o v h2 h1
    exact ⟨⟨v, c1, c2, h0, VR_mono a v noRho noRho (Ext.refl _) h3⟩, CLs_mono as b (o + 1) h4⟩
theorem RWs_mono : ∀ (rs : List (List AV)) (b o es : Nat), RWs w U rs b o es → RWs w' U' rs b o es
  | [], _, _, _, _ => by simp [RWs]
  | r :: rs, b, o, es, h => by
    simp only [RWs] at h ⊢
    exact ⟨h.1, CLs_mono r b o h.2.1, RWs_mono rs b (o + es) es h.2.2⟩
end
end mono

section rename
variable {w : World} {U : Nat → Nat → Prop} {ρ ρ' : Rho} {f : Nat → Option Nat} (hf : ∀ id j x, f id = some j → ρ id = some x → ρ' j = some x)
include hf
mutual
theorem VR_ren : ∀ (a : AV) (x : Value), VR w U ρ a x → VR w U ρ' (ren f a) x
  | .bad, _, _ => by simp [ren, VR]
  | .un, _, h => by simpa [ren, VR] using h
  | .bool _, _, h => by simpa [ren, VR] using h
  | .int _ _, _, h => by simpa [ren, VR] using h
  | .str _, _, h => by simpa [ren, VR] using h
  | .nil, _, h => by simpa [ren, VR] using h
  | .oth _, _, h => by simpa [ren, VR] using h
  | .imm es rows ex, x, h => by simpa [ren, VR] using h
  | .own es id off len ex, x, h => by
    simp only [ren]
    cases hj : f id with
    | none => simp [VR]
    | some j =>
      simp only [VR] at h ⊢
      obtain ⟨A, c, h1, h2, h3, h4⟩ := h
      refine ⟨A, c, h1, h2, h3, ?_⟩
      rcases h4 with h4 | ⟨b, C, e, fr, h5, h6⟩
      · exact .inl h4
      · exact .inr ⟨b, C, e, fr, hf _ _ _ hj h5, h6⟩
  | .ptr id off, x, h => by
    simp only [ren]
    cases hj : f id with
    | none => simp [VR]
    | some j =>
      simp only [VR] at h ⊢
      obtain ⟨b, es, h1, h2⟩ := h
      exact ⟨b, es, hf _ _ _ hj h1, h2⟩
  | .eptr id i g, x, h => by
    simp only [ren]
    cases hj : f id with
    | none => simp [VR]
    | some j =>
      simp only [VR] at h ⊢
      obtain ⟨b, es, h1, h2⟩ := h
      exact ⟨b, es, hf _ _ _ hj h1, h2⟩
  | .iptr row g, x, h => by simpa [ren, VR] using h
  | .fn g pre post, x, h => by
    simp only [VR, ren] at h ⊢
    obtain ⟨xs, ys, h1, h2, h3⟩ := h
    exact ⟨xs, ys, h1, VRs_ren pre _ h2, VRs_ren post _ h3⟩
  | .agg cs, x, h => by
    simp only [VR, ren] at h ⊢
    obtain ⟨xs, h1, h2⟩ := h
    exact ⟨xs, h1, VRs_ren cs _ h2⟩
  | .tup cs, x, h => by
    simp only [VR, ren] at h ⊢
    obtain ⟨xs, h1, h2⟩ := h
    exact ⟨xs, h1, VRs_ren cs _ h2⟩
theorem VRs_ren : ∀ (as : List AV) (xs : List Value), VRs w U ρ as xs → VRs w U ρ' (rens f as) xs
  | [], _, h => by simpa [rens, VRs] using h
  | a :: as, xs, h => by
    simp only [VRs, rens] at h ⊢
    obtain ⟨x, r, h1, h2, h3⟩ := h
    exact ⟨x, r, h1, VR_ren a x h2, VRs_ren as r h3⟩
end
end rename

/-! ### Lists -/
section
variable {w : World} {U : Nat → Nat → Prop} {ρ : Rho}
theorem VRs_length : ∀ {as : List AV} {xs : List Value}, VRs w U ρ as xs → as.length = xs.length
  | [], _, h => by simp only [VRs] at h; subst h; rfl
  | a :: as, xs, h => by
    simp only [VRs] at h
    obtain ⟨x, r, rfl, h2, h3⟩ := h
    simp [VRs_length h3]
theorem VRs_get : ∀ {as : List AV} {xs : List Value}, VRs w U ρ as xs → ∀ {i : Nat} {a : AV}, as[i]? = some a → ∃ x, xs[i]? = some x ∧ VR w U ρ a x
  | [], _, h, i, a, hi => by simp at hi
  | b :: as, xs, h, i, a, hi => by
    simp only [VRs] at h
    obtain ⟨x, r, rfl, h2, h3⟩ := h
    cases i with
    | zero => simp at hi; subst hi; exact ⟨x, rfl, h2⟩
    | succ i => simp at hi; simpa using VRs_get h3 hi
theorem VRs_append : ∀ {as bs : List AV} {xs ys : List Value}, VRs w U ρ as xs → VRs w U ρ bs ys → VRs w U ρ (as ++ bs) (xs ++ ys)
  | [], bs, xs, ys, h, h' => by simp only [VRs] at h; subst h; simpa using h'
  | a :: as, bs, xs, ys, h, h' => by
    simp only [VRs] at h
    obtain ⟨x, r, rfl, h2, h3⟩ := h
    simp only [List.cons_append, VRs]
    exact ⟨x, r ++ ys, rfl, h2, VRs_append h3 h'⟩
theorem VRs_drop : ∀ {as : List AV} {xs : List Value} (n : Nat), VRs w U ρ as xs → VRs w U ρ (as.drop n) (xs.drop n)
  | [], _, n, h => by simp only [VRs] at h; subst h; simp [VRs]
  | a :: as, xs, 0, h => by simpa using h
  | a :: as, xs, n + 1, h => by
    simp only [VRs] at h
    obtain ⟨x, r, rfl, h2, h3⟩ := h
    simpa using VRs_drop n h3
theorem VRs_take : ∀ {as : List AV} {xs : List Value} (n : Nat), VRs w U ρ as xs → VRs w U ρ (as.take n) (xs.take n)
  | [], _, n, h => by simp only [VRs] at h; subst h; simp [VRs]
  | a :: as, xs, 0, h => by simp [VRs]
  | a :: as, xs, n + 1, h => by
    simp only [VRs] at h
    obtain ⟨x, r, rfl, h2, h3⟩ := h
    simp only [List.take_succ_cons, VRs]
    exact ⟨x, r.take n, rfl, h2, VRs_take n h3⟩
theorem CLs_get : ∀ {as : List AV} {b o : Nat}, CLs w U as b o → ∀ {i : Nat} {a : AV}, as[i]? = some a → ∃ v, w.cell? ⟨b, o + i, none⟩ = some v ∧ ¬ U b (o + i) ∧ oneB v = true ∧ VR w U noRho a v
  | [], _, _, h, i, a, hi => by simp at hi
  | c :: as, b, o, h, i, a, hi => by
    simp only [CLs] at h
    obtain ⟨⟨v, h1, h2, h0, h3⟩, h4⟩ := h
    cases i with
    | zero => simp at hi; subst hi; exact ⟨v, h1, h2, h0, h3⟩
    | succ i =>
      simp at hi
      obtain ⟨v, g1, g2, g3⟩ := CLs_get h4 hi
      exact ⟨v, by rw [show o + (i + 1) = o + 1 + i by omega]; exact g1, by rw [show o + (i + 1) = o + 1 + i by omega]; exact g2, g3⟩
theorem CLs_mk : ∀ {as : List AV} {b o : Nat}, (∀ i a, as[i]? = some a → ∃ v, w.cell? ⟨b, o + i, none⟩ = some v ∧ ¬ U b (o + i) ∧ oneB v = true ∧ VR w U noRho a v) → CLs w U as b o
  | [], _, _, _ => by simp [CLs]
  | a :: as, b, o, h => by
    simp only [CLs]
    refine ⟨by simpa using h 0 a rfl, CLs_mk fun i a' hi => ?_⟩
    have := h (i + 1) a' (by simpa using hi)
    rwa [show o + (i + 1) = o + 1 + i by omega] at this
theorem RWs_get : ∀ {rs : List (List AV)} {b o es : Nat}, RWs w U rs b o es → ∀ {i : Nat} {r : List AV}, rs[i]? = some r → r.length = es ∧ CLs w U r b (o + i * es)
  | [], _, _, _, h, i, r, hi => by simp at hi
  | r' :: rs, b, o, es, h, i, r, hi => by
    simp only [RWs] at h
    cases i with
    | zero => simp at hi; subst hi; simpa using ⟨h.1, h.2.1⟩
    | succ i =>
      simp at hi
      have := RWs_get h.2.2 hi
      rwa [show o + es + i * es = o + (i + 1) * es by rw [Nat.succ_mul]; omega] at this
theorem RWs_mk : ∀ {rs : List (List AV)} {b o es : Nat}, (∀ i r, rs[i]? = some r → r.length = es ∧ CLs w U r b (o + i * es)) → RWs w U rs b o es
  | [], _, _, _, _ => by simp [RWs]
  | r :: rs, b, o, es, h => by
    simp only [RWs]
    have h0 := h 0 r rfl
    refine ⟨h0.1, by simpa using h0.2, RWs_mk fun i r' hi => ?_⟩
    have := h (i + 1) r' (by simpa using hi)
    rwa [show o + (i + 1) * es = o + es + i * es by rw [Nat.succ_mul]; omega] at this
end

/-! ### Values without places -/
mutual
theorem VR_free {w : World} {U : Nat → Nat → Prop} {ρ ρ' : Rho} : ∀ (a : AV) (x : Value), idFree a = true → VR w U ρ a x → VR w U ρ' a x
  | .bool _, _, _, h => by simpa [VR] using h
  | .int _ _, _, _, h => by simpa [VR] using h
  | .str _, _, _, h => by simpa [VR] using h
  | .nil, _, _, h => by simpa [VR] using h
  | .oth _, _, _, h => by simpa [VR] using h
  | .imm es rows ex, _, _, h => by simpa [VR] using h
  | .agg cs, x, hi, h => by
    simp only [VR] at h ⊢
    obtain ⟨xs, h1, h2⟩ := h
    exact ⟨xs, h1, VRs_free cs _ (by simpa [idFree] using hi) h2⟩
  | .tup cs, x, hi, h => by
    simp only [VR] at h ⊢
    obtain ⟨xs, h1, h2⟩ := h
    exact ⟨xs, h1, VRs_free cs _ (by simpa [idFree] using hi) h2⟩
  | .bad, _, hi, _ => by simp [idFree] at hi
  | .un, _, hi, _ => by simp [idFree] at hi
  | .own .., _, hi, _ => by simp [idFree] at hi
  | .ptr .., _, hi, _ => by simp [idFree] at hi
  | .eptr .., _, hi, _ => by simp [idFree] at hi
  | .iptr .., _, hi, _ => by simp [idFree] at hi
  | .fn .., _, hi, _ => by simp [idFree] at hi
theorem VRs_free {w : World} {U : Nat → Nat → Prop} {ρ ρ' : Rho} : ∀ (as : List AV) (xs : List Value), idFrees as = true → VRs w U ρ as xs → VRs w U ρ' as xs
  | [], _, _, h => by simpa [VRs] using h
  | a :: as, xs, hi, h => by
    simp only [VRs] at h ⊢
    simp only [idFrees, Bool.and_eq_true] at hi
    obtain ⟨x, r, h1, h2, h3⟩ := h
    exact ⟨x, r, h1, VR_free a x hi.1 h2, VRs_free as r hi.2 h3⟩
end
mutual
/-- A value without slices says nothing of memory. -/
theorem VR_plain {w w' : World} {U U' : Nat → Nat → Prop} {ρ ρ' : Rho} : ∀ (a : AV) (x : Value), plainB a = true → VR w U ρ a x → VR w' U' ρ' a x
  | .bool _, _, _, h => by simpa [VR] using h
  | .int _ _, _, _, h => by simpa [VR] using h
  | .str _, _, _, h => by simpa [VR] using h
  | .nil, _, _, h => by simpa [VR] using h
  | .oth _, _, _, h => by simpa [VR] using h
  | .agg cs, x, hi, h => by
    simp only [VR] at h ⊢
    obtain ⟨xs, h1, h2⟩ := h
    exact ⟨xs, h1, VRs_plain cs _ (by simpa [plainB] using hi) h2⟩
  | .tup cs, x, hi, h => by
    simp only [VR] at h ⊢
    obtain ⟨xs, h1, h2⟩ := h
    exact ⟨xs, h1, VRs_plain cs _ (by simpa [plainB] using hi) h2⟩
  | .imm .., _, hi, _ => by simp [plainB] at hi
  | .bad, _, hi, _ => by simp [plainB] at hi
  | .un, _, hi, _ => by simp [plainB] at hi
  | .own .., _, hi, _ => by simp [plainB] at hi
  | .ptr .., _, hi, _ => by simp [plainB] at hi
  | .eptr .., _, hi, _ => by simp [plainB] at hi
  | .iptr .., _, hi, _ => by simp [plainB] at hi
  | .fn .., _, hi, _ => by simp [plainB] at hi
theorem VRs_plain {w w' : World} {U U' : Nat → Nat → Prop} {ρ ρ' : Rho} : ∀ (as : List AV) (xs : List Value), plainBs as = true → VRs w U ρ as xs → VRs w' U' ρ' as xs
  | [], _, _, h => by simpa [VRs] using h
  | a :: as, xs, hi, h => by
    simp only [VRs] at h ⊢
    simp only [plainBs, Bool.and_eq_true] at hi
    obtain ⟨x, r, h1, h2, h3⟩ := h
    exact ⟨x, r, h1, VR_plain a x hi.1 h2, VRs_plain as r hi.2 h3⟩
end

/-! ### Cells -/
theorem VR_cell {w : World} {U : Nat → Nat → Prop} {ρ : Rho} {a : AV} {x : Value} (ha : cellB a = true) (h : VR w U ρ a x) : oneB x = true := by
  cases a <;> simp [cellB] at ha <;> simp only [VR] at h
  case bool => subst h; rfl
  case int => subst h; rfl
  case str => subst h; rfl
  case nil => subst h; rfl
  case oth => obtain ⟨rfl, h⟩ := h; exact h
  case imm => obtain ⟨A, c, rfl, _⟩ := h; rfl
  case own => obtain ⟨A, c, rfl, _⟩ := h; rfl
  case ptr => obtain ⟨b, es, _, rfl⟩ := h; rfl
  case eptr => obtain ⟨b, es, _, rfl⟩ := h; rfl
  case iptr => obtain ⟨b, o, rfl, _⟩ := h; rfl
  case fn => obtain ⟨xs, ys, rfl, _⟩ := h; rfl
theorem cells_one {x : Value} (h : oneB x = true) : x.cells = #[x] := by cases x <;> simp [oneB] at h <;> rfl
theorem VRs_cells {w : World} {U : Nat → Nat → Prop} {ρ : Rho} {a : AV} {x : Value} {cs : List AV} (ha : cellsOf a = some cs) (h : VR w U ρ a x) : VRs w U ρ cs x.cells.toList := by
  have other : ∀ a : AV, cellB a = true → cellsOf a = some [a] := by
    intro a h
    cases a <;> simp [cellB] at h <;> rfl
  cases a with
  | agg l =>
    simp only [cellsOf, Option.some.injEq] at ha
    subst ha
    simp only [VR] at h
    obtain ⟨xs, rfl, h2⟩ := h
    exact h2
  | bad => simp [cellsOf, cellB] at ha
  | un => simp [cellsOf, cellB] at ha
  | tup l => simp [cellsOf, cellB] at ha
  | _ =>
    have hc := VR_cell (by rfl) h
    rw [other _ (by rfl)] at ha
    obtain rfl := Option.some.inj ha
    rw [cells_one hc]
    simp only [VRs]
    exact ⟨x, [], rfl, h, rfl⟩
theorem VRs_one {w : World} {U : Nat → Nat → Prop} {ρ : Rho} : ∀ {as : List AV} {xs : List Value}, cellBs as = true → VRs w U ρ as xs → ∀ x ∈ xs, oneB x = true
  | [], xs, _, h, x, hx => by simp only [VRs] at h; subst h; simp at hx
  | a :: as, xs, ha, h, x, hx => by
    simp only [VRs] at h
    obtain ⟨y, r, rfl, h2, h3⟩ := h
    simp only [cellBs, Bool.and_eq_true] at ha
    rcases List.mem_cons.1 hx with rfl | hx
    · exact VR_cell ha.1 h2
    · exact VRs_one ha.2 h3 x hx

theorem esFit_or {size es : Nat} {rows : List (List AV)} (h : esFit size es rows = true) : rows = [] ∨ es = size := by
  simp only [esFit, Bool.or_eq_true, List.isEmpty_iff] at h
  rcases h with h | h
  · exact .inl h
  · exact .inr (Nat.eq_of_beq_eq_true h)
theorem RWs_es {w : World} {U : Nat → Nat → Prop} {b o es : Nat} : ∀ {rows : List (List AV)}, RWs w U rows b o es → rows = [] ∨ esOf rows = es
  | [], _ => .inl rfl
  | r :: rs, h => by
    simp only [RWs] at h
    exact .inr h.1
theorem VR_canI {w : World} {U : Nat → Nat → Prop} {ρ : Rho} {es : Nat} {rows : List (List AV)} {ex : Bool} {x : Value} (h : VR w U ρ (.imm es rows ex) x) : VR w U ρ (canI rows) x := by
  simp only [VR, canI] at h ⊢
  obtain ⟨A, c, h1, h2, h3, h4⟩ := h
  refine ⟨A, c, h1, h2, by simp, ?_⟩
  rcases h4 with h4 | ⟨b, o, h5, h7⟩
  · exact .inl h4
  · rcases RWs_es h7 with h8 | h8
    · exact .inl h8
    · rw [h8]
      exact .inr ⟨b, o, h5, h7⟩
theorem VR_nilI {w : World} {U : Nat → Nat → Prop} {ρ ρ' : Rho} {x : Value} (h : VR w U ρ .nil x) : VR w U ρ' (canI []) x := by
  simp only [VR, canI] at h ⊢
  subst h
  exact ⟨none, 0, rfl, Nat.le_refl _, by simp, .inl trivial⟩
/-! ### Constants -/
theorem VR_ofCell {w : World} {U : Nat → Nat → Prop} {ρ : Rho} (v : Value) : VR w U ρ (ofCell v) v := by
  unfold ofCell
  split <;> simp [VR, oneB]
theorem VRs_ofCells {w : World} {U : Nat → Nat → Prop} {ρ : Rho} : ∀ vs : List Value, VRs w U ρ (vs.map ofCell) vs
  | [] => by simp [VRs]
  | v :: vs => by
    simp only [List.map_cons, VRs]
    exact ⟨v, vs, rfl, VR_ofCell v, VRs_ofCells vs⟩
theorem VR_ofConst {w : World} {U : Nat → Nat → Prop} {ρ : Rho} (v : Value) : VR w U ρ (ofConst v) v := by
  unfold ofConst
  split
  · simp only [VR]
    exact ⟨_, rfl, VRs_ofCells _⟩
  · exact VR_ofCell _
end Go.Proofs.Ytcmejocmohohpaa.R

/- The abstract heap in a world; what an operation leaves alone. -/
set_option linter.unusedVariables false
set_option linter.unusedSectionVars false
noncomputable section
namespace Go.Proofs.Ytcmejocmohohpaa.R
open Go

/-- The cells that may be written. -/
def wrOb (es o : Nat) : Ob → Prop
  | .box _ => True
  | .arr _ _ leak => leak * es ≤ o
def Wr (ρ : Rho) (H : Heap) (b o : Nat) : Prop := ∃ id es ob, lk H id = some ob ∧ ρ id = some (b, es) ∧ wrOb es o ob
/-- With those that others may write. -/
def UU (A : Nat → Nat → Prop) (ρ : Rho) (H : Heap) (b o : Nat) : Prop := A b o ∨ Wr ρ H b o
def unfr (fr : Nat × Nat) (n : Nat) : Prop := ∀ o, o < n → ¬ (fr.1 ≤ o ∧ o < fr.2)
/-- Rows, laid out one behind the other. -/
def ARs (w : World) (U : Nat → Nat → Prop) (es : Nat) : List (List AV) → List Value → Prop
  | [], _ => True
  | r :: rs, C => r.length = es ∧ es ≤ C.length ∧ (VRs w U noRho r (C.take es) ∧ ∀ x ∈ C.take es, oneB x = true) ∧ ARs w U es rs (C.drop es)
def ObR (w : World) (U : Nat → Nat → Prop) (ρ : Rho) (b es : Nat) : Ob → Prop
  | .box cells => ∃ C e fr, w.heap[b]? = some (Obj.cells C e fr) ∧ unfr fr C.size ∧ VRs w U ρ cells C.toList
  | .arr es' rows leak => es' = es ∧ 0 < es ∧ ∃ C e fr, w.heap[b]? = some (Obj.cells C e fr) ∧ unfr fr C.size ∧ ARs w U es rows C.toList

structure Rep (A : Nat → Nat → Prop) (ρ : Rho) (H : Heap) (nx : Nat) (w : World) : Prop where
  ob : ∀ id o b es, lk H id = some o → ρ id = some (b, es) → ObR w (UU A ρ H) ρ b es o
  inj : ∀ i j oi oj b ei ej, lk H i = some oi → lk H j = some oj → ρ i = some (b, ei) → ρ j = some (b, ej) → i = j
  ltH : ∀ id o, lk H id = some o → id < nx
  ltR : ∀ id x, ρ id = some x → id < nx
  ltA : ∀ b o, A b o → b < w.heap.size
  apart : ∀ id o b es off, lk H id = some o → ρ id = some (b, es) → ¬ A b off

/-- What an activation leaves alone. -/
structure Fr (ρ : Rho) (H : Heap) (w : World) (ρ' : Rho) (H' : Heap) (w' : World) : Prop where
  size : w.heap.size ≤ w'.heap.size
  os : w'.os = w.os
  tape : w'.tape = w.tape
  output : w'.output = w.output
  cells : ∀ (b : Nat) (C : Array Value) (e : TypeId) (fr : Nat × Nat), w.heap[b]? = some (Obj.cells C e fr) →
    ∃ C', w'.heap[b]? = some (Obj.cells C' e fr) ∧ C'.size = C.size ∧ ∀ o, ¬ Wr ρ H b o → C'[o]? = C[o]?
  other : ∀ (b : Nat) (ob : Obj), w.heap[b]? = some ob → (∀ C e fr, ob ≠ Obj.cells C e fr) → w'.heap[b]? = some ob
  shrink : ∀ b o, b < w.heap.size → Wr ρ' H' b o → Wr ρ H b o

theorem Fr.refl (ρ : Rho) (H : Heap) (w : World) : Fr ρ H w ρ H w :=
  ⟨Nat.le_refl _, rfl, rfl, rfl, fun b C e fr h => ⟨C, h, rfl, fun _ _ => rfl⟩, fun b ob h _ => h, fun _ _ _ h => h⟩
theorem lt_of_heap {w : World} {b : Nat} {o : Obj} (h : w.heap[b]? = some o) : b < w.heap.size := by
  rcases Nat.lt_or_ge b w.heap.size with h' | h'
  · exact h'
  · rw [Array.getElem?_eq_none h'] at h; cases h
theorem Fr.trans {ρ ρ' ρ'' : Rho} {H H' H'' : Heap} {w w' w'' : World} (h : Fr ρ H w ρ' H' w') (h' : Fr ρ' H' w' ρ'' H'' w'') : Fr ρ H w ρ'' H'' w'' where
  size := Nat.le_trans h.size h'.size
  os := h'.os.trans h.os
  tape := h'.tape.trans h.tape
  output := h'.output.trans h.output
  cells b C e fr hb := by
    obtain ⟨C1, h1, s1, k1⟩ := h.cells b C e fr hb
    obtain ⟨C2, h2, s2, k2⟩ := h'.cells b C1 e fr h1
    exact ⟨C2, h2, s2.trans s1, fun o ho => (k2 o (fun hw => ho (h.shrink b o (lt_of_heap hb) hw))).trans (k1 o ho)⟩
  other b ob hb hn := h'.other b ob (h.other b ob hb hn) hn
  shrink b o hb hw := h.shrink b o hb (h'.shrink b o (Nat.lt_of_lt_of_le hb h.size) hw)
/-- The cells that nobody may write stay as they are. -/
theorem Fr.stay {A : Nat → Nat → Prop} {ρ ρ' : Rho} {H H' : Heap} {w w' : World} (h : Fr ρ H w ρ' H' w') : Stay w (UU A ρ H) w' (UU A ρ' H') where
  cell b o v hu hc := by
    have hb : b < w.heap.size := World.block_lt_of_cell? w _ hc
    unfold World.cell? at hc
    cases hob : w.heap[b]? with
    | none => simp [hob] at hc
    | some ob =>
      cases ob with
      | cells C e fr =>
        simp only [hob] at hc
        obtain ⟨C', h1, h2, h3⟩ := h.cells b C e fr hob
        refine ⟨?_, fun hu' => ?_⟩
        · unfold World.cell?
          simp only [h1]
          have := h3 o (fun hw => hu (.inr hw))
          simp only [Option.isSome] at hc ⊢
          rw [this]; exact hc
        · rcases hu' with ha | hw
          · exact hu (.inl ha)
          · exact hu (.inr (h.shrink b o hb hw))
      | _ => simp [hob] at hc
  size b C e fr hb := by
    obtain ⟨C', h1, h2, _⟩ := h.cells b C e fr hb
    exact ⟨C', fr, h1, h2⟩
theorem VR_fr {A : Nat → Nat → Prop} {ρ ρ' : Rho} {H H' : Heap} {w w' : World} (h : Fr ρ H w ρ' H' w') (he : Ext ρ ρ') {a : AV} {x : Value} (hv : VR w (UU A ρ H) ρ a x) : VR w' (UU A ρ' H') ρ' a x :=
  VR_mono h.stay a x ρ ρ' he hv

theorem ARs_mono {w w' : World} {U U' : Nat → Nat → Prop} (hs : Stay w U w' U') {es : Nat} : ∀ {rs : List (List AV)} {C : List Value}, ARs w U es rs C → ARs w' U' es rs C
  | [], _, _ => by simp [ARs]
  | r :: rs, C, h => by
    simp only [ARs] at h ⊢
    exact ⟨h.1, h.2.1, ⟨VRs_mono hs r _ noRho noRho (Ext.refl _) h.2.2.1.1, h.2.2.1.2⟩, ARs_mono hs h.2.2.2⟩
theorem ARs_get {w : World} {U : Nat → Nat → Prop} {es : Nat} : ∀ {rs : List (List AV)} {C : List Value}, ARs w U es rs C → ∀ {i : Nat} {r : List AV}, rs[i]? = some r → r.length = es ∧ (i + 1) * es ≤ C.length ∧ VRs w U noRho r ((C.drop (i * es)).take es) ∧ ∀ x ∈ (C.drop (i * es)).take es, oneB x = true
  | [], _, h, i, r, hi => by simp at hi
  | r' :: rs, C, h, i, r, hi => by
    simp only [ARs] at h
    cases i with
    | zero => simp at hi; subst hi; refine ⟨h.1, by simpa using h.2.1, ?_⟩; rw [Nat.zero_mul, List.drop_zero]; exact h.2.2.1
    | succ i =>
      simp at hi
      have := ARs_get h.2.2.2 hi
      have hl := h.2.1
      rw [List.length_drop, List.drop_drop] at this
      refine ⟨this.1, ?_, ?_⟩
      · have h2 := this.2.1
        rw [Nat.succ_mul (i + 1)]; omega
      · rw [show (i + 1) * es = es + i * es by rw [Nat.succ_mul]; omega]; exact this.2.2
theorem ARs_mk {w : World} {U : Nat → Nat → Prop} {es : Nat} : ∀ {rs : List (List AV)} {C : List Value}, (∀ i r, rs[i]? = some r → r.length = es ∧ (i + 1) * es ≤ C.length ∧ VRs w U noRho r ((C.drop (i * es)).take es) ∧ ∀ x ∈ (C.drop (i * es)).take es, oneB x = true) → ARs w U es rs C
  | [], _, _ => by simp [ARs]
  | r :: rs, C, h => by
    simp only [ARs]
    have h0 := h 0 r rfl
    simp only [Nat.zero_mul, List.drop_zero, Nat.zero_add, Nat.one_mul] at h0
    refine ⟨h0.1, h0.2.1, h0.2.2, ARs_mk fun i r' hi => ?_⟩
    have := h (i + 1) r' (by simpa using hi)
    rw [List.length_drop, List.drop_drop]
    refine ⟨this.1, ?_, ?_⟩
    · have h2 := this.2.1
      rw [Nat.succ_mul (i + 1)] at h2; omega
    · rw [show es + i * es = (i + 1) * es by rw [Nat.succ_mul]; omega]; exact this.2.2
theorem ARs_len {w : World} {U : Nat → Nat → Prop} {es : Nat} : ∀ {rs : List (List AV)} {C : List Value}, ARs w U es rs C → rs.length * es ≤ C.length
  | [], _, _ => by simp
  | r :: rs, C, h => by
    simp only [ARs] at h
    have h1 := ARs_len h.2.2.2
    rw [List.length_drop] at h1
    have := h.2.1
    simp only [List.length_cons, Nat.succ_mul]; omega

theorem ObR_mono {w w' : World} {U U' : Nat → Nat → Prop} (hs : Stay w U w' U') {ρ ρ' : Rho} (he : Ext ρ ρ') {b es : Nat} {o : Ob} (hb : w'.heap[b]? = w.heap[b]?) (h : ObR w U ρ b es o) : ObR w' U' ρ' b es o := by
  cases o with
  | box cells =>
    obtain ⟨C, e, fr, h1, h2, h3⟩ := h
    exact ⟨C, e, fr, hb.trans h1, h2, VRs_mono hs _ _ ρ ρ' he h3⟩
  | arr es' rows leak =>
    obtain ⟨h0, h0', C, e, fr, h1, h2, h3⟩ := h
    exact ⟨h0, h0', C, e, fr, hb.trans h1, h2, ARs_mono hs h3⟩

/-! ### The heap's list -/
theorem lk_upd {α : Type} : ∀ {l l' : List (Nat × α)} {t : Nat} {x : α}, upd l t x = some l' → ∀ k, lk l' k = if k = t then some x else lk l k
  | [], l', t, x, h, k => by simp at h
  | (k0, v) :: r, l', t, x, h, k => by
    rw [upd_cons] at h
    by_cases ht : k0 = t
    · rw [if_pos ht] at h
      obtain rfl := Option.some.inj h
      subst ht
      rw [lk_cons, lk_cons]
      by_cases hk : k0 = k
      · simp [hk]
      · have : ¬ k = k0 := fun e => hk e.symm
        simp [hk, this]
    · rw [if_neg ht] at h
      cases hu : upd r t x with
      | none => simp [hu] at h
      | some r' =>
        simp only [hu, Option.map_some, Option.some.injEq] at h
        subst h
        rw [lk_cons, lk_cons]
        by_cases hk : k0 = k
        · subst hk
          simp [ht]
        · simp only [hk, if_false]
          exact lk_upd hu k
theorem lk_rmv {α : Type} : ∀ (l : List (Nat × α)) (t k : Nat), lk (rmv l t) k = if k = t then none else lk l k
  | [], t, k => by simp
  | (k0, v) :: r, t, k => by
    rw [rmv_cons]
    by_cases ht : k0 = t
    · rw [if_pos ht, lk_rmv r t k, lk_cons]
      by_cases hk : k = t
      · simp [hk]
      · have : ¬ k0 = k := fun e => hk (e.symm.trans ht)
        simp [hk, this]
    · rw [if_neg ht, lk_cons, lk_rmv r t k, lk_cons]
      by_cases hk0 : k0 = k
      · have : ¬ k = t := fun e => ht (hk0.trans e)
        simp [hk0, this]
      · simp [hk0]
theorem upd_isSome {α : Type} : ∀ {l : List (Nat × α)} {t : Nat} {x y : α}, lk l t = some y → ∃ l', upd l t x = some l'
  | [], t, x, y, h => by simp at h
  | (k0, v) :: r, t, x, y, h => by
    rw [upd_cons]
    rw [lk_cons] at h
    by_cases ht : k0 = t
    · exact ⟨_, by rw [if_pos ht]⟩
    · rw [if_neg ht] at h
      obtain ⟨l', hl⟩ := upd_isSome (x := x) h
      exact ⟨(k0, v) :: l', by rw [if_neg ht, hl]; rfl⟩

/-! ### Cells of blocks -/
theorem cell_of_block {w : World} {b o : Nat} {C : Array Value} {e : TypeId} {fr : Nat × Nat} (h : w.heap[b]? = some (Obj.cells C e fr)) : w.cell? ⟨b, o, none⟩ = C[o]? := by
  unfold World.cell?
  simp [h]
theorem frozen_of_block {w : World} {b o : Nat} {C : Array Value} {e : TypeId} {fr : Nat × Nat} (h : w.heap[b]? = some (Obj.cells C e fr)) (hu : unfr fr C.size) (ho : o < C.size) : w.frozen? ⟨b, o, none⟩ = false := by
  unfold World.frozen?
  simp only [h]
  have := hu o ho
  simp only [Bool.and_eq_false_iff, decide_eq_false_iff_not]
  omega
end Go.Proofs.Ytcmejocmohohpaa.R

/- Operations that touch no memory: the machine does what the evaluator says. -/
set_option linter.unusedVariables false
set_option linter.unusedSectionVars false
set_option linter.unusedSimpArgs false
noncomputable section
namespace Go.Proofs.Ytcmejocmohohpaa.R
open Go

theorem tyOf_spec {P : Program} {t : TypeId} {x : TI} (h : tyOf P t = some x) : P.underlying t = some x.desc ∧ ∃ i, P.info? t = some i ∧ i.size = x.size ∧ i.bytes = x.bytes ∧ i.zero = x.zero := by
  unfold tyOf at h
  cases h1 : P.underlying t with
  | none => simp [h1] at h
  | some d =>
    cases h2 : P.info? t with
    | none => simp [h1, h2] at h
    | some i =>
      simp only [h1, h2, Option.some.injEq] at h
      subst h
      exact ⟨rfl, i, rfl, rfl, rfl, rfl⟩

section
variable {P : Program} {w : World} {U : Nat → Nat → Prop} {ρ : Rho}

theorem run_underlying' {t : TypeId} {x : TI} (h : tyOf P t = some x) (w : World) : (underlying t).run P w = .ok x.desc w := run_underlying (tyOf_spec h).1 w
theorem run_sizeOf' {t : TypeId} {x : TI} (h : tyOf P t = some x) (w : World) : (sizeOf t).run P w = .ok x.size w := by
  obtain ⟨_, i, hi, hs, _⟩ := tyOf_spec h
  simp [sizeOf, typeInfo, hi, hs]
theorem run_isAgg' {t : TypeId} {x : TI} (h : tyOf P t = some x) (w : World) : (isAgg t).run P w = .ok (aggB x.desc) w := by
  simp only [isAgg, Sem.run_bind, run_underlying' h, Result.andThen_ok]
  cases x.desc <;> rfl
theorem run_zero' {t : TypeId} {x : TI} (h : tyOf P t = some x) {z : Value} (hz : x.zero = some z) (w : World) : (zeroValue t).run P w = .ok z w := by
  obtain ⟨_, i, hi, _, _, h3⟩ := tyOf_spec h
  simp [zeroValue, typeInfo, hi, h3, hz]

/-- The value that a scalar is. -/
def valOf : AV → Value
  | .bool b => .bool b
  | .int k n => .int k n
  | .str s => .string s
  | _ => undef
def scalB : AV → Bool
  | .bool _ => true
  | .int _ _ => true
  | .str _ => true
  | _ => false
theorem VR_valOf {v : AV} (h : scalB v = true) : VR w U ρ v (valOf v) := by
  cases v <;> simp [scalB] at h <;> simp [VR, valOf]

/-! ### Numbers, texts, truths -/
theorem snd_binInt (op : BinOp) (t : TypeId) (k k' : IntKind) (a b : Int) {v : AV} (hk : shB op = true ∨ k = k') (h : binInt op k a b = some v) :
    (binOp op t (.int k a) (.int k' b)).run P w = .ok (valOf v) w ∧ scalB v = true := by
  cases op <;> simp only [binInt, numV_eq, truV_eq, Option.some.injEq, reduceCtorEq] at h
  case shl =>
    split at h
    · cases h
    · rename_i hb
      simp only [Option.some.injEq] at h
      subst h
      exact ⟨by simp [binOp, Op.shift, hb, valOf], rfl⟩
  case shr =>
    split at h
    · cases h
    · rename_i hb
      simp only [Option.some.injEq] at h
      subst h
      exact ⟨by simp [binOp, Op.shift, hb, valOf], rfl⟩
  case quo =>
    rcases hk with hk | rfl
    · simp [shB] at hk
    · split at h
      · cases h
      · rename_i hb
        simp only [Option.some.injEq] at h
        subst h
        exact ⟨by simp [binOp, Op.intDiv, hb, valOf], rfl⟩
  case rem =>
    rcases hk with hk | rfl
    · simp [shB] at hk
    · split at h
      · cases h
      · rename_i hb
        simp only [Option.some.injEq] at h
        subst h
        exact ⟨by simp [binOp, Op.intDiv, hb, valOf], rfl⟩
  all_goals
    rcases hk with hk | rfl
    · simp [shB] at hk
    · subst h
      exact ⟨by simp [binOp, Op.intArith, Op.intCmp, valOf], rfl⟩
theorem snd_binStr (op : BinOp) (t : TypeId) (a b : ByteArray) {v : AV} (h : binStr op a b = some v) :
    (binOp op t (.string a) (.string b)).run P w = .ok (valOf v) w ∧ scalB v = true := by
  cases op <;> simp only [binStr, truV_eq, Option.some.injEq, reduceCtorEq] at h
  case add =>
    split at h
    · rename_i hb
      simp only [Option.some.injEq] at h
      subst h
      refine ⟨?_, rfl⟩
      have : ¬ (((a.size + b.size : Nat) : Int) > IntKind.i64.max) := by
        have : IntKind.i64.max = 9223372036854775807 := by decide
        rw [this]
        omega
      simp only [binOp, Op.stringOp]
      rw [if_neg this]
      rfl
    · cases h
  all_goals
    subst h
    exact ⟨by simp [binOp, Op.stringOp, valOf], rfl⟩
theorem eqGuard_one {op : BinOp} {t : TypeId} {x y : Operand} {a b : Value} (ha : oneB a = true) (hn : a ≠ .nilIface) : (eqGuard op t x y a b).run P w = .ok () w := by
  unfold eqGuard
  cases op <;> (cases a <;> first | (simp [oneB] at ha; done) | (exact absurd rfl hn) | (cases b <;> rfl))
theorem snd_bin {op : BinOp} {t : TypeId} {x y : Operand} {X Y : Value} {a b v : AV} (ha : VR w U ρ a X) (hb : VR w U ρ b Y) (h : binAV op a b = some v) :
    ∃ z, (do eqGuard op t x y X Y; binOp op t X Y : Sem Value).run P w = .ok z w ∧ VR w U ρ v z := by
  unfold binAV at h
  split at h
  · rename_i k m k' n
    simp only [VR] at ha hb
    subst ha; subst hb
    split at h
    · rename_i hk
      obtain ⟨h1, h2⟩ := snd_binInt (P := P) (w := w) op t k k' m n hk h
      exact ⟨_, by simp only [Sem.run_bind, eqGuard_one (P := P) (w := w) (op := op) (t := t) (x := x) (y := y) (a := Value.int k m) (b := Value.int k' n) rfl (by simp), Result.andThen_ok]; exact h1, VR_valOf h2⟩
    · cases h
  · rename_i m n
    simp only [VR] at ha hb
    subst ha; subst hb
    obtain ⟨h1, h2⟩ := snd_binStr (P := P) (w := w) op t m n h
    exact ⟨_, by simp only [Sem.run_bind, eqGuard_one (P := P) (w := w) (op := op) (t := t) (x := x) (y := y) (a := Value.string m) (b := Value.string n) rfl (by simp), Result.andThen_ok]; exact h1, VR_valOf h2⟩
  · cases h

def eqOp (neg : Bool) : BinOp := if neg = true then .neq else .eql
theorem run_eqOp (neg : Bool) (t : TypeId) (X Y : Value) (r : Bool) (hX : (∃ b, X = .bool b) ∨ ∃ xs, X = .agg xs) (h : (Op.equalIn 10000 t X Y).run P w = .ok r w) :
    (binOp (eqOp neg) t X Y).run P w = .ok (.bool (if neg then !r else r)) w := by
  have h' : (Op.equal t X Y).run P w = .ok r w := h
  rcases hX with ⟨b, rfl⟩ | ⟨xs, rfl⟩ <;> cases neg <;> simp [binOp, eqOp, h']
theorem snd_eqb {neg : Bool} {t : TypeId} {ti : TI} (ht : tyOf P t = some ti) (hd : ti.desc = .bool) {x y : Operand} {X Y : Value} {a b v : AV} (ha : VR w U ρ a X) (hb : VR w U ρ b Y) (h : eqbAV neg a b = some v) :
    ∃ z, (do eqGuard (eqOp neg) t x y X Y; binOp (eqOp neg) t X Y : Sem Value).run P w = .ok z w ∧ VR w U ρ v z := by
  unfold eqbAV at h
  split at h
  · rename_i m n
    simp only [VR] at ha hb
    subst ha; subst hb
    simp only [truV_eq, Option.some.injEq] at h
    subst h
    have hu := (tyOf_spec ht).1
    rw [hd] at hu
    have he : (Op.equalIn 10000 t (.bool m) (.bool n)).run P w = .ok (m == n) w := run_equalIn_bool' w 9999 t m n hu
    have := run_eqOp (P := P) (w := w) neg t (.bool m) (.bool n) (m == n) (.inl ⟨m, rfl⟩) he
    refine ⟨_, ?_, VR_valOf rfl⟩
    simp only [Sem.run_bind, eqGuard_one (P := P) (w := w) (op := eqOp neg) (t := t) (x := x) (y := y) (a := Value.bool m) (b := Value.bool n) rfl (by simp), Result.andThen_ok]
    exact this
  · cases h

theorem eqCell_spec {t : TypeId} {ti : TI} (ht : tyOf P t = some ti) {q : Nat} (hq : scalQ ti.desc = some q) {X Y : Value} {a b : AV} {r : Bool} (d : Nat) (ha : VR w U ρ a X) (hb : VR w U ρ b Y) (h : eqCell q a b = some r) :
    (Op.equalIn (d + 1) t X Y).run P w = .ok r w := by
  have hu := (tyOf_spec ht).1
  unfold eqCell at h
  split at h
  · simp only [VR] at ha hb
    subst ha; subst hb
    simp only [Option.some.injEq] at h
    subst h
    cases hd : ti.desc <;> simp [hd, scalQ] at hq
    rw [hd] at hu
    exact run_equalIn_bool' w d _ _ _ hu
  · simp only [VR] at ha hb
    subst ha; subst hb
    split at h
    · rename_i hk
      subst hk
      simp only [Option.some.injEq] at h
      subst h
      cases hd : ti.desc <;> simp [hd, scalQ] at hq
      rw [hd] at hu
      exact run_equalIn_int w d _ _ _ _ _ hu
    · cases h
  · simp only [VR] at ha hb
    subst ha; subst hb
    simp only [Option.some.injEq] at h
    subst h
    cases hd : ti.desc <;> simp [hd, scalQ] at hq
    rw [hd] at hu
    exact run_equalIn_string w d _ _ _ hu
  · cases h
theorem eqFields_spec : ∀ {fs : List Field} {l : List (Nat × Nat)}, eqFields P fs = some l → ∀ {xs ys : Array Value} {as bs : List AV} {r : Bool} (d : Nat), VRs w U ρ as xs.toList → VRs w U ρ bs ys.toList → eqCells l as bs = some r →
    (Op.eqFields (d + 1) xs ys fs).run P w = .ok r w
  | [], l, h, xs, ys, as, bs, r, d, ha, hb, hr => by
    simp only [eqFields, Option.some.injEq] at h
    subst h
    simp only [eqCells, Option.some.injEq] at hr
    subst hr
    simp [Op.eqFields]
  | f :: fs, l, h, xs, ys, as, bs, r, d, ha, hb, hr => by
    simp only [eqFields] at h
    cases ht : tyOf P f.type with
    | none => simp [ht] at h
    | some ti =>
      cases hl : eqFields P fs with
      | none => simp [ht, hl] at h
      | some l' =>
        cases hq : scalQ ti.desc with
        | none => simp [ht, hl, hq] at h
        | some q =>
          simp only [ht, hl, hq] at h
          split at h
          · rename_i hc
            simp only [bne_iff_ne, ne_eq] at hc
            simp only [Option.some.injEq] at h
            subst h
            simp only [eqCells] at hr
            cases h1 : as[f.offset]? with
            | none => simp [h1] at hr
            | some a =>
              cases h2 : bs[f.offset]? with
              | none => simp [h1, h2] at hr
              | some b =>
                obtain ⟨X, hX, vX⟩ := VRs_get ha h1
                obtain ⟨Y, hY, vY⟩ := VRs_get hb h2
                have hX' : xs[f.offset]? = some X := by simpa using hX
                have hY' : ys[f.offset]? = some Y := by simpa using hY
                have hag : (isAgg f.type).run P w = .ok false w := by
                  rw [run_isAgg' ht]
                  cases hd : ti.desc <;> simp [hd, scalQ] at hq <;> rfl
                have pX : (Go.part f.type xs f.offset).run P w = .ok X w := by simp [Go.part, hag, hX']
                have pY : (Go.part f.type ys f.offset).run P w = .ok Y w := by simp [Go.part, hag, hY']
                simp only [h1, h2] at hr
                cases he : eqCell q a b with
                | none => simp [he] at hr
                | some e =>
                  have hrun := eqCell_spec ht hq d vX vY he
                  simp only [he] at hr
                  simp only [Op.eqFields, ne_eq, hc, not_false_eq_true, if_true, Sem.run_bind, pX, pY, hrun, Result.andThen_ok]
                  cases e with
                  | true => simp only [Bool.not_true, Bool.false_eq_true, if_false] at hr ⊢; exact eqFields_spec hl d ha hb hr
                  | false => simp only [Option.some.injEq] at hr; subst hr; simp
          · cases h
theorem snd_eqc {neg : Bool} {t : TypeId} {ti : TI} {fs : Array Field} {l : List (Nat × Nat)} (ht : tyOf P t = some ti) (hd : ti.desc = .struct fs) (h1 : P.stoodInHeld t = false) (h2 : P.eqGuardType P.depth t = false) (hl : eqFields P fs.toList = some l)
    {x y : Operand} {X Y : Value} {a b v : AV} (ha : VR w U ρ a X) (hb : VR w U ρ b Y) (h : eqcAV neg l a b = some v) :
    ∃ z, (do eqGuard (eqOp neg) t x y X Y; binOp (eqOp neg) t X Y : Sem Value).run P w = .ok z w ∧ VR w U ρ v z := by
  unfold eqcAV at h
  split at h
  · rename_i as bs
    simp only [VR] at ha hb
    obtain ⟨xs, rfl, ha⟩ := ha
    obtain ⟨ys, rfl, hb⟩ := hb
    split at h
    · rename_i r hr
      simp only [truV_eq, Option.some.injEq] at h
      subst h
      have hu := (tyOf_spec ht).1
      rw [hd] at hu
      have hf : P.fieldsOf t = fs := by simp [Program.fieldsOf, hu]
      have he : (Op.equalIn 10000 t (.agg xs) (.agg ys)).run P w = .ok r w := by
        have e1 := run_equalIn_struct (P := P) w 9999 t xs ys (by rw [hf]; exact hu) h1
        rw [hf] at e1
        exact e1.trans (eqFields_spec hl 9998 ha hb hr)
      have := run_eqOp (P := P) (w := w) neg t (.agg xs) (.agg ys) r (.inr ⟨xs, rfl⟩) he
      refine ⟨_, ?_, VR_valOf rfl⟩
      simp only [Sem.run_bind, run_eqGuard_agg (P := P) w (eqOp neg) t x y xs ys h2, Result.andThen_ok]
      exact this
    · cases h
  · cases h
end
end Go.Proofs.Ytcmejocmohohpaa.R

/- More operations that touch no memory. -/
set_option linter.unusedVariables false
set_option linter.unusedSectionVars false
set_option linter.unusedSimpArgs false
noncomputable section
namespace Go.Proofs.Ytcmejocmohohpaa.R
open Go
section
variable {P : Program} {w : World} {U : Nat → Nat → Prop} {ρ : Rho}

theorem snd_ngt {X : Value} {a v : AV} (ha : VR w U ρ a X) (h : ngtAV a = some v) : ∃ z, (Op.unary .neg X).run P w = .ok z w ∧ VR w U ρ v z := by
  unfold ngtAV at h
  split at h
  · simp only [VR] at ha
    subst ha
    simp only [numV_eq, Option.some.injEq] at h
    subst h
    exact ⟨_, by simp only [Op.unary, Op.intArith]; rfl, VR_valOf rfl⟩
  · cases h
theorem snd_nt {X : Value} {a v : AV} (ha : VR w U ρ a X) (h : ntAV a = some v) : ∃ z, (Op.unary .not X).run P w = .ok z w ∧ VR w U ρ v z := by
  unfold ntAV at h
  split at h
  · simp only [VR] at ha
    subst ha
    simp only [truV_eq, Option.some.injEq] at h
    subst h
    exact ⟨_, by simp only [Op.unary]; rfl, VR_valOf rfl⟩
  · cases h
theorem snd_cvt {s d : TypeId} {xs xd : TI} (hs : tyOf P s = some xs) (hd : tyOf P d = some xd) {k : IntKind} (hk : xd.desc = .int k) {X : Value} {a v : AV} (ha : VR w U ρ a X) (h : cvtAV k a = some v) :
    ∃ z, (convert s d X).run P w = .ok z w ∧ VR w U ρ v z := by
  unfold cvtAV at h
  split at h
  · simp only [VR] at ha
    subst ha
    simp only [numV_eq, Option.some.injEq] at h
    subst h
    refine ⟨_, ?_, VR_valOf rfl⟩
    have h2 := run_underlying' hd w
    rw [hk] at h2
    simp only [convert, Sem.run_bind, run_underlying' hs w, h2, Result.andThen_ok]
    rfl
  · cases h
theorem snd_cst {s d : TypeId} {xs xd : TI} (hs : tyOf P s = some xs) (hd : tyOf P d = some xd) (hk : xd.desc = .string) {X : Value} {a v : AV} (ha : VR w U ρ a X) (h : cstAV a = some v) :
    ∃ z, (convert s d X).run P w = .ok z w ∧ VR w U ρ v z := by
  unfold cstAV at h
  split at h
  · simp only [VR] at ha
    subst ha
    simp only [Option.some.injEq] at h
    subst h
    refine ⟨_, ?_, VR_valOf rfl⟩
    have h2 := run_underlying' hd w
    rw [hk] at h2
    simp only [convert, Sem.run_bind, run_underlying' hs w, h2, Result.andThen_ok]
    rfl
  · cases h
theorem snd_pick {B X Y : Value} {b x y v : AV} (hb : VR w U ρ b B) (hx : VR w U ρ x X) (hy : VR w U ρ y Y) (h : pickAV b x y = some v) :
    ∃ z, (do pure (.value (if ← asBool B then X else Y)) : Sem Next).run P w = .ok (.value z) w ∧ VR w U ρ v z := by
  unfold pickAV at h
  split at h
  · rename_i b
    simp only [VR] at hb
    subst hb
    simp only [Option.some.injEq] at h
    subst h
    refine ⟨if b = true then X else Y, by simp only [asBool, Sem.run_bind, Sem.run_pure, Result.andThen_ok], ?_⟩
    cases b <;> simp <;> assumption
  · cases h
/-- A part of a row. -/
theorem snd_part {t : TypeId} {x : TI} (ht : tyOf P t = some x) {cs : Array Value} {as : List AV} {off : Nat} {v : AV} (ha : VRs w U ρ as cs.toList) (h : part (aggB x.desc) x.size as off = some v) :
    ∃ z, (Go.part t cs off).run P w = .ok z w ∧ VR w U ρ v z := by
  unfold part at h
  split at h
  · rename_i hagg
    split at h
    · simp only [Option.some.injEq] at h
      subst h
      refine ⟨.agg (cs.extract off (off + x.size)), ?_, ?_⟩
      · simp only [Go.part, Sem.run_bind, run_isAgg' ht, hagg, Result.andThen_ok, if_true, run_sizeOf' ht, Sem.run_pure]
      · simp only [VR]
        refine ⟨_, rfl, ?_⟩
        have := VRs_take x.size (VRs_drop off ha)
        rw [Array.toList_extract, List.extract_eq_take_drop, Nat.add_sub_cancel_left]
        exact this
    · cases h
  · rename_i hagg
    split at h
    · rename_i v' hv'
      split at h
      · simp only [Option.some.injEq] at h
        subst h
        obtain ⟨X, hX, vX⟩ := VRs_get ha hv'
        have hX' : cs[off]? = some X := by simpa using hX
        have hagg' : aggB x.desc = false := by simpa using hagg
        refine ⟨X, ?_, vX⟩
        simp [Go.part, run_isAgg' ht, hagg', hX']
      · cases h
    · cases h
theorem snd_fld {t : TypeId} {ti : TI} (ht : tyOf P t = some ti) {fs : Array Field} (hd : ti.desc = .struct fs) {f : Nat} {fl : Field} (hf : fs[f]? = some fl) {x : TI} (hx : tyOf P fl.type = some x)
    {X : Value} {a v : AV} (ha : VR w U ρ a X) (h : fldAV (aggB x.desc) x.size fl.offset a = some v) : ∃ z, (Instr.field t X f).run P w = .ok z w ∧ VR w U ρ v z := by
  unfold fldAV at h
  split at h
  · simp only [VR] at ha
    obtain ⟨xs, rfl, ha⟩ := ha
    obtain ⟨z, h1, h2⟩ := snd_part hx ha h
    refine ⟨z, ?_, h2⟩
    have h3 := run_underlying' ht w
    rw [hd] at h3
    simp only [Instr.field, Sem.run_bind, h3, Result.andThen_ok, hf, asAgg, Sem.run_pure]
    exact h1
  · cases h
theorem snd_ext {i : Nat} {X : Value} {a v : AV} (ha : VR w U ρ a X) (h : extAV i a = some v) : ∃ z, (Instr.extract X i).run P w = .ok z w ∧ VR w U ρ v z := by
  unfold extAV at h
  split at h
  · simp only [VR] at ha
    obtain ⟨xs, rfl, ha⟩ := ha
    obtain ⟨z, h1, h2⟩ := VRs_get ha h
    have h1' : xs[i]? = some z := by simpa using h1
    exact ⟨z, by simp [Instr.extract, h1'], h2⟩
  · cases h
theorem add_off (b o n : Nat) : (⟨b, o, none⟩ : Addr).add n = ⟨b, o + n, none⟩ := by unfold Addr.add; split <;> simp_all
theorem snd_fa {t : TypeId} {ti : TI} (ht : tyOf P t = some ti) {fs : Array Field} (hd : ti.desc = .struct fs) {f : Nat} {fl : Field} (hf : fs[f]? = some fl) {x : TI} (hx : tyOf P fl.type = some x) (hz : 0 < x.size)
    {X : Value} {a v : AV} (ha : VR w U ρ a X) (h : faAV fl.offset a = some v) : ∃ z, (Instr.fieldAt t X f).run P w = .ok z w ∧ VR w U ρ v z := by
  have key : ∀ b o, X = .pointer (some ⟨b, o, none⟩) → (Instr.fieldAt t X f).run P w = .ok (.pointer (some ⟨b, o + fl.offset, none⟩)) w := by
    rintro b o rfl
    have h3 := run_underlying' ht w
    rw [hd] at h3
    have hne : ¬ x.size = 0 := by omega
    simp [Instr.fieldAt, h3, hf, Instr.sureAddr, fieldPlace, run_sizeOf' hx, hne, add_off]
  unfold faAV at h
  split at h <;> simp only [Option.some.injEq, reduceCtorEq] at h
  · subst h
    simp only [VR] at ha
    obtain ⟨b, es, h1, h2⟩ := ha
    exact ⟨_, key b _ h2, by simp only [VR]; exact ⟨b, es, h1, rfl⟩⟩
  · subst h
    simp only [VR] at ha
    obtain ⟨b, es, h1, h2⟩ := ha
    exact ⟨_, key b _ h2, by simp only [VR]; exact ⟨b, es, h1, by rw [Nat.add_assoc]⟩⟩
  · subst h
    simp only [VR] at ha
    obtain ⟨b, o, h2, h1⟩ := ha
    exact ⟨_, key b _ h2, by simp only [VR]; exact ⟨b, o, by rw [Nat.add_assoc], h1⟩⟩
theorem snd_ias {t : TypeId} {ti : TI} (ht : tyOf P t = some ti) {e : TypeId} (hd : ti.desc = .slice e) {x : TI} (hx : tyOf P e = some x)
    {X I : Value} {a i v : AV} (ha : VR w U ρ a X) (hi : VR w U ρ i I) (h : iasAV x.size a i = some v) : ∃ z, (Instr.indexAt t X I).run P w = .ok z w ∧ VR w U ρ v z := by
  have h3 := run_underlying' ht w
  rw [hd] at h3
  have key : ∀ b o len c k n, X = .slice (some ⟨b, o, none⟩) len c → I = .int k n → 0 ≤ n → n < (len : Int) → (Instr.indexAt t X I).run P w = .ok (.pointer (some ⟨b, o + n.toNat * x.size, none⟩)) w := by
    rintro b o len c k n rfl rfl h0 h1
    simp [Instr.indexAt, asIntOf, h3, h0, h1, run_sizeOf' hx, add_off]
  unfold iasAV at h
  split at h
  · rename_i es rows ex k n
    split at h
    · rename_i hc
      obtain ⟨rfl, h0⟩ := hc
      split at h
      · rename_i row hrow
        simp only [Option.some.injEq] at h
        subst h
        simp only [VR] at ha hi
        obtain ⟨A, c, h1, h2, _, h4⟩ := ha
        have hlt : n.toNat < rows.length := by
          rcases Nat.lt_or_ge n.toNat rows.length with hl | hl
          · exact hl
          · rw [List.getElem?_eq_none hl] at hrow; cases hrow
        rcases h4 with rfl | ⟨b, o, rfl, h5⟩
        · simp at hlt
        · have := RWs_get h5 hrow
          exact ⟨_, key b o _ c k n h1 hi h0 (by omega), by simp only [VR]; exact ⟨b, o + n.toNat * x.size, rfl, this.2⟩⟩
      · cases h
    · cases h
  · rename_i es id off len ex k n
    split at h
    · rename_i hc
      obtain ⟨rfl, h0, hl⟩ := hc
      simp only [Option.some.injEq] at h
      subst h
      simp only [VR] at ha hi
      obtain ⟨A, c, h1, h2, _, h4⟩ := ha
      rcases h4 with ⟨rfl, rfl⟩ | ⟨b, C, e', fr, h5, rfl, h6, h7⟩
      · simp at hl; omega
      · exact ⟨_, key b _ _ c k n h1 hi h0 hl, by simp only [VR]; exact ⟨b, x.size, h5, by rw [Nat.add_mul, Nat.add_zero]⟩⟩
    · cases h
  · cases h
theorem snd_iaa {t : TypeId} {ti : TI} (ht : tyOf P t = some ti) {e : TypeId} {n : Nat} (hd : ti.desc = .array n e) {x : TI} (hx : tyOf P e = some x)
    {X I : Value} {a i v : AV} (ha : VR w U ρ a X) (hi : VR w U ρ i I) (h : iaaAV x.size n a i = some v) : ∃ z, (Instr.indexAt t X I).run P w = .ok z w ∧ VR w U ρ v z := by
  have h3 := run_underlying' ht w
  rw [hd] at h3
  have key : ∀ b o k m, X = .pointer (some ⟨b, o, none⟩) → I = .int k m → 0 ≤ m → m < (n : Int) → (Instr.indexAt t X I).run P w = .ok (.pointer (some ⟨b, o + m.toNat * x.size, none⟩)) w := by
    rintro b o k m rfl rfl h0 h1
    simp [Instr.indexAt, asIntOf, h3, Instr.sureAddr, h0, h1, run_sizeOf' hx, add_off]
  unfold iaaAV at h
  split at h
  all_goals first
    | (cases h; done)
    | skip
  all_goals
    split at h
    · rename_i hc
      obtain ⟨h0, hl⟩ := hc
      simp only [Option.some.injEq] at h
      subst h
      simp only [VR] at ha hi
      first
        | (obtain ⟨b, es, h1, h2⟩ := ha
           exact ⟨_, key b _ _ _ h2 hi h0 hl, by simp only [VR]; exact ⟨b, es, h1, by simp [Nat.add_assoc]⟩⟩)
        | (obtain ⟨b, o, h2, h1⟩ := ha
           exact ⟨_, key b _ _ _ h2 hi h0 hl, by simp only [VR]; exact ⟨b, o, by rw [Nat.add_assoc], h1⟩⟩)
    · cases h
theorem snd_ixs {t : TypeId} {ti : TI} (ht : tyOf P t = some ti) (hd : ti.desc = .string) {X I : Value} {a i v : AV} (ha : VR w U ρ a X) (hi : VR w U ρ i I) (h : ixsAV a i = some v) :
    ∃ z, (Instr.index t X I).run P w = .ok z w ∧ VR w U ρ v z := by
  have h3 := run_underlying' ht w
  rw [hd] at h3
  unfold ixsAV at h
  split at h
  · rename_i s k n
    split at h
    · rename_i h0
      split at h
      · rename_i b hb
        simp only [Option.some.injEq] at h
        subst h
        simp only [VR] at ha hi
        subst ha; subst hi
        refine ⟨.int .u8 b.toNat, ?_, by simp [VR]⟩
        have hb' : s[n.toNat]? = some b := by
          have hlt : n.toNat < s.data.toList.length := by
            rcases Nat.lt_or_ge n.toNat s.data.toList.length with hl | hl
            · exact hl
            · rw [List.getElem?_eq_none hl] at hb; cases hb
          rw [List.getElem?_eq_getElem hlt] at hb
          have hlt' : n.toNat < s.size := by simpa using hlt
          rw [getElem?_pos s n.toNat hlt']
          have hb2 : s.data[n.toNat] = b := by simpa using hb
          exact congrArg some hb2
        simp [Instr.index, asIntOf, h3, h0, hb']
      · cases h
    · cases h
  · cases h
theorem snd_ixa {t : TypeId} {ti : TI} (ht : tyOf P t = some ti) {e : TypeId} {n : Nat} (hd : ti.desc = .array n e) {x : TI} (hx : tyOf P e = some x)
    {X I : Value} {a i v : AV} (ha : VR w U ρ a X) (hi : VR w U ρ i I) (h : ixaAV (aggB x.desc) x.size n a i = some v) : ∃ z, (Instr.index t X I).run P w = .ok z w ∧ VR w U ρ v z := by
  have h3 := run_underlying' ht w
  rw [hd] at h3
  unfold ixaAV at h
  split at h
  · rename_i cs k m
    split at h
    · rename_i hc
      simp only [VR] at ha hi
      obtain ⟨xs, rfl, ha⟩ := ha
      subst hi
      obtain ⟨z, h1, h2⟩ := snd_part hx ha h
      exact ⟨z, by simp [Instr.index, asIntOf, h3, hc, run_sizeOf' hx, h1], h2⟩
    · cases h
  · cases h
theorem snd_nc {X : Value} {a v : AV} (ha : VR w U ρ a X) (h : ncAV a = some v) :
    ∃ z, (match X with
      | .pointer none | .nilIface | .nilFunc => runtimePanic .nilDeref
      | .func (.method name) first captured =>
        match (first[0]? : Option Value) with
        | some .nilIface => runtimePanic .nilDeref
        | some (.iface t w) => do
          if (← nilAhead ((← program).types.size + Made.depth) t w name) != some false then
            unsupported (.noEntry "op/nilCheck.the method's receiver behind this interface value is a nil pointer, or cannot be seen to be none, and the arguments act or may panic (ledger 612)")
          pure (.value (.func (.method name) first captured))
        | _ => pure (.value (.func (.method name) first captured))
      | x => pure (.value x) : Sem Next).run P w = .ok (.value z) w ∧ VR w U ρ v z := by
  unfold ncAV at h
  split at h <;> simp only [Option.some.injEq, reduceCtorEq] at h
  all_goals
    subst h
    have ha' := ha
    simp only [VR] at ha
  · obtain ⟨b, es, h1, rfl⟩ := ha
    exact ⟨_, rfl, ha'⟩
  · obtain ⟨b, es, h1, rfl⟩ := ha
    exact ⟨_, rfl, ha'⟩
  · obtain ⟨b, o, rfl, h1⟩ := ha
    exact ⟨_, rfl, ha'⟩
  · obtain ⟨xs, ys, rfl, h1, h2⟩ := ha
    exact ⟨_, rfl, ha'⟩
theorem snd_lens {t ty : TypeId} {ti : TI} (ht : tyOf P t = some ti) (hd : ti.desc = .string) {X : Value} {a v : AV} (ha : VR w U ρ a X) (h : lensAV a = some v) :
    ∃ z, (Builtin.len_ #[t] ty #[X]).run P w = .ok z w ∧ VR w U ρ v z := by
  have h3 := run_underlying' ht w
  rw [hd] at h3
  unfold lensAV at h
  split at h <;> simp only [Option.some.injEq, reduceCtorEq] at h
  subst h
  simp only [VR] at ha
  subst ha
  exact ⟨_, by simp only [Builtin.len_, Sem.run_bind, List.getElem?_toArray, List.getElem?_cons_zero, h3, Result.andThen_ok]; rfl, VR_valOf rfl⟩
theorem snd_lenl {t ty : TypeId} {ti : TI} (ht : tyOf P t = some ti) {e : TypeId} (hd : ti.desc = .slice e) {X : Value} {a v : AV} (ha : VR w U ρ a X) (h : lenlAV a = some v) :
    ∃ z, (Builtin.len_ #[t] ty #[X]).run P w = .ok z w ∧ VR w U ρ v z := by
  have h3 := run_underlying' ht w
  rw [hd] at h3
  have key : ∀ A n c, X = .slice A n c → (Builtin.len_ #[t] ty #[X]).run P w = .ok (.int .i64 n) w := by
    rintro A n c rfl
    simp only [Builtin.len_, Sem.run_bind, List.getElem?_toArray, List.getElem?_cons_zero, h3, Result.andThen_ok]
    rfl
  unfold lenlAV at h
  split at h <;> simp only [Option.some.injEq, reduceCtorEq] at h <;> subst h <;> simp only [VR] at ha
  · exact ⟨_, key _ _ _ ha, by simp [VR, intV]⟩
  · obtain ⟨A, c, h1, _⟩ := ha
    exact ⟨_, key _ _ _ h1, by simp [VR, intV]⟩
  · obtain ⟨A, c, h1, _⟩ := ha
    exact ⟨_, key _ _ _ h1, by simp [VR, intV]⟩
theorem snd_mx {ts : Array TypeId} {ty : TypeId} {X Y : Value} {a b v : AV} (ha : VR w U ρ a X) (hb : VR w U ρ b Y) (h : mxAV a b = some v) :
    ∃ z, (Builtin.max_ ts ty #[X, Y]).run P w = .ok z w ∧ VR w U ρ v z := by
  unfold mxAV at h
  split at h
  · split at h
    · rename_i hk
      subst hk
      simp only [numV_eq, Option.some.injEq] at h
      subst h
      simp only [VR] at ha hb
      subst ha; subst hb
      exact ⟨_, by simp [Builtin.max_, Builtin.max2]; rfl, VR_valOf rfl⟩
    · cases h
  · cases h
theorem snd_mn {ts : Array TypeId} {ty : TypeId} {X Y : Value} {a b v : AV} (ha : VR w U ρ a X) (hb : VR w U ρ b Y) (h : mnAV a b = some v) :
    ∃ z, (Builtin.min_ ts ty #[X, Y]).run P w = .ok z w ∧ VR w U ρ v z := by
  unfold mnAV at h
  split at h
  · split at h
    · rename_i hk
      subst hk
      simp only [numV_eq, Option.some.injEq] at h
      subst h
      simp only [VR] at ha hb
      subst ha; subst hb
      exact ⟨_, by simp [Builtin.min_, Builtin.min2]; rfl, VR_valOf rfl⟩
    · cases h
  · cases h
end
end Go.Proofs.Ytcmejocmohohpaa.R

/- Slice expressions, and structs that are built. -/
set_option linter.unusedVariables false
set_option linter.unusedSectionVars false
set_option linter.unusedSimpArgs false
noncomputable section
namespace Go.Proofs.Ytcmejocmohohpaa.R
open Go
def VRo (w : World) (U : Nat → Nat → Prop) (ρ : Rho) (a : Option AV) (x : Option Value) : Prop :=
  match a, x with
  | none, none => True
  | some a, some x => VR w U ρ a x
  | _, _ => False
section
variable {P : Program} {w : World} {U : Nat → Nat → Prop} {ρ : Rho}
theorem optI_spec {a : Option AV} {x : Option Value} {r : Option Int} (hv : VRo w U ρ a x) (h : optI a = some r) : (r = none ∧ x = none) ∨ ∃ k n, r = some n ∧ x = some (.int k n) := by
  cases a with
  | none =>
    cases x with
    | none => simp [optI] at h; exact .inl ⟨h.symm, rfl⟩
    | some x => simp [VRo] at hv
  | some a =>
    cases x with
    | none => simp [VRo] at hv
    | some x =>
      simp only [VRo] at hv
      cases a <;> simp [optI, asI] at h
      rename_i k n
      simp only [VR] at hv
      subst hv; subst h
      exact .inr ⟨k, n, rfl, rfl⟩
theorem run_bound {k : IntKind} {i : Int} {y : Nat} {code : BoundsCode} (h0 : 0 ≤ i) (h1 : i ≤ y) : (Instr.sliceBound (.int k i) y code).run P w = .ok i.toNat w := by
  simp [Instr.sliceBound, asIntOf, h0, h1]
theorem snd_bnds {lo hi mx : Option AV} {LO HI MX : Option Value} {b ex ex' : Bool} {n c l h : Nat} (hl : VRo w U ρ lo LO) (hh : VRo w U ρ hi HI) (hm : VRo w U ρ mx MX) (hb : bnds n ex lo hi mx = some (l, h, ex')) (hc : n ≤ c) (hex : ex = true → c = n) :
    ∃ m, (Instr.sliceBounds b n c LO HI MX).run P w = .ok (l, h, m) w ∧ l ≤ h ∧ h ≤ n ∧ h ≤ m ∧ m ≤ c ∧ (ex' = true → m = h) := by
  unfold bnds at hb
  split at hb
  · rename_i r1 r2 r3 e1 e2 e3
    split at hb
    · rename_i hcond
      obtain ⟨c1, c2, c3, c4, c5⟩ := hcond
      simp only [Option.some.injEq, Prod.mk.injEq] at hb
      obtain ⟨rfl, rfl, rfl⟩ := hb
      rcases optI_spec hl e1 with ⟨rfl, rfl⟩ | ⟨k1, n1, rfl, rfl⟩ <;> rcases optI_spec hh e2 with ⟨rfl, rfl⟩ | ⟨k2, n2, rfl, rfl⟩ <;> rcases optI_spec hm e3 with ⟨rfl, rfl⟩ | ⟨k3, n3, rfl, rfl⟩ <;>
        simp only [Option.getD_some, Option.getD_none, Option.isSome_some, Option.isSome_none, Bool.false_eq_true, forall_const, true_imp_iff, false_imp_iff] at c1 c2 c3 c4 c5 ⊢
      · refine ⟨c, by simp [Instr.sliceBounds], by omega, by omega, by omega, by omega, ?_⟩
        intro h; simp at h; exact hex h
      · refine ⟨c, ?_, by omega, by omega, by omega, by omega, ?_⟩
        · have : n2 ≤ (c : Int) := by omega
          simp only [Instr.sliceBounds, Sem.run_bind, Sem.run_pure, Result.andThen_ok, run_bound (P := P) (w := w) (k := k2) (y := c) (by omega) this]
          simp
        · intro h; simp at h; have := hex h.1; omega
      · refine ⟨n3.toNat, ?_, by omega, by omega, by omega, by omega, ?_⟩
        · have : n2 ≤ (n3.toNat : Int) := by omega
          simp only [Instr.sliceBounds, Sem.run_bind, Sem.run_pure, Result.andThen_ok, run_bound (P := P) (w := w) (k := k3) (i := n3) (y := c) (by omega) (by omega), run_bound (P := P) (w := w) (k := k2) (y := n3.toNat) (by omega) this]
          simp
        · intro h; simp at h; omega
      · refine ⟨c, ?_, by omega, by omega, by omega, by omega, ?_⟩
        · simp only [Instr.sliceBounds, Sem.run_bind, Sem.run_pure, Result.andThen_ok, run_bound (P := P) (w := w) (k := k1) (i := n1) (y := n) (by omega) (by omega)]
          simp
        · intro h; simp at h; exact hex h
      · refine ⟨c, ?_, by omega, by omega, by omega, by omega, ?_⟩
        · simp only [Instr.sliceBounds, Sem.run_bind, Sem.run_pure, Result.andThen_ok, run_bound (P := P) (w := w) (k := k2) (i := n2) (y := c) (by omega) (by omega), run_bound (P := P) (w := w) (k := k1) (i := n1) (y := n2.toNat) (by omega) (by omega)]
        · intro h; simp at h; have := hex h.1; omega
      · refine ⟨n3.toNat, ?_, by omega, by omega, by omega, by omega, ?_⟩
        · simp only [Instr.sliceBounds, Sem.run_bind, Sem.run_pure, Result.andThen_ok, run_bound (P := P) (w := w) (k := k3) (i := n3) (y := c) (by omega) (by omega), run_bound (P := P) (w := w) (k := k2) (i := n2) (y := n3.toNat) (by omega) (by omega), run_bound (P := P) (w := w) (k := k1) (i := n1) (y := n2.toNat) (by omega) (by omega)]
        · intro h; simp at h; omega
    · cases hb
  · cases hb
theorem VRs_rows_sub {b o es : Nat} {rows : List (List AV)} {l h : Nat} (hr : RWs w U rows b o es) : RWs w U ((rows.take h).drop l) b (o + l * es) es := by
  refine RWs_mk fun i r hi => ?_
  rw [List.getElem?_drop, List.getElem?_take] at hi
  split at hi
  · have := RWs_get hr hi
    rw [Nat.add_mul] at this
    rw [Nat.add_assoc]
    exact this
  · cases hi
theorem snd_sls {t : TypeId} {ti : TI} (ht : tyOf P t = some ti) (hd : ti.desc = .string) {X : Value} {a v : AV} {lo hi : Option AV} {LO HI : Option Value} (ha : VR w U ρ a X) (hl : VRo w U ρ lo LO) (hh : VRo w U ρ hi HI) (h : slsAV a lo hi = some v) :
    ∃ z, (Instr.sliceAt t X LO HI none).run P w = .ok z w ∧ VR w U ρ v z := by
  have h3 := run_underlying' ht w
  rw [hd] at h3
  unfold slsAV at h
  split at h
  · rename_i s
    split at h
    · rename_i l hb ex hbn
      simp only [Option.some.injEq] at h
      subst h
      simp only [VR] at ha
      subst ha
      obtain ⟨m, h1, _⟩ := snd_bnds (P := P) (b := false) (mx := none) (MX := none) hl hh (show VRo w U ρ none none from True.intro) hbn (Nat.le_refl _) (fun h => rfl)
      refine ⟨.string (s.extract l hb), ?_, by simp [VR]⟩
      simp only [Instr.sliceAt, Instr.slice, Sem.run_bind, h3, Result.andThen_ok, Option.isSome_none, Bool.false_eq_true, if_false, h1, Sem.run_pure]
    · cases h
  · cases h
theorem snd_sll {t : TypeId} {ti : TI} (ht : tyOf P t = some ti) {e : TypeId} (hd : ti.desc = .slice e) {x : TI} (hx : tyOf P e = some x) (hz : 0 < x.size)
    {X : Value} {a v : AV} {lo hi mx : Option AV} {LO HI MX : Option Value} (ha : VR w U ρ a X) (hl : VRo w U ρ lo LO) (hh : VRo w U ρ hi HI) (hm : VRo w U ρ mx MX) (h : sllAV x.size a lo hi mx = some v) :
    ∃ z, (Instr.sliceAt t X LO HI MX).run P w = .ok z w ∧ VR w U ρ v z := by
  have h3 := run_underlying' ht w
  rw [hd] at h3
  have key : ∀ A n c l h m, X = .slice A n c → (Instr.sliceBounds true n c LO HI MX).run P w = .ok (l, h, m) w →
      (Instr.sliceAt t X LO HI MX).run P w = .ok (.slice (if m = l then A else A.map (·.add (l * x.size))) (h - l) (m - l)) w := by
    rintro A n c l h m rfl hb
    simp only [Instr.sliceAt, Instr.slice, Sem.run_bind, h3, Result.andThen_ok, hb, run_sizeOf' hx, Sem.run_pure]
  unfold sllAV at h
  split at h
  · split at h
    · rename_i r hbn
      obtain ⟨l, hb, ex'⟩ := r
      simp only [Option.some.injEq] at h
      subst h
      simp only [VR] at ha
      obtain ⟨m, h1, h2, h4, h5, h6, h7⟩ := snd_bnds (P := P) (b := true) hl hh hm hbn (Nat.le_refl _) (fun _ => rfl)
      refine ⟨_, key none 0 0 l hb m ha h1, ?_⟩
      have : m = 0 := by omega
      have : l = 0 := by omega
      have : hb = 0 := by omega
      subst_vars
      simp [VR]
    · cases h
  · rename_i es rows ex
    split at h
    · rename_i hes
      have hes := esFit_or hes
      split at h
      · rename_i l hb ex' hbn
        simp only [Option.some.injEq] at h
        subst h
        simp only [VR] at ha
        obtain ⟨A, c, hX, g1, g2, g3⟩ := ha
        obtain ⟨m, h1, h2, h4, h5, h6, h7⟩ := snd_bnds (P := P) (b := true) hl hh hm hbn g1 g2
        refine ⟨_, key A _ c l hb m hX h1, ?_⟩
        simp only [VR]
        have hlen : ((rows.take hb).drop l).length = hb - l := by
          rw [List.length_drop, List.length_take]; omega
        refine ⟨_, m - l, by rw [hlen], by omega, fun he => by rw [hlen, h7 he], ?_⟩
        by_cases hml : m = l
        · left
          apply List.eq_nil_of_length_eq_zero
          rw [hlen]; omega
        · rcases g3 with rfl | ⟨b, o, rfl, g4⟩
          · left; simp
          · rcases hes with rfl | rfl
            · left; simp
            · have g5 := VRs_rows_sub (l := l) (h := hb) g4
              rcases RWs_es g5 with g6 | g6
              · exact .inl g6
              · right
                rw [g6]
                exact ⟨b, o + l * x.size, by simp [hml, add_off], g5⟩
      · cases h
    · cases h
  · rename_i es id off len ex
    split at h
    · rename_i hes
      subst hes
      split at h
      · rename_i l hb ex' hbn
        simp only [Option.some.injEq] at h
        subst h
        simp only [VR] at ha
        obtain ⟨A, c, hX, g1, g2, g3⟩ := ha
        obtain ⟨m, h1, h2, h4, h5, h6, h7⟩ := snd_bnds (P := P) (b := true) hl hh hm hbn g1 g2
        refine ⟨_, key A _ c l hb m hX h1, ?_⟩
        simp only [VR]
        refine ⟨_, m - l, rfl, by omega, fun he => by rw [h7 he], ?_⟩
        by_cases hml : m = l
        · left
          omega
        · rcases g3 with ⟨rfl, rfl⟩ | ⟨b, C, e', fr, g4, rfl, g5, g6⟩
          · left; omega
          · right
            refine ⟨b, C, e', fr, g4, by simp [hml, add_off, Nat.add_mul], g5, ?_⟩
            have : (off + l + (m - l)) * x.size ≤ (off + c) * x.size := Nat.mul_le_mul_right _ (by omega)
            omega
      · cases h
    · cases h
  · cases h

/-! ### Structs and arrays that are built -/
theorem setAt_length : ∀ (cs : List AV) (n : Nat) (vs : List AV), (setAt cs n vs).length = cs.length
  | [], _, _ => rfl
  | c :: cs, 0, v :: vs => by simp [setAt, setAt_length cs 0 vs]
  | c :: cs, 0, [] => rfl
  | c :: cs, n + 1, vs => by simp [setAt, setAt_length cs n vs]
theorem setAt_get : ∀ (cs : List AV) (n : Nat) (vs : List AV) (i : Nat), (setAt cs n vs)[i]? = if n ≤ i ∧ i < n + vs.length ∧ i < cs.length then vs[i - n]? else cs[i]?
  | [], n, vs, i => by simp [setAt]
  | c :: cs, 0, v :: vs, 0 => by simp [setAt]
  | c :: cs, 0, v :: vs, i + 1 => by
    simp only [setAt, List.getElem?_cons_succ, setAt_get cs 0 vs i, Nat.zero_le, true_and, Nat.sub_zero, List.length_cons, Nat.zero_add]
    by_cases h : i < vs.length ∧ i < cs.length
    · rw [if_pos h, if_pos (by omega)]
    · rw [if_neg h, if_neg (by omega)]
  | c :: cs, 0, [], i => by simp [setAt]
  | c :: cs, n + 1, vs, 0 => by simp [setAt]
  | c :: cs, n + 1, vs, i + 1 => by
    simp only [setAt, List.getElem?_cons_succ, setAt_get cs n vs i, List.length_cons]
    by_cases h : n ≤ i ∧ i < n + vs.length ∧ i < cs.length
    · rw [if_pos h, if_pos (by omega)]; congr 1; omega
    · rw [if_neg h, if_neg (by omega)]
theorem VRs_of_get : ∀ {as : List AV} {xs : List Value}, as.length = xs.length → (∀ (i : Nat) (a : AV), as[i]? = some a → ∃ x, xs[i]? = some x ∧ VR w U ρ a x) → VRs w U ρ as xs
  | [], [], _, _ => by simp [VRs]
  | a :: as, [], h, _ => by simp at h
  | [], x :: xs, h, _ => by simp at h
  | a :: as, x :: xs, hl, h => by
    simp only [VRs]
    obtain ⟨y, hy, vy⟩ := h 0 a rfl
    simp at hy
    subst hy
    exact ⟨x, xs, rfl, vy, VRs_of_get (by simpa using hl) fun i a' hi => by
      obtain ⟨y, hy, vy⟩ := h (i + 1) a' (by simpa using hi)
      exact ⟨y, by simpa using hy, vy⟩⟩
/-- The values of cells, laid into others. -/
def putVals (cs : Array Value) (off : Nat) (vs : List Value) : Array Value := (vs.zipIdx).foldl (fun cs p => cs.setIfInBounds (off + p.2) p.1) cs
theorem putVals_get (vs : List Value) : ∀ (k off : Nat) (cs : Array Value) (i : Nat), ((vs.zipIdx k).foldl (fun (cs : Array Value) (p : Value × Nat) => cs.setIfInBounds (off + p.2) p.1) cs)[i]? =
    if off + k ≤ i ∧ i < off + k + vs.length ∧ i < cs.size then vs[i - (off + k)]? else cs[i]? := by
  induction vs with
  | nil => intro k off cs i; simp; intro h1 h2; omega
  | cons v vs ih =>
    intro k off cs i
    simp only [List.zipIdx_cons, List.foldl_cons, ih (k + 1) off, List.length_cons, Array.size_setIfInBounds]
    by_cases h1 : i = off + k
    · subst h1
      by_cases h2 : off + k < cs.size
      · simp [h2]
        omega
      · have : cs[off + k]? = none := Array.getElem?_eq_none (by omega)
        simp [h2, this]
    · have hne : ¬ off + k = i := fun e => h1 e.symm
      rw [Array.getElem?_setIfInBounds_ne hne]
      by_cases h3 : off + (k + 1) ≤ i ∧ i < off + (k + 1) + vs.length ∧ i < cs.size
      · rw [if_pos h3, if_pos (by omega)]
        rw [show i - (off + k) = (i - (off + (k + 1))) + 1 by omega, List.getElem?_cons_succ]
      · rw [if_neg h3, if_neg (by omega)]
theorem putVals_size (cs : Array Value) (off : Nat) : ∀ (vs : List Value) (k : Nat), ((vs.zipIdx k).foldl (fun (cs : Array Value) (p : Value × Nat) => cs.setIfInBounds (off + p.2) p.1) cs).size = cs.size := by
  intro vs
  induction vs generalizing cs with
  | nil => intro k; rfl
  | cons v vs ih => intro k; simp [List.zipIdx_cons, ih]
theorem VRs_setAt {as vs : List AV} {xs : Array Value} {ys : List Value} {off : Nat} (ha : VRs w U ρ as xs.toList) (hv : VRs w U ρ vs ys) (hl : off + vs.length ≤ as.length) :
    VRs w U ρ (setAt as off vs) (putVals xs off ys).toList := by
  have hlen := VRs_length ha
  have hlen2 := VRs_length hv
  refine VRs_of_get ?_ fun i a hi => ?_
  · rw [setAt_length, hlen]
    simp [putVals, putVals_size]
  · rw [setAt_get] at hi
    have hg := putVals_get ys 0 off xs i
    simp only [Nat.add_zero] at hg
    have hg' : (putVals xs off ys).toList[i]? = if off ≤ i ∧ i < off + ys.length ∧ i < xs.size then ys[i - off]? else xs[i]? := by
      rw [← hg]; simp [putVals]
    rw [hg']
    split at hi
    · rename_i hc
      rw [if_pos (by simp at hlen; omega)]
      exact VRs_get hv hi
    · rename_i hc
      rw [if_neg (by simp at hlen; omega)]
      obtain ⟨x, h1, h2⟩ := VRs_get ha hi
      exact ⟨x, by simpa using h1, h2⟩
/-- The parts of a struct, with their places. -/
def VRp (w : World) (U : Nat → Nat → Prop) (ρ : Rho) : List (Nat × Nat × AV) → List (Nat × Value) → (Nat → Option (Nat × Nat)) → Prop
  | [], ps, _ => ps = []
  | (off, size, a) :: r, ps, place => ∃ i x q, ps = (i, x) :: q ∧ place i = some (off, size) ∧ VR w U ρ a x ∧ VRp w U ρ r q place
theorem fill_spec {place : Nat → Option (Nat × Nat)} : ∀ {parts : List (Nat × Nat × AV)} {ps : List (Nat × Value)} {as r : List AV} {xs : Array Value}, VRp w U ρ parts ps place → VRs w U ρ as xs.toList → fillA as parts = some r →
    ∃ ys, Instr.fill place xs ps = some ys ∧ VRs w U ρ r ys.toList
  | [], ps, as, r, xs, hp, ha, h => by
    simp only [VRp] at hp
    subst hp
    simp only [fillA, Option.some.injEq] at h
    subst h
    exact ⟨xs, rfl, ha⟩
  | (off, size, a) :: q, ps, as, r, xs, hp, ha, h => by
    simp only [VRp] at hp
    obtain ⟨i, x, q', rfl, hpl, hv, hp⟩ := hp
    simp only [fillA] at h
    split at h
    · rename_i vs hvs
      split at h
      · rename_i hc
        have hcs := VRs_cells hvs hv
        have hl := VRs_length hcs
        have hl2 := VRs_length ha
        obtain ⟨ys, h1, h2⟩ := fill_spec hp (VRs_setAt ha hcs (by omega)) h
        refine ⟨ys, ?_, h2⟩
        simp only [Instr.fill, hpl]
        have c1 : x.cells.size = size := by simp at hl; omega
        have c2 : ¬ (off + x.cells.size > xs.size) := by simp at hl2; omega
        rw [if_neg (by simp only [c1, ne_eq, not_true_eq_false, false_or]; simpa [c1] using c2)]
        rw [← h1]
        congr 1
        simp only [putVals, ← Array.foldl_toList, Array.toList_zipIdx]
      · cases h
    · cases h
end
end Go.Proofs.Ytcmejocmohohpaa.R

/- Structs that are built; operands. -/
set_option linter.unusedVariables false
set_option linter.unusedSectionVars false
set_option linter.unusedSimpArgs false
noncomputable section
namespace Go.Proofs.Ytcmejocmohohpaa.R
open Go
section
variable {P : Program} {w : World} {U : Nat → Nat → Prop} {ρ : Rho}
theorem zeroCells_spec {x : TI} {z : List AV} (h : zeroCells x = some z) : ∃ v, x.zero = some v ∧ cellBs z = true ∧ ∀ {w : World} {U : Nat → Nat → Prop} {ρ : Rho}, VRs w U ρ z v.cells.toList := by
  unfold zeroCells at h
  split at h
  · rename_i cs hz
    split at h
    · rename_i hc
      simp only [Option.some.injEq] at h
      subst h
      exact ⟨_, hz, hc, VRs_ofCells _⟩
    · cases h
  · rename_i v hn hz
    split at h
    · rename_i hc
      simp only [Option.some.injEq] at h
      subst h
      refine ⟨v, hz, by simp [cellBs, hc], ?_⟩
      intro w U ρ
      have h1 : VR w U ρ (ofCell v) v := VR_ofCell v
      have h2 := cells_one (VR_cell hc h1)
      rw [h2]
      simp only [VRs]
      exact ⟨v, [], rfl, h1, rfl⟩
    · cases h
  · cases h
theorem frzs_length (H : Heap) : ∀ vs : List AV, (frzs H vs).length = vs.length
  | [] => rfl
  | v :: r => by simp [frzs, frzs_length H r]
theorem frz_ofCell {w : World} {U : Nat → Nat → Prop} {ρ : Rho} (v : Value) : VR w U ρ (frz [] (ofCell v)) v := by
  unfold ofCell
  split <;> simp [frz, VR, oneB, canI]
theorem frzs_ofCells {w : World} {U : Nat → Nat → Prop} {ρ : Rho} : ∀ vs : List Value, VRs w U ρ (frzs [] (vs.map ofCell)) vs
  | [] => by simp [frzs, VRs]
  | v :: vs => by
    simp only [List.map_cons, frzs, VRs]
    exact ⟨v, vs, rfl, frz_ofCell v, frzs_ofCells vs⟩
theorem frz_cell_ofCell {v : Value} (h : cellB (ofCell v) = true) : cellB (frz [] (ofCell v)) = true := by
  unfold ofCell at h ⊢
  split at h <;> simp_all [frz, cellB, canI]
theorem frzs_cell_ofCells : ∀ {vs : List Value}, cellBs (vs.map ofCell) = true → cellBs (frzs [] (vs.map ofCell)) = true
  | [], _ => rfl
  | v :: vs, h => by
    simp only [List.map_cons, cellBs, Bool.and_eq_true] at h
    simp only [List.map_cons, frzs, cellBs, Bool.and_eq_true]
    exact ⟨frz_cell_ofCell h.1, frzs_cell_ofCells h.2⟩
/-- Zero cells in one form. -/
theorem zeroCells_specF {x : TI} {z : List AV} (h : zeroCells x = some z) : ∃ v, x.zero = some v ∧ cellBs (frzs [] z) = true ∧ ∀ {w : World} {U : Nat → Nat → Prop} {ρ : Rho}, VRs w U ρ (frzs [] z) v.cells.toList := by
  unfold zeroCells at h
  split at h
  · rename_i cs hz
    split at h
    · rename_i hc
      simp only [Option.some.injEq] at h
      subst h
      exact ⟨_, hz, frzs_cell_ofCells hc, frzs_ofCells _⟩
    · cases h
  · rename_i v hn hz
    split at h
    · rename_i hc
      simp only [Option.some.injEq] at h
      subst h
      refine ⟨v, hz, frzs_cell_ofCells (vs := [v]) (by simp [cellBs, hc]), ?_⟩
      intro w U ρ
      have h1 : VR w U ρ (ofCell v) v := VR_ofCell v
      have h2 := cells_one (VR_cell hc h1)
      rw [h2]
      exact frzs_ofCells [v]
    · cases h
  · cases h
/-- Operands stand for what they are read as. -/
def Vals (w : World) (U : Nat → Nat → Prop) (ρ : Rho) (s : St) (a : Act) : Prop := ∀ t, VR w U ρ (s.get t) (a.tmps.getD t undef)
variable {s : St} {a : Act}
theorem VR_opd (hv : Vals w U ρ s a) {x : Operand} {y : Opd} (h : opd x = some y) : VR w U ρ (s.ev y) (a.eval x) := by
  cases x with
  | tmp t => simp only [opd, Option.some.injEq] at h; subst h; exact hv t
  | const v => simp only [opd, Option.some.injEq] at h; subst h; exact VR_ofConst v
  | global g => simp [opd] at h
  | func f =>
    simp only [opd, Option.some.injEq] at h
    subst h
    simp only [St.ev, Act.eval, VR]
    exact ⟨_, _, rfl, by simp [VRs], by simp [VRs]⟩
theorem VRs_opds (hv : Vals w U ρ s a) : ∀ {xs : List Operand} {ys : List Opd}, opds xs = some ys → VRs w U ρ (s.evs ys) (xs.map a.eval)
  | [], ys, h => by simp only [opds, Option.some.injEq] at h; subst h; simp [St.evs, VRs]
  | x :: xs, ys, h => by
    simp only [opds] at h
    split at h
    · rename_i y l h1 h2
      simp only [Option.some.injEq] at h
      subst h
      simp only [St.evs, List.map_cons, VRs]
      exact ⟨_, _, rfl, VR_opd hv h1, VRs_opds hv h2⟩
    · cases h
theorem VRo_oopd (hv : Vals w U ρ s a) {x : Option Operand} {y : Option Opd} (h : oopd x = some y) : VRo w U ρ (s.evo y) (x.map a.eval) := by
  cases x with
  | none => simp only [oopd, Option.some.injEq] at h; subst h; trivial
  | some x =>
    simp only [oopd] at h
    split at h
    · rename_i y' h1
      simp only [Option.some.injEq] at h
      subst h
      exact VR_opd hv h1
    · cases h
theorem VRp_placed (hv : Vals w U ρ s a) {d : TypeDesc} : ∀ {pl : List (Nat × Operand)} {ps : List (Nat × Opd)} {l : List (Nat × Nat × Opd)}, partsOf pl = some ps → placedOf P d ps = some l →
    VRp w U ρ (s.evq l) (pl.map fun p => (p.1, a.eval p.2)) (placeOf P d)
  | [], ps, l, h1, h2 => by
    simp only [partsOf, Option.some.injEq] at h1
    subst h1
    simp only [placedOf, Option.some.injEq] at h2
    subst h2
    simp [St.evq, VRp]
  | (i, x) :: pl, ps, l, h1, h2 => by
    simp only [partsOf] at h1
    split at h1
    · rename_i y q e1 e2
      simp only [Option.some.injEq] at h1
      subst h1
      simp only [placedOf] at h2
      split at h2
      · rename_i off size l' e3 e4
        simp only [Option.some.injEq] at h2
        subst h2
        simp only [St.evq, List.map_cons, VRp]
        exact ⟨i, _, _, rfl, e3, VR_opd hv e1, VRp_placed hv e2 e4⟩
      · cases h2
    · cases h1
theorem VRp_congr {place place' : Nat → Option (Nat × Nat)} (h : ∀ i x, place i = some x → place' i = some x) : ∀ {l : List (Nat × Nat × AV)} {ps : List (Nat × Value)}, VRp w U ρ l ps place → VRp w U ρ l ps place'
  | [], ps, hp => by simpa [VRp] using hp
  | (off, size, a) :: l, ps, hp => by
    simp only [VRp] at hp ⊢
    obtain ⟨i, x, q, h1, h2, h3, h4⟩ := hp
    exact ⟨i, x, q, h1, h _ _ h2, h3, VRp_congr h h4⟩
theorem run_mapM {α β : Type} (f : α → Sem β) (g : α → β) (w : World) : ∀ (l : List α), (∀ x ∈ l, (f x).run P w = .ok (g x) w) → (l.mapM f).run P w = .ok (l.map g) w
  | [], _ => by simp
  | x :: l, h => by
    rw [List.mapM_cons]
    simp only [Sem.run_bind, h x (by simp), Result.andThen_ok, run_mapM f g w l (fun y hy => h y (by simp [hy])), Sem.run_pure, List.map_cons]
theorem run_places {fs : Array Field} (h : fieldsOk P (.struct fs) = true) : ∃ pl : Array (Nat × Nat), (fs.mapM fun f => do pure (f.offset, ← sizeOf f.type) : Sem (Array (Nat × Nat))).run P w = .ok pl w ∧ ∀ i x, placeOf P (.struct fs) i = some x → pl[i]? = some x := by
  simp only [fieldsOk, List.all_eq_true] at h
  refine ⟨(fs.toList.map fun f => (f.offset, ((tyOf P f.type).map (·.size)).getD 0)).toArray, ?_, ?_⟩
  · rw [Array.mapM_eq_mapM_toList]
    rw [Sem.run_map, run_mapM _ (fun f => (f.offset, ((tyOf P f.type).map (·.size)).getD 0)) w fs.toList]
    · rfl
    · intro f hf
      obtain ⟨x, hx⟩ := Option.isSome_iff_exists.1 (h f hf)
      simp only [Sem.run_bind, run_sizeOf' hx, Result.andThen_ok, Sem.run_pure, hx, Option.map_some, Option.getD_some]
  · intro i x hx
    simp only [placeOf] at hx
    split at hx
    · rename_i f hf
      split at hx
      · rename_i xf hxf
        simp only [Option.some.injEq] at hx
        subst hx
        have hf' : fs.toList[i]? = some f := by simpa using hf
        simp [hf', hxf]
      · cases hx
    · cases hx
theorem snd_build (hv : Vals w U ρ s a) {t : TypeId} {ti : TI} (ht : tyOf P t = some ti) {parts : Array (Nat × Operand)} {ps : List (Nat × Opd)} (hp : partsOf parts.toList = some ps) {z : List AV} (hz : zeroCells ti = some z)
    {l : List (Nat × Nat × Opd)} (hl : placedOf P ti.desc ps = some l) (hagg : aggB ti.desc = true) (hok : fieldsOk P ti.desc = true) {v : AV} (h : buildAV z (s.evq l) = some v) :
    ∃ x, (Instr.build t (parts.map fun (i, x) => (i, a.eval x))).run P w = .ok x w ∧ VR w U ρ v x := by
  unfold buildAV at h
  split at h
  · rename_i cs hcs
    simp only [Option.some.injEq] at h
    subst h
    obtain ⟨zv, hzv, _, hz2⟩ := zeroCells_spec hz
    have h3 := run_underlying' ht w
    have hpl := VRp_placed (P := P) hv hp hl
    have hmap : (parts.map fun (i, x) => (i, a.eval x)).toList = parts.toList.map fun p => (p.1, a.eval p.2) := by simp
    cases hd : ti.desc with
    | struct fs =>
      rw [hd] at h3 hok hpl
      obtain ⟨pl, hr, hpc⟩ := run_places (P := P) (w := w) hok
      obtain ⟨ys, h1, h2⟩ := fill_spec (VRp_congr hpc hpl) (hz2 (w := w) (U := U) (ρ := ρ)) hcs
      refine ⟨.agg ys, ?_, by simp only [VR]; exact ⟨ys, rfl, h2⟩⟩
      simp only [Instr.build, Sem.run_bind, run_zero' ht hzv, h3, Result.andThen_ok, hr, hmap, h1, Sem.run_pure]
    | array n e =>
      rw [hd] at h3 hok hpl
      obtain ⟨x, hx⟩ := Option.isSome_iff_exists.1 (by simpa [fieldsOk] using hok)
      have hpc : ∀ i y, placeOf P (.array n e) i = some y → (fun i => some (i * x.size, x.size) : Nat → Option (Nat × Nat)) i = some y := by
        intro i y hy
        simpa [placeOf, hx] using hy
      obtain ⟨ys, h1, h2⟩ := fill_spec (VRp_congr hpc hpl) (hz2 (w := w) (U := U) (ρ := ρ)) hcs
      refine ⟨.agg ys, ?_, by simp only [VR]; exact ⟨ys, rfl, h2⟩⟩
      simp only [Instr.build, Sem.run_bind, run_zero' ht hzv, h3, Result.andThen_ok, run_sizeOf' hx, hmap, h1, Sem.run_pure]
    | _ => rw [hd] at hagg; simp [aggB] at hagg
  · cases h
end
end Go.Proofs.Ytcmejocmohohpaa.R

/- Events of memory: a new block, a written one, less that may be written. -/
set_option linter.unusedVariables false
set_option linter.unusedSectionVars false
set_option linter.unusedSimpArgs false
noncomputable section
namespace Go.Proofs.Ytcmejocmohohpaa.R
open Go
theorem push_get (w : World) (o : Obj) (k : Nat) : (w.heap.push o)[k]? = if k = w.heap.size then some o else w.heap[k]? := Array.getElem?_push
theorem Stay.less {w : World} {U U' : Nat → Nat → Prop} (h : ∀ b o, U' b o → U b o) : Stay w U w U' :=
  ⟨fun b o v hu hc => ⟨hc, fun hu' => hu (h b o hu')⟩, fun b C e fr hb => ⟨C, fr, hb, rfl⟩⟩
section
variable {A : Nat → Nat → Prop} {ρ : Rho} {H H' : Heap} {nx : Nat} {w : World}

/-! ### Less -/
theorem Wr_sub (h : ∀ k o, lk H' k = some o → lk H k = some o) {b o : Nat} (hw : Wr ρ H' b o) : Wr ρ H b o := by
  obtain ⟨id, es, ob, h1, h2, h3⟩ := hw
  exact ⟨id, es, ob, h _ _ h1, h2, h3⟩
theorem Fr_less (h : ∀ b o, Wr ρ H' b o → Wr ρ H b o) : Fr ρ H w ρ H' w :=
  { Fr.refl ρ H w with shrink := fun b o _ hw => h b o hw }
theorem Rep_sub (hr : Rep A ρ H nx w) (h : ∀ k o, lk H' k = some o → lk H k = some o) : Rep A ρ H' nx w where
  ob id o b es h1 h2 := ObR_mono (Stay.less fun b o hu => hu.imp_right (Wr_sub h)) (Ext.refl _) rfl (hr.ob id o b es (h _ _ h1) h2)
  inj i j oi oj b ei ej h1 h2 := hr.inj i j oi oj b ei ej (h _ _ h1) (h _ _ h2)
  ltH id o h1 := hr.ltH id o (h _ _ h1)
  ltR := hr.ltR
  ltA := hr.ltA
  apart id o b es off h1 := hr.apart id o b es off (h _ _ h1)
theorem lk_leakAt (id n : Nat) : ∀ (H : Heap) (k : Nat), lk (leakAt H id n) k = (lk H k).map fun o => if k = id then leakOb n o else o
  | [], k => by simp [leakAt]
  | (k0, o) :: r, k => by
    have ih := lk_leakAt id n r k
    unfold leakAt at ih ⊢
    simp only [List.map_cons]
    by_cases h0 : k0 = id
    · subst h0
      simp only [if_true, lk_cons]
      by_cases hk : k0 = k
      · subst hk; simp
      · simp only [hk, if_false]; exact ih
    · simp only [h0, if_false, lk_cons]
      by_cases hk : k0 = k
      · subst hk; simp [h0]
      · simp only [hk, if_false]; exact ih
theorem wrOb_leak {es o n : Nat} {ob : Ob} (h : wrOb es o (leakOb n ob)) : wrOb es o ob := by
  cases ob with
  | box cells => trivial
  | arr es' rows leak =>
    simp only [leakOb, wrOb] at h ⊢
    exact Nat.le_trans (Nat.mul_le_mul_right _ (Nat.le_max_left _ _)) h
/-- The heap with more that may not be written any more: objects are as they were. -/
structure Leaked (H H' : Heap) : Prop where
  get : ∀ k o, lk H k = some o → ∃ n, lk H' k = some (leakOb n o)
  back : ∀ k o', lk H' k = some o' → ∃ o n, lk H k = some o ∧ o' = leakOb n o
theorem leakOb_zero (o : Ob) : leakOb 0 o = o := by cases o <;> simp [leakOb]
theorem leakOb_leakOb (n m : Nat) (o : Ob) : leakOb m (leakOb n o) = leakOb (max n m) o := by cases o <;> simp [leakOb, Nat.max_assoc]
theorem Leaked.refl (H : Heap) : Leaked H H := ⟨fun k o h => ⟨0, by rw [leakOb_zero]; exact h⟩, fun k o h => ⟨o, 0, h, (leakOb_zero o).symm⟩⟩
theorem Leaked.trans {H H' H'' : Heap} (h : Leaked H H') (h' : Leaked H' H'') : Leaked H H'' where
  get k o hk := by
    obtain ⟨n, h1⟩ := h.get k o hk
    obtain ⟨m, h2⟩ := h'.get k _ h1
    exact ⟨max n m, by rw [h2, leakOb_leakOb]⟩
  back k o'' hk := by
    obtain ⟨o', m, h1, rfl⟩ := h'.back k o'' hk
    obtain ⟨o, n, h2, rfl⟩ := h.back k o' h1
    exact ⟨o, max n m, h2, leakOb_leakOb n m o⟩
theorem Leaked.at (H : Heap) (id n : Nat) : Leaked H (leakAt H id n) where
  get k o hk := by
    rw [lk_leakAt, hk]
    by_cases h : k = id
    · exact ⟨n, by simp [h]⟩
    · exact ⟨0, by simp [h, leakOb_zero]⟩
  back k o' hk := by
    rw [lk_leakAt] at hk
    cases h : lk H k with
    | none => simp [h] at hk
    | some o =>
      simp only [h, Option.map_some, Option.some.injEq] at hk
      subst hk
      by_cases h' : k = id
      · exact ⟨o, n, rfl, by simp [h']⟩
      · exact ⟨o, 0, rfl, by simp [h', leakOb_zero]⟩
theorem Wr_leak (hl : Leaked H H') {b o : Nat} (hw : Wr ρ H' b o) : Wr ρ H b o := by
  obtain ⟨id, es, ob, h1, h2, h3⟩ := hw
  obtain ⟨o', n, h4, rfl⟩ := hl.back _ _ h1
  exact ⟨id, es, o', h4, h2, wrOb_leak h3⟩
theorem ObR_leak {U : Nat → Nat → Prop} {b es n : Nat} {o : Ob} (h : ObR w U ρ b es o) : ObR w U ρ b es (leakOb n o) := by
  cases o with
  | box cells => exact h
  | arr es' rows leak => exact h
theorem Rep_leak (hr : Rep A ρ H nx w) (hl : Leaked H H') : Rep A ρ H' nx w where
  ob id o b es h1 h2 := by
    obtain ⟨o', n, h3, rfl⟩ := hl.back _ _ h1
    exact ObR_leak (ObR_mono (Stay.less fun b o hu => hu.imp_right (Wr_leak hl)) (Ext.refl _) rfl (hr.ob id o' b es h3 h2))
  inj i j oi oj b ei ej h1 h2 := by
    obtain ⟨o1, _, h3, _⟩ := hl.back _ _ h1
    obtain ⟨o2, _, h4, _⟩ := hl.back _ _ h2
    exact hr.inj i j o1 o2 b ei ej h3 h4
  ltH id o h1 := by
    obtain ⟨o', n, h3, rfl⟩ := hl.back _ _ h1
    exact hr.ltH id o' h3
  ltR := hr.ltR
  ltA := hr.ltA
  apart id o b es off h1 := by
    obtain ⟨o', n, h3, rfl⟩ := hl.back _ _ h1
    exact hr.apart id o' b es off h3

/-! ### A new block -/
def putRho (ρ : Rho) (id : Nat) (x : Nat × Nat) : Rho := fun k => if k = id then some x else ρ k
theorem putRho_new (ρ : Rho) (id : Nat) (x : Nat × Nat) : putRho ρ id x id = some x := by simp [putRho]
theorem putRho_old {ρ : Rho} {id k : Nat} {x : Nat × Nat} (h : k ≠ id) : putRho ρ id x k = ρ k := by simp [putRho, h]
theorem Rep.ext (hr : Rep A ρ H nx w) (x : Nat × Nat) : Ext ρ (putRho ρ nx x) := by
  intro id y hy
  have := hr.ltR id y hy
  rw [putRho_old (by omega)]; exact hy
/-- The world with a new block. -/
def pushW (w : World) (o : Obj) : World := { w with heap := w.heap.push o }
theorem lk_new {ob : Ob} {k : Nat} {o : Ob} (h : lk ((nx, ob) :: H) k = some o) : (k = nx ∧ o = ob) ∨ (k ≠ nx ∧ lk H k = some o) := by
  rw [lk_cons] at h
  by_cases hk : nx = k
  · rw [if_pos hk] at h; exact .inl ⟨hk.symm, (Option.some.inj h).symm⟩
  · rw [if_neg hk] at h; exact .inr ⟨fun e => hk e.symm, h⟩
theorem Fr_new (hr : Rep A ρ H nx w) (ob : Ob) (C : Array Value) (e : TypeId) (fr : Nat × Nat) (es : Nat) :
    Fr ρ H w (putRho ρ nx (w.heap.size, es)) ((nx, ob) :: H) (pushW w (.cells C e fr)) where
  size := by simp [pushW]
  os := rfl
  tape := rfl
  output := rfl
  cells b C' e' fr' hb := ⟨C', by simp only [pushW, push_get]; rw [if_neg (by have := lt_of_heap hb; omega)]; exact hb, rfl, fun _ _ => rfl⟩
  other b o hb _ := by simp only [pushW, push_get]; rw [if_neg (by have := lt_of_heap hb; omega)]; exact hb
  shrink b o hb hw := by
    obtain ⟨id, es', ob', h1, h2, h3⟩ := hw
    rcases lk_new h1 with ⟨rfl, rfl⟩ | ⟨h4, h5⟩
    · rw [putRho_new] at h2
      simp only [Option.some.injEq, Prod.mk.injEq] at h2
      omega
    · rw [putRho_old h4] at h2
      exact ⟨id, es', ob', h5, h2, h3⟩
theorem Rep_new (hr : Rep A ρ H nx w) {ob : Ob} {C : Array Value} {e : TypeId} {fr : Nat × Nat} {es : Nat}
    (ho : ObR (pushW w (.cells C e fr)) (UU A (putRho ρ nx (w.heap.size, es)) ((nx, ob) :: H)) (putRho ρ nx (w.heap.size, es)) w.heap.size es ob) :
    Rep A (putRho ρ nx (w.heap.size, es)) ((nx, ob) :: H) (nx + 1) (pushW w (.cells C e fr)) where
  ob id o b es' h1 h2 := by
    rcases lk_new h1 with ⟨rfl, rfl⟩ | ⟨h4, h5⟩
    · rw [putRho_new] at h2
      simp only [Option.some.injEq, Prod.mk.injEq] at h2
      obtain ⟨rfl, rfl⟩ := h2
      exact ho
    · rw [putRho_old h4] at h2
      have h6 := hr.ob id o b es' h5 h2
      refine ObR_mono (Fr_new hr ob C e fr es).stay (hr.ext _) ?_ h6
      have hlt : b < w.heap.size := by
        cases o with
        | box cells => obtain ⟨C, e, fr, h7, _⟩ := h6; exact lt_of_heap h7
        | arr es' rows leak => obtain ⟨_, _, C, e, fr, h7, _⟩ := h6; exact lt_of_heap h7
      simp only [pushW, push_get]
      rw [if_neg (by omega)]
  inj i j oi oj b ei ej h1 h2 h3 h4 := by
    have old : ∀ k ok eb, lk H k = some ok → ρ k = some (b, eb) → b < w.heap.size := by
      intro k ok eb hk hρ
      have h6 := hr.ob k ok b eb hk hρ
      cases ok with
      | box cells => obtain ⟨C, e, fr, h7, _⟩ := h6; exact lt_of_heap h7
      | arr es' rows leak => obtain ⟨_, _, C, e, fr, h7, _⟩ := h6; exact lt_of_heap h7
    rcases lk_new h1 with ⟨rfl, rfl⟩ | ⟨h5, h6⟩ <;> rcases lk_new h2 with ⟨rfl, rfl⟩ | ⟨h7, h8⟩
    · rfl
    · rw [putRho_new] at h3
      rw [putRho_old h7] at h4
      simp only [Option.some.injEq, Prod.mk.injEq] at h3
      have := old j oj ej h8 h4
      omega
    · rw [putRho_new] at h4
      rw [putRho_old h5] at h3
      simp only [Option.some.injEq, Prod.mk.injEq] at h4
      have := old i oi ei h6 h3
      omega
    · rw [putRho_old h5] at h3
      rw [putRho_old h7] at h4
      exact hr.inj i j oi oj b ei ej h6 h8 h3 h4
  ltH id o h1 := by
    rcases lk_new h1 with ⟨rfl, rfl⟩ | ⟨h5, h6⟩
    · omega
    · have := hr.ltH id o h6; omega
  ltR id x h1 := by
    by_cases h : id = nx
    · omega
    · rw [putRho_old h] at h1
      have := hr.ltR id x h1; omega
  ltA b o h := by have := hr.ltA b o h; simp [pushW]; omega
  apart id o b es' off h1 h2 := by
    rcases lk_new h1 with ⟨rfl, rfl⟩ | ⟨h5, h6⟩
    · rw [putRho_new] at h2
      simp only [Option.some.injEq, Prod.mk.injEq] at h2
      intro ha
      have := hr.ltA b off ha
      omega
    · rw [putRho_old h5] at h2
      exact hr.apart id o b es' off h6 h2
/-- A new place that has no block: an array without elements. -/
theorem Rep_none (hr : Rep A ρ H nx w) (ob : Ob) : Rep A ρ ((nx, ob) :: H) (nx + 1) w ∧ Fr ρ H w ρ ((nx, ob) :: H) w := by
  have hn : ρ nx = none := by
    cases h : ρ nx with
    | none => rfl
    | some x => have := hr.ltR nx x h; omega
  have hw : ∀ b o, Wr ρ ((nx, ob) :: H) b o → Wr ρ H b o := by
    rintro b o ⟨id, es, o', h1, h2, h3⟩
    rcases lk_new h1 with ⟨rfl, rfl⟩ | ⟨h5, h6⟩
    · rw [hn] at h2; cases h2
    · exact ⟨id, es, o', h6, h2, h3⟩
  have old : ∀ k o x, lk ((nx, ob) :: H) k = some o → ρ k = some x → lk H k = some o := by
    intro k o x h1 h2
    rcases lk_new h1 with ⟨rfl, rfl⟩ | ⟨h5, h6⟩
    · rw [hn] at h2; cases h2
    · exact h6
  refine ⟨?_, Fr_less hw⟩
  exact
    { ob := fun id o b es h1 h2 => ObR_mono (Stay.less fun b o hu => hu.imp_right (hw b o)) (Ext.refl _) rfl (hr.ob id o b es (old _ _ _ h1 h2) h2)
      inj := fun i j oi oj b ei ej h1 h2 h3 h4 => hr.inj i j oi oj b ei ej (old _ _ _ h1 h3) (old _ _ _ h2 h4) h3 h4
      ltH := fun id o h1 => by
        rcases lk_new h1 with ⟨rfl, rfl⟩ | ⟨h5, h6⟩
        · omega
        · have := hr.ltH id o h6; omega
      ltR := fun id x h1 => by have := hr.ltR id x h1; omega
      ltA := hr.ltA
      apart := fun id o b es off h1 h2 => hr.apart id o b es off (old _ _ _ h1 h2) h2 }

/-! ### A written block -/
theorem blk_update (hr : Rep A ρ H nx w) {id b es : Nat} {ob ob' : Ob} (hid : lk H id = some ob) (hρ : ρ id = some (b, es)) {C C' : Array Value} {e : TypeId} {fr : Nat × Nat} (hb : w.heap[b]? = some (Obj.cells C e fr))
    {w' : World} (h1 : w'.heap[b]? = some (Obj.cells C' e fr)) (h2 : ∀ k, k ≠ b → w'.heap[k]? = w.heap[k]?) (hsz : w'.heap.size = w.heap.size) (ho : w'.os = w.os) (ht : w'.tape = w.tape) (hout : w'.output = w.output)
    (hs : C'.size = C.size) (hch : ∀ o, ¬ wrOb es o ob → C'[o]? = C[o]?) (hH : ∀ k, lk H' k = if k = id then some ob' else lk H k) (hwr : ∀ o, wrOb es o ob' → wrOb es o ob) :
    Fr ρ H w ρ H' w' ∧ (ObR w' (UU A ρ H') ρ b es ob' → Rep A ρ H' nx w') := by
  have hw : ∀ b o, Wr ρ H' b o → Wr ρ H b o := by
    rintro b' o ⟨id', es', o', g1, g2, g3⟩
    rw [hH] at g1
    by_cases hi : id' = id
    · subst hi
      rw [if_pos rfl] at g1
      obtain rfl := Option.some.inj g1
      rw [hρ] at g2
      simp only [Option.some.injEq, Prod.mk.injEq] at g2
      obtain ⟨rfl, rfl⟩ := g2
      exact ⟨id', es, ob, hid, hρ, hwr o g3⟩
    · rw [if_neg hi] at g1
      exact ⟨id', es', o', g1, g2, g3⟩
  have hfr : Fr ρ H w ρ H' w' :=
    { size := by omega
      os := ho
      tape := ht
      output := hout
      cells := fun k D e' fr' hk => by
        by_cases hkb : k = b
        · subst hkb
          rw [hb] at hk
          simp only [Option.some.injEq, Obj.cells.injEq] at hk
          obtain ⟨rfl, rfl, rfl⟩ := hk
          exact ⟨C', h1, hs, fun o hn => hch o fun hwo => hn ⟨id, es, ob, hid, hρ, hwo⟩⟩
        · exact ⟨D, by rw [h2 k hkb]; exact hk, rfl, fun _ _ => rfl⟩
      other := fun k o hk hn => by
        by_cases hkb : k = b
        · subst hkb
          rw [hb] at hk
          exact absurd (Option.some.inj hk).symm (hn _ _ _)
        · rw [h2 k hkb]; exact hk
      shrink := fun b o _ h => hw b o h }
  refine ⟨hfr, fun hobr => ?_⟩
  exact
    { ob := fun i o b' es' g1 g2 => by
        rw [hH] at g1
        by_cases hi : i = id
        · subst hi
          rw [if_pos rfl] at g1
          obtain rfl := Option.some.inj g1
          rw [hρ] at g2
          simp only [Option.some.injEq, Prod.mk.injEq] at g2
          obtain ⟨rfl, rfl⟩ := g2
          exact hobr
        · rw [if_neg hi] at g1
          refine ObR_mono hfr.stay (Ext.refl _) (h2 b' fun hbb => ?_) (hr.ob i o b' es' g1 g2)
          subst hbb
          exact hi (hr.inj i id o ob b' es' es g1 hid g2 hρ)
      inj := fun i j oi oj b' ei ej g1 g2 g3 g4 => by
        have old : ∀ k o, lk H' k = some o → ∃ o', lk H k = some o' := by
          intro k o hk
          rw [hH] at hk
          by_cases hi : k = id
          · subst hi; exact ⟨ob, hid⟩
          · rw [if_neg hi] at hk; exact ⟨o, hk⟩
        obtain ⟨o1, g5⟩ := old i oi g1
        obtain ⟨o2, g6⟩ := old j oj g2
        exact hr.inj i j o1 o2 b' ei ej g5 g6 g3 g4
      ltH := fun i o g1 => by
        rw [hH] at g1
        by_cases hi : i = id
        · subst hi; exact hr.ltH i ob hid
        · rw [if_neg hi] at g1; exact hr.ltH i o g1
      ltR := hr.ltR
      ltA := fun b o h => by have := hr.ltA b o h; omega
      apart := fun i o b' es' off g1 g2 => by
        rw [hH] at g1
        by_cases hi : i = id
        · subst hi; exact hr.apart i ob b' es' off hid g2
        · rw [if_neg hi] at g1; exact hr.apart i o b' es' off g1 g2 }
end

/-! ### A world with the same memory -/
structure SameMem (w w' : World) : Prop where
  heap : w'.heap = w.heap
  os : w'.os = w.os
  tape : w'.tape = w.tape
  output : w'.output = w.output
theorem SameMem.cell {w w' : World} (h : SameMem w w') (x : Addr) : w'.cell? x = w.cell? x := by unfold World.cell?; rw [h.heap]
theorem SameMem.stay {w w' : World} (h : SameMem w w') (U : Nat → Nat → Prop) : Stay w U w' U :=
  ⟨fun b o v hu hc => ⟨by rw [h.cell]; exact hc, hu⟩, fun b C e fr hb => ⟨C, fr, by rw [h.heap]; exact hb, rfl⟩⟩
theorem SameMem.fr {w w' : World} (h : SameMem w w') (ρ : Rho) (H : Heap) : Fr ρ H w ρ H w' where
  size := by rw [h.heap]; exact Nat.le_refl _
  os := h.os
  tape := h.tape
  output := h.output
  cells b C e fr hb := ⟨C, by rw [h.heap]; exact hb, rfl, fun _ _ => rfl⟩
  other b o hb _ := by rw [h.heap]; exact hb
  shrink b o _ hw := hw
theorem SameMem.rep {w w' : World} (h : SameMem w w') {A : Nat → Nat → Prop} {ρ : Rho} {H : Heap} {nx : Nat} (hr : Rep A ρ H nx w) : Rep A ρ H nx w' where
  ob id o b es h1 h2 := ObR_mono (h.stay _) (Ext.refl _) (by rw [h.heap]) (hr.ob id o b es h1 h2)
  inj := hr.inj
  ltH := hr.ltH
  ltR := hr.ltR
  ltA b o ha := by rw [h.heap]; exact hr.ltA b o ha
  apart := hr.apart
theorem SameMem.drawn (w : World) (n : Nat) : SameMem w { w with drawn := n } := ⟨rfl, rfl, rfl, rfl⟩
end Go.Proofs.Ytcmejocmohohpaa.R

/- Operations on memory: new places, reading, writing. -/
set_option linter.unusedVariables false
set_option linter.unusedSectionVars false
set_option linter.unusedSimpArgs false
noncomputable section
namespace Go.Proofs.Ytcmejocmohohpaa.R
open Go
/-- The places that were, and no other of theirs. -/
structure Ext2 (ρ : Rho) (n : Nat) (ρ' : Rho) (n' : Nat) : Prop where
  ext : Ext ρ ρ'
  cl : ∀ k, k < n → ρ k = none → ρ' k = none
  le : n ≤ n'
theorem Ext2.refl (ρ : Rho) (n : Nat) : Ext2 ρ n ρ n := ⟨Ext.refl _, fun _ _ h => h, Nat.le_refl _⟩
theorem Ext2.trans {ρ ρ' ρ'' : Rho} {n n' n'' : Nat} (h : Ext2 ρ n ρ' n') (h' : Ext2 ρ' n' ρ'' n'') : Ext2 ρ n ρ'' n'' :=
  ⟨h.ext.trans h'.ext, fun k hk h0 => h'.cl k (Nat.lt_of_lt_of_le hk h.le) (h.cl k hk h0), Nat.le_trans h.le h'.le⟩
theorem Rep.ext2 {A : Nat → Nat → Prop} {ρ : Rho} {H : Heap} {nx : Nat} {w : World} (hr : Rep A ρ H nx w) (x : Nat × Nat) : Ext2 ρ nx (putRho ρ nx x) (nx + 1) :=
  ⟨hr.ext x, fun k hk h0 => by rw [putRho_old (by omega)]; exact h0, Nat.le_succ _⟩
theorem Ext2.more (ρ : Rho) (n : Nat) : Ext2 ρ n ρ (n + 1) := ⟨Ext.refl _, fun _ _ h => h, Nat.le_succ _⟩
/-- What an operation leaves behind. -/
def Post (A : Nat → Nat → Prop) (ρ : Rho) (s : St) (w : World) (v : AV) (s' : St) (x : Value) (w' : World) : Prop :=
  s'.env = s.env ∧ s'.loc = s.loc ∧ ∃ ρ', Rep A ρ' s'.H s'.nx w' ∧ VR w' (UU A ρ' s'.H) ρ' v x ∧ Ext2 ρ s.nx ρ' s'.nx ∧ Fr ρ s.H w ρ' s'.H w'
theorem Post.same {A : Nat → Nat → Prop} {ρ : Rho} {s : St} {w : World} {v : AV} {x : Value} (hr : Rep A ρ s.H s.nx w) (hv : VR w (UU A ρ s.H) ρ v x) : Post A ρ s w v s x w :=
  ⟨rfl, rfl, ρ, hr, hv, Ext2.refl _ _, Fr.refl _ _ _⟩

/-! ### Cells that are written -/
def putV (C : Array Value) : Nat → List Value → Array Value
  | _, [] => C
  | o, v :: r => putV (C.setIfInBounds o v) (o + 1) r
theorem putV_size : ∀ (vs : List Value) (C : Array Value) (o : Nat), (putV C o vs).size = C.size
  | [], _, _ => rfl
  | v :: r, C, o => by simp [putV, putV_size r]
theorem putV_get : ∀ (vs : List Value) (C : Array Value) (o i : Nat), (putV C o vs)[i]? = if o ≤ i ∧ i < o + vs.length ∧ i < C.size then vs[i - o]? else C[i]?
  | [], C, o, i => by simp [putV]; intro h1 h2; omega
  | v :: r, C, o, i => by
    simp only [putV, putV_get r, Array.size_setIfInBounds, List.length_cons]
    by_cases h1 : i = o
    · subst h1
      by_cases h2 : i < C.size
      · rw [if_neg (by omega), if_pos (by omega)]
        simp [h2]
      · rw [if_neg (by omega), if_neg (by omega)]
        rw [Array.getElem?_eq_none (by simp; omega), Array.getElem?_eq_none (by omega)]
    · rw [Array.getElem?_setIfInBounds_ne (fun e => h1 e.symm)]
      by_cases h3 : o + 1 ≤ i ∧ i < o + 1 + r.length ∧ i < C.size
      · rw [if_pos h3, if_pos (by omega)]
        rw [show i - o = (i - (o + 1)) + 1 by omega, List.getElem?_cons_succ]
      · rw [if_neg h3, if_neg (by omega)]
theorem setCell_heap {w : World} {b : Nat} {C : Array Value} {e : TypeId} {fr : Nat × Nat} (h : w.heap[b]? = some (Obj.cells C e fr)) (o : Nat) (v : Value) :
    (w.setCell ⟨b, o, none⟩ v).heap[b]? = some (Obj.cells (C.setIfInBounds o v) e fr) := by
  simp [World.setCell, Array.getElem?_modify, h]
theorem setCells_heap (b : Nat) (e : TypeId) (fr : Nat × Nat) : ∀ (vs : List Value) (o : Nat) (w : World) (C : Array Value), w.heap[b]? = some (Obj.cells C e fr) →
    (w.setCells b o vs).heap[b]? = some (Obj.cells (putV C o vs) e fr) ∧ (∀ k, k ≠ b → (w.setCells b o vs).heap[k]? = w.heap[k]?) ∧ (w.setCells b o vs).heap.size = w.heap.size ∧
      (w.setCells b o vs).os = w.os ∧ (w.setCells b o vs).tape = w.tape ∧ (w.setCells b o vs).output = w.output
  | [], o, w, C, h => ⟨h, fun _ _ => rfl, rfl, rfl, rfl, rfl⟩
  | v :: r, o, w, C, h => by
    obtain ⟨h1, h2, h3, h4, h5, h6⟩ := setCells_heap b e fr r (o + 1) (w.setCell ⟨b, o, none⟩ v) _ (setCell_heap h o v)
    refine ⟨h1, fun k hk => (h2 k hk).trans ?_, h3.trans (by simp [World.setCell]), h4, h5, h6⟩
    simp only [World.setCell, Array.getElem?_modify]
    rw [if_neg (by simpa using fun e => hk e.symm)]
section
variable {P : Program} {w : World} {A : Nat → Nat → Prop} {U : Nat → Nat → Prop} {ρ : Rho}
theorem VRs_putV {as vs : List AV} {xs : Array Value} {ys : List Value} {off : Nat} (ha : VRs w U ρ as xs.toList) (hv : VRs w U ρ vs ys) (hl : off + vs.length ≤ as.length) :
    VRs w U ρ (setAt as off vs) (putV xs off ys).toList := by
  have hlen := VRs_length ha
  have hlen2 := VRs_length hv
  have hx : xs.toList.length = xs.size := by simp
  refine VRs_of_get ?_ fun i a hi => ?_
  · rw [setAt_length, hlen, hx]
    simp [putV_size]
  · rw [setAt_get] at hi
    have hg : (putV xs off ys).toList[i]? = if off ≤ i ∧ i < off + ys.length ∧ i < xs.size then ys[i - off]? else xs[i]? := by
      rw [← putV_get ys xs off i]; simp
    rw [hg]
    split at hi
    · rename_i hc
      rw [if_pos (by omega)]
      exact VRs_get hv hi
    · rename_i hc
      rw [if_neg (by omega)]
      obtain ⟨x, h1, h2⟩ := VRs_get ha hi
      exact ⟨x, by simpa using h1, h2⟩
theorem oneCell_of_oneB {x : Value} (h : oneB x = true) : x.oneCell' = true := by cases x <;> simp [oneB] at h <;> rfl

/-! ### Reading -/
/-- Cells that hold values, from a place on. -/
def At (w : World) (U : Nat → Nat → Prop) (ρ : Rho) (as : List AV) (b o : Nat) : Prop := ∀ (j : Nat) (a : AV), as[j]? = some a → ∃ v, w.cell? ⟨b, o + j, none⟩ = some v ∧ VR w U ρ a v
theorem At.list : ∀ {as : List AV} {b o : Nat}, At w U ρ as b o → ∃ cs, VRs w U ρ as cs ∧ ∀ (j : Nat) (v : Value), cs[j]? = some v → w.cell? ⟨b, o + j, none⟩ = some v
  | [], b, o, h => ⟨[], by simp [VRs], by simp⟩
  | a :: as, b, o, h => by
    obtain ⟨v, h1, h2⟩ := h 0 a rfl
    have hr : At w U ρ as b (o + 1) := fun j a' hj => by
      obtain ⟨v, h3, h4⟩ := h (j + 1) a' (by simpa using hj)
      exact ⟨v, by rw [show o + 1 + j = o + (j + 1) by omega]; exact h3, h4⟩
    obtain ⟨cs, h3, h4⟩ := At.list hr
    refine ⟨v :: cs, by simp only [VRs]; exact ⟨v, cs, rfl, h2, h3⟩, fun j v' hj => ?_⟩
    cases j with
    | zero => simp at hj; subst hj; exact h1
    | succ j => simp at hj; rw [show o + (j + 1) = o + 1 + j by omega]; exact h4 j v' hj
theorem At.sub {as : List AV} {b o : Nat} (h : At w U ρ as b o) (n m : Nat) : At w U ρ ((as.drop n).take m) b (o + n) := by
  intro j a hj
  rw [List.getElem?_take] at hj
  split at hj
  · rw [List.getElem?_drop] at hj
    obtain ⟨v, h1, h2⟩ := h _ a hj
    exact ⟨v, by rw [Nat.add_assoc]; exact h1, h2⟩
  · cases hj
theorem snd_loadVar {t : TypeId} {x : TI} (ht : tyOf P t = some x) {as : List AV} {b o off : Nat} {v : AV} (ha : At w U ρ as b o) (h : part (aggB x.desc) x.size as off = some v) :
    ∃ z, (loadVar t ⟨b, o + off, none⟩).run P w = .ok z w ∧ VR w U ρ v z := by
  unfold part at h
  split at h
  · rename_i hagg
    split at h
    · rename_i hle
      simp only [Option.some.injEq] at h
      subst h
      obtain ⟨cs, h1, h2⟩ := (ha.sub off x.size).list
      have hl := VRs_length h1
      rw [List.length_take, List.length_drop, Nat.min_eq_left (by omega)] at hl
      refine ⟨.agg cs.toArray, ?_, by simp only [VR]; exact ⟨_, rfl, by simpa using h1⟩⟩
      have := run_loadCells_list (P := P) w ⟨b, o + off, none⟩ cs (fun j v hj => by rw [add_off]; exact h2 j v hj)
      rw [← hl] at this
      simp only [loadVar, Sem.run_bind, run_isAgg' ht, hagg, Result.andThen_ok, if_true, run_sizeOf' ht, this, Sem.run_pure]
    · cases h
  · rename_i hagg
    split at h
    · rename_i v' hv'
      split at h
      · simp only [Option.some.injEq] at h
        subst h
        obtain ⟨z, h1, h2⟩ := ha off v' hv'
        refine ⟨z, ?_, h2⟩
        have hagg' : aggB x.desc = false := by simpa using hagg
        simp [loadVar, run_isAgg' ht, hagg', h1]
      · cases h
    · cases h
theorem At_box {H : Heap} {nx : Nat} (hr : Rep A ρ H nx w) {id b es : Nat} {cells : List AV} (hid : lk H id = some (.box cells)) (hρ : ρ id = some (b, es)) : At w (UU A ρ H) ρ cells b 0 := by
  obtain ⟨C, e, fr, h1, h2, h3⟩ := hr.ob id _ b es hid hρ
  intro j a hj
  obtain ⟨x, h4, h5⟩ := VRs_get h3 hj
  exact ⟨x, by rw [cell_of_block h1]; simpa using h4, h5⟩
theorem At_row {H : Heap} {nx : Nat} (hr : Rep A ρ H nx w) {id b es es' leak : Nat} {rows : List (List AV)} (hid : lk H id = some (.arr es' rows leak)) (hρ : ρ id = some (b, es)) {i : Nat} {row : List AV} (hi : rows[i]? = some row) :
    row.length = es ∧ At w (UU A ρ H) noRho row b (i * es) := by
  obtain ⟨h0, hz, C, e, fr, h1, h2, h3⟩ := hr.ob id _ b es hid hρ
  obtain ⟨g1, g2, g3, _⟩ := ARs_get h3 hi
  refine ⟨g1, fun j a hj => ?_⟩
  obtain ⟨x, h4, h5⟩ := VRs_get g3 hj
  rw [List.getElem?_take] at h4
  split at h4
  · rw [List.getElem?_drop] at h4
    exact ⟨x, by rw [cell_of_block h1]; simpa using h4, h5⟩
  · cases h4
theorem Ext_no (ρ : Rho) : Ext noRho ρ := fun _ _ h => by simp [noRho] at h
theorem VR_up {a : AV} {x : Value} (h : VR w U noRho a x) : VR w U ρ a x := VR_mono (Stay.refl w U) a x noRho ρ (Ext_no ρ) h
theorem At.up {as : List AV} {b o : Nat} (h : At w U noRho as b o) : At w U ρ as b o := fun j a hj => let ⟨v, h1, h2⟩ := h j a hj; ⟨v, h1, VR_up h2⟩
theorem snd_load {H : Heap} {nx : Nat} (hr : Rep A ρ H nx w) {t : TypeId} {x : TI} (ht : tyOf P t = some x) {X : Value} {p v : AV} (hp : VR w (UU A ρ H) ρ p X) (h : loadAV (aggB x.desc) x.size H p = some v) :
    ∃ z, (Instr.loadAt t X).run P w = .ok z w ∧ VR w (UU A ρ H) ρ v z := by
  unfold loadAV at h
  split at h
  · rename_i id off
    split at h
    · rename_i cells hid
      simp only [VR] at hp
      obtain ⟨b, es, hρ, rfl⟩ := hp
      have := snd_loadVar (P := P) ht (At_box hr hid hρ) h
      simpa [Instr.loadAt, Instr.sureAddr] using this
    · cases h
  · rename_i id i f
    split at h
    · rename_i es' rows leak hid
      split at h
      · rename_i row hrow
        simp only [VR] at hp
        obtain ⟨b, es, hρ, rfl⟩ := hp
        have := snd_loadVar (P := P) (ρ := ρ) ht (At_row hr hid hρ hrow).2.up h
        simpa [Instr.loadAt, Instr.sureAddr] using this
      · cases h
    · cases h
  · rename_i row f
    simp only [VR] at hp
    obtain ⟨b, o, rfl, hc⟩ := hp
    have hat : At w (UU A ρ H) ρ row b o := fun j a hj => let ⟨v, h1, _, _, h3⟩ := CLs_get hc hj; ⟨v, h1, VR_up h3⟩
    have := snd_loadVar (P := P) ht hat h
    simpa [Instr.loadAt, Instr.sureAddr] using this
  · cases h

/-! ### New boxes -/
theorem unfr_none (n : Nat) : unfr (0, 0) n := fun o _ h => by omega
theorem snd_newBox {s : St} (hr : Rep A ρ s.H s.nx w) {cs : List AV} {C : Array Value} {e : TypeId} (hc : VRs w (UU A ρ s.H) ρ cs C.toList) :
    Post A ρ s w (.ptr s.nx 0) (s.add (.box cs)) (.pointer (some ⟨w.heap.size, 0, none⟩)) (pushW w (.cells C e)) := by
  have hfr := Fr_new hr (.box cs) C e (0, 0) 0
  refine ⟨rfl, rfl, putRho ρ s.nx (w.heap.size, 0), Rep_new hr ?_, ?_, hr.ext2 _, hfr⟩
  · refine ⟨C, e, (0, 0), ?_, unfr_none _, VRs_mono hfr.stay _ _ _ _ (hr.ext _) hc⟩
    simp only [pushW, push_get, if_true]
  · simp only [VR]
    exact ⟨w.heap.size, 0, putRho_new _ _ _, rfl⟩
theorem snd_alloc {s : St} (hr : Rep A ρ s.H s.nx w) {t : TypeId} {ti : TI} (ht : tyOf P t = some ti) {z : List AV} (hz : zeroCells ti = some z) :
    ∃ x w', (Instr.alloc t true (.tuple #[])).run P w = .ok x w' ∧ Post A ρ s w (.ptr s.nx 0) (s.add (.box z)) x w' := by
  obtain ⟨zv, hzv, _, hz2⟩ := zeroCells_spec hz
  refine ⟨_, _, ?_, snd_newBox (e := t) hr (hz2 (w := w) (U := UU A ρ s.H) (ρ := ρ))⟩
  simp only [Instr.alloc, Sem.run_bind, run_zero' ht hzv, Result.andThen_ok, newVar, newRow, run_newObj, Sem.run_pure]
  rfl
theorem snd_box {s : St} (hr : Rep A ρ s.H s.nx w) {t : TypeId} {a : AV} {X : Value} (ha : VR w (UU A ρ s.H) ρ a X) {cs : List AV} (hc : cellsOf a = some cs) :
    ∃ x w', (Instr.box t X).run P w = .ok x w' ∧ Post A ρ s w (.ptr s.nx 0) (s.add (.box cs)) x w' := by
  refine ⟨_, _, ?_, snd_newBox (e := t) hr (VRs_cells hc ha)⟩
  simp only [Instr.box, Sem.run_bind, newVar, newRow, run_newObj, Result.andThen_ok, Sem.run_pure]
  rfl
end
end Go.Proofs.Ytcmejocmohohpaa.R

/- What is read of a value as it is now; what is written at a place. -/
set_option linter.unusedVariables false
set_option linter.unusedSectionVars false
set_option linter.unusedSimpArgs false
noncomputable section
namespace Go.Proofs.Ytcmejocmohohpaa.R
open Go
mutual
theorem leakV_leaked : ∀ (v : AV) (H : Heap), Leaked H (leakV H v)
  | .own es id off len ex, H => by simp only [leakV]; exact Leaked.at _ _ _
  | .agg cs, H => by simp only [leakV]; exact leakVs_leaked cs H
  | .tup cs, H => by simp only [leakV]; exact leakVs_leaked cs H
  | .bad, H => by simp only [leakV]; exact Leaked.refl _
  | .un, H => by simp only [leakV]; exact Leaked.refl _
  | .bool _, H => by simp only [leakV]; exact Leaked.refl _
  | .int _ _, H => by simp only [leakV]; exact Leaked.refl _
  | .str _, H => by simp only [leakV]; exact Leaked.refl _
  | .nil, H => by simp only [leakV]; exact Leaked.refl _
  | .oth _, H => by simp only [leakV]; exact Leaked.refl _
  | .imm _ _ _, H => by simp only [leakV]; exact Leaked.refl _
  | .ptr _ _, H => by simp only [leakV]; exact Leaked.refl _
  | .eptr _ _ _, H => by simp only [leakV]; exact Leaked.refl _
  | .iptr _ _, H => by simp only [leakV]; exact Leaked.refl _
  | .fn _ _ _, H => by simp only [leakV]; exact Leaked.refl _
theorem leakVs_leaked : ∀ (vs : List AV) (H : Heap), Leaked H (leakVs H vs)
  | [], H => by simp only [leakVs]; exact Leaked.refl _
  | v :: r, H => by simp only [leakVs]; exact (leakV_leaked v H).trans (leakVs_leaked r _)
end
/-- How much of an array is read elsewhere, at least. -/
def LeakGe (H : Heap) (id n : Nat) : Prop := ∀ es rows leak, lk H id = some (.arr es rows leak) → n ≤ leak
theorem LeakGe.leak {H H' : Heap} {id n : Nat} (h : LeakGe H id n) (hl : Leaked H H') : LeakGe H' id n := by
  intro es rows leak hk
  obtain ⟨o, m, h1, h2⟩ := hl.back _ _ hk
  cases o with
  | box c => simp [leakOb] at h2
  | arr es' rows' leak' =>
    simp only [leakOb, Ob.arr.injEq] at h2
    obtain ⟨rfl, rfl, rfl⟩ := h2
    exact Nat.le_trans (h _ _ _ h1) (Nat.le_max_left _ _)
theorem LeakGe.at (H : Heap) (id n : Nat) : LeakGe (leakAt H id n) id n := by
  intro es rows leak hk
  rw [lk_leakAt] at hk
  cases h : lk H id with
  | none => simp [h] at hk
  | some o =>
    simp only [h, Option.map_some, if_true, Option.some.injEq] at hk
    cases o with
    | box c => simp [leakOb] at hk
    | arr es' rows' leak' =>
      simp only [leakOb, Ob.arr.injEq] at hk
      obtain ⟨rfl, rfl, rfl⟩ := hk
      exact Nat.le_max_right _ _
section
variable {P : Program} {w : World} {A : Nat → Nat → Prop} {ρ : Rho} {H H' : Heap} {nx : Nat}
theorem Stay_leak (hl : Leaked H H') : Stay w (UU A ρ H) w (UU A ρ H') := Stay.less fun b o hu => hu.imp_right (Wr_leak hl)
/-- A slice of one's own, read as it is now. -/
theorem own_imm (hr : Rep A ρ H nx w) (hl : Leaked H H') {es id off len : Nat} {ex ex' : Bool} {rows : List (List AV)} {es' leak : Nat} (hid : lk H id = some (.arr es' rows leak)) (hle : off + len ≤ rows.length) (hge : LeakGe H' id (off + len)) (hex : ex' = true → ex = true)
    {U : Nat → Nat → Prop} {x : Value} (h : VR w U ρ (.own es id off len ex) x) : VR w (UU A ρ H') noRho (.imm es ((rows.drop off).take len) ex') x := by
  simp only [VR] at h ⊢
  obtain ⟨B, c, rfl, h2, h3, h4⟩ := h
  have hlen : ((rows.drop off).take len).length = len := by rw [List.length_take, List.length_drop]; omega
  refine ⟨B, c, by rw [hlen], by omega, fun he => by rw [hlen]; exact h3 (hex he), ?_⟩
  rcases h4 with ⟨rfl, rfl⟩ | ⟨b, C, e, fr, h5, rfl, h6, h7⟩
  · left; simp
  · right
    refine ⟨b, off * es, rfl, ?_⟩
    refine RWs_mk fun i r hi => ?_
    rw [List.getElem?_take] at hi
    split at hi
    · rename_i hilt
      rw [List.getElem?_drop] at hi
      obtain ⟨_, _, C0, e0, fr0, q1, q2, q3⟩ := hr.ob id _ b es hid h5
      obtain ⟨g1, q4, q5, q6⟩ := ARs_get q3 hi
      refine ⟨g1, CLs_mk fun j a hj => ?_⟩
      obtain ⟨v, g3', g4⟩ := VRs_get q5 hj
      have hone := q6 v (List.mem_of_getElem? g3')
      have hjlt : j < es := by
        rw [← g1]
        rcases Nat.lt_or_ge j r.length with hl | hl
        · exact hl
        · rw [List.getElem?_eq_none hl] at hj; cases hj
      have hadd : off * es + i * es + j = (off + i) * es + j := by rw [Nat.add_mul]
      have g3 : w.cell? ⟨b, (off + i) * es + j, none⟩ = some v := by
        rw [List.getElem?_take, if_pos hjlt, List.getElem?_drop, Array.getElem?_toList] at g3'
        rw [cell_of_block q1]; exact g3'
      refine ⟨v, by rw [hadd]; exact g3, ?_, hone, ?_⟩
      · rw [hadd]
        rintro (ha | ⟨id', es2, ob, k1, k2, k3⟩)
        · exact hr.apart id _ b es _ hid h5 ha
        · obtain ⟨o2, m, k4, rfl⟩ := hl.back _ _ k1
          have := hr.inj id' id o2 _ b es2 es k4 hid k2 h5
          subst this
          rw [hid] at k4
          obtain rfl := Option.some.inj k4
          rw [h5] at k2
          simp only [Option.some.injEq, Prod.mk.injEq] at k2
          obtain ⟨_, rfl⟩ := k2
          simp only [leakOb, wrOb] at k3
          have := hge _ _ _ k1
          have h8 : (off + len) * es ≤ max leak m * es := Nat.mul_le_mul_right _ this
          have h9 : (off + i + 1) * es ≤ (off + len) * es := Nat.mul_le_mul_right _ (by omega)
          rw [Nat.succ_mul] at h9
          omega
      · refine VR_mono (Stay.less fun b o hu => ?_) a v noRho noRho (Ext.refl _) g4
        exact hu.imp_right (Wr_leak hl)
    · cases hi
mutual
/-- Read as it is now, with what was read protected. -/
theorem VR_frz (hr : Rep A ρ H nx w) : ∀ (v : AV) (H1 : Heap), Leaked H H1 → ∀ (H' : Heap), Leaked (leakV H1 v) H' → ∀ x, VR w (UU A ρ H) ρ v x → VR w (UU A ρ H') noRho (frz H v) x
  | .own es id off len ex, H1, hl1, H', hl, x, h => by
    simp only [frz, leakV] at hl ⊢
    split
    · rename_i es' rows leak hid
      split
      · rename_i hle
        refine VR_canI (own_imm (ex' := false) hr ((hl1.trans (Leaked.at _ _ _)).trans hl) hid hle ?_ (by simp) h)
        exact (LeakGe.at _ _ _).leak hl
      · simp [VR]
    · simp [VR]
  | .agg cs, H1, hl1, H', hl, x, h => by
    simp only [frz, leakV, VR] at hl h ⊢
    obtain ⟨xs, h1, h2⟩ := h
    exact ⟨xs, h1, VRs_frz hr cs H1 hl1 H' hl _ h2⟩
  | .tup cs, H1, hl1, H', hl, x, h => by
    simp only [frz, leakV, VR] at hl h ⊢
    obtain ⟨xs, h1, h2⟩ := h
    exact ⟨xs, h1, VRs_frz hr cs H1 hl1 H' hl _ h2⟩
  | .imm es rows ex, H1, hl1, H', hl, x, h => by
    simp only [frz, leakV] at hl ⊢
    have := VR_mono (Stay_leak (hl1.trans hl)) (.imm es rows ex) x ρ ρ (Ext.refl _) h
    refine VR_canI (es := es) (ex := ex) ?_
    simpa [VR] using this
  | .iptr row f, H1, hl1, H', hl, x, h => by
    simp only [frz, leakV] at hl ⊢
    have := VR_mono (Stay_leak (hl1.trans hl)) (.iptr row f) x ρ ρ (Ext.refl _) h
    simpa [VR] using this
  | .ptr _ _, H1, hl1, H', hl, x, h => by simp [frz, VR]
  | .eptr _ _ _, H1, hl1, H', hl, x, h => by simp [frz, VR]
  | .fn _ _ _, H1, hl1, H', hl, x, h => by simp [frz, VR]
  | .bad, H1, hl1, H', hl, x, h => by simp [frz, VR]
  | .un, H1, hl1, H', hl, x, h => by simpa [frz, VR] using h
  | .bool _, H1, hl1, H', hl, x, h => by simpa [frz, VR] using h
  | .int _ _, H1, hl1, H', hl, x, h => by simpa [frz, VR] using h
  | .str _, H1, hl1, H', hl, x, h => by simpa [frz, VR] using h
  | .nil, H1, hl1, H', hl, x, h => by
    simp only [frz]
    exact VR_nilI (ρ := ρ) (by simpa [VR] using h)
  | .oth _, H1, hl1, H', hl, x, h => by simpa [frz, VR] using h
theorem VRs_frz (hr : Rep A ρ H nx w) : ∀ (vs : List AV) (H1 : Heap), Leaked H H1 → ∀ (H' : Heap), Leaked (leakVs H1 vs) H' → ∀ xs, VRs w (UU A ρ H) ρ vs xs → VRs w (UU A ρ H') noRho (frzs H vs) xs
  | [], H1, hl1, H', hl, xs, h => by simpa [frzs, VRs] using h
  | v :: r, H1, hl1, H', hl, xs, h => by
    simp only [frzs, leakVs, VRs] at hl h ⊢
    obtain ⟨x, q, h1, h2, h3⟩ := h
    exact ⟨x, q, h1, VR_frz hr v H1 hl1 H' ((leakVs_leaked r _).trans hl) x h2, VRs_frz hr r (leakV H1 v) (hl1.trans (leakV_leaked v H1)) H' hl q h3⟩
end

/-! ### Writing -/
theorem run_storeVar {t : TypeId} {x : TI} (ht : tyOf P t = some x) {b o : Nat} {X : Value} (hs : X.cells.size = x.size) (h1 : ∀ y ∈ X.cells.toList, oneB y = true) {C : Array Value} {e : TypeId} {fr : Nat × Nat} (hb : w.heap[b]? = some (Obj.cells C e fr)) (hu : unfr fr C.size)
    (hle : o + x.size ≤ C.size) : (Instr.storeAt t (.pointer (some ⟨b, o, none⟩)) X).run P w = .ok () (w.setCells b o X.cells.toList) := by
  have hne : ¬ (X.cells.size ≠ x.size) := by simp [hs]
  have hst := run_storeCells_cells (P := P) b o X.cells.toList 0 w (fun j hj => by
      rw [cell_of_block hb]
      simp at hj ⊢; omega) (fun j hj => frozen_of_block hb hu (by simp at hj; omega)) (fun v hv => oneCell_of_oneB (h1 v hv))
  simp only [Nat.add_zero] at hst
  simp only [Instr.storeAt, Instr.sureAddr, Sem.run_bind, Sem.run_pure, Result.andThen_ok, storeVar, run_sizeOf' ht, Sem.run_ite, if_neg hne]
  exact hst
theorem snd_store {s : St} (hr : Rep A ρ s.H s.nx w) {t : TypeId} {ti : TI} (ht : tyOf P t = some ti) {p v : AV} {p' X : Value} (hp : VR w (UU A ρ s.H) ρ p p') (hv : VR w (UU A ρ s.H) ρ v X) {H' : Heap} (h : storeH ti.size s.H p v = some H') :
    ∃ w', (Instr.storeAt t p' X).run P w = .ok () w' ∧ Post A ρ s w .un (s.setH H') undef w' := by
  unfold storeH at h
  split at h
  · rename_i id off
    split at h
    · rename_i cells vs hid hvs
      split at h
      · rename_i hc
        obtain ⟨c1, c2, c3⟩ := hc
        simp only [VR] at hp
        obtain ⟨b, es, hρ, rfl⟩ := hp
        obtain ⟨C, e, fr, hb, hu, hC⟩ := hr.ob id _ b es hid hρ
        have hX := VRs_cells hvs hv
        have hlx := VRs_length hX
        have hlc := VRs_length hC
        have hxs : X.cells.toList.length = X.cells.size := by simp
        have hcs : C.toList.length = C.size := by simp
        have hrun := run_storeVar (P := P) (w := w) ht (o := off) (X := X) (by omega) (VRs_one c3 hX) hb hu (by omega)
        refine ⟨_, hrun, rfl, rfl, ρ, ?_⟩
        obtain ⟨k1, k2, k3, k4, k5, k6⟩ := setCells_heap b e fr X.cells.toList off w C hb
        obtain ⟨hfr, hrep⟩ := blk_update (H' := H') (ob' := .box (setAt cells off vs)) hr hid hρ hb k1 k2 k3 k4 k5 k6 (putV_size _ _ _) (fun o ho => absurd trivial ho) (fun k => lk_upd h k) (fun _ _ => trivial)
        refine ⟨hrep ⟨_, e, fr, k1, by rw [putV_size]; exact hu, ?_⟩, by simp [VR], Ext2.refl _ _, hfr⟩
        exact VRs_putV (VRs_mono hfr.stay _ _ ρ ρ (Ext.refl _) hC) (VRs_mono hfr.stay _ _ ρ ρ (Ext.refl _) hX) c2
      · cases h
    · cases h
  · rename_i id i f
    split at h
    · rename_i vs es' rows leak hvs hid
      split at h
      · rename_i row hrow
        split at h
        · rename_i hc
          obtain ⟨c1, c2, c3, c4, c5⟩ := hc
          simp only [VR] at hp
          obtain ⟨b, es, hρ, rfl⟩ := hp
          have hl := leakV_leaked v s.H
          have hr1 := Rep_leak hr hl
          obtain ⟨h0, hz, C, e, fr, hb, hu, hC⟩ := hr1.ob id _ b es hid hρ
          have hV := VR_frz hr v s.H (Leaked.refl _) (leakV s.H v) (Leaked.refl _) X hv
          have hX := VRs_cells hvs hV
          have hlx := VRs_length hX
          have hxs : X.cells.toList.length = X.cells.size := by simp
          have hcs : C.toList.length = C.size := by simp
          obtain ⟨g1, g2, g3, g4⟩ := ARs_get hC hrow
          have hle : i * es + f + ti.size ≤ C.size := by
            rw [Nat.succ_mul] at g2; omega
          have hrun := run_storeVar (P := P) (w := w) ht (o := i * es + f) (X := X) (by omega) (VRs_one c5 hX) hb hu hle
          refine ⟨_, hrun, rfl, rfl, ρ, ?_⟩
          obtain ⟨k1, k2, k3, k4, k5, k6⟩ := setCells_heap b e fr X.cells.toList (i * es + f) w C hb
          have hwrite : ∀ o, ¬ wrOb es o (.arr es' rows leak) → (putV C (i * es + f) X.cells.toList)[o]? = C[o]? := by
            intro o ho
            rw [putV_get, if_neg]
            intro hh
            apply ho
            simp only [wrOb]
            have : leak * es ≤ i * es := Nat.mul_le_mul_right _ c3
            omega
          obtain ⟨hfr, hrep⟩ := blk_update (H' := H') (ob' := .arr es' (rows.set i (setAt row f vs)) leak) hr1 hid hρ hb k1 k2 k3 k4 k5 k6 (putV_size _ _ _) hwrite (fun k => lk_upd h k) (fun _ hh => hh)
          refine ⟨hrep ⟨h0, hz, _, e, fr, k1, by rw [putV_size]; exact hu, ?_⟩, by simp [VR], Ext2.refl _ _, (Fr_less fun b o => Wr_leak hl).trans hfr⟩
          refine ARs_mk fun j r hj => ?_
          have hclen : (putV C (i * es + f) X.cells.toList).toList.length = C.size := by simp [putV_size]
          by_cases hij : i = j
          · subst hij
            have hlt : i < rows.length := by
              rcases Nat.lt_or_ge i rows.length with hl | hl
              · exact hl
              · rw [List.getElem?_eq_none hl] at hrow; cases hrow
            rw [List.getElem?_set_self hlt] at hj
            obtain rfl := Option.some.inj hj
            refine ⟨by rw [setAt_length]; exact g1, by rw [hclen]; rw [hcs] at g2; exact g2, ?_, ?_⟩
            rotate_left
            · intro x hx
              obtain ⟨q, hq⟩ := List.mem_iff_getElem?.1 hx
              rw [List.getElem?_take] at hq
              split at hq
              · rename_i hqlt
                rw [List.getElem?_drop, Array.getElem?_toList, putV_get] at hq
                split at hq
                · exact VRs_one c5 hX x (List.mem_of_getElem? hq)
                · refine g4 x (List.mem_of_getElem? (i := q) ?_)
                  rw [List.getElem?_take, if_pos hqlt, List.getElem?_drop, Array.getElem?_toList]
                  exact hq
              · cases hq
            refine VRs_of_get ?_ fun q a hq => ?_
            · rw [setAt_length, List.length_take, List.length_drop, hclen]
              rw [Nat.succ_mul] at g2; omega
            · have hqlt : q < es := by
                have : q < (setAt row f vs).length := by
                  rcases Nat.lt_or_ge q (setAt row f vs).length with hl | hl
                  · exact hl
                  · rw [List.getElem?_eq_none hl] at hq; cases hq
                rw [setAt_length] at this; omega
              rw [List.getElem?_take, if_pos hqlt, List.getElem?_drop, Array.getElem?_toList, putV_get]
              rw [setAt_get] at hq
              split at hq
              · rename_i hcond
                rw [if_pos (by rw [Nat.succ_mul] at g2; omega)]
                obtain ⟨x, q1, q2⟩ := VRs_get hX hq
                exact ⟨x, by rw [show i * es + q - (i * es + f) = q - f by omega]; exact q1, VR_mono hfr.stay _ _ _ _ (Ext.refl _) q2⟩
              · rename_i hcond
                rw [if_neg (by omega)]
                obtain ⟨x, q1, q2⟩ := VRs_get g3 hq
                rw [List.getElem?_take, if_pos hqlt, List.getElem?_drop, Array.getElem?_toList] at q1
                exact ⟨x, q1, VR_mono hfr.stay _ _ _ _ (Ext.refl _) q2⟩
          · rw [List.getElem?_set_ne hij] at hj
            obtain ⟨q1, q2, q3, q4⟩ := ARs_get hC hj
            refine ⟨q1, by rw [hclen]; rw [hcs] at q2; exact q2, ?_⟩
            have heq : ((putV C (i * es + f) X.cells.toList).toList.drop (j * es)).take es = (C.toList.drop (j * es)).take es := by
              apply List.ext_getElem?
              intro q
              rw [List.getElem?_take, List.getElem?_take]
              split
              · rename_i hqlt
                rw [List.getElem?_drop, List.getElem?_drop, Array.getElem?_toList, Array.getElem?_toList, putV_get, if_neg]
                intro hh
                rcases Nat.lt_or_gt_of_ne hij with hlt | hlt
                · have : (i + 1) * es ≤ j * es := Nat.mul_le_mul_right _ hlt
                  rw [Nat.succ_mul] at this; omega
                · have : (j + 1) * es ≤ i * es := Nat.mul_le_mul_right _ hlt
                  rw [Nat.succ_mul] at this; omega
              · rfl
            rw [heq]
            exact ⟨VRs_mono hfr.stay _ _ _ _ (Ext.refl _) q3, q4⟩
        · cases h
      · cases h
    · cases h
  · cases h
end
end Go.Proofs.Ytcmejocmohohpaa.R

/- Arrays: made, appended to, copied. -/
set_option linter.unusedVariables false
set_option linter.unusedSectionVars false
set_option linter.unusedSimpArgs false
noncomputable section
namespace Go.Proofs.Ytcmejocmohohpaa.R
open Go
theorem Post.pre {A : Nat → Nat → Prop} {ρ : Rho} {s s' : St} {w w1 w' : World} {v : AV} {x : Value} (h : SameMem w w1) (hp : Post A ρ s w1 v s' x w') : Post A ρ s w v s' x w' := by
  obtain ⟨h1, h2, ρ', h3, h4, h5, h6⟩ := hp
  exact ⟨h1, h2, ρ', h3, h4, h5, (h.fr ρ s.H).trans h6⟩
section
variable {P : Program} {w : World} {A : Nat → Nat → Prop} {U : Nat → Nat → Prop} {ρ : Rho}
theorem ARs_app {es : Nat} {rows : List (List AV)} {C D : List Value} (h : ARs w U es rows C) : ARs w U es rows (C ++ D) := by
  refine ARs_mk fun i r hi => ?_
  obtain ⟨g1, g2, g3, g4⟩ := ARs_get h hi
  rw [Nat.succ_mul] at g2 ⊢
  have : ((C ++ D).drop (i * es)).take es = (C.drop (i * es)).take es := by
    rw [List.drop_append_of_le_length (by omega), List.take_append_of_le_length (by rw [List.length_drop]; omega)]
  rw [this]
  exact ⟨g1, by rw [List.length_append]; omega, g3, g4⟩
theorem ARs_append {es : Nat} : ∀ {rows rows' : List (List AV)} {C D : List Value}, ARs w U es rows C → C.length = rows.length * es → ARs w U es rows' D → ARs w U es (rows ++ rows') (C ++ D)
  | [], rows', C, D, h, hl, h' => by
    have : C = [] := List.eq_nil_of_length_eq_zero (by simpa using hl)
    subst this
    simpa using h'
  | r :: rs, rows', C, D, h, hl, h' => by
    simp only [ARs, List.cons_append] at h ⊢
    obtain ⟨h1, h2, h3, h4⟩ := h
    simp only [List.length_cons, Nat.succ_mul] at hl
    have ht : (C ++ D).take es = C.take es := List.take_append_of_le_length h2
    refine ⟨h1, by rw [List.length_append]; omega, by rw [ht]; exact h3, ?_⟩
    rw [List.drop_append_of_le_length h2]
    exact ARs_append h4 (by rw [List.length_drop]; omega) h'
/-- Rows that lie from a place on. -/
def RowsAt (w : World) (U : Nat → Nat → Prop) (es : Nat) (rows : List (List AV)) (b o : Nat) : Prop :=
  ∀ (i : Nat) (r : List AV), rows[i]? = some r → r.length = es ∧ ∀ (j : Nat) (a : AV), r[j]? = some a → ∃ v, w.cell? ⟨b, o + i * es + j, none⟩ = some v ∧ oneB v = true ∧ VR w U noRho a v
theorem cells_list {b : Nat} : ∀ {as : List AV} {o : Nat}, (∀ (j : Nat) (a : AV), as[j]? = some a → ∃ v, w.cell? ⟨b, o + j, none⟩ = some v ∧ oneB v = true ∧ VR w U noRho a v) →
    ∃ cs, VRs w U noRho as cs ∧ (∀ x ∈ cs, oneB x = true) ∧ ∀ (j : Nat) (v : Value), cs[j]? = some v → w.cell? ⟨b, o + j, none⟩ = some v
  | [], o, h => ⟨[], by simp [VRs], by simp, by simp⟩
  | a :: as, o, h => by
    obtain ⟨v, h1, h0, h2⟩ := h 0 a rfl
    obtain ⟨cs, h3, h5, h4⟩ := cells_list (as := as) (o := o + 1) (fun j a' hj => by
      obtain ⟨v, g1, g2⟩ := h (j + 1) a' (by simpa using hj)
      exact ⟨v, by rw [show o + 1 + j = o + (j + 1) by omega]; exact g1, g2⟩)
    refine ⟨v :: cs, by simp only [VRs]; exact ⟨v, cs, rfl, h2, h3⟩, ?_, fun j v' hj => ?_⟩
    · intro x hx
      rcases List.mem_cons.1 hx with rfl | hx
      · exact h0
      · exact h5 x hx
    · cases j with
      | zero => simp at hj; subst hj; exact h1
      | succ j => simp at hj; rw [show o + (j + 1) = o + 1 + j by omega]; exact h4 j v' hj
theorem RowsAt.list {es b : Nat} : ∀ {rows : List (List AV)} {o : Nat}, RowsAt w U es rows b o → ∃ cs, cs.length = rows.length * es ∧ ARs w U es rows cs ∧ ∀ (j : Nat) (v : Value), cs[j]? = some v → w.cell? ⟨b, o + j, none⟩ = some v
  | [], o, h => ⟨[], by simp, by simp [ARs], by simp⟩
  | r :: rs, o, h => by
    obtain ⟨h1, h2⟩ := h 0 r rfl
    obtain ⟨cs, g1, g2, g3⟩ := cells_list (as := r) (o := o) (fun j a hj => by simpa using h2 j a hj)
    have hl := VRs_length g1
    obtain ⟨ds, k1, k2, k3⟩ := RowsAt.list (rows := rs) (o := o + es) (fun i r' hi => by
      obtain ⟨q1, q2⟩ := h (i + 1) r' (by simpa using hi)
      refine ⟨q1, fun j a hj => ?_⟩
      obtain ⟨v, q3⟩ := q2 j a hj
      exact ⟨v, by rw [show o + es + i * es + j = o + (i + 1) * es + j by rw [Nat.succ_mul]; omega]; exact q3⟩)
    refine ⟨cs ++ ds, ?_, ?_, ?_⟩
    · rw [List.length_append, k1, List.length_cons, Nat.succ_mul]; omega
    · simp only [ARs]
      have ht : (cs ++ ds).take es = cs := by rw [List.take_append_of_le_length (by omega)]; exact List.take_of_length_le (by omega)
      have hd : (cs ++ ds).drop es = ds := by rw [← h1, hl]; exact List.drop_left
      exact ⟨h1, by rw [List.length_append]; omega, by rw [ht]; exact ⟨g1, g2⟩, by rw [hd]; exact k2⟩
    · intro j v hj
      rw [List.getElem?_append] at hj
      split at hj
      · exact g3 j v hj
      · rename_i hjl
        have := k3 _ v hj
        rwa [show o + es + (j - cs.length) = o + j by omega] at this
theorem RowsAt_imm {es b o : Nat} {rows : List (List AV)} (h : RWs w U rows b o es) : RowsAt w U es rows b o := fun i r hi => by
  obtain ⟨h1, h2⟩ := RWs_get h hi
  refine ⟨h1, fun j a hj => ?_⟩
  obtain ⟨v, g1, g2, g3, g4⟩ := CLs_get h2 hj
  exact ⟨v, g1, g3, g4⟩
theorem RowsAt_own {H : Heap} {nx : Nat} (hr : Rep A ρ H nx w) {id b es es' leak : Nat} {rows : List (List AV)} (hid : lk H id = some (.arr es' rows leak)) (hρ : ρ id = some (b, es)) (off len : Nat) : RowsAt w (UU A ρ H) es ((rows.drop off).take len) b (off * es) := fun i r hi => by
  obtain ⟨_, _, C, e, fr, q1, q2, q3⟩ := hr.ob id _ b es hid hρ
  rw [List.getElem?_take] at hi
  split at hi
  · rw [List.getElem?_drop] at hi
    obtain ⟨g1, g2, g3, g4⟩ := ARs_get q3 hi
    refine ⟨g1, fun j a hj => ?_⟩
    obtain ⟨v, k1, k2⟩ := VRs_get g3 hj
    have k3 := g4 v (List.mem_of_getElem? k1)
    rw [List.getElem?_take] at k1
    split at k1
    · rw [List.getElem?_drop, Array.getElem?_toList] at k1
      refine ⟨v, ?_, k3, k2⟩
      rw [cell_of_block q1, show off * es + i * es + j = (off + i) * es + j by rw [Nat.add_mul]]
      exact k1
    · cases k1
  · cases hi
/-- What is appended or copied: its elements' cells. -/
theorem src_spec {H : Heap} {nx : Nat} (hr : Rep A ρ H nx w) {es : Nat} {a : AV} {X : Value} {rows : List (List AV)} (ha : VR w (UU A ρ H) ρ a X) (h : srcRows es H a = some rows) :
    ∃ cs : List Value, cs.length = rows.length * es ∧ ARs w (UU A ρ H) es rows cs ∧ (∀ w', (Builtin.lenOf X).run P w' = .ok rows.length w') ∧
      ∀ w', w'.heap = w.heap → ∀ n, n ≤ rows.length → (Builtin.firstCells es n X).run P w' = .ok (cs.take (n * es)).toArray w' := by
  have mem : ∀ (b o : Nat) (cs : List Value), (∀ (j : Nat) (v : Value), cs[j]? = some v → w.cell? ⟨b, o + j, none⟩ = some v) → cs.length = rows.length * es → ∀ len c w', w'.heap = w.heap → ∀ n, n ≤ rows.length →
      (Builtin.firstCells es n (.slice (some ⟨b, o, none⟩) len c)).run P w' = .ok (cs.take (n * es)).toArray w' := by
    intro b o cs hcs hl len c w' hw n hn
    refine run_firstCells_some w' es n ⟨b, o, none⟩ len c (cs.take (n * es)) ?_ ?_
    · rw [List.length_take, hl]
      exact Nat.min_eq_left (Nat.mul_le_mul_right _ hn)
    · intro j v hj
      rw [List.getElem?_take] at hj
      split at hj
      · rw [add_off]
        have := hcs j v hj
        unfold World.cell? at this ⊢
        rw [hw]; exact this
      · cases hj
  cases a with
  | nil =>
    simp only [srcRows, rowsOf, Option.some.injEq] at h
    subst h
    simp only [VR] at ha
    subst ha
    refine ⟨[], by simp, by simp [ARs], fun w' => rfl, fun w' _ n hn => ?_⟩
    have : n = 0 := by simpa using hn
    subst this
    simp [run_firstCells_none]
  | str s =>
    simp only [srcRows] at h
    split at h
    · rename_i he
      subst he
      simp only [Option.some.injEq] at h
      subst h
      simp only [VR] at ha
      subst ha
      refine ⟨s.data.toList.map fun b => .int .u8 b.toNat, by simp [byteRows], ?_, fun w' => ?_, fun w' _ n hn => ?_⟩
      · refine ARs_mk fun i r hi => ?_
        simp only [byteRows, List.getElem?_map, Option.map_eq_some_iff] at hi
        obtain ⟨b, hb, rfl⟩ := hi
        have hlt : i < s.data.toList.length := by
          rcases Nat.lt_or_ge i s.data.toList.length with hl | hl
          · exact hl
          · rw [List.getElem?_eq_none hl] at hb; cases hb
        have hd : ((s.data.toList.map fun b => Value.int .u8 b.toNat).drop (i * 1)).take 1 = [.int .u8 b.toNat] := by
          rw [Nat.mul_one, List.drop_eq_getElem_cons (by simpa using hlt)]
          rw [List.getElem?_eq_getElem hlt] at hb
          simp only [Option.some.injEq] at hb
          simp [hb]
        rw [hd]
        refine ⟨rfl, by simp at hlt ⊢; omega, ?_, ?_⟩
        · simp [byteRow, VRs, VR]
        · simp [oneB]
      · simp [Builtin.lenOf, byteRows]
      · simp only [byteRows, List.length_map, Array.length_toList] at hn
        simp only [Builtin.firstCells, Sem.run_pure, Nat.mul_one, Result.ok.injEq, and_true]
        apply Array.ext'
        simp [ByteArray.extract, List.map_take]
        rw [ByteArray.copySlice]
        simp
    · cases h
  | imm es' rows' ex =>
    simp only [srcRows, rowsOf] at h
    split at h
    · rename_i he
      have he := esFit_or he
      simp only [Option.some.injEq] at h
      subst h
      simp only [VR] at ha
      obtain ⟨B, c, rfl, g1, g2, g3⟩ := ha
      have g3 : rows' = [] ∨ ∃ b o, B = some ⟨b, o, none⟩ ∧ RWs w (UU A ρ H) rows' b o es := by
        rcases he with he | he
        · exact .inl he
        · rw [← he]; exact g3
      rcases g3 with rfl | ⟨b, o, rfl, g4⟩
      · refine ⟨[], by simp, by simp [ARs], fun w' => rfl, fun w' _ n hn => ?_⟩
        have : n = 0 := by simpa using hn
        subst this
        cases B with
        | none => simp [run_firstCells_none]
        | some bb => simp [Builtin.firstCells, loadCells, loadCellsFrom]
      · obtain ⟨cs, k1, k2, k3⟩ := (RowsAt_imm g4).list
        exact ⟨cs, k1, k2, fun w' => rfl, mem b o cs k3 k1 _ _⟩
    · cases h
  | own es' id off len ex =>
    simp only [srcRows, rowsOf] at h
    split at h
    · rename_i he
      subst he
      split at h
      · rename_i es2 rows2 leak hid
        split at h
        · rename_i hle
          simp only [Option.some.injEq] at h
          subst h
          have hlen : ((rows2.drop off).take len).length = len := by rw [List.length_take, List.length_drop]; omega
          simp only [VR] at ha
          obtain ⟨B, c, rfl, g1, g2, g3⟩ := ha
          rcases g3 with ⟨rfl, rfl⟩ | ⟨b, C, e, fr, g4, rfl, g5, g6⟩
          · refine ⟨[], by simp, by simp [ARs], fun w' => by simp [Builtin.lenOf], fun w' _ n hn => ?_⟩
            have : n = 0 := by simpa using hn
            subst this
            cases B with
            | none => simp [run_firstCells_none]
            | some bb => simp [Builtin.firstCells, loadCells, loadCellsFrom]
          · obtain ⟨cs, k1, k2, k3⟩ := (RowsAt_own hr hid g4 off len).list
            exact ⟨cs, k1, k2, fun w' => by rw [hlen]; rfl, mem b _ cs k3 k1 _ _⟩
        · cases h
      · cases h
    · cases h
  | _ => simp [srcRows, rowsOf] at h
theorem ARs_one {es : Nat} {rows : List (List AV)} {C : List Value} (h : ARs w U es rows C) (hl : C.length = rows.length * es) : ∀ x ∈ C, oneB x = true := by
  intro x hx
  obtain ⟨k, hk⟩ := List.mem_iff_getElem?.1 hx
  have hlt : k < C.length := by
    rcases Nat.lt_or_ge k C.length with hl | hl
    · exact hl
    · rw [List.getElem?_eq_none hl] at hk; cases hk
  rcases Nat.eq_zero_or_pos es with rfl | hz
  · rw [Nat.mul_zero] at hl; omega
  · have hi : k / es < rows.length := by
      rw [Nat.div_lt_iff_lt_mul hz]; omega
    obtain ⟨g1, g2, g3, g4⟩ := ARs_get h (List.getElem?_eq_getElem hi)
    refine g4 x (List.mem_of_getElem? (i := k % es) ?_)
    rw [List.getElem?_take, if_pos (Nat.mod_lt _ hz), List.getElem?_drop, show k / es * es + k % es = k by rw [Nat.mul_comm]; exact Nat.div_add_mod k es]
    exact hk

/-- A new array. -/
theorem snd_newBlock {s : St} (hr : Rep A ρ s.H s.nx w) {es : Nat} {rows : List (List AV)} (hz : 0 < es) {C : Array Value} {e : TypeId} {fr : Nat × Nat} (hA : ARs w (UU A ρ s.H) es rows C.toList) (hu : unfr fr C.size) {cap : Nat} (hcap : cap * es ≤ C.size) (hle : rows.length ≤ cap)
    {ex : Bool} (hex : ex = true → cap = rows.length) (leak : Nat) :
    Post A ρ s w (.own es s.nx 0 rows.length ex) (s.add (.arr es rows leak)) (.slice (some ⟨w.heap.size, 0, none⟩) rows.length cap) (pushW w (.cells C e fr)) := by
  have hfr := Fr_new hr (.arr es rows leak) C e fr es
  refine ⟨rfl, rfl, putRho ρ s.nx (w.heap.size, es), Rep_new hr ?_, ?_, hr.ext2 _, hfr⟩
  · refine ⟨rfl, hz, C, e, fr, ?_, hu, ARs_mono hfr.stay hA⟩
    simp only [pushW, push_get, if_true]
  · simp only [VR]
    refine ⟨_, cap, rfl, hle, hex, .inr ⟨w.heap.size, C, e, fr, putRho_new _ _ _, by simp, ?_, by simpa using hcap⟩⟩
    simp only [pushW, push_get, if_true]
/-- A slice without elements and room, that lies nowhere. -/
theorem snd_noBlock {s : St} (hr : Rep A ρ s.H s.nx w) (es : Nat) (B : Option Addr) {ex : Bool} (leak : Nat) : Post A ρ s w (.own es s.nx 0 0 ex) (s.add (.arr es [] leak)) (.slice B 0 0) w := by
  obtain ⟨h1, h2⟩ := Rep_none hr (.arr es [] leak)
  refine ⟨rfl, rfl, ρ, h1, ?_, Ext2.more _ _, h2⟩
  simp only [VR]
  exact ⟨B, 0, rfl, by simp⟩

/-! ### append -/
structure AppTy (P : Program) (t t2 : TypeId) (es : Nat) : Prop where
  ex : ∃ e xe x2 z, P.underlying t = some (.slice e) ∧ tyOf P e = some xe ∧ tyOf P t2 = some x2 ∧ zeroCells xe = some z ∧ 0 < xe.size ∧ xe.bytes ≤ 256 ∧ z.length = xe.size ∧ intB x2.desc = false ∧ es = xe.size
theorem zero_size {xe : TI} {z : List AV} (hz : zeroCells xe = some z) : ∃ zv, xe.zero = some zv ∧ zv.cells.size = z.length := by
  obtain ⟨zv, h1, _, h2⟩ := zeroCells_spec hz
  have := VRs_length (h2 (w := default) (U := fun _ _ => False) (ρ := noRho))
  exact ⟨zv, h1, by simpa using this.symm⟩
/-- There is room: the cells behind are written. -/
theorem run_app_room {t t2 ty : TypeId} {es : Nat} (hT : AppTy P t t2 es) {B : Option Addr} {n c m : Nat} {X : Value} {news : List Value} (hl : ∀ w', (Builtin.lenOf X).run P w' = .ok m w') (hf : (Builtin.firstCells es m X).run P w = .ok news.toArray w) (hroom : n + m ≤ c)
    {w' : World} (hst : (match B with | some a => storeCells (a.add (n * es)) news | none => pure () : Sem Unit).run P w = .ok () w') :
    (Builtin.append_ #[t, t2] ty #[.slice B n c, X]).run P w = .ok (.slice B (n + m) c) w' := by
  obtain ⟨e, xe, x2, z, h1, h2, h3, h4, h5, h6, h7, h8, rfl⟩ := hT.ex
  have hu2 := run_underlying' h3
  simp only [Builtin.append_, List.getElem?_toArray, List.getElem?_cons_zero, List.getElem?_cons_succ, Sem.run_bind, run_underlying h1, Result.andThen_ok, run_sizeOf' h2, hu2, Sem.run_pure]
  split
  · rename_i hd
    rw [hd] at h8
    simp [intB] at h8
  · cases B with
    | none =>
      simp only [Sem.run_pure, Result.ok.injEq, true_and] at hst
      subst hst
      simp [hl, hf, hroom]
    | some a =>
      simp only at hst
      simp [hl, hf, hroom, hst]
/-- There is none: a new array. -/
theorem run_app_grow {t t2 ty : TypeId} {es : Nat} (hT : AppTy P t t2 es) {B : Option Addr} {n c m : Nat} {X : Value} {olds news : List Value} (hl : ∀ w', (Builtin.lenOf X).run P w' = .ok m w')
    (ho : ∀ w', w'.heap = w.heap → (Builtin.firstCells es n (.slice B n c)).run P w' = .ok olds.toArray w') (hf : ∀ w', w'.heap = w.heap → (Builtin.firstCells es m X).run P w' = .ok news.toArray w')
    (hol : olds.length = n * es) (hnl : news.length = m * es) (hg : c < n + m) (hb : n + m ≤ limN) :
    ∃ cap D e, n + m ≤ cap ∧ D.length = (cap - (n + m)) * es ∧
      (Builtin.append_ #[t, t2] ty #[.slice B n c, X]).run P w = .ok (.slice (some ⟨w.heap.size, 0, none⟩) (n + m) cap) (pushW { w with drawn := w.drawn + 1 } (.cells (olds ++ news ++ D).toArray e)) := by
  obtain ⟨e, xe, x2, z, h1, h2, h3, h4, h5, h6, h7, h8, rfl⟩ := hT.ex
  have hu2 := run_underlying' h3
  obtain ⟨_, i, hi1, hi2, hi3, hi4⟩ := tyOf_spec h2
  obtain ⟨zv, hz1, hz2⟩ := zero_size h4
  have hn : ¬ (n + m ≤ c) := by omega
  have hlim : n + m ≤ 549755813888 := hb
  have h63' : ¬ (9223372036854775807 < ((n : Int) + (m : Int))) := by omega
  have hfit := growslice_fits (need := n + m) (old := c) (bytes := i.bytes) hg (by
    have : (n + m) * i.bytes ≤ 549755813888 * 256 := Nat.mul_le_mul hlim (by rw [hi3]; exact h6)
    omega)
  have h48' : ¬ (281474976710656 < Builtin.nextslicecap (n + m) c * i.bytes) := by omega
  have hq : Question.forced (.appendCap (n + m) c e) = false := rfl
  refine ⟨grownCap w (n + m) c e, (Builtin.zeroCells zv.cells (grownCap w (n + m) c e - (n + m))).toList, e, grownCap_ge w (n + m) c e, ?_, ?_⟩
  · rw [Array.length_toList, size_zeroCells, hz2, h7]
  · have ho' := ho w.drew rfl
    have hf' := hf w.drew rfl
    simp only [Builtin.append_, List.getElem?_toArray, List.getElem?_cons_zero, List.getElem?_cons_succ, Sem.run_bind, run_underlying h1, Result.andThen_ok, run_sizeOf' h2, hu2, Sem.run_pure]
    split
    · rename_i hd
      rw [hd] at h8
      simp [intB] at h8
    · simp [hl, typeInfo, zeroValue, hi1, hi4, hz1, hn, h63', h48', Question.forced, ho', hf', newRow, grownCap]
      have hA : (olds.toArray ++ (news.toArray ++ Builtin.zeroCells zv.cells ((Question.appendCap (n + m) c e).cut (w.tape w.drawn (Question.appendCap (n + m) c e)) - (n + m)))) = (olds ++ (news ++ (Builtin.zeroCells zv.cells ((Question.appendCap (n + m) c e).cut (w.tape w.drawn (Question.appendCap (n + m) c e)) - (n + m))).toList)).toArray := by
        apply Array.ext'; simp
      rw [hA]
      rfl
end
end Go.Proofs.Ytcmejocmohohpaa.R

/- append, in all its cases. -/
set_option linter.unusedVariables false
set_option linter.unusedSectionVars false
set_option linter.unusedSimpArgs false
noncomputable section
namespace Go.Proofs.Ytcmejocmohohpaa.R
open Go
section
variable {P : Program} {w : World} {A : Nat → Nat → Prop} {U : Nat → Nat → Prop} {ρ : Rho}
theorem ARs_take {es k : Nat} {rows : List (List AV)} {C : List Value} (h : ARs w U es rows C) (hk : rows.length * es ≤ k) : ARs w U es rows (C.take k) := by
  refine ARs_mk fun i r hi => ?_
  obtain ⟨g1, g2, g3⟩ := ARs_get h hi
  have hlt : i < rows.length := by
    rcases Nat.lt_or_ge i rows.length with hl | hl
    · exact hl
    · rw [List.getElem?_eq_none hl] at hi; cases hi
  have h1 : (i + 1) * es ≤ rows.length * es := Nat.mul_le_mul_right _ hlt
  have : ((C.take k).drop (i * es)).take es = (C.drop (i * es)).take es := by
    rw [List.drop_take, List.take_take]
    congr 1
    rw [Nat.succ_mul] at h1
    omega
  rw [this]
  exact ⟨g1, by rw [List.length_take]; omega, g3⟩
/-- More is forgotten first. -/
theorem Post.sub {s s1 s' : St} {v : AV} {x : Value} {w' : World} (hnx : s1.nx = s.nx) (he : s1.env = s.env) (hl : s1.loc = s.loc) (h : ∀ b o, Wr ρ s1.H b o → Wr ρ s.H b o) (hp : Post A ρ s1 w v s' x w') : Post A ρ s w v s' x w' := by
  obtain ⟨h1, h2, ρ', h3, h4, h5, h6⟩ := hp
  exact ⟨h1.trans he, h2.trans hl, ρ', h3, h4, by rw [← hnx]; exact h5, (Fr_less h).trans h6⟩
/-- A place under another name. -/
theorem Rep_move {H1 H' : Heap} {nx id b es : Nat} {ob : Ob} (hr : Rep A ρ H1 nx w) (hid : lk H1 id = some ob) (hρ : ρ id = some (b, es)) (hH : ∀ k, lk H' k = if k = nx then some ob else if k = id then none else lk H1 k) (hnb : ∀ cells, ob ≠ .box cells) :
    Rep A (putRho ρ nx (b, es)) H' (nx + 1) w ∧ ∀ b' o, Wr (putRho ρ nx (b, es)) H' b' o → Wr ρ H1 b' o := by
  have hw : ∀ b' o, Wr (putRho ρ nx (b, es)) H' b' o → Wr ρ H1 b' o := by
    rintro b' o ⟨i, es', o', g1, g2, g3⟩
    rw [hH] at g1
    by_cases hi : i = nx
    · subst hi
      rw [if_pos rfl] at g1
      obtain rfl := Option.some.inj g1
      rw [putRho_new] at g2
      simp only [Option.some.injEq, Prod.mk.injEq] at g2
      obtain ⟨rfl, rfl⟩ := g2
      exact ⟨id, es, ob, hid, hρ, g3⟩
    · rw [if_neg hi] at g1
      rw [putRho_old hi] at g2
      split at g1
      · cases g1
      · exact ⟨i, es', o', g1, g2, g3⟩
  have old : ∀ k o x, lk H' k = some o → putRho ρ nx (b, es) k = some x → ∃ k', lk H1 k' = some o ∧ ρ k' = some x ∧ ((k = nx ∧ k' = id) ∨ (k ≠ nx ∧ k ≠ id ∧ k' = k)) := by
    intro k o x g1 g2
    rw [hH] at g1
    by_cases hi : k = nx
    · subst hi
      rw [if_pos rfl] at g1
      rw [putRho_new] at g2
      exact ⟨id, by rw [hid]; exact g1, by rw [hρ]; exact g2, .inl ⟨rfl, rfl⟩⟩
    · rw [if_neg hi] at g1
      rw [putRho_old hi] at g2
      split at g1
      · cases g1
      · rename_i hne
        exact ⟨k, g1, g2, .inr ⟨hi, hne, rfl⟩⟩
  refine ⟨?_, hw⟩
  exact
    { ob := fun i o b' es' g1 g2 => by
        obtain ⟨k', h1, h2, _⟩ := old i o _ g1 g2
        exact ObR_mono (Stay.less fun b o hu => hu.imp_right (hw b o)) (hr.ext _) rfl (hr.ob k' o b' es' h1 h2)
      inj := fun i j oi oj b' ei ej g1 g2 g3 g4 => by
        obtain ⟨i', h1, h2, h3⟩ := old i oi _ g1 g3
        obtain ⟨j', h4, h5, h6⟩ := old j oj _ g2 g4
        have := hr.inj i' j' oi oj b' ei ej h1 h4 h2 h5
        rcases h3 with ⟨rfl, rfl⟩ | ⟨a1, a2, rfl⟩ <;> rcases h6 with ⟨rfl, rfl⟩ | ⟨a3, a4, rfl⟩
        · rfl
        · exact absurd this.symm a4
        · exact absurd this a2
        · exact this
      ltH := fun i o g1 => by
        rw [hH] at g1
        by_cases hi : i = nx
        · omega
        · rw [if_neg hi] at g1
          split at g1
          · cases g1
          · have := hr.ltH i o g1; omega
      ltR := fun i x g1 => by
        by_cases hi : i = nx
        · omega
        · rw [putRho_old hi] at g1
          have := hr.ltR i x g1; omega
      ltA := hr.ltA
      apart := fun i o b' es' off g1 g2 => by
        obtain ⟨k', h1, h2, _⟩ := old i o _ g1 g2
        exact hr.apart k' o b' es' off h1 h2 }
/-- A new array, behind a draw. -/
theorem post_grow {s : St} (hr : Rep A ρ s.H s.nx w) {es : Nat} {rows new : List (List AV)} (hz : 0 < es) {olds news D : List Value} {e : TypeId} {cap : Nat} (h1 : ARs w (UU A ρ s.H) es rows olds) (h2 : ARs w (UU A ρ s.H) es new news)
    (hol : olds.length = rows.length * es) (hnl : news.length = new.length * es) (hcap : rows.length + new.length ≤ cap) (hD : D.length = (cap - (rows.length + new.length)) * es) (leak : Nat) :
    Post A ρ s w (.own es s.nx 0 (rows.length + new.length) false) (s.add (.arr es (rows ++ new) leak)) (.slice (some ⟨w.heap.size, 0, none⟩) (rows.length + new.length) cap) (pushW { w with drawn := w.drawn + 1 } (.cells (olds ++ news ++ D).toArray e)) := by
  have hs := SameMem.drawn w (w.drawn + 1)
  have hA : ARs { w with drawn := w.drawn + 1 } (UU A ρ s.H) es (rows ++ new) (olds ++ news ++ D).toArray.toList := by
    rw [List.toList_toArray]
    exact ARs_mono (hs.stay _) (ARs_app (ARs_append h1 hol h2))
  have := snd_newBlock (A := A) (fr := (0, 0)) (e := e) (hs.rep hr) hz hA (unfr_none _) (cap := cap) (ex := false) (by
    simp only [List.size_toArray, List.length_append, hol, hnl, hD, ← Nat.add_mul]
    apply Nat.mul_le_mul_right
    omega) (by simpa using hcap) (by simp) leak
  rw [List.length_append] at this
  exact Post.pre hs this
theorem src_own {es id off len : Nat} {ex : Bool} {H : Heap} {rows : List (List AV)} {leak es' : Nat} (hid : lk H id = some (.arr es' rows leak)) (hle : off + len ≤ rows.length) : srcRows es H (.own es id off len ex) = some ((rows.drop off).take len) := by
  simp [srcRows, rowsOf, hid, hle]
theorem app_empty {s s' : St} (hr : Rep A ρ s.H s.nx w) {t t2 ty : TypeId} {es : Nat} (hT : AppTy P t t2 es) {B : Option Addr} {x v : AV} {X : Value} {new : List (List AV)} (hx : VR w (UU A ρ s.H) ρ x X) (hn : srcRows es s.H x = some new) (h : newArr s es new = some (v, s')) :
    ∃ z w', (Builtin.append_ #[t, t2] ty #[.slice B 0 0, X]).run P w = .ok z w' ∧ Post A ρ s w v s' z w' := by
  obtain ⟨news, k1, k2, k3, k4⟩ := src_spec (P := P) hr hx hn
  unfold newArr at h
  split at h
  · rename_i hlim
    simp only [Option.some.injEq, Prod.mk.injEq] at h
    obtain ⟨rfl, rfl⟩ := h
    have hz : 0 < es := by obtain ⟨e, xe, x2, z, _, _, _, _, h5, _, _, _, rfl⟩ := hT.ex; exact h5
    have hfull : ∀ w', w'.heap = w.heap → (Builtin.firstCells es new.length X).run P w' = .ok news.toArray w' := by
      intro w' hw
      have := k4 w' hw new.length (Nat.le_refl _)
      rwa [List.take_of_length_le (by omega)] at this
    rcases Nat.eq_zero_or_pos new.length with h0 | h0
    · have hnil : new = [] := List.eq_nil_of_length_eq_zero h0
      subst hnil
      have hnews : news = [] := List.eq_nil_of_length_eq_zero (by simpa using k1)
      subst hnews
      refine ⟨_, _, run_app_room (B := B) (n := 0) (c := 0) (w' := w) hT k3 (hfull w rfl) (by simp) ?_, ?_⟩
      · cases B <;> rfl
      · exact snd_noBlock hr es B 0
    · have hempty : ∀ w', w'.heap = w.heap → (Builtin.firstCells es 0 (.slice B 0 0)).run P w' = .ok ([] : List Value).toArray w' := by
        intro w' _
        cases B with
        | none => simp [run_firstCells_none]
        | some a => simp [Builtin.firstCells, loadCells, loadCellsFrom]
      obtain ⟨cap, D, e, g1, g2, g3⟩ := run_app_grow (ty := ty) hT (B := B) (n := 0) (c := 0) k3 hempty hfull (by simp) k1 (by omega) (by omega)
      have := post_grow (D := D) (e := e) (cap := cap) hr (rows := []) (new := new) hz (olds := []) (by simp [ARs]) k2 (by simp) k1 (by simpa using g1) (by simpa using g2) 0
      simp only [List.length_nil, Nat.zero_add, List.nil_append] at this g3
      exact ⟨_, _, g3, this⟩
  · cases h
theorem app_full {s s' : St} (hr : Rep A ρ s.H s.nx w) {t t2 ty : TypeId} {es : Nat} (hT : AppTy P t t2 es) {B : Option Addr} {n c : Nat} {y x v : AV} {X : Value} {rows new : List (List AV)} (hy : VR w (UU A ρ s.H) ρ y (.slice B n c)) (hr1 : srcRows es s.H y = some rows)
    (hx : VR w (UU A ρ s.H) ρ x X) (hn : srcRows es s.H x = some new) (h0 : 0 < new.length) (hc : c = n) (h : newArr s es (rows ++ new) = some (v, s')) :
    ∃ z w', (Builtin.append_ #[t, t2] ty #[.slice B n c, X]).run P w = .ok z w' ∧ Post A ρ s w v s' z w' := by
  obtain ⟨olds, j1, j2, j3, j4⟩ := src_spec (P := P) hr hy hr1
  obtain ⟨news, k1, k2, k3, k4⟩ := src_spec (P := P) hr hx hn
  have hnl : n = rows.length := by
    have := j3 w
    simp only [Builtin.lenOf, Sem.run_pure, Result.ok.injEq, and_true] at this
    exact this
  subst hnl
  subst hc
  unfold newArr at h
  split at h
  · rename_i hlim
    simp only [Option.some.injEq, Prod.mk.injEq] at h
    obtain ⟨rfl, rfl⟩ := h
    rw [List.length_append] at hlim ⊢
    have hz : 0 < es := by obtain ⟨e, xe, x2, z, _, _, _, _, h5, _, _, _, rfl⟩ := hT.ex; exact h5
    have hfull : ∀ w', w'.heap = w.heap → (Builtin.firstCells es new.length X).run P w' = .ok news.toArray w' := by
      intro w' hw
      have := k4 w' hw new.length (Nat.le_refl _)
      rwa [List.take_of_length_le (by omega)] at this
    have hfull2 : ∀ w', w'.heap = w.heap → (Builtin.firstCells es rows.length (.slice B rows.length rows.length)).run P w' = .ok olds.toArray w' := by
      intro w' hw
      have := j4 w' hw rows.length (Nat.le_refl _)
      rwa [List.take_of_length_le (by omega)] at this
    obtain ⟨cap, D, e, g1, g2, g3⟩ := run_app_grow (ty := ty) hT (B := B) (n := rows.length) (c := rows.length) k3 hfull2 hfull j1 k1 (by omega) (by omega)
    exact ⟨_, _, g3, post_grow hr hz j2 k2 j1 k1 g1 g2 0⟩
  · cases h
theorem snd_app {s s' : St} (hr : Rep A ρ s.H s.nx w) {t t2 ty : TypeId} {es : Nat} (hT : AppTy P t t2 es) {y x v : AV} {Y X : Value} (hy : VR w (UU A ρ s.H) ρ y Y) (hx : VR w (UU A ρ s.H) ρ x X) (h : appAV es s y x = some (v, s')) :
    ∃ z w', (Builtin.append_ #[t, t2] ty #[Y, X]).run P w = .ok z w' ∧ Post A ρ s w v s' z w' := by
  unfold appAV at h
  split at h
  · rename_i new hn
    split at h
    · simp only [VR] at hy
      subst hy
      exact app_empty hr hT hx hn h
    · rename_i es' rows ex
      split at h
      · rename_i hc
        obtain ⟨hfit, rfl⟩ := hc
        have hy' := hy
        simp only [VR] at hy
        obtain ⟨B, c, rfl, g1, g2, g3⟩ := hy
        have hcn := g2 trivial
        subst hcn
        split at h
        · rename_i hz
          rw [hz]
          exact app_empty hr hT hx hn h
        · split at h
          · rename_i h0
            exact app_full hr hT hy' (by simp [srcRows, rowsOf, hfit]) hx hn h0 rfl h
          · cases h
      · cases h
    · rename_i es' id off len ex
      split at h
      · rename_i hes
        subst hes
        split at h
        · rename_i es2 rows leak hid
          have hy' := hy
          simp only [VR] at hy
          obtain ⟨B, c, rfl, g1, g2, g3⟩ := hy
          split at h
          · rename_i hex
            subst hex
            have hcn := g2 rfl
            subst hcn
            split at h
            · rename_i hz
              subst hz
              exact app_empty hr hT hx hn h
            · split at h
              · rename_i h0
                exact app_full hr hT hy' (src_own hid h0.2) hx hn h0.1 rfl h
              · cases h
          · split at h
            · rename_i hc
              obtain ⟨rfl, rfl, hleak, hlim⟩ := hc
              simp only [Option.some.injEq, Prod.mk.injEq] at h
              obtain ⟨rfl, rfl⟩ := h
              obtain ⟨news, k1, k2, k3, k4⟩ := src_spec (P := P) hr hx hn
              have hz : 0 < es' := by obtain ⟨e, xe, x2, z, _, _, _, _, h5, _, _, _, rfl⟩ := hT.ex; exact h5
              have hfull : ∀ w', w'.heap = w.heap → (Builtin.firstCells es' new.length X).run P w' = .ok news.toArray w' := by
                intro w' hw
                have := k4 w' hw new.length (Nat.le_refl _)
                rwa [List.take_of_length_le (by omega)] at this
              have hsub : ∀ k o, lk (rmv s.H id) k = some o → lk s.H k = some o := by
                intro k o hk
                rw [lk_rmv] at hk
                split at hk
                · cases hk
                · exact hk
              have hr' : Rep A ρ (s.setH (rmv s.H id)).H (s.setH (rmv s.H id)).nx w := Rep_sub hr hsub
              have hwsub : ∀ b o, Wr ρ (s.setH (rmv s.H id)).H b o → Wr ρ s.H b o := fun b o => Wr_sub hsub
              have hU : Stay w (UU A ρ s.H) w (UU A ρ (s.setH (rmv s.H id)).H) := Stay.less fun b o hu => hu.imp_right (hwsub b o)
              obtain ⟨olds, j1, j2, j3, j4⟩ := src_spec (P := P) hr hy' (src_own hid (by omega))
              have hrows : (rows.drop 0).take rows.length = rows := by simp
              rw [hrows] at j1 j2 j3 j4
              have hfull2 : ∀ w', w'.heap = w.heap → (Builtin.firstCells es' rows.length (.slice B rows.length c)).run P w' = .ok olds.toArray w' := by
                intro w' hw
                have := j4 w' hw rows.length (Nat.le_refl _)
                rwa [List.take_of_length_le (by omega)] at this
              rcases Nat.lt_or_ge c (rows.length + new.length) with hg | hg
              · obtain ⟨cap, D, e, q1, q2, q3⟩ := run_app_grow (ty := ty) hT (B := B) (n := rows.length) (c := c) k3 hfull2 hfull j1 k1 hg hlim
                exact ⟨_, _, q3, Post.sub (s1 := s.setH (rmv s.H id)) rfl rfl rfl hwsub (post_grow hr' hz (ARs_mono hU j2) (ARs_mono hU k2) j1 k1 q1 q2 leak)⟩
              · rcases g3 with ⟨h0, rfl⟩ | ⟨b, C, e, fr, g4, rfl, g5, g6⟩
                · have hn0 : new = [] := List.eq_nil_of_length_eq_zero (by omega)
                  subst hn0
                  have hr0 : rows = [] := List.eq_nil_of_length_eq_zero (by omega)
                  subst hr0
                  have hnews : news = [] := List.eq_nil_of_length_eq_zero (by simpa using k1)
                  subst hnews
                  refine ⟨_, _, run_app_room (B := B) (n := 0) (c := 0) (w' := w) hT k3 (hfull w rfl) (by simp) ?_, ?_⟩
                  · cases B <;> rfl
                  · exact Post.sub (s1 := s.setH (rmv s.H id)) rfl rfl rfl hwsub (snd_noBlock hr' es' B leak)
                · obtain ⟨q1, q2, C', e', fr', q3, q4, q5⟩ := hr.ob id _ b es' hid g4
                  rw [g5] at q3
                  simp only [Option.some.injEq, Obj.cells.injEq] at q3
                  obtain ⟨rfl, rfl, rfl⟩ := q3
                  simp only [Nat.zero_add, Nat.zero_mul] at g6 ⊢
                  have hfit : (rows.length + new.length) * es' ≤ C.size := Nat.le_trans (Nat.mul_le_mul_right _ hg) g6
                  rw [Nat.add_mul] at hfit
                  have hone := ARs_one k2 k1
                  have hst := run_storeCells_cells (P := P) b (rows.length * es') news 0 w (fun j hj => by
                      rw [cell_of_block g5]; simp; omega) (fun j hj => frozen_of_block g5 q4 (by omega)) (fun v hv => oneCell_of_oneB (hone v hv))
                  simp only [Nat.add_zero] at hst
                  refine ⟨_, _, run_app_room (B := some ⟨b, 0, none⟩) (n := rows.length) (c := c) (w' := w.setCells b (rows.length * es') news) hT k3 (hfull w rfl) hg (by simpa [add_off] using hst), rfl, rfl, ?_⟩
                  obtain ⟨u1, u2, u3, u4, u5, u6⟩ := setCells_heap b e fr news (rows.length * es') w C g5
                  have hwrite : ∀ o, ¬ wrOb es' o (.arr es2 rows leak) → (putV C (rows.length * es') news)[o]? = C[o]? := by
                    intro o ho
                    rw [putV_get, if_neg]
                    intro hh
                    apply ho
                    simp only [wrOb]
                    have : leak * es' ≤ rows.length * es' := Nat.mul_le_mul_right _ hleak
                    omega
                  have hH1 : ∀ k, lk ((id, Ob.arr es' (rows ++ new) leak) :: rmv s.H id) k = if k = id then some (.arr es' (rows ++ new) leak) else lk s.H k := by
                    intro k
                    rw [lk_cons, lk_rmv]
                    by_cases hk : id = k
                    · subst hk; simp
                    · have : ¬ k = id := fun e => hk e.symm
                      simp [hk, this]
                  obtain ⟨hfr, hrep⟩ := blk_update (H' := (id, Ob.arr es' (rows ++ new) leak) :: rmv s.H id) (ob' := .arr es' (rows ++ new) leak) hr hid g4 g5 u1 u2 u3 u4 u5 u6 (putV_size _ _ _) hwrite hH1 (fun _ hh => hh)
                  have hlist : (putV C (rows.length * es') news).toList = C.toList.take (rows.length * es') ++ news ++ C.toList.drop (rows.length * es' + news.length) := by
                    apply List.ext_getElem?
                    intro i
                    have hcl : C.toList.length = C.size := by simp
                    rw [Array.getElem?_toList, putV_get]
                    by_cases h1 : i < rows.length * es'
                    · rw [if_neg (by omega), List.append_assoc, List.getElem?_append_left (by rw [List.length_take]; omega), List.getElem?_take, if_pos h1, Array.getElem?_toList]
                    · by_cases h2 : i < rows.length * es' + news.length
                      · rw [if_pos (by omega), List.append_assoc, List.getElem?_append_right (by rw [List.length_take]; omega), List.getElem?_append_left (by rw [List.length_take]; omega), List.length_take, Nat.min_eq_left (by omega)]
                      · rw [if_neg (by omega), List.getElem?_append_right (by rw [List.length_append, List.length_take]; omega), List.getElem?_drop, List.length_append, List.length_take, Nat.min_eq_left (by omega), Array.getElem?_toList]
                        congr 1; omega
                  have hrep1 := hrep ⟨rfl, hz, _, e, fr, u1, by rw [putV_size]; exact q4, by
                    rw [hlist]
                    refine ARs_app (ARs_append (ARs_take (ARs_mono hfr.stay q5) (Nat.le_refl _)) ?_ (ARs_mono hfr.stay k2))
                    rw [List.length_take]
                    have hcl : C.toList.length = C.size := by simp
                    omega⟩
                  obtain ⟨hrep2, hw2⟩ := Rep_move (ob := Ob.arr es' (rows ++ new) leak) (H' := (s.nx, Ob.arr es' (rows ++ new) leak) :: rmv s.H id) hrep1 (by simp) g4 (fun k => by
                    by_cases hk : k = s.nx
                    · simp [hk]
                    · have e1 : ¬ s.nx = k := fun e => hk e.symm
                      by_cases hk2 : k = id
                      · subst hk2; simp [lk_rmv, hk, e1]
                      · have e2 : ¬ id = k := fun e => hk2 e.symm
                        simp [lk_rmv, hk, e1, hk2, e2]) (by simp)
                  refine ⟨putRho ρ s.nx (b, es'), hrep2, ?_, hr.ext2 _, hfr.trans ?_⟩
                  · simp only [VR]
                    refine ⟨_, c, rfl, hg, by simp, .inr ⟨b, _, e, fr, putRho_new _ _ _, by simp, u1, by rw [putV_size]; simpa using g6⟩⟩
                  · exact
                      { size := Nat.le_refl _
                        os := rfl
                        tape := rfl
                        output := rfl
                        cells := fun b' C e fr hb => ⟨C, hb, rfl, fun _ _ => rfl⟩
                        other := fun b' o hb _ => hb
                        shrink := fun b' o _ hw => hw2 b' o hw }
            · cases h
        · cases h
      · cases h
    · cases h
  · cases h
end
end Go.Proofs.Ytcmejocmohohpaa.R

/- make, literal slices, bytes of texts, copy. -/
set_option linter.unusedVariables false
set_option linter.unusedSectionVars false
set_option linter.unusedSimpArgs false
noncomputable section
namespace Go.Proofs.Ytcmejocmohohpaa.R
open Go
structure ElTy (P : Program) (t : TypeId) (es : Nat) (z : List AV) : Prop where
  ex : ∃ e xe, P.underlying t = some (.slice e) ∧ tyOf P e = some xe ∧ (∃ z0, zeroCells xe = some z0 ∧ z = frzs [] z0) ∧ 0 < xe.size ∧ z.length = xe.size ∧ es = xe.size ∧ xe.bytes ≤ 256
section
variable {P : Program} {w : World} {A : Nat → Nat → Prop} {U : Nat → Nat → Prop} {ρ : Rho}
/-- Cells of zero values, one behind the other. -/
def zeros (zs : Array Value) (n : Nat) : Array Value := (Array.range n).map (zs[· % zs.size]!)
theorem zeros_toList (zs : Array Value) (n : Nat) : (zeros zs n).toList = (List.range n).map (zs[· % zs.size]!) := by simp [zeros]
theorem ARs_zeros {es n c : Nat} {z : List AV} {zs : Array Value} (hz : 0 < es) (hl : z.length = es) (hzs : VRs w U noRho z zs.toList) (hone : ∀ x ∈ zs.toList, oneB x = true) (hn : n ≤ c) : ARs w U es (List.replicate n z) (zeros zs (c * es)).toList := by
  have hsz : zs.size = es := by have := VRs_length hzs; simp at this; omega
  refine ARs_mk fun i r hi => ?_
  rw [List.getElem?_replicate] at hi
  split at hi
  · rename_i hlt
    obtain rfl := Option.some.inj hi
    have hle : (i + 1) * es ≤ c * es := Nat.mul_le_mul_right _ (by omega)
    have heq : ((zeros zs (c * es)).toList.drop (i * es)).take es = zs.toList := by
      rw [zeros_toList]
      apply List.ext_getElem?
      intro j
      rw [List.getElem?_take]
      split
      · rename_i hj
        rw [List.getElem?_drop, List.getElem?_map, List.getElem?_range (by rw [Nat.succ_mul] at hle; omega)]
        simp only [Option.map_some, hsz]
        rw [show (i * es + j) % es = j by rw [Nat.mul_comm, Nat.mul_add_mod]; exact Nat.mod_eq_of_lt hj]
        rw [List.getElem?_eq_getElem (by simpa [hsz] using hj)]
        simp [hsz, hj]
      · rename_i hj
        rw [List.getElem?_eq_none (by simp [hsz]; omega)]
    rw [heq]
    refine ⟨hl, ?_, hzs, hone⟩
    rw [zeros_toList]; simpa using hle
  · cases hi
theorem snd_mks {s s' : St} (hr : Rep A ρ s.H s.nx w) {t : TypeId} {es : Nat} {z : List AV} (hT : ElTy P t es z) {l m v : AV} {L M : Value} (hl : VR w U ρ l L) (hm : VR w U ρ m M) (h : mksAV es z s l m = some (v, s')) :
    ∃ x w', (Instr.makeSlice t L M).run P w = .ok x w' ∧ Post A ρ s w v s' x w' := by
  unfold mksAV at h
  split at h
  · rename_i n c
    split at h
    · rename_i hc
      obtain ⟨h0, h1, h2⟩ := hc
      simp only [Option.some.injEq, Prod.mk.injEq] at h
      obtain ⟨rfl, rfl⟩ := h
      simp only [VR] at hl hm
      subst hl; subst hm
      obtain ⟨e, xe, g1, g2, g3, g4, g5, rfl, g6⟩ := hT.ex
      obtain ⟨_, i, hi1, hi2, hi3, hi4⟩ := tyOf_spec g2
      obtain ⟨z0, g3, rfl⟩ := g3
      obtain ⟨zv, hz1, hz2, hz3⟩ := zeroCells_specF g3
      have hlim : c ≤ 549755813888 := h2
      have hb : (i.bytes : Int) * c ≤ 281474976710656 := by
        have h4 : (i.bytes : Int) ≤ 256 := by rw [hi3]; omega
        have h3 : (i.bytes : Int) * c ≤ 256 * c := Int.mul_le_mul_of_nonneg_right h4 (by omega)
        omega
      have hvz : VRs w (UU A ρ s.H) noRho (frzs [] z0) zv.cells.toList := hz3
      have hA := ARs_zeros (w := w) (U := UU A ρ s.H) (n := n.toNat) (c := c.toNat) g4 g5 hvz (VRs_one hz2 hvz) (by omega)
      have hrun : (Instr.makeSlice t (.int .i64 n) (.int .i64 c)).run P w = .ok (.slice (some ⟨w.heap.size, 0, none⟩) n.toNat c.toNat) (pushW w (.cells (zeros zv.cells (c.toNat * xe.size)) e)) := by
        rw [run_make w t e i zv g1 hi1 (by rw [hi4]; exact hz1) .i64 .i64 n c h0 h1 hb (by omega), hi2]
        rfl
      refine ⟨_, _, hrun, ?_⟩
      have hsz : (zeros zv.cells (c.toNat * xe.size)).size = c.toNat * xe.size := by simp [zeros]
      have := snd_newBlock (A := A) (fr := (0, 0)) (e := e) hr g4 hA (unfr_none _) (cap := c.toNat) (ex := n == c) (by rw [hsz]; exact Nat.le_refl _) (by simp; omega) (by simp; intro hh; omega) 0
      simpa using this
    · cases h
  · cases h
end
end Go.Proofs.Ytcmejocmohohpaa.R

/- Literal slices, bytes of texts, copy. -/
set_option linter.unusedVariables false
set_option linter.unusedSectionVars false
set_option linter.unusedSimpArgs false
noncomputable section
namespace Go.Proofs.Ytcmejocmohohpaa.R
open Go
def VRq (w : World) (U : Nat → Nat → Prop) (ρ : Rho) : List (Nat × AV) → List (Nat × Value) → Prop
  | [], ps => ps = []
  | (i, a) :: r, ps => ∃ x q, ps = (i, x) :: q ∧ VR w U ρ a x ∧ VRq w U ρ r q
theorem leakAll_leaked : ∀ (ps : List (Nat × AV)) (H : Heap), Leaked H (leakAll H ps)
  | [], H => Leaked.refl _
  | (i, v) :: r, H => (leakV_leaked v H).trans (leakAll_leaked r _)
section
variable {P : Program} {w : World} {A : Nat → Nat → Prop} {U : Nat → Nat → Prop} {ρ : Rho}
theorem VRq_evp {s : St} {a : Act} (hv : Vals w U ρ s a) : ∀ {pl : List (Nat × Operand)} {ps : List (Nat × Opd)}, partsOf pl = some ps → VRq w U ρ (s.evp ps) (pl.map fun p => (p.1, a.eval p.2))
  | [], ps, h => by simp only [partsOf, Option.some.injEq] at h; subst h; simp [St.evp, VRq]
  | (i, x) :: pl, ps, h => by
    simp only [partsOf] at h
    split at h
    · rename_i y q e1 e2
      simp only [Option.some.injEq] at h
      subst h
      simp only [St.evp, List.map_cons, VRq]
      exact ⟨_, _, rfl, VR_opd hv e1, VRq_evp hv e2⟩
    · cases h
theorem putVals_toList_size (xs : Array Value) (off : Nat) (ys : List Value) : (putVals xs off ys).toList.length = xs.size := by
  simp [putVals, putVals_size]
theorem ARs_put {es i : Nat} {rows : List (List AV)} {vs : List AV} {xs : Array Value} {ys : List Value} (hA : ARs w U es rows xs.toList) (hv : VRs w U noRho vs ys) (hone : ∀ y ∈ ys, oneB y = true) (hl : vs.length = es) (hi : i < rows.length) :
    ARs w U es (rows.set i vs) (putVals xs (i * es) ys).toList := by
  have hly := VRs_length hv
  have hcl : xs.toList.length = xs.size := by simp
  have hget : ∀ k, (putVals xs (i * es) ys).toList[k]? = if i * es ≤ k ∧ k < i * es + ys.length ∧ k < xs.size then ys[k - i * es]? else xs.toList[k]? := by
    intro k
    have := putVals_get ys 0 (i * es) xs k
    simp only [Nat.add_zero] at this
    rw [Array.getElem?_toList, putVals, this]
    split
    · rfl
    · rw [Array.getElem?_toList]
  refine ARs_mk fun j r hj => ?_
  rw [putVals_toList_size]
  by_cases hij : i = j
  · subst hij
    rw [List.getElem?_set_self hi] at hj
    obtain rfl := Option.some.inj hj
    obtain ⟨g1, g2, g3, g4⟩ := ARs_get hA (List.getElem?_eq_getElem hi)
    rw [hcl, Nat.succ_mul] at g2
    have heq : ((putVals xs (i * es) ys).toList.drop (i * es)).take es = ys := by
      apply List.ext_getElem?
      intro q
      rw [List.getElem?_take]
      split
      · rename_i hq
        rw [List.getElem?_drop, hget, if_pos (by omega)]
        congr 1; omega
      · rename_i hq
        rw [List.getElem?_eq_none (by omega)]
    rw [heq]
    exact ⟨hl, by rw [Nat.succ_mul]; omega, hv, hone⟩
  · rw [List.getElem?_set_ne hij] at hj
    obtain ⟨g1, g2, g3⟩ := ARs_get hA hj
    have heq : ((putVals xs (i * es) ys).toList.drop (j * es)).take es = (xs.toList.drop (j * es)).take es := by
      apply List.ext_getElem?
      intro q
      rw [List.getElem?_take, List.getElem?_take]
      split
      · rename_i hq
        rw [List.getElem?_drop, List.getElem?_drop, hget, if_neg]
        intro hh
        rcases Nat.lt_or_gt_of_ne hij with hlt | hlt
        · have : (i + 1) * es ≤ j * es := Nat.mul_le_mul_right _ hlt
          rw [Nat.succ_mul] at this; omega
        · have : (j + 1) * es ≤ i * es := Nat.mul_le_mul_right _ hlt
          rw [Nat.succ_mul] at this; omega
      · rfl
    rw [heq]
    exact ⟨g1, by rw [hcl] at g2; exact g2, g3⟩
theorem fillRows_spec {H : Heap} {nx : Nat} (hr : Rep A ρ H nx w) {es : Nat} : ∀ {ps : List (Nat × AV)} {qs : List (Nat × Value)} {rows r : List (List AV)} {xs : Array Value} (H1 H' : Heap), Leaked H H1 → Leaked (leakAll H1 ps) H' → VRq w (UU A ρ H) ρ ps qs →
    ARs w (UU A ρ H') es rows xs.toList → fillRows es H rows ps = some r → ∃ ys : Array Value, Instr.fill (fun i => some (i * es, es)) xs qs = some ys ∧ ys.size = xs.size ∧ r.length = rows.length ∧ ARs w (UU A ρ H') es r ys.toList
  | [], qs, rows, r, xs, H1, H', hl1, hl, hq, hA, h => by
    simp only [VRq] at hq
    subst hq
    simp only [fillRows, Option.some.injEq] at h
    subst h
    exact ⟨xs, rfl, rfl, rfl, hA⟩
  | (i, v) :: ps, qs, rows, r, xs, H1, H', hl1, hl, hq, hA, h => by
    simp only [VRq] at hq
    obtain ⟨x, q, rfl, hv, hq⟩ := hq
    simp only [fillRows] at h
    split at h
    · rename_i vs hvs
      split at h
      · rename_i hc
        obtain ⟨c1, c2, c3, c4⟩ := hc
        have hV := VR_frz hr v H1 hl1 H' ((leakAll_leaked ps _).trans hl) x hv
        have hX := VRs_cells hvs hV
        have hlx := VRs_length hX
        have hxs : x.cells.toList.length = x.cells.size := by simp
        have hsz := ARs_len hA
        have hcl : xs.toList.length = xs.size := by simp
        have h5 : (i + 1) * es ≤ rows.length * es := Nat.mul_le_mul_right _ c2
        rw [Nat.succ_mul] at h5
        obtain ⟨ys, g1, g2, g3, g4⟩ := fillRows_spec hr (leakV H1 v) H' (hl1.trans (leakV_leaked v H1)) hl hq (ARs_put hA hX (VRs_one c4 hX) c1 c2) h
        refine ⟨ys, ?_, by rw [g2]; simpa using putVals_toList_size xs (i * es) x.cells.toList, by rw [g3]; simp, g4⟩
        have c5 : x.cells.size = es := by omega
        have c6 : ¬ (i * es + es > xs.size) := by omega
        simp only [Instr.fill, c5]
        rw [if_neg (by simp [c6])]
        rw [← g1]
        congr 1
        simp only [putVals, ← Array.foldl_toList, Array.toList_zipIdx]
      · cases h
    · cases h
theorem snd_bsl {s s' : St} (hr : Rep A ρ s.H s.nx w) {t : TypeId} {es : Nat} {z : List AV} (hT : ElTy P t es z) {len : Nat} (hlen : len * es ≤ 16777216) {ps : List (Nat × AV)} {qs : Array (Nat × Value)} (hq : VRq w (UU A ρ s.H) ρ ps qs.toList) {v : AV} (h : bslAV es z len s ps = some (v, s')) :
    ∃ x w', (Instr.buildSlice t len qs).run P w = .ok x w' ∧ Post A ρ s w v s' x w' := by
  unfold bslAV at h
  split at h
  · rename_i rows hrows
    simp only [Option.some.injEq, Prod.mk.injEq] at h
    obtain ⟨rfl, rfl⟩ := h
    obtain ⟨e, xe, g1, g2, g3, g4, g5, rfl, g6⟩ := hT.ex
    obtain ⟨z0, g3, rfl⟩ := g3
    obtain ⟨zv, hz1, hz2, hz3⟩ := zeroCells_specF g3
    have hl := leakAll_leaked ps s.H
    have hvz : VRs w (UU A ρ (leakAll s.H ps)) noRho (frzs [] z0) zv.cells.toList := hz3
    have hA := ARs_zeros (w := w) (n := len) (c := len) g4 g5 hvz (VRs_one hz2 hvz) (Nat.le_refl _)
    obtain ⟨ys, k1, k2, k3, k4⟩ := fillRows_spec hr s.H _ (Leaked.refl _) (Leaked.refl _) hq hA hrows
    have hr1 : Rep A ρ (s.setH (leakAll s.H ps)).H (s.setH (leakAll s.H ps)).nx w := Rep_leak hr hl
    have hsz : (zeros zv.cells (len * xe.size)).size = len * xe.size := by simp [zeros]
    have hrl : rows.length = len := by simpa using k3
    have hrun : (Instr.buildSlice t len qs).run P w = .ok (.slice (some ⟨w.heap.size, 0, none⟩) len len) (pushW w (.cells ys e)) := by
      have c1 : ¬ (len * xe.size > 2 ^ 24) := by
        have : (2 : Nat) ^ 24 = 16777216 := by decide
        omega
      by_cases hz : len * xe.size = 0
      · have hzz : zeros zv.cells 0 = #[] := by simp [zeros]
        rw [hz, hzz] at k1
        have hr0 : (Array.range 0).map ((#[] : Array Value)[· % 0]!) = #[] := by simp
        simp only [Instr.buildSlice, Sem.run_bind, run_underlying g1, Result.andThen_ok, run_sizeOf' g2, Sem.run_ite, if_neg c1, Sem.run_pure, hz, if_true, List.size_toArray, List.length_nil, Array.size_empty]
        simp only [Array.range_zero', Array.map_empty]
        rw [k1]
        simp [newRow]
        rfl
      · simp only [Instr.buildSlice, Sem.run_bind, run_underlying g1, Result.andThen_ok, run_sizeOf' g2, Sem.run_ite, if_neg c1, Sem.run_pure, if_neg hz, run_zero' g2 hz1]
        have : (Array.range (len * xe.size)).map (zv.cells[· % zv.cells.size]!) = zeros zv.cells (len * xe.size) := rfl
        rw [this, k1]
        simp [newRow]
        rfl
    refine ⟨_, _, hrun, ?_⟩
    have := snd_newBlock (A := A) (s := s.setH (leakAll s.H ps)) (fr := (0, 0)) (e := e) (C := ys) hr1 g4 k4 (unfr_none _) (cap := len) (ex := true) (by rw [k2, hsz]; exact Nat.le_refl _) (by omega) (by intro _; omega) 0
    rw [hrl] at this
    exact Post.sub (s1 := s.setH (leakAll s.H ps)) rfl rfl rfl (fun b o => Wr_leak hl) this
  · cases h
theorem ARs_bytes (s : ByteArray) : ARs w U 1 (byteRows s) (s.data.toList.map fun b => Value.int .u8 b.toNat) := by
  refine ARs_mk fun i r hi => ?_
  simp only [byteRows, List.getElem?_map, Option.map_eq_some_iff] at hi
  obtain ⟨b, hb, rfl⟩ := hi
  have hlt : i < s.data.toList.length := by
    rcases Nat.lt_or_ge i s.data.toList.length with hl | hl
    · exact hl
    · rw [List.getElem?_eq_none hl] at hb; cases hb
  have hd : ((s.data.toList.map fun b => Value.int .u8 b.toNat).drop (i * 1)).take 1 = [.int .u8 b.toNat] := by
    rw [Nat.mul_one, List.drop_eq_getElem_cons (by simpa using hlt)]
    rw [List.getElem?_eq_getElem hlt] at hb
    simp only [Option.some.injEq] at hb
    simp [hb]
  rw [hd]
  refine ⟨rfl, by simp at hlt ⊢; omega, ?_, ?_⟩
  · simp [byteRow, VRs, VR]
  · simp [oneB]
theorem push_modify (w : World) (o : Obj) (f : Obj → Obj) : (w.heap.push o).modify w.heap.size f = w.heap.push (f o) := by
  apply Array.ext
  · simp
  · intro i h1 h2
    simp only [Array.size_modify, Array.size_push] at h1
    rw [Array.getElem_modify]
    by_cases hi : i = w.heap.size
    · subst hi; simp
    · have : i < w.heap.size := by omega
      rw [if_neg (by omega), Array.getElem_push_lt this, Array.getElem_push_lt this]
theorem snd_s2b {s s' : St} (hr : Rep A ρ s.H s.nx w) {a b e : TypeId} {xs xd xe : TI} (ha : tyOf P a = some xs) (hb : tyOf P b = some xd) (hd : xd.desc = .slice e) (he : tyOf P e = some xe) (hu : xe.desc = .int .u8) {X : Value} {x v : AV} (hx : VR w U ρ x X) (h : s2bAV s x = some (v, s')) :
    ∃ z w', (convert a b X).run P w = .ok z w' ∧ Post A ρ s w v s' z w' := by
  unfold s2bAV at h
  split at h
  · rename_i str
    simp only [VR] at hx
    subst hx
    simp only [Option.some.injEq, Prod.mk.injEq] at h
    obtain ⟨rfl, rfl⟩ := h
    have h2 := run_underlying' hb w
    have h3 := run_underlying' he w
    rw [hd] at h2
    rw [hu] at h3
    have hlen : (byteRows str).length = str.size := by simp [byteRows]
    let cap := (Question.appendCap str.size 0 e).cut (w.tape w.drawn (.appendCap str.size 0 e))
    have hcap : str.size ≤ cap := by simp [cap, Question.cut]
    let C : Array Value := (str.data.map fun b => .int .u8 b.toNat) ++ Array.replicate (cap - str.size) (.int .u8 0)
    have hsz : C.size = cap := by simp [C]; have : str.data.size = str.size := rfl; omega
    have hrun : (convert a b (.string str)).run P w = .ok (.slice (some ⟨w.heap.size, 0, none⟩) str.size cap) (pushW { w with drawn := w.drawn + 1 } (.cells C e (C.size, C.size + 1))) := by
      have hq : Question.forced (.appendCap str.size 0 e) = false := rfl
      simp only [convert, Sem.run_bind, run_underlying' ha w, h2, h3, Result.andThen_ok, Conv.stringToBytes, run_choose, hq, Bool.false_eq_true, if_false, newRow, run_newObj, Sem.run_pure, markStringish, run_shape]
      have hsh : World.shape? { w with drawn := w.drawn + 1, heap := w.heap.push (.cells C e) } w.heap.size = some (e, C.size) := by
        simp [World.shape?]
      rw [show (Obj.cells ((str.data.map fun b => Value.int .u8 b.toNat) ++ Array.replicate ((Question.appendCap str.size 0 e).cut (w.tape w.drawn (.appendCap str.size 0 e)) - str.size) (Value.int .u8 0)) e) = Obj.cells C e from rfl]
      rw [hsh]
      simp only [run_freeze, Result.andThen_ok, World.freeze]
      rw [if_neg (by decide)]
      simp only [push_modify, Sem.run_pure, Result.andThen_ok]
      simp [pushW, cap]
    refine ⟨_, _, hrun, ?_⟩
    have hs := SameMem.drawn w (w.drawn + 1)
    have hA : ARs { w with drawn := w.drawn + 1 } (UU A ρ s.H) 1 (byteRows str) C.toList := by
      simp only [C, Array.toList_append, Array.toList_map]
      exact ARs_app (ARs_bytes str)
    have := snd_newBlock (A := A) (fr := (C.size, C.size + 1)) (e := e) (hs.rep hr) (by decide) hA (fun o ho hh => by omega) (cap := cap) (ex := false) (by rw [hsz]; simp) (by rw [hlen]; exact hcap) (by simp) 0
    rw [hlen] at this ⊢
    exact Post.pre hs this
  · cases h
theorem bytesOf_spec : ∀ {rows : List (List AV)} {l : List UInt8} {cs : List Value}, bytesOf rows = some l → ARs w U 1 rows cs → cs.length = rows.length * 1 → ∃ ns : List Int, cs = ns.map (Value.int .u8) ∧ l = ns.map fun n => UInt8.ofNat n.toNat
  | [], l, cs, h, hA, hl => by
    simp only [bytesOf, Option.some.injEq] at h
    subst h
    have : cs = [] := List.eq_nil_of_length_eq_zero (by simpa using hl)
    exact ⟨[], by simp [this], rfl⟩
  | r :: rs, l, cs, h, hA, hl => by
    unfold bytesOf at h
    split at h
    · rename_i heq
      cases heq
    · rename_i n r' heq
      simp only [List.cons.injEq] at heq
      obtain ⟨rfl, rfl⟩ := heq
      split at h
      · rename_i l' hl'
        simp only [Option.some.injEq] at h
        subst h
        simp only [ARs] at hA
        obtain ⟨_, g2, ⟨g3, _⟩, g4⟩ := hA
        cases cs with
        | nil => simp at g2
        | cons c cs =>
          simp only [List.take_succ_cons, List.take_zero, VRs, VR] at g3
          obtain ⟨x, q, e1, rfl, rfl⟩ := g3
          simp only [List.cons.injEq, and_true] at e1
          subst e1
          obtain ⟨ns, e2, e3⟩ := bytesOf_spec hl' (by simpa using g4) (by simpa using hl)
          exact ⟨n :: ns, by simp [e2], by simp [e3]⟩
      · cases h
    · cases h
theorem foldl_bytes : ∀ (ns : List Int) (s : ByteArray), ns.foldl (fun r n => r.push (UInt8.ofNat n.toNat)) s = ⟨s.data ++ (ns.map fun n => UInt8.ofNat n.toNat).toArray⟩
  | [], s => by simp
  | n :: ns, s => by
    rw [List.foldl_cons, foldl_bytes ns]
    simp [ByteArray.push]
theorem snd_b2s {s : St} (hr : Rep A ρ s.H s.nx w) {a b e : TypeId} {xs xd xe : TI} (ha : tyOf P a = some xs) (hsd : xs.desc = .slice e) (hb : tyOf P b = some xd) (hd : xd.desc = .string) (he : tyOf P e = some xe) (hu : xe.desc = .int .u8) {X : Value} {x v : AV} (hx : VR w (UU A ρ s.H) ρ x X) (h : b2sAV s.H x = some v) :
    ∃ z, (convert a b X).run P w = .ok z w ∧ VR w (UU A ρ s.H) ρ v z := by
  unfold b2sAV at h
  split at h
  · rename_i rows hrows
    split at h
    · rename_i l hl
      simp only [Option.some.injEq] at h
      subst h
      have hsrc : srcRows 1 s.H x = some rows := by
        unfold srcRows
        split
        · simp [rowsOf] at hrows
        · exact hrows
      obtain ⟨cs, k1, k2, k3, k4⟩ := src_spec (P := P) hr hx hsrc
      have h1 := (tyOf_spec ha).1
      have h2 := (tyOf_spec hb).1
      have h3 := (tyOf_spec he).1
      rw [hsd] at h1
      rw [hd] at h2
      rw [hu] at h3
      obtain ⟨ns, e1, e2⟩ := bytesOf_spec hl k2 k1
      have hX : ∃ B n c, X = .slice B n c := by
        cases x <;> simp [rowsOf] at hrows <;> simp only [VR] at hx
        · exact ⟨none, 0, 0, hx⟩
        · obtain ⟨B, c, rfl, _⟩ := hx; exact ⟨B, _, c, rfl⟩
        · obtain ⟨B, c, rfl, _⟩ := hx; exact ⟨B, _, c, rfl⟩
      obtain ⟨B, n, c, rfl⟩ := hX
      have hn : n = rows.length := by
        have := k3 w
        simp only [Builtin.lenOf, Sem.run_pure, Result.ok.injEq, and_true] at this
        exact this
      subst hn
      refine ⟨.string ⟨l.toArray⟩, ?_, by simp [VR]⟩
      rw [run_convert_bytes_string w a b e B _ c h1 h3 h2]
      have k5 := k4 w rfl rows.length (Nat.le_refl _)
      rw [List.take_of_length_le (by omega)] at k5
      cases B with
      | none =>
        simp only [run_firstCells_none, Result.ok.injEq, and_true] at k5
        have : cs = [] := by simpa using congrArg Array.toList k5.symm
        subst this
        have hn : ns = [] := by simpa using e1.symm
        subst hn
        simp only [List.map_nil] at e2
        subst e2
        simp [Conv.bytesToString]
        rfl
      | some bb =>
        have k6 : (loadCells bb rows.length).run P w = .ok (ns.map (Value.int .u8)).toArray w := by
          rw [← e1]
          simpa [Builtin.firstCells] using k5
        rw [run_bytesToString w bb rows.length c ns k6, foldl_bytes, e2]
        simp
    · cases h
  · cases h
end
end Go.Proofs.Ytcmejocmohohpaa.R

/- copy. -/
set_option linter.unusedVariables false
set_option linter.unusedSectionVars false
set_option linter.unusedSimpArgs false
noncomputable section
namespace Go.Proofs.Ytcmejocmohohpaa.R
open Go
theorem copyRows_eq : ∀ (rows : List (List AV)) (k : Nat) (ns : List (List AV)), k + ns.length ≤ rows.length → copyRows rows k ns = rows.take k ++ ns ++ rows.drop (k + ns.length)
  | [], k, ns, h => by
    have h1 : k = 0 := by simp at h; omega
    have h2 : ns = [] := List.eq_nil_of_length_eq_zero (by rw [List.length_nil] at h; omega)
    subst h1; subst h2; simp [copyRows]
  | r :: rs, 0, n :: ns, h => by
    have := copyRows_eq rs 0 ns (by simpa using h)
    simp only [copyRows, this, List.take_zero, List.nil_append, Nat.zero_add, List.cons_append, List.length_cons, List.drop_succ_cons]
  | r :: rs, 0, [], h => by simp [copyRows]
  | r :: rs, k + 1, ns, h => by
    have := copyRows_eq rs k ns (by simp at h; omega)
    simp only [copyRows, this, List.take_succ_cons, List.cons_append, List.append_assoc]
    rw [show k + 1 + ns.length = (k + ns.length) + 1 by omega, List.drop_succ_cons]
section
variable {P : Program} {w : World} {A : Nat → Nat → Prop} {U : Nat → Nat → Prop} {ρ : Rho}
theorem ARs_rows {es : Nat} {rows : List (List AV)} {C : List Value} (h : ARs w U es rows C) (k : Nat) : ARs w U es (rows.take k) C := by
  refine ARs_mk fun i r hi => ?_
  rw [List.getElem?_take] at hi
  split at hi
  · exact ARs_get h hi
  · cases hi
theorem ARs_drop {es : Nat} {rows : List (List AV)} {C : List Value} (h : ARs w U es rows C) (k : Nat) : ARs w U es (rows.drop k) (C.drop (k * es)) := by
  refine ARs_mk fun i r hi => ?_
  rw [List.getElem?_drop] at hi
  obtain ⟨g1, g2, g3⟩ := ARs_get h hi
  have e : k * es + i * es = (k + i) * es := by rw [Nat.add_mul]
  rw [List.drop_drop, e]
  refine ⟨g1, ?_, g3⟩
  rw [List.length_drop]
  rw [Nat.succ_mul] at g2 ⊢
  omega
theorem putV_list (C : Array Value) (o : Nat) (news : List Value) (h : o + news.length ≤ C.size) : (putV C o news).toList = C.toList.take o ++ news ++ C.toList.drop (o + news.length) := by
  apply List.ext_getElem?
  intro i
  have hcl : C.toList.length = C.size := by simp
  rw [Array.getElem?_toList, putV_get]
  by_cases h1 : i < o
  · rw [if_neg (by omega), List.append_assoc, List.getElem?_append_left (by rw [List.length_take]; omega), List.getElem?_take, if_pos h1, Array.getElem?_toList]
  · by_cases h2 : i < o + news.length
    · rw [if_pos (by omega), List.append_assoc, List.getElem?_append_right (by rw [List.length_take]; omega), List.getElem?_append_left (by rw [List.length_take]; omega), List.length_take, Nat.min_eq_left (by omega)]
    · rw [if_neg (by omega), List.getElem?_append_right (by rw [List.length_append, List.length_take]; omega), List.getElem?_drop, List.length_append, List.length_take, Nat.min_eq_left (by omega), Array.getElem?_toList]
      congr 1; omega
theorem run_cpy {t ty e : TypeId} {ts : Array TypeId} {tr : List TypeId} (hts : ts.toList = t :: tr) {xe : TI} (h1 : P.underlying t = some (.slice e)) (h2 : tyOf P e = some xe) {B : Option Addr} {len c m : Nat} {X : Value} {cs : List Value} (hl : ∀ w', (Builtin.lenOf X).run P w' = .ok m w')
    (hf : (Builtin.firstCells xe.size (Nat.min m len) X).run P w = .ok cs.toArray w) {w' : World} (hst : (match B with | some a => storeCells a cs | none => pure () : Sem Unit).run P w = .ok () w') :
    (Builtin.copy_ ts ty #[.slice B len c, X]).run P w = .ok (goInt (Nat.min m len)) w' := by
  have h0 : ts[0]? = some t := by rw [← Array.getElem?_toList, hts]; rfl
  simp only [Builtin.copy_, h0, List.getElem?_toArray, List.getElem?_cons_zero, List.getElem?_cons_succ, Sem.run_bind, run_underlying h1, Result.andThen_ok, run_sizeOf' h2, hl, hf, Sem.run_pure]
  cases B with
  | none =>
    simp only [Sem.run_pure, Result.ok.injEq, true_and] at hst
    subst hst
    simp
  | some a =>
    simp only at hst
    simp [hst]
theorem snd_cpy {s s' : St} (hr : Rep A ρ s.H s.nx w) {t ty e : TypeId} {ts : Array TypeId} {tr : List TypeId} (hts : ts.toList = t :: tr) {xe : TI} (h1 : P.underlying t = some (.slice e)) (h2 : tyOf P e = some xe) (hz : 0 < xe.size) {y x v : AV} {Y X : Value} (hy : VR w (UU A ρ s.H) ρ y Y) (hx : VR w (UU A ρ s.H) ρ x X) (h : cpyAV xe.size s y x = some (v, s')) :
    ∃ z w', (Builtin.copy_ ts ty #[Y, X]).run P w = .ok z w' ∧ Post A ρ s w v s' z w' := by
  unfold cpyAV at h
  split at h
  · rename_i src es' id off len ex hn
    split at h
    · rename_i hes
      subst hes
      split at h
      · rename_i es2 rows leak hid
        split at h
        · rename_i hc
          obtain ⟨c1, c2⟩ := hc
          split at h
          · rename_i H hup
            simp only [Option.some.injEq, Prod.mk.injEq] at h
            obtain ⟨rfl, rfl⟩ := h
            obtain ⟨news, k1, k2, k3, k4⟩ := src_spec (P := P) hr hx hn
            simp only [VR] at hy
            obtain ⟨B, c, rfl, g1, g2, g3⟩ := hy
            have hlen : (src.take len).length = Nat.min src.length len := by rw [List.length_take, Nat.min_comm]
            have hf := k4 w rfl (Nat.min src.length len) (Nat.min_le_left _ _)
            have hgo : goInt (Nat.min src.length len) = Value.int .i64 ((src.take len).length : Int) := by rw [hlen]; rfl
            rcases g3 with ⟨rfl, rfl⟩ | ⟨b, C, e', fr, g4, rfl, g5, g6⟩
            · have h0 : Nat.min src.length 0 = 0 := Nat.min_eq_right (Nat.zero_le _)
              have hst : (match B with | some a => storeCells a (news.take (Nat.min src.length 0 * xe.size)) | none => pure () : Sem Unit).run P w = .ok () w := by
                rw [h0]
                simp only [Nat.zero_mul, List.take_zero]
                cases B <;> rfl
              refine ⟨_, _, run_cpy (ty := ty) hts h1 h2 k3 hf hst, ?_⟩
              have hsame : ∀ k, lk H k = lk s.H k := by
                intro k
                rw [lk_upd hup k]
                by_cases hk : k = id
                · subst hk
                  rw [if_pos rfl, hid]
                  rw [copyRows_eq _ _ _ c2]
                  simp
                · rw [if_neg hk]
              have hsub : ∀ k o, lk H k = some o → lk s.H k = some o := fun k o hk => by rw [← hsame]; exact hk
              rw [hgo]
              refine ⟨rfl, rfl, ρ, Rep_sub hr hsub, by simp [VR, intV], Ext2.refl _ _, Fr_less fun b o hw => Wr_sub hsub hw⟩
            · obtain ⟨q1, q2, C', e2, fr2, q3, q4, q5⟩ := hr.ob id _ b xe.size hid g4
              subst q1
              rw [g5] at q3
              simp only [Option.some.injEq, Obj.cells.injEq] at q3
              obtain ⟨rfl, rfl, rfl⟩ := q3
              let cs := news.take (Nat.min src.length len * xe.size)
              have hm : Nat.min src.length len ≤ src.length := Nat.min_le_left _ _
              have hcs : cs.length = Nat.min src.length len * xe.size := by
                simp only [cs, List.length_take, k1]
                exact Nat.min_eq_left (Nat.mul_le_mul_right _ hm)
              have hrl := ARs_len q5
              have hcl : C.toList.length = C.size := by simp
              have hfit : off * xe.size + cs.length ≤ C.size := by
                rw [hcs, ← Nat.add_mul]
                have : (off + Nat.min src.length len) * xe.size ≤ rows.length * xe.size := Nat.mul_le_mul_right _ (by rw [hlen] at c2; exact c2)
                omega
              have hA2 : ARs w (UU A ρ s.H) xe.size (src.take len) cs := by
                have := ARs_take (k := Nat.min src.length len * xe.size) (ARs_rows k2 len) (by rw [hlen]; exact Nat.le_refl _)
                exact this
              have hone := ARs_one hA2 (by rw [hcs, hlen])
              have hst := run_storeCells_cells (P := P) b (off * xe.size) cs 0 w (fun j hj => by
                  rw [cell_of_block g5]; simp; omega) (fun j hj => frozen_of_block g5 q4 (by omega)) (fun v hv => oneCell_of_oneB (hone v hv))
              simp only [Nat.add_zero] at hst
              refine ⟨_, _, run_cpy (B := some ⟨b, off * xe.size, none⟩) (ty := ty) hts h1 h2 k3 hf hst, rfl, rfl, ρ, ?_⟩
              obtain ⟨u1, u2, u3, u4, u5, u6⟩ := setCells_heap b e' fr cs (off * xe.size) w C g5
              have hwrite : ∀ o, ¬ wrOb xe.size o (.arr xe.size rows leak) → (putV C (off * xe.size) cs)[o]? = C[o]? := by
                intro o ho
                rw [putV_get, if_neg]
                intro hh
                apply ho
                simp only [wrOb]
                have : leak * xe.size ≤ off * xe.size := Nat.mul_le_mul_right _ c1
                omega
              obtain ⟨hfr, hrep⟩ := blk_update (H' := H) (ob' := .arr xe.size (copyRows rows off (src.take len)) leak) hr hid g4 g5 u1 u2 u3 u4 u5 u6 (putV_size _ _ _) hwrite (fun k => lk_upd hup k) (fun _ hh => hh)
              rw [hgo]
              refine ⟨hrep ⟨rfl, hz, _, e', fr, u1, by rw [putV_size]; exact q4, ?_⟩, by simp [VR, intV], Ext2.refl _ _, hfr⟩
              rw [putV_list C _ cs hfit, copyRows_eq _ _ _ c2]
              have hq := ARs_mono hfr.stay q5
              have h3 := ARs_mono hfr.stay hA2
              have hoff : off ≤ rows.length := by omega
              have ha : ARs (w.setCells b (off * xe.size) cs) (UU A ρ H) xe.size (rows.take off ++ src.take len) (C.toList.take (off * xe.size) ++ cs) := by
                refine ARs_append (ARs_take (ARs_rows hq off) ?_) ?_ h3
                · rw [List.length_take, Nat.min_eq_left hoff]; exact Nat.le_refl _
                · rw [List.length_take, List.length_take, Nat.min_eq_left hoff, Nat.min_eq_left (by omega)]
              refine ARs_append ha ?_ ?_
              · rw [List.length_append, List.length_append, hcs, hlen, List.length_take, List.length_take, Nat.min_eq_left (by omega : off * xe.size ≤ C.toList.length), Nat.min_eq_left hoff, Nat.add_mul]
              · have := ARs_drop hq (off + (src.take len).length)
                rwa [Nat.add_mul, hlen, ← hcs, ← hlen] at this
          · cases h
        · cases h
      · cases h
    · cases h
  · rename_i src hn
    simp only [Option.some.injEq, Prod.mk.injEq] at h
    obtain ⟨rfl, rfl⟩ := h
    obtain ⟨news, k1, k2, k3, k4⟩ := src_spec (P := P) hr hx hn
    simp only [VR] at hy
    subst hy
    have hf := k4 w rfl (Nat.min src.length 0) (Nat.min_le_left _ _)
    refine ⟨_, _, run_cpy (B := none) (ty := ty) (w' := w) hts h1 h2 k3 hf rfl, ?_⟩
    refine Post.same hr ?_
    rw [show Nat.min src.length 0 = 0 from Nat.min_eq_right (Nat.zero_le _)]
    simp [VR, intV, goInt]
  · cases h
end
end Go.Proofs.Ytcmejocmohohpaa.R

