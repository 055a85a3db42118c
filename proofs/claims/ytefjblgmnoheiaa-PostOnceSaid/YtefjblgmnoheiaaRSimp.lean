/- Equations of the evaluator, for simp. -/
import Derived.Test.YtefjblgmnoheiaaRDefs
set_option linter.unusedVariables false
noncomputable section
namespace Go.Proofs.Ytefjblgmnoheiaa.R
open Go
section
variable {α : Type}
theorem lk_nil (t : Nat) : lk ([] : List (Nat × α)) t = none := rfl
theorem lk_cons (k : Nat) (v : α) (r : List (Nat × α)) (t : Nat) : lk ((k, v) :: r) t = if k = t then some v else lk r t := by
  change Bool.rec (motive := fun _ => Option α) (lk r t) (some v) (Nat.beq k t) = _
  cases h : Nat.beq k t
  · have := Nat.ne_of_beq_eq_false h; simp [this]
  · have := Nat.eq_of_beq_eq_true h; simp [this]
theorem upd_nil (t : Nat) (x : α) : upd ([] : List (Nat × α)) t x = none := rfl
theorem upd_cons (k : Nat) (v x : α) (r : List (Nat × α)) (t : Nat) : upd ((k, v) :: r) t x = if k = t then some ((k, x) :: r) else (upd r t x).map ((k, v) :: ·) := by
  change Bool.rec (motive := fun _ => Option (List (Nat × α))) (Option.rec (motive := fun _ => Option (List (Nat × α))) none (fun r' => some ((k, v) :: r')) (upd r t x)) (some ((k, x) :: r)) (Nat.beq k t) = _
  cases h : Nat.beq k t
  · have := Nat.ne_of_beq_eq_false h; simp only [this, if_false]; cases upd r t x <;> rfl
  · have := Nat.eq_of_beq_eq_true h; simp [this]
theorem rmv_nil (t : Nat) : rmv ([] : List (Nat × α)) t = [] := rfl
theorem rmv_cons (k : Nat) (v : α) (r : List (Nat × α)) (t : Nat) : rmv ((k, v) :: r) t = if k = t then rmv r t else (k, v) :: rmv r t := by
  change Bool.rec (motive := fun _ => List (Nat × α)) ((k, v) :: rmv r t) (rmv r t) (Nat.beq k t) = _
  cases h : Nat.beq k t
  · have := Nat.ne_of_beq_eq_false h; simp [this]
  · have := Nat.eq_of_beq_eq_true h; simp [this]
theorem pos_nil (t : Nat) : pos [] t = none := rfl
theorem pos_cons (x : Nat) (r : List Nat) (t : Nat) : pos (x :: r) t = if x = t then some 0 else (pos r t).map (· + 1) := by
  change Bool.rec (motive := fun _ => Option Nat) (Option.rec (motive := fun _ => Option Nat) none (fun n => some (n + 1)) (pos r t)) (some 0) (Nat.beq x t) = _
  cases h : Nat.beq x t
  · have := Nat.ne_of_beq_eq_false h; simp only [this, if_false]; cases pos r t <;> rfl
  · have := Nat.eq_of_beq_eq_true h; simp [this]
end

/-- One step behind another. -/
def andThen (x : Option St) (f : St → Option St) : Option St :=
  match x with
  | some s => f s
  | none => none
theorem andThen_some (s : St) (f : St → Option St) : andThen (some s) f = f s := rfl
theorem andThen_none (f : St → Option St) : andThen none f = none := rfl
theorem andThen_ite (p : Prop) [Decidable p] (a b : Option St) (f : St → Option St) : andThen (if p then a else b) f = if p then andThen a f else andThen b f := by split <;> rfl
/-- A value with a state, put into a slot. -/
def putR (d : Option Nat) (x : Option (AV × St)) : Option St :=
  match x with
  | some (v, s) => some (s.putO d v)
  | none => none
theorem putR_some (d : Option Nat) (v : AV) (s : St) : putR d (some (v, s)) = some (s.putO d v) := rfl
theorem putR_none (d : Option Nat) : putR d none = none := rfl
theorem putR_ite (d : Option Nat) (p : Prop) [Decidable p] (a b : Option (AV × St)) : putR d (if p then a else b) = if p then putR d a else putR d b := by split <;> rfl
theorem nowS_eq (s : St) : nowS s = some s := rfl
theorem nowN_eq {α : Type} (n : Nat) (k : Nat → α) : nowN n k = k n := by cases n <;> rfl
theorem nowI_eq {α : Type} (n : Int) (k : Int → α) : nowI n k = k n := by cases n <;> simp [nowI, nowN_eq]
theorem nowB_eq {α : Type} (n : Bool) (k : Bool → α) : nowB n k = k n := by cases n <;> rfl
theorem numV_eq (k : IntKind) (n : Int) : numV k n = some (.int k n) := by simp [numV, nowI_eq]
theorem truV_eq (b : Bool) : truV b = some (.bool b) := by simp [truV, nowB_eq]
theorem evOps_nil (c : Cfg) (cl : Callee) (nt : Nat) (s : St) : evOps c cl nt [] s = some s := rfl
theorem evOps_cons (c : Cfg) (cl : Callee) (nt : Nat) (o : Iop) (r : List Iop) (s : St) : evOps c cl nt (o :: r) s = andThen (evIO c cl nt o s) (evOps c cl nt r) := by
  change Option.rec (motive := fun _ => Option St) none (evOps c cl nt r) (evIO c cl nt o s) = _
  cases evIO c cl nt o s <;> rfl
theorem evIO_plain (c : Cfg) (cl : Callee) (nt : Nat) (d : Nat) (op : IP) (s : St) (h : Nat.blt d nt = true) : evIO c cl nt ⟨some d, none, op⟩ s = putR (some d) (evOp c cl s op) := by
  simp only [evIO, dstOk, h, wantA, cond_true]
  cases evOp c cl s op <;> rfl
theorem evIO_store (c : Cfg) (cl : Callee) (nt : Nat) (op : IP) (s : St) : evIO c cl nt ⟨none, none, op⟩ s = putR none (evOp c cl s op) := by
  simp only [evIO, dstOk, wantA, cond_true]
  cases evOp c cl s op <;> rfl
def guardK (g : Option Bool) (x y : Option St) : Option St :=
  match g with
  | some b => if b = true then x else y
  | none => none
theorem guardK_some (b : Bool) (x y : Option St) : guardK (some b) x y = if b = true then x else y := rfl
theorem evIO_guard (c : Cfg) (cl : Callee) (nt : Nat) (d : Nat) (g : Nat × Bool) (op : IP) (s : St) (h : Nat.blt d nt = true) :
    evIO c cl nt ⟨some d, some g, op⟩ s = guardK (wantA s (some g)) (putR (some d) (evOp c cl s op)) (some (s.put d .un)) := by
  simp only [evIO, dstOk, h, cond_true]
  cases wantA s (some g) with
  | none => rfl
  | some b => cases b <;> simp only [guardK, cond_true, cond_false] <;> first | rfl | (cases evOp c cl s op <;> rfl)
theorem evIO_guardN (c : Cfg) (cl : Callee) (nt : Nat) (g : Nat × Bool) (op : IP) (s : St) :
    evIO c cl nt ⟨none, some g, op⟩ s = guardK (wantA s (some g)) (putR none (evOp c cl s op)) (some s) := by
  simp only [evIO, dstOk, cond_true]
  cases wantA s (some g) with
  | none => rfl
  | some b => cases b <;> simp only [guardK, cond_true, cond_false] <;> first | rfl | (cases evOp c cl s op <;> rfl)
theorem evLoop_zero (m : Nat) (body : St → Run) (n0 : Nat) (s : St) : evLoop m body 0 n0 s = none := rfl
theorem evLoop_succ (m : Nat) (body : St → Run) (n n0 : Nat) (s : St) : evLoop m body (n + 1) n0 s = seqK (body (s.head m n0)) (evLoop m body n (s.head m n0).nx) := rfl
section
variable (c : Cfg) (cl : Callee) (rg : List (Nat × Nat) → List Iop → St → Option St) (nt m n : Nat) (s : St)
theorem evC_skip : evC c cl rg nt m n .skip s = some (.norm, s) := rfl
theorem evC_reg (ops : List Iop) : evC c cl rg nt m n (.reg none ops) s = regK (evOps c cl nt ops s) := rfl
theorem evC_regd (k : List (Nat × Nat)) (ops : List Iop) : evC c cl rg nt m n (.reg (some k) ops) s = regK (rg k ops s) := rfl
theorem evC_seq (a b : IC) : evC c cl rg nt m n (.seq a b) s = seqK (evC c cl rg nt m n a s) (evC c cl rg nt m n b) := rfl
theorem evC_cond (x : Opd) (a b : IC) : evC c cl rg nt m n (.cond x a b) s = condK (s.ev x) (evC c cl rg nt m n a s) (evC c cl rg nt m n b s) := rfl
theorem evC_block (id : Nat) (b : IC) : evC c cl rg nt m n (.block id b) s = blockK id (evC c cl rg nt m n b s) := rfl
theorem evC_loop (b : IC) : evC c cl rg nt m n (.loop b) s = evLoop m (evC c cl rg nt m n b) n 0 s := rfl
theorem evC_out (id : Nat) : evC c cl rg nt m n (.out id) s = some (.out id, s) := rfl
theorem evC_ret : evC c cl rg nt m n .ret s = some (.ret, s) := rfl
end
theorem seqK_norm (s : St) (f : St → Run) : seqK (some (.norm, s)) f = f s := rfl
theorem seqK_out (id : Nat) (s : St) (f : St → Run) : seqK (some (.out id, s)) f = some (.out id, s) := rfl
theorem seqK_ret (s : St) (f : St → Run) : seqK (some (.ret, s)) f = some (.ret, s) := rfl
theorem seqK_none (f : St → Run) : seqK none f = none := rfl
theorem seqK_ite (p : Prop) [Decidable p] (a b : Run) (f : St → Run) : seqK (if p then a else b) f = if p then seqK a f else seqK b f := by split <;> rfl
theorem blockK_norm (id : Nat) (s : St) : blockK id (some (.norm, s)) = some (.norm, s) := rfl
theorem blockK_ret (id : Nat) (s : St) : blockK id (some (.ret, s)) = some (.ret, s) := rfl
theorem blockK_out (id j : Nat) (s : St) : blockK id (some (.out j, s)) = if j = id then some (.norm, s) else some (.out j, s) := rfl
theorem blockK_none (id : Nat) : blockK id none = none := rfl
theorem blockK_ite (id : Nat) (p : Prop) [Decidable p] (a b : Run) : blockK id (if p then a else b) = if p then blockK id a else blockK id b := by split <;> rfl
theorem regK_some (s : St) : regK (some s) = some (.norm, ⟨s.env, [], s.H, s.nx⟩) := rfl
theorem regK_none : regK none = none := rfl
theorem regK_ite (p : Prop) [Decidable p] (a b : Option St) : regK (if p then a else b) = if p then regK a else regK b := by split <;> rfl
theorem condK_bool (t : Bool) (a b : Run) : condK (.bool t) a b = if t = true then a else b := by cases t <;> rfl
theorem get_mk (e l : List (Nat × AV)) (H : Heap) (nx t : Nat) : St.get ⟨e, l, H, nx⟩ t = ((lk l t).getD ((lk e t).getD .bad)) := by
  change getL l e t = _
  unfold getL
  cases lk l t <;> cases lk e t <;> rfl
def updD (e l : List (Nat × AV)) (H : Heap) (nx d : Nat) (v : AV) (x : Option (List (Nat × AV))) : St :=
  match x with
  | some e' => ⟨e', l, H, nx⟩
  | none => ⟨e, (d, v) :: l, H, nx⟩
theorem updD_some (e l : List (Nat × AV)) (H : Heap) (nx d : Nat) (v : AV) (e' : List (Nat × AV)) : updD e l H nx d v (some e') = ⟨e', l, H, nx⟩ := rfl
theorem updD_none (e l : List (Nat × AV)) (H : Heap) (nx d : Nat) (v : AV) : updD e l H nx d v none = ⟨e, (d, v) :: l, H, nx⟩ := rfl
theorem put_mk (e l : List (Nat × AV)) (H : Heap) (nx d : Nat) (v : AV) : St.put ⟨e, l, H, nx⟩ d v = updD e l H nx d v (upd e d v) := by
  change Option.rec (motive := fun _ => St) ⟨e, (d, v) :: l, H, nx⟩ (fun e' => ⟨e', l, H, nx⟩) (upd e d v) = _
  cases upd e d v <;> rfl
theorem putO_some (s : St) (d : Nat) (v : AV) : s.putO (some d) v = s.put d v := rfl
theorem putO_none (s : St) (v : AV) : s.putO none v = s := rfl
theorem ev_t (s : St) (n : Nat) : s.ev (.t n) = s.get n := rfl
theorem ev_c (s : St) (v : AV) : s.ev (.c v) = v := rfl
theorem keep_some (s : St) (v : AV) : keep s (some v) = some (v, s) := rfl
theorem keep_none (s : St) : keep s none = none := rfl
theorem keep_ite (s : St) (p : Prop) [Decidable p] (a b : Option AV) : keep s (if p then a else b) = if p then keep s a else keep s b := by split <;> rfl
theorem shl_ne : shB .shl = true := rfl
theorem bin_int (op : BinOp) (k : IntKind) (a b : Int) : binAV op (.int k a) (.int k b) = binInt op k a b := by simp [binAV]
theorem bin_str (op : BinOp) (a b : ByteArray) : binAV op (.str a) (.str b) = binStr op a b := rfl
theorem resAV_nil (s : St) : resAV s [] = some [] := rfl

attribute [simp] lk_nil lk_cons upd_nil upd_cons rmv_nil rmv_cons pos_nil pos_cons andThen_some andThen_none andThen_ite putR_some putR_none putR_ite nowS_eq nowN_eq nowI_eq nowB_eq numV_eq truV_eq evOps_nil evOps_cons evIO_plain evIO_store guardK_some evIO_guard evIO_guardN evLoop_zero evLoop_succ evC_skip evC_reg evC_regd evC_seq evC_cond evC_block evC_loop evC_out evC_ret seqK_norm seqK_out seqK_ret seqK_none seqK_ite blockK_norm blockK_ret blockK_out blockK_none blockK_ite regK_some regK_none regK_ite condK_bool get_mk updD_some updD_none put_mk putO_some putO_none ev_t ev_c keep_some keep_none keep_ite shl_ne bin_int bin_str resAV_nil evOp
end Go.Proofs.Ytefjblgmnoheiaa.R
