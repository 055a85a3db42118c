/- The evaluator's equations, bundled for simp. -/
import Derived.Test.YtefjblgmnoheiaaREnc
import Derived.Test.YtefjblgmnoheiaaREqs
set_option linter.unusedVariables false
set_option linter.unusedSectionVars false
set_option linter.unusedSimpArgs false
noncomputable section
namespace Go.Proofs.Ytefjblgmnoheiaa.R
open Go
/-- All calls of functions are frozen; all are local. -/
def cT (P : Program) : Cfg := { P := P, fn := fun _ => none, fz := fun _ => true }
/-- Some functions are lent places, the others are frozen. -/
def cM (P : Program) (lent : List Nat) : Cfg := { P := P, fn := fun _ => none, fz := fun f => !(memN f lent) }
def cF (P : Program) : Cfg := { P := P, fn := fun _ => none, fz := fun _ => false }
def evR (c : Cfg) (cl : Callee) (nt : Nat) (l : List Iop) (s : St) : Option St := match evOps c cl nt l s with | some s' => some s'.clr | none => none
def clrK (x : Option St) : Option St := match x with | some s => some s.clr | none => none
theorem evR_eq (c : Cfg) (cl : Callee) (nt : Nat) (l : List Iop) (s : St) : evR c cl nt l s = clrK (evOps c cl nt l s) := rfl
theorem clrK_some (e l : List (Nat × AV)) (H : Heap) (n : Nat) : clrK (some ⟨e, l, H, n⟩) = some ⟨e, [], H, n⟩ := rfl
section
variable {P : Program} {nt m : Nat} {s s1 : St} {Q : Ex → St → Prop} {c : Cfg} {cl : Callee}
theorem Wp.regE {l : List Iop} (hcl : Sound P cl) (h : evR c cl nt l s = some s1) (h2 : Q .norm s1) : Wp P nt m (.reg none l) s Q := by
  unfold evR at h
  split at h
  · rename_i s' he
    obtain rfl := Option.some.inj h
    exact Wp.reg (OpsW.end hcl he h2)
  · cases h
theorem OpsW.many {l : List Iop} {T : St → Prop} (n : Nat) (hcl : Sound P cl) (h : evOps c cl nt (l.take n) s = some s1) (h2 : OpsW P nt m (l.drop n) s1 T) : OpsW P nt m l s T := by
  have := OpsW.chunk (P := P) (m := m) hcl h h2
  rwa [List.take_append_drop] at this
theorem OpsW.last {l : List Iop} (hcl : Sound P cl) (h : evR c cl nt l s = some s1) (h2 : Q .norm s1) : OpsW P nt m l s (fun s' => Q .norm s'.clr) := by
  unfold evR at h
  split at h
  · rename_i s' he
    obtain rfl := Option.some.inj h
    exact OpsW.end hcl he h2
  · cases h
def evRD (c : Cfg) (cl : Nat → Callee) (nt : Nat) (k : List (Nat × Nat)) (l : List Iop) (s : St) : Option St := match drawF c cl nt k l s with | some s' => some s'.clr | none => none
theorem evRD_eq (c : Cfg) (cl : Nat → Callee) (nt : Nat) (k : List (Nat × Nat)) (l : List Iop) (s : St) : evRD c cl nt k l s = clrK (drawF c cl nt k l s) := rfl
theorem Wp.regD {l : List Iop} {k : List (Nat × Nat)} (hP : P.follows .mixedOrders = true) {c : Cfg} (hcP : c.P = P) {cl : Nat → Callee} (hcl : ∀ i, Sound P (cl i)) (h : evRD c cl nt k l s = some s1) (h2 : Q .norm s1) : Wp P nt m (.reg (some k) l) s Q := by
  unfold evRD at h
  split at h
  · rename_i s' he
    obtain rfl := Option.some.inj h
    exact Wp.regf hP hcP hcl he h2
  · cases h
theorem LWp.stepC {b b' : IC} (hb : b = b') (h : Wp P nt m b' s (loopQ P nt m b Q)) : LWp P nt m b s Q := by subst hb; exact LWp.step h
theorem seqN {b : IC} (h : Wp P nt m b s Q) : seqQ P nt m b Q .norm s := h
theorem seqR {b : IC} (h : Q .ret s) : seqQ P nt m b Q .ret s := h
theorem seqO {b : IC} {j : Nat} (h : Q (.out j) s) : seqQ P nt m b Q (.out j) s := h
theorem loopN {b : IC} (h : LWp P nt m b s Q) : loopQ P nt m b Q .norm s := h
theorem loopR {b : IC} (h : Q .ret s) : loopQ P nt m b Q .ret s := h
theorem loopO {b : IC} {j : Nat} (h : Q (.out j) s) : loopQ P nt m b Q (.out j) s := h
theorem blockN {id : Nat} (h : Q .norm s) : blockQ id Q .norm s := h
theorem blockR {id : Nat} (h : Q .ret s) : blockQ id Q .ret s := h
theorem blockO {id : Nat} (h : Q .norm s) : blockQ id Q (.out id) s := by simpa [blockQ] using h
theorem blockP {id j : Nat} (hne : Nat.beq j id = false) (h : Q (.out j) s) : blockQ id Q (.out j) s := by
  have : ¬ j = id := Nat.ne_of_beq_eq_false hne
  simpa [blockQ, this] using h
theorem Wp.weakE {ic : IC} {l : List WA} {s' : St} (hw : evW m l s = some s') (h : Wp P nt m ic s' Q) : Wp P nt m ic s Q := Wp.weak (R.weak hw) h
theorem LWp.weakE {ic : IC} {l : List WA} {s' : St} (hw : evW m l s = some s') (h : LWp P nt m ic s' Q) : LWp P nt m ic s Q := LWp.weak (R.weak hw) h
end
/-! ### Calls -/
def fzK (s : St) (args : List AV) : Option (AV × Heap × Nat) → Option (AV × St)
  | some (r, H1, _) => fzRet s args (frz H1 r)
  | none => none
theorem callT (P : Program) (cl : Callee) (s : St) (f : Nat) (args : List AV) : callAV (cT P) cl s f args = fzK s args (cl f (frzs s.H args) [] 0) := by
  unfold callAV
  rw [if_pos (show (cT P).fz f = true from rfl)]
  rfl
theorem fzK_some (s : St) (args : List AV) (r : AV) (H1 : Heap) (n : Nat) : fzK s args (some (r, H1, n)) = fzRet s args (frz H1 r) := rfl
theorem fzRet_eq (s : St) (args : List AV) (r : AV) : fzRet s args r = if plainB r = true then some (r, s) else if idFree r = true then some (r, s.setH (leakVs s.H args)) else none := rfl
def locK (s : St) (l : List Nat) : Option (AV × Heap × Nat) → Option (AV × St)
  | some (r, H1, n1) => some (ren (backId l l.length n1 s.nx) r, { s with H := renH (backId l l.length n1 s.nx) H1 ++ dropAll s.H l, nx := s.nx + (n1 - l.length) })
  | none => none
def locC (cl : Callee) (s : St) (f : Nat) (args : List AV) (l : List Nat) : Option (AV × St) := locK s l (cl f (rens (pos l) args) (canG (renH (pos l) s.H) l.length) l.length)
theorem locC_eq (cl : Callee) (s : St) (f : Nat) (args : List AV) (l : List Nat) : locC cl s f args l = locK s l (cl f (rens (pos l) args) (canG (renH (pos l) s.H) l.length) l.length) := rfl
theorem callL (P : Program) (cl : Callee) (s : St) (f : Nat) (args : List AV) : callAV (cF P) cl s f args = locC cl s f args (reach s.H fuelR args []) := by
  unfold callAV
  rw [if_neg (show ¬ (cF P).fz f = true by simp [cF])]
  rfl
def cmK (cl : Callee) (s : St) (f : Nat) (args : List AV) (b : Bool) : Option (AV × St) := if b = true then locC cl s f args (reach s.H fuelR args []) else fzK s args (cl f (frzs s.H args) [] 0)
theorem cmK_t (cl : Callee) (s : St) (f : Nat) (args : List AV) : cmK cl s f args true = locC cl s f args (reach s.H fuelR args []) := rfl
theorem cmK_f (cl : Callee) (s : St) (f : Nat) (args : List AV) : cmK cl s f args false = fzK s args (cl f (frzs s.H args) [] 0) := rfl
theorem callM (P : Program) (lent : List Nat) (cl : Callee) (s : St) (f : Nat) (args : List AV) : callAV (cM P lent) cl s f args = cmK cl s f args (memN f lent) := by
  unfold callAV cmK
  have : (cM P lent).fz f = !(memN f lent) := rfl
  rw [this]
  cases memN f lent <;> rfl
theorem cM_fz (P : Program) (lent : List Nat) (f : Nat) : (cM P lent).fz f = !(memN f lent) := rfl
theorem locK_some (e l0 : List (Nat × AV)) (H : Heap) (nx : Nat) (l : List Nat) (r : AV) (H1 : Heap) (n1 : Nat) : locK ⟨e, l0, H, nx⟩ l (some (r, H1, n1)) = some (ren (backId l l.length n1 nx) r, ⟨e, l0, renH (backId l l.length n1 nx) H1 ++ dropAll H l, nx + (n1 - l.length)⟩) := rfl
theorem callv_fn (c : Cfg) (cl : Callee) (s : St) (f : Nat) (pre post args : List AV) : callvAV c cl s (.fn (.func f) pre post) args = callAV c cl s f (pre ++ (args ++ post)) := rfl
/-! ### Parts of memory -/
/-- The slice that holds nothing. -/
def nilI : AV := canI []
theorem sl_nil {α : Type} (c : α → List AV) : sl c [] = nilI := rfl
theorem frz_nil (H : Heap) : frz H .nil = nilI := rfl
theorem frz_imm0 (H : Heap) (es : Nat) (ex : Bool) : frz H (.imm es [] ex) = nilI := rfl
theorem frz_nilI (H : Heap) : frz H nilI = nilI := rfl
theorem leak_nilI (H : Heap) : leakV H nilI = H := rfl
theorem ren_nilI (f : Nat → Option Nat) : ren f nilI = nilI := rfl
theorem cell_nilI : cellB nilI = true := rfl
theorem idf_nilI : idFree nilI = true := rfl
theorem pl_nilI : plainB nilI = false := rfl
theorem cells_nilI : cellsOf nilI = some [nilI] := rfl
theorem lenl_nilI : lenlAV nilI = some (.int .i64 0) := rfl
theorem rows_nilI (n : Nat) (H : Heap) : rowsOf n H nilI = some [] := rfl
theorem src_nilI (n : Nat) (H : Heap) : srcRows n H nilI = some [] := rfl
theorem reach_nilI (H : Heap) (k : Nat) (todo : List AV) (acc : List Nat) : reach H (k + 1) (nilI :: todo) acc = reach H k todo acc := by simp [nilI, canI, reach]
/-! ### Bundles -/
theorem frz_bool (H : Heap) (b : Bool) : frz H (.bool b) = .bool b := rfl
theorem frz_int (H : Heap) (k : IntKind) (n : Int) : frz H (.int k n) = .int k n := rfl
theorem frz_str (H : Heap) (s : ByteArray) : frz H (.str s) = .str s := rfl
theorem frz_agg (H : Heap) (cs : List AV) : frz H (.agg cs) = .agg (frzs H cs) := rfl
theorem frz_tup (H : Heap) (cs : List AV) : frz H (.tup cs) = .tup (frzs H cs) := rfl
theorem frzs_nil (H : Heap) : frzs H [] = [] := rfl
theorem frzs_cons (H : Heap) (v : AV) (r : List AV) : frzs H (v :: r) = frz H v :: frzs H r := rfl
theorem leak_bool (H : Heap) (b : Bool) : leakV H (.bool b) = H := rfl
theorem leak_int (H : Heap) (k : IntKind) (n : Int) : leakV H (.int k n) = H := rfl
theorem leak_str (H : Heap) (s : ByteArray) : leakV H (.str s) = H := rfl
theorem leak_nil (H : Heap) : leakV H .nil = H := rfl
theorem leak_agg (H : Heap) (cs : List AV) : leakV H (.agg cs) = leakVs H cs := rfl
theorem leak_tup (H : Heap) (cs : List AV) : leakV H (.tup cs) = leakVs H cs := rfl
theorem leaks_nil (H : Heap) : leakVs H [] = H := rfl
theorem leaks_cons (H : Heap) (v : AV) (r : List AV) : leakVs H (v :: r) = leakVs (leakV H v) r := rfl
theorem ren_bool (f : Nat → Option Nat) (b : Bool) : ren f (.bool b) = .bool b := rfl
theorem ren_int (f : Nat → Option Nat) (k : IntKind) (n : Int) : ren f (.int k n) = .int k n := rfl
theorem ren_str (f : Nat → Option Nat) (s : ByteArray) : ren f (.str s) = .str s := rfl
theorem ren_nil (f : Nat → Option Nat) : ren f .nil = .nil := rfl
theorem ren_un (f : Nat → Option Nat) : ren f .un = .un := rfl
theorem ren_bad (f : Nat → Option Nat) : ren f .bad = .bad := rfl
theorem ren_agg (f : Nat → Option Nat) (cs : List AV) : ren f (.agg cs) = .agg (rens f cs) := rfl
theorem ren_tup (f : Nat → Option Nat) (cs : List AV) : ren f (.tup cs) = .tup (rens f cs) := rfl
theorem ren_fn (f : Nat → Option Nat) (g : Fn) (a b : List AV) : ren f (.fn g a b) = .fn g (rens f a) (rens f b) := rfl
theorem ren_imm (f : Nat → Option Nat) (es : Nat) (rows : List (List AV)) (ex : Bool) : ren f (.imm es rows ex) = .imm es rows ex := rfl
def renK (id : Option Nat) (k : Nat → AV) : AV := match id with | some j => k j | none => .bad
theorem renK_some (j : Nat) (k : Nat → AV) : renK (some j) k = k j := rfl
theorem ren_own (f : Nat → Option Nat) (es id off len : Nat) (ex : Bool) : ren f (.own es id off len ex) = renK (f id) (fun j => .own es j off len ex) := by simp only [ren, renK]; cases f id <;> rfl
theorem ren_ptr (f : Nat → Option Nat) (id off : Nat) : ren f (.ptr id off) = renK (f id) (fun j => .ptr j off) := by simp only [ren, renK]; cases f id <;> rfl
theorem ren_eptr (f : Nat → Option Nat) (id i g : Nat) : ren f (.eptr id i g) = renK (f id) (fun j => .eptr j i g) := by simp only [ren, renK]; cases f id <;> rfl
theorem rens_nil (f : Nat → Option Nat) : rens f [] = [] := rfl
theorem rens_cons (f : Nat → Option Nat) (v : AV) (r : List AV) : rens f (v :: r) = ren f v :: rens f r := rfl
theorem renE_nil (f : Nat → Option Nat) : renEnv f [] = [] := rfl
theorem renE_cons (f : Nat → Option Nat) (t : Nat) (v : AV) (r : List (Nat × AV)) : renEnv f ((t, v) :: r) = (t, ren f v) :: renEnv f r := rfl
theorem renO_box (f : Nat → Option Nat) (cells : List AV) : renOb f (.box cells) = .box (rens f cells) := rfl
theorem renO_arr (f : Nat → Option Nat) (es : Nat) (rows : List (List AV)) (leak : Nat) : renOb f (.arr es rows leak) = .arr es rows leak := rfl
def renHK (id : Option Nat) (o : Ob) (r : Heap) : Heap := match id with | some j => (j, o) :: r | none => r
theorem renHK_some (j : Nat) (o : Ob) (r : Heap) : renHK (some j) o r = (j, o) :: r := rfl
theorem renHK_none (o : Ob) (r : Heap) : renHK none o r = r := rfl
theorem renHn (f : Nat → Option Nat) : renH f [] = [] := rfl
theorem renHc (f : Nat → Option Nat) (id : Nat) (o : Ob) (r : Heap) : renH f ((id, o) :: r) = renHK (f id) (renOb f o) (renH f r) := by simp only [renH, renHK]; cases f id <;> rfl
theorem vals_nil : valsOf [] = [] := rfl
theorem vals_cons (t : Nat) (v : AV) (r : List (Nat × AV)) : valsOf ((t, v) :: r) = v :: valsOf r := rfl
theorem reach_nil (H : Heap) (k : Nat) (acc : List Nat) : reach H (k + 1) [] acc = acc := rfl
def reachK (H : Heap) (k id : Nat) (todo : List AV) (acc : List Nat) (o : Option Ob) : List Nat :=
  if id ∈ acc then reach H k todo acc else match o with | some (.box cells) => reach H k (cells ++ todo) (acc ++ [id]) | some _ => reach H k todo (acc ++ [id]) | none => reach H k todo acc
theorem reachK_box (H : Heap) (k id : Nat) (todo : List AV) (acc : List Nat) (cells : List AV) : reachK H k id todo acc (some (.box cells)) = if id ∈ acc then reach H k todo acc else reach H k (cells ++ todo) (acc ++ [id]) := rfl
theorem reachK_arr (H : Heap) (k id : Nat) (todo : List AV) (acc : List Nat) (es : Nat) (rows : List (List AV)) (leak : Nat) : reachK H k id todo acc (some (.arr es rows leak)) = if id ∈ acc then reach H k todo acc else reach H k todo (acc ++ [id]) := rfl
theorem reachK_none (H : Heap) (k id : Nat) (todo : List AV) (acc : List Nat) : reachK H k id todo acc none = reach H k todo acc := by simp [reachK]
def reachJ (H : Heap) (k id : Nat) (todo : List AV) (acc : List Nat) (o : Option Ob) : List Nat :=
  if id ∈ acc then reach H k todo acc else match o with | some o => reach H k (subsA o ++ todo) (acc ++ [id]) | none => reach H k todo acc
theorem reachJ_some (H : Heap) (k id : Nat) (todo : List AV) (acc : List Nat) (es : Nat) (rows : List (List AV)) (leak : Nat) : reachJ H k id todo acc (some (.arr es rows leak)) = if id ∈ acc then reach H k todo acc else reach H k todo (acc ++ [id]) := rfl
theorem reachJ_none (H : Heap) (k id : Nat) (todo : List AV) (acc : List Nat) : reachJ H k id todo acc none = reach H k todo acc := by simp [reachJ]
theorem reach_own (H : Heap) (k es id off len : Nat) (ex : Bool) (todo : List AV) (acc : List Nat) : reach H (k + 1) (.own es id off len ex :: todo) acc = reachJ H k id todo acc (lk H id) := by
  simp only [reach, reachJ]
  split
  · rfl
  · cases lk H id <;> rfl
theorem reach_eptr (H : Heap) (k id i f : Nat) (todo : List AV) (acc : List Nat) : reach H (k + 1) (.eptr id i f :: todo) acc = reachJ H k id todo acc (lk H id) := by
  simp only [reach, reachJ]
  split
  · rfl
  · cases lk H id <;> rfl
theorem reach_ptr (H : Heap) (k id off : Nat) (todo : List AV) (acc : List Nat) : reach H (k + 1) (.ptr id off :: todo) acc = reachK H k id todo acc (lk H id) := by
  simp only [reach, reachK]
  split
  · rfl
  · cases lk H id with
    | none => rfl
    | some o => cases o <;> rfl
theorem reach_fn (H : Heap) (k : Nat) (g : Fn) (pre post todo : List AV) (acc : List Nat) : reach H (k + 1) (.fn g pre post :: todo) acc = reach H k (pre ++ (post ++ todo)) acc := rfl
theorem reach_agg (H : Heap) (k : Nat) (cs todo : List AV) (acc : List Nat) : reach H (k + 1) (.agg cs :: todo) acc = reach H k (cs ++ todo) acc := rfl
theorem reach_tup (H : Heap) (k : Nat) (cs todo : List AV) (acc : List Nat) : reach H (k + 1) (.tup cs :: todo) acc = reach H k (cs ++ todo) acc := rfl
theorem reach_int (H : Heap) (k : Nat) (q : IntKind) (n : Int) (todo : List AV) (acc : List Nat) : reach H (k + 1) (.int q n :: todo) acc = reach H k todo acc := rfl
theorem reach_bool (H : Heap) (k : Nat) (b : Bool) (todo : List AV) (acc : List Nat) : reach H (k + 1) (.bool b :: todo) acc = reach H k todo acc := rfl
theorem reach_str (H : Heap) (k : Nat) (b : ByteArray) (todo : List AV) (acc : List Nat) : reach H (k + 1) (.str b :: todo) acc = reach H k todo acc := rfl
theorem reach_nilv (H : Heap) (k : Nat) (todo : List AV) (acc : List Nat) : reach H (k + 1) (.nil :: todo) acc = reach H k todo acc := rfl
theorem reach_un (H : Heap) (k : Nat) (todo : List AV) (acc : List Nat) : reach H (k + 1) (.un :: todo) acc = reach H k todo acc := rfl
theorem reach_bad (H : Heap) (k : Nat) (todo : List AV) (acc : List Nat) : reach H (k + 1) (.bad :: todo) acc = reach H k todo acc := rfl
theorem reach_oth (H : Heap) (k : Nat) (v : Value) (todo : List AV) (acc : List Nat) : reach H (k + 1) (.oth v :: todo) acc = reach H k todo acc := rfl
theorem reach_imm (H : Heap) (k es : Nat) (rows : List (List AV)) (ex : Bool) (todo : List AV) (acc : List Nat) : reach H (k + 1) (.imm es rows ex :: todo) acc = reach H k todo acc := rfl
theorem reach_iptr (H : Heap) (k : Nat) (row : List AV) (f : Nat) (todo : List AV) (acc : List Nat) : reach H (k + 1) (.iptr row f :: todo) acc = reach H k todo acc := rfl
theorem fuelR_eq : fuelR = 1999 + 1 := rfl
def boxK : Option Ob → List AV | some (.box cells) => cells | some (.arx _ rows) => leadsV rows.flatten | _ => []
theorem box_eq (H : Heap) (id : Nat) : boxCells H id = boxK (lk H id) := by
  simp only [boxCells, boxK]
  cases lk H id with
  | none => rfl
  | some o => cases o <;> rfl
theorem boxK_box (cells : List AV) : boxK (some (.box cells)) = cells := rfl
theorem boxK_none : boxK none = [] := rfl
theorem boxK_arr (es : Nat) (rows : List (List AV)) (leak : Nat) : boxK (some (.arr es rows leak)) = [] := rfl
theorem places_eq (H : Heap) (m : Nat) (roots : List AV) : places H m roots = reach H fuelR ((List.range m).flatMap (boxCells H) ++ roots) (List.range m) := rfl
def tidK (s : St) (l : List Nat) : St := { env := renEnv (pos l) s.env, loc := [], H := renH (pos l) s.H, nx := l.length }
theorem tidy_eq (m : Nat) (s : St) : s.tidy m = tidK s (places s.H m (valsOf s.env)) := rfl
theorem tidK_mk (e l0 : List (Nat × AV)) (H : Heap) (n : Nat) (l : List Nat) : tidK ⟨e, l0, H, n⟩ l = ⟨renEnv (pos l) e, [], renH (pos l) H, l.length⟩ := rfl
/-! Weaker states -/
theorem evW_nil (m : Nat) (s : St) : evW m [] s = some s := rfl
def evWK (m : Nat) (r : List WA) : Option St → Option St | some s => evW m r s | none => none
theorem evW_cons (m : Nat) (x : WA) (r : List WA) (s : St) : evW m (x :: r) s = evWK m r (evW1 m x s) := by simp only [evW, evWK] <;> cases evW1 m x s <;> rfl
theorem evWK_some (m : Nat) (r : List WA) (s : St) : evWK m r (some s) = evW m r s := rfl
theorem ev1_kill (m : Nat) (ts : List Nat) (e l : List (Nat × AV)) (H : Heap) (n : Nat) : evW1 m (.kill ts) ⟨e, l, H, n⟩ = some ⟨killE ts e, l, H, n⟩ := rfl
theorem kill_nil (ts : List Nat) : killE ts [] = [] := rfl
theorem kill_cons (ts : List Nat) (t : Nat) (v : AV) (r : List (Nat × AV)) : killE ts ((t, v) :: r) = (if inB t ts = true then (t, .bad) else (t, v)) :: killE ts r := rfl
theorem inB_nil (t : Nat) : inB t [] = false := rfl
theorem inB_cons (t x : Nat) (r : List Nat) : inB t (x :: r) = (Nat.beq x t || inB t r) := rfl
def canK : Option St → Option St | some s => some ⟨s.env, s.loc, canG s.H s.nx, s.nx⟩ | none => none
theorem ev1_tidy (m : Nat) (s : St) : evW1 m .tidy s = canK (some (s.tidy m)) := rfl
theorem canK_some (e l : List (Nat × AV)) (H : Heap) (n : Nat) : canK (some ⟨e, l, H, n⟩) = some ⟨e, l, canG H n, n⟩ := rfl
theorem canG_zero (H : Heap) : canG H 0 = [] := rfl
def canN (H : Heap) (n : Nat) : Option Ob → Heap | some o => canG H n ++ [(n, o)] | none => canG H n
theorem canG_succ (H : Heap) (n : Nat) : canG H (n + 1) = canN H n (lk H n) := by simp only [canG, canN] <;> cases lk H n <;> rfl
theorem canN_some (H : Heap) (n : Nat) (o : Ob) : canN H n (some o) = canG H n ++ [(n, o)] := rfl
theorem canN_none (H : Heap) (n : Nat) : canN H n none = canG H n := rfl
def atK (k : AV × Heap × Nat) (l : List (Nat × AV)) : Option (List (Nat × AV)) → Option St | some e => some ⟨e, l, k.2.1, k.2.2⟩ | none => none
def atJ (k : WV) (t : Nat) (e l : List (Nat × AV)) (H : Heap) (n : Nat) : Option AV → Option St | some v => atK (wkV k v H n) l (upd e t (wkV k v H n).1) | none => none
theorem ev1_at (m t : Nat) (k : WV) (e l : List (Nat × AV)) (H : Heap) (n : Nat) : evW1 m (.at t k) ⟨e, l, H, n⟩ = atJ k t e l H n (lk e t) := by
  simp only [evW1, atJ]
  cases lk e t with
  | none => rfl
  | some v => simp only [atK] <;> cases upd e t (wkV k v H n).1 <;> rfl
theorem atJ_some (k : WV) (t : Nat) (e l : List (Nat × AV)) (H : Heap) (n : Nat) (v : AV) : atJ k t e l H n (some v) = atK (wkV k v H n) l (upd e t (wkV k v H n).1) := rfl
theorem atK_some (v : AV) (H : Heap) (n : Nat) (l e : List (Nat × AV)) : atK (v, H, n) l (some e) = some ⟨e, l, H, n⟩ := rfl
def ceL (e l : List (Nat × AV)) (n : Nat) : Option Heap → Option St | some H => some ⟨e, l, H, n⟩ | none => none
def ceK (k : AV × Heap × Nat) (id o : Nat) (cells : List AV) (e l : List (Nat × AV)) : Option St := ceL e l k.2.2 (upd k.2.1 id (.box (setAt cells o [k.1])))
def ceI (k : WV) (id o : Nat) (cells : List AV) (e l : List (Nat × AV)) (H : Heap) (n : Nat) : Option AV → Option St | some v => ceK (wkV k v H n) id o cells e l | none => none
def ceJ (k : WV) (id o : Nat) (e l : List (Nat × AV)) (H : Heap) (n : Nat) : Option Ob → Option St | some (.box cells) => ceI k id o cells e l H n cells[o]? | _ => none
def ceH (k : WV) (off : Nat) (e l : List (Nat × AV)) (H : Heap) (n : Nat) : Option AV → Option St | some (.ptr id o) => ceJ k id (o + off) e l H n (lk H id) | _ => none
theorem ev1_cell (m t off : Nat) (k : WV) (e l : List (Nat × AV)) (H : Heap) (n : Nat) : evW1 m (.cell t off k) ⟨e, l, H, n⟩ = ceH k off e l H n (lk e t) := by
  simp only [evW1, ceH]
  cases h : lk e t with
  | none => rfl
  | some v =>
    cases v <;> rfl
theorem ceH_ptr (k : WV) (off : Nat) (e l : List (Nat × AV)) (H : Heap) (n id o : Nat) : ceH k off e l H n (some (.ptr id o)) = ceJ k id (o + off) e l H n (lk H id) := rfl
theorem ceJ_box (k : WV) (id o : Nat) (e l : List (Nat × AV)) (H : Heap) (n : Nat) (cells : List AV) : ceJ k id o e l H n (some (.box cells)) = ceI k id o cells e l H n cells[o]? := rfl
theorem ceI_some (k : WV) (id o : Nat) (cells : List AV) (e l : List (Nat × AV)) (H : Heap) (n : Nat) (v : AV) : ceI k id o cells e l H n (some v) = ceK (wkV k v H n) id o cells e l := rfl
theorem ceK_mk (v : AV) (H : Heap) (n id o : Nat) (cells : List AV) (e l : List (Nat × AV)) : ceK (v, H, n) id o cells e l = ceL e l n (upd H id (.box (setAt cells o [v]))) := rfl
theorem ceL_some (e l : List (Nat × AV)) (n : Nat) (H : Heap) : ceL e l n (some H) = some ⟨e, l, H, n⟩ := rfl
def mvK (t es off len : Nat) (ex : Bool) (e l : List (Nat × AV)) (H : Heap) (n id : Nat) : Option Ob → Option St
  | some (.arr es' rows leak) => (match upd e t (.own es n off len ex) with | some e' => some ⟨e', l, (n, .arr es' rows leak) :: rmv H id, n + 1⟩ | none => none)
  | _ => none
def mvH (t : Nat) (e l : List (Nat × AV)) (H : Heap) (n : Nat) : Option AV → Option St
  | some (.own es id off len ex) => mvK t es off len ex e l H n id (lk H id)
  | _ => none
theorem ev1_mov (m t : Nat) (e l : List (Nat × AV)) (H : Heap) (n : Nat) : evW1 m (.mov t) ⟨e, l, H, n⟩ = mvH t e l H n (lk e t) := by
  simp only [evW1, mvH]
  cases h : lk e t with
  | none => rfl
  | some v =>
    cases v
    case own es id off len ex =>
      simp only [mvK]
      cases lk H id with
      | none => rfl
      | some o =>
        cases o
        · rfl
        · simp only
          cases upd e t (.own es n off len ex) <;> rfl
        · rfl
    all_goals rfl
theorem mvH_own (t es id off len : Nat) (ex : Bool) (e l : List (Nat × AV)) (H : Heap) (n : Nat) : mvH t e l H n (some (.own es id off len ex)) = mvK t es off len ex e l H n id (lk H id) := rfl
def mvL (l : List (Nat × AV)) (H : Heap) (n : Nat) : Option (List (Nat × AV)) → Option St | some e' => some ⟨e', l, H, n⟩ | none => none
theorem mvL_some (e' l : List (Nat × AV)) (H : Heap) (n : Nat) : mvL l H n (some e') = some ⟨e', l, H, n⟩ := rfl
theorem mvK_arr (t es off len : Nat) (ex : Bool) (e l : List (Nat × AV)) (H : Heap) (n id es' leak : Nat) (rows : List (List AV)) : mvK t es off len ex e l H n id (some (.arr es' rows leak)) = mvL l ((n, .arr es' rows leak) :: rmv H id) (n + 1) (upd e t (.own es n off len ex)) := by
  simp only [mvK, mvL]
def mcL (n j : Nat) (a : Ob) (e l : List (Nat × AV)) : Option Heap → Option St | some H => some ⟨e, l, (n, a) :: rmv H j, n + 1⟩ | none => none
def mcK (es f len : Nat) (ex : Bool) (id o j : Nat) (cells : List AV) (e l : List (Nat × AV)) (H : Heap) (n : Nat) : Option Ob → Option St
  | some (.arr es' rows leak) => mcL n j (.arr es' rows leak) e l (upd H id (.box (setAt cells o [.own es n f len ex])))
  | _ => none
def mcI (id o : Nat) (cells : List AV) (e l : List (Nat × AV)) (H : Heap) (n : Nat) : Option AV → Option St
  | some (.own es j f len ex) => mcK es f len ex id o j cells e l H n (lk H j)
  | _ => none
def mcJ (id o : Nat) (e l : List (Nat × AV)) (H : Heap) (n : Nat) : Option Ob → Option St
  | some (.box cells) => mcI id o cells e l H n cells[o]?
  | _ => none
def mcH (off : Nat) (e l : List (Nat × AV)) (H : Heap) (n : Nat) : Option AV → Option St
  | some (.ptr id o) => mcJ id (o + off) e l H n (lk H id)
  | _ => none
theorem ev1_movc (m t off : Nat) (e l : List (Nat × AV)) (H : Heap) (n : Nat) : evW1 m (.movc t off) ⟨e, l, H, n⟩ = mcH off e l H n (lk e t) := by
  simp only [evW1, mcH]
  cases h : lk e t with
  | none => rfl
  | some v =>
    cases v
    case ptr id o =>
      simp only [mcJ]
      cases h2 : lk H id with
      | none => rfl
      | some ob =>
        cases ob
        case arr => rfl
        case arx => rfl
        case box cells =>
          simp only [mcI]
          cases h3 : cells[o + off]? with
          | none => rfl
          | some c =>
            cases c
            case own es j f len ex =>
              simp only [mcK]
              cases lk H j with
              | none => rfl
              | some ob2 =>
                cases ob2
                · rfl
                · simp only [mcL]
                  cases upd H id (.box (setAt cells (o + off) [.own es n f len ex])) <;> rfl
                · rfl
            all_goals rfl
    all_goals rfl
theorem mcH_ptr (off id o : Nat) (e l : List (Nat × AV)) (H : Heap) (n : Nat) : mcH off e l H n (some (.ptr id o)) = mcJ id (o + off) e l H n (lk H id) := rfl
theorem mcJ_box (id o : Nat) (cells : List AV) (e l : List (Nat × AV)) (H : Heap) (n : Nat) : mcJ id o e l H n (some (.box cells)) = mcI id o cells e l H n cells[o]? := rfl
theorem mcI_own (id o : Nat) (cells : List AV) (e l : List (Nat × AV)) (H : Heap) (n es j f len : Nat) (ex : Bool) : mcI id o cells e l H n (some (.own es j f len ex)) = mcK es f len ex id o j cells e l H n (lk H j) := rfl
theorem mcK_arr (es f len : Nat) (ex : Bool) (id o j : Nat) (cells : List AV) (e l : List (Nat × AV)) (H : Heap) (n es' leak : Nat) (rows : List (List AV)) : mcK es f len ex id o j cells e l H n (some (.arr es' rows leak)) = mcL n j (.arr es' rows leak) e l (upd H id (.box (setAt cells o [.own es n f len ex]))) := rfl
theorem mcL_some (n j : Nat) (a : Ob) (e l : List (Nat × AV)) (H : Heap) : mcL n j a e l (some H) = some ⟨e, l, (n, a) :: rmv H j, n + 1⟩ := rfl
theorem ev1_drop (m : Nat) (ids : List Nat) (e l : List (Nat × AV)) (H : Heap) (n : Nat) : evW1 m (.drop ids) ⟨e, l, H, n⟩ = some ⟨e, l, dropAll H ids, n⟩ := rfl
def cuL (e l : List (Nat × AV)) (n : Nat) : Option Heap → Option St | some H => some ⟨e, l, H, n⟩ | none => none
def cuK (id k : Nat) (e l : List (Nat × AV)) (H : Heap) (n : Nat) : Option Ob → Option St
  | some (.arr es rows leak) => cuL e l n (upd H id (.arr es (rows.take k) leak))
  | _ => none
theorem ev1_cut (m id k : Nat) (e l : List (Nat × AV)) (H : Heap) (n : Nat) : evW1 m (.cut id k) ⟨e, l, H, n⟩ = cuK id k e l H n (lk H id) := by
  simp only [evW1, cuK]
  cases lk H id with
  | none => rfl
  | some o =>
    cases o
    · rfl
    · rename_i es rows leak
      simp only [cuL]
      cases upd H id (.arr es (rows.take k) leak) <;> rfl
    · rfl
theorem cuK_arr (id k : Nat) (e l : List (Nat × AV)) (H : Heap) (n es leak : Nat) (rows : List (List AV)) : cuK id k e l H n (some (.arr es rows leak)) = cuL e l n (upd H id (.arr es (rows.take k) leak)) := rfl
theorem cuL_some (e l : List (Nat × AV)) (n : Nat) (H : Heap) : cuL e l n (some H) = some ⟨e, l, H, n⟩ := rfl
theorem wk_frz (v : AV) (H : Heap) (n : Nat) : wkV .frz v H n = (frz H v, leakV H v, n) := rfl
theorem wk_nil (es : Nat) (H : Heap) (n : Nat) : wkV (.virt es) .nil H n = (.own es n 0 0 false, (n, .arr es [] 0) :: H, n + 1) := rfl
theorem wk_own (es es' id off len : Nat) (ex : Bool) (H : Heap) (n : Nat) : wkV (.virt es) (.own es' id off len ex) H n = (.own es' id off len false, H, n) := rfl
/-! Results -/
def retQ (m : Nat) (s : St) : Option (List AV) → Option (AV × Heap × Nat)
  | some vs => (match places s.H m vs with | l => some (ren (pos l) (one vs), renH (pos l) s.H, l.length))
  | none => none
def retL (v : AV) (H : Heap) (l : List Nat) : Option (AV × Heap × Nat) := some (ren (pos l) v, renH (pos l) H, l.length)
theorem retQ_some (m : Nat) (e l : List (Nat × AV)) (H : Heap) (n : Nat) (vs : List AV) : retQ m ⟨e, l, H, n⟩ (some vs) = retL (one vs) H (places H m vs) := rfl
theorem retL_eq (v : AV) (H : Heap) (l : List Nat) : retL v H l = some (ren (pos l) v, renH (pos l) H, l.length) := rfl
theorem retR (m : Nat) (res : List IR) (s : St) : retK m res (some (.ret, s)) = retQ m s (resAV s res) := by
  have h1 : retK m res (some (.ret, s)) = match resAV s res with
      | some vs => (match places s.H m vs with | l => some (ren (pos l) (one vs), renH (pos l) s.H, l.length))
      | none => none := rfl
  rw [h1]
  cases resAV s res <;> rfl
theorem retN (m : Nat) (res : List IR) (s : St) : retK m res (some (.norm, s)) = retQ m s (resAV s res) := by
  have h1 : retK m res (some (.norm, s)) = match resAV s res with
      | some vs => (match places s.H m vs with | l => some (ren (pos l) (one vs), renH (pos l) s.H, l.length))
      | none => none := rfl
  rw [h1]
  cases resAV s res <;> rfl
def resT (v : AV) : Option (List AV) → Option (List AV) | some l => some (v :: l) | none => none
theorem res_nil (s : St) : resAV s [] = some [] := rfl
theorem res_tmp (s : St) (t : Nat) (r : List IR) : resAV s (.tmp t :: r) = resT (s.get t) (resAV s r) := by simp only [resAV, resT]; cases resAV s r <;> rfl
def resC : Option AV → Option (List AV) → Option (List AV) | some v, some l => some (v :: l) | _, _ => none
theorem res_cell (s : St) (p size : Nat) (a : Bool) (r : List IR) : resAV s (.cell p a size :: r) = resC (loadAV a size s.H (s.get p)) (resAV s r) := by simp only [resAV, resC]; cases loadAV a size s.H (s.get p) <;> cases resAV s r <;> rfl
theorem resT_some (v : AV) (l : List AV) : resT v (some l) = some (v :: l) := rfl
theorem resC_some (v : AV) (l : List AV) : resC (some v) (some l) = some (v :: l) := rfl
theorem one_one (v : AV) : one [v] = v := rfl
theorem one_two (v w : AV) (r : List AV) : one (v :: w :: r) = .tup (v :: w :: r) := rfl
theorem one_nil : one [] = .tup [] := rfl
end Go.Proofs.Ytefjblgmnoheiaa.R
