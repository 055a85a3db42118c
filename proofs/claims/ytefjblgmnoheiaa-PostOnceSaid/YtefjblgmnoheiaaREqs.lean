/- More equations for simp: guards, results, frozen calls. -/
import Derived.Test.YtefjblgmnoheiaaRRow
set_option linter.unusedVariables false
set_option linter.unusedSectionVars false
set_option linter.unusedSimpArgs false
noncomputable section
namespace Go.Proofs.Ytefjblgmnoheiaa.R
open Go
def wantV (v : AV) (want : Bool) : Option Bool :=
  match v with
  | .bool b => some (b == want)
  | .un => some false
  | _ => none
theorem wantA_some (s : St) (d : Nat) (want : Bool) : wantA s (some (d, want)) = wantV (s.get d) want := rfl
theorem wantA_none (s : St) : wantA s none = some true := rfl
theorem wantV_bool (b want : Bool) : wantV (.bool b) want = some (b == want) := rfl
theorem wantV_un (want : Bool) : wantV .un want = some false := rfl
theorem eqb_bool (ng a b : Bool) : eqbAV ng (.bool a) (.bool b) = some (.bool (if ng then !(a == b) else a == b)) := by simp [eqbAV, truV_eq]
theorem nt_bool (a : Bool) : ntAV (.bool a) = some (.bool (!a)) := by simp [ntAV, truV_eq]
theorem ngt_int (k : IntKind) (n : Int) : ngtAV (.int k n) = some (.int k (k.wrap (0 - n))) := by simp [ngtAV, numV_eq]
theorem cvt_int (k k' : IntKind) (n : Int) : cvtAV k (.int k' n) = some (.int k (k.wrap n)) := by simp [cvtAV, numV_eq]
theorem pick_bool (b : Bool) (x y : AV) : pickAV (.bool b) x y = some (if b = true then x else y) := rfl
theorem bin_add (k : IntKind) (a b : Int) : binInt .add k a b = some (.int k (k.wrap (a + b))) := numV_eq _ _
theorem bin_sub (k : IntKind) (a b : Int) : binInt .sub k a b = some (.int k (k.wrap (a - b))) := numV_eq _ _
theorem bin_mul (k : IntKind) (a b : Int) : binInt .mul k a b = some (.int k (k.wrap (a * b))) := numV_eq _ _
theorem bin_quo (k : IntKind) (a b : Int) : binInt .quo k a b = if b = 0 then none else some (.int k (k.wrap (a.tdiv b))) := by simp [binInt, numV_eq]
theorem bin_rem (k : IntKind) (a b : Int) : binInt .rem k a b = if b = 0 then none else some (.int k (a.tmod b)) := by simp [binInt, numV_eq]
theorem bin_eql (k : IntKind) (a b : Int) : binInt .eql k a b = some (.bool (decide (a = b))) := by
  have : (a == b) = decide (a = b) := by by_cases h : a = b <;> simp [h]
  simp only [binInt, truV_eq, this]
theorem bin_neq (k : IntKind) (a b : Int) : binInt .neq k a b = some (.bool (decide (a ≠ b))) := by
  have : (a != b) = decide (a ≠ b) := by by_cases h : a = b <;> simp [h]
  simp only [binInt, truV_eq, this]
theorem bin_lss (k : IntKind) (a b : Int) : binInt .lss k a b = some (.bool (decide (a < b))) := truV_eq _
theorem bin_leq (k : IntKind) (a b : Int) : binInt .leq k a b = some (.bool (decide (a ≤ b))) := truV_eq _
theorem bin_gtr (k : IntKind) (a b : Int) : binInt .gtr k a b = some (.bool (decide (b < a))) := truV_eq _
theorem bin_geq (k : IntKind) (a b : Int) : binInt .geq k a b = some (.bool (decide (b ≤ a))) := truV_eq _

/-! ### Results -/
mutual
theorem ren_plain (f : Nat → Option Nat) : ∀ v : AV, plainB v = true → ren f v = v
  | .bool _, _ => rfl
  | .int _ _, _ => rfl
  | .str _, _ => rfl
  | .nil, _ => rfl
  | .oth _, _ => rfl
  | .agg cs, h => by simp only [ren]; rw [rens_plain f cs (by simpa [plainB] using h)]
  | .tup cs, h => by simp only [ren]; rw [rens_plain f cs (by simpa [plainB] using h)]
  | .bad, h => by simp [plainB] at h
  | .un, h => by simp [plainB] at h
  | .imm .., h => by simp [plainB] at h
  | .own .., h => by simp [plainB] at h
  | .ptr .., h => by simp [plainB] at h
  | .eptr .., h => by simp [plainB] at h
  | .iptr .., h => by simp [plainB] at h
  | .fn .., h => by simp [plainB] at h
theorem rens_plain (f : Nat → Option Nat) : ∀ vs : List AV, plainBs vs = true → rens f vs = vs
  | [], _ => rfl
  | v :: r, h => by
    simp only [plainBs, Bool.and_eq_true] at h
    simp only [rens]
    rw [ren_plain f v h.1, rens_plain f r h.2]
end
mutual
theorem frz_plain (H : Heap) : ∀ v : AV, plainB v = true → frz H v = v
  | .bool _, _ => rfl
  | .int _ _, _ => rfl
  | .str _, _ => rfl
  | .nil, h => by simp [plainB] at h
  | .oth _, _ => rfl
  | .agg cs, h => by simp only [frz]; rw [frzs_plain H cs (by simpa [plainB] using h)]
  | .tup cs, h => by simp only [frz]; rw [frzs_plain H cs (by simpa [plainB] using h)]
  | .bad, h => by simp [plainB] at h
  | .un, h => by simp [plainB] at h
  | .imm .., h => by simp [plainB] at h
  | .own .., h => by simp [plainB] at h
  | .ptr .., h => by simp [plainB] at h
  | .eptr .., h => by simp [plainB] at h
  | .iptr .., h => by simp [plainB] at h
  | .fn .., h => by simp [plainB] at h
theorem frzs_plain (H : Heap) : ∀ vs : List AV, plainBs vs = true → frzs H vs = vs
  | [], _ => rfl
  | v :: r, h => by
    simp only [plainBs, Bool.and_eq_true] at h
    simp only [frzs]
    rw [frz_plain H v h.1, frzs_plain H r h.2]
end
theorem plainBs_append : ∀ {a b : List AV}, plainBs a = true → plainBs b = true → plainBs (a ++ b) = true
  | [], b, _, h => h
  | x :: a, b, h, h' => by
    simp only [plainBs, List.cons_append, Bool.and_eq_true] at h ⊢
    exact ⟨h.1, plainBs_append h.2 h'⟩
theorem reach_plain (H : Heap) : ∀ (n : Nat) (vs : List AV), plainBs vs = true → reach H n vs [] = []
  | 0, vs, _ => by cases vs <;> rfl
  | n + 1, [], _ => rfl
  | n + 1, v :: r, h => by
    simp only [plainBs, Bool.and_eq_true] at h
    cases v <;> simp [plainB] at h <;> simp only [reach]
    case agg cs => exact reach_plain H n _ (plainBs_append h.1 h.2)
    case tup cs => exact reach_plain H n _ (plainBs_append h.1 h.2)
    all_goals exact reach_plain H n r h
theorem renH_nil : ∀ H : Heap, renH (pos []) H = []
  | [] => rfl
  | (i, o) :: r => by simp only [renH, pos_nil]; exact renH_nil r
theorem plain_one {vs : List AV} (h : plainBs vs = true) : plainB (one vs) = true := by
  match vs, h with
  | [], _ => rfl
  | [v], h => simp only [plainBs, Bool.and_eq_true] at h; exact h.1
  | _ :: _ :: _, h => exact h
/-- The results of a function that answers plain values. -/
def retP (s : St) : Option (List AV) → Option (AV × Heap × Nat)
  | some vs => if plainBs vs = true then some (one vs, [], 0) else (match places s.H 0 vs with | l => some (ren (pos l) (one vs), renH (pos l) s.H, l.length))
  | none => none
theorem retK_eq (res : List IR) (s : St) {e : Ex} (he : e = .ret ∨ e = .norm) : retK 0 res (some (e, s)) = retP s (resAV s res) := by
  have h1 : retK 0 res (some (e, s)) = match resAV s res with
      | some vs => (match places s.H 0 vs with | l => some (ren (pos l) (one vs), renH (pos l) s.H, l.length))
      | none => none := by rcases he with rfl | rfl <;> rfl
  rw [h1]
  cases hr : resAV s res with
  | none => rfl
  | some vs =>
    simp only [retP]
    split
    · rename_i hp
      have : places s.H 0 vs = [] := by
        unfold places
        simp only [List.range_zero, List.flatMap_nil, List.nil_append]
        exact reach_plain s.H fuelR vs hp
      simp only [this, ren_plain _ _ (plain_one hp), renH_nil, List.length_nil]
    · rfl
theorem retK_ret (res : List IR) (s : St) : retK 0 res (some (.ret, s)) = retP s (resAV s res) := retK_eq res s (.inl rfl)
theorem retK_norm (res : List IR) (s : St) : retK 0 res (some (.norm, s)) = retP s (resAV s res) := retK_eq res s (.inr rfl)
theorem retP_plain (s : St) (vs : List AV) (h : plainBs vs = true) : retP s (some vs) = some (one vs, [], 0) := by simp [retP, h]
theorem retK_ite (m : Nat) (res : List IR) (p : Prop) [Decidable p] (a b : Run) : retK m res (if p then a else b) = if p then retK m res a else retK m res b := by split <;> rfl
theorem le_of_ble {a b : Nat} (h : Nat.ble a b = true) : a ≤ b := Nat.le_of_ble_eq_true h
theorem ext_tup (i : Nat) (vs : List AV) : extAV i (.tup vs) = vs[i]? := rfl
theorem fld_agg (a : Bool) (size off : Nat) (cs : List AV) : fldAV a size off (.agg cs) = part a size cs off := rfl
theorem part_agg (size : Nat) (cs : List AV) (off : Nat) : part true size cs off = if off + size ≤ cs.length then some (.agg ((cs.drop off).take size)) else none := rfl
def partK : Option AV → Option AV
  | some v => if cellB v = true then some v else none
  | none => none
theorem part_one (size : Nat) (cs : List AV) (off : Nat) : part false size cs off = partK cs[off]? := rfl
theorem partK_some (v : AV) : partK (some v) = if cellB v = true then some v else none := rfl
theorem fa_ptr (off id o : Nat) : faAV off (.ptr id o) = some (.ptr id (o + off)) := rfl
theorem fa_eptr (off id i g : Nat) : faAV off (.eptr id i g) = some (.eptr id i (g + off)) := rfl
theorem fa_iptr (off : Nat) (row : List AV) (g : Nat) : faAV off (.iptr row g) = some (.iptr row (g + off)) := rfl
theorem ld_iptr (a : Bool) (size : Nat) (H : Heap) (row : List AV) (f : Nat) : loadAV a size H (.iptr row f) = part a size row f := rfl
def ldK (a : Bool) (size off : Nat) : Option Ob → Option AV
  | some (.box cells) => part a size cells off
  | _ => none
theorem ld_ptr (a : Bool) (size : Nat) (H : Heap) (id off : Nat) : loadAV a size H (.ptr id off) = ldK a size off (lk H id) := by
  simp only [loadAV, ldK]
  cases lk H id with
  | none => rfl
  | some o => cases o <;> rfl
theorem ldK_box (a : Bool) (size off : Nat) (cells : List AV) : ldK a size off (some (.box cells)) = part a size cells off := rfl
theorem lenl_nil : lenlAV .nil = some (.int .i64 0) := rfl
theorem lenl_imm (es : Nat) (rows : List (List AV)) (ex : Bool) : lenlAV (.imm es rows ex) = some (.int .i64 rows.length) := rfl
theorem lenl_own (es id off len : Nat) (ex : Bool) : lenlAV (.own es id off len ex) = some (.int .i64 len) := rfl
theorem lens_str (s : ByteArray) : lensAV (.str s) = some (.int .i64 s.size) := rfl
theorem evs_nil (s : St) : s.evs [] = [] := rfl
theorem evs_cons (s : St) (x : Opd) (r : List Opd) : s.evs (x :: r) = s.ev x :: s.evs r := rfl
theorem evp_nil (s : St) : s.evp [] = [] := rfl
theorem evp_cons (s : St) (i : Nat) (x : Opd) (r : List (Nat × Opd)) : s.evp ((i, x) :: r) = (i, s.ev x) :: s.evp r := rfl
theorem evq_nil (s : St) : s.evq [] = [] := rfl
theorem evq_cons (s : St) (i j : Nat) (x : Opd) (r : List (Nat × Nat × Opd)) : s.evq ((i, j, x) :: r) = (i, j, s.ev x) :: s.evq r := rfl
theorem evo_none (s : St) : s.evo none = none := rfl
theorem evo_some (s : St) (x : Opd) : s.evo (some x) = some (s.ev x) := rfl
def bldK : Option (List AV) → Option AV
  | some cs => some (.agg cs)
  | none => none
theorem build_eq (z : List AV) (ps : List (Nat × Nat × AV)) : buildAV z ps = bldK (fillA z ps) := by
  unfold buildAV bldK
  rfl
theorem bldK_some (cs : List AV) : bldK (some cs) = some (.agg cs) := rfl
theorem fillA_nil (cs : List AV) : fillA cs [] = some cs := rfl
def fillK (cells : List AV) (off size : Nat) (r : List (Nat × Nat × AV)) : Option (List AV) → Option (List AV)
  | some vs => if vs.length = size ∧ off + size ≤ cells.length then fillA (setAt cells off vs) r else none
  | none => none
theorem fillA_cons (cells : List AV) (off size : Nat) (v : AV) (r : List (Nat × Nat × AV)) : fillA cells ((off, size, v) :: r) = fillK cells off size r (cellsOf v) := rfl
theorem fillK_some (cells : List AV) (off size : Nat) (r : List (Nat × Nat × AV)) (vs : List AV) : fillK cells off size r (some vs) = if vs.length = size ∧ off + size ≤ cells.length then fillA (setAt cells off vs) r else none := rfl
theorem cells_agg (cs : List AV) : cellsOf (.agg cs) = some cs := rfl
theorem cells_int (k : IntKind) (n : Int) : cellsOf (.int k n) = some [.int k n] := rfl
theorem cells_bool (b : Bool) : cellsOf (.bool b) = some [.bool b] := rfl
theorem cells_str (s : ByteArray) : cellsOf (.str s) = some [.str s] := rfl
theorem cells_nil : cellsOf .nil = some [.nil] := rfl
theorem cells_imm (es : Nat) (rows : List (List AV)) (ex : Bool) : cellsOf (.imm es rows ex) = some [.imm es rows ex] := rfl
theorem cells_own (es id off len : Nat) (ex : Bool) : cellsOf (.own es id off len ex) = some [.own es id off len ex] := rfl
theorem add_mk (e l : List (Nat × AV)) (H : Heap) (n : Nat) (o : Ob) : St.add ⟨e, l, H, n⟩ o = ⟨e, l, (n, o) :: H, n + 1⟩ := rfl
theorem setH_mk (e l : List (Nat × AV)) (H H' : Heap) (n : Nat) : St.setH ⟨e, l, H, n⟩ H' = ⟨e, l, H', n⟩ := rfl
def stK (size : Nat) (H : Heap) (id off : Nat) : Option Ob → Option (List AV) → Option Heap
  | some (.box cells), some vs => if vs.length = size ∧ off + vs.length ≤ cells.length ∧ cellBs vs = true then upd H id (.box (setAt cells off vs)) else none
  | _, _ => none
theorem st_ptr (size : Nat) (H : Heap) (id off : Nat) (v : AV) : storeH size H (.ptr id off) v = stK size H id off (lk H id) (cellsOf v) := by
  simp only [storeH, stK]
  cases lk H id with
  | none => rfl
  | some o => cases o <;> cases cellsOf v <;> rfl
theorem stK_some (size : Nat) (H : Heap) (id off : Nat) (cells vs : List AV) : stK size H id off (some (.box cells)) (some vs) = if vs.length = size ∧ off + vs.length ≤ cells.length ∧ cellBs vs = true then upd H id (.box (setAt cells off vs)) else none := rfl
theorem iaa_ptr (size len id off : Nat) (k : IntKind) (n : Int) : iaaAV size len (.ptr id off) (.int k n) = if 0 ≤ n ∧ n < len then some (.ptr id (off + n.toNat * size)) else none := rfl
theorem ixa_agg (a : Bool) (size len : Nat) (cs : List AV) (k : IntKind) (n : Int) : ixaAV a size len (.agg cs) (.int k n) = if 0 ≤ n ∧ n < len then part a size cs (n.toNat * size) else none := rfl
theorem ias_imm (size es : Nat) (rows : List (List AV)) (ex : Bool) (k : IntKind) (n : Int) : iasAV size (.imm es rows ex) (.int k n) = if es = size ∧ 0 ≤ n then (match rows[n.toNat]? with | some row => some (.iptr row 0) | none => none) else none := rfl
theorem ias_own (size es id off len : Nat) (ex : Bool) (k : IntKind) (n : Int) : iasAV size (.own es id off len ex) (.int k n) = if es = size ∧ 0 ≤ n ∧ n < len then some (.eptr id (off + n.toNat) 0) else none := rfl
attribute [simp] add_mk setH_mk st_ptr stK_some iaa_ptr ixa_agg ias_imm ias_own
attribute [simp] ext_tup fld_agg part_agg part_one partK_some fa_ptr fa_eptr fa_iptr ld_iptr ld_ptr ldK_box lenl_nil lenl_imm lenl_own lens_str evs_nil evs_cons evp_nil evp_cons evq_nil evq_cons evo_none evo_some build_eq bldK_some fillA_nil fillA_cons fillK_some cells_agg cells_int cells_bool cells_str cells_nil cells_imm cells_own setAt cellB cellBs argEnv plainBs plainB one resAV
attribute [simp] wantA_some wantA_none wantV_bool wantV_un eqb_bool nt_bool ngt_int cvt_int pick_bool bin_add bin_sub bin_mul bin_quo bin_rem bin_eql bin_neq bin_lss bin_leq bin_gtr bin_geq retK_ret retK_norm retP_plain retK_ite
/-! ### Regions that draw their order -/
def nsF (f : Foot) : Option (St × List Foot) → Option (St × List Foot)
  | some (sF, l) => some (sF, f :: l)
  | none => none
def nsC (c : Cfg) (cl : Nat → Callee) (nt base : Nat) (r : List Iop) (i : Nat) : Option Foot → Option St → Option (St × List Foot)
  | some f, some s' => nsF f (evNs c cl nt base r (i + 1) s')
  | _, _ => none
theorem nsF_some (f : Foot) (s : St) (l : List Foot) : nsF f (some (s, l)) = some (s, f :: l) := rfl
theorem nsC_some (c : Cfg) (cl : Nat → Callee) (nt base : Nat) (r : List Iop) (i : Nat) (f : Foot) (s : St) : nsC c cl nt base r i (some f) (some s) = nsF f (evNs c cl nt base r (i + 1) s) := rfl
theorem evNs_nil (c : Cfg) (cl : Nat → Callee) (nt base i : Nat) (s : St) : evNs c cl nt base [] i s = some (s, []) := rfl
theorem evNs_cons (c : Cfg) (cl : Nat → Callee) (nt base : Nat) (o : Iop) (r : List Iop) (i : Nat) (s : St) : evNs c cl nt base (o :: r) i s = nsC c cl nt base r i (footO c s o) (evN c (cl i) nt base i o s) := by
  simp only [evNs, nsC]
  cases footO c s o with
  | none => rfl
  | some f =>
    cases evN c (cl i) nt base i o s with
    | none => rfl
    | some s' =>
      simp only [nsF]
      cases evNs c cl nt base r (i + 1) s' with
      | none => rfl
      | some p => obtain ⟨a, b⟩ := p; rfl
def nxK (q : Nat) : Option St → Option St
  | some s => if s.nx ≤ q + 64 then some s else none
  | none => none
theorem nxK_some (q : Nat) (e l : List (Nat × AV)) (H : Heap) (n : Nat) : nxK q (some ⟨e, l, H, n⟩) = if n ≤ q + 64 then some ⟨e, l, H, n⟩ else none := rfl
theorem evN_eq (c : Cfg) (cl : Callee) (nt base i : Nat) (o : Iop) (e l : List (Nat × AV)) (H : Heap) (n : Nat) : evN c cl nt base i o ⟨e, l, H, n⟩ = nxK (base + i * 64) (evIO c cl nt o ⟨e, l, H, base + i * 64⟩) := rfl
def drK (k : List (Nat × Nat)) (len n : Nat) : Option (St × List Foot) → Option St
  | some (s, fs) => if pairsF n fs k = true then some ⟨s.env, s.loc, s.H, n + 65 * len⟩ else none
  | none => none
theorem drK_some (k : List (Nat × Nat)) (len n : Nat) (e l : List (Nat × AV)) (H : Heap) (n' : Nat) (fs : List Foot) : drK k len n (some (⟨e, l, H, n'⟩, fs)) = if pairsF n fs k = true then some ⟨e, l, H, n + 65 * len⟩ else none := rfl
theorem drawA_eq (c : Cfg) (cl : Nat → Callee) (nt : Nat) (k : List (Nat × Nat)) (ios : List Iop) (e l : List (Nat × AV)) (H : Heap) (n : Nat) : drawF c cl nt k ios ⟨e, l, H, n⟩ = drK k ios.length n (evNs c cl nt n ios 0 ⟨e, l, H, n⟩) := by
  unfold drawF drK
  cases evNs c cl nt n ios 0 ⟨e, l, H, n⟩ with
  | none => rfl
  | some p => obtain ⟨a, b⟩ := p; rfl
/-- The callees of a region's operations. -/
def clsL (l : List (Nat × Callee)) (i : Nat) : Callee := match lk l i with | some cl => cl | none => fun _ _ _ _ => none
def clsK : Option Callee → Callee
  | some cl => cl
  | none => fun _ _ _ _ => none
theorem clsL_eq (l : List (Nat × Callee)) (i : Nat) : clsL l i = clsK (lk l i) := rfl
theorem clsK_some (cl : Callee) : clsK (some cl) = cl := rfl
def ftK (x : Option Foot) : Option Bool → Option Foot
  | some true => x
  | _ => some noFoot
theorem ftK_t (x : Option Foot) : ftK x (some true) = x := rfl
theorem ftK_f (x : Option Foot) : ftK x (some false) = some noFoot := rfl
theorem footO_none (c : Cfg) (s : St) (d : Option Nat) (op : IP) : footO c s ⟨d, none, op⟩ = foot c s op := rfl
theorem footO_some (c : Cfg) (s : St) (d : Option Nat) (t : Nat) (w : Bool) (op : IP) : footO c s ⟨d, some (t, w), op⟩ = ftK (foot c s op) (wantV (s.get t) w) := rfl
theorem head_mk (m n0 : Nat) (e l : List (Nat × AV)) (H : Heap) (n : Nat) : St.head m n0 ⟨e, l, H, n⟩ = if n = n0 then ⟨e, l, H, n⟩ else St.tidy m ⟨e, l, H, n⟩ := by
  unfold St.head
  rw [cond_eq_ite]
  by_cases h : n = n0
  · subst h; simp
  · have : Nat.beq n n0 = false := by
      cases hb : Nat.beq n n0 with
      | false => rfl
      | true => exact absurd (Nat.eq_of_beq_eq_true hb) h
    simp [this, h]
attribute [simp] head_mk
end Go.Proofs.Ytefjblgmnoheiaa.R
