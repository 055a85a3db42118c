/- Regions that draw their order: any order answers as the program's own; at a place of its own. -/
import Derived.Test.YtefjblgmnoheiaaRDrwC
set_option linter.unusedVariables false
set_option linter.unusedSectionVars false
set_option linter.unusedSimpArgs false
noncomputable section
namespace Go.Proofs.Ytefjblgmnoheiaa.R
open Go
def numb : Nat → List Iop → List (Nat × Iop)
  | _, [] => []
  | i, o :: r => (i, o) :: numb (i + 1) r
/-- Operations one behind the other; what each touches is what was noted. -/
def RunU (c : Cfg) (cl : Nat → Callee) (nt base : Nat) (fp : Nat → Option Foot) : List (Nat × Iop) → St → St → Prop
  | [], s, sF => sF = s
  | (i, o) :: r, s, sF => ∃ s1 f, evN c (cl i) nt base i o s = some s1 ∧ footO c s o = some f ∧ fp i = some f ∧ RunU c cl nt base fp r s1 sF
def FreshU (base : Nat) (U : List (Nat × Iop)) (H : Heap) : Prop := ∀ p ∈ U, Fresh (base + p.1 * 64) (base + p.1 * 64 + wd p.2.op) H
section
variable {c : Cfg} {cl : Nat → Callee} {nt base : Nat} {fp : Nat → Option Foot} {s s1 sF s' u : St} {v : AV} {o x y : Iop}
theorem Agree.of_eq {f : Foot} {H H' : Heap} (h : ∀ k, lk H' k = lk H k) : Agree f H H' := ⟨fun id _ => h id, fun id _ => LEq.of (h id), fun id _ => LEq.of (h id)⟩
theorem Fresh.of_eq {a b : Nat} {H H' : Heap} (h : ∀ k, lk H' k = lk H k) (hf : Fresh a b H) : Fresh a b H' := fun k h1 h2 => by rw [h]; exact hf k h1 h2
theorem FreshU.next {i : Nat} {U : List (Nat × Iop)} {f : Foot} {g : Nat → Nat} {n : Nat} {cl : Callee} (hs : Step c cl nt base i o s s1 f v g n) (hf : FreshU base U s.H) (hne : ∀ p ∈ U, p.1 ≠ i) : FreshU base U s1.H := by
  intro p hp k h1 h2
  have hle := wd_le p.2.op
  have hle2 := wd_le o.op
  refine hs.dom k (hf p hp k h1 h2) ?_
  have := hne p hp
  omega
theorem RunU.cong : ∀ {U : List (Nat × Iop)} {s sF u : St}, Disj s → FreshU base U s.H → (U.map (fun p => p.1)).Nodup → RunU c cl nt base fp U s sF → Eqv s u → ∃ uF, RunU c cl nt base fp U u uF ∧ Eqv sF uF
  | [], s, sF, u, hd, hfr, hn, h, he => by
    simp only [RunU] at h
    subst h
    exact ⟨u, rfl, he⟩
  | (i, o) :: r, s, sF, u, hd, hfr, hn, h, he => by
    obtain ⟨s1, f, h1, h2, h3, h4⟩ := h
    obtain ⟨v, g, n, hs⟩ := step hd h1 h2 (hfr (i, o) (by simp))
    have hk : ∀ k, lk u.H k = lk s.H k := fun k => (he.heap k).symm
    obtain ⟨b0, u1, b1, b2, b3, b4⟩ := hs.same u he.disj (fun t _ => (he.get t).symm) (Agree.of_eq hk) (Fresh.of_eq hk (hfr (i, o) (by simp)))
    rw [List.map_cons, List.nodup_cons] at hn
    have hne : ∀ p ∈ r, p.1 ≠ i := fun p hp e => hn.1 (List.mem_map.2 ⟨p, hp, e⟩)
    obtain ⟨uF, c1, c2⟩ := RunU.cong hs.disj (FreshU.next hs (fun p hp => hfr p (List.mem_cons_of_mem _ hp)) hne) hn.2 h4 (u := u1) ⟨fun t => by rw [hs.get, b2, he.get], fun k => by rw [hs.eff k, b4 k, hk k], b3⟩
    exact ⟨uF, ⟨u1, f, b1, b0, h3, c1⟩, c2⟩
theorem RunU.disj : ∀ {U : List (Nat × Iop)} {s sF : St}, Disj s → FreshU base U s.H → (U.map (fun p => p.1)).Nodup → RunU c cl nt base fp U s sF → Disj sF
  | [], s, sF, hd, hfr, hn, h => by
    simp only [RunU] at h
    subst h
    exact hd
  | (i, o) :: r, s, sF, hd, hfr, hn, h => by
    obtain ⟨s1, f, h1, h2, h3, h4⟩ := h
    obtain ⟨v, g, n, hs⟩ := step hd h1 h2 (hfr (i, o) (by simp))
    rw [List.map_cons, List.nodup_cons] at hn
    have hne : ∀ p ∈ r, p.1 ≠ i := fun p hp e => hn.1 (List.mem_map.2 ⟨p, hp, e⟩)
    exact RunU.disj hs.disj (FreshU.next hs (fun p hp => hfr p (List.mem_cons_of_mem _ hp)) hne) hn.2 h4
/-- What was looked at: two operations without an order between them. -/
def OkPair (base : Nat) (fp : Nat → Option Foot) (i j : Nat) (x y : Iop) : Prop :=
  Apart x y ∧ ∀ fx fy, fp i = some fx → fp j = some fy → (valB x.op = true → fx = noFoot) → (valB y.op = true → fy = noFoot) → (ldB x.op = true → fx.w = [] ∧ fx.l = []) → (ldB y.op = true → fy.w = [] ∧ fy.l = []) → Free base i j (wd x.op) (wd y.op) fx fy
/-- An operation that may be met now is met first. -/
theorem bubble {j : Nat} {y : Iop} : ∀ {pre post : List (Nat × Iop)} {s sF : St}, Disj s → FreshU base (pre ++ (j, y) :: post) s.H → ((pre ++ (j, y) :: post).map (fun p => p.1)).Nodup → (∀ p ∈ pre, OkPair base fp p.1 j p.2 y) → RunU c cl nt base fp (pre ++ (j, y) :: post) s sF →
    ∃ u1 f, evN c (cl j) nt base j y s = some u1 ∧ footO c s y = some f ∧ fp j = some f ∧ ∃ uF, RunU c cl nt base fp (pre ++ post) u1 uF ∧ Eqv sF uF
  | [], post, s, sF, hd, hfr, hn, hp, h => by
    obtain ⟨s1, f, h1, h2, h3, h4⟩ := h
    obtain ⟨v, g, n, hs⟩ := step hd h1 h2 (hfr (j, y) (by simp))
    exact ⟨s1, f, h1, h2, h3, sF, h4, fun _ => rfl, fun _ => rfl, by
      simp only [List.nil_append, List.map_cons, List.nodup_cons] at hn
      have hne : ∀ p ∈ post, p.1 ≠ j := fun p hp e => hn.1 (List.mem_map.2 ⟨p, hp, e⟩)
      exact RunU.disj hs.disj (FreshU.next hs (fun p hp => hfr p (by simp [hp])) hne) hn.2 h4⟩
  | (i, x) :: pre, post, s, sF, hd, hfr, hn, hp, h => by
    obtain ⟨s1, fx, h1, h2, h3, h4⟩ := h
    have hfx := hfr (i, x) (by simp)
    have hfy := hfr (j, y) (by simp)
    obtain ⟨v, g, n, hs⟩ := step hd h1 h2 hfx
    rw [List.cons_append, List.map_cons, List.nodup_cons] at hn
    have hij : i ≠ j := fun e => hn.1 (by subst e; simp)
    have hne : ∀ p ∈ pre ++ (j, y) :: post, p.1 ≠ i := fun p hp e => hn.1 (List.mem_map.2 ⟨p, hp, e⟩)
    obtain ⟨v1, fy, b1, b2, b3, vF, b4, b5⟩ := bubble hs.disj (FreshU.next hs (fun p hp => hfr p (by rw [List.cons_append]; exact List.mem_cons_of_mem _ hp)) hne) hn.2 (fun p hpm => hp p (List.mem_cons_of_mem _ hpm)) h4
    obtain ⟨a1, a2⟩ := hp (i, x) (by simp)
    obtain ⟨u1, u2, c1, c2, c3, c4, c5⟩ := swap hij a1 (a2 fx fy h3 b3 (fun hv => footO_val hv h2) (fun hv => footO_val hv b2) (fun hv => footO_ld hv h2) (fun hv => footO_ld hv b2)) hd hfx hfy h1 h2 b1 b2
    have hfy1 : Fresh (base + j * 64) (base + j * 64 + wd y.op) s1.H := FreshU.next hs (fun p hp => hfr p (by rw [List.cons_append]; exact List.mem_cons_of_mem _ hp)) hne (j, y) (by simp)
    obtain ⟨v2, g2, n2, hs2⟩ := step hs.disj b1 b2 hfy1
    have hn2 : ((pre ++ post).map (fun p => p.1)).Nodup := by
      have := hn.2
      rw [List.map_append, List.map_cons] at this
      rw [List.map_append]
      exact this.sublist (List.Sublist.append_left (List.sublist_cons_self _ _) _)
    have hnej : ∀ p ∈ pre ++ post, p.1 ≠ j := by
      intro p hpm e
      have := hn.2
      rw [List.map_append, List.map_cons] at this
      rw [List.nodup_append] at this
      obtain ⟨q1, q2, q3⟩ := this
      rcases List.mem_append.1 hpm with h | h
      · exact q3 _ (List.mem_map.2 ⟨p, h, rfl⟩) _ (List.mem_cons_self ..) e
      · rw [List.nodup_cons] at q2
        exact q2.1 (by rw [← e]; exact List.mem_map.2 ⟨p, h, rfl⟩)
    have hfU : FreshU base (pre ++ post) v1.H := FreshU.next hs2 (fun p hpm => FreshU.next hs (fun p hp => hfr p (by rw [List.cons_append]; exact List.mem_cons_of_mem _ hp)) hne p (by
      rcases List.mem_append.1 hpm with h | h
      · exact List.mem_append_left _ h
      · exact List.mem_append_right _ (List.mem_cons_of_mem _ h))) hnej
    obtain ⟨uF, e1, e2⟩ := RunU.cong hs2.disj hfU hn2 b4 c5
    exact ⟨u1, fy, c1, c2, b3, uF, ⟨u2, fx, c3, c4, h3, e1⟩, b5.trans e2⟩
end
/-! ### The same operation at another place -/
def newB : IP → Bool
  | .bsl _ _ _ _ => true
  | .s2b _ => true
  | .mks _ _ _ _ => true
  | .cln _ _ => true
  | .alloc _ => true
  | .box _ => true
  | .app _ _ _ => true
  | _ => false
/-- A call of a function that is lent places. -/
def lentB (c : Cfg) (s : St) : IP → Bool
  | .call f _ => !(c.fz f)
  | .callv g _ => match s.ev g with | .fn (.func f) _ _ => !(c.fz f) | _ => false
  | _ => false
section
variable {c : Cfg} {cl : Callee} {nt base : Nat} {s s1 sF s' u : St} {v : AV} {o x y : Iop}
theorem callAV_at {q f : Nat} {L : List AV} (hf : c.fz f = true) (h : callAV c cl (atN s q) f L = some (v, s1)) (m : Nat) : callAV c cl (atN s m) f L = some (v, atN s1 m) := by
  simp only [callAV, hf, if_true] at h ⊢
  have hH : (atN s m).H = (atN s q).H := rfl
  rw [hH]
  split at h
  · rename_i r H1 n1 hcl
    unfold fzRet at h ⊢
    split at h
    · rename_i hp
      simp only [Option.some.injEq, Prod.mk.injEq] at h
      obtain ⟨rfl, rfl⟩ := h
      rw [if_pos hp]
      rfl
    · rename_i hp
      rw [if_neg hp]
      split at h
      · rename_i hi
        simp only [Option.some.injEq, Prod.mk.injEq] at h
        obtain ⟨rfl, rfl⟩ := h
        rw [if_pos hi]
        rfl
      · cases h
  · cases h
theorem at_same {q : Nat} {ip : IP} (hk : newB ip = false) (hf : lentB c s ip = false) (h : evOp c cl (atN s q) ip = some (v, s1)) (m : Nat) : evOp c cl (atN s m) ip = some (v, atN s1 m) := by
  by_cases h0 : valB ip = true
  · obtain ⟨rfl, h2⟩ := p_cong (s' := atN s m) h0 h (fun x _ => by rw [atN_ev, atN_ev])
    exact h2
  · cases ip
    case ld a size p =>
      obtain ⟨hg, rfl⟩ := keep_inv h
      simp only [evOp]
      rw [atN_ev] at hg ⊢
      have : loadAV a size (atN s m).H (s.ev p) = some v := hg
      rw [this]
      rfl
    case call f args =>
      have hf : c.fz f = true := by simpa [lentB] using hf
      simp only [evOp, atN_evs] at h ⊢
      exact callAV_at hf h m
    case callv g args =>
      simp only [evOp, atN_evs, atN_ev] at h ⊢
      cases hq : s.ev g <;> rw [hq] at h <;> simp only [callvAV, reduceCtorEq] at h
      case fn f pre post =>
        cases f <;> simp only [callvAV, reduceCtorEq] at h
        case func f =>
          simp only [callvAV] at h ⊢
          exact callAV_at (by simpa [lentB, hq] using hf) h m
    case cpy es x y =>
      simp only [evOp, atN_ev] at h ⊢
      have hs : ∀ q' : Nat, cpyAV es (atN s q') (s.ev x) (s.ev y) = (cpyAV es (atN s 0) (s.ev x) (s.ev y)).map fun p => (p.1, atN p.2 q') := by
        intro q'
        unfold cpyAV
        have hH : (atN s q').H = (atN s 0).H := rfl
        rw [hH]
        split
        · split
          · split
            · split
              · split <;> rfl
              · rfl
            · rfl
          · rfl
        · rfl
        · rfl
      rw [hs q] at h
      rw [hs m]
      cases hc : cpyAV es (atN s 0) (s.ev x) (s.ev y) with
      | none => rw [hc] at h; cases h
      | some p =>
        rw [hc] at h
        simp only [Option.map_some, Option.some.injEq, Prod.mk.injEq] at h ⊢
        obtain ⟨rfl, rfl⟩ := h
        exact ⟨rfl, rfl⟩
    case no =>
      simp only [evOp] at h
      cases h
    case clr es z x =>
      simp only [evOp, atN_ev] at h ⊢
      have hs : ∀ q' : Nat, clrAV es z (atN s q') (s.ev x) = (clrAV es z (atN s 0) (s.ev x)).map fun p => (p.1, atN p.2 q') := by
        intro q'
        unfold clrAV
        have hH : (atN s q').H = (atN s 0).H := rfl
        rw [hH]
        split
        · split
          · split
            · split
              · split <;> rfl
              · rfl
            · split
              · split <;> rfl
              · rfl
            · rfl
          · rfl
        · rfl
        · rfl
      rw [hs q] at h
      rw [hs m]
      cases hc : clrAV es z (atN s 0) (s.ev x) with
      | none => rw [hc] at h; cases h
      | some p =>
        rw [hc] at h
        simp only [Option.map_some, Option.some.injEq, Prod.mk.injEq] at h ⊢
        obtain ⟨rfl, rfl⟩ := h
        exact ⟨rfl, rfl⟩
    case b2s x =>
      obtain ⟨hg, rfl⟩ := keep_inv h
      simp only [evOp]
      rw [atN_ev] at hg ⊢
      have : b2sAV (atN s m).H (s.ev x) = some v := hg
      rw [this]
      rfl
    case st size p x =>
      simp only [evOp, atN_ev] at h ⊢
      have hH : (atN s m).H = (atN s q).H := rfl
      rw [hH]
      split at h
      · rename_i H1 hH1
        simp only [Option.some.injEq, Prod.mk.injEq] at h
        obtain ⟨rfl, rfl⟩ := h
        rfl
      · cases h
    all_goals (simp [newB, valB] at hk h0)
def newV (f : Nat → AV) : Prop := (f = fun i => .ptr i 0) ∨ (∃ es len ex, f = fun i => .own es i 0 len ex) ∨ ∃ rows, f = fun _ => canI rows
structure New (c : Cfg) (cl : Callee) (s : St) (q : Nat) (ip : IP) (v : AV) (s1 : St) (ob : Ob) (H1 : Heap) (f : Nat → AV) : Prop where
  nv : newV f
  v : v = f q
  s1 : s1 = ⟨s.env, s.loc, (q, ob) :: H1, q + 1⟩
  sub : ∀ j, lk s.H j = none → lk H1 j = none
  at_ : ∀ m, evOp c cl (atN s m) ip = some (f m, ⟨s.env, s.loc, (m, ob) :: H1, m + 1⟩)
theorem new_arr {es : Nat} {rows : List (List AV)} {q : Nat} (h : newArr (atN s q) es rows = some (v, s1)) : ∃ ob f, newV f ∧ v = f q ∧ s1 = ⟨s.env, s.loc, (q, ob) :: s.H, q + 1⟩ ∧ ∀ m, newArr (atN s m) es rows = some (f m, ⟨s.env, s.loc, (m, ob) :: s.H, m + 1⟩) := by
  unfold newArr at h
  split at h
  · rename_i hl
    simp only [Option.some.injEq, Prod.mk.injEq] at h
    obtain ⟨rfl, rfl⟩ := h
    refine ⟨.arr es rows 0, fun i => .own es i 0 rows.length false, .inr (.inl ⟨es, _, _, rfl⟩), rfl, rfl, fun m => ?_⟩
    simp only [newArr, hl, if_true]
    rfl
  · cases h
theorem at_new {q : Nat} {ip : IP} (hk : newB ip = true) (h : evOp c cl (atN s q) ip = some (v, s1)) : ∃ ob H1 f, New c cl s q ip v s1 ob H1 f := by
  cases ip
  case bsl es z len ps =>
    have hp : ∀ m, (atN s m).evp ps = s.evp ps := fun m => evp_congr fun x _ => atN_ev s m x
    simp only [evOp, bslAV, hp] at h
    split at h
    · rename_i rows hrows
      simp only [Option.some.injEq, Prod.mk.injEq] at h
      obtain ⟨rfl, rfl⟩ := h
      refine ⟨.arr es rows 0, leakAll s.H (s.evp ps), fun i => .own es i 0 len true, .inr (.inl ⟨es, _, _, rfl⟩), rfl, rfl, fun j hj => ?_, fun m => ?_⟩
      · obtain ⟨g, _, hg⟩ := leakAll_ids (s.evp ps)
        rw [hg, hj]
        rfl
      · have h2 : fillRows es (atN s m).H (List.replicate len z) (s.evp ps) = some rows := hrows
        simp only [evOp, bslAV, hp, h2]
        rfl
    · cases h
  case cln es x =>
    simp only [evOp, atN_ev] at h
    obtain ⟨rows, ob, k1, k2, k3, k4⟩ := clnX_inv h
    subst k3; subst k4
    refine ⟨ob, s.H, fun i => .own es i 0 rows.length false, .inr (.inl ⟨es, _, _, rfl⟩), rfl, rfl, fun _ hj => hj, fun m => ?_⟩
    simp only [evOp, atN_ev]
    exact k2 (atN s m) k1
  case s2b x =>
    simp only [evOp, atN_ev] at h
    unfold s2bAV at h
    split at h
    · rename_i str hx
      simp only [Option.some.injEq, Prod.mk.injEq] at h
      obtain ⟨rfl, rfl⟩ := h
      refine ⟨.box [], s.H, fun i => canI (byteRows str), .inr (.inr ⟨_, rfl⟩), rfl, rfl, fun _ hj => hj, fun m => ?_⟩
      simp only [evOp, atN_ev, hx, s2bAV]
      rfl
    · cases h
  case mks es z l m' =>
    simp only [evOp, atN_ev] at h
    unfold mksAV at h
    split at h
    · rename_i a b hl hm
      split at h
      · rename_i hb
        simp only [Option.some.injEq, Prod.mk.injEq] at h
        obtain ⟨rfl, rfl⟩ := h
        refine ⟨.arr es (List.replicate a.toNat z) 0, s.H, fun i => .own es i 0 a.toNat (a == b), .inr (.inl ⟨es, _, _, rfl⟩), rfl, rfl, fun _ hj => hj, fun m => ?_⟩
        simp only [evOp, atN_ev, hl, hm, mksAV, hb, and_self, if_true]
        rfl
      · cases h
    · cases h
  case alloc z =>
    simp only [evOp, Option.some.injEq, Prod.mk.injEq] at h
    obtain ⟨rfl, rfl⟩ := h
    exact ⟨.box z, s.H, fun i => .ptr i 0, .inl rfl, rfl, rfl, fun _ hj => hj, fun m => rfl⟩
  case box x =>
    simp only [evOp, atN_ev] at h
    split at h
    · rename_i cs hcs
      split at h
      · rename_i hb
        simp only [Option.some.injEq, Prod.mk.injEq] at h
        obtain ⟨rfl, rfl⟩ := h
        refine ⟨.box cs, s.H, fun i => .ptr i 0, .inl rfl, rfl, rfl, fun _ hj => hj, fun m => ?_⟩
        simp only [evOp, atN_ev, hcs, hb, if_true]
        rfl
      · cases h
    · cases h
  case app es a b =>
    have hn : ∀ rows, newArr (atN s q) es rows = some (v, s1) → (∀ m, evOp c cl (atN s m) (.app es a b) = newArr (atN s m) es rows) → ∃ ob H1 f, New c cl s q (.app es a b) v s1 ob H1 f := by
      intro rows h hm
      obtain ⟨ob, f, h1, h2, h3, h4⟩ := new_arr h
      exact ⟨ob, s.H, f, h1, h2, h3, fun _ hj => hj, fun m => by rw [hm, h4]⟩
    have hs : ∀ m, srcRows es (atN s m).H (s.ev b) = srcRows es s.H (s.ev b) := fun m => rfl
    simp only [evOp, atN_ev] at h hn
    unfold appAV at h
    rw [hs] at h
    split at h
    · rename_i new hnew
      split at h
      · rename_i hbase
        exact hn _ h fun m => by simp only [appAV, hs, hnew, hbase]
      · rename_i es' rows ex hbase
        split at h
        · rename_i hc
          split at h
          · rename_i hz
            exact hn _ h fun m => by simp only [appAV, hs, hnew, hbase, hc, hz, and_self, if_true]
          · rename_i hz
            split at h
            · rename_i h0
              exact hn _ h fun m => by simp only [appAV, hs, hnew, hbase, hc, hz, h0, and_self, if_true, if_false]
            · cases h
        · cases h
      · rename_i es' id off len ex hbase
        have hl : ∀ m, lk (atN s m).H id = lk s.H id := fun m => rfl
        rw [hl] at h
        split at h
        · rename_i hc
          split at h
          · rename_i es2 rows leak hid
            split at h
            · rename_i hex
              split at h
              · rename_i hz
                exact hn _ h fun m => by simp only [appAV, hs, hnew, hbase, hl, hid, hc, hex, hz, if_true]
              · rename_i hz
                split at h
                · rename_i h0
                  have hH : ∀ m, (atN s m).H = s.H := fun _ => rfl
                  exact hn _ h fun m => by simp only [appAV, hs, hnew, hbase, hl, hid, hc, hex, hz, h0, and_self, if_true, if_false]
                · cases h
            · rename_i hex
              split at h
              · rename_i hc2
                simp only [Option.some.injEq, Prod.mk.injEq] at h
                obtain ⟨rfl, rfl⟩ := h
                refine ⟨.arr es (rows.take len ++ new) leak, rmv s.H id, fun i => .own es i 0 (len + new.length) false, .inr (.inl ⟨es, _, _, rfl⟩), rfl, rfl, fun j hj => ?_, fun m => ?_⟩
                · rw [lk_rmv, hj]
                  split <;> rfl
                · simp only [evOp, atN_ev, appAV, hs, hnew, hbase, hl, hid, hc, hex, if_true, if_false, Bool.false_eq_true]
                  rw [if_pos hc2]
                  rfl
              · cases h
          · cases h
        · cases h
      · cases h
    · cases h
  all_goals (simp [newB] at hk)
end
end Go.Proofs.Ytefjblgmnoheiaa.R
