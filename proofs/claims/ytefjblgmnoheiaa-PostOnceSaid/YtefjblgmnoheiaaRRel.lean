/- What abstract values stand for, in a world; and what stays so. -/
import Derived.Test.YtefjblgmnoheiaaRSimp
set_option linter.unusedVariables false
set_option linter.unusedSectionVars false
noncomputable section
namespace Go.Proofs.Ytefjblgmnoheiaa.R
open Go

/-- Which block, and which size of an element, a place of the abstract heap is. -/
abbrev Rho := Nat → Option (Nat × Nat)
def noRho : Rho := fun _ => none
def oneB : Value → Bool
  | .agg _ => false
  | .tuple _ => false
  | _ => true

mutual
/-- An abstract value stands for a value. U: the cells that may be written. -/
def VR (w : World) (U : Nat → Nat → Prop) (ρ : Rho) : AV → Value → Prop
  | .bad, _ => True
  | .un, x => x = undef
  | .bool b, x => x = .bool b
  | .int k n, x => x = .int k n
  | .str s, x => x = .string s
  | .nil, x => x = .slice none 0 0
  | .oth v, x => x = v ∧ oneB v = true
  | .imm es rows ex, x => ∃ A c, x = .slice A rows.length c ∧ rows.length ≤ c ∧ (ex = true → c = rows.length) ∧
      (rows = [] ∨ ∃ b o, A = some ⟨b, o, none⟩ ∧ RWs w U rows b o es)
  | .own es id off len ex, x => ∃ A c, x = .slice A len c ∧ len ≤ c ∧ (ex = true → c = len) ∧
      ((len = 0 ∧ c = 0) ∨ ∃ b C e fr, ρ id = some (b, es) ∧ A = some ⟨b, off * es, none⟩ ∧ w.heap[b]? = some (Obj.cells C e fr) ∧ (off + c) * es ≤ C.size)
  | .ptr id off, x => ∃ b es, ρ id = some (b, es) ∧ x = .pointer (some ⟨b, off, none⟩)
  | .eptr id i f, x => ∃ b es, ρ id = some (b, es) ∧ x = .pointer (some ⟨b, i * es + f, none⟩)
  | .iptr row f, x => ∃ b o, x = .pointer (some ⟨b, o + f, none⟩) ∧ CLs w U row b o
  | .fn g pre post, x => ∃ xs ys, x = .func g xs ys ∧ VRs w U ρ pre xs.toList ∧ VRs w U ρ post ys.toList
  | .agg cs, x => ∃ xs, x = .agg xs ∧ VRs w U ρ cs xs.toList
  | .tup cs, x => ∃ xs, x = .tuple xs ∧ VRs w U ρ cs xs.toList
def VRs (w : World) (U : Nat → Nat → Prop) (ρ : Rho) : List AV → List Value → Prop
  | [], xs => xs = []
  | a :: as, xs => ∃ x r, xs = x :: r ∧ VR w U ρ a x ∧ VRs w U ρ as r
/-- Cells that stay as they are, from a place on. -/
def CLs (w : World) (U : Nat → Nat → Prop) : List AV → Nat → Nat → Prop
  | [], _, _ => True
  | a :: as, b, o => (∃ v, w.cell? ⟨b, o, none⟩ = some v ∧ ¬ U b o ∧ oneB v = true ∧ VR w U noRho a v) ∧ CLs w U as b (o + 1)
/-- Rows of them. -/
def RWs (w : World) (U : Nat → Nat → Prop) : List (List AV) → Nat → Nat → Nat → Prop
  | [], _, _, _ => True
  | r :: rs, b, o, es => r.length = es ∧ CLs w U r b o ∧ RWs w U rs b (o + es) es
end

/-- What was read stays so, and blocks stay as large as they are. -/
structure Stay (w : World) (U : Nat → Nat → Prop) (w' : World) (U' : Nat → Nat → Prop) : Prop where
  cell : ∀ b o v, ¬ U b o → w.cell? ⟨b, o, none⟩ = some v → w'.cell? ⟨b, o, none⟩ = some v ∧ ¬ U' b o
  size : ∀ (b : Nat) (C : Array Value) (e : TypeId) (fr : Nat × Nat), w.heap[b]? = some (Obj.cells C e fr) → ∃ C' fr', w'.heap[b]? = some (Obj.cells C' e fr') ∧ C'.size = C.size
def Ext (ρ ρ' : Rho) : Prop := ∀ id x, ρ id = some x → ρ' id = some x
theorem Ext.refl (ρ : Rho) : Ext ρ ρ := fun _ _ h => h
theorem Ext.trans {ρ ρ' ρ'' : Rho} (h : Ext ρ ρ') (h' : Ext ρ' ρ'') : Ext ρ ρ'' := fun i x hx => h' i x (h i x hx)
theorem Stay.refl (w : World) (U : Nat → Nat → Prop) : Stay w U w U := ⟨fun _ _ _ h c => ⟨c, h⟩, fun b C e fr h => ⟨C, fr, h, rfl⟩⟩
theorem Stay.trans {w w' w'' : World} {U U' U'' : Nat → Nat → Prop} (h : Stay w U w' U') (h' : Stay w' U' w'' U'') : Stay w U w'' U'' :=
  ⟨fun b o v hu hc => let ⟨c1, u1⟩ := h.cell b o v hu hc; h'.cell b o v u1 c1,
   fun b C e fr hb => let ⟨C1, f1, h1, s1⟩ := h.size b C e fr hb; let ⟨C2, f2, h2, s2⟩ := h'.size b C1 e f1 h1; ⟨C2, f2, h2, s2.trans s1⟩⟩

section mono
variable {w w' : World} {U U' : Nat → Nat → Prop} (hs : Stay w U w' U')
include hs
mutual
theorem VR_mono : ∀ (a : AV) (x : Value) (ρ ρ' : Rho), Ext ρ ρ' → VR w U ρ a x → VR w' U' ρ' a x
  | .bad, _, _, _, _, _ => by simp [VR]
  | .un, _, _, _, _, h => by simpa [VR] using h
  | .bool _, _, _, _, _, h => by simpa [VR] using h
  | .int _ _, _, _, _, _, h => by simpa [VR] using h
  | .str _, _, _, _, _, h => by simpa [VR] using h
  | .nil, _, _, _, _, h => by simpa [VR] using h
  | .oth _, _, _, _, _, h => by simpa [VR] using h
  | .imm es rows ex, x, ρ, ρ', hρ, h => by
    simp only [VR] at h ⊢
    obtain ⟨A, c, h1, h2, h3, h4⟩ := h
    refine ⟨A, c, h1, h2, h3, ?_⟩
    rcases h4 with h4 | ⟨b, o, h5, h7⟩
    · exact .inl h4
    · exact .inr ⟨b, o, h5, RWs_mono rows b o es h7⟩
  | .own es id off len ex, x, ρ, ρ', hρ, h => by
    simp only [VR] at h ⊢
    obtain ⟨A, c, h1, h2, h3, h4⟩ := h
    refine ⟨A, c, h1, h2, h3, ?_⟩
    rcases h4 with h4 | ⟨b, C, e, fr, h5, h6, h7, h8⟩
    · exact .inl h4
    · obtain ⟨C', fr', h9, h10⟩ := hs.size b C e fr h7
      exact .inr ⟨b, C', e, fr', hρ _ _ h5, h6, h9, by rw [h10]; exact h8⟩
  | .ptr id off, x, ρ, ρ', hρ, h => by
    simp only [VR] at h ⊢
    obtain ⟨b, es, h1, h2⟩ := h
    exact ⟨b, es, hρ _ _ h1, h2⟩
  | .eptr id i f, x, ρ, ρ', hρ, h => by
    simp only [VR] at h ⊢
    obtain ⟨b, es, h1, h2⟩ := h
    exact ⟨b, es, hρ _ _ h1, h2⟩
  | .iptr row f, x, ρ, ρ', hρ, h => by
    simp only [VR] at h ⊢
    obtain ⟨b, o, h1, h2⟩ := h
    exact ⟨b, o, h1, CLs_mono row b o h2⟩
  | .fn g pre post, x, ρ, ρ', hρ, h => by
    simp only [VR] at h ⊢
    obtain ⟨xs, ys, h1, h2, h3⟩ := h
    exact ⟨xs, ys, h1, VRs_mono pre _ ρ ρ' hρ h2, VRs_mono post _ ρ ρ' hρ h3⟩
  | .agg cs, x, ρ, ρ', hρ, h => by
    simp only [VR] at h ⊢
    obtain ⟨xs, h1, h2⟩ := h
    exact ⟨xs, h1, VRs_mono cs _ ρ ρ' hρ h2⟩
  | .tup cs, x, ρ, ρ', hρ, h => by
    simp only [VR] at h ⊢
    obtain ⟨xs, h1, h2⟩ := h
    exact ⟨xs, h1, VRs_mono cs _ ρ ρ' hρ h2⟩
theorem VRs_mono : ∀ (as : List AV) (xs : List Value) (ρ ρ' : Rho), Ext ρ ρ' → VRs w U ρ as xs → VRs w' U' ρ' as xs
  | [], _, _, _, _, h => by simpa [VRs] using h
  | a :: as, xs, ρ, ρ', hρ, h => by
    simp only [VRs] at h ⊢
    obtain ⟨x, r, h1, h2, h3⟩ := h
    exact ⟨x, r, h1, VR_mono a x ρ ρ' hρ h2, VRs_mono as r ρ ρ' hρ h3⟩
theorem CLs_mono : ∀ (as : List AV) (b o : Nat), CLs w U as b o → CLs w' U' as b o
  | [], _, _, _ => by simp [CLs]
  | a :: as, b, o, h => by
    simp only [CLs] at h ⊢
    obtain ⟨⟨v, h1, h2, h0, h3⟩, h4⟩ := h
    obtain ⟨c1, c2⟩ := hs.cell b o v h2 h1
    exact ⟨⟨v, c1, c2, h0, VR_mono a v noRho noRho (Ext.refl _) h3⟩, CLs_mono as b (o + 1) h4⟩
theorem RWs_mono : ∀ (rs : List (List AV)) (b o es : Nat), RWs w U rs b o es → RWs w' U' rs b o es
  | [], _, _, _, _ => by simp [RWs]
  | r :: rs, b, o, es, h => by
    simp only [RWs] at h ⊢
    exact ⟨h.1, CLs_mono r b o h.2.1, RWs_mono rs b (o + es) es h.2.2⟩
end
end mono

section rename
variable {w : World} {U : Nat → Nat → Prop} {ρ ρ' : Rho} {f : Nat → Option Nat} (hf : ∀ id j x, f id = some j → ρ id = some x → ρ' j = some x)
include hf
mutual
theorem VR_ren : ∀ (a : AV) (x : Value), VR w U ρ a x → VR w U ρ' (ren f a) x
  | .bad, _, _ => by simp [ren, VR]
  | .un, _, h => by simpa [ren, VR] using h
  | .bool _, _, h => by simpa [ren, VR] using h
  | .int _ _, _, h => by simpa [ren, VR] using h
  | .str _, _, h => by simpa [ren, VR] using h
  | .nil, _, h => by simpa [ren, VR] using h
  | .oth _, _, h => by simpa [ren, VR] using h
  | .imm es rows ex, x, h => by simpa [ren, VR] using h
  | .own es id off len ex, x, h => by
    simp only [ren]
    cases hj : f id with
    | none => simp [VR]
    | some j =>
      simp only [VR] at h ⊢
      obtain ⟨A, c, h1, h2, h3, h4⟩ := h
      refine ⟨A, c, h1, h2, h3, ?_⟩
      rcases h4 with h4 | ⟨b, C, e, fr, h5, h6⟩
      · exact .inl h4
      · exact .inr ⟨b, C, e, fr, hf _ _ _ hj h5, h6⟩
  | .ptr id off, x, h => by
    simp only [ren]
    cases hj : f id with
    | none => simp [VR]
    | some j =>
      simp only [VR] at h ⊢
      obtain ⟨b, es, h1, h2⟩ := h
      exact ⟨b, es, hf _ _ _ hj h1, h2⟩
  | .eptr id i g, x, h => by
    simp only [ren]
    cases hj : f id with
    | none => simp [VR]
    | some j =>
      simp only [VR] at h ⊢
      obtain ⟨b, es, h1, h2⟩ := h
      exact ⟨b, es, hf _ _ _ hj h1, h2⟩
  | .iptr row g, x, h => by simpa [ren, VR] using h
  | .fn g pre post, x, h => by
    simp only [VR, ren] at h ⊢
    obtain ⟨xs, ys, h1, h2, h3⟩ := h
    exact ⟨xs, ys, h1, VRs_ren pre _ h2, VRs_ren post _ h3⟩
  | .agg cs, x, h => by
    simp only [VR, ren] at h ⊢
    obtain ⟨xs, h1, h2⟩ := h
    exact ⟨xs, h1, VRs_ren cs _ h2⟩
  | .tup cs, x, h => by
    simp only [VR, ren] at h ⊢
    obtain ⟨xs, h1, h2⟩ := h
    exact ⟨xs, h1, VRs_ren cs _ h2⟩
theorem VRs_ren : ∀ (as : List AV) (xs : List Value), VRs w U ρ as xs → VRs w U ρ' (rens f as) xs
  | [], _, h => by simpa [rens, VRs] using h
  | a :: as, xs, h => by
    simp only [VRs, rens] at h ⊢
    obtain ⟨x, r, h1, h2, h3⟩ := h
    exact ⟨x, r, h1, VR_ren a x h2, VRs_ren as r h3⟩
end
end rename

/-! ### Lists -/
section
variable {w : World} {U : Nat → Nat → Prop} {ρ : Rho}
theorem VRs_length : ∀ {as : List AV} {xs : List Value}, VRs w U ρ as xs → as.length = xs.length
  | [], _, h => by simp only [VRs] at h; subst h; rfl
  | a :: as, xs, h => by
    simp only [VRs] at h
    obtain ⟨x, r, rfl, h2, h3⟩ := h
    simp [VRs_length h3]
theorem VRs_get : ∀ {as : List AV} {xs : List Value}, VRs w U ρ as xs → ∀ {i : Nat} {a : AV}, as[i]? = some a → ∃ x, xs[i]? = some x ∧ VR w U ρ a x
  | [], _, h, i, a, hi => by simp at hi
  | b :: as, xs, h, i, a, hi => by
    simp only [VRs] at h
    obtain ⟨x, r, rfl, h2, h3⟩ := h
    cases i with
    | zero => simp at hi; subst hi; exact ⟨x, rfl, h2⟩
    | succ i => simp at hi; simpa using VRs_get h3 hi
theorem VRs_append : ∀ {as bs : List AV} {xs ys : List Value}, VRs w U ρ as xs → VRs w U ρ bs ys → VRs w U ρ (as ++ bs) (xs ++ ys)
  | [], bs, xs, ys, h, h' => by simp only [VRs] at h; subst h; simpa using h'
  | a :: as, bs, xs, ys, h, h' => by
    simp only [VRs] at h
    obtain ⟨x, r, rfl, h2, h3⟩ := h
    simp only [List.cons_append, VRs]
    exact ⟨x, r ++ ys, rfl, h2, VRs_append h3 h'⟩
theorem VRs_drop : ∀ {as : List AV} {xs : List Value} (n : Nat), VRs w U ρ as xs → VRs w U ρ (as.drop n) (xs.drop n)
  | [], _, n, h => by simp only [VRs] at h; subst h; simp [VRs]
  | a :: as, xs, 0, h => by simpa using h
  | a :: as, xs, n + 1, h => by
    simp only [VRs] at h
    obtain ⟨x, r, rfl, h2, h3⟩ := h
    simpa using VRs_drop n h3
theorem VRs_take : ∀ {as : List AV} {xs : List Value} (n : Nat), VRs w U ρ as xs → VRs w U ρ (as.take n) (xs.take n)
  | [], _, n, h => by simp only [VRs] at h; subst h; simp [VRs]
  | a :: as, xs, 0, h => by simp [VRs]
  | a :: as, xs, n + 1, h => by
    simp only [VRs] at h
    obtain ⟨x, r, rfl, h2, h3⟩ := h
    simp only [List.take_succ_cons, VRs]
    exact ⟨x, r.take n, rfl, h2, VRs_take n h3⟩
theorem CLs_get : ∀ {as : List AV} {b o : Nat}, CLs w U as b o → ∀ {i : Nat} {a : AV}, as[i]? = some a → ∃ v, w.cell? ⟨b, o + i, none⟩ = some v ∧ ¬ U b (o + i) ∧ oneB v = true ∧ VR w U noRho a v
  | [], _, _, h, i, a, hi => by simp at hi
  | c :: as, b, o, h, i, a, hi => by
    simp only [CLs] at h
    obtain ⟨⟨v, h1, h2, h0, h3⟩, h4⟩ := h
    cases i with
    | zero => simp at hi; subst hi; exact ⟨v, h1, h2, h0, h3⟩
    | succ i =>
      simp at hi
      obtain ⟨v, g1, g2, g3⟩ := CLs_get h4 hi
      exact ⟨v, by rw [show o + (i + 1) = o + 1 + i by omega]; exact g1, by rw [show o + (i + 1) = o + 1 + i by omega]; exact g2, g3⟩
theorem CLs_mk : ∀ {as : List AV} {b o : Nat}, (∀ i a, as[i]? = some a → ∃ v, w.cell? ⟨b, o + i, none⟩ = some v ∧ ¬ U b (o + i) ∧ oneB v = true ∧ VR w U noRho a v) → CLs w U as b o
  | [], _, _, _ => by simp [CLs]
  | a :: as, b, o, h => by
    simp only [CLs]
    refine ⟨by simpa using h 0 a rfl, CLs_mk fun i a' hi => ?_⟩
    have := h (i + 1) a' (by simpa using hi)
    rwa [show o + (i + 1) = o + 1 + i by omega] at this
theorem RWs_get : ∀ {rs : List (List AV)} {b o es : Nat}, RWs w U rs b o es → ∀ {i : Nat} {r : List AV}, rs[i]? = some r → r.length = es ∧ CLs w U r b (o + i * es)
  | [], _, _, _, h, i, r, hi => by simp at hi
  | r' :: rs, b, o, es, h, i, r, hi => by
    simp only [RWs] at h
    cases i with
    | zero => simp at hi; subst hi; simpa using ⟨h.1, h.2.1⟩
    | succ i =>
      simp at hi
      have := RWs_get h.2.2 hi
      rwa [show o + es + i * es = o + (i + 1) * es by rw [Nat.succ_mul]; omega] at this
theorem RWs_mk : ∀ {rs : List (List AV)} {b o es : Nat}, (∀ i r, rs[i]? = some r → r.length = es ∧ CLs w U r b (o + i * es)) → RWs w U rs b o es
  | [], _, _, _, _ => by simp [RWs]
  | r :: rs, b, o, es, h => by
    simp only [RWs]
    have h0 := h 0 r rfl
    refine ⟨h0.1, by simpa using h0.2, RWs_mk fun i r' hi => ?_⟩
    have := h (i + 1) r' (by simpa using hi)
    rwa [show o + (i + 1) * es = o + es + i * es by rw [Nat.succ_mul]; omega] at this
end

/-! ### Values without places -/
mutual
theorem VR_free {w : World} {U : Nat → Nat → Prop} {ρ ρ' : Rho} : ∀ (a : AV) (x : Value), idFree a = true → VR w U ρ a x → VR w U ρ' a x
  | .bool _, _, _, h => by simpa [VR] using h
  | .int _ _, _, _, h => by simpa [VR] using h
  | .str _, _, _, h => by simpa [VR] using h
  | .nil, _, _, h => by simpa [VR] using h
  | .oth _, _, _, h => by simpa [VR] using h
  | .imm es rows ex, _, _, h => by simpa [VR] using h
  | .agg cs, x, hi, h => by
    simp only [VR] at h ⊢
    obtain ⟨xs, h1, h2⟩ := h
    exact ⟨xs, h1, VRs_free cs _ (by simpa [idFree] using hi) h2⟩
  | .tup cs, x, hi, h => by
    simp only [VR] at h ⊢
    obtain ⟨xs, h1, h2⟩ := h
    exact ⟨xs, h1, VRs_free cs _ (by simpa [idFree] using hi) h2⟩
  | .bad, _, hi, _ => by simp [idFree] at hi
  | .un, _, hi, _ => by simp [idFree] at hi
  | .own .., _, hi, _ => by simp [idFree] at hi
  | .ptr .., _, hi, _ => by simp [idFree] at hi
  | .eptr .., _, hi, _ => by simp [idFree] at hi
  | .iptr .., _, hi, _ => by simp [idFree] at hi
  | .fn .., _, hi, _ => by simp [idFree] at hi
theorem VRs_free {w : World} {U : Nat → Nat → Prop} {ρ ρ' : Rho} : ∀ (as : List AV) (xs : List Value), idFrees as = true → VRs w U ρ as xs → VRs w U ρ' as xs
  | [], _, _, h => by simpa [VRs] using h
  | a :: as, xs, hi, h => by
    simp only [VRs] at h ⊢
    simp only [idFrees, Bool.and_eq_true] at hi
    obtain ⟨x, r, h1, h2, h3⟩ := h
    exact ⟨x, r, h1, VR_free a x hi.1 h2, VRs_free as r hi.2 h3⟩
end
mutual
/-- A value without slices says nothing of memory. -/
theorem VR_plain {w w' : World} {U U' : Nat → Nat → Prop} {ρ ρ' : Rho} : ∀ (a : AV) (x : Value), plainB a = true → VR w U ρ a x → VR w' U' ρ' a x
  | .bool _, _, _, h => by simpa [VR] using h
  | .int _ _, _, _, h => by simpa [VR] using h
  | .str _, _, _, h => by simpa [VR] using h
  | .nil, _, _, h => by simpa [VR] using h
  | .oth _, _, _, h => by simpa [VR] using h
  | .agg cs, x, hi, h => by
    simp only [VR] at h ⊢
    obtain ⟨xs, h1, h2⟩ := h
    exact ⟨xs, h1, VRs_plain cs _ (by simpa [plainB] using hi) h2⟩
  | .tup cs, x, hi, h => by
    simp only [VR] at h ⊢
    obtain ⟨xs, h1, h2⟩ := h
    exact ⟨xs, h1, VRs_plain cs _ (by simpa [plainB] using hi) h2⟩
  | .imm .., _, hi, _ => by simp [plainB] at hi
  | .bad, _, hi, _ => by simp [plainB] at hi
  | .un, _, hi, _ => by simp [plainB] at hi
  | .own .., _, hi, _ => by simp [plainB] at hi
  | .ptr .., _, hi, _ => by simp [plainB] at hi
  | .eptr .., _, hi, _ => by simp [plainB] at hi
  | .iptr .., _, hi, _ => by simp [plainB] at hi
  | .fn .., _, hi, _ => by simp [plainB] at hi
theorem VRs_plain {w w' : World} {U U' : Nat → Nat → Prop} {ρ ρ' : Rho} : ∀ (as : List AV) (xs : List Value), plainBs as = true → VRs w U ρ as xs → VRs w' U' ρ' as xs
  | [], _, _, h => by simpa [VRs] using h
  | a :: as, xs, hi, h => by
    simp only [VRs] at h ⊢
    simp only [plainBs, Bool.and_eq_true] at hi
    obtain ⟨x, r, h1, h2, h3⟩ := h
    exact ⟨x, r, h1, VR_plain a x hi.1 h2, VRs_plain as r hi.2 h3⟩
end

/-! ### Cells -/
theorem VR_cell {w : World} {U : Nat → Nat → Prop} {ρ : Rho} {a : AV} {x : Value} (ha : cellB a = true) (h : VR w U ρ a x) : oneB x = true := by
  cases a <;> simp [cellB] at ha <;> simp only [VR] at h
  case bool => subst h; rfl
  case int => subst h; rfl
  case str => subst h; rfl
  case nil => subst h; rfl
  case oth => obtain ⟨rfl, h⟩ := h; exact h
  case imm => obtain ⟨A, c, rfl, _⟩ := h; rfl
  case own => obtain ⟨A, c, rfl, _⟩ := h; rfl
  case ptr => obtain ⟨b, es, _, rfl⟩ := h; rfl
  case eptr => obtain ⟨b, es, _, rfl⟩ := h; rfl
  case iptr => obtain ⟨b, o, rfl, _⟩ := h; rfl
  case fn => obtain ⟨xs, ys, rfl, _⟩ := h; rfl
theorem cells_one {x : Value} (h : oneB x = true) : x.cells = #[x] := by cases x <;> simp [oneB] at h <;> rfl
theorem VRs_cells {w : World} {U : Nat → Nat → Prop} {ρ : Rho} {a : AV} {x : Value} {cs : List AV} (ha : cellsOf a = some cs) (h : VR w U ρ a x) : VRs w U ρ cs x.cells.toList := by
  have other : ∀ a : AV, cellB a = true → cellsOf a = some [a] := by
    intro a h
    cases a <;> simp [cellB] at h <;> rfl
  cases a with
  | agg l =>
    simp only [cellsOf, Option.some.injEq] at ha
    subst ha
    simp only [VR] at h
    obtain ⟨xs, rfl, h2⟩ := h
    exact h2
  | bad => simp [cellsOf, cellB] at ha
  | un => simp [cellsOf, cellB] at ha
  | tup l => simp [cellsOf, cellB] at ha
  | _ =>
    have hc := VR_cell (by rfl) h
    rw [other _ (by rfl)] at ha
    obtain rfl := Option.some.inj ha
    rw [cells_one hc]
    simp only [VRs]
    exact ⟨x, [], rfl, h, rfl⟩
theorem VRs_one {w : World} {U : Nat → Nat → Prop} {ρ : Rho} : ∀ {as : List AV} {xs : List Value}, cellBs as = true → VRs w U ρ as xs → ∀ x ∈ xs, oneB x = true
  | [], xs, _, h, x, hx => by simp only [VRs] at h; subst h; simp at hx
  | a :: as, xs, ha, h, x, hx => by
    simp only [VRs] at h
    obtain ⟨y, r, rfl, h2, h3⟩ := h
    simp only [cellBs, Bool.and_eq_true] at ha
    rcases List.mem_cons.1 hx with rfl | hx
    · exact VR_cell ha.1 h2
    · exact VRs_one ha.2 h3 x hx

theorem esFit_or {size es : Nat} {rows : List (List AV)} (h : esFit size es rows = true) : rows = [] ∨ es = size := by
  simp only [esFit, Bool.or_eq_true, List.isEmpty_iff] at h
  rcases h with h | h
  · exact .inl h
  · exact .inr (Nat.eq_of_beq_eq_true h)
theorem RWs_es {w : World} {U : Nat → Nat → Prop} {b o es : Nat} : ∀ {rows : List (List AV)}, RWs w U rows b o es → rows = [] ∨ esOf rows = es
  | [], _ => .inl rfl
  | r :: rs, h => by
    simp only [RWs] at h
    exact .inr h.1
theorem VR_canI {w : World} {U : Nat → Nat → Prop} {ρ : Rho} {es : Nat} {rows : List (List AV)} {ex : Bool} {x : Value} (h : VR w U ρ (.imm es rows ex) x) : VR w U ρ (canI rows) x := by
  simp only [VR, canI] at h ⊢
  obtain ⟨A, c, h1, h2, h3, h4⟩ := h
  refine ⟨A, c, h1, h2, by simp, ?_⟩
  rcases h4 with h4 | ⟨b, o, h5, h7⟩
  · exact .inl h4
  · rcases RWs_es h7 with h8 | h8
    · exact .inl h8
    · rw [h8]
      exact .inr ⟨b, o, h5, h7⟩
theorem VR_nilI {w : World} {U : Nat → Nat → Prop} {ρ ρ' : Rho} {x : Value} (h : VR w U ρ .nil x) : VR w U ρ' (canI []) x := by
  simp only [VR, canI] at h ⊢
  subst h
  exact ⟨none, 0, rfl, Nat.le_refl _, by simp, .inl trivial⟩
/-! ### Constants -/
theorem VR_ofCell {w : World} {U : Nat → Nat → Prop} {ρ : Rho} (v : Value) : VR w U ρ (ofCell v) v := by
  unfold ofCell
  split <;> simp [VR, oneB]
theorem VRs_ofCells {w : World} {U : Nat → Nat → Prop} {ρ : Rho} : ∀ vs : List Value, VRs w U ρ (vs.map ofCell) vs
  | [] => by simp [VRs]
  | v :: vs => by
    simp only [List.map_cons, VRs]
    exact ⟨v, vs, rfl, VR_ofCell v, VRs_ofCells vs⟩
theorem VR_ofConst {w : World} {U : Nat → Nat → Prop} {ρ : Rho} (v : Value) : VR w U ρ (ofConst v) v := by
  unfold ofConst
  split
  · simp only [VR]
    exact ⟨_, rfl, VRs_ofCells _⟩
  · exact VR_ofCell _
end Go.Proofs.Ytefjblgmnoheiaa.R
