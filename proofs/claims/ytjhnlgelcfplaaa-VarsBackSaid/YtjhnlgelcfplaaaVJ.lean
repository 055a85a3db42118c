/- Plain laws: what is handed in, av variables. -/
import Derived.Test.YtjhnlgelcfplaaaVQ
import Derived.Test.YtjhnlgelcfplaaaMW0
set_option maxRecDepth 100000
set_option linter.unusedVariables false
set_option linter.unusedSimpArgs false
noncomputable section
namespace Go.Proofs.Ytjhnlgelcfplaaa.R
open Go
section
variable {P : Program} {n : Nat} {t : TypeId} {av : List AV}
theorem fitI {k : IntKind} (hu : P.underlying t = some (.int k)) (h : Fit P n t av) : ∃ i, av = ci k i ∧ (Lit.int k i).wf = true := by
  cases n with
  | zero => exact h.elim
  | succ n =>
    simp only [Fit, hu] at h
    exact h
theorem fitS (hu : P.underlying t = some .string) (h : Fit P n t av) : ∃ s, av = cs s ∧ s.size ≤ maxLen := by
  cases n with
  | zero => exact h.elim
  | succ n =>
    simp only [Fit, hu] at h
    exact h
theorem rows_of {α : Type} {c : α → List AV} {Q : α → Prop} : ∀ {rows : List (List AV)}, (∀ r ∈ rows, ∃ x, r = c x ∧ Q x) → ∃ l : List α, rows = l.map c ∧ ∀ x ∈ l, Q x
  | [], _ => ⟨[], rfl, by simp⟩
  | r :: rows, h => by
    obtain ⟨x, rfl, hx⟩ := h r (by simp)
    obtain ⟨l, rfl, hl⟩ := rows_of (rows := rows) fun r hr => h r (by simp [hr])
    exact ⟨x :: l, rfl, by simpa using ⟨hx, hl⟩⟩
theorem fitL {α : Type} {e : TypeId} {c : α → List AV} {Q : α → Prop} (hu : P.underlying t = some (.slice e)) (hrow : ∀ m r, m < n → Fit P m e r → ∃ x, r = c x ∧ Q x) (h : Fit P n t av) : ∃ l : List α, av = [sl c l] ∧ l.length ≤ maxLen ∧ ∀ x ∈ l, Q x := by
  cases n with
  | zero => exact h.elim
  | succ n =>
    simp only [Fit, hu] at h
    obtain ⟨rows, rfl, h1, h2⟩ := h
    obtain ⟨l, rfl, hl⟩ := rows_of fun r hr => hrow n r (by omega) (h2 r hr)
    exact ⟨l, rfl, by simpa using h1, hl⟩
end
theorem wf_in {n : Int} (h : (Lit.int .i64 n).wf = true) : inR n := by
  simp [Lit.wf, IntKind.min, IntKind.max, IntKind.signed, IntKind.bits] at h
  unfold inR
  omega
theorem wf_u8 {n : Int} (h : (Lit.int .u8 n).wf = true) : 0 ≤ n ∧ n ≤ 255 := by
  simp [Lit.wf, IntKind.min, IntKind.max, IntKind.signed, IntKind.bits] at h
  omega
theorem cut2 {a : List AV} (h : a.length = 2) : a = (a.drop 0).take 1 ++ (a.drop 1).take 1 := by
  match a, h with
  | [w, x], _ => rfl
theorem ce25 : (Pg).cellsOf 25 = 2 := by kernel_rfl
theorem ce22 : (Pg).cellsOf 22 = 1 := by kernel_rfl
theorem ce23 : (Pg).cellsOf 23 = 1 := by kernel_rfl
theorem fitV (n : Nat) (av : List AV) (h : Fit Pg n 25 av) : ∃ v : TVars, av = TVars.c v ∧ OkV v := by
  match n, h with
  | 0, h => exact h.elim
  | n + 1, h =>
    simp only [Fit, Go.Proofs.Try.underlying25, ce25] at h
    obtain ⟨hl, h⟩ := h
    have h0 := h _ (List.mem_cons_self)
    have h1 := h _ (List.mem_cons_of_mem _ List.mem_cons_self)
    simp only [ce22, ce23] at h0 h1
    obtain ⟨l, e0, w0, w1⟩ := fitL (c := cs) (Q := fun s => s.size ≤ maxLen) Go.Proofs.Try.underlying22 (fun m r hm hr => fitS Go.Proofs.Try.underlying9 hr) h0
    obtain ⟨l', e1, w2, w3⟩ := fitL (c := ci .i64) (Q := fun i => (Lit.int .i64 i).wf = true) Go.Proofs.Try.underlying23 (fun m r hm hr => fitI Go.Proofs.Try.underlying2 hr) h1
    refine ⟨⟨l, l'⟩, ?_, ⟨w0, w2, w1, fun i hi => wf_in (w3 i hi)⟩⟩
    rw [cut2 hl, e0, e1]
    rfl
/-- The arguments of a law of two variables. -/
theorem argsVV {avs : List AV} (h : Args Pg [25, 25] avs) : ∃ v w, avs = [.agg (TVars.c v), .agg (TVars.c w)] ∧ OkV v ∧ OkV w := by
  match avs, h with
  | [a, b], ⟨⟨n, c, hc, ea⟩, ⟨m, d, hd, eb⟩, _⟩ =>
    obtain ⟨x, rfl, hx⟩ := fitV n c hc
    obtain ⟨v, rfl, hv⟩ := fitV m d hd
    simp only [argOf, Go.Proofs.Try.underlying25] at ea eb
    exact ⟨x, v, by rw [ea, eb], hx, hv⟩
theorem argsVVVSI {avs : List AV} (h : Args Pg [25, 25, 25, 9, 2] avs) : ∃ v w x s n, avs = [.agg (TVars.c v), .agg (TVars.c w), .agg (TVars.c x), .str s, .int .i64 n] ∧ OkV v ∧ OkV w ∧ OkV x ∧ s.size ≤ maxLen ∧ inR n := by
  match avs, h with
  | [a1, a2, a3, a4, a5], ⟨⟨n1, c1, h1, e1⟩, ⟨n2, c2, h2, e2⟩, ⟨n3, c3, h3, e3⟩, ⟨n4, c4, h4, e4⟩, ⟨n5, c5, h5, e5⟩, _⟩ =>
    obtain ⟨v, rfl, hv⟩ := fitV n1 c1 h1
    obtain ⟨w, rfl, hw⟩ := fitV n2 c2 h2
    obtain ⟨x, rfl, hx⟩ := fitV n3 c3 h3
    obtain ⟨s, rfl, hs⟩ := fitS Go.Proofs.Try.underlying9 h4
    obtain ⟨i, rfl, hi⟩ := fitI Go.Proofs.Try.underlying2 h5
    simp only [argOf, Go.Proofs.Try.underlying25, Go.Proofs.Try.underlying9, Go.Proofs.Try.underlying2] at e1 e2 e3 e4 e5
    exact ⟨v, w, x, s, i, by rw [e1, e2, e3, e4, e5]; rfl, hv, hw, hx, hs, wf_in hi⟩
theorem argsVVS {avs : List AV} (h : Args Pg [25, 25, 9] avs) : ∃ v w s, avs = [.agg (TVars.c v), .agg (TVars.c w), .str s] ∧ OkV v ∧ OkV w ∧ s.size ≤ maxLen := by
  match avs, h with
  | [a1, a2, a4], ⟨⟨n1, c1, h1, e1⟩, ⟨n2, c2, h2, e2⟩, ⟨n4, c4, h4, e4⟩, _⟩ =>
    obtain ⟨v, rfl, hv⟩ := fitV n1 c1 h1
    obtain ⟨w, rfl, hw⟩ := fitV n2 c2 h2
    obtain ⟨s, rfl, hs⟩ := fitS Go.Proofs.Try.underlying9 h4
    simp only [argOf, Go.Proofs.Try.underlying25, Go.Proofs.Try.underlying9] at e1 e2 e4
    exact ⟨v, w, s, by rw [e1, e2, e4]; rfl, hv, hw, hs⟩
theorem argsVB {avs : List AV} (h : Args Pg [25, 32] avs) : ∃ (v : TVars) (b : List Int), avs = [.agg (TVars.c v), sl (ci .u8) b] ∧ OkV v ∧ ∀ x ∈ b, 0 ≤ x ∧ x ≤ 255 := by
  match avs, h with
  | [a1, a2], ⟨⟨n1, c1, h1, e1⟩, ⟨n2, c2, h2, e2⟩, _⟩ =>
    obtain ⟨v, rfl, hv⟩ := fitV n1 c1 h1
    obtain ⟨b, rfl, hb1, hb2⟩ := fitL (c := ci .u8) (Q := fun i => (Lit.int .u8 i).wf = true) Go.Proofs.Try.underlying32 (fun m r hm hr => fitI Go.Proofs.Try.underlying5 hr) h2
    simp only [argOf, Go.Proofs.Try.underlying25, Go.Proofs.Try.underlying32] at e1 e2
    exact ⟨v, b, by rw [e1, e2]; rfl, hv, fun x hx => wf_u8 (hb2 x hx)⟩
end Go.Proofs.Ytjhnlgelcfplaaa.R
