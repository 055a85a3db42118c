/- Plain laws: what is handed in, av posts. -/
import Derived.Test.YtefjblgmnoheiaaZC
import Derived.Test.YtefjblgmnoheiaaMW0
set_option maxRecDepth 100000
set_option linter.unusedVariables false
set_option linter.unusedSimpArgs false
noncomputable section
namespace Go.Proofs.Ytefjblgmnoheiaa.R
open Go
section
variable {P : Program} {n : Nat} {t : TypeId} {av : List AV}
theorem reach_big : reachBytes = big63 := rfl
theorem fitI {k : IntKind} (hu : P.underlying t = some (.int k)) (h : Fit P n t av) : ∃ i, av = ci k i ∧ (Lit.int k i).wf = true := by
  cases n with
  | zero => exact h.elim
  | succ n =>
    simp only [Fit, hu] at h
    exact h
theorem fitS (hu : P.underlying t = some .string) (h : Fit P n t av) : ∃ s, av = cs s ∧ s.size ≤ big63 := by
  cases n with
  | zero => exact h.elim
  | succ n =>
    simp only [Fit, hu] at h
    exact h
theorem rows_of {α : Type} {c : α → List AV} {Q : α → Prop} : ∀ {rows : List (List AV)}, (∀ r ∈ rows, ∃ x, r = c x ∧ Q x) → ∃ l : List α, rows = l.map c ∧ ∀ x ∈ l, Q x
  | [], _ => ⟨[], rfl, by simp⟩
  | r :: rows, h => by
    obtain ⟨x, rfl, hx⟩ := h r (by simp)
    obtain ⟨l, rfl, hl⟩ := rows_of (rows := rows) fun r hr => h r (by simp [hr])
    exact ⟨x :: l, rfl, by simpa using ⟨hx, hl⟩⟩
theorem fitL {α : Type} {e : TypeId} {c : α → List AV} {Q : α → Prop} (hu : P.underlying t = some (.slice e)) (hrow : ∀ m r, m < n → Fit P m e r → ∃ x, r = c x ∧ Q x) (h : Fit P n t av) : ∃ l : List α, av = [sl c l] ∧ l.length ≤ big63 ∧ ∀ x ∈ l, Q x := by
  cases n with
  | zero => exact h.elim
  | succ n =>
    simp only [Fit, hu] at h
    obtain ⟨rows, rfl, h1, h2⟩ := h
    obtain ⟨l, rfl, hl⟩ := rows_of fun r hr => hrow n r (by omega) (h2 r hr)
    exact ⟨l, rfl, by simpa [reach_big] using h1, hl⟩
end
theorem wf_in {n : Int} (h : (Lit.int .i64 n).wf = true) : inR n := by
  simp [Lit.wf, IntKind.min, IntKind.max, IntKind.signed, IntKind.bits] at h
  unfold inR
  omega
theorem cut2 {a : List AV} (h : a.length = 2) : a = (a.drop 0).take 1 ++ (a.drop 1).take 1 := by
  match a, h with
  | [w, x], _ => rfl
theorem ce2 : (Pg).cellsOf 2 = 1 := by kernel_rfl
theorem ce3 : (Pg).cellsOf 3 = 1 := by kernel_rfl
theorem ce9 : (Pg).cellsOf 9 = 1 := by kernel_rfl
theorem ce32 : (Pg).cellsOf 32 = 1 := by kernel_rfl
theorem ce33 : (Pg).cellsOf 33 = 1 := by kernel_rfl
theorem ce35 : (Pg).cellsOf 35 = 2 := by kernel_rfl
theorem fitV (n : Nat) (av : List AV) (h : Fit Pg n 35 av) : ∃ v : TVars, av = TVars.c v ∧ OkV v := by
  match n, h with
  | 0, h => exact h.elim
  | n + 1, h =>
    simp only [Fit, Go.Proofs.Try.underlying35, ce35] at h
    obtain ⟨hl, h⟩ := h
    have h0 := h _ (List.mem_cons_self)
    have h1 := h _ (List.mem_cons_of_mem _ List.mem_cons_self)
    simp only [ce32, ce33] at h0 h1
    obtain ⟨l, e0, w0, w1⟩ := fitL (c := cs) (Q := fun s => s.size ≤ big63) Go.Proofs.Try.underlying32 (fun m r hm hr => fitS Go.Proofs.Try.underlying9 hr) h0
    obtain ⟨l', e1, w2, w3⟩ := fitL (c := ci .i64) (Q := fun i => (Lit.int .i64 i).wf = true) Go.Proofs.Try.underlying33 (fun m r hm hr => fitI Go.Proofs.Try.underlying2 hr) h1
    refine ⟨⟨l, l'⟩, ?_, ⟨w0, w2, w1, fun i hi => wf_in (w3 i hi)⟩⟩
    rw [cut2 hl, e0, e1]
    rfl
theorem cut10 {a : List AV} (h : a.length = 10) : a = (a.drop 0).take 1 ++ ((a.drop 1).take 1 ++ ((a.drop 2).take 1 ++ ((a.drop 3).take 2 ++ ((a.drop 5).take 1 ++ ((a.drop 6).take 1 ++ ((a.drop 7).take 1 ++ ((a.drop 8).take 1 ++ (a.drop 9).take 1))))))) := by
  match a, h with
  | [a, b, c, d, e, f, g, i, j, k], _ => rfl
theorem ce37 : (Pg).cellsOf 37 = 10 := by kernel_rfl
theorem fitO (n : Nat) (av : List AV) (h : Fit Pg n 37 av) : ∃ o : TOp, av = TOp.c o ∧ OkO o := by
  match n, h with
  | 0, h => exact h.elim
  | n + 1, h =>
    simp only [Fit, Go.Proofs.Try.underlying37, ce37] at h
    obtain ⟨hl, h⟩ := h
    have h0 := h _ (List.mem_cons_self)
    have h1 := h _ (List.mem_cons_of_mem _ List.mem_cons_self)
    have h2 := h _ (List.mem_cons_of_mem _ (List.mem_cons_of_mem _ List.mem_cons_self))
    have h3 := h _ (List.mem_cons_of_mem _ (List.mem_cons_of_mem _ (List.mem_cons_of_mem _ List.mem_cons_self)))
    have h4 := h _ (List.mem_cons_of_mem _ (List.mem_cons_of_mem _ (List.mem_cons_of_mem _ (List.mem_cons_of_mem _ List.mem_cons_self))))
    have h5 := h _ (List.mem_cons_of_mem _ (List.mem_cons_of_mem _ (List.mem_cons_of_mem _ (List.mem_cons_of_mem _ (List.mem_cons_of_mem _ List.mem_cons_self)))))
    have h6 := h _ (List.mem_cons_of_mem _ (List.mem_cons_of_mem _ (List.mem_cons_of_mem _ (List.mem_cons_of_mem _ (List.mem_cons_of_mem _ (List.mem_cons_of_mem _ List.mem_cons_self))))))
    have h7 := h _ (List.mem_cons_of_mem _ (List.mem_cons_of_mem _ (List.mem_cons_of_mem _ (List.mem_cons_of_mem _ (List.mem_cons_of_mem _ (List.mem_cons_of_mem _ (List.mem_cons_of_mem _ List.mem_cons_self)))))))
    have h8 := h _ (List.mem_cons_of_mem _ (List.mem_cons_of_mem _ (List.mem_cons_of_mem _ (List.mem_cons_of_mem _ (List.mem_cons_of_mem _ (List.mem_cons_of_mem _ (List.mem_cons_of_mem _ (List.mem_cons_of_mem _ List.mem_cons_self))))))))
    simp only [ce3, ce9, ce2, ce35] at h0 h1 h2 h3 h4 h5 h6 h7 h8
    obtain ⟨x0, e0, w0⟩ := fitI Go.Proofs.Try.underlying3 h0
    obtain ⟨x1, e1, w1⟩ := fitS Go.Proofs.Try.underlying9 h1
    obtain ⟨x2, e2, w2⟩ := fitI Go.Proofs.Try.underlying2 h2
    obtain ⟨x3, e3, w3⟩ := fitV _ _ h3
    obtain ⟨x4, e4, w4⟩ := fitI Go.Proofs.Try.underlying3 h4
    obtain ⟨x5, e5, w5⟩ := fitI Go.Proofs.Try.underlying3 h5
    obtain ⟨x6, e6, w6⟩ := fitI Go.Proofs.Try.underlying3 h6
    obtain ⟨x7, e7, w7⟩ := fitI Go.Proofs.Try.underlying3 h7
    obtain ⟨x8, e8, w8⟩ := fitI Go.Proofs.Try.underlying3 h8
    refine ⟨⟨x0, x1, x2, x3, x4, x5, x6, x7, x8⟩, ?_, ⟨wf_in w0, w1, wf_in w2, w3, wf_in w4, wf_in w5, wf_in w6, wf_in w7, wf_in w8⟩⟩
    rw [cut10 hl, e0, e1, e2, e3, e4, e5, e6, e7, e8]
    rfl
/-- The arguments of a law of acts. -/
theorem argsL {avs : List AV} (h : Args Pg [57] avs) : ∃ l : List TOp, avs = [sl TOp.c l] ∧ l.length ≤ big63 ∧ ∀ o ∈ l, OkO o := by
  match avs, h with
  | [a1], ⟨⟨n1, c1, h1, e1⟩, _⟩ =>
    obtain ⟨l, rfl, w1, w2⟩ := fitL (c := TOp.c) (Q := OkO) Go.Proofs.Try.underlying57 (fun m r hm hr => fitO m r hr) h1
    simp only [argOf, Go.Proofs.Try.underlying57] at e1
    exact ⟨l, by rw [e1]; rfl, w1, w2⟩
end Go.Proofs.Ytefjblgmnoheiaa.R
