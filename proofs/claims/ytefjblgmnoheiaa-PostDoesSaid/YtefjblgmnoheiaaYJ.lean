/- Plain laws: what is handed in, av posts. -/
import Derived.Test.YtefjblgmnoheiaaYE
import Derived.Test.YtefjblgmnoheiaaMW0
set_option maxRecDepth 100000
set_option linter.unusedVariables false
set_option linter.unusedSimpArgs false
noncomputable section
namespace Go.Proofs.Ytefjblgmnoheiaa.R
open Go
section
variable {P : Program} {n : Nat} {t : TypeId} {av : List AV}
theorem reach_big : reachBytes = big63 := rfl
theorem fitI {k : IntKind} (hu : P.underlying t = some (.int k)) (h : Fit P n t av) : ∃ i, av = ci k i ∧ (Lit.int k i).wf = true := by
  cases n with
  | zero => exact h.elim
  | succ n =>
    simp only [Fit, hu] at h
    exact h
theorem fitS (hu : P.underlying t = some .string) (h : Fit P n t av) : ∃ s, av = cs s ∧ s.size ≤ big63 := by
  cases n with
  | zero => exact h.elim
  | succ n =>
    simp only [Fit, hu] at h
    exact h
theorem rows_of {α : Type} {c : α → List AV} {Q : α → Prop} : ∀ {rows : List (List AV)}, (∀ r ∈ rows, ∃ x, r = c x ∧ Q x) → ∃ l : List α, rows = l.map c ∧ ∀ x ∈ l, Q x
  | [], _ => ⟨[], rfl, by simp⟩
  | r :: rows, h => by
    obtain ⟨x, rfl, hx⟩ := h r (by simp)
    obtain ⟨l, rfl, hl⟩ := rows_of (rows := rows) fun r hr => h r (by simp [hr])
    exact ⟨x :: l, rfl, by simpa using ⟨hx, hl⟩⟩
theorem fitL {α : Type} {e : TypeId} {c : α → List AV} {Q : α → Prop} (hu : P.underlying t = some (.slice e)) (hrow : ∀ m r, m < n → Fit P m e r → ∃ x, r = c x ∧ Q x) (h : Fit P n t av) : ∃ l : List α, av = [sl c l] ∧ l.length ≤ big63 ∧ ∀ x ∈ l, Q x := by
  cases n with
  | zero => exact h.elim
  | succ n =>
    simp only [Fit, hu] at h
    obtain ⟨rows, rfl, h1, h2⟩ := h
    obtain ⟨l, rfl, hl⟩ := rows_of fun r hr => hrow n r (by omega) (h2 r hr)
    exact ⟨l, rfl, by simpa [reach_big] using h1, hl⟩
end
theorem wf_in {n : Int} (h : (Lit.int .i64 n).wf = true) : inR n := by
  simp [Lit.wf, IntKind.min, IntKind.max, IntKind.signed, IntKind.bits] at h
  unfold inR
  omega
theorem cut2 {a : List AV} (h : a.length = 2) : a = (a.drop 0).take 1 ++ (a.drop 1).take 1 := by
  match a, h with
  | [w, x], _ => rfl
theorem cut3 {a : List AV} (h : a.length = 3) : a = (a.drop 0).take 1 ++ ((a.drop 1).take 1 ++ (a.drop 2).take 1) := by
  match a, h with
  | [w, x, y], _ => rfl
theorem cut6 {a : List AV} (h : a.length = 6) : a = (a.drop 0).take 1 ++ ((a.drop 1).take 1 ++ ((a.drop 2).take 1 ++ ((a.drop 3).take 1 ++ ((a.drop 4).take 1 ++ (a.drop 5).take 1)))) := by
  match a, h with
  | [w, x, y, z, u, v], _ => rfl
theorem cut7 {a : List AV} (h : a.length = 7) : a = (a.drop 0).take 1 ++ ((a.drop 1).take 1 ++ ((a.drop 2).take 1 ++ ((a.drop 3).take 2 ++ ((a.drop 5).take 1 ++ (a.drop 6).take 1)))) := by
  match a, h with
  | [w, x, y, z, u, v, q], _ => rfl
theorem ce2 : (Pg).cellsOf 2 = 1 := by kernel_rfl
theorem ce3 : (Pg).cellsOf 3 = 1 := by kernel_rfl
theorem ce9 : (Pg).cellsOf 9 = 1 := by kernel_rfl
theorem ce22 : (Pg).cellsOf 22 = 1 := by kernel_rfl
theorem ce23 : (Pg).cellsOf 23 = 1 := by kernel_rfl
theorem ce25 : (Pg).cellsOf 25 = 3 := by kernel_rfl
theorem ce32 : (Pg).cellsOf 32 = 1 := by kernel_rfl
theorem ce33 : (Pg).cellsOf 33 = 1 := by kernel_rfl
theorem ce35 : (Pg).cellsOf 35 = 2 := by kernel_rfl
theorem ce45 : (Pg).cellsOf 45 = 6 := by kernel_rfl
theorem ce61 : (Pg).cellsOf 61 = 1 := by kernel_rfl
theorem ce68 : (Pg).cellsOf 68 = 2 := by kernel_rfl
theorem ce70 : (Pg).cellsOf 70 = 7 := by kernel_rfl
theorem fitV (n : Nat) (av : List AV) (h : Fit Pg n 35 av) : ∃ v : TVars, av = TVars.c v ∧ OkV v := by
  match n, h with
  | 0, h => exact h.elim
  | n + 1, h =>
    simp only [Fit, Go.Proofs.Try.underlying35, ce35] at h
    obtain ⟨hl, h⟩ := h
    have h0 := h _ (List.mem_cons_self)
    have h1 := h _ (List.mem_cons_of_mem _ List.mem_cons_self)
    simp only [ce32, ce33] at h0 h1
    obtain ⟨l, e0, w0, w1⟩ := fitL (c := cs) (Q := fun s => s.size ≤ big63) Go.Proofs.Try.underlying32 (fun m r hm hr => fitS Go.Proofs.Try.underlying9 hr) h0
    obtain ⟨l', e1, w2, w3⟩ := fitL (c := ci .i64) (Q := fun i => (Lit.int .i64 i).wf = true) Go.Proofs.Try.underlying33 (fun m r hm hr => fitI Go.Proofs.Try.underlying2 hr) h1
    refine ⟨⟨l, l'⟩, ?_, ⟨w0, w2, w1, fun i hi => wf_in (w3 i hi)⟩⟩
    rw [cut2 hl, e0, e1]
    rfl
theorem fitW (n : Nat) (av : List AV) (h : Fit Pg n 68 av) : ∃ w : TWho, av = TWho.c w ∧ (inR w.Part ∧ inR w.Inst) := by
  match n, h with
  | 0, h => exact h.elim
  | n + 1, h =>
    simp only [Fit, Go.Proofs.Try.underlying68, ce68] at h
    obtain ⟨hl, h⟩ := h
    have h0 := h _ (List.mem_cons_self)
    have h1 := h _ (List.mem_cons_of_mem _ List.mem_cons_self)
    simp only [ce3] at h0 h1
    obtain ⟨a, e0, w0⟩ := fitI Go.Proofs.Try.underlying3 h0
    obtain ⟨b, e1, w1⟩ := fitI Go.Proofs.Try.underlying3 h1
    refine ⟨⟨a, b⟩, ?_, wf_in w0, wf_in w1⟩
    rw [cut2 hl, e0, e1]
    rfl
theorem fitM (n : Nat) (av : List AV) (h : Fit Pg n 70 av) : ∃ m : TMail, av = TMail.c m ∧ OkM m := by
  match n, h with
  | 0, h => exact h.elim
  | n + 1, h =>
    simp only [Fit, Go.Proofs.Try.underlying70, ce70] at h
    obtain ⟨hl, h⟩ := h
    have h0 := h _ (List.mem_cons_self)
    have h1 := h _ (List.mem_cons_of_mem _ List.mem_cons_self)
    have h2 := h _ (List.mem_cons_of_mem _ (List.mem_cons_of_mem _ List.mem_cons_self))
    have h3 := h _ (List.mem_cons_of_mem _ (List.mem_cons_of_mem _ (List.mem_cons_of_mem _ List.mem_cons_self)))
    have h4 := h _ (List.mem_cons_of_mem _ (List.mem_cons_of_mem _ (List.mem_cons_of_mem _ (List.mem_cons_of_mem _ List.mem_cons_self))))
    have h5 := h _ (List.mem_cons_of_mem _ (List.mem_cons_of_mem _ (List.mem_cons_of_mem _ (List.mem_cons_of_mem _ (List.mem_cons_of_mem _ List.mem_cons_self)))))
    simp only [ce3, ce9, ce2, ce35, ce61] at h0 h1 h2 h3 h4 h5
    obtain ⟨a, e0, w0⟩ := fitI Go.Proofs.Try.underlying3 h0
    obtain ⟨b, e1, w1⟩ := fitS Go.Proofs.Try.underlying9 h1
    obtain ⟨c, e2, w2⟩ := fitI Go.Proofs.Try.underlying2 h2
    obtain ⟨v, e3, w3⟩ := fitV _ _ h3
    obtain ⟨u, e4, w4⟩ := fitI Go.Proofs.Try.underlying3 h4
    obtain ⟨l, e5, w5, w6⟩ := fitL (c := TWho.c) (Q := fun w => inR w.Part ∧ inR w.Inst) Go.Proofs.Try.underlying61 (fun m r hm hr => fitW m r hr) h5
    refine ⟨⟨a, b, c, v, u, l⟩, ?_, ⟨wf_in w0, wf_in w2, wf_in w4, w1, w3, w5, w6⟩⟩
    rw [cut7 hl, e0, e1, e2, e3, e4, e5]
    rfl
theorem fitU (n : Nat) (av : List AV) (h : Fit Pg n 45 av) : ∃ s : TSub, av = TSub.c s ∧ OkS s := by
  match n, h with
  | 0, h => exact h.elim
  | n + 1, h =>
    simp only [Fit, Go.Proofs.Try.underlying45, ce45] at h
    obtain ⟨hl, h⟩ := h
    have h0 := h _ (List.mem_cons_self)
    have h1 := h _ (List.mem_cons_of_mem _ List.mem_cons_self)
    have h2 := h _ (List.mem_cons_of_mem _ (List.mem_cons_of_mem _ List.mem_cons_self))
    have h3 := h _ (List.mem_cons_of_mem _ (List.mem_cons_of_mem _ (List.mem_cons_of_mem _ List.mem_cons_self)))
    have h4 := h _ (List.mem_cons_of_mem _ (List.mem_cons_of_mem _ (List.mem_cons_of_mem _ (List.mem_cons_of_mem _ List.mem_cons_self))))
    have h5 := h _ (List.mem_cons_of_mem _ (List.mem_cons_of_mem _ (List.mem_cons_of_mem _ (List.mem_cons_of_mem _ (List.mem_cons_of_mem _ List.mem_cons_self)))))
    simp only [ce3, ce9, ce2] at h0 h1 h2 h3 h4 h5
    obtain ⟨a, e0, w0⟩ := fitI Go.Proofs.Try.underlying3 h0
    obtain ⟨b, e1, w1⟩ := fitI Go.Proofs.Try.underlying3 h1
    obtain ⟨c, e2, w2⟩ := fitI Go.Proofs.Try.underlying3 h2
    obtain ⟨v, e3, w3⟩ := fitS Go.Proofs.Try.underlying9 h3
    obtain ⟨u, e4, w4⟩ := fitI Go.Proofs.Try.underlying2 h4
    obtain ⟨l, e5, w5⟩ := fitI Go.Proofs.Try.underlying3 h5
    refine ⟨⟨a, b, c, v, u, l⟩, ?_, ⟨wf_in w0, wf_in w1, wf_in w2, wf_in w4, wf_in w5, w3⟩⟩
    rw [cut6 hl, e0, e1, e2, e3, e4, e5]
    rfl
theorem fitP (n : Nat) (av : List AV) (h : Fit Pg n 25 av) : ∃ p : TPost, av = TPost.c p ∧ OkP p := by
  match n, h with
  | 0, h => exact h.elim
  | n + 1, h =>
    simp only [Fit, Go.Proofs.Try.underlying25, ce25] at h
    obtain ⟨hl, h⟩ := h
    have h0 := h _ (List.mem_cons_self)
    have h1 := h _ (List.mem_cons_of_mem _ List.mem_cons_self)
    have h2 := h _ (List.mem_cons_of_mem _ (List.mem_cons_of_mem _ List.mem_cons_self))
    simp only [ce3, ce22, ce23] at h0 h1 h2
    obtain ⟨a, e0, w0⟩ := fitI Go.Proofs.Try.underlying3 h0
    obtain ⟨l, e1, w1, w2⟩ := fitL (c := TMail.c) (Q := OkM) Go.Proofs.Try.underlying22 (fun m r hm hr => fitM m r hr) h1
    obtain ⟨k, e2, w3, w4⟩ := fitL (c := TSub.c) (Q := OkS) Go.Proofs.Try.underlying23 (fun m r hm hr => fitU m r hr) h2
    refine ⟨⟨a, l, k⟩, ?_, ⟨wf_in w0, w1, w3, w2, w4⟩⟩
    rw [cut3 hl, e0, e1, e2]
    rfl
theorem cut10 {a : List AV} (h : a.length = 10) : a = (a.drop 0).take 1 ++ ((a.drop 1).take 1 ++ ((a.drop 2).take 1 ++ ((a.drop 3).take 2 ++ ((a.drop 5).take 1 ++ ((a.drop 6).take 1 ++ ((a.drop 7).take 1 ++ ((a.drop 8).take 1 ++ (a.drop 9).take 1))))))) := by
  match a, h with
  | [a, b, c, d, e, f, g, i, j, k], _ => rfl
theorem ce37 : (Pg).cellsOf 37 = 10 := by kernel_rfl
theorem fitO (n : Nat) (av : List AV) (h : Fit Pg n 37 av) : ∃ o : TOp, av = TOp.c o ∧ OkO o := by
  match n, h with
  | 0, h => exact h.elim
  | n + 1, h =>
    simp only [Fit, Go.Proofs.Try.underlying37, ce37] at h
    obtain ⟨hl, h⟩ := h
    have h0 := h _ (List.mem_cons_self)
    have h1 := h _ (List.mem_cons_of_mem _ List.mem_cons_self)
    have h2 := h _ (List.mem_cons_of_mem _ (List.mem_cons_of_mem _ List.mem_cons_self))
    have h3 := h _ (List.mem_cons_of_mem _ (List.mem_cons_of_mem _ (List.mem_cons_of_mem _ List.mem_cons_self)))
    have h4 := h _ (List.mem_cons_of_mem _ (List.mem_cons_of_mem _ (List.mem_cons_of_mem _ (List.mem_cons_of_mem _ List.mem_cons_self))))
    have h5 := h _ (List.mem_cons_of_mem _ (List.mem_cons_of_mem _ (List.mem_cons_of_mem _ (List.mem_cons_of_mem _ (List.mem_cons_of_mem _ List.mem_cons_self)))))
    have h6 := h _ (List.mem_cons_of_mem _ (List.mem_cons_of_mem _ (List.mem_cons_of_mem _ (List.mem_cons_of_mem _ (List.mem_cons_of_mem _ (List.mem_cons_of_mem _ List.mem_cons_self))))))
    have h7 := h _ (List.mem_cons_of_mem _ (List.mem_cons_of_mem _ (List.mem_cons_of_mem _ (List.mem_cons_of_mem _ (List.mem_cons_of_mem _ (List.mem_cons_of_mem _ (List.mem_cons_of_mem _ List.mem_cons_self)))))))
    have h8 := h _ (List.mem_cons_of_mem _ (List.mem_cons_of_mem _ (List.mem_cons_of_mem _ (List.mem_cons_of_mem _ (List.mem_cons_of_mem _ (List.mem_cons_of_mem _ (List.mem_cons_of_mem _ (List.mem_cons_of_mem _ List.mem_cons_self))))))))
    simp only [ce3, ce9, ce2, ce35] at h0 h1 h2 h3 h4 h5 h6 h7 h8
    obtain ⟨x0, e0, w0⟩ := fitI Go.Proofs.Try.underlying3 h0
    obtain ⟨x1, e1, w1⟩ := fitS Go.Proofs.Try.underlying9 h1
    obtain ⟨x2, e2, w2⟩ := fitI Go.Proofs.Try.underlying2 h2
    obtain ⟨x3, e3, w3⟩ := fitV _ _ h3
    obtain ⟨x4, e4, w4⟩ := fitI Go.Proofs.Try.underlying3 h4
    obtain ⟨x5, e5, w5⟩ := fitI Go.Proofs.Try.underlying3 h5
    obtain ⟨x6, e6, w6⟩ := fitI Go.Proofs.Try.underlying3 h6
    obtain ⟨x7, e7, w7⟩ := fitI Go.Proofs.Try.underlying3 h7
    obtain ⟨x8, e8, w8⟩ := fitI Go.Proofs.Try.underlying3 h8
    refine ⟨⟨x0, x1, x2, x3, x4, x5, x6, x7, x8⟩, ?_, ⟨wf_in w0, w1, wf_in w2, w3, wf_in w4, wf_in w5, wf_in w6, wf_in w7, wf_in w8⟩⟩
    rw [cut10 hl, e0, e1, e2, e3, e4, e5, e6, e7, e8]
    rfl
/-- The arguments of a law of a post and an act. -/
theorem argsPO {avs : List AV} (h : Args Pg [25, 37] avs) : ∃ (p : TPost) (o : TOp), avs = [.agg (TPost.c p), .agg (TOp.c o)] ∧ OkP p ∧ OkO o := by
  match avs, h with
  | [a1, a2], ⟨⟨n1, c1, h1, e1⟩, ⟨n2, c2, h2, e2⟩, _⟩ =>
    obtain ⟨p, rfl, hp⟩ := fitP n1 c1 h1
    obtain ⟨o, rfl, ho⟩ := fitO n2 c2 h2
    simp only [argOf, Go.Proofs.Try.underlying25, Go.Proofs.Try.underlying37] at e1 e2
    exact ⟨p, o, by rw [e1, e2], hp, ho⟩
end Go.Proofs.Ytefjblgmnoheiaa.R
