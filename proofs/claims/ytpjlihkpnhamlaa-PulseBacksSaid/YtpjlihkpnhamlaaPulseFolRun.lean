/- The dial that is followed with the faults to come is the reference's dial: plain. -/
import Derived.Test.YtpjlihkpnhamlaaPulseRun
import Derived.Test.YtpjlihkpnhamlaaPulseRefRun
set_option linter.unusedSimpArgs false
set_option linter.unusedVariables false
namespace Go.Proofs.Ytpjlihkpnhamlaa
namespace Pu
theorem chk_sorted {l : Ln} {U : Int} : ∀ {fs : List (Int × Int)} {f : Int}, chkFs l U f fs = true → fs.Pairwise (fun x y => x.1 < y.1) ∧ ∀ x ∈ fs, f < x.1 ∧ x.1 ≤ U ∧ isLong l x.1 = false
  | [], _, _ => ⟨List.Pairwise.nil, fun x hx => (by cases hx)⟩
  | y :: tl, f, h => by
    rw [chkFs] at h
    simp only [Bool.and_eq_true, Bool.or_eq_true, decide_eq_true_eq, Bool.not_eq_true'] at h
    obtain ⟨h1, h2⟩ := chk_sorted h.2
    refine ⟨List.pairwise_cons.2 ⟨fun x hx => (h2 x hx).1, h1⟩, fun x hx => ?_⟩
    rcases List.mem_cons.1 hx with rfl | hx
    · exact ⟨by omega, by omega, h.1.2⟩
    · have := h2 x hx
      exact ⟨by omega, this.2.1, this.2.2⟩
theorem find_pre {t : Int} : ∀ {pre tl : List (Int × Int)}, (∀ x ∈ pre, x.1 ≠ t) → (pre ++ tl).find? (fun x => x.1 == t) = tl.find? (fun x => x.1 == t)
  | [], tl, _ => rfl
  | y :: p, tl, h => by
    have hy : (y.1 == t) = false := by simpa using h y (by simp)
    rw [List.cons_append, List.find?_cons, hy]
    exact find_pre (fun x hx => h x (by simp [hx]))
theorem find_gt {t : Int} {tl : List (Int × Int)} (h : ∀ x ∈ tl, t < x.1) : tl.find? (fun x => x.1 == t) = none := by
  rw [List.find?_eq_none]
  intro x hx
  have := h x hx
  simp; omega
theorem fol_eq {l : Ln} {f : Int} {fs : List (Int × Int)} {d : Dl} (hs : fs.Pairwise (fun x y => x.1 < y.1)) (hf : ∀ x ∈ fs, f < x.1) : ∀ n : Nat,
    (∃ pre, fs = pre ++ (folN l f fs d n).2 ∧ ∀ x ∈ pre, x.1 ≤ f + n) ∧ (∀ x ∈ (folN l f fs d n).2, f + n < x.1) ∧ (folN l f fs d n).2.Pairwise (fun x y => x.1 < y.1) ∧ (folN l f fs d n).1 = runN l f fs d n
  | 0 => ⟨⟨[], rfl, fun x hx => (by cases hx)⟩, fun x hx => (by have := hf x hx; omega), hs, rfl⟩
  | n + 1 => by
    obtain ⟨⟨pre, h1, h2⟩, h3, h4, h5⟩ := fol_eq (l := l) (d := d) hs hf n
    have hpre : ∀ x ∈ pre, x.1 ≠ f + n + 1 := fun x hx => by have := h2 x hx; omega
    have hm : headMoves (folN l f fs d n).2 (f + n + 1) = movesAt fs (f + n + 1) := by
      have e : fs.find? (fun x => x.1 == f + n + 1) = (folN l f fs d n).2.find? (fun x => x.1 == f + n + 1) := by
        conv => lhs; rw [h1]
        exact find_pre hpre
      unfold movesAt
      rw [e]
      generalize (folN l f fs d n).2 = q at h3 h4
      cases q with
      | nil => rfl
      | cons y tl =>
        obtain ⟨h6, h7⟩ := List.pairwise_cons.1 h4
        unfold headMoves
        by_cases hy : y.1 = f + n + 1
        · simp [hy]
        · have : (y :: tl).find? (fun x => x.1 == f + n + 1) = none := find_gt (fun x hx => by
            have h8 := h3 y (by simp)
            rcases List.mem_cons.1 hx with rfl | hx
            · omega
            · have := h6 x hx; omega)
          rw [this]
          simp [hy]
    simp only [folN, runN]
    rw [hm, h5]
    refine ⟨?_, ?_, ?_, rfl⟩
    · generalize (folN l f fs d n).2 = q at h1 h3 h4
      cases q with
      | nil => exact ⟨pre, by simpa [rest] using h1, fun x hx => by have := h2 x hx; omega⟩
      | cons y tl =>
        by_cases hy : y.1 = f + n + 1
        · refine ⟨pre ++ [y], by simp [rest, hy, h1], fun x hx => ?_⟩
          rcases List.mem_append.1 hx with hx | hx
          · have := h2 x hx; omega
          · simp at hx; subst hx; omega
        · exact ⟨pre, by simpa [rest, hy] using h1, fun x hx => by have := h2 x hx; omega⟩
    · intro x hx
      generalize (folN l f fs d n).2 = q at h3 h4 hx
      cases q with
      | nil => cases hx
      | cons y tl =>
        obtain ⟨h6, h7⟩ := List.pairwise_cons.1 h4
        have h8 := h3 y (by simp)
        by_cases hy : y.1 = f + n + 1
        · simp only [rest, hy, if_true] at hx
          have := h6 x hx; omega
        · simp only [rest, hy, if_false] at hx
          rcases List.mem_cons.1 hx with rfl | hx
          · omega
          · have := h6 x hx; omega
    · generalize (folN l f fs d n).2 = q at h4
      cases q with
      | nil => exact List.Pairwise.nil
      | cons y tl =>
        by_cases hy : y.1 = f + n + 1
        · simp only [rest, hy, if_true]; exact (List.pairwise_cons.1 h4).2
        · simp only [rest, hy, if_false]; exact h4
theorem fol_run {l : Ln} {U f : Int} {fs : List (Int × Int)} {d : Dl} (h : chkFs l U f fs = true) (n : Nat) : (folN l f fs d n).1 = runN l f fs d n :=
  (fol_eq (chk_sorted h).1 (fun x hx => ((chk_sorted h).2 x hx).1) n).2.2.2
end Pu
end Go.Proofs.Ytpjlihkpnhamlaa
