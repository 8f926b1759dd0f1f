/- Faults of a plain line by bytes; a face without slack. -/
import Derived.Test.YtgkoldcmbcbbpaaEvPulse
import Derived.Test.YtgkoldcmbcbbpaaEvDial
set_option linter.unusedSimpArgs false
set_option linter.unusedVariables false
namespace Go.Proofs.Ytgkoldcmbcbbpaa.Sy
open Go.RowKit
set_option maxRecDepth 100000

theorem ev_pubFaults {n : Nat} (hn : 30 < n) {from_ until_ : Int} (hf : 0 ≤ from_ ∧ from_ ≤ 1000000) (hu : until_ ≤ 1000000) (hfu : from_ ≤ until_) {by_ : List Int} (hb : ∀ x ∈ by_, 0 ≤ x ∧ x ≤ 255) :
    ∃ (l : List PF) (lost dbl : Int), ev_top_pubFaults n from_ until_ by_ = some (l, lost, dbl) ∧ OkFs from_ until_ l ∧ adjP l = dbl - lost ∧ (0 ≤ lost ∧ 0 ≤ dbl ∧ lost + dbl ≤ 20) := by
  have key : ∀ (m i : Nat) (at_ lost dbl : Int) (l : List PF), 20 - l.length < m → i = l.length → from_ ≤ at_ → at_ ≤ until_ → OkFs from_ until_ l → (∀ f ∈ l, f.1 ≤ at_) → adjP l = dbl - lost → 0 ≤ lost ∧ 0 ≤ dbl ∧ lost + dbl = l.length →
      ∃ (l' : List PF) (lost' dbl' : Int), ev_top_pubFaults_l0 n until_ m at_ lost dbl (i : Int) by_ l = some (l', lost', dbl') ∧ OkFs from_ until_ l' ∧ adjP l' = dbl' - lost' ∧ (0 ≤ lost' ∧ 0 ≤ dbl' ∧ lost' + dbl' ≤ 20) := by
    intro m
    induction m with
    | zero => intro i at_ lost dbl l h; omega
    | succ m ih =>
      intro i at_ lost dbl l hm hi h0 h1 hF hk ha hc
      have hlen := hF.len
      have hdone : ∃ (l' : List PF) (lost' dbl' : Int), some (l, lost, dbl) = some (l', lost', dbl') ∧ OkFs from_ until_ l' ∧ adjP l' = dbl' - lost' ∧ (0 ≤ lost' ∧ 0 ≤ dbl' ∧ lost' + dbl' ≤ 20) := ⟨l, lost, dbl, rfl, hF, ha, by omega⟩
      rw [ev_top_pubFaults_l0, cond_if]
      by_cases hlt : i < by_.length
      · rw [if_pos (by simp; omega), cond_if]
        by_cases h20 : l.length < 20
        · rw [if_pos (by simp; omega)]
          obtain ⟨x, hx⟩ : ∃ x, x = by_[i] := ⟨_, rfl⟩
          have hget : by_[i]? = some x := by rw [hx, List.getElem?_eq_getElem hlt]
          have hxb := hb x (List.mem_of_getElem? hget)
          have e1 : Int.tdiv x 2 = x / 2 := Int.tdiv_eq_ediv_of_nonneg hxb.1
          have e2 : Int.tmod (x / 2) 20 = x / 2 % 20 := Int.tmod_eq_emod_of_nonneg (by omega)
          have e3 : Int.tmod x 2 = x % 2 := Int.tmod_eq_emod_of_nonneg hxb.1
          rw [ev_top_pubFaults_j1, idx_nat hget]
          simp only [e1, e2, e3]
          obtain ⟨t, ht⟩ : ∃ t, t = at_ + (1 + x / 2 % 20) := ⟨_, rfl⟩
          rw [← ht, chk_of (in64_of (by omega)), chk_of (in64_of (by omega)), chk_of (in64_of (by omega)), chk_of (in64_of (by omega)), cond_if]
          by_cases hu2 : until_ < t
          · rw [if_pos (by simpa using hu2)]; exact hdone
          · rw [if_neg (by simpa using hu2), cond_if]
            have hF' : ∀ k : Int, k = 1 ∨ k = 2 → OkFs from_ until_ (l ++ [((t, k) : PF)]) := fun k hk2 => by
              refine ⟨fun f hf => ?_, ?_, by simp; omega⟩
              · rcases List.mem_append.1 hf with hf | hf
                · exact hF.ok f hf
                · rw [List.mem_singleton] at hf; subst hf; exact ⟨by simp only; omega, by simp only; omega, hk2⟩
              · rw [List.pairwise_append]
                refine ⟨hF.asc, List.pairwise_singleton _ _, fun a ha b hb' => ?_⟩
                rw [List.mem_singleton] at hb'; subst hb'
                have := hk a ha; simp only; omega
            have hk' : ∀ k : Int, ∀ f ∈ l ++ [((t, k) : PF)], f.1 ≤ t := fun k f hf => by
              rcases List.mem_append.1 hf with hf | hf
              · have := hk f hf; omega
              · rw [List.mem_singleton] at hf; subst hf; simp
            have hadj : ∀ k : Int, adjP (l ++ [((t, k) : PF)]) = adjP l + (if k = 1 then -1 else 1) := fun k => by simp [adjP]
            by_cases hp : x % 2 = 0
            · rw [if_pos (by rw [hp]; rfl), chk_of (room_iff.2 (by simp; omega)), chk_of (in64_of (by omega)), chk_of (in64_of (by omega))]
              exact ih (i + 1) t (lost + 1) dbl (l ++ [(t, 1)]) (by simp; omega) (by simp; omega) (by omega) (by omega) (hF' 1 (.inl rfl)) (hk' 1) (by rw [hadj]; simp; omega) (by simp; omega)
            · rw [if_neg (by simp; omega), chk_of (room_iff.2 (by simp; omega)), chk_of (in64_of (by omega)), chk_of (in64_of (by omega))]
              exact ih (i + 1) t lost (dbl + 1) (l ++ [(t, 2)]) (by simp; omega) (by simp; omega) (by omega) (by omega) (hF' 2 (.inr rfl)) (hk' 2) (by rw [hadj]; simp; omega) (by simp; omega)
        · rw [if_neg (by simp; omega)]; exact hdone
      · rw [if_neg (by simp; omega)]; exact hdone
  exact key n 0 from_ 0 0 [] (by simp; omega) rfl (Int.le_refl _) hfu ⟨by simp, List.Pairwise.nil, by simp⟩ (by simp) rfl (by simp)
theorem ev_Shows0 {n : Nat} (hn : 20 < n) {j e at_ : Int} (hj : 1 ≤ j ∧ j ≤ 3600) (hj2 : Int.tmod 3600 j = 0) (he : -3600 ≤ e ∧ e ≤ 3600) (ha : 0 ≤ at_ ∧ at_ ≤ 3155760000) :
    ev_dial_Shows n j e e [((0, 0, [], 0, 0) : Face)] 0 at_ 0 0 = some ([(drivenP j (at_ + e) % 43200, drivenP j (at_ + e) % 43200)], 0) := by
  obtain ⟨f, hf⟩ : ∃ f : Face, f = (0, 0, [], 0, 0) := ⟨_, rfl⟩
  have hfo : FaceOk f 0 := by rw [hf]; exact ⟨by decide, by decide, by decide, .inl ⟨rfl, rfl⟩⟩
  have hS := ev_Shows (n := n) hn hj hj2 he hfo (at_ := at_) (w1 := 0) (w2 := 0) ha (by decide)
  obtain ⟨d, hd⟩ : ∃ d, d = drivenP j (at_ + e) := ⟨_, rfl⟩
  rw [← hd] at hS ⊢
  have hh : handsP f 0 d 0 0 = (d, d) := by
    have hfc : forceP f d = 0 := by rw [hf]; unfold forceP; split <;> rfl
    have hlg : lagsP f 0 d 0 0 = (0, 0) := by unfold lagsP; rw [hfc, hf]; rfl
    unfold handsP; rw [hlg, hf]; simp
  have hspn : spansP (d, d) = [(d % 43200, d % 43200)] := by
    unfold spansP
    simp only
    rw [if_neg (by omega), show min 43199 (d % 43200 + (d - d)) = d % 43200 by omega]
  rw [hh, hspn, hf] at hS
  exact hS
end Go.Proofs.Ytgkoldcmbcbbpaa.Sy
