/- What a plain secondary dial shows after some minutes, in plain terms. -/
import Derived.Test.YtgkoldcmbcbbpaaGPulse
import Derived.Test.YtgkoldcmbcbbpaaSpPulse
import Derived.Test.YtgkoldcmbcbbpaaEvL
set_option linter.unusedSimpArgs false
set_option linter.unusedVariables false
namespace Go.Proofs.Ytgkoldcmbcbbpaa.Sy
open Go.RowKit
set_option maxRecDepth 100000

abbrev PF := Int × Int
/-- by how much faults move a plain dial beside the minutes -/
def adjP (fs : List PF) : Int := (fs.map fun f => if f.2 = 1 then -1 else 1).sum
structure OkFs (from_ until_ : Int) (fs : List PF) : Prop where
  ok : ∀ f ∈ fs, from_ < f.1 ∧ f.1 ≤ until_ ∧ (f.2 = 1 ∨ f.2 = 2)
  asc : fs.Pairwise fun a b => a.1 < b.1
  len : fs.length ≤ 20
def movesOf (fs : List PF) (t : Int) : Int := match fs with
  | [] => 1
  | f :: _ => if f.1 = t then (if f.2 = 1 then 0 else 2) else 1
def restOf (fs : List PF) (t : Int) : List PF := match fs with
  | [] => []
  | f :: r => if f.1 = t then r else f :: r
theorem ev_moves {n : Nat} {fs : List PF} {t : Int} (h : ∀ f ∈ fs, f.2 = 1 ∨ f.2 = 2) : ev_p_pulse_faults_moves n fs t = some (movesOf fs t, restOf fs t) := by
  rw [ev_p_pulse_faults_moves, cond_if]
  cases fs with
  | nil => rw [if_pos (by rfl)]; rfl
  | cons f r =>
    rw [if_neg (by simp; omega), idx_of (x := f) (by decide) (by rfl), cond_if]
    by_cases hf : f.1 = t
    · have hk := h f List.mem_cons_self
      have ht : List.drop (1 : Int).toNat (List.take ((((f :: r).length : Int) : Int).toNat) (f :: r)) = r := by
        rw [List.take_of_length_le (by simp)]; rfl
      rw [if_neg (by simp [hf]), chk_of (by simp; omega), chk_of (by simp; omega), ht]
      rcases hk with hk | hk
      · rw [idx_of (x := 0) (by omega) (by rw [hk]; rfl)]; simp [movesOf, restOf, hf, hk]
      · rw [idx_of (x := 2) (by omega) (by rw [hk]; rfl)]; simp [movesOf, restOf, hf, hk]
    · rw [if_pos (by simpa using hf)]; simp [movesOf, restOf, hf]
theorem ev_move1 {n : Nat} {sh cnt : Int} (hs : 0 ≤ sh ∧ sh < 720) (hc : 0 ≤ cnt ∧ cnt ≤ 1000000) : ev_pulse_line_move n 0 0 0 sh cnt false = some ((sh + 1) % 720, cnt + 1) := by
  have e : Int.tmod (sh + 1 + 720) 720 = (sh + 1) % 720 := by rw [Int.tmod_eq_emod_of_nonneg (by omega)]; omega
  have ho : ev_pulse_dial_on n sh (cnt + 1) 1 = some ((sh + 1) % 720, cnt + 1) := by
    rw [ev_pulse_dial_on, chk_of (in64_of (by omega)), chk_of (in64_of (by omega)), e]
  rw [ev_pulse_line_move, cond_if, if_neg (by decide), ev_pulse_line_move_j0, chk_of (in64_of (by omega)), bind_of ho]
theorem ev_impulse {n : Nat} (hn : 5 < n) {sh cnt t mv : Int} (hs : 0 ≤ sh ∧ sh < 720) (hc : 0 ≤ cnt ∧ cnt ≤ 900000) (hm : mv = 0 ∨ mv = 1 ∨ mv = 2) : ev_pulse_line_impulse n 0 0 0 sh cnt t mv = some ((sh + mv) % 720, cnt + mv) := by
  have hl : ev_pulse_line_isLong n 0 0 0 t = some false := by rw [ev_pulse_line_isLong, cond_if, if_neg (by decide)]
  rw [ev_pulse_line_impulse, bind_of hl]
  have m1 := fun (s c : Int) (h1 : 0 ≤ s ∧ s < 720) (h2 : 0 ≤ c ∧ c ≤ 1000000) => ev_move1 (n := n) h1 h2
  obtain ⟨k, hk⟩ : ∃ k, n = k + 3 := ⟨n - 3, by omega⟩
  have hstop : ∀ (j : Nat) (i s c : Int), mv ≤ i → ev_pulse_line_impulse_l0 n mv false (j + 1) i 0 0 0 s c 0 0 = some (s, c) := fun j i s c h => by
    rw [ev_pulse_line_impulse_l0, cond_if, if_neg (by simpa using h), cond_if, if_neg (by simp)]
  have hgo : ∀ (j : Nat) (i s c : Int), i < mv → 0 ≤ i → 0 ≤ s ∧ s < 720 → 0 ≤ c ∧ c ≤ 1000000 → ev_pulse_line_impulse_l0 n mv false (j + 1) i 0 0 0 s c 0 0 = ev_pulse_line_impulse_l0 n mv false j (i + 1) 0 0 0 ((s + 1) % 720) (c + 1) 0 0 := fun j i s c h h0 h1 h2 => by
    rw [ev_pulse_line_impulse_l0, cond_if, if_pos (by simpa using h), bind_of (m1 s c h1 h2), chk_of (in64_of (by omega))]
  have hfuel : ∀ r, ev_pulse_line_impulse_l0 n mv false (k + 3) 0 0 0 0 sh cnt 0 0 = some r → ev_pulse_line_impulse_l0 n mv false n 0 0 0 0 sh cnt 0 0 = some r := fun r h => by rw [← h]; congr 1
  apply hfuel
  rcases hm with rfl | rfl | rfl
  · rw [hstop _ _ _ _ (by decide)]; congr 1; simp only [Prod.mk.injEq]; omega
  · rw [hgo _ _ _ _ (by decide) (by decide) hs (by omega), hstop _ _ _ _ (by decide)]
  · rw [hgo _ _ _ _ (by decide) (by decide) hs (by omega), hgo _ _ _ _ (by decide) (by decide) (by omega) (by omega), hstop _ _ _ _ (by decide)]; congr 1; simp only [Prod.mk.injEq]; omega
theorem restOf_sub (fs : List PF) (t : Int) : (restOf fs t).Sublist fs := by
  unfold restOf
  cases fs with
  | nil => exact List.Sublist.refl _
  | cons f r => simp only; split; exact List.sublist_cons_self _ _; exact List.Sublist.refl _
theorem adj_step {fs : List PF} {t : Int} (hk : ∀ f ∈ fs, f.2 = 1 ∨ f.2 = 2) : movesOf fs t + adjP (restOf fs t) = 1 + adjP fs ∧ (movesOf fs t = 0 ∨ movesOf fs t = 1 ∨ movesOf fs t = 2) := by
  cases fs with
  | nil => simp [movesOf, restOf]
  | cons f r =>
    have := hk f List.mem_cons_self
    simp only [movesOf, restOf]
    by_cases hf : f.1 = t
    · simp only [hf, if_true, adjP, List.map_cons, List.sum_cons]
      rcases this with e | e <;> simp [e] <;> omega
    · simp [hf]
theorem ev_follow {n : Nat} (hn : 6000 < n) {until_ : Int} (hu : until_ ≤ 1000000) : ∀ (k m : Nat) (t sh cnt : Int) (fs : List PF), t + k = until_ + 1 → k < m → 0 ≤ t → 0 ≤ sh ∧ sh < 720 → 0 ≤ cnt → cnt + 2 * (k : Int) ≤ 900000 → (∀ f ∈ fs, t ≤ f.1 ∧ f.1 ≤ until_ ∧ (f.2 = 1 ∨ f.2 = 2)) → fs.Pairwise (fun a b => a.1 < b.1) →
    ∃ q, ev_pulse_line_follow_1_l0 (loopStep (ev_pulse_Run_r0 n)) n m t until_ 0 0 0 sh cnt fs (sh, 0) = some ((((sh + k + adjP fs) % 720, 0), q)) := by
  intro k
  induction k with
  | zero =>
    intro m t sh cnt fs ht hm h0 hs hc hc2 hf hp
    cases m with
    | zero => omega
    | succ m =>
      have hfs : fs = [] := by
        cases fs with
        | nil => rfl
        | cons f r => have := hf f List.mem_cons_self; omega
      subst hfs
      rw [ev_pulse_line_follow_1_l0, cond_if, if_neg (by simp; omega)]
      refine ⟨(sh, cnt), ?_⟩
      have : (sh + ((0 : Nat) : Int) + adjP []) % 720 = sh := by simp [adjP]; omega
      rw [this]
  | succ k ih =>
    intro m t sh cnt fs ht hm h0 hs hc hc2 hf hp
    cases m with
    | zero => omega
    | succ m =>
      obtain ⟨a1, a2⟩ := adj_step (t := t) (fun f hf' => (hf f hf').2.2)
      have hyb : loopStep (ev_pulse_Run_r0 n) (t, (sh + movesOf fs t) % 720, cnt + movesOf fs t) (sh, 0) = some (true, ((sh + movesOf fs t) % 720, 0)) := by
        rw [loopStep_of (r := (0, (sh + movesOf fs t) % 720)) (by rw [ev_pulse_Run_r0])]; rfl
      rw [ev_pulse_line_follow_1_l0, cond_if, if_pos (by simp; omega), bind_of (ev_moves fun f hf' => (hf f hf').2.2)]
      simp only
      rw [bind_of (ev_impulse (by omega) hs (by omega) a2)]
      simp only
      rw [bind_of hyb, cond_if, if_neg (by simp), chk_of (in64_of (by omega))]
      have hsub := restOf_sub fs t
      obtain ⟨q, hq⟩ := ih m (t + 1) ((sh + movesOf fs t) % 720) (cnt + movesOf fs t) (restOf fs t) (by omega) (by omega) (by omega) (by omega) (by omega) (by omega) (fun f hf' => by
        have h1 := hf f (hsub.subset hf')
        refine ⟨?_, h1.2⟩
        cases fs with
        | nil => cases hf'
        | cons g r =>
          rw [List.pairwise_cons] at hp
          simp only [restOf] at hf'
          split at hf'
          · rename_i e; have := hp.1 f hf'; omega
          · rename_i e
            rcases List.mem_cons.1 hf' with rfl | hf'
            · omega
            · have := hp.1 f hf'; have := hf g List.mem_cons_self; omega) (hp.sublist hsub)
      refine ⟨q, hq.trans ?_⟩
      congr 3
      omega
theorem ev_pcheck {n : Nat} (hn : 30 < n) {from_ until_ : Int} (h0 : 0 ≤ from_) (h2 : from_ ≤ 1000000) (h1 : until_ ≤ 1000000) {fs : List PF} (h : OkFs from_ until_ fs) : ev_pulse_line_check n 0 0 0 fs from_ until_ = some 0 := by
  have hlen := h.len
  have hl : ∀ t, ev_pulse_line_isLong n 0 0 0 t = some false := fun t => by rw [ev_pulse_line_isLong, cond_if, if_neg (by decide)]
  have key : ∀ (k m i : Nat) (b : Int), i + k = fs.length → k < m → 0 ≤ b → b ≤ 1000000 → (∀ f, fs[i]? = some f → b < f.1) → ev_pulse_line_check_l0 n fs until_ m b (i : Int) 0 0 0 fs = some 0 := by
    intro k
    induction k with
    | zero =>
      intro m i b hi hm hb0 hb1 hb
      cases m with
      | zero => omega
      | succ m => rw [ev_pulse_line_check_l0, cond_if, if_neg (by simp; omega)]
    | succ k ih =>
      intro m i b hi hm hb0 hb1 hb
      cases m with
      | zero => omega
      | succ m =>
        have hlt : i < fs.length := by omega
        obtain ⟨f, hf⟩ : ∃ f, f = fs[i] := ⟨_, rfl⟩
        have hget : fs[i]? = some f := by rw [hf, List.getElem?_eq_getElem hlt]
        obtain ⟨g1, g2, g3⟩ := h.ok f (List.mem_of_getElem? hget)
        have g5 := hb f hget
        have hnext : chk (in64 ((i : Int) + 1)) (ev_pulse_line_check_l0 n fs until_ m f.1 ((i : Int) + 1) 0 0 0 fs) = some 0 := by
          rw [chk_of (in64_of (by omega))]
          exact ih m (i + 1) f.1 (by omega) (by omega) (by omega) (by omega) (fun f' hf' => by
            obtain ⟨hl2, rfl⟩ := List.getElem?_eq_some_iff.1 hf'
            rw [hf]
            exact List.pairwise_iff_getElem.1 h.asc i (i + 1) hlt hl2 (by omega))
        rw [ev_pulse_line_check_l0, cond_if, if_pos (by simp; omega), idx_nat hget, chk_of (in64_of (by omega)), bind_of (wi1_pulse (by omega)), cond_if, if_neg (by simp; omega), cond_if]
        rcases g3 with e | e
        · rw [if_neg (by simp [e]), bind_of (hl _), cond_if, if_neg (by simp)]; exact hnext
        · rw [if_pos (by simp [e]), cond_if, if_neg (by simp [e]), bind_of (hl _), cond_if, if_neg (by simp)]; exact hnext
  have := key fs.length n 0 from_ (by omega) (by omega) h0 h2 (fun f hf => (h.ok f (List.mem_of_getElem? hf)).1)
  rw [ev_pulse_line_check, cond_if, if_neg (by simp; omega)]
  exact this
theorem ev_Run {n : Nat} (hn : 6000 < n) {sh from_ until_ : Int} (hs : 0 ≤ sh ∧ sh ≤ 719) (hf : 0 ≤ from_ ∧ from_ ≤ 100000) (hu : from_ ≤ until_ ∧ until_ ≤ from_ + 5000) {fs : List PF} (h : OkFs from_ until_ fs) :
    ev_pulse_Run n 0 0 0 sh from_ fs until_ = some ((sh + (until_ - from_) + adjP fs) % 720, 0) := by
  have hop : ev_pulse_open n 0 0 0 = some (0, 0, 0, 0) := by
    rw [ev_pulse_open, ev_pulse_Check]; rfl
  have hmi : ev_pulse_isMinute n from_ = some true := by rw [ev_pulse_isMinute, bind_of (wi1_pulse (by omega))]; congr 1; simp; omega
  have hsh : ev_pulse_isShown n sh = some true := by rw [ev_pulse_isShown, bind_of (wi1_pulse (by omega))]; congr 1; simp; omega
  have hst : ev_pulse_line_start n 0 0 0 sh from_ = some (sh, 0) := by rw [ev_pulse_line_start]; rfl
  have hfo : ev_pulse_line_follow n 0 0 0 sh 0 from_ fs until_ = some (fs, from_, until_, 0, 0, 0, sh, 0) := by rw [ev_pulse_line_follow]
  obtain ⟨q, hq⟩ := ev_follow hn (until_ := until_) (by omega) (until_ - from_).toNat n (from_ + 1) sh 0 fs (by omega) (by omega) (by omega) ⟨hs.1, by omega⟩ (by omega) (by omega) (fun f hf' => by have := h.ok f hf'; exact ⟨by omega, this.2⟩) h.asc
  have hq2 : ev_pulse_line_follow_1 (loopStep (ev_pulse_Run_r0 n)) n (sh, 0) fs from_ until_ 0 0 0 sh 0 = some (((sh + (until_ - from_) + adjP fs) % 720, 0), q) := by
    rw [ev_pulse_line_follow_1, chk_of (in64_of (by omega)), hq]
    congr 4
    omega
  rw [ev_pulse_Run, bind_of hop, cond_if, if_neg (by decide), bind_of hmi, cond_if, if_neg (by simp), bind_of hsh, cond_if, if_neg (by simp), chk_of (in64_of (by omega)), bind_of (wi1_pulse (by omega)), cond_if, if_neg (by simp; omega), bind_of (ev_pcheck (by omega) hf.1 (by omega) (by omega) h), cond_if, if_neg (by simp), bind_of hst, bind_of hfo]
  simp only
  rw [bind_of hq2, cond_if, if_pos (by rfl)]
end Go.Proofs.Ytgkoldcmbcbbpaa.Sy
