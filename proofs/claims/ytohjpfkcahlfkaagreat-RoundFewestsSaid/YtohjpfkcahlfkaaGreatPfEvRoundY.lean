/- Rounds: the document's best round is the first of the quickest, too. -/
import Derived.Test.YtohjpfkcahlfkaaGreatPfEvRoundL
import Derived.Test.YtohjpfkcahlfkaaGreatPfEvRoundV
import Derived.Test.YtohjpfkcahlfkaaGreatPfEvRoundX
set_option linter.unusedSimpArgs false
set_option linter.unusedVariables false
namespace Go.Proofs.YtohjpfkcahlfkaaGreat.Sy
open Go.RowKit
set_option maxRecDepth 100000
theorem joinB_bst {C1 C2 : Cs} {r1 r2 : Bo} (h1 : Bst C1 r1) (h2 : Bst C2 r2) : Bst (fun l m => C1 l m ∨ C2 l m) (joinB r1 r2) := h1.join h2 rfl
theorem joinB_none (r : Bo) : joinB r none = r := by cases r <;> rfl
theorem chain_ev {α : Type} {n : Nat} (hn : 1000 < n) {acc : Bo} {b : List Int × Int} (K : Bo → Option α) (ha : ∀ a, acc = some a → a.1.length ≤ 500) (hb : b.1.length ≤ 500) :
    (cond (!(stB acc).2.2) (K (some b)) (cond (decide (b.2 < (stB acc).2.1)) (K (some b)) (cond (b.2 == (stB acc).2.1) ((ev_ref11_Smaller n b.1 (stB acc).1).bind fun r => cond r (K (some b)) (K acc)) (K acc)))) = K (joinB acc (some b)) := by
  cases acc with
  | none => rfl
  | some a =>
    have hal := ha a rfl;show (cond (decide (b.2 < a.2)) (K (some b)) (cond (b.2 == a.2) ((ev_ref11_Smaller n b.1 a.1).bind fun r => cond r (K (some b)) (K (some a))) (K (some a)))) = K (if b.2 < a.2 ∨ b.2 = a.2 ∧ lx b.1 a.1 = true then some b else some a);rw [cond_if, cond_if]
    by_cases h1 : b.2 < a.2
    · rw [if_pos (decide_eq_true h1), if_pos (.inl h1)]
    · rw [if_neg (by simpa using h1)]
      by_cases h2 : b.2 = a.2
      · rw [if_pos (by simpa using h2), bind_of (smaller_ev (by omega) (by omega) (by omega)), cond_if]
        by_cases h3 : lx b.1 a.1 = true
        · rw [if_pos h3, if_pos (.inr ⟨h2, h3⟩)]
        · rw [if_neg h3, if_neg (fun e => e.elim h1 fun e => h3 e.2)]
      · rw [if_neg (by simpa using h2), if_neg (fun e => e.elim h1 fun e => h2 e.1)]
structure RemT (goal : Int) (σ : Wk) (T : List Int) : Prop where
  nd : T.Nodup
  r8 : ∀ s ∈ T, 0 ≤ s ∧ s < 8
  iff : ∀ k : Int, 0 ≤ k → k < 8 → (hasP goal k = true ∧ hasP σ.wo k = false ↔ k ∈ T)
  sub : ∀ k : Int, 0 ≤ k → k < 8 → hasP σ.wo k = true → hasP goal k = true
theorem RemT.next {goal : Int} {σ σ' : Wk} {T : List Int} (h : RemT goal σ T) {c : Nat} (hc : c < T.length) (hwo : σ'.wo = withP σ.wo T[c]) : RemT goal σ' (T.take c ++ T.drop (c + 1)) := by
  have hx := h.r8 _ (List.getElem_mem hc);have e : T.take c ++ T[c] :: T.drop (c + 1) = T := by rw [← List.drop_eq_getElem_cons hc, List.take_append_drop]
  have hnd := h.nd;rw [← e, List.nodup_append, List.nodup_cons] at hnd;obtain ⟨n1, ⟨n2, n3⟩, n4⟩ := hnd;have hmem : ∀ k, k ∈ T.take c ++ T.drop (c + 1) ↔ k ∈ T ∧ k ≠ T[c] := fun k => by
    constructor
    · intro hk;rcases List.mem_append.1 hk with hk | hk
      · exact ⟨List.mem_of_mem_take hk, n4 k hk _ (List.Mem.head _)⟩
      · exact ⟨List.mem_of_mem_drop hk, fun e2 => n2 (e2 ▸ hk)⟩
    · rintro ⟨hk, hne⟩
      rw [← e] at hk;rcases List.mem_append.1 hk with hk | hk
      · exact List.mem_append.2 (.inl hk)
      · rcases List.mem_cons.1 hk with hk | hk
        · exact absurd hk hne
        · exact List.mem_append.2 (.inr hk)
  refine ⟨?_, fun s hs => h.r8 s ((hmem s).1 hs).1, fun k k0 k8 => ?_, fun k k0 k8 hk => ?_⟩
  · rw [List.nodup_append];exact ⟨n1, n3, fun a ha b hb => n4 a ha b (List.mem_cons_of_mem _ hb)⟩
  · rw [hmem, ← h.iff k k0 k8, hwo, has_with hx.1 k0, Bool.or_eq_false_iff, decide_eq_false_iff_not]
    constructor
    · rintro ⟨a, b, d⟩; exact ⟨⟨a, d⟩, fun e => b e.symm⟩
    · rintro ⟨⟨a, d⟩, b⟩; exact ⟨a, fun e => b e.symm, d⟩
  · rw [hwo, has_with hx.1 k0, Bool.or_eq_true, decide_eq_true_eq] at hk;rcases hk with hk | hk
    · rw [← hk];exact ((h.iff _ hx.1 hx.2).2 (List.getElem_mem hc)).1
    · exact h.sub k k0 k8 hk
theorem RemT.wo_goal {t : List Tw} {goal : Int} (hgoal : 0 ≤ goal ∧ goal < 256) {σ : Wk} (hσ : OkW t σ) {T : List Int} (h : RemT goal σ T) : σ.wo = goal ↔ T = [] := by
  constructor
  · intro e
    cases T with
    | nil => rfl
    | cons s l =>
      have hs := h.r8 s (by simp);have := (h.iff s hs.1 hs.2).2 (by simp);rw [e, this.1] at this;exact absurd this.2 (by simp)
  · rintro rfl
    refine hasP_ext hσ.wo hgoal fun k k0 k8 => ?_
    have h1 := h.iff k k0 k8;have h2 := h.sub k k0 k8;cases ha : hasP goal k <;> cases hb : hasP σ.wo k
    · rfl
    · rw [ha] at h2; exact absurd (h2 hb) (by simp)
    · exact absurd (h1.1 ⟨ha, hb⟩) (by simp)
    · rfl
section
variable {t : List Tw} {w : List (List Int)} {g : List Wd} {rest wage : Int} (h : OkR t w g rest wage) {wd : Wd} (hw : wd ∈ g)
theorem cand_split {goal : Int} {σ : Wk} {s : List Int} {m : Int} : candP t w rest wd goal false σ s m ↔ candP t w rest wd goal true σ s m ∨ ∃ s', s = -1 :: s' ∧ (stepP t w rest wd σ (-1)).1 = 0 ∧ candP t w rest wd goal true (stepP t w rest wd σ (-1)).2 s' m := by
  cases s with
  | nil =>
    constructor
    · exact fun hc => .inl hc
    · rintro (hc | ⟨s', e, _⟩)
      · exact hc
      · cases e
  | cons x l =>
    constructor
    · rintro ⟨hc, h0, hl⟩
      rcases hc with ⟨e, _⟩ | hc
      · subst e;exact .inr ⟨l, rfl, h0, hl⟩
      · exact .inl ⟨.inr hc, h0, hl⟩
    · rintro (⟨hc, h0, hl⟩ | ⟨s', e, h0, hl⟩)
      · rcases hc with ⟨_, e⟩ | hc
        · cases e
        · exact ⟨.inr hc, h0, hl⟩
      · cases e
        exact ⟨.inl ⟨rfl, rfl⟩, h0, hl⟩
def RefOk (t : List Tw) (w : List (List Int)) (g : List Wd) (rest wage : Int) (wd : Wd) (goal : Int) (n : Nat) (σ : Wk) (steps T : List Int) : Prop :=
  ∃ res, ev_ref11_best n t w g rest wage wd.1 wd.2.1 wd.2.2.1 wd.2.2.2 σ.pl (hasP σ.wo 0) (hasP σ.wo 1) (hasP σ.wo 2) (hasP σ.wo 3) (hasP σ.wo 4) (hasP σ.wo 5) (hasP σ.wo 6) (hasP σ.wo 7) σ.oil σ.run σ.min steps T = some (stB res) ∧
    Bst (fun l m => ∃ s, l = steps ++ s ∧ candP t w rest wd goal false σ s m) res
abbrev KT := Int → Bool → Int → (List Int) → (List Int) → Int → Int → Int → Int → Int → Int → Int → Bool → Bool → Bool → Bool → Bool → Bool → Bool → Bool → Int → Int → Int → (List Int) → (List (Int × Int × Int × Int × Int)) → (List ((List Int))) → (List (Int × Int × Int × Int)) → Option ((List Int) × Int × Bool)
abbrev kkF (k : KT) (t : List Tw) (w : List (List Int)) (g : List Wd) (rest wage : Int) (wd : Wd) (σ : Wk) (steps T : List Int) (j : Int) (acc : Bo) : Option ((List Int) × Int × Bool) :=
  k (stB acc).2.1 (stB acc).2.2 j steps T rest wage wd.1 wd.2.1 wd.2.2.1 wd.2.2.2 σ.pl (hasP σ.wo 0) (hasP σ.wo 1) (hasP σ.wo 2) (hasP σ.wo 3) (hasP σ.wo 4) (hasP σ.wo 5) (hasP σ.wo 6) (hasP σ.wo 7) σ.oil σ.run σ.min (stB acc).1 t w g
abbrev l2F (n : Nat) (i26 : Int) (k : KT) (t : List Tw) (w : List (List Int)) (g : List Wd) (rest wage : Int) (wd : Wd) (σ0 σ : Wk) (steps to T : List Int) (m : Nat) (c : Int) (acc : Bo) : Option ((List Int) × Int × Bool) :=
  ev_ref11_best_l2 n i26 (ev_ref11_best n) k m (stB acc).2.1 (stB acc).2.2 c steps T rest wage wd.1 wd.2.1 wd.2.2.1 wd.2.2.2 σ0.pl (hasP σ0.wo 0) (hasP σ0.wo 1) (hasP σ0.wo 2) (hasP σ0.wo 3) (hasP σ0.wo 4) (hasP σ0.wo 5) (hasP σ0.wo 6) (hasP σ0.wo 7) σ0.oil σ0.run σ0.min (stB acc).1
    σ.pl (hasP σ.wo 0) (hasP σ.wo 1) (hasP σ.wo 2) (hasP σ.wo 3) (hasP σ.wo 4) (hasP σ.wo 5) (hasP σ.wo 6) (hasP σ.wo 7) σ.oil σ.run σ.min to t w g
include h hw in
theorem ref_l2 {goal : Int} {n : Nat} (hn : 1000 < n) {i26 : Int} (hi26 : 0 ≤ i26 ∧ i26 < 10) {k : KT} {σ0 σ : Wk} (hσ : OkW t σ) {steps to T : List Int} (hto : to.length ≤ 100) (hT : RemT goal σ T) (hT8 : T.length ≤ 8)
    (hself : ∀ (c : Nat) (hc : c < T.length), (stepP t w rest wd σ T[c]).1 = 0 → RefOk t w g rest wage wd goal n (stepP t w rest wd σ T[c]).2 (to ++ [T[c]]) (T.take c ++ T.drop (c + 1))) :
    ∀ (kk m c : Nat) (C : Cs) (acc : Bo), c + kk = T.length → kk < m → Bst C acc → (∀ a, acc = some a → a.1.length ≤ 500) →
    ∃ acc', l2F n i26 k t w g rest wage wd σ0 σ steps to T m (c : Int) acc = kkF k t w g rest wage wd σ0 steps T (i26 + 1) acc' ∧ Bst (fun l m => C l m ∨ ∃ j, ∃ hj : j < T.length, c ≤ j ∧ ∃ s, l = to ++ T[j] :: s ∧ (stepP t w rest wd σ T[j]).1 = 0 ∧ candP t w rest wd goal false (stepP t w rest wd σ T[j]).2 s m) acc' ∧ (∀ a, acc' = some a → a.1.length ≤ 500) := by
  intro kk
  induction kk with
  | zero =>
    intro m c C acc hc hm hC hlen;obtain ⟨m, rfl⟩ : ∃ m', m = m' + 1 := ⟨m - 1, by omega⟩;refine ⟨acc, ?_, hC.congr fun l m => ⟨.inl, fun hh => ?_⟩, hlen⟩
    · rw [l2F, ev_ref11_best_l2, cond_if, if_neg (by simp; omega), chk_of (in64_of (by omega))]
    · rcases hh with hh | ⟨j, hj, hcj, _⟩
      · exact hh
      · omega
  | succ kk ih =>
    intro m c C acc hc hm hC hlen;obtain ⟨m, rfl⟩ : ∃ m', m = m' + 1 := ⟨m - 1, by omega⟩;have hlt : c < T.length := by omega
    have hx := hT.r8 _ (List.getElem_mem hlt);obtain ⟨σ', e1, e2⟩ := refStep_ev h hw (n := n) hσ T[c];have h64 : in64 ((c : Int) + 1) = true := in64_of (by omega);rw [l2F, ev_ref11_best_l2, cond_if, if_pos (decide_eq_true (by omega)), idx_nat (List.getElem?_eq_getElem hlt), bind_of e1];dsimp only [refR];rw [cond_if]
    by_cases h0 : (stepP t w rest wd σ T[c]).1 = 0
    · obtain ⟨res, r1, r2⟩ := hself c hlt h0;have e3 : ((([] : List Int) ++ (List.drop (0 : Int).toNat (List.take (c : Int).toNat T))) ++ (List.drop (((c : Int) + 1) : Int).toNat (List.take ((T.length : Int) : Int).toNat T))) = T.take c ++ T.drop (c + 1) := by
        rw [show (((c : Int) + 1) : Int).toNat = c + 1 by omega]; simp
      have e4 : ((([] : List Int) ++ to) ++ ([T[c]] : List Int)) = to ++ [T[c]] := by simp
      have hpart : ∀ res, joinB acc res = joinB acc res := fun _ => rfl
      rw [if_neg (by simpa using h0), chk_of (by simp; omega), chk_of (room_iff.2 (by simp; omega)), chk_of h64, chk_of (by simp; omega), chk_of (room_iff.2 (by simp; omega)), chk_of (room_iff.2 (by simp; omega)), chk_of (room_iff.2 (by simp; omega)), e3, e4, e2 h0, bind_of r1];have hres : ∀ b, res = some b → b.1.length ≤ 500 := fun b hb => by
        rw [hb] at r2;obtain ⟨s, hs, hcs⟩ := r2.1;have hl := cand_len h hw s _ _ _ (step_ok h hw hσ h0).1 hcs;have hf : freeP (stepP t w rest wd σ T[c]).2.wo ≤ 8 := by
          unfold freeP;exact Nat.le_trans (List.length_filter_le _ _) (by simp)
        have hm17 : measP (stepP t w rest wd σ T[c]).2 false ≤ 17 := by
          unfold measP;have : (if false = true then 0 else 1 : Nat) = 1 := rfl;rw [this]; omega
        rw [hs];simp
        omega
      obtain ⟨acc', a1, a2, a3⟩ := ih m (c + 1) _ (joinB acc res) (by omega) (by omega) (joinB_bst hC r2) (fun a ha => by
        cases acc with
        | none => exact hres a ha
        | some b =>
          cases hr : res with
          | none => rw [hr] at ha; exact hlen a ha
          | some d =>
            rw [hr] at ha;simp only [joinB] at ha
            split at ha
            · exact hres a (hr.trans ha)
            · exact hlen a ha)
      refine ⟨acc', ?_, a2.congr fun l m => ?_, a3⟩
      · refine Eq.trans ?_ a1
        cases hr : res with
        | none =>
          rw [joinB_none, show (stB none).2.2 = false from rfl, cond_if, if_neg (by simp), chk_of h64]
          rfl
        | some b =>
          rw [chk_of h64, chk_of h64];exact chain_ev (n := n) hn (acc := acc) (b := b) (fun a => l2F n i26 k t w g rest wage wd σ0 σ steps to T m ((c + 1 : Nat) : Int) a) hlen (hres b hr)
      · constructor
        · rintro ((hh | ⟨s, rfl, hs⟩) | ⟨j, hj, hcj, s, rfl, hs⟩)
          · exact .inl hh
          · exact .inr ⟨c, hlt, Nat.le_refl _, s, by simp, h0, hs⟩
          · exact .inr ⟨j, hj, by omega, s, rfl, hs⟩
        · rintro (hh | ⟨j, hj, hcj, s, rfl, hs0, hs⟩)
          · exact .inl (.inl hh)
          · by_cases e : j = c
            · subst e; exact .inl (.inr ⟨s, by simp, hs⟩)
            · exact .inr ⟨j, hj, by omega, s, rfl, hs0, hs⟩
    · obtain ⟨acc', a1, a2, a3⟩ := ih m (c + 1) C acc (by omega) (by omega) hC hlen;rw [if_pos (by simpa using h0), chk_of h64];refine ⟨acc', a1, a2.congr fun l m => ?_, a3⟩
      constructor
      · rintro (hh | ⟨j, hj, hcj, hs⟩)
        · exact .inl hh
        · exact .inr ⟨j, hj, by omega, hs⟩
      · rintro (hh | ⟨j, hj, hcj, s, e, hs0, hs⟩)
        · exact .inl hh
        · by_cases e : j = c
          · subst e; exact absurd hs0 h0
          · exact .inr ⟨j, hj, by omega, s, by assumption, hs0, hs⟩
include h hw in
theorem ref_node {goal : Int} (hgoal : 0 ≤ goal ∧ goal < 256) {n : Nat} (hn : 1000 < n) {i26 : Int} (hi26 : 0 ≤ i26 ∧ i26 < 10) {k : KT} {σ0 σ : Wk} (hσ : OkW t σ) {steps to T : List Int} (hto : to.length ≤ 100) (hT : RemT goal σ T) (hT8 : T.length ≤ 8)
    (hself : ∀ (c : Nat) (hc : c < T.length), (stepP t w rest wd σ T[c]).1 = 0 → RefOk t w g rest wage wd goal n (stepP t w rest wd σ T[c]).2 (to ++ [T[c]]) (T.take c ++ T.drop (c + 1)))
    {C : Cs} {acc : Bo} (hC : Bst C acc) (hlen : ∀ a, acc = some a → a.1.length ≤ 500) :
    ∃ acc', ev_ref11_best_j1 n i26 (stB acc).2.1 (stB acc).2.2 (ev_ref11_best n) k 0 steps T rest wage wd.1 wd.2.1 wd.2.2.1 wd.2.2.2 σ0.pl (hasP σ0.wo 0) (hasP σ0.wo 1) (hasP σ0.wo 2) (hasP σ0.wo 3) (hasP σ0.wo 4) (hasP σ0.wo 5) (hasP σ0.wo 6) (hasP σ0.wo 7) σ0.oil σ0.run σ0.min (stB acc).1
      σ.pl (hasP σ.wo 0) (hasP σ.wo 1) (hasP σ.wo 2) (hasP σ.wo 3) (hasP σ.wo 4) (hasP σ.wo 5) (hasP σ.wo 6) (hasP σ.wo 7) σ.oil σ.run σ.min to t w g = kkF k t w g rest wage wd σ0 steps T (i26 + 1) acc'
      ∧ Bst (fun l m => C l m ∨ ∃ s, l = to ++ s ∧ candP t w rest wd goal true σ s m) acc' ∧ (∀ a, acc' = some a → a.1.length ≤ 500) := by
  have h64 : in64 (i26 + 1) = true := in64_of (by omega);have hwg := hT.wo_goal hgoal hσ;rw [ev_ref11_best_j1, cond_if, if_neg (by simp), cond_if]
  by_cases hT0 : T = []
  · have hcand : ∀ s m, candP t w rest wd goal true σ s m ↔ s = [] ∧ (homeP t w wd σ).1 = 0 ∧ m = (homeP t w wd σ).2.min := fun s m => by
      cases s with
      | nil => exact ⟨fun hc => ⟨rfl, hc.2⟩, fun hc => ⟨hwg.2 hT0, hc.2⟩⟩
      | cons x l =>
        constructor
        · rintro ⟨hc, h0, _⟩
          exfalso
          rcases hc with ⟨_, e⟩ | ⟨a, b, d⟩
          · cases e
          · rw [← hwg.2 hT0, d] at b; cases b
        · rintro ⟨e, _⟩; cases e
    rw [if_pos (by simp [hT0]), bind_of (refHome_ev h hσ)];dsimp only [refR];rw [cond_if]
    by_cases h0 : (homeP t w wd σ).1 = 0
    · rw [if_pos (by simpa using h0), chk_of h64, chk_of h64];refine ⟨joinB acc (some (to, (homeP t w wd σ).2.min)), chain_ev (n := n) hn (acc := acc) (b := (to, (homeP t w wd σ).2.min)) (fun a => kkF k t w g rest wage wd σ0 steps T (i26 + 1) a) hlen (show to.length ≤ 500 by omega), ?_, fun a ha => ?_⟩
      · refine joinB_bst hC ⟨⟨[], by simp, (hcand _ _).2 ⟨rfl, h0, rfl⟩⟩, ?_⟩
        rintro l' m' ⟨s, rfl, hc⟩
        obtain ⟨rfl, _, rfl⟩ := (hcand _ _).1 hc;rw [List.append_nil];exact .inr ⟨rfl, lx_irr _⟩
      · cases acc with
        | none => cases ha; show to.length ≤ 500; omega
        | some b =>
          simp only [joinB] at ha
          split at ha
          · cases ha; show to.length ≤ 500; omega
          · exact hlen a ha
    · rw [if_neg (by simpa using h0), chk_of h64];refine ⟨acc, rfl, hC.congr fun l m => ⟨.inl, fun hh => ?_⟩, hlen⟩;rcases hh with hh | ⟨s, _, hc⟩
      · exact hh
      · exact absurd ((hcand _ _).1 hc).2.1 h0
  · have hTl : T.length ≠ 0 := fun e => hT0 (List.length_eq_zero_iff.1 e)
    obtain ⟨acc', a1, a2, a3⟩ := ref_l2 h hw hn hi26 (k := k) (σ0 := σ0) hσ (steps := steps) hto hT hT8 hself T.length n 0 C acc (by omega) (by omega) hC hlen;rw [if_neg (by simpa using hTl)];refine ⟨acc', a1, a2.congr fun l m => ?_, a3⟩
    constructor
    · rintro (hh | ⟨j, hj, _, s, rfl, hs0, hs⟩)
      · exact .inl hh
      · have hx := hT.r8 _ (List.getElem_mem hj);have hx2 := (hT.iff _ hx.1 hx.2).2 (List.getElem_mem hj);refine .inr ⟨T[j] :: s, rfl, .inr ⟨hx.1, hx2⟩, hs0, ?_⟩;rw [show (T[j] == -1) = false by simp; omega];exact hs
    · rintro (hh | ⟨s, rfl, hs⟩)
      · exact .inl hh
      · cases s with
        | nil => exact absurd (hwg.1 hs.1) hT0
        | cons x l =>
          obtain ⟨hc, hs0, hs⟩ := hs;rcases hc with ⟨_, e⟩ | ⟨b1, b2, b3⟩
          · cases e
          · have ht := h.tn;have hx8 : x < 8 := by
              rcases step_wo hs0 with ⟨e, _⟩ | ⟨_, e, _⟩ <;> omega
            have hmem := (hT.iff x b1 hx8).1 ⟨b2, b3⟩;obtain ⟨j, hj, rfl⟩ := List.getElem_of_mem hmem;rw [show (T[j] == -1) = false by simp; omega] at hs;exact .inr ⟨j, hj, Nat.zero_le _, l, rfl, hs0, hs⟩
include h hw in
theorem ref_ok {goal : Int} (hgoal : 0 ≤ goal ∧ goal < 256) : ∀ (n : Nat) (σ : Wk) (steps T : List Int), 1002 + T.length < n → OkW t σ → RemT goal σ T → T.length ≤ 8 → steps.length + 3 * T.length ≤ 90 → RefOk t w g rest wage wd goal n σ steps T := by
  intro n
  induction n with
  | zero => intro σ steps T h1; omega
  | succ n ih =>
    intro σ steps T hn hσ hT hT8 hlen;have hself : ∀ (σ1 : Wk) (to : List Int), OkW t σ1 → σ1.wo = σ.wo → to.length ≤ steps.length + 1 → ∀ (c : Nat) (hc : c < T.length), (stepP t w rest wd σ1 T[c]).1 = 0 → RefOk t w g rest wage wd goal n (stepP t w rest wd σ1 T[c]).2 (to ++ [T[c]]) (T.take c ++ T.drop (c + 1)) := fun σ1 to h1 hwo hto c hc h0 => by
      have hx := hT.r8 _ (List.getElem_mem hc);have hl : (T.take c ++ T.drop (c + 1)).length + 1 = T.length := by rw [List.length_append, List.length_take, List.length_drop]; omega
      refine ih _ _ _ (by omega) (step_ok h hw h1 h0).1 (hT.next hc ?_) (by omega) (by rw [List.length_append]; simp only [List.length_cons, List.length_nil]; omega);rcases step_wo h0 with ⟨e, _⟩ | ⟨_, _, _, e⟩
      · omega
      · rw [e, hwo]
    have hnil : Bst (fun _ _ => False) none := fun l m hf => hf
    have e0 : ([] : List Int) ++ steps = steps := rfl;obtain ⟨acc1, a1, a2, a3⟩ := ref_node h hw hgoal (n := n) (by omega) (i26 := 0) (by decide) (k := fun i24q b25q i26q l27q l28q i29q i30q i31q i33q i34q i35q i36q b37q b38q b39q b40q b41q b42q b43q b44q i45q i46q i47q l48q l49q l50q l51q => ev_ref11_best_l0 n (ev_ref11_best n) (n - 1) i24q b25q i26q l27q l28q i29q i30q i31q i33q i34q i35q i36q b37q b38q b39q b40q b41q b42q b43q b44q i45q i46q i47q l48q l49q l50q l51q) (σ0 := σ) hσ (steps := steps) (to := steps) (by omega) hT hT8 (hself σ steps hσ rfl (by omega)) hnil (fun a ha => by cases ha);have hend : ∀ (m : Nat) (acc : Bo), ev_ref11_best_l0 n (ev_ref11_best n) (m + 1) (stB acc).2.1 (stB acc).2.2 2 steps T rest wage wd.1 wd.2.1 wd.2.2.1 wd.2.2.2 σ.pl (hasP σ.wo 0) (hasP σ.wo 1) (hasP σ.wo 2) (hasP σ.wo 3) (hasP σ.wo 4) (hasP σ.wo 5) (hasP σ.wo 6) (hasP σ.wo 7) σ.oil σ.run σ.min (stB acc).1 t w g = some (stB acc) := fun m acc => by
      rw [ev_ref11_best_l0, cond_if, if_neg (by simp)]
    obtain ⟨p, hp⟩ : ∃ p, n = p + 1 + 1 + 1 := ⟨n - 3, by omega⟩;have hfirst : ev_ref11_best (n + 1) t w g rest wage wd.1 wd.2.1 wd.2.2.1 wd.2.2.2 σ.pl (hasP σ.wo 0) (hasP σ.wo 1) (hasP σ.wo 2) (hasP σ.wo 3) (hasP σ.wo 4) (hasP σ.wo 5) (hasP σ.wo 6) (hasP σ.wo 7) σ.oil σ.run σ.min steps T
        = ev_ref11_best_l0 n (ev_ref11_best n) (n - 1) (stB acc1).2.1 (stB acc1).2.2 1 steps T rest wage wd.1 wd.2.1 wd.2.2.1 wd.2.2.2 σ.pl (hasP σ.wo 0) (hasP σ.wo 1) (hasP σ.wo 2) (hasP σ.wo 3) (hasP σ.wo 4) (hasP σ.wo 5) (hasP σ.wo 6) (hasP σ.wo 7) σ.oil σ.run σ.min (stB acc1).1 t w g := by
      rw [ev_ref11_best]
      conv => lhs; arg 3; rw [show n = (n - 1) + 1 by omega]
      rw [ev_ref11_best_l0, cond_if, if_pos (by simp), chk_of (room_iff.2 (by simp; omega)), cond_if, if_neg (by simp), e0];exact a1
    obtain ⟨σ1, e1, e2⟩ := refStep_ev h hw (n := n) hσ (-1)
    by_cases h0 : (stepP t w rest wd σ (-1)).1 = 0
    · have hok1 := (step_ok h hw hσ h0).1;have hwo1 : (stepP t w rest wd σ (-1)).2.wo = σ.wo := by
        rcases step_wo h0 with ⟨_, e⟩ | ⟨e, _⟩
        · exact e
        · omega
      have hT1 : RemT goal (stepP t w rest wd σ (-1)).2 T := ⟨hT.nd, hT.r8, by rw [hwo1]; exact hT.iff, by rw [hwo1]; exact hT.sub⟩;obtain ⟨acc2, b1, b2, b3⟩ := ref_node h hw hgoal (n := n) (by omega) (i26 := 1) (by decide) (k := fun i24q b25q i26q l27q l28q i29q i30q i31q i33q i34q i35q i36q b37q b38q b39q b40q b41q b42q b43q b44q i45q i46q i47q l48q l49q l50q l51q => ev_ref11_best_l0 n (ev_ref11_best n) (n - 2) i24q b25q i26q l27q l28q i29q i30q i31q i33q i34q i35q i36q b37q b38q b39q b40q b41q b42q b43q b44q i45q i46q i47q l48q l49q l50q l51q) (σ0 := σ) hok1 (steps := steps) (to := steps ++ [-1]) (by simp; omega) hT1 hT8 (hself _ _ hok1 hwo1 (by simp)) a2 a3;refine ⟨acc2, ?_, b2.congr fun l m => ?_⟩
      · rw [hfirst, show n - 1 = (n - 2) + 1 by omega, ev_ref11_best_l0, cond_if, if_pos (by simp), chk_of (room_iff.2 (by simp; omega)), cond_if, if_pos (by simp), bind_of e1];dsimp only [refR];rw [chk_of (room_iff.2 (by simp; omega)), e2 h0, h0, e0];refine b1.trans ?_;show ev_ref11_best_l0 n (ev_ref11_best n) (n - 2) _ _ _ _ _ _ _ _ _ _ _ _ _ _ _ _ _ _ _ _ _ _ _ _ _ _ _ = _;rw [show n - 2 = (n - 3) + 1 by omega];exact hend _ _
      · constructor
        · rintro ((hf | ⟨s, rfl, hs⟩) | ⟨s, rfl, hs⟩)
          · exact absurd hf id
          · exact ⟨s, rfl, cand_split.2 (.inl hs)⟩
          · exact ⟨-1 :: s, by simp, cand_split.2 (.inr ⟨s, rfl, h0, hs⟩)⟩
        · rintro ⟨s, rfl, hs⟩
          rcases cand_split.1 hs with hs | ⟨s', rfl, _, hs⟩
          · exact .inl (.inr ⟨s, rfl, hs⟩)
          · exact .inr ⟨s', by simp, hs⟩
    · refine ⟨acc1, ?_, a2.congr fun l m => ?_⟩
      · rw [hfirst, show n - 1 = (n - 2) + 1 by omega, ev_ref11_best_l0, cond_if, if_pos (by simp), chk_of (room_iff.2 (by simp; omega)), cond_if, if_pos (by simp), bind_of e1];dsimp only [refR];rw [chk_of (room_iff.2 (by simp; omega)), ev_ref11_best_j1, cond_if, if_pos (by simpa using h0), chk_of (in64_of (by decide)), show n - 2 = (n - 3) + 1 by omega];exact hend _ _
      · constructor
        · rintro (hf | ⟨s, rfl, hs⟩)
          · exact absurd hf id
          · exact ⟨s, rfl, cand_split.2 (.inl hs)⟩
        · rintro ⟨s, rfl, hs⟩
          rcases cand_split.1 hs with hs | ⟨s', rfl, hz, hs⟩
          · exact .inr ⟨s, rfl, hs⟩
          · exact absurd hz h0
end
end Go.Proofs.YtohjpfkcahlfkaaGreat.Sy
