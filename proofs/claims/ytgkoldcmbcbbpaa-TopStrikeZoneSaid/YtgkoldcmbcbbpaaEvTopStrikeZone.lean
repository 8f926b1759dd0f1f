/- Clocks that are put back by hours: what the law computes is true. -/
import Derived.Test.YtgkoldcmbcbbpaaGTopStrikeZone
import Derived.Test.YtgkoldcmbcbbpaaEvPlan
import Derived.Test.YtgkoldcmbcbbpaaEvZone
import Derived.Test.YtgkoldcmbcbbpaaEvPub
set_option linter.unusedSimpArgs false
set_option linter.unusedVariables false
namespace Go.Proofs.Ytgkoldcmbcbbpaa.Sy
open Go.RowKit
set_option maxRecDepth 100000

theorem pubStrike_sz : ev_top_pubStrike 2200 = some true := by decide +kernel
theorem pubTowns_sz : ev_top_pubTowns 2200 = some true := by decide +kernel
/-- plans without blows by hand -/
theorem zero_step {h : Bool} {q : List (Int × Int)} {slot p : Int} {s : Int × Bool} (hs : s.1 = 0) : stepE h false q slot p s = (if s.2 then p else (p + 1) % plN h, 0, 0) := by
  unfold stepE endP
  simp [hs, letP]
theorem zero_play {h : Bool} {q : List (Int × Int)} : ∀ (l : List (Int × Bool)) (slot p c : Int), (∀ s ∈ l, s.1 = 0) → (0 ≤ p ∧ p < plN h) → playP h false q l slot p c = ((p + ((l.length : Int) - holdsP l)) % plN h, c, 0) := by
  have hN := plN_or h
  intro l
  induction l with
  | nil =>
    intro slot p c _ hp
    simp only [playP, holdsP, List.length_nil, List.filter_nil]
    rw [Int.emod_eq_of_lt (by simp; omega) (by simp; omega)]; simp
  | cons s l ih =>
    intro slot p c hs hp
    have h0 := zero_step (h := h) (q := q) (slot := slot) (p := p) (hs s (by simp))
    simp only [playP, h0, if_true, Int.add_zero]
    have hr : 0 ≤ (if s.2 then p else (p + 1) % plN h) ∧ (if s.2 then p else (p + 1) % plN h) < plN h := by
      split
      · exact hp
      · rcases hN with e | e <;> rw [e] <;> omega
    rw [ih (slot + 1) _ c (fun z hz => hs z (by simp [hz])) hr, holdsP_cons]
    simp only [List.length_cons, Prod.mk.injEq, and_true]
    split
    · congr 1; omega
    · rw [Int.add_comm (p + 1) 0 |> fun _ => Int.emod_add_emod]; congr 1; omega
theorem play_zero {h rack : Bool} {q : List (Int × Int)} : ∀ (l : List (Int × Bool)) (slot p c : Int), (0 ≤ p ∧ p < plN h) → 0 ≤ c → (playP h rack q l slot p c).2.2 = 0 → (playP h rack q l slot p c).2.1 = 0 → ∀ s ∈ l, s.1 = 0 := by
  intro l
  induction l with
  | nil => intro slot p c _ _ _ _ s hs; simp at hs
  | cons s l ih =>
    intro slot p c hp hc h0 h1
    simp only [playP] at h0 h1
    split at h0
    · rename_i hz
      simp only [hz, if_true] at h1
      have hr := stepE_range (rack := rack) (q := q) (slot := slot) (s := s) hp
      have hrg := playP_range l (slot + 1) _ _ hr.1 (show 0 ≤ c + (stepE h rack q slot p s).2.1 by omega) h0
      have h2 : (stepE h rack q slot p s).2.1 = 0 := by omega
      have h3 : s.1 = 0 := by
        unfold stepE at h2 hz
        split at hz
        · simp at hz
        · rename_i hn1
          rw [if_neg hn1] at h2
          simp only [Bool.not_eq_true', Bool.and_eq_false_iff, decide_eq_false_iff_not] at hn1
          split at hz
          · simp at hz
          · rename_i hn2
            rw [if_neg hn2] at h2
            have := letP_range (rack := rack) s.1.toNat p hp
            simp only at h2
            omega
      intro z hz'
      rcases List.mem_cons.1 hz' with rfl | hz'
      · exact h3
      · exact ih _ _ _ hr.1 (by omega) h0 h1 z hz'
    · rename_i hz; exact absurd h0 hz
theorem holdsP_range (l : List (Int × Bool)) : 0 ≤ holdsP l ∧ holdsP l ≤ l.length := by
  unfold holdsP
  have := List.length_filter_le (fun s : Int × Bool => s.2) l
  omega
/-- a plan without blows, with some holds -/
def freeP (j n : Nat) : List (Int × Bool) := List.replicate j (0, true) ++ List.replicate n (0, false)
theorem freeP_holds (j n : Nat) : holdsP (freeP j n) = j ∧ (freeP j n).length = j + n ∧ ∀ s ∈ freeP j n, s.1 = 0 := by
  refine ⟨?_, by simp [freeP], fun s hs => ?_⟩
  · unfold holdsP freeP
    rw [List.filter_append, List.filter_replicate, List.filter_replicate]
    simp
  · unfold freeP at hs
    rcases List.mem_append.1 hs with h | h
    · obtain ⟨_, rfl⟩ := List.mem_replicate.1 h; rfl
    · obtain ⟨_, rfl⟩ := List.mem_replicate.1 h; rfl
theorem bring_free {slot p : Int} (hp : 0 ≤ p ∧ p < 12) : ∃ a, bestP false false [] (slot + 12) 12 p = some a ∧ a.1 = (0, (p - slot) % 12) ∧ (∀ s ∈ planP false false [] (slot + 12) 12 p, s.1 = 0) ∧ holdsP (planP false false [] (slot + 12) 12 p) = (p - slot) % 12 ∧ (planP false false [] (slot + 12) 12 p).length = 12 := by
  have hpN : plN false = 12 := rfl
  obtain ⟨j, hj⟩ : ∃ j : Nat, (j : Int) = (p - slot) % 12 := ⟨((p - slot) % 12).toNat, by omega⟩
  have hj12 : j < 12 := by omega
  obtain ⟨f1, f2, f3⟩ := freeP_holds j (12 - j)
  have hz := zero_play (h := false) (q := []) (freeP j (12 - j)) (slot + 12 - ((12 : Nat) : Int)) p 0 f3 (by rw [hpN]; exact hp)
  have hl : ((freeP j (12 - j)).length : Int) = 12 := by rw [f2]; omega
  rw [f1, hl, hpN] at hz
  obtain ⟨a, ha, hna⟩ := plan_best (h := false) (rack := false) (q := []) (until_ := slot + 12) 12 p (freeP j (12 - j)) (by omega) (fun s hs => stepsL_mem.2 (by rw [f3 s hs]; simp [nN])) (by rw [hz]) (by rw [hz, hpN]; simp only; omega)
  rw [hz, f1] at hna
  have hr := best_range 12 p a (by rw [hpN]; exact hp) ha
  have a0 : a.1.1 = 0 := by unfold ltC at hna; simp only at hna; omega
  have a1 : a.1.2 ≤ j := by unfold ltC at hna; simp only at hna; omega
  obtain ⟨p1, p2, p3⟩ := plan_plays 12 p a ha
  have hzero := play_zero (h := false) (rack := false) (q := []) _ _ p 0 (by rw [hpN]; exact hp) (Int.le_refl _) (by rw [p1]) (by rw [p1]; exact a0)
  have hpl := zero_play (h := false) (q := []) _ (slot + 12 - ((12 : Nat) : Int)) p 0 hzero (by rw [hpN]; exact hp)
  rw [p1, p2, p3, hpN] at hpl
  simp only [Prod.mk.injEq] at hpl
  have h12 : a.1.2 = j := by have := hpl.1; omega
  refine ⟨a, ha, ?_, hzero, by rw [p2, h12, hj], p3⟩
  rw [← hj, ← h12, ← a0]
theorem topStrikeZone_evx {hour1 : Int} {offset2 : Int} {by_3 : Int} (h0 : (Lit.int .u16 hour1).wf = true) (h1 : (Lit.int .i8 offset2).wf = true) (h2 : (Lit.int .i8 by_3).wf = true) :
    ∃ n, ev_top_TopStrikeZone n hour1 offset2 by_3 = some true := by
  have w0 : 0 ≤ hour1 ∧ hour1 ≤ 65535 := by
    simpa only [Lit.wf, Bool.and_eq_true, decide_eq_true_eq, show IntKind.u16.min = 0 from rfl, show IntKind.u16.max = 65535 from rfl] using h0
  have w1 : -128 ≤ offset2 ∧ offset2 ≤ 127 := by
    simpa only [Lit.wf, Bool.and_eq_true, decide_eq_true_eq, show IntKind.i8.min = -128 from rfl, show IntKind.i8.max = 127 from rfl] using h1
  have w2 : -128 ≤ by_3 ∧ by_3 ≤ 127 := by
    simpa only [Lit.wf, Bool.and_eq_true, decide_eq_true_eq, show IntKind.i8.min = -128 from rfl, show IntKind.i8.max = 127 from rfl] using h2
  refine ⟨2200, ?_⟩
  have six : ∀ x : Int, -5 ≤ Int.tmod x 6 ∧ Int.tmod x 6 ≤ 5 := fun x => by
    have h1 := Int.tmod_lt_of_pos x (show (0 : Int) < 6 by decide)
    have h2 := Int.tmod_lt_of_pos (-x) (show (0 : Int) < 6 by decide)
    rw [Int.neg_tmod] at h2; omega
  obtain ⟨H, hH⟩ : ∃ H, 24 + Int.tmod hour1 2400 = H := ⟨_, rfl⟩
  have e1 : Int.tmod hour1 2400 = hour1 % 2400 := Int.tmod_eq_emod_of_nonneg w0.1
  have rH : 24 ≤ H ∧ H ≤ 2423 := by omega
  obtain ⟨o, ho⟩ : ∃ o, Int.tmod offset2 6 = o := ⟨_, rfl⟩
  obtain ⟨k, hk⟩ : ∃ k, Int.tmod by_3 6 = k := ⟨_, rfl⟩
  have ro := six offset2
  have rk := six by_3
  rw [ho] at ro
  rw [hk] at rk
  have hz : OkZ 0 [(3600 * H, 3600 * (o + k))] := ⟨fun c hc => by rw [List.mem_singleton] at hc; subst hc; simp only; omega, List.pairwise_singleton _ _, by simp⟩
  obtain ⟨d1, s1, q1⟩ := ev_zSaysD (n := 2200) (by decide) (o := 3600 * o) (by omega) hz (t := 3600 * H - 1) (by omega)
  obtain ⟨d2, s2, q2⟩ := ev_zSaysD (n := 2200) (by decide) (o := 3600 * o) (by omega) hz (t := 3600 * H) (by omega)
  have o1 : offP (3600 * o) [(3600 * H, 3600 * (o + k))] (3600 * H - 1) = 3600 * o := by simp only [offP]; rw [if_neg (by omega)]
  have o2 : offP (3600 * o) [(3600 * H, 3600 * (o + k))] (3600 * H) = 3600 * (o + k) := by simp only [offP]; rw [if_pos (by omega)]
  rw [o1] at s1 q1
  rw [o2] at s2 q2
  have m1 : 0 ≤ (3600 * H - 1 + 3600 * o) % 86400 ∧ (3600 * H - 1 + 3600 * o) % 86400 < 86400 := by omega
  have m2 : 0 ≤ (3600 * H + 3600 * (o + k)) % 86400 ∧ (3600 * H + 3600 * (o + k)) % 86400 < 86400 := by omega
  have hat : ev_top_armTown 2200 (3600 * o) (3600 * H) (3600 * (o + k)) = some (3600 * o, [(3600 * H, 3600 * (o + k))]) := by rw [ev_top_armTown]
  rw [ev_top_TopStrikeZone, hH, ho, hk, chk_of (in64_of (by omega)), chk_of (in64_of (by omega)), chk_of (in64_of (by omega)), chk_of (in64_of (by omega)), chk_of (in64_of (by omega)), chk_of (in64_of (by omega)), chk_of (in64_of (by omega)), chk_of (in64_of (by omega)), bind_of hat, chk_of (in64_of (by omega)), chk_of (in64_of (by omega)), bind_of s1, chk_of (in64_of (by omega)), bind_of s2, cond_if, if_neg (by simp), cond_if, if_neg (by simp)]
  simp only
  rw [chk_of (in64_of (by omega)), chk_of (in64_of (by omega)), chk_of (in64_of (by omega)), chk_of (in64_of (by omega)), chk_of (in64_of (by omega)), cond_if, if_neg (by simp; omega), chk_of (in64_of (by omega)), chk_of (in64_of (by omega)), chk_of (in64_of (by omega)), chk_of (in64_of (by omega)), chk_of (in64_of (by omega)), cond_if, if_neg (by simp; omega)]
  obtain ⟨slot, hslot⟩ : ∃ slot, H + o + k = slot := ⟨_, rfl⟩
  have e2 : Int.tmod (H + o) 12 = (H + o) % 12 := Int.tmod_eq_emod_of_nonneg (by omega)
  have e3 : Int.tmod slot 12 = slot % 12 := Int.tmod_eq_emod_of_nonneg (by omega)
  obtain ⟨p, hp⟩ : ∃ p, (H + o) % 12 = p := ⟨_, rfl⟩
  have rp : 0 ≤ p ∧ p < 12 := by omega
  have hpN : plN false = 12 := rfl
  obtain ⟨a, ha, ha1, ha2, ha3, ha4⟩ := bring_free (slot := slot) rp
  have hc : ev_strike_Check 2200 false false [] = some 0 := by decide +kernel
  have hB := ev_Bring (n := 2200) (by decide) (h := false) (rack := false) (q := []) (by simp) hc (slot := slot) (p := p) (by omega) (by rw [hpN]; exact rp) (fun h => by cases h) (k := 12) (by omega)
  rw [show slot + ((12 : Nat) : Int) = slot + 12 from rfl, ha] at hB
  simp only [ha1] at hB
  obtain ⟨plan, hplan⟩ : ∃ l, l = planP false false [] (slot + 12) 12 p := ⟨_, rfl⟩
  rw [← hplan] at hB ha2 ha3 ha4
  have hPl := ev_Play (n := 2200) (by decide) (h := false) (rack := false) (q := []) (by simp) hc (slot := slot) (p := p) (by omega) (by rw [hpN]; exact rp) (fun h => by cases h) (plan := plan) (by omega)
  rw [zero_play plan slot p 0 ha2 (by rw [hpN]; exact rp), hpN, ha3, ha4] at hPl
  rw [ev_top_TopStrikeZone_j0, hH, ho, hk, chk_of (in64_of (by omega)), chk_of (in64_of (by omega)), hslot, chk_of (in64_of (by omega)), chk_of (in64_of (by omega)), e2, hp, bind_of hB, cond_if, if_neg (by simp), cond_if, if_neg (by simp), cond_if, if_neg (by simp [ha4]), ev_top_TopStrikeZone_j1]
  -- the holds are counted
  have key : ∀ (d m i : Nat) (c : Int), i + d = 12 → d < m → 0 ≤ c → c ≤ i → c + holdsP (plan.drop i) = (p - slot) % 12 → ev_top_TopStrikeZone_l2 2200 (plan, 0, 0) hour1 offset2 by_3 m c (i : Int) = some true := by
    intro d
    induction d with
    | zero =>
      intro m i c hi hm h0 h1 hh
      cases m with
      | zero => omega
      | succ m =>
        rw [List.drop_eq_nil_of_le (by omega)] at hh
        have : holdsP ([] : List (Int × Bool)) = 0 := rfl
        rw [this] at hh
        rw [ev_top_TopStrikeZone_l2, cond_if, if_neg (by simp; omega), hH, ho, hk, hslot, e2, hp, bind_of hPl, cond_if, if_pos (by simp), chk_of (in64_of (by omega)), bind_of (pubRest_evp (by decide)), cond_if, if_pos (by simp; omega), e3, cond_if, if_pos (by simp; omega), bind_of pubStrike_sz, cond_if, if_pos rfl, bind_of pubTowns_sz]
    | succ d ih =>
      intro m i c hi hm h0 h1 hh
      cases m with
      | zero => omega
      | succ m =>
        have hlt : i < plan.length := by omega
        have hz0 := ha2 _ (List.getElem_mem hlt)
        rw [List.drop_eq_getElem_cons hlt, holdsP_cons] at hh
        rw [ev_top_TopStrikeZone_l2, cond_if, if_pos (by simp; omega), idx_nat (List.getElem?_eq_getElem hlt), cond_if, if_neg (by simp [hz0]), cond_if]
        split
        · rename_i hs2
          rw [if_pos hs2] at hh
          rw [chk_of (in64_of (by omega)), chk_of (in64_of (by omega))]
          exact ih m (i + 1) (c + 1) (by omega) (by omega) (by omega) (by omega) (by omega)
        · rename_i hs2
          rw [if_neg hs2] at hh
          rw [chk_of (in64_of (by omega))]
          exact ih m (i + 1) c (by omega) (by omega) (by omega) (by omega) (by omega)
  exact key 12 2200 0 0 (by omega) (by omega) (by omega) (by omega) (by simpa using ha3)
end Go.Proofs.Ytgkoldcmbcbbpaa.Sy
