/- The town's clock in its book. -/
import Derived.Test.YtmgcinejodpopaaGTopZoneBook
import Derived.Test.YtmgcinejodpopaaSpZone
import Derived.Test.YtmgcinejodpopaaEvHands
set_option linter.unusedSimpArgs false
set_option linter.unusedVariables false
namespace Go.Proofs.Ytmgcinejodpopaa.Sy
open Go.RowKit
set_option maxRecDepth 100000

theorem pubBookZ_ev : ev_top_pubBook 2200 = some true := by decide +kernel
theorem pubTownsZ_ev : ev_top_pubTowns 2200 = some true := by decide +kernel
theorem tmod_add_emod {a b : Int} (hb : 1 ≤ b) : 0 ≤ Int.tmod a b + b ∧ Int.tmod a b + b ≤ 2 * b ∧ Int.tmod (Int.tmod a b + b) b = a % b := by
  have h1 := Int.tmod_lt_of_pos a (show 0 < b by omega)
  have h2 : -b < Int.tmod a b := by
    have := Int.tmod_lt_of_pos (-a) (show 0 < b by omega)
    rw [Int.neg_tmod] at this; omega
  have h3 : a % b = (Int.tmod a b + b) % b := by
    rw [Int.add_emod_right, show Int.tmod a b = a - b * Int.tdiv a b by have := Int.mul_tdiv_add_tmod a b; omega, Int.sub_mul_emod_self_left]
  exact ⟨by omega, by omega, by rw [Int.tmod_eq_emod_of_nonneg (by omega), ← h3]⟩
theorem ev_pubRestZ {n : Nat} {a b : Int} (hb : 1 ≤ b ∧ b ≤ 100000000) : ev_top_pubRest n a b = some (a % b) := by
  obtain ⟨h1, h2, h3⟩ := tmod_add_emod (a := a) hb.1
  rw [ev_top_pubRest, chk_of (by simp; omega), chk_of (in64_of (by omega)), chk_of (by simp; omega), h3]
theorem ev_zmodulo {n : Nat} {a b : Int} (hb : 1 ≤ b ∧ b ≤ 100000000) : ev_zone_modulo n a b = some (a % b) := by
  obtain ⟨h1, h2, h3⟩ := tmod_add_emod (a := a) hb.1
  rw [ev_zone_modulo, chk_of (by simp; omega), chk_of (in64_of (by omega)), chk_of (by simp; omega), h3]
/-- changes -/
def chP : Int → List (Int × Int) → List (Int × Int)
  | _, [] => []
  | t, x :: xs => (t + (1 + x.1), x.2 - 32768) :: chP (t + (1 + x.1)) xs
structure OkZ (t : Int) (l : List (Int × Int)) : Prop where
  ok : ∀ c ∈ l, t < c.1 ∧ c.1 ≤ 1000000 ∧ -32768 ≤ c.2 ∧ c.2 ≤ 32767
  asc : l.Pairwise fun a b => a.1 < b.1
  len : l.length ≤ 6
theorem chP_len : ∀ (l : List (Int × Int)) (t : Int), (chP t l).length = l.length := by
  intro l
  induction l with
  | nil => intro t; rfl
  | cons x xs ih => intro t; simp [chP, ih]
theorem chP_ok : ∀ (l : List (Int × Int)) (t : Int), (∀ x ∈ l, (0 ≤ x.1 ∧ x.1 ≤ 65535) ∧ (0 ≤ x.2 ∧ x.2 ≤ 65535)) → t + 65536 * (l.length : Int) ≤ 1000000 → (∀ c ∈ chP t l, t < c.1 ∧ c.1 ≤ 1000000 ∧ -32768 ≤ c.2 ∧ c.2 ≤ 32767) ∧ (chP t l).Pairwise fun a b => a.1 < b.1 := by
  intro l
  induction l with
  | nil => intro t _ _; simp [chP]
  | cons x xs ih =>
    intro t hb hm
    obtain ⟨⟨a0, a1⟩, b0, b1⟩ := hb x List.mem_cons_self
    simp only [List.length_cons] at hm
    obtain ⟨g1, g2⟩ := ih (t + (1 + x.1)) (fun z hz => hb z (List.mem_cons_of_mem _ hz)) (by omega)
    simp only [chP]
    refine ⟨fun c hc => ?_, ?_⟩
    · rcases List.mem_cons.1 hc with rfl | hc
      · simp only; omega
      · have := g1 c hc; omega
    · rw [List.pairwise_cons]
      exact ⟨fun c hc => by have := (g1 c hc).1; simp only; omega, g2⟩
theorem ev_pubZone {n : Nat} (hn : 10 < n) {off : Int} (ho : -32768 ≤ off ∧ off ≤ 32767) {by_ : List (Int × Int)} (hb : ∀ x ∈ by_, (0 ≤ x.1 ∧ x.1 ≤ 65535) ∧ (0 ≤ x.2 ∧ x.2 ≤ 65535)) : ev_top_pubZone n off by_ = some (off, chP 0 (by_.take 6)) := by
  have key : ∀ (k m i : Nat) (t : Int) (acc l7 : List (Int × Int)) (i6 : Int), i + k = min by_.length 6 → k < m → acc.length = i → 0 ≤ t → t ≤ 65536 * (i : Int) → ev_top_pubZone_l0 n m t (i : Int) by_ i6 l7 off acc = some (off, acc ++ chP t ((by_.take 6).drop i)) := by
    intro k
    induction k with
    | zero =>
      intro m i t acc l7 i6 hi hm ha ht0 ht
      cases m with
      | zero => omega
      | succ m =>
        have hd : (by_.take 6).drop i = [] := List.drop_eq_nil_of_le (by simp; omega)
        rw [hd, ev_top_pubZone_l0, cond_if]
        simp only [chP, List.append_nil]
        by_cases h : i < by_.length
        · rw [if_pos (by simp; omega), cond_if, if_neg (by simp; omega)]
        · rw [if_neg (by simp; omega)]
    | succ k ih =>
      intro m i t acc l7 i6 hi hm ha ht0 ht
      cases m with
      | zero => omega
      | succ m =>
        have hlt : i < by_.length := by omega
        have hlt2 : i < (by_.take 6).length := by simp; omega
        obtain ⟨x, hx⟩ : ∃ x, x = by_[i] := ⟨_, rfl⟩
        have hget : by_[i]? = some x := by rw [hx, List.getElem?_eq_getElem hlt]
        have hx2 : (by_.take 6)[i] = x := by rw [hx, List.getElem_take]
        obtain ⟨⟨a0, a1⟩, b0, b1⟩ := hb x (List.mem_of_getElem? hget)
        rw [ev_top_pubZone_l0, cond_if, if_pos (by simp; omega), cond_if, if_pos (by simp; omega), ev_top_pubZone_j1, idx_nat hget, chk_of (in64_of (by omega)), chk_of (in64_of (by omega)), chk_of (in64_of (by omega)), chk_of (in64_of (by omega)), chk_of (in64_of (by omega)), chk_of (room_iff.2 (by simp; omega)), chk_of (in64_of (by omega)), List.drop_eq_getElem_cons hlt2, hx2]
        simp only [chP]
        have := ih m (i + 1) (t + (1 + x.1)) (acc ++ [(t + (1 + x.1), x.2 - 32768)]) l7 i6 (by omega) (by omega) (by simp; omega) (by omega) (by omega)
        rw [List.append_assoc, List.singleton_append] at this
        rw [← this]
        congr 1
  have := key (min by_.length 6) n 0 0 [] [] 0 (by omega) (by omega) rfl (by omega) (by omega)
  rw [ev_top_pubZone, chk_of (in64_of (by omega))]
  simpa using this
/-- the offset that counts at an instant -/
def offP : Int → List (Int × Int) → Int → Int
  | o, [], _ => o
  | o, c :: cs, t => if c.1 ≤ t then offP c.2 cs t else o
theorem offP_range : ∀ (l : List (Int × Int)) (o t : Int), (-32768 ≤ o ∧ o ≤ 32767) → (∀ c ∈ l, -32768 ≤ c.2 ∧ c.2 ≤ 32767) → -32768 ≤ offP o l t ∧ offP o l t ≤ 32767 := by
  intro l
  induction l with
  | nil => intro o t h _; exact h
  | cons c cs ih =>
    intro o t h hl
    simp only [offP]
    split
    · exact ih c.2 t (hl c List.mem_cons_self) fun z hz => hl z (List.mem_cons_of_mem _ hz)
    · exact h
theorem ev_isOffset {n : Nat} (hn : 2 < n) {o : Int} (h : -32768 ≤ o ∧ o ≤ 32767) : ev_zone_isOffset n o = some true := by
  rw [ev_zone_isOffset, bind_of (wi1_zone (by omega))]; congr 1; simp; omega
theorem ev_zCheck {n : Nat} (hn : 20 < n) {o : Int} (ho : -32768 ≤ o ∧ o ≤ 32767) {l : List (Int × Int)} (h : OkZ 0 l) : ev_zone_Check n o l = some 0 := by
  have hlen := h.len
  have key : ∀ (k m i : Nat) (b : Int), i + k = l.length → k < m → 0 ≤ b → b ≤ 1000000 → (∀ c, l[i]? = some c → b < c.1) → ev_zone_Check_l0 n l m b (i : Int) o l = some 0 := by
    intro k
    induction k with
    | zero =>
      intro m i b hi hm h0 h1 hb
      cases m with
      | zero => omega
      | succ m => rw [ev_zone_Check_l0, cond_if, if_neg (by simp; omega), bind_of (ev_isOffset (by omega) ho), cond_if, if_neg (by simp), cond_if, if_neg (by simp; omega)]
    | succ k ih =>
      intro m i b hi hm h0 h1 hb
      cases m with
      | zero => omega
      | succ m =>
        have hlt : i < l.length := by omega
        obtain ⟨c, hc⟩ : ∃ c, c = l[i] := ⟨_, rfl⟩
        have hget : l[i]? = some c := by rw [hc, List.getElem?_eq_getElem hlt]
        obtain ⟨g1, g2, g3, g4⟩ := h.ok c (List.mem_of_getElem? hget)
        have g5 := hb c hget
        rw [ev_zone_Check_l0, cond_if, if_pos (by simp; omega), idx_nat hget, chk_of (in64_of (by omega)), bind_of (wi1_zone (by omega)), cond_if, if_neg (by simp; omega), bind_of (ev_isOffset (by omega) ⟨g3, g4⟩), cond_if, if_neg (by simp), chk_of (in64_of (by omega))]
        exact ih m (i + 1) c.1 (by omega) (by omega) (by omega) (by omega) (fun c' hc' => by
          obtain ⟨hl2, rfl⟩ := List.getElem?_eq_some_iff.1 hc'
          rw [hc]
          exact List.pairwise_iff_getElem.1 h.asc i (i + 1) hlt hl2 (by omega))
  have := key l.length n 0 0 (by omega) (by omega) (by omega) (by omega) (fun c hc => (h.ok c (List.mem_of_getElem? hc)).1)
  rw [ev_zone_Check]; exact this
theorem ev_eras {n : Nat} (hn : 2 < n) {t : Int} (ht : 0 ≤ t ∧ t ≤ 1000000) {l : List (Int × Int)} (hlen : l.length ≤ 6) (hr : ∀ c ∈ l, 0 < c.1 ∧ c.1 ≤ 1000000 ∧ -32768 ≤ c.2 ∧ c.2 ≤ 32767) (hasc : l.Pairwise fun a b => a.1 < b.1) : ∀ (k m i : Nat) (low hi o : Int) (y : Int × Int × Int), i + k = l.length → k < m → 0 ≤ low → (∀ c, l[i]? = some c → low < c.1) →
    ∃ y' : Int × Int × Int, ev_zone_town_eras_l0 (loopStep (ev_zone_town_at_r0 n t)) n l m (i : Int) low hi o l (y, 0) = some (y', 0) ∧ (low ≤ t → y'.2.2 = offP o (l.drop i) t) ∧ (t < low → y' = y) := by
  have hstep : ∀ (a b o : Int) (y : Int × Int × Int), loopStep (ev_zone_town_at_r0 n t) (a, b, o) (y, 0) = some (true, (if a ≤ t ∧ t ≤ b then (a, b, o) else y), 0) := fun a b o y => by
    rw [loopStep_of (r := (0, if a ≤ t ∧ t ≤ b then (a, b, o) else y)) (by
      rw [ev_zone_town_at_r0, bind_of (wi1_zone (by omega)), cond_if]
      by_cases h : a ≤ t ∧ t ≤ b
      · rw [if_pos (by simp; omega), if_pos h]
      · rw [if_neg (by simp; omega), if_neg h])]
    rfl
  intro k
  induction k with
  | zero =>
    intro m i low hi o y hik hm h0 hlo
    cases m with
    | zero => omega
    | succ m =>
      rw [ev_zone_town_eras_l0, cond_if, if_neg (by simp; omega), bind_of (hstep _ _ _ _), List.drop_eq_nil_of_le (by omega)]
      refine ⟨_, rfl, fun h => ?_, fun h => ?_⟩
      · rw [if_pos (by omega)]; rfl
      · rw [if_neg (by omega)]
  | succ k ih =>
    intro m i low hi o y hik hm h0 hlo
    cases m with
    | zero => omega
    | succ m =>
      have hlt : i < l.length := by omega
      obtain ⟨c, hc⟩ : ∃ c, c = l[i] := ⟨_, rfl⟩
      have hget : l[i]? = some c := by rw [hc, List.getElem?_eq_getElem hlt]
      obtain ⟨g1, g2, g3, g4⟩ := hr c (List.mem_of_getElem? hget)
      have g5 := hlo c hget
      obtain ⟨y', h1, h2, h3⟩ := ih m (i + 1) c.1 0 c.2 (if low ≤ t ∧ t ≤ c.1 - 1 then (low, c.1 - 1, o) else y) (by omega) (by omega) (by omega) (fun c' hc' => by
        obtain ⟨hl2, rfl⟩ := List.getElem?_eq_some_iff.1 hc'
        rw [hc]
        exact List.pairwise_iff_getElem.1 hasc i (i + 1) hlt hl2 (by omega))
      refine ⟨y', ?_, fun h => ?_, fun h => ?_⟩
      · rw [ev_zone_town_eras_l0, cond_if, if_pos (by simp; omega), idx_nat hget, chk_of (in64_of (by omega)), bind_of (hstep _ _ _ _), cond_if, if_neg (by simp), chk_of (in64_of (by omega))]
        exact h1
      · rw [List.drop_eq_getElem_cons hlt, ← hc]
        simp only [offP]
        by_cases hct : c.1 ≤ t
        · rw [if_pos hct]; exact h2 hct
        · rw [if_neg hct, h3 (by omega), if_pos (by omega)]
      · rw [h3 (by omega), if_neg (by omega)]
theorem ev_zSays {n : Nat} (hn : 20 < n) {o : Int} (ho : -32768 ≤ o ∧ o ≤ 32767) {l : List (Int × Int)} (h : OkZ 0 l) {t : Int} (ht : 0 ≤ t ∧ t ≤ 1000000) : ∃ d, ev_zone_Says n o l t = some (d, (t + offP o l t) % 86400, 0) := by
  obtain ⟨y', h1, h2, _⟩ := ev_eras (n := n) (by omega) ht h.len h.ok h.asc l.length n 0 0 0 o (0, 0, 0) (by omega) (by have := h.len; omega) (by omega) (fun c hc => (h.ok c (List.mem_of_getElem? hc)).1)
  have hy := h2 ht.1
  simp only [List.drop_zero] at hy
  have hr := offP_range l o t ho fun c hc => (h.ok c hc).2.2
  have hat : ev_zone_town_at n o l t = some (y'.1, y'.2.1, y'.2.2) := by
    have h1' : ev_zone_town_eras (loopStep (ev_zone_town_at_r0 n t)) n o l ((0, 0, 0), 0) = some (y', 0) := h1
    rw [ev_zone_town_at, bind_of h1', cond_if, if_pos (by rfl)]
  have hsay : ev_zone_era_says n y'.1 y'.2.1 y'.2.2 t = some (t + offP o l t) := by
    rw [ev_zone_era_says, hy, chk_of (in64_of (by omega))]
  have m0 := Int.emod_nonneg (t + offP o l t) (show (86400 : Int) ≠ 0 by decide)
  have m1 := Int.emod_lt_of_pos (t + offP o l t) (show (0 : Int) < 86400 by decide)
  have hdv : -2000000 ≤ Int.tdiv (t + offP o l t - (t + offP o l t) % 86400) 86400 ∧ Int.tdiv (t + offP o l t - (t + offP o l t) % 86400) 86400 ≤ 2000000 := by
    have : (Int.tdiv (t + offP o l t - (t + offP o l t) % 86400) 86400).natAbs ≤ (t + offP o l t - (t + offP o l t) % 86400).natAbs := by rw [Int.natAbs_tdiv]; exact Nat.div_le_self _ _
    omega
  have hdown : ev_zone_down n (t + offP o l t) 86400 = some (Int.tdiv (t + offP o l t - (t + offP o l t) % 86400) 86400) := by
    rw [ev_zone_down, bind_of (ev_zmodulo (by decide)), chk_of (in64_of (by omega)), chk_of (by decide), chk_of (in64_of (by omega))]
  refine ⟨Int.tdiv (t + offP o l t - (t + offP o l t) % 86400) 86400, ?_⟩
  rw [ev_zone_Says, bind_of (ev_zCheck hn ho h), cond_if, if_neg (by simp), bind_of (wi1_zone (by omega)), cond_if, if_neg (by simp; omega), bind_of hat, bind_of hsay, bind_of hdown, bind_of (ev_zmodulo (by decide))]
/-- the entries of changes -/
def zentP (c : Int × Int) : BE := (c.1, 1, (c.1 + c.2) % 43200)
theorem run_zone : ∀ (l : List (Int × Int)) (o now t : Int), now ≤ t → (∀ c ∈ l, now < c.1) → l.Pairwise (fun a b => a.1 < b.1) →
    (runP (l.map zentP) ((now + o) % 43200 * 86400000, 0, now, false) t).1.1 = (t + offP o l t) % 43200 * 86400000 ∧ (runP (l.map zentP) ((now + o) % 43200 * 86400000, 0, now, false) t).1.2.2.2 = false := by
  intro l
  induction l with
  | nil =>
    intro o now t h _ _
    simp only [List.map_nil, runP, toP, offP, Bool.false_eq_true, if_false, and_true]
    omega
  | cons c cs ih =>
    intro o now t h hl hp
    rw [List.pairwise_cons] at hp
    simp only [List.map_cons, runP, offP]
    have e1 : (zentP c).1 = c.1 := rfl
    rw [e1]
    by_cases hct : c.1 ≤ t
    · rw [if_pos hct, if_pos hct]
      have e2 : doP ((now + o) % 43200 * 86400000, 0, now, false) (zentP c) = ((c.1 + c.2) % 43200 * 86400000, 0, c.1, false) := by
        unfold doP zentP toP
        simp
      rw [e2]
      exact ih c.2 c.1 t hct hp.1 hp.2
    · rw [if_neg hct, if_neg hct]
      simp only [toP, Bool.false_eq_true, if_false, and_true]
      omega
theorem topZoneBook_ev {off : Int} {by_ : List (Int × Int)} {at_ : Int} (ho : -32768 ≤ off ∧ off ≤ 32767) (hb : ∀ x ∈ by_, (0 ≤ x.1 ∧ x.1 ≤ 65535) ∧ (0 ≤ x.2 ∧ x.2 ≤ 65535)) (ha : 0 ≤ at_ ∧ at_ ≤ 4294967295) : ev_top_TopZoneBook 2200 off by_ at_ = some true := by
  obtain ⟨l, hl⟩ : ∃ l, l = chP 0 (by_.take 6) := ⟨_, rfl⟩
  have hlen : l.length ≤ 6 := by rw [hl, chP_len]; simp; omega
  obtain ⟨g1, g2⟩ := chP_ok (by_.take 6) 0 (fun x hx => hb x (List.mem_of_mem_take hx)) (by simp; omega)
  rw [← hl] at g1 g2
  have hz : OkZ 0 l := ⟨g1, g2, hlen⟩
  have et : Int.tmod at_ 1000000 = at_ % 1000000 := Int.tmod_eq_emod_of_nonneg ha.1
  obtain ⟨t, ht⟩ : ∃ t, t = at_ % 1000000 := ⟨_, rfl⟩
  have ht' : 0 ≤ t ∧ t ≤ 1000000 := by omega
  obtain ⟨es, hes⟩ : ∃ es : List BE, es = (0, 1, off % 43200) :: l.map zentP := ⟨_, rfl⟩
  have hok : OkEs es := by
    rw [hes]
    refine ⟨fun x hx => ?_, ?_, by simp; omega⟩
    · rcases List.mem_cons.1 hx with rfl | hx
      · exact ⟨by simp, .inl ⟨rfl, by simp only; omega, by simp only; omega⟩⟩
      · obtain ⟨c, hc, rfl⟩ := List.mem_map.1 hx
        obtain ⟨k1, k2, _⟩ := g1 c hc
        exact ⟨by simp only [zentP]; omega, .inl ⟨rfl, by simp only [zentP]; omega, by simp only [zentP]; omega⟩⟩
    · rw [List.pairwise_cons]
      refine ⟨fun x hx => ?_, ?_⟩
      · obtain ⟨c, hc, rfl⟩ := List.mem_map.1 hx
        exact (g1 c hc).1
      · rw [List.pairwise_map]; exact g2
  have hrun : (atP es t).1 = (t + offP off l t) % 43200 * 86400000 ∧ (atP es t).2.2.2 = false := by
    have := run_zone l off 0 t ht'.1 (fun c hc => (g1 c hc).1) g2
    have e : runP es (0, 0, 0, false) t = runP (l.map zentP) ((0 + off) % 43200 * 86400000, 0, 0, false) t := by
      rw [hes]
      simp only [runP]
      rw [if_pos ht'.1]
      congr 1
      unfold doP toP
      simp
    unfold atP
    rw [e]; exact this
  have hH := ev_Hands (n := 2200) hok (t := t) ht'.1 (by omega) (by decide)
  rw [hrun.1, hrun.2] at hH
  have hdv : (t + offP off l t) % 43200 * 86400000 / 86400 = (t + offP off l t) % 43200 * 1000 := by omega
  rw [hdv] at hH
  obtain ⟨d, hS⟩ := ev_zSays (n := 2200) (by decide) ho hz ht'
  have key : ∀ (k m i : Nat), i + k = l.length → k < m → ev_top_TopZoneBook_l0 2200 at_ m (i : Int) off ((0, 1, off % 43200) :: (l.take i).map zentP) l = some true := by
    intro k
    induction k with
    | zero =>
      intro m i hi hm
      cases m with
      | zero => omega
      | succ m =>
        have em : Int.tmod ((t + offP off l t) % 86400) 43200 = (t + offP off l t) % 43200 := by
          rw [Int.tmod_eq_emod_of_nonneg (by omega)]; omega
        have hH' : ev_book_Hands 2200 ((0, 1, off % 43200) :: (l.take i).map zentP) t = some ((t + offP off l t) % 43200 * 1000, !false, 0) := by
          rw [List.take_of_length_le (by omega), ← hes]; exact hH
        rw [ev_top_TopZoneBook_l0, cond_if, if_neg (by simp; omega), chk_of (in64_of (by omega)), et, ← ht, bind_of hH', bind_of hS, cond_if, if_pos (by rfl), cond_if, if_pos (by rfl), cond_if, if_pos (by rfl)]
        simp only [em]
        rw [chk_of (in64_of (by omega)), cond_if, if_pos (by simp; omega), bind_of pubTownsZ_ev, cond_if, if_pos rfl, bind_of pubBookZ_ev]
    | succ k ih =>
      intro m i hi hm
      cases m with
      | zero => omega
      | succ m =>
        have hlt : i < l.length := by omega
        obtain ⟨c, hc⟩ : ∃ c, c = l[i] := ⟨_, rfl⟩
        have hget : l[i]? = some c := by rw [hc, List.getElem?_eq_getElem hlt]
        obtain ⟨k1, k2, k3, k4⟩ := g1 c (List.mem_of_getElem? hget)
        rw [ev_top_TopZoneBook_l0, cond_if, if_pos (by simp; omega), idx_nat hget, chk_of (in64_of (by omega)), bind_of (ev_pubRestZ (by decide)), chk_of (room_iff.2 (by simp; omega)), chk_of (in64_of (by omega))]
        have := ih m (i + 1) (by omega) (by omega)
        rw [List.take_succ_eq_append_getElem hlt, List.map_append, ← hc] at this
        rw [← this]
        congr 1
  rw [ev_top_TopZoneBook, bind_of (ev_pubZone (by decide) ho hb), bind_of (ev_pubRestZ (by decide)), ← hl]
  exact key l.length 2200 0 (by omega) (by omega)
theorem topZoneBook_evx {offset1 : Int} {by_2 : List (Int × Int)} {at_3 : Int} (h0 : (Lit.int .i16 offset1).wf = true) (h1 : (by_2.length ≤ maxLen ∧ ∀ el132 ∈ by_2, (Lit.int .u16 el132.1).wf = true ∧ (Lit.int .u16 el132.2).wf = true)) (h2 : (Lit.int .u32 at_3).wf = true) :
    ∃ n, ev_top_TopZoneBook n offset1 by_2 at_3 = some true := by
  have w0 : -32768 ≤ offset1 ∧ offset1 ≤ 32767 := by
    simpa only [Lit.wf, Bool.and_eq_true, decide_eq_true_eq, show IntKind.i16.min = -32768 from rfl, show IntKind.i16.max = 32767 from rfl] using h0
  have w2 : 0 ≤ at_3 ∧ at_3 ≤ 4294967295 := by
    simpa only [Lit.wf, Bool.and_eq_true, decide_eq_true_eq, show IntKind.u32.min = 0 from rfl, show IntKind.u32.max = 4294967295 from rfl] using h2
  refine ⟨2200, topZoneBook_ev w0 (fun x hx => ?_) w2⟩
  have := h1.2 x hx
  simpa only [Lit.wf, Bool.and_eq_true, decide_eq_true_eq, show IntKind.u16.min = 0 from rfl, show IntKind.u16.max = 65535 from rfl] using this
end Go.Proofs.Ytmgcinejodpopaa.Sy
