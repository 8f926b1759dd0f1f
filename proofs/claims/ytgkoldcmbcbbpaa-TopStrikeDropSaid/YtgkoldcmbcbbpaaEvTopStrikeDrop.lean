/- The weight of a strike: what the law computes is true. -/
import Derived.Test.YtgkoldcmbcbbpaaGTopStrikeDrop
import Derived.Test.YtgkoldcmbcbbpaaEvDrop
import Derived.Test.YtgkoldcmbcbbpaaEvArm
set_option linter.unusedSimpArgs false
set_option linter.unusedVariables false
namespace Go.Proofs.Ytgkoldcmbcbbpaa.Sy
open Go.RowKit
set_option maxRecDepth 100000

theorem pubDrop_sd : ev_top_pubDrop 2200 = some true := by decide +kernel
theorem pubStrike_sd : ev_top_pubStrike 2200 = some true := by decide +kernel
theorem armStriking_l {n : Nat} {bl : List Int} (hl : bl.length = 24) (hb : ∀ x ∈ bl, 0 ≤ x ∧ x ≤ 12) {a L : Int} (ha : 0 ≤ a ∧ a ≤ 9) (z : Int) (w : List (Int × Int)) : ∀ (k m i : Nat), i + k = 24 → k < m → ev_top_armStriking_l0 n a m (i : Int) bl z w L ((bl.take i).map fun x => (a * x, a * x)) = some (L, bl.map fun x => (a * x, a * x)) := by
  intro k
  induction k with
  | zero =>
    intro m i hi hm
    cases m with
    | zero => omega
    | succ m => rw [ev_top_armStriking_l0, cond_if, if_neg (by simp; omega), List.take_of_length_le (by omega)]
  | succ k ih =>
    intro m i hi hm
    cases m with
    | zero => omega
    | succ m =>
      have hlt : i < bl.length := by omega
      obtain ⟨g0, g1⟩ := hb _ (List.getElem_mem hlt)
      have h1 : 0 ≤ a * bl[i] ∧ a * bl[i] ≤ 108 := by
        have := Int.mul_nonneg ha.1 g0
        have h2 : a * bl[i] ≤ 9 * 12 := Int.mul_le_mul ha.2 g1 g0 (by decide)
        omega
      rw [ev_top_armStriking_l0, cond_if, if_pos (by simp; omega), idx_nat (List.getElem?_eq_getElem hlt), chk_of (in64_of (by omega)), chk_of (in64_of (by omega)), bind_of (show ev_top_pubSpan n _ _ = _ from rfl), chk_of (room_iff.2 (by simp; omega)), chk_of (in64_of (by omega))]
      have := ih m (i + 1) (by omega) (by omega)
      rw [← this]
      congr 1
      rw [List.take_add_one, List.getElem?_eq_getElem hlt, List.map_append]
      rfl
/-- what is used before an hour -/
def preU (us : List Int) : Nat → Int
  | 0 => 0
  | h + 1 => preU us h + us.getD (h % 24) 0
theorem getD_nn {us : List Int} (h : ∀ x ∈ us, 0 ≤ x) (i : Nat) : 0 ≤ us.getD i 0 := by
  rw [List.getD_eq_getElem?_getD]
  cases he : us[i]? with
  | none => simp
  | some x => simpa using h x (List.mem_of_getElem? he)
theorem preU_mono {us : List Int} (h : ∀ x ∈ us, 0 ≤ x) {i j : Nat} (hij : i ≤ j) : preU us i ≤ preU us j := by
  induction j with
  | zero => have : i = 0 := by omega
            subst this; exact Int.le_refl _
  | succ j ih =>
    rcases Nat.lt_or_ge i (j + 1) with h1 | h1
    · have := ih (by omega); have := getD_nn h (j % 24); simp only [preU]; omega
    · have : i = j + 1 := by omega
      subst this; exact Int.le_refl _
theorem preU_add (us : List Int) (q s : Nat) : preU us (24 * q + s) = q * preU us 24 + preU us s := by
  have key : ∀ s, preU us (24 + s) = preU us 24 + preU us s := by
    intro s
    induction s with
    | zero => simp [preU]
    | succ s ih =>
      have h1 : preU us (24 + (s + 1)) = preU us (24 + s) + us.getD ((24 + s) % 24) 0 := rfl
      have h2 : preU us (s + 1) = preU us s + us.getD (s % 24) 0 := rfl
      rw [h1, h2, ih, show (24 + s) % 24 = s % 24 by omega]; omega
  induction q with
  | zero => simp
  | succ q ih => rw [show 24 * (q + 1) + s = 24 + (24 * q + s) by omega, key, ih]; rw [Int.natCast_succ, Int.add_mul]; omega
theorem goesG_spec {us : List Int} (h : ∀ x ∈ us, 0 ≤ x) : ∀ (k : Nat) (left : Int) (i : Nat), 0 ≤ left → i ≤ goesG us k left i ∧ goesG us k left i ≤ i + k ∧ preU us (goesG us k left i) - preU us i ≤ left ∧ (goesG us k left i < i + k → left < preU us (goesG us k left i + 1) - preU us i) := by
  intro k
  induction k with
  | zero => intro left i h0; simp only [goesG]; exact ⟨by omega, by omega, by omega, fun h => by omega⟩
  | succ k ih =>
    intro left i h0
    simp only [goesG]
    split
    · rename_i hc
      obtain ⟨h1, h2, h3, h4⟩ := ih (left - us.getD (i % 24) 0) (i + 1) (by omega)
      simp only [preU] at h3 h4
      exact ⟨by omega, by omega, by omega, fun hh => by have := h4 (by omega); simp only [preU]; omega⟩
    · rename_i hc
      refine ⟨by omega, by omega, by omega, fun _ => ?_⟩
      simp only [preU]; omega
theorem preU_sum {us : List Int} (hl : us.length = 24) : preU us 24 = us.sum := by
  have key : ∀ k, k ≤ 24 → preU us k = (us.take k).sum := by
    intro k
    induction k with
    | zero => intro _; simp [preU]
    | succ k ih =>
      intro hk
      rw [preU, ih (by omega), show k % 24 = k by omega, List.take_add_one, List.getD_eq_getElem?_getD, List.getElem?_eq_getElem (by omega), List.sum_append]
      simp
  rw [key 24 (by omega), List.take_of_length_le (by omega)]
theorem goesG_days {us : List Int} (hl : us.length = 24) (h : ∀ x ∈ us, 0 ≤ x) {D L : Int} (hD : us.sum = D) (hp : 0 < D) (h0 : 0 ≤ L) (hr : goesG us 2000 L 0 < 2000) : ((goesG us 2000 L 0 : Nat) : Int) / 24 = L / D := by
  obtain ⟨_, _, h3, h4⟩ := goesG_spec h 2000 L 0 h0
  have h5 := h4 (by omega)
  obtain ⟨r, hrr⟩ : ∃ r, r = goesG us 2000 L 0 := ⟨_, rfl⟩
  rw [← hrr] at h3 h5 ⊢
  have e0 : preU us 0 = 0 := rfl
  have h24 : preU us 24 = D := by rw [preU_sum hl, hD]
  have e1 : preU us r = (r / 24 : Nat) * D + preU us (r % 24) := by
    have := preU_add us (r / 24) (r % 24)
    rw [Nat.div_add_mod, h24] at this; exact this
  have e2 : preU us (r + 1) = (r / 24 : Nat) * D + preU us (r % 24 + 1) := by
    have := preU_add us (r / 24) (r % 24 + 1)
    rw [← Nat.add_assoc, Nat.div_add_mod, h24] at this; exact this
  have m1 : 0 ≤ preU us (r % 24) := preU_mono h (Nat.zero_le _)
  have m2 : preU us (r % 24 + 1) ≤ D := by rw [← h24]; exact preU_mono h (by have := Nat.mod_lt r (show 0 < 24 by decide); omega)
  have : L / D = ((r / 24 : Nat) : Int) := by
    rw [Int.ediv_eq_iff_of_pos hp]
    generalize ((r / 24 : Nat) : Int) = q at *
    omega
  rw [this]; omega
/-- the law's own search for the hour -/
theorem sd_l {n : Nat} {r6 : List Int × Bool} {per3 : Int} {r9 : Int × Int × Int} {r7 : Int × Int} {r8 : Int × List (Int × Int)} {line4 : Int} {a : Int} (ha : 1 + Int.tmod per3 9 = a) (ha2 : 0 ≤ a ∧ a ≤ 9) (hl : r6.1.length = 24) (hb : ∀ x ∈ r6.1, 0 ≤ x ∧ x ≤ 12) : ∀ (k m : Nat) (left : Int) (h : Nat), h + k = 2000 → k < m → 0 ≤ left → left ≤ 3000 →
    ev_top_TopStrikeDrop_l2 n r6 per3 r9 r7 r8 line4 m left (h : Int) = (cond (r9.1 != ((goesG (r6.1.map fun x => a * x) k left h : Nat) : Int)) (some false) (cond (decide (((goesG (r6.1.map fun x => a * x) k left h : Nat) : Int) < 2000)) (chk (in64 (Int.tdiv ((goesG (r6.1.map fun x => a * x) k left h : Nat) : Int) 24)) <| chk (in64 (a * r7.1)) <| chk ((a * r7.1) != 0) <| chk (in64 (Int.tdiv r8.1 (a * r7.1))) <| cond ((Int.tdiv ((goesG (r6.1.map fun x => a * x) k left h : Nat) : Int) 24) != (Int.tdiv r8.1 (a * r7.1))) (some false) (ev_top_TopStrikeDrop_j3 n line4 r8 per3 r7)) (ev_top_TopStrikeDrop_j3 n line4 r8 per3 r7))) := by
  intro k
  induction k with
  | zero =>
    intro m left h hk hm _ _
    cases m with
    | zero => omega
    | succ m =>
      rw [ev_top_TopStrikeDrop_l2, ha, cond_if (b := decide ((h : Int) < 2000)), if_neg (by simp; omega)]
      rfl
  | succ k ih =>
    intro m left h hk hm h0 h1
    cases m with
    | zero => omega
    | succ m =>
      have hlt : h % 24 < r6.1.length := by rw [hl]; exact Nat.mod_lt _ (by decide)
      obtain ⟨g0, g1⟩ := hb _ (List.getElem_mem hlt)
      have hg : (r6.1.map fun x => a * x).getD (h % 24) 0 = a * r6.1[h % 24] := by
        rw [List.getD_eq_getElem?_getD, List.getElem?_map, List.getElem?_eq_getElem hlt]; rfl
      have h2 : 0 ≤ a * r6.1[h % 24] ∧ a * r6.1[h % 24] ≤ 108 := by
        have := Int.mul_nonneg ha2.1 g0
        have h3 : a * r6.1[h % 24] ≤ 9 * 12 := Int.mul_le_mul ha2.2 g1 g0 (by decide)
        omega
      have e : Int.tmod (h : Int) 24 = ((h % 24 : Nat) : Int) := by rw [Int.tmod_eq_emod_of_nonneg (by omega)]; rfl
      rw [ev_top_TopStrikeDrop_l2, ha, cond_if (b := decide ((h : Int) < 2000)), if_pos (by simp; omega), e, idx_nat (List.getElem?_eq_getElem hlt), chk_of (in64_of (by omega)), cond_if (b := decide (_ ≤ left))]
      simp only [goesG, hg]
      by_cases hc : a * r6.1[h % 24] ≤ left
      · rw [if_pos (by simpa using hc), if_pos hc, chk_of (in64_of (by omega)), chk_of (in64_of (by omega)), chk_of (in64_of (by omega))]
        exact ih m (left - a * r6.1[h % 24]) (h + 1) (by omega) (by omega) (by omega) (by omega)
      · rw [if_neg (by simpa using hc), if_neg hc]
theorem rig_l1 {n : Nat} {hs : List (Int × Int)} {D : Int} (hD : 1 ≤ D ∧ D ≤ 10) (hh : OkH hs) (p l v : Int) : ∀ (k m i : Nat), i + k = 24 → k < m → ev_drop_Rig_l1 n hs m (D * ((hs.take i).map (·.2)).sum) (i : Int) p D l v hs = ev_drop_Rig_l2 n p (D * (hs.map (·.2)).sum) l v n 0 := by
  have hlen := hh.len
  have hsum : ∀ i, i ≤ 24 → 0 ≤ ((hs.take i).map (·.2)).sum ∧ ((hs.take i).map (·.2)).sum ≤ 3000 * i := by
    intro i
    induction i with
    | zero => intro _; simp
    | succ i ih =>
      intro hi
      have hlt : i < hs.length := by omega
      obtain ⟨q0, q1⟩ := ih (by omega)
      obtain ⟨g0, g1, g2⟩ := hh.ok _ (List.getElem_mem hlt)
      rw [List.take_add_one, List.getElem?_eq_getElem hlt, List.map_append, List.sum_append]
      simp only [Option.toList_some, List.map_cons, List.map_nil, List.sum_cons, List.sum_nil]
      omega
  intro k
  induction k with
  | zero =>
    intro m i hi hm
    cases m with
    | zero => omega
    | succ m => rw [ev_drop_Rig_l1, cond_if, if_neg (by simp; omega), List.take_of_length_le (by omega)]
  | succ k ih =>
    intro m i hi hm
    cases m with
    | zero => omega
    | succ m =>
      have hlt : i < hs.length := by omega
      obtain ⟨g0, g1, g2⟩ := hh.ok _ (List.getElem_mem hlt)
      obtain ⟨q0, q1⟩ := hsum i (by omega)
      have hx : 0 ≤ D * hs[i].2 ∧ D * hs[i].2 ≤ 30000 := by
        have := Int.mul_nonneg (show 0 ≤ D by omega) (show 0 ≤ hs[i].2 by omega)
        have h3 : D * hs[i].2 ≤ 10 * 3000 := Int.mul_le_mul hD.2 g2 (by omega) (by decide)
        omega
      have hy : 0 ≤ D * ((hs.take i).map (·.2)).sum ∧ D * ((hs.take i).map (·.2)).sum ≤ 720000 := by
        have := Int.mul_nonneg (show 0 ≤ D by omega) q0
        have h3 : D * ((hs.take i).map (·.2)).sum ≤ 10 * 72000 := Int.mul_le_mul hD.2 (by omega) q0 (by decide)
        omega
      rw [ev_drop_Rig_l1, cond_if, if_pos (by simp; omega), idx_nat (List.getElem?_eq_getElem hlt), chk_of (in64_of (by omega)), chk_of (in64_of (by omega)), chk_of (in64_of (by omega))]
      have := ih m (i + 1) (by omega) (by omega)
      rw [← this]
      congr 1
      rw [List.take_add_one, List.getElem?_eq_getElem hlt, List.map_append, List.sum_append, Int.mul_add]
      simp
theorem rig_l2 {n : Nat} {need : Int} (h0 : 0 ≤ need) : ∀ (k m i : Nat), i + k = 8 → k < m → (i ≠ 0 → 300 * (i : Int) < need) → ∃ r : Int × Int × Int, ev_drop_Rig_l2 n 300 need 1 8 m (i : Int) = some r ∧ (need ≤ 2400 → r.2.2 = 0 ∧ r.2.1 = 300 * r.1 ∧ 1 ≤ r.1 ∧ r.1 ≤ 8 ∧ need ≤ r.2.1 ∧ (r.1 = 1 ∨ r.2.1 - 300 < need)) ∧ (2400 < need → r = (0, 0, 7)) := by
  intro k
  induction k with
  | zero =>
    intro m i hi hm hj
    cases m with
    | zero => omega
    | succ m =>
      rw [ev_drop_Rig_l2, cond_if, if_neg (by simp; omega)]
      exact ⟨_, rfl, fun h => by have := hj (by omega); omega, fun _ => rfl⟩
  | succ k ih =>
    intro m i hi hm hj
    cases m with
    | zero => omega
    | succ m =>
      rw [ev_drop_Rig_l2, cond_if, if_pos (by simp; omega), chk_of (in64_of (by omega)), chk_of (in64_of (by omega)), chk_of (in64_of (by omega)), cond_if]
      by_cases hc : need ≤ ((i : Int) + 1) * 300
      · rw [if_pos (by simpa using hc), cond_if, if_pos (by simp; omega), chk_of (in64_of (by omega)), cond_if, if_pos (by simp; omega)]
        refine ⟨_, rfl, fun h => ⟨rfl, by simp only; omega, by simp only; omega, by simp only; omega, hc, ?_⟩, fun h => by omega⟩
        simp only
        by_cases hi0 : i = 0
        · left; omega
        · right; have := hj hi0; omega
      · rw [if_neg (by simpa using hc), chk_of (in64_of (by omega))]
        exact ih m (i + 1) (by omega) (by omega) (fun _ => by omega)
theorem TopStrikeDrop_evx {quiet1 : Int} {quiet2 : Int} {per3 : Int} {line4 : Int} (h0 : (Lit.int .u8 quiet1).wf = true ∧ (Lit.int .u8 quiet2).wf = true) (h1 : (Lit.int .u8 per3).wf = true) (h2 : (Lit.int .u16 line4).wf = true) :
    ∃ n, ev_top_TopStrikeDrop n quiet1 quiet2 per3 line4 = some true := by
  have w1 := wf8.1 h1
  have w2 : 0 ≤ line4 ∧ line4 ≤ 65535 := by
    simpa only [Lit.wf, Bool.and_eq_true, decide_eq_true_eq, show IntKind.u16.min = 0 from rfl, show IntKind.u16.max = 65535 from rfl] using h2
  refine ⟨2200, ?_⟩
  obtain ⟨bl, hB, hD, hl, hb, hp⟩ := arm_of (a := quiet1.toNat % 24) (b := quiet2.toNat % 9) (Nat.mod_lt _ (by decide)) (Nat.mod_lt _ (by decide))
  obtain ⟨d, hd⟩ : ∃ d, d = bl.sum := ⟨_, rfl⟩
  rw [← hd] at hD hp
  have e1 : Int.tmod per3 9 = per3 % 9 := Int.tmod_eq_emod_of_nonneg w1.1
  have e2 : Int.tmod line4 3000 = line4 % 3000 := Int.tmod_eq_emod_of_nonneg w2.1
  have e3 : Int.tmod line4 10 = line4 % 10 := Int.tmod_eq_emod_of_nonneg w2.1
  obtain ⟨a, ha⟩ : ∃ a, 1 + Int.tmod per3 9 = a := ⟨_, rfl⟩
  obtain ⟨L, hL⟩ : ∃ L, 1 + Int.tmod line4 3000 = L := ⟨_, rfl⟩
  obtain ⟨days, hdays⟩ : ∃ D, 1 + Int.tmod line4 10 = D := ⟨_, rfl⟩
  have ra : 1 ≤ a ∧ a ≤ 9 := by omega
  have rL : 1 ≤ L ∧ L ≤ 3000 := by omega
  have rD : 1 ≤ days ∧ days ≤ 10 := by omega
  have hus : ∀ x ∈ bl.map (fun x => a * x), 0 ≤ x ∧ x ≤ 108 := fun x hx => by
    obtain ⟨y, hy, rfl⟩ := List.mem_map.1 hx
    obtain ⟨g0, g1⟩ := hb y hy
    have := Int.mul_nonneg (show 0 ≤ a by omega) g0
    have h3 : a * y ≤ 9 * 12 := Int.mul_le_mul ra.2 g1 g0 (by decide)
    omega
  have hh : OkH (bl.map fun x => (a * x, a * x)) := ⟨by simp [hl], fun x hx => by
    obtain ⟨y, hy, rfl⟩ := List.mem_map.1 hx
    have := hus (a * y) (List.mem_map.2 ⟨y, hy, rfl⟩)
    simp only; omega⟩
  have hmap1 : (bl.map fun x => (a * x, a * x)).map (·.1) = bl.map fun x => a * x := by simp
  have hmap2 : (bl.map fun x => (a * x, a * x)).map (·.2) = bl.map fun x => a * x := by simp
  have hsum : (bl.map fun x => a * x).sum = a * d := by
    rw [hd]
    clear hB hD hl hb hp hd hus hh hmap1 hmap2
    induction bl with
    | nil => simp
    | cons x l ih => simp only [List.map_cons, List.sum_cons, ih, Int.mul_add]
  have hd144 : d ≤ 288 := by
    rw [hd]
    have : ∀ (l : List Int), (∀ x ∈ l, 0 ≤ x ∧ x ≤ 12) → l.sum ≤ 12 * l.length := by
      intro l
      induction l with
      | nil => intro _; simp
      | cons x l ih =>
        intro h
        have h1 := h x (by simp)
        have h2 := ih fun y hy => h y (by simp [hy])
        simp only [List.sum_cons, List.length_cons]; omega
    have := this bl hb
    rw [hl] at this; omega
  have had : 0 < a * d ∧ a * d ≤ 2592 := by
    have := Int.mul_pos (show 0 < a by omega) hp
    have h3 : a * d ≤ 9 * 288 := Int.mul_le_mul ra.2 hd144 (by omega) (by decide)
    omega
  have hadd : 0 < a * d * days ∧ a * d * days ≤ 25920 := by
    have := Int.mul_pos had.1 (show 0 < days by omega)
    have h3 : a * d * days ≤ 2592 * 10 := Int.mul_le_mul had.2 rD.2 (by omega) (by decide)
    omega
  have hstr : ev_top_armStriking 2200 bl L a = some (L, bl.map fun x => (a * x, a * x)) := by
    have := armStriking_l (n := 2200) hl hb (a := a) (L := L) (by omega) 0 [] 24 2200 0 (by omega) (by omega)
    exact this
  rw [ev_top_TopStrikeDrop, bind_of (armQuiet_ev (wf8.1 h0.1) (wf8.1 h0.2)), chk_of (in64_of (by omega)), chk_of (in64_of (by omega)), bind_of hB, bind_of hD, cond_if, if_neg (by simp), cond_if, if_neg (by simp),
    ev_top_TopStrikeDrop_j0, chk_of (in64_of (by omega)), ha, hL, chk_of (in64_of (by omega)), bind_of hstr,
    bind_of (ev_Goes (by decide) rL hh (by omega) (Int.le_refl _)), hmap1, hmap2, cond_if, if_neg (by simp), cond_if, if_neg (by simp), ev_top_TopStrikeDrop_j1]
  refine Eq.trans (sd_l (a := a) ha (by omega) hl hb 2000 2200 L 0 (by omega) (by omega) (by omega) (by omega)) ?_
  have htail : ev_top_TopStrikeDrop_j3 2200 line4 (L, bl.map fun x => (a * x, a * x)) per3 (d, 0) = some true := by
    have hare := ev_areHours (n := 2200) (by decide) hh
    obtain ⟨r, hr, hr1, hr2⟩ := rig_l2 (n := 2200) (need := days * (a * d)) (Int.mul_nonneg (by omega) (by omega)) 8 2200 0 (by omega) (by omega) (fun h => absurd rfl h)
    have hneed : days * (a * d) = a * d * days := Int.mul_comm _ _
    rw [hneed] at hr hr1 hr2
    have hrig : ev_drop_Rig 2200 300 days 1 8 (bl.map fun x => (a * x, a * x)) = some r := by
      rw [ev_drop_Rig, bind_of (wi_drop (by simp) (by simp)), cond_if, if_neg (by simp; omega), bind_of hare, cond_if, if_neg (by simp), ev_drop_Rig_j0]
      have := rig_l1 (n := 2200) rD hh 300 1 8 24 2200 0 (by omega) (by omega)
      rw [hmap2, hsum, hneed] at this
      simp only [List.take_zero, List.map_nil, List.sum_nil, Int.mul_zero] at this
      rw [← hr]; exact this
    rw [ev_top_TopStrikeDrop_j3, chk_of (in64_of (by omega)), hdays, ha, chk_of (in64_of (by omega)), bind_of hrig, chk_of (in64_of (by simp only; omega)), chk_of (in64_of (by simp only; omega)), cond_if]
    by_cases hc : 2400 < a * d * days
    · have := hr2 hc
      subst this
      rw [if_pos (by simpa using hc)]
      simp only [BEq.rfl, cond_true, bind_of pubDrop_sd, bind_of pubStrike_sd]
    · obtain ⟨q1, q2, q3, q4, q5, q6⟩ := hr1 (by omega)
      rw [if_neg (by simpa using hc), cond_if, if_pos (by simpa using q1), chk_of (in64_of (by omega)), cond_if, if_pos (by simpa using q2), chk_of (in64_of (by simp only; omega)), chk_of (in64_of (by simp only; omega)), cond_if, if_pos (by simpa using q5), cond_if]
      by_cases hc1 : r.1 = 1
      · rw [if_pos (by simpa using hc1)]
        simp only [bind_of pubDrop_sd, bind_of pubStrike_sd, cond_true]
      · rw [if_neg (by simpa using hc1), chk_of (in64_of (by omega)), chk_of (in64_of (by simp only; omega)), chk_of (in64_of (by simp only; omega)), cond_if, if_pos (by simp; omega)]
        simp only [bind_of pubDrop_sd, bind_of pubStrike_sd, cond_true]
  rw [cond_if, if_neg (by simp), htail, cond_if]
  obtain ⟨g, hg⟩ : ∃ g, g = goesG (bl.map fun x => a * x) 2000 L 0 := ⟨_, rfl⟩
  have hgd : g < 2000 → (g : Int) / 24 = L / (a * d) := fun h => by
    rw [hg] at h ⊢
    exact goesG_days (by simp [hl]) (fun x hx => (hus x hx).1) hsum had.1 (by omega) h
  rw [← hg]
  by_cases hc : g < 2000
  · have hq := Int.ediv_le_self (a := L) (a * d) (by omega)
    have hq0 := Int.ediv_nonneg (show 0 ≤ L by omega) (show 0 ≤ a * d by omega)
    have et1 : Int.tdiv L (a * d) = L / (a * d) := Int.tdiv_eq_ediv_of_nonneg (by omega)
    have et2 : Int.tdiv (g : Int) 24 = (g : Int) / 24 := Int.tdiv_eq_ediv_of_nonneg (by omega)
    rw [if_pos (by simp; omega)]
    simp only [et1, et2]
    rw [chk_of (in64_of (by omega)), chk_of (in64_of (by omega)), chk_of (by simp; omega), chk_of (in64_of (by omega)), cond_if, if_neg (by simp; exact hgd hc)]
  · rw [if_neg (by simp; omega)]
end Go.Proofs.Ytgkoldcmbcbbpaa.Sy
