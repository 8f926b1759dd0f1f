/- The weight of a chime: what the law computes is true. -/
import Derived.Test.YtgkoldcmbcbbpaaCdGTopChimeDrop
import Derived.Test.YtgkoldcmbcbbpaaCdEvChime
import Derived.Test.YtgkoldcmbcbbpaaCdEvPubChime
import Derived.Test.YtgkoldcmbcbbpaaCdEvDrop
set_option linter.unusedSimpArgs false
set_option linter.unusedVariables false
namespace Go.Proofs.Ytgkoldcmbcbbpaa.Sy
open Go.RowKit
set_option maxRecDepth 100000
theorem pubDrop_cd : ev_top_pubDrop 12000 = some true := by decide +kernel
structure GoodP (S : Int) (ps : List (Int × Int)) : Prop where
  pin : ∀ p ∈ ps, p.1 = 0 ∧ 0 ≤ p.2 ∧ p.2 < 4 * S
  nd : ps.Nodup
theorem ring_l1 {n : Nat} {pins : List Int} (hp : ∀ x ∈ pins, 0 ≤ x ∧ x ≤ 255) {S : Int} (hS : 1 ≤ S ∧ S ≤ 8) {a b c : Int} {l40 runs : List Int} {l41 l42 ham : List (Int × Int)} : ∀ (k m i : Nat) (mp : List (Int × Bool)) (ps : List (Int × Int)), i + k = 20 → k < m → (∀ key, (mlook mp key).getD false = true ↔ (0, key) ∈ ps) → GoodP S ps → ps.length ≤ i →
    ∃ ps', ev_top_armRing_l1 n m (i : Int) pins a b c (4 * S) S 1 mp l40 l41 l42 runs ham ps = some (4 * S, S, runs, 1, ham, ps') ∧ GoodP S ps' ∧ ps'.length ≤ 20 := by
  intro k
  induction k with
  | zero =>
    intro m i mp ps hi hm hmp hg hl;obtain ⟨m, rfl⟩ : ∃ m', m = m' + 1 := ⟨m - 1, by omega⟩;refine ⟨ps, ?_, hg, by omega⟩;rw [ev_top_armRing_l1, cond_if]
    split
    · rw [cond_if, if_neg (by simp; omega)]
    · rfl
  | succ k ih =>
    intro m i mp ps hi hm hmp hg hl;obtain ⟨m, rfl⟩ : ∃ m', m = m' + 1 := ⟨m - 1, by omega⟩
    by_cases hlt : i < pins.length
    · obtain ⟨q0, q1⟩ := hp _ (List.getElem_mem hlt);have et : Int.tmod pins[i] (4 * S) = pins[i] % (4 * S) := Int.tmod_eq_emod_of_nonneg q0;have hm0 := Int.emod_nonneg pins[i] (show 4 * S ≠ 0 by omega);have hm1 := Int.emod_lt_of_pos pins[i] (show 0 < 4 * S by omega);rw [ev_top_armRing_l1, cond_if, if_pos (decide_eq_true (by omega)), cond_if, if_pos (decide_eq_true (by omega)), ev_top_armRing_j2, idx_nat (List.getElem?_eq_getElem hlt), chk_of (in64_of (by omega)), chk_of (by simp; omega), cond_if, et];have ei : (i : Int) + 1 = ((i + 1 : Nat) : Int) := by omega
      by_cases hc : (mlook mp (pins[i] % (4 * S))).getD false = true
      · rw [if_neg (by rw [hc]; decide), chk_of (in64_of (by omega)), ei];exact ih m (i + 1) mp ps (by omega) (by omega) hmp hg (by omega)
      · have hno : (0, pins[i] % (4 * S)) ∉ ps := fun h => hc ((hmp _).2 h)
        rw [if_pos (by simpa using hc), chk_of (room_iff.2 (by simp; omega)), chk_of (in64_of (by omega)), ei];refine ih m (i + 1) _ _ (by omega) (by omega) (fun key => ?_) ⟨fun p hpm => ?_, ?_⟩ (by simp; omega)
        · rw [mlook_put]
          by_cases e : pins[i] % (4 * S) = key
          · subst e; simp
          · have e2 : (pins[i] % (4 * S) == key) = false := beq_eq_false_iff_ne.2 e;rw [e2, if_neg (by decide), hmp];simp only [List.mem_append, List.mem_singleton, Prod.mk.injEq, true_and];exact ⟨.inl, fun h => h.resolve_right fun h => e h.symm⟩
        · rcases List.mem_append.1 hpm with h | h
          · exact hg.pin p h
          · rw [List.mem_singleton] at h; subst h; exact ⟨rfl, hm0, hm1⟩
        · rw [List.nodup_append];refine ⟨hg.nd, by simp, fun x hx y hy e => ?_⟩;rw [List.mem_singleton] at hy; subst hy; subst e; exact hno hx
    · refine ⟨ps, ?_, hg, by omega⟩;rw [ev_top_armRing_l1, cond_if, if_neg (by simp; omega)]
theorem armRing_ev {n : Nat} (hn : 100 < n) {v1 v2 v3 v4 v5 v6 : Int} (h1 : 0 ≤ v1 ∧ v1 ≤ 255) (h2 : 0 ≤ v2 ∧ v2 ≤ 255) (h3 : 0 ≤ v3 ∧ v3 ≤ 255) (h4 : 0 ≤ v4 ∧ v4 ≤ 255) (h5 : 0 ≤ v5 ∧ v5 ≤ 255) (h6 : 0 ≤ v6 ∧ v6 ≤ 255) {pins : List Int} (hp : ∀ x ∈ pins, 0 ≤ x ∧ x ≤ 255) :
    ∃ S runs ps, OkW S runs (v2 % 16) ps ∧ ev_top_armRing n v1 v2 v3 v4 v5 v6 pins = some (4 * S, S, runs, 1, [(v2 % 16, 0)], ps) := by
  have et1 : Int.tmod v1 6 = v1 % 6 := Int.tmod_eq_emod_of_nonneg h1.1;have et2 : Int.tmod v2 16 = v2 % 16 := Int.tmod_eq_emod_of_nonneg h2.1;obtain ⟨S, hS, hx⟩ : ∃ S : Int, (S = 1 ∨ S = 2 ∨ S = 3 ∨ S = 4 ∨ S = 6 ∨ S = 8) ∧ ([1, 2, 3, 4, 6, 8] : List Int)[(v1 % 6).toNat]? = some S := by
    have : v1 % 6 = 0 ∨ v1 % 6 = 1 ∨ v1 % 6 = 2 ∨ v1 % 6 = 3 ∨ v1 % 6 = 4 ∨ v1 % 6 = 5 := by omega
    rcases this with e | e | e | e | e | e <;> rw [e]
    · exact ⟨1, by decide, rfl⟩
    · exact ⟨2, by decide, rfl⟩
    · exact ⟨3, by decide, rfl⟩
    · exact ⟨4, by decide, rfl⟩
    · exact ⟨6, by decide, rfl⟩
    · exact ⟨8, by decide, rfl⟩
  have bS : 1 ≤ S ∧ S ≤ 8 := by omega
  have em : ∀ v : Int, 0 ≤ v ∧ v ≤ 255 → Int.tmod v S = v % S ∧ 0 ≤ v % S ∧ v % S < S := fun v hv => ⟨Int.tmod_eq_emod_of_nonneg hv.1, Int.emod_nonneg _ (by omega), Int.emod_lt_of_pos _ (by omega)⟩
  obtain ⟨e3, a3, b3⟩ := em v3 h3;obtain ⟨e4, a4, b4⟩ := em v4 h4;obtain ⟨e5, a5, b5⟩ := em v5 h5;obtain ⟨e6, a6, b6⟩ := em v6 h6;obtain ⟨m, hm⟩ : ∃ m, n = m + 5 := ⟨n - 5, by omega⟩;obtain ⟨ps, q1, q2, q3⟩ := ring_l1 (n := n) hp bS (a := 0) (b := 0) (c := 0) (l40 := []) (l41 := []) (l42 := []) (runs := [1 + v3 % S, 1 + v4 % S, 1 + v5 % S, 1 + v6 % S]) (ham := [(v2 % 16, 0)]) 20 n 0 [] [] (by omega) (by omega) (fun key => by simp [mlook_nil]) ⟨fun p h => by simp at h, by simp⟩ (by simp);refine ⟨S, [1 + v3 % S, 1 + v4 % S, 1 + v5 % S, 1 + v6 % S], ps, ⟨hS, rfl, fun x hxm => ?_, by omega, q2.pin, q2.nd, q3⟩, ?_⟩
  · simp only [List.mem_cons, List.not_mem_nil, or_false] at hxm
    omega
  · have hl0 : ev_top_armRing_l0 n (m + 5) 2 pins v1 v2 v3 v4 v5 v6 0 0 [] 0 [] [] (4 * S) S [] 1 [] [(v2 % 16, 0)] = some (4 * S, S, [1 + v3 % S, 1 + v4 % S, 1 + v5 % S, 1 + v6 % S], 1, [(v2 % 16, 0)], ps) := by
      rw [ev_top_armRing_l0, cond_if, if_pos (by decide), chk_of (by decide), idx_of (x := v3) (by decide) (by rfl), chk_of (in64_of (by omega)), chk_of (by simp; omega), e3, chk_of (in64_of (by omega)), chk_of (room_iff.2 (by simp)), chk_of (in64_of (by omega)),
        ev_top_armRing_l0, cond_if, if_pos (by decide), chk_of (by decide), idx_of (x := v4) (by decide) (by rfl), chk_of (in64_of (by omega)), chk_of (by simp; omega), e4, chk_of (in64_of (by omega)), chk_of (room_iff.2 (by simp)), chk_of (in64_of (by omega)),
        ev_top_armRing_l0, cond_if, if_pos (by decide), chk_of (by decide), idx_of (x := v5) (by decide) (by rfl), chk_of (in64_of (by omega)), chk_of (by simp; omega), e5, chk_of (in64_of (by omega)), chk_of (room_iff.2 (by simp)), chk_of (in64_of (by omega)),
        ev_top_armRing_l0, cond_if, if_pos (by decide), chk_of (by decide), idx_of (x := v6) (by decide) (by rfl), chk_of (in64_of (by omega)), chk_of (by simp; omega), e6, chk_of (in64_of (by omega)), chk_of (room_iff.2 (by simp)), chk_of (in64_of (by omega)),
        ev_top_armRing_l0, cond_if, if_neg (by decide)]
      exact q1
    rw [← hm] at hl0;rw [ev_top_armRing, et1, chk_of (by simp; omega), idx_of (by omega) hx, chk_of (in64_of (by omega)), chk_of (in64_of (by omega)), et2];exact hl0
section
variable {S : Int} {runs : List Int} {bell : Int} {pins : List (Int × Int)} (W : OkW S runs bell pins)
def prefW (runs : List Int) (k : Nat) : Int := (runs.take k).sum
include W in
theorem pref_step {k : Nat} (hk : k < 4) : prefW runs (k + 1) = prefW runs k + runs.getD k 0 ∧ 1 ≤ runs.getD k 0 ∧ runs.getD k 0 ≤ S := by
  have hl := W.len;have hg : runs.getD k 0 = runs[k] := by rw [List.getD_eq_getElem?_getD, List.getElem?_eq_getElem (by omega)]; rfl
  refine ⟨?_, by rw [hg]; exact W.run _ (List.getElem_mem _)⟩;unfold prefW;rw [List.take_add_one, List.getElem?_eq_getElem (by omega), List.sum_append, hg];simp
include W in
theorem pref_range : ∀ k : Nat, k ≤ 4 → 0 ≤ prefW runs k ∧ prefW runs k ≤ 8 * k := by
  have hS := W_S W;intro k
  induction k with
  | zero => intro _; simp [prefW]
  | succ k ih =>
    intro hk;have h1 := ih (by omega);obtain ⟨e, h2, h3⟩ := pref_step W (k := k) (by omega);rw [e]; omega
include W in
theorem blows_at {c : Int} (hc : 0 ≤ c) {r : Int} (hr : 1 ≤ r ∧ r ≤ S) : ((pins.countP (hitW S (c % S) r) : Nat) : Int) = gW S pins (c + r) - gW S pins c ∧ 0 ≤ gW S pins (c + r) - gW S pins c ∧ gW S pins (c + r) - gW S pins c ≤ 20 := by
  have h1 := gW_count W.hS hr hc (pins := pins) fun p hp => ⟨(W.pin p hp).2.1, (W.pin p hp).2.2⟩
  have h2 : pins.countP (hitW S (c % S) r) ≤ 20 := Nat.le_trans List.countP_le_length W.few
  omega
include W in
theorem drop_l1 {n : Nat} (hn : 100 < n) {v2 : Int} (hv : 0 ≤ v2 ∧ v2 ≤ 255) {u : Int} (hu : u = 1 + v2 / 16) {acc : List (Int × Int)} (ha : acc.length ≤ 30) {i11 i18 : Int} (h11 : 0 ≤ i11 ∧ i11 ≤ 5000) {h : Nat} (hh : h < 24) {C : Int} (hC : 0 ≤ C ∧ C ≤ 800)
    {K : Int → Int → Int → Int → Int → Int → Int → Int → (List (Int × Int)) → (List Int) → (List (Int × Int)) → (List (Int × Int)) → Option Bool} : ∀ (j m k : Nat), k + j = 4 → j < m → (0 ≤ gW S pins (C + prefW runs k) - gW S pins C ∧ gW S pins (C + prefW runs k) - gW S pins C ≤ 20 * k) →
    ev_top_TopChimeDrop_l1 n runs (4 * S) S 1 [(bell, 0)] pins v2 acc i11 (h : Int) i18 K m ((C + prefW runs k) % S) (C + prefW runs k) (gW S pins (C + prefW runs k) - gW S pins C) (k : Int)
      = K ((C + prefW runs 4) % S) (i11 + (gW S pins (C + prefW runs 4) - gW S pins C)) (C + prefW runs 4) ((h + 1 : Nat) : Int) (4 * S) S 1 i18 (acc ++ [(u * (gW S pins (C + prefW runs 4) - gW S pins C), u * (gW S pins (C + prefW runs 4) - gW S pins C))]) runs [(bell, 0)] pins := by
  have hS := W_S W;have hl := W.len;have et : Int.tdiv v2 16 = v2 / 16 := Int.tdiv_eq_ediv_of_nonneg hv.1;intro j
  induction j with
  | zero =>
    intro m k hk hm hb;obtain ⟨m, rfl⟩ : ∃ m', m = m' + 1 := ⟨m - 1, by omega⟩;obtain rfl : k = 4 := by omega
    have hpr : 0 ≤ u * (gW S pins (C + prefW runs 4) - gW S pins C) ∧ u * (gW S pins (C + prefW runs 4) - gW S pins C) ≤ 16 * 80 := ⟨Int.mul_nonneg (by omega) hb.1, Int.mul_le_mul (by omega) (by omega) hb.1 (by omega)⟩;rw [ev_top_TopChimeDrop_l1, cond_if, if_neg (by simp; omega), et, ← hu, chk_of (in64_of (by omega)), chk_of (in64_of (by omega)), ev_top_pubSpan];simp only [Option.bind];rw [chk_of (room_iff.2 (by simp; omega)), chk_of (in64_of (by omega)), chk_of (in64_of (by omega))]
    rfl
  | succ j ih =>
    intro m k hk hm hb;obtain ⟨m, rfl⟩ : ∃ m', m = m' + 1 := ⟨m - 1, by omega⟩;obtain ⟨e, r1, r2⟩ := pref_step W (k := k) (by omega);have hpk := pref_range W k (by omega);have hc0 : 0 ≤ C + prefW runs k := by omega
    have hs := Int.emod_nonneg (C + prefW runs k) (show S ≠ 0 by omega);have hs2 := Int.emod_lt_of_pos (C + prefW runs k) (show 0 < S by omega);obtain ⟨l, p1, p2⟩ := plays_w W hn (k := k) (by omega) ⟨hs, hs2⟩;obtain ⟨g1, g2, g3⟩ := blows_at W hc0 ⟨r1, r2⟩;rw [← p2] at g1;have hg : runs[k]? = some (runs.getD k 0) := by rw [List.getD_eq_getElem?_getD, List.getElem?_eq_getElem (by omega)]; rfl
    have em : Int.tmod ((C + prefW runs k) % S + runs.getD k 0) S = (C + prefW runs (k + 1)) % S := by
      rw [Int.tmod_eq_emod_of_nonneg (by omega), Int.emod_add_emod, e, Int.add_assoc]
    have e2 : C + prefW runs k + runs.getD k 0 = C + prefW runs (k + 1) := by rw [e]; omega
    have e3 : gW S pins (C + prefW runs k) - gW S pins C + (l.length : Int) = gW S pins (C + prefW runs (k + 1)) - gW S pins C := by rw [g1, e2]; omega
    rw [e2] at g2 g3;rw [ev_top_TopChimeDrop_l1, cond_if, if_pos (decide_eq_true (by omega)), bind_of p1, cond_if, if_neg (by simp)];simp only;rw [e3, chk_of (in64_of (by omega)), idx_nat hg, chk_of (in64_of (by omega)), chk_of (by simp; omega), e2, chk_of (in64_of (by omega)), chk_of (in64_of (by omega)), em, show (k : Int) + 1 = ((k + 1 : Nat) : Int) by omega];exact ih m (k + 1) (by omega) (by omega) (by omega)
end
theorem drop_l4 {hs : List (Int × Int)} (hh : OkH hs) {r : Int × Int × Int} : ∀ (k m : Nat) (left : Int) (h : Nat), h + k = 2000 → k < m → 0 ≤ left → left ≤ 3000 → r.1 = ((goesG (hs.map (·.1)) k left h : Nat) : Int) → ev_top_TopChimeDrop_l4 12000 hs r m left (h : Int) = some true := by
  intro k
  induction k with
  | zero =>
    intro m left h hk hm _ _ hr;obtain ⟨m, rfl⟩ : ∃ m', m = m' + 1 := ⟨m - 1, by omega⟩;rw [ev_top_TopChimeDrop_l4, cond_if, if_neg (by simp; omega), cond_if, if_pos (by rw [hr]; simp [goesG]), bind_of pubDrop_cd, cond_if, if_pos rfl, bind_of pubChime_pc]
  | succ k ih =>
    intro m left h hk hm h0 h1 hr;obtain ⟨m, rfl⟩ : ∃ m', m = m' + 1 := ⟨m - 1, by omega⟩;have hl := hh.len;have hlt : h % 24 < hs.length := by rw [hl]; exact Nat.mod_lt _ (by decide)
    have e : Int.tmod (h : Int) 24 = ((h % 24 : Nat) : Int) := by rw [Int.tmod_eq_emod_of_nonneg (by omega)]; rfl
    have hg : (hs.map (·.1)).getD (h % 24) 0 = hs[h % 24].1 := by
      rw [List.getD_eq_getElem?_getD, List.getElem?_map, List.getElem?_eq_getElem hlt]; rfl
    obtain ⟨g0, g1, g2⟩ := hh.ok _ (List.getElem_mem hlt);simp only [goesG, hg] at hr;rw [ev_top_TopChimeDrop_l4, cond_if, if_pos (decide_eq_true (by omega)), e, idx_nat (List.getElem?_eq_getElem hlt), cond_if]
    by_cases hc : hs[h % 24].1 ≤ left
    · rw [if_pos hc] at hr;rw [if_pos (decide_eq_true hc), chk_of (in64_of (by omega)), chk_of (in64_of (by omega)), show (h : Int) + 1 = ((h + 1 : Nat) : Int) by omega];exact ih m _ (h + 1) (by omega) (by omega) (by omega) (by omega) hr
    · rw [if_neg hc] at hr;rw [if_neg (by simpa using hc), cond_if, if_pos (by rw [hr]; simp), bind_of pubDrop_cd, cond_if, if_pos rfl, bind_of pubChime_pc]
def hourW (S : Int) (pins : List (Int × Int)) (R u : Int) (h : Nat) : List (Int × Int) := (List.range h).map fun (i : Nat) => (u * (gW S pins (i * R + R) - gW S pins (i * R)), u * (gW S pins (i * R + R) - gW S pins (i * R)))
theorem topChimeDrop_evx {v1 : Int} {v2 : Int} {v3 : Int} {v4 : Int} {v5 : Int} {v6 : Int} {pins7 : List Int} {line8 : Int} (h0 : (Lit.int .u8 v1).wf = true ∧ (Lit.int .u8 v2).wf = true ∧ (Lit.int .u8 v3).wf = true ∧ (Lit.int .u8 v4).wf = true ∧ (Lit.int .u8 v5).wf = true ∧ (Lit.int .u8 v6).wf = true) (h1 : (pins7.length ≤ maxLen ∧ ∀ el5 ∈ pins7, (Lit.int .u8 el5).wf = true)) (h2 : (Lit.int .u16 line8).wf = true) :
    ∃ n, ev_top_TopChimeDrop n v1 v2 v3 v4 v5 v6 pins7 line8 = some true := by
  simp only [wf8] at h0 h1;obtain ⟨a1, a2, a3, a4, a5, a6⟩ := h0;have w2 : 0 ≤ line8 ∧ line8 ≤ 65535 := by
    simpa only [Lit.wf, Bool.and_eq_true, decide_eq_true_eq, show IntKind.u16.min = 0 from rfl, show IntKind.u16.max = 65535 from rfl] using h2
  obtain ⟨S, runs, ps, W, hring⟩ := armRing_ev (n := 12000) (by decide) a1 a2 a3 a4 a5 a6 h1.2;have hS := W_S W;have et : Int.tdiv v2 16 = v2 / 16 := Int.tdiv_eq_ediv_of_nonneg a2.1;have el : Int.tmod line8 3000 = line8 % 3000 := Int.tmod_eq_emod_of_nonneg w2.1;obtain ⟨u, hu⟩ : ∃ u : Int, u = 1 + v2 / 16 := ⟨_, rfl⟩;obtain ⟨L, hL⟩ : ∃ L : Int, L = 1 + line8 % 3000 := ⟨_, rfl⟩;have bu : 1 ≤ u ∧ u ≤ 16 := by omega
  have bL : 1 ≤ L ∧ L ≤ 3000 := by omega
  obtain ⟨R, hR⟩ : ∃ R : Int, R = prefW runs 4 := ⟨_, rfl⟩;have hRr := pref_range W 4 (by omega);rw [← hR] at hRr;have hpin : ∀ p ∈ ps, 0 ≤ p.2 ∧ p.2 < 4 * S := fun p hp => ⟨(W.pin p hp).2.1, (W.pin p hp).2.2⟩
  obtain ⟨gA, g0⟩ := gW_all (R := R) W.hS hpin
  -- an hour
  have hour : ∀ C : Int, 0 ≤ C → 0 ≤ gW S ps (C + R) - gW S ps C ∧ gW S ps (C + R) - gW S ps C ≤ 80 := by
    intro C hC;have key : ∀ k : Nat, k ≤ 4 → 0 ≤ gW S ps (C + prefW runs k) - gW S ps C ∧ gW S ps (C + prefW runs k) - gW S ps C ≤ 20 * k := by
      intro k
      induction k with
      | zero => intro _; simp [prefW]
      | succ k ih =>
        intro hk;have i1 := ih (by omega);obtain ⟨e, r1, r2⟩ := pref_step W (k := k) (by omega);have hpk := pref_range W k (by omega);obtain ⟨_, q1, q2⟩ := blows_at W (c := C + prefW runs k) (by omega) ⟨r1, r2⟩;rw [Int.add_assoc, ← e] at q1 q2
        omega
    have := key 4 (by omega);rw [← hR] at this
    omega
  have hgw : ∀ h : Nat, h ≤ 24 → 0 ≤ gW S ps (h * R) ∧ gW S ps (h * R) ≤ 80 * h := by
    intro h
    induction h with
    | zero => intro _; simp [g0]
    | succ h ih =>
      intro hh;have i1 := ih (by omega);have hnn : 0 ≤ (h : Int) * R := Int.mul_nonneg (by omega) hRr.1;have q := hour _ hnn;have e : ((h + 1 : Nat) : Int) * R = h * R + R := by rw [Int.natCast_add, Int.add_mul]; omega
      rw [e]; omega
  have hlenH : ∀ h, (hourW S ps R u h).length = h := fun h => by simp [hourW]
  have hok : OkH (hourW S ps R u 24) := ⟨hlenH 24, fun x hx => by
    obtain ⟨i, hi, rfl⟩ := List.mem_map.1 hx;have q := hour _ (Int.mul_nonneg (show (0 : Int) ≤ i by omega) hRr.1);have p1 := Int.mul_nonneg (show 0 ≤ u by omega) q.1;have p2 : u * (gW S ps (i * R + R) - gW S ps (i * R)) ≤ 16 * 80 := Int.mul_le_mul bu.2 q.2 q.1 (by decide);exact ⟨p1, Int.le_refl _, by show u * _ ≤ 3000; omega⟩⟩
  have fin : ev_top_TopChimeDrop_j2 12000 L (hourW S ps R u 24) = some true := by
    have hm : (hourW S ps R u 24).map (·.2) = (hourW S ps R u 24).map (·.1) := by simp [hourW]
    rw [ev_top_TopChimeDrop_j2, bind_of (ev_Goes (by decide) bL hok (by omega) (Int.le_refl _)), cond_if, if_neg (by simp), cond_if, if_neg (by simp [hm]), ev_top_TopChimeDrop_j3];exact drop_l4 hok 2000 12000 L 0 (by omega) (by omega) (by omega) (by omega) (by rw [hm])
  have key : ∀ (j m h : Nat), h + j = 24 → j < m → ev_top_TopChimeDrop_l0 12000 v2 m ((h * R) % S) (gW S ps (h * R)) (h * R) (h : Int) (4 * S) S 1 L (hourW S ps R u h) runs [(v2 % 16, 0)] ps = some true := by
    intro j
    induction j with
    | zero =>
      intro m h hh hm;obtain ⟨m, rfl⟩ : ∃ m', m = m' + 1 := ⟨m - 1, by omega⟩;obtain rfl : h = 24 := by omega
      have e0 : ((24 : Nat) : Int) * R % S = 0 := by rcases W.hS with h | h | h | h | h | h <;> rw [h] <;> omega
      have e1 : Int.tdiv (((24 : Nat) : Int) * R) S = 24 * R / S := Int.tdiv_eq_ediv_of_nonneg (by omega);have e2 : 0 ≤ 24 * R / S ∧ 24 * R / S ≤ 24 * R := ⟨Int.ediv_nonneg (by omega) (by omega), Int.ediv_le_self _ (by omega)⟩;have hf := W.few;have e3 : 0 ≤ (ps.length : Int) * (24 * R / S) ∧ (ps.length : Int) * (24 * R / S) ≤ 20 * 768 := ⟨Int.mul_nonneg (by omega) e2.1, Int.mul_le_mul (by omega) (by omega) e2.1 (by decide)⟩;have e4 : gW S ps (((24 : Nat) : Int) * R) = ps.length * (24 * R / S) := gA;rw [ev_top_TopChimeDrop_l0, cond_if, if_neg (by simp), e0, cond_if, if_neg (by simp), chk_of (by simp; omega), e1, chk_of (in64_of (by omega)), chk_of (in64_of (by omega)), cond_if, if_neg (by rw [e4]; simp)];exact fin
    | succ j ih =>
      intro m h hh hm;obtain ⟨m, rfl⟩ : ∃ m', m = m' + 1 := ⟨m - 1, by omega⟩;have hb := hgw h (by omega);have hnn : 0 ≤ (h : Int) * R := Int.mul_nonneg (by omega) hRr.1;have hle : (h : Int) * R ≤ 24 * 32 := Int.mul_le_mul (by omega) (by omega) hRr.1 (by decide);have e : ((h + 1 : Nat) : Int) * R = h * R + R := by rw [Int.natCast_add, Int.add_mul]; omega
      have h1 := drop_l1 W (n := 12000) (by decide) a2 hu (acc := hourW S ps R u h) (by rw [hlenH]; omega) (i11 := gW S ps (h * R)) (i18 := L) (by omega) (h := h) (by omega) (C := h * R) (by omega)
        (K := fun i10q i11q i12q i13q i14q i15q i17q i18q l19q l20q l21q l22q => ev_top_TopChimeDrop_l0 12000 v2 m i10q i11q i12q i13q i14q i15q i17q i18q l19q l20q l21q l22q) 4 12000 0 (by omega) (by omega) (by simp [prefW])
      have ep0 : (h : Int) * R + prefW runs 0 = h * R := by simp [prefW]
      rw [ep0, ← hR, Int.sub_self] at h1;rw [ev_top_TopChimeDrop_l0, cond_if, if_pos (decide_eq_true (by omega))];refine Eq.trans h1 ?_;have e5 : gW S ps (h * R) + (gW S ps (h * R + R) - gW S ps (h * R)) = gW S ps (((h + 1 : Nat) : Int) * R) := by rw [e]; omega
      have e6 : hourW S ps R u h ++ [(u * (gW S ps (h * R + R) - gW S ps (h * R)), u * (gW S ps (h * R + R) - gW S ps (h * R)))] = hourW S ps R u (h + 1) := by
        unfold hourW;rw [List.range_succ, List.map_append]; rfl
      rw [e5, e6, ← e];exact ih m (h + 1) (by omega) (by omega)
  refine ⟨12000, ?_⟩;rw [ev_top_TopChimeDrop, bind_of hring, chk_of (in64_of (by omega)), el, chk_of (in64_of (by omega)), chk_of (in64_of (by omega)), et, chk_of (in64_of (by omega)), chk_of (in64_of (by omega)), ← hL];have := key 24 12000 0 (by omega) (by omega)
  simpa [hourW, g0] using this
end Go.Proofs.Ytgkoldcmbcbbpaa.Sy
