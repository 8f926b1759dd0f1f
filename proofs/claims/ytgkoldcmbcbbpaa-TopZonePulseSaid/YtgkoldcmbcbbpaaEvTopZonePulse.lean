/- Clocks that are put back by lost impulses: what the law computes is true. -/
import Derived.Test.YtgkoldcmbcbbpaaGTopZonePulse
import Derived.Test.YtgkoldcmbcbbpaaEvOdd
import Derived.Test.YtgkoldcmbcbbpaaEvPulse
set_option linter.unusedSimpArgs false
set_option linter.unusedVariables false
namespace Go.Proofs.Ytgkoldcmbcbbpaa.Sy
open Go.RowKit
set_option maxRecDepth 100000

theorem pubPulseZ_ev : ev_top_pubPulse 6100 = some true := by decide +kernel
theorem pubTownsZ_ev : ev_top_pubTowns 6100 = some true := by decide +kernel
/-- spans by their ends -/
def cz (x y : Int × Int) : Int := if x.1 < y.1 then -1 else if y.1 < x.1 then 1 else if x.2 < y.2 then -1 else if y.2 < x.2 then 1 else 0
theorem ev_cmpI {n : Nat} (a b : Int) : ev_cmp_Compare_int n a b = some (if a < b then -1 else if b < a then 1 else 0) := by
  simp only [ev_cmp_Compare_int, ev_cmp_isNaN_int, bind_of, Option.bind_some, bne_self_eq_false, cond_if, Bool.false_eq_true, if_false]
  by_cases h1 : a < b
  · simp [h1]
  · by_cases h2 : b < a
    · simp [h1, h2]
    · simp [h1, h2]
theorem ev_cmpZ {n : Nat} (hn : 3 < n) (x y : Int × Int) : ev_zone_spans_joined_1 n x.1 x.2 y.1 y.2 = some (cz x y) := by
  obtain ⟨m, rfl⟩ : ∃ m, n = m + 3 := ⟨n - 3, by omega⟩
  rw [ev_zone_spans_joined_1, bind_of (ev_cmpI _ _), bind_of (ev_cmpI _ _), ev_cmp_Or_int]
  have key : ∀ u v : Int, ev_cmp_Or_int_l0 (m + 3) [u, v] (m + 3) 0 = some (if u ≠ 0 then u else v) := by
    intro u v
    rw [ev_cmp_Or_int_l0, cond_if, if_pos (by simp), idx_of (x := u) (by decide) (by rfl), cond_if]
    by_cases hu : u = 0
    · rw [if_neg (by simpa using hu), chk_of (by decide), ev_cmp_Or_int_l0, cond_if, if_pos (by simp), idx_of (x := v) (by decide) (by rfl), cond_if]
      by_cases hv : v = 0
      · rw [if_neg (by simpa using hv), chk_of (by decide), ev_cmp_Or_int_l0, cond_if, if_neg (by simp)]; simp [hu, hv]
      · rw [if_pos (by simpa using hv)]; simp [hu]
    · rw [if_pos (by simpa using hu)]; simp [hu]
  rw [bind_of (key _ _)]
  unfold cz
  by_cases h1 : x.1 < y.1
  · simp [h1]
  · by_cases h2 : y.1 < x.1
    · simp [h1, h2]
    · simp [h1, h2]
/-- spans that touch are joined -/
def joinZ : List (Int × Int) → List (Int × Int) → List (Int × Int)
  | acc, [] => acc
  | acc, x :: xs => match acc[acc.length - 1]? with
    | some z => if x.1 ≤ z.2 + 1 then joinZ (acc.set (acc.length - 1) (z.1, max z.2 x.2)) xs else joinZ (acc ++ [x]) xs
    | none => joinZ (acc ++ [x]) xs
theorem ev_joinedZ {n : Nat} (hn : 20 < n) {l : List (Int × Int)} (hl : l.length ≤ 12) (hb : ∀ x ∈ l, (-100000000000 ≤ x.1 ∧ x.1 ≤ 100000000000) ∧ (-100000000000 ≤ x.2 ∧ x.2 ≤ 100000000000)) :
    ∃ l', ev_zone_spans_joined n l = some (joinZ [] (isort cz l), l') := by
  have hs := so_api_Span (n := n) (cmp := fun a => ev_zone_spans_joined_1 n a.1 a.2.1 a.2.2.1 a.2.2.2) (c := cz) (Pd := fun _ => True) (fun x y _ _ => ev_cmpZ (by omega) x y) l (by omega) hl (fun _ _ => trivial)
  have hs : ev_slices_SortFunc_zone_spans_api_Span n l (fun a => ev_zone_spans_joined_1 n a.1 a.2.1 a.2.2.1 a.2.2.2) = some (isort cz l) := hs
  rw [ev_zone_spans_joined, bind_of hs]
  have hb' : ∀ x ∈ isort cz l, (-100000000000 ≤ x.1 ∧ x.1 ≤ 100000000000) ∧ (-100000000000 ≤ x.2 ∧ x.2 ≤ 100000000000) := fun x hx => hb x ((isort_perm cz l).mem_iff.1 hx)
  obtain ⟨r, hr⟩ : ∃ r, r = isort cz l := ⟨_, rfl⟩
  have hrl : r.length ≤ 12 := by rw [hr, isort_length]; exact hl
  rw [← hr] at hb' ⊢
  have key : ∀ (k m i : Nat) (acc : List (Int × Int)), i + k = r.length → k < m → acc.length ≤ i → (∀ x ∈ acc, -100000000000 ≤ x.2 ∧ x.2 ≤ 100000000000) → ev_zone_spans_joined_l0 n r m acc (i : Int) r = some (joinZ acc (r.drop i), r) := by
    intro k
    induction k with
    | zero =>
      intro m i acc hi hm hal hacc
      cases m with
      | zero => omega
      | succ m => rw [ev_zone_spans_joined_l0, cond_if, if_neg (by simp; omega), List.drop_eq_nil_of_le (by omega)]; rfl
    | succ k ih =>
      intro m i acc hi hm hal hacc
      cases m with
      | zero => omega
      | succ m =>
        have hlt : i < r.length := by omega
        obtain ⟨x, hx⟩ : ∃ x, x = r[i] := ⟨_, rfl⟩
        have hget : r[i]? = some x := by rw [hx, List.getElem?_eq_getElem hlt]
        have hxb := hb' x (List.mem_of_getElem? hget)
        have hnext : ∀ acc' : List (Int × Int), acc'.length ≤ i + 1 → (∀ x ∈ acc', -100000000000 ≤ x.2 ∧ x.2 ≤ 100000000000) → ev_zone_spans_joined_l0 n r m acc' ((i : Int) + 1) r = some (joinZ acc' (r.drop (i + 1)), r) := fun acc' h1 h2 => by
          rw [← ih m (i + 1) acc' (by omega) (by omega) h1 h2]; congr 1
        have happ := hnext (acc ++ [x]) (by simp; omega) (fun z hz => by
          rcases List.mem_append.1 hz with hz | hz
          · exact hacc z hz
          · rw [List.mem_singleton] at hz; subst hz; exact hxb.2)
        rw [ev_zone_spans_joined_l0, cond_if, if_pos (by simp; omega), idx_nat hget, chk_of (in64_of (by omega)), cond_if, List.drop_eq_getElem_cons hlt, ← hx]
        by_cases h0 : acc.length = 0
        · have : acc = [] := List.length_eq_zero_iff.1 h0
          subst this
          rw [if_neg (by simp), chk_of (by rfl), chk_of (in64_of (by omega))]
          exact happ
        · obtain ⟨z, hz⟩ : ∃ z, acc[acc.length - 1]? = some z := ⟨_, List.getElem?_eq_getElem (by omega)⟩
          have hzb := hacc z (List.mem_of_getElem? hz)
          have et : ((acc.length : Int) - 1).toNat = acc.length - 1 := by omega
          rw [if_pos (by simp; omega), idx_of (x := z) (by omega) (by rw [et]; exact hz), chk_of (in64_of (by omega)), cond_if, et]
          simp only [joinZ, hz]
          by_cases hj : x.1 ≤ z.2 + 1
          · rw [if_pos (by simpa using hj), if_pos hj, chk_of (in64_of (by omega))]
            refine hnext _ (by simp; omega) (fun w hw => ?_)
            rcases List.mem_or_eq_of_mem_set hw with hw | rfl
            · exact hacc w hw
            · simp only; omega
          · rw [if_neg (by simpa using hj), if_neg hj, chk_of (room_iff.2 (by simp; omega)), chk_of (in64_of (by omega))]
            exact happ
  exact ⟨r, by simpa using key r.length n 0 [] (by omega) (by omega) (by simp) (by simp)⟩
theorem perm_le_eq : ∀ {l r : List Int}, l.Perm r → l.Pairwise (· ≤ ·) → r.Pairwise (· ≤ ·) → l = r := by
  intro l
  induction l with
  | nil => intro r p _ _; exact (List.nil_perm.1 p).symm
  | cons a l ih =>
    intro r p hl hr
    cases r with
    | nil => exact absurd p (by simp)
    | cons b r =>
      have ha : a ∈ b :: r := p.mem_iff.1 (by simp)
      have hb : b ∈ a :: l := p.mem_iff.2 (by simp)
      rw [List.pairwise_cons] at hl hr
      have e : a = b := by
        rcases List.mem_cons.1 ha with h | h
        · exact h
        · rcases List.mem_cons.1 hb with h' | h'
          · exact h'.symm
          · have := hr.1 a h; have := hl.1 b h'; omega
      subst e
      rw [ih p.cons_inv hl.2 hr.2]
theorem isort_is {l r : List Int} (p : r.Perm l) (h : r.Pairwise (· ≤ ·)) : isort lessI l = r := by
  refine perm_le_eq ((isort_perm lessI l).trans p.symm) ?_ h
  refine (isort_sorted lessI (fun x y h => ?_) (fun x y z h1 h2 => ?_) l).imp fun {x y} h => ?_
  · simp only [lessI] at *; split at h <;> split <;> omega
  · simp only [lessI] at *; split at h1 <;> split at h2 <;> split <;> omega
  · simp only [lessI] at h; split at h <;> omega
theorem compact8 {a b c d e f g h : Int} (h1 : a ≠ b) (h2 : b ≠ c) (h3 : c ≠ d) (h4 : d ≠ e) (h5 : e ≠ f) (h6 : f ≠ g) (h7 : g ≠ h) : Lib.compact [a, b, c, d, e, f, g, h] = [a, b, c, d, e, f, g, h] := by
  simp [Lib.compact, Lib.compactUpTo, Lib.keeps, List.range, List.range.loop, Ne.symm h1, Ne.symm h2, Ne.symm h3, Ne.symm h4, Ne.symm h5, Ne.symm h6, Ne.symm h7]
theorem compact7 {a b c d f g h : Int} (h1 : a ≠ b) (h2 : b ≠ c) (h3 : c ≠ d) (h5 : d ≠ f) (h6 : f ≠ g) (h7 : g ≠ h) : Lib.compact [a, b, c, d, d, f, g, h] = [a, b, c, d, f, g, h] := by
  simp [Lib.compact, Lib.compactUpTo, Lib.keeps, List.range, List.range.loop, Ne.symm h1, Ne.symm h2, Ne.symm h3, Ne.symm h5, Ne.symm h6, Ne.symm h7]
/-- a town with one change: how many instants a minute has -/
theorem ev_meansZ {n : Nat} (hn : 20 < n) {s o : Int} (hs : 1 ≤ s ∧ s ≤ 100000) (ho : -1200 ≤ o ∧ o ≤ 1200) {m : Int} (hm : 0 ≤ m ∧ m ≤ 60000000) (hgap : m ≤ s - 1 → (60 * s + o) / 60 ≤ m → m * 60 + 60 < max (60 * s) (m * 60 - o)) :
    ∃ L : List (Int × Int), ev_zone_town_means n 0 [(60 * s, o)] m = some L ∧ L.length = (if m ≤ s - 1 then 1 else 0) + (if (60 * s + o) / 60 ≤ m ∧ m ≤ (3155760000 + o) / 60 then 1 else 0) := by
  have r1 := ev_means_r (n := n) (by omega) (x := (0, 60 * s - 1, 0)) (by simp only; omega) (by simp only; omega) (by simp only; omega) (m := m) (by omega) (y := []) (by simp)
  have hy1 : ∀ b : Bool, (if b then ([] : List (Int × Int)) ++ [instP (0, 60 * s - 1, 0) m] else []).length ≤ 10 := by intro b; cases b <;> simp
  have r2 := ev_means_r (n := n) (by omega) (x := (60 * s, 3155760000, o)) (by simp only; omega) (by simp only; omega) (by simp only; omega) (m := m) (by omega) (y := if inEra (0, 60 * s - 1, 0) m then ([] : List (Int × Int)) ++ [instP (0, 60 * s - 1, 0) m] else []) (hy1 _)
  have he := ev_eras1 (n := n) (by omega) (o := 0) (c := 60 * s) (o2 := o) (by omega) r1 r2
  have hin1 : inEra (0, 60 * s - 1, 0) m = decide (m ≤ s - 1) := by
    unfold inEra; rw [Bool.eq_iff_iff]; simp only [Bool.and_eq_true, decide_eq_true_eq]; omega
  have hin2 : inEra (60 * s, 3155760000, o) m = decide ((60 * s + o) / 60 ≤ m ∧ m ≤ (3155760000 + o) / 60) := by
    unfold inEra; rw [Bool.eq_iff_iff]; simp only [Bool.and_eq_true, decide_eq_true_eq]
  rw [ev_zone_town_means, bind_of he, cond_if, if_pos (by rfl)]
  have two : ∀ x y : Int × Int, x.2 + 1 < y.1 → x.1 ≤ x.2 → joinZ [] (isort cz [x, y]) = [x, y] := by
    intro x y h h2
    have : isort cz [x, y] = [x, y] := by
      have hc : ¬ cz y x < 0 := by unfold cz; rw [if_neg (by omega), if_pos (by omega)]; decide
      simp [isort, insOut, insIn, hc]
    rw [this]
    have h3 : ¬ y.1 ≤ x.2 + 1 := by omega
    simp [joinZ, h3]
  have one : ∀ x : Int × Int, joinZ [] (isort cz [x]) = [x] := fun x => rfl
  have fin : ∀ (l r : List (Int × Int)) (q : Nat), l.length ≤ 12 → (∀ x ∈ l, (-100000000000 ≤ x.1 ∧ x.1 ≤ 100000000000) ∧ (-100000000000 ≤ x.2 ∧ x.2 ≤ 100000000000)) → joinZ [] (isort cz l) = r → r.length = q → ∃ L : List (Int × Int), ((ev_zone_spans_joined n l).bind fun r12 => some r12.1) = some L ∧ L.length = q := by
    intro l r q h1 h2 h3 h4
    obtain ⟨l', hj⟩ := ev_joinedZ (n := n) hn h1 h2
    rw [bind_of hj]
    exact ⟨_, rfl, by rw [h3, h4]⟩
  have b1 : (-100000000000 ≤ (instP (0, 60 * s - 1, 0) m).1 ∧ (instP (0, 60 * s - 1, 0) m).1 ≤ 100000000000) ∧ (-100000000000 ≤ (instP (0, 60 * s - 1, 0) m).2 ∧ (instP (0, 60 * s - 1, 0) m).2 ≤ 100000000000) := by
    simp only [instP]; omega
  have b2 : (-100000000000 ≤ (instP (60 * s, 3155760000, o) m).1 ∧ (instP (60 * s, 3155760000, o) m).1 ≤ 100000000000) ∧ (-100000000000 ≤ (instP (60 * s, 3155760000, o) m).2 ∧ (instP (60 * s, 3155760000, o) m).2 ≤ 100000000000) := by
    simp only [instP]; omega
  by_cases c1 : m ≤ s - 1 <;> by_cases c2 : ((60 * s + o) / 60 ≤ m ∧ m ≤ (3155760000 + o) / 60)
  all_goals simp only [hin1, hin2, c1, c2, decide_true, decide_false, if_true, if_false, Bool.false_eq_true, List.nil_append, List.cons_append, and_self]
  · have hg := hgap c1 c2.1
    exact fin [_, _] _ _ (by simp) (fun x hx => by simp only [List.mem_cons, List.not_mem_nil, or_false] at hx; rcases hx with rfl | rfl; exact b1; exact b2) (two _ _ (by simp only [instP]; omega) (by simp only [instP]; omega)) rfl
  · exact fin [_] _ _ (by simp) (fun x hx => by rw [List.mem_singleton] at hx; subst hx; exact b1) (one _) rfl
  · exact fin [_] _ _ (by simp) (fun x hx => by rw [List.mem_singleton] at hx; subst hx; exact b2) (one _) rfl
  · exact fin [] _ _ (by simp) (fun x hx => by simp at hx) rfl rfl
/-- the ends between which all minutes come as often -/
theorem ev_oddEnds {n : Nat} (hn : 20 < n) {s o : Int} (hs : 1 ≤ s ∧ s ≤ 100000) (ho : -1200 ≤ o ∧ o ≤ 1200) :
    ev_zone_town_eras (loopStep (ev_zone_Odd_r0 n)) n 0 [(60 * s, o)] (([] : List Int), 0) = some ([0, 1, s - 1, s, (60 * s + o) / 60, (60 * s + o) / 60 + 1, (3155760000 + o) / 60, (3155760000 + o) / 60 + 1], 0) := by
  have step : ∀ (x : Int × Int × Int) (y : List Int), -10000000000 ≤ x.1 ∧ x.1 ≤ 10000000000 → -10000000000 ≤ x.2.1 ∧ x.2.1 ≤ 10000000000 → -50000 ≤ x.2.2 ∧ x.2.2 ≤ 50000 → y.length ≤ 10 →
      loopStep (ev_zone_Odd_r0 n) x (y, 0) = some (true, (y ++ [(x.1 + x.2.2) / 60, (x.1 + x.2.2) / 60 + 1, (x.2.1 + x.2.2) / 60, (x.2.1 + x.2.2) / 60 + 1], 0)) := by
    intro x y h1 h2 h3 hy
    rw [loopStep_of (r := (0, y ++ [(x.1 + x.2.2) / 60, (x.1 + x.2.2) / 60 + 1, (x.2.1 + x.2.2) / 60, (x.2.1 + x.2.2) / 60 + 1])) (by
      rw [ev_zone_Odd_r0, bind_of (ev_minutes h1 h2 h3), chk_of (in64_of (by simp only; omega)), chk_of (in64_of (by simp only; omega)), chk_of (room_iff.2 (by simp; omega))])]
    rfl
  have h1 := step (0, 60 * s - 1, 0) [] (by simp only; omega) (by simp only; omega) (by simp only; omega) (by simp)
  have h2 := step (60 * s, 3155760000, o) ([] ++ [((0 : Int) + 0) / 60, (0 + 0) / 60 + 1, (60 * s - 1 + 0) / 60, (60 * s - 1 + 0) / 60 + 1]) (by simp only; omega) (by simp only; omega) (by simp only; omega) (by simp)
  rw [ev_eras1 (by omega) (by omega) h1 h2]
  have a1 : ((0 : Int) + 0) / 60 = 0 := by omega
  have a2 : (60 * s - 1 + 0) / 60 = s - 1 := by omega
  have a3 : (0 : Int) + 1 = 1 := by omega
  have a4 : s - 1 + 1 = s := by omega
  simp only [List.nil_append, List.cons_append, a1, a2, a3, a4]
/-- one of the ends -/
theorem odd_step {n : Nat} (hn : 20 < n) {s o : Int} (hs : 1 ≤ s ∧ s ≤ 100000) (ho : -1200 ≤ o ∧ o ≤ 1200) {r ls : List Int} {i : Nat} {x y : Int} (hx : ls[i]? = some x) (hy : r[i + 1]? = some y) (hle : i < (List.drop (0 : Int).toNat (List.take (((r.length : Int) - 1) : Int).toNat r)).length) (hr : -1000000000 ≤ y ∧ y ≤ 1000000000) (hi : i ≤ 100)
    (hm : 0 ≤ x ∧ x ≤ 60000000) (hgap : x ≤ s - 1 → (60 * s + o) / 60 ≤ x → x * 60 + 60 < max (60 * s) (x * 60 - o)) {a b : List (Int × Int)} (ha : a.length ≤ 20) (hb : b.length ≤ 20) (m : Nat) {q : Nat} (hq : q = (if x ≤ s - 1 then 1 else 0) + (if (60 * s + o) / 60 ≤ x ∧ x ≤ (3155760000 + o) / 60 then 1 else 0)) :
    ev_zone_Odd_l1 n r (m + 1) a b (i : Int) 0 ls [(60 * s, o)] r = ev_zone_Odd_l1 n r m (if 1 < q then a ++ [(x, y - 1)] else a) (if q = 0 then b ++ [(x, y - 1)] else b) ((i + 1 : Nat) : Int) 0 ls [(60 * s, o)] r := by
  obtain ⟨L, hL, hLl⟩ := ev_meansZ hn hs ho hm hgap
  rw [← hq] at hLl
  have e : ((i : Int) + 1) = ((i + 1 : Nat) : Int) := by omega
  rw [ev_zone_Odd_l1, cond_if, if_pos (by simp only [decide_eq_true_eq]; omega), idx_nat hx, chk_of (in64_of (by omega)), e, idx_nat hy, chk_of (in64_of (by omega)), bind_of hL, cond_if, hLl]
  by_cases h1 : 1 < q
  · rw [if_pos (by simp only [decide_eq_true_eq]; omega), chk_of (room_iff.2 (by simp; omega)), chk_of (in64_of (by omega)), if_pos h1, if_neg (by omega)]
  · rw [if_neg (by simp only [decide_eq_true_eq]; omega), if_neg h1, cond_if]
    by_cases h0 : q = 0
    · rw [if_pos (by simp; omega), chk_of (room_iff.2 (by simp; omega)), chk_of (in64_of (by omega)), if_pos h0]
    · rw [if_neg (by simp; omega), chk_of (in64_of (by omega)), if_neg h0]
theorem odd_end {n : Nat} {r ls : List Int} {a b : List (Int × Int)} {i m : Nat} {o z : Int} (z2 : List (Int × Int)) (hle : (List.drop (0 : Int).toNat (List.take (((r.length : Int) - 1) : Int).toNat r)).length ≤ i) {ra rb : List (Int × Int)} {la lb : List (Int × Int)} (hA : ev_zone_spans_joined n a = some (ra, la)) (hB : ev_zone_spans_joined n b = some (rb, lb)) :
    ev_zone_Odd_l1 n r (m + 1) a b (i : Int) z ls z2 r = some (ra, rb, 0) := by
  rw [ev_zone_Odd_l1, cond_if, if_neg (by simp only [decide_eq_true_eq]; omega), bind_of hA, bind_of hB]
theorem ev_OddF {n : Nat} (hn : 20 < n) {s k : Int} (hs : 100 ≤ s ∧ s ≤ 70000) (hk : 2 ≤ k ∧ k ≤ 20) : ev_zone_Odd n 0 [(60 * s, 60 * k)] = some ([], [(s, s + k - 1)], 0) := by
  have hz : OkZ 0 [(60 * s, 60 * k)] := ⟨fun c hc => by rw [List.mem_singleton] at hc; subst hc; simp only; omega, List.pairwise_singleton _ _, by simp⟩
  obtain ⟨e, he⟩ : ∃ e, e = (60 * s + 60 * k) / 60 := ⟨_, rfl⟩
  obtain ⟨H, hH⟩ : ∃ H, H = (3155760000 + 60 * k) / 60 := ⟨_, rfl⟩
  have e1 : e = s + k := by omega
  have e2 : H = 52596000 + k := by omega
  obtain ⟨r, hr⟩ : ∃ r : List Int, r = [0, 1, s - 1, s, e, e + 1, H, H + 1] := ⟨_, rfl⟩
  have hso : ev_slices_Sort_Lint_int n r = some r := by
    rw [so_int r (by omega) (by rw [hr]; simp) trivial, isort_is (.refl _) (by rw [hr]; simp; omega)]
  have hco : ev_slices_Compact_Lint_int n r = some r := by
    rw [ev_slices_Compact_Lint_int, chk_of (room_iff.2 (by rw [hr]; simp)), hr, compact8 (by omega) (by omega) (by omega) (by omega) (by omega) (by omega) (by omega)]
  obtain ⟨m, rfl⟩ : ∃ m, n = m + 8 := ⟨n - 8, by omega⟩
  have hdrop : (List.drop (0 : Int).toNat (List.take (((r.length : Int) - 1) : Int).toNat r)) = [0, 1, s - 1, s, e, e + 1, H] := by rw [hr]; rfl
  have hends := ev_oddEnds (n := m + 8) hn (s := s) (o := 60 * k) (by omega) (by omega)
  rw [← he, ← hH, ← hr] at hends
  have hrl : r.length = 8 := by rw [hr]; rfl
  rw [ev_zone_Odd, bind_of (ev_zCheck hn (by decide) hz), cond_if, if_neg (by simp), bind_of hends, cond_if, if_pos (by rfl), bind_of hso, bind_of hco, chk_of (in64_of (by omega)), chk_of (by rw [hrl]; decide), hdrop]
  have st := fun (i : Nat) (x y : Int) (a b : List (Int × Int)) (mm : Nat) (q : Nat) => odd_step (n := m + 8) hn (s := s) (o := 60 * k) (by omega) (by omega) (r := r) (ls := [0, 1, s - 1, s, e, e + 1, H]) (i := i) (x := x) (y := y) (a := a) (b := b) (m := mm) (q := q)
  rw [← he, ← hH] at st
  have gap : ∀ x : Int, x ≤ s - 1 → e ≤ x → x * 60 + 60 < max (60 * s) (x * 60 - 60 * k) := fun x h1 h2 => by omega
  obtain ⟨la, hA⟩ := ev_joinedZ (n := m + 8) hn (l := []) (by simp) (by simp)
  obtain ⟨lb, hB⟩ := ev_joinedZ (n := m + 8) hn (l := [(s, e - 1)]) (by simp) (fun x hx => by rw [List.mem_singleton] at hx; subst hx; simp only; omega)
  have s0 := st 0 0 1 [] [] (m + 7) 1 (by rfl) (by rw [hr]; rfl) (by rw [hdrop]; simp) (by omega) (by omega) (by omega) (gap 0) (by simp) (by simp) (by rw [if_pos (by omega), if_neg (by omega)])
  have s1 := st 1 1 (s - 1) [] [] (m + 6) 1 (by rfl) (by rw [hr]; rfl) (by rw [hdrop]; simp) (by omega) (by omega) (by omega) (gap 1) (by simp) (by simp) (by rw [if_pos (by omega), if_neg (by omega)])
  have s2 := st 2 (s - 1) s [] [] (m + 5) 1 (by rfl) (by rw [hr]; rfl) (by rw [hdrop]; simp) (by omega) (by omega) (by omega) (gap _) (by simp) (by simp) (by rw [if_pos (by omega), if_neg (by omega)])
  have s3 := st 3 s e [] [] (m + 4) 0 (by rfl) (by rw [hr]; rfl) (by rw [hdrop]; simp) (by omega) (by omega) (by omega) (gap _) (by simp) (by simp) (by rw [if_neg (by omega), if_neg (by omega)])
  have s4 := st 4 e (e + 1) [] [(s, e - 1)] (m + 3) 1 (by rfl) (by rw [hr]; rfl) (by rw [hdrop]; simp) (by omega) (by omega) (by omega) (gap _) (by simp) (by simp) (by rw [if_neg (by omega), if_pos (by omega)])
  have s5 := st 5 (e + 1) H [] [(s, e - 1)] (m + 2) 1 (by rfl) (by rw [hr]; rfl) (by rw [hdrop]; simp) (by omega) (by omega) (by omega) (gap _) (by simp) (by simp) (by rw [if_neg (by omega), if_pos (by omega)])
  have s6 := st 6 H (H + 1) [] [(s, e - 1)] (m + 1) 1 (by rfl) (by rw [hr]; rfl) (by rw [hdrop]; simp) (by omega) (by omega) (by omega) (gap _) (by simp) (by simp) (by rw [if_neg (by omega), if_pos (by omega)])
  simp only [Nat.lt_irrefl, if_false, Nat.one_ne_zero, if_true, List.nil_append, Nat.not_lt_zero] at s0 s1 s2 s3 s4 s5 s6
  have s7 := odd_end (n := m + 8) (r := r) (ls := [0, 1, s - 1, s, e, e + 1, H]) (i := 7) (m := m) (o := 0) (z := 0) [(60 * s, 60 * k)] (by rw [hdrop]; simp) hA hB
  refine (s0.trans (s1.trans (s2.trans (s3.trans (s4.trans (s5.trans (s6.trans s7))))))).trans ?_
  have : e - 1 = s + k - 1 := by omega
  rw [this]; rfl
theorem isort2 {T : Type} {c : T → T → Int} {x y : T} (h : ¬ c y x < 0) : isort c [x, y] = [x, y] := by simp [isort, insOut, insIn, h]
theorem isort3 {T : Type} {c : T → T → Int} {x y z : T} (h : ¬ c y x < 0) (h2 : ¬ c z y < 0) : isort c [x, y, z] = [x, y, z] := by simp [isort, insOut, insIn, h, h2]
theorem joinZ2 {x y : Int × Int} (h : y.1 ≤ x.2 + 1) : joinZ [] [x, y] = [(x.1, max x.2 y.2)] := by simp [joinZ, h]
theorem joinZ3 {x y z : Int × Int} (h : y.1 ≤ x.2 + 1) (h2 : z.1 ≤ max x.2 y.2 + 1) : joinZ [] [x, y, z] = [(x.1, max (max x.2 y.2) z.2)] := by simp [joinZ, h, h2]
theorem cz_lt {x y : Int × Int} (h : x.1 < y.1) : ¬ cz y x < 0 := by unfold cz; rw [if_neg (by omega), if_pos h]; decide
theorem ev_OddB {n : Nat} (hn : 20 < n) {s k : Int} (hs : 100 ≤ s ∧ s ≤ 70000) (hk : 2 ≤ k ∧ k ≤ 20) : ev_zone_Odd n 0 [(60 * s, -60 * k)] = some ([(s - k, s - 1)], [], 0) := by
  have hz : OkZ 0 [(60 * s, -60 * k)] := ⟨fun c hc => by rw [List.mem_singleton] at hc; subst hc; simp only; omega, List.pairwise_singleton _ _, by simp⟩
  obtain ⟨e, he⟩ : ∃ e, e = (60 * s + -60 * k) / 60 := ⟨_, rfl⟩
  obtain ⟨H, hH⟩ : ∃ H, H = (3155760000 + -60 * k) / 60 := ⟨_, rfl⟩
  have e1 : e = s - k := by omega
  have e2 : H = 52596000 - k := by omega
  obtain ⟨r0, hr0⟩ : ∃ r : List Int, r = [0, 1, s - 1, s, e, e + 1, H, H + 1] := ⟨_, rfl⟩
  obtain ⟨r1, hr1⟩ : ∃ r : List Int, r = [0, 1, e, e + 1, s - 1, s, H, H + 1] := ⟨_, rfl⟩
  have hperm : r1.Perm r0 := by
    rw [hr0, hr1]
    exact ((List.perm_append_comm (l₁ := [e, e + 1]) (l₂ := [s - 1, s])).append_right [H, H + 1]).append_left [0, 1]
  have hso : ev_slices_Sort_Lint_int n r0 = some r1 := by
    rw [so_int r0 (by omega) (by rw [hr0]; simp) trivial, isort_is hperm (by rw [hr1]; simp; omega)]
  have hends := ev_oddEnds (n := n) hn (s := s) (o := -60 * k) (by omega) (by omega)
  rw [← he, ← hH, ← hr0] at hends
  have gap : ∀ x : Int, x ≤ s - 1 → e ≤ x → x * 60 + 60 < max (60 * s) (x * 60 - -60 * k) := fun x h1 h2 => by omega
  obtain ⟨lb, hB⟩ := ev_joinedZ (n := n) hn (l := []) (by simp) (by simp)
  have hres : e = s - k := e1
  by_cases hk2 : k = 2
  · obtain ⟨r, hr⟩ : ∃ r : List Int, r = [0, 1, e, e + 1, s, H, H + 1] := ⟨_, rfl⟩
    have hco : ev_slices_Compact_Lint_int n r1 = some r := by
      have : s - 1 = e + 1 := by omega
      rw [ev_slices_Compact_Lint_int, chk_of (room_iff.2 (by rw [hr1]; simp)), hr1, this, compact7 (by omega) (by omega) (by omega) (by omega) (by omega) (by omega), hr]
    have hdrop : (List.drop (0 : Int).toNat (List.take (((r.length : Int) - 1) : Int).toNat r)) = [0, 1, e, e + 1, s, H] := by rw [hr]; rfl
    have hrl : r.length = 7 := by rw [hr]; rfl
    obtain ⟨m, rfl⟩ : ∃ m, n = m + 7 := ⟨n - 7, by omega⟩
    rw [ev_zone_Odd, bind_of (ev_zCheck hn (by decide) hz), cond_if, if_neg (by simp), bind_of hends, cond_if, if_pos (by rfl), bind_of hso, bind_of hco, chk_of (in64_of (by omega)), chk_of (by rw [hrl]; decide), hdrop]
    have st := fun (i : Nat) (x y : Int) (a b : List (Int × Int)) (mm : Nat) (q : Nat) => odd_step (n := m + 7) hn (s := s) (o := -60 * k) (by omega) (by omega) (r := r) (ls := [0, 1, e, e + 1, s, H]) (i := i) (x := x) (y := y) (a := a) (b := b) (m := mm) (q := q)
    rw [← he, ← hH] at st
    obtain ⟨la, hA⟩ := ev_joinedZ (n := m + 7) hn (l := [(e, e + 1 - 1), (e + 1, s - 1)]) (by simp) (fun x hx => by
      simp only [List.mem_cons, List.not_mem_nil, or_false] at hx; rcases hx with rfl | rfl <;> simp only <;> omega)
    have s0 := st 0 0 1 [] [] (m + 6) 1 (by rfl) (by rw [hr]; rfl) (by rw [hdrop]; simp) (by omega) (by omega) (by omega) (gap 0) (by simp) (by simp) (by rw [if_pos (by omega), if_neg (by omega)])
    have s1 := st 1 1 e [] [] (m + 5) 1 (by rfl) (by rw [hr]; rfl) (by rw [hdrop]; simp) (by omega) (by omega) (by omega) (gap 1) (by simp) (by simp) (by rw [if_pos (by omega), if_neg (by omega)])
    have s2 := st 2 e (e + 1) [] [] (m + 4) 2 (by rfl) (by rw [hr]; rfl) (by rw [hdrop]; simp) (by omega) (by omega) (by omega) (gap _) (by simp) (by simp) (by rw [if_pos (by omega), if_pos (by omega)])
    have s3 := st 3 (e + 1) s [(e, e + 1 - 1)] [] (m + 3) 2 (by rfl) (by rw [hr]; rfl) (by rw [hdrop]; simp) (by omega) (by omega) (by omega) (gap _) (by simp) (by simp) (by rw [if_pos (by omega), if_pos (by omega)])
    have s4 := st 4 s H [(e, e + 1 - 1), (e + 1, s - 1)] [] (m + 2) 1 (by rfl) (by rw [hr]; rfl) (by rw [hdrop]; simp) (by omega) (by omega) (by omega) (gap _) (by simp) (by simp) (by rw [if_neg (by omega), if_pos (by omega)])
    have s5 := st 5 H (H + 1) [(e, e + 1 - 1), (e + 1, s - 1)] [] (m + 1) 1 (by rfl) (by rw [hr]; rfl) (by rw [hdrop]; simp) (by omega) (by omega) (by omega) (gap _) (by simp) (by simp) (by rw [if_neg (by omega), if_pos (by omega)])
    simp only [Nat.lt_irrefl, if_false, Nat.one_ne_zero, if_true, List.nil_append, Nat.not_lt_zero, show (1 : Nat) < 2 by decide, List.cons_append, show (2 : Nat) ≠ 0 by decide] at s0 s1 s2 s3 s4 s5
    have s6 := odd_end (n := m + 7) (r := r) (ls := [0, 1, e, e + 1, s, H]) (i := 6) (m := m) (o := 0) (z := 0) [(60 * s, -60 * k)] (by rw [hdrop]; simp) hA hB
    refine (s0.trans (s1.trans (s2.trans (s3.trans (s4.trans (s5.trans s6)))))).trans ?_
    rw [isort2 (cz_lt (by simp only; omega)), joinZ2 (by simp only; omega)]
    have h2 : max (e + 1 - 1) (s - 1) = s - 1 := by omega
    show some ([(e, max (e + 1 - 1) (s - 1))], joinZ [] (isort cz []), (0 : Int)) = _
    rw [h2, hres]
    rfl
  · obtain ⟨r, hr⟩ : ∃ r : List Int, r = [0, 1, e, e + 1, s - 1, s, H, H + 1] := ⟨_, rfl⟩
    have hco : ev_slices_Compact_Lint_int n r1 = some r := by
      rw [ev_slices_Compact_Lint_int, chk_of (room_iff.2 (by rw [hr1]; simp)), hr1, compact8 (by omega) (by omega) (by omega) (by omega) (by omega) (by omega) (by omega), hr]
    have hdrop : (List.drop (0 : Int).toNat (List.take (((r.length : Int) - 1) : Int).toNat r)) = [0, 1, e, e + 1, s - 1, s, H] := by rw [hr]; rfl
    have hrl : r.length = 8 := by rw [hr]; rfl
    obtain ⟨m, rfl⟩ : ∃ m, n = m + 8 := ⟨n - 8, by omega⟩
    rw [ev_zone_Odd, bind_of (ev_zCheck hn (by decide) hz), cond_if, if_neg (by simp), bind_of hends, cond_if, if_pos (by rfl), bind_of hso, bind_of hco, chk_of (in64_of (by omega)), chk_of (by rw [hrl]; decide), hdrop]
    have st := fun (i : Nat) (x y : Int) (a b : List (Int × Int)) (mm : Nat) (q : Nat) => odd_step (n := m + 8) hn (s := s) (o := -60 * k) (by omega) (by omega) (r := r) (ls := [0, 1, e, e + 1, s - 1, s, H]) (i := i) (x := x) (y := y) (a := a) (b := b) (m := mm) (q := q)
    rw [← he, ← hH] at st
    obtain ⟨la, hA⟩ := ev_joinedZ (n := m + 8) hn (l := [(e, e + 1 - 1), (e + 1, s - 1 - 1), (s - 1, s - 1)]) (by simp) (fun x hx => by
      simp only [List.mem_cons, List.not_mem_nil, or_false] at hx; rcases hx with rfl | rfl | rfl <;> simp only <;> omega)
    have s0 := st 0 0 1 [] [] (m + 7) 1 (by rfl) (by rw [hr]; rfl) (by rw [hdrop]; simp) (by omega) (by omega) (by omega) (gap 0) (by simp) (by simp) (by rw [if_pos (by omega), if_neg (by omega)])
    have s1 := st 1 1 e [] [] (m + 6) 1 (by rfl) (by rw [hr]; rfl) (by rw [hdrop]; simp) (by omega) (by omega) (by omega) (gap 1) (by simp) (by simp) (by rw [if_pos (by omega), if_neg (by omega)])
    have s2 := st 2 e (e + 1) [] [] (m + 5) 2 (by rfl) (by rw [hr]; rfl) (by rw [hdrop]; simp) (by omega) (by omega) (by omega) (gap _) (by simp) (by simp) (by rw [if_pos (by omega), if_pos (by omega)])
    have s3 := st 3 (e + 1) (s - 1) [(e, e + 1 - 1)] [] (m + 4) 2 (by rfl) (by rw [hr]; rfl) (by rw [hdrop]; simp) (by omega) (by omega) (by omega) (gap _) (by simp) (by simp) (by rw [if_pos (by omega), if_pos (by omega)])
    have s4 := st 4 (s - 1) s [(e, e + 1 - 1), (e + 1, s - 1 - 1)] [] (m + 3) 2 (by rfl) (by rw [hr]; rfl) (by rw [hdrop]; simp) (by omega) (by omega) (by omega) (gap _) (by simp) (by simp) (by rw [if_pos (by omega), if_pos (by omega)])
    have s5 := st 5 s H [(e, e + 1 - 1), (e + 1, s - 1 - 1), (s - 1, s - 1)] [] (m + 2) 1 (by rfl) (by rw [hr]; rfl) (by rw [hdrop]; simp) (by omega) (by omega) (by omega) (gap _) (by simp) (by simp) (by rw [if_neg (by omega), if_pos (by omega)])
    have s6 := st 6 H (H + 1) [(e, e + 1 - 1), (e + 1, s - 1 - 1), (s - 1, s - 1)] [] (m + 1) 1 (by rfl) (by rw [hr]; rfl) (by rw [hdrop]; simp) (by omega) (by omega) (by omega) (gap _) (by simp) (by simp) (by rw [if_neg (by omega), if_pos (by omega)])
    simp only [Nat.lt_irrefl, if_false, Nat.one_ne_zero, if_true, List.nil_append, Nat.not_lt_zero, show (1 : Nat) < 2 by decide, List.cons_append, show (2 : Nat) ≠ 0 by decide] at s0 s1 s2 s3 s4 s5 s6
    have s7 := odd_end (n := m + 8) (r := r) (ls := [0, 1, e, e + 1, s - 1, s, H]) (i := 7) (m := m) (o := 0) (z := 0) [(60 * s, -60 * k)] (by rw [hdrop]; simp) hA hB
    refine (s0.trans (s1.trans (s2.trans (s3.trans (s4.trans (s5.trans (s6.trans s7))))))).trans ?_
    rw [isort3 (cz_lt (by simp only; omega)) (cz_lt (by simp only; omega)), joinZ3 (by simp only; omega) (by simp only; omega)]
    have h2 : max (max (e + 1 - 1) (s - 1 - 1)) (s - 1) = s - 1 := by omega
    show some ([(e, max (max (e + 1 - 1) (s - 1 - 1)) (s - 1))], joinZ [] (isort cz []), (0 : Int)) = _
    rw [h2, hres]
    rfl
/-- the faults, one after another -/
def fsZ (s kind : Int) (i : Nat) : List (Int × Int) := (List.range i).map fun j : Nat => (s + 1 + (j : Int), kind)
theorem fsZ_succ (s kind : Int) (i : Nat) : fsZ s kind (i + 1) = fsZ s kind i ++ [(s + 1 + (i : Int), kind)] := by
  unfold fsZ; rw [List.range_succ, List.map_append]; rfl
theorem zp_l {n : Nat} {minutes2 from_1 v4 v3 kind : Int} {s k : Int} (hs : Int.tmod from_1 60000 + 100 = s) (hk : 2 + Int.tmod minutes2 19 = k) (rs : 100 ≤ s ∧ s ≤ 70000) (rk : 2 ≤ k ∧ k ≤ 20) (z : Int) (zl : List (Int × Int)) (res : Option Bool) (hres : ∀ m, ev_top_TopZonePulse_l1 n minutes2 from_1 kind v4 v3 (m + 1) k z (fsZ s kind k.toNat) zl = res) :
    ∀ (d m i : Nat), (i : Int) + d = k → d < m → ev_top_TopZonePulse_l1 n minutes2 from_1 kind v4 v3 m (i : Int) z (fsZ s kind i) zl = res := by
  intro d
  induction d with
  | zero =>
    intro m i hi hm
    cases m with
    | zero => omega
    | succ m =>
      have e : k = (i : Int) := by omega
      have e2 : k.toNat = i := by omega
      have := hres m
      rw [e2, e] at this; exact this
  | succ d ih =>
    intro m i hi hm
    cases m with
    | zero => omega
    | succ m =>
      have hl : (fsZ s kind i).length = i := by simp [fsZ]
      rw [ev_top_TopZonePulse_l1, hk, hs, cond_if, if_pos (by simp only [decide_eq_true_eq]; omega), chk_of (in64_of (by omega)), chk_of (in64_of (by omega)), chk_of (room_iff.2 (by simp [hl]; omega)), chk_of (in64_of (by omega))]
      have := ih m (i + 1) (by omega) (by omega)
      rw [fsZ_succ] at this
      rw [← this]; congr 1
theorem topZonePulse_evx {from_1 : Int} {minutes2 : Int} {v3 : Int} {v4 : Int} (h0 : (Lit.int .u16 from_1).wf = true) (h1 : (Lit.int .u8 minutes2).wf = true) (h2 : (Lit.int .u8 v3).wf = true ∧ (Lit.int .u8 v4).wf = true) :
    ∃ n, ev_top_TopZonePulse n from_1 minutes2 v3 v4 = some true := by
  have w0 : 0 ≤ from_1 ∧ from_1 ≤ 65535 := by
    simpa only [Lit.wf, Bool.and_eq_true, decide_eq_true_eq, show IntKind.u16.min = 0 from rfl, show IntKind.u16.max = 65535 from rfl] using h0
  have w1 := wf8.1 h1
  have w3 := wf8.1 h2.1
  have w4 := wf8.1 h2.2
  refine ⟨6100, ?_⟩
  have t1 : Int.tmod from_1 60000 = from_1 % 60000 := Int.tmod_eq_emod_of_nonneg w0.1
  have t2 : Int.tmod minutes2 19 = minutes2 % 19 := Int.tmod_eq_emod_of_nonneg w1.1
  have t3 : Int.tmod v3 2 = v3 % 2 := Int.tmod_eq_emod_of_nonneg w3.1
  obtain ⟨s, hs⟩ : ∃ s, Int.tmod from_1 60000 + 100 = s := ⟨_, rfl⟩
  obtain ⟨k, hk⟩ : ∃ k, 2 + Int.tmod minutes2 19 = k := ⟨_, rfl⟩
  have rs : 100 ≤ s ∧ s ≤ 60099 := by omega
  have rk : 2 ≤ k ∧ k ≤ 20 := by omega
  have main : ∀ (kind o : Int), (kind = 1 ∧ o = -60 * k ∧ v3 % 2 = 1) ∨ (kind = 2 ∧ o = 60 * k ∧ v3 % 2 ≠ 1) → ∀ m, ev_top_TopZonePulse_l1 6100 minutes2 from_1 kind v4 v3 (m + 1) k 0 (fsZ s kind k.toNat) [(60 * s, o)] = some true := by
    intro kind o hko m
    have hkt : ((k.toNat : Nat) : Int) = k := by omega
    have hok : OkFs s (s + k + v4) (fsZ s kind k.toNat) := by
      refine ⟨fun f hf => ?_, ?_, by simp [fsZ]; omega⟩
      · obtain ⟨j, hj, rfl⟩ := List.mem_map.1 hf
        have := List.mem_range.1 hj
        refine ⟨by simp only; omega, by simp only; omega, ?_⟩
        rcases hko with h | h
        · exact .inl h.1
        · exact .inr h.1
      · unfold fsZ
        rw [List.pairwise_map]
        exact List.pairwise_lt_range.imp fun {a b} h => by simp only; omega
    have hadj : adjP (fsZ s kind k.toNat) = (if kind = 1 then -k else k) := by
      have : ∀ i : Nat, adjP (fsZ s kind i) = (if kind = 1 then -(i : Int) else (i : Int)) := by
        intro i
        induction i with
        | zero => simp [adjP, fsZ]
        | succ i ih =>
          rw [fsZ_succ]
          unfold adjP at ih ⊢
          rw [List.map_append, List.sum_append, ih]
          simp only [List.map_cons, List.map_nil, List.sum_cons, List.sum_nil]
          split <;> omega
      rw [this, hkt]
    have hR := ev_Run (n := 6100) (by decide) (sh := Int.tmod s 720) (by rw [Int.tmod_eq_emod_of_nonneg (by omega)]; omega) (from_ := s) (until_ := s + k + v4) (by omega) (by omega) hok
    rw [hadj] at hR
    have hzz : OkZ 0 [(60 * s, o)] := ⟨fun c hc => by rw [List.mem_singleton] at hc; subst hc; simp only; omega, List.pairwise_singleton _ _, by simp⟩
    obtain ⟨dd, hS⟩ := ev_zSays (n := 6100) (by decide) (o := 0) (by decide) hzz (t := 60 * (s + k + v4)) (by omega)
    have hoff : offP 0 [(60 * s, o)] (60 * (s + k + v4)) = o := by simp only [offP]; rw [if_pos (by omega)]
    rw [hoff] at hS
    obtain ⟨q, hq⟩ : ∃ q, q = (60 * (s + k + v4) + o) % 86400 := ⟨_, rfl⟩
    rw [← hq] at hS
    have hq0 : 0 ≤ q ∧ q < 86400 := by omega
    have u1 : Int.tmod q 60 = 0 := by rw [Int.tmod_eq_emod_of_nonneg hq0.1]; omega
    have u2 : Int.tmod q 43200 = q % 43200 := Int.tmod_eq_emod_of_nonneg hq0.1
    have u3 : Int.tdiv (q % 43200) 60 = q % 43200 / 60 := Int.tdiv_eq_ediv_of_nonneg (by omega)
    have u4 : Int.tmod s 720 = s % 720 := Int.tmod_eq_emod_of_nonneg (by omega)
    obtain ⟨v, hv⟩ : ∃ v, v = (Int.tmod s 720 + (s + k + v4 - s) + (if kind = 1 then -k else k)) % 720 := ⟨_, rfl⟩
    rw [← hv] at hR
    have hvq : q % 43200 / 60 = v := by
      rcases hko with ⟨rfl, rfl, _⟩ | ⟨rfl, rfl, _⟩
      · rw [if_pos rfl, u4] at hv; omega
      · rw [if_neg (by decide), u4] at hv; omega
    have tail : ∀ A : List (Int × Int) × List (Int × Int) × Int, ((v3 % 2 = 1 ∧ A.1 = [(s - k, s - 1)] ∧ A.2.1 = []) ∨ (v3 % 2 ≠ 1 ∧ A.1 = [] ∧ A.2.1 = [(s, s + k - 1)])) → ev_top_TopZonePulse_j2 6100 v3 minutes2 A = some true := by
      intro A hA
      rw [ev_top_TopZonePulse_j2, t3, cond_if]
      have last : ∀ x : Int × Int, x.2 - x.1 + 1 = k → -100000 ≤ x.1 ∧ x.1 ≤ 100000 → -100000 ≤ x.2 ∧ x.2 ≤ 100000 → ev_top_TopZonePulse_j3 6100 minutes2 [x] [] = some true := by
        intro x hx hx1 hx2
        rw [ev_top_TopZonePulse_j3, cond_if, if_pos (by simp), cond_if, if_pos (by simp), idx_of (x := x) (by decide) (by rfl), chk_of (in64_of (by omega)), chk_of (in64_of (by omega)), hk, cond_if, if_pos (by simpa using hx), bind_of pubPulseZ_ev, cond_if, if_pos rfl, bind_of pubTownsZ_ev]
      rcases hA with ⟨h1, h2, h3⟩ | ⟨h1, h2, h3⟩
      · rw [if_pos (by simpa using h1), h2, h3]
        exact last _ (by simp only; omega) (by simp only; omega) (by simp only; omega)
      · rw [if_neg (by simpa using h1), h2, h3]
        exact last _ (by simp only; omega) (by simp only; omega) (by simp only; omega)
    have hO : ∃ A, ev_zone_Odd 6100 0 [(60 * s, o)] = some A ∧ A.2.2 = 0 ∧ ((v3 % 2 = 1 ∧ A.1 = [(s - k, s - 1)] ∧ A.2.1 = []) ∨ (v3 % 2 ≠ 1 ∧ A.1 = [] ∧ A.2.1 = [(s, s + k - 1)])) := by
      rcases hko with ⟨_, rfl, h⟩ | ⟨_, rfl, h⟩
      · exact ⟨_, ev_OddB (by decide) (by omega) rk, rfl, .inl ⟨h, rfl, rfl⟩⟩
      · exact ⟨_, ev_OddF (by decide) (by omega) rk, rfl, .inr ⟨h, rfl, rfl⟩⟩
    obtain ⟨A, hA, hA0, hA1⟩ := hO
    rw [ev_top_TopZonePulse_l1, hk, hs, cond_if, if_neg (by simp), bind_of hR, chk_of (in64_of (by omega)), bind_of hS, bind_of hA, cond_if, if_neg (by simp), cond_if, if_neg (by simp), cond_if, if_neg (by simp [hA0]), cond_if]
    simp only [u1, u2, u3]
    rw [if_neg (by simp), chk_of (in64_of (by omega)), cond_if, if_neg (by simp [hvq])]
    exact tail A hA1
  have hloop : ∀ (kind o : Int), (kind = 1 ∧ o = -60 * k ∧ v3 % 2 = 1) ∨ (kind = 2 ∧ o = 60 * k ∧ v3 % 2 ≠ 1) → ev_top_TopZonePulse_j0 6100 minutes2 from_1 v4 v3 kind 0 [(60 * s, o)] = some true := by
    intro kind o hko
    rw [ev_top_TopZonePulse_j0]
    exact zp_l hs hk (by omega) rk 0 _ (some true) (main kind o hko) k.toNat 6100 0 (by omega) (by omega)
  rw [ev_top_TopZonePulse, chk_of (in64_of (by omega)), hs, chk_of (in64_of (by omega)), chk_of (in64_of (by omega)), hk, chk_of (in64_of (by omega)), chk_of (in64_of (by omega)), chk_of (in64_of (by omega)), chk_of (in64_of (by omega)), chk_of (in64_of (by omega)), chk_of (in64_of (by omega)), t3, cond_if]
  by_cases hb : v3 % 2 = 1
  · rw [if_pos (by simpa using hb), chk_of (in64_of (by omega)), idx_of (x := (60 * s, 60 * k)) (by decide) (by rfl)]
    exact hloop 1 _ (.inl ⟨rfl, rfl, hb⟩)
  · rw [if_neg (by simpa using hb)]
    exact hloop 2 _ (.inr ⟨rfl, rfl, hb⟩)
end Go.Proofs.Ytgkoldcmbcbbpaa.Sy
