/- The shop: its error, and the primes that the reference misses. -/
import Derived.Test.YtabjhlfgcmmbfaaEvMissing
import Derived.Test.YtabjhlfgcmmbfaaEvTurns
import Derived.Test.YtabjhlfgcmmbfaaEvKnownB
set_option linter.unusedSimpArgs false
set_option linter.unusedVariables false
namespace Go.Proofs.Ytabjhlfgcmmbfaa.Sy
open Go.RowKit
set_option maxRecDepth 100000

/-- the reference's list -/
theorem ref_l2 {n : Nat} {W : List Int} {p i7 : Int} {acc : List Int} {K : Int → Int → List Int → List Int → Option (List Int)} (hp : 2 ≤ p ∧ p ≤ 1000000) (hW : W.length ≤ 100) (hacc : acc.length ≤ 2000000) :
    ∀ (k m i : Nat) (b : Bool), i + k = W.length → k < m → ev_ref01_Missing_l2 n W p acc i7 K m b (i : Int) = K i7 (p + 1) W (if (b || (W.drop i).any fun c => Int.tmod c p == 0) = true then acc else acc ++ [p]) := by
  intro k
  induction k with
  | zero =>
    intro m i b hi hm
    obtain ⟨m, rfl⟩ : ∃ m', m = m' + 1 := ⟨m - 1, by omega⟩
    rw [ev_ref01_Missing_l2, cond_if, if_neg (by simp; omega), List.drop_eq_nil_of_le (by omega), List.any_nil, Bool.or_false, cond_if]
    cases b with
    | true => rw [if_neg (by decide), if_pos rfl, chk_of (in64_of (by omega))]
    | false => rw [if_pos (by decide), if_neg (by decide), chk_of (room_iff.2 (by simp; omega)), chk_of (in64_of (by omega))]
  | succ k ih =>
    intro m i b hi hm
    obtain ⟨m, rfl⟩ : ∃ m', m = m' + 1 := ⟨m - 1, by omega⟩
    have hlt : i < W.length := by omega
    rw [ev_ref01_Missing_l2, cond_if, if_pos (decide_eq_true (by omega)), List.drop_eq_getElem_cons hlt, List.any_cons, cond_if]
    cases b with
    | true =>
      rw [if_pos rfl, chk_of (in64_of (by omega))]
      refine (ih m (i + 1) true (by omega) (by omega)).trans ?_
      simp
    | false =>
      rw [if_neg (by decide), idx_nat (List.getElem?_eq_getElem hlt), chk_of (by simp only [bne_iff_ne, ne_eq]; omega), chk_of (in64_of (by omega))]
      refine (ih m (i + 1) _ (by omega) (by omega)).trans ?_
      rw [Bool.false_or]
theorem ref_strip {n p : Nat} {W acc : List Int} {K : Int → Int → List Int → List Int → Option (List Int)} (hn : 200 < n) (hp : 2 ≤ p ∧ p ≤ 1000000) (hW : W.length ≤ 100) (hacc : acc.length ≤ 2000000) : ∀ (k m N : Nat), 1 ≤ N → N ≤ 1000000 → N < 2 ^ k → k < m →
    ev_ref01_Missing_l1 n (p : Int) W acc K m (N : Int) = K (stripN p k N : Nat) ((p + 1 : Nat) : Int) W (if (W.any fun c => Int.tmod c (p : Int) == 0) = true then acc else acc ++ [(p : Int)]) := by
  intro k
  induction k with
  | zero => intro m N h1 _ h2; simp at h2; omega
  | succ k ih =>
    intro m N h1 hN h2 hm
    obtain ⟨m, rfl⟩ : ∃ m', m = m' + 1 := ⟨m - 1, by omega⟩
    rw [ev_ref01_Missing_l1, chk_of (by simp only [bne_iff_ne, ne_eq]; omega), tmod_nat, tdiv_nat, cond_if]
    unfold stripN
    by_cases h : N % p = 0
    · obtain ⟨a, b, c⟩ := nat_div hp.1 h1 h2 h
      rw [if_pos (by rw [h]; rfl), if_pos h, chk_of (by simp only [bne_iff_ne, ne_eq]; omega), chk_of (in64_of (by omega))]
      exact ih m (N / p) a (by omega) b (by omega)
    · rw [if_neg (by rw [beq_iff_eq]; exact fun e => h (Int.ofNat.inj e)), if_neg h]
      have := ref_l2 (n := n) (W := W) (p := (p : Int)) (i7 := (N : Int)) (acc := acc) (K := K) (by omega) hW hacc W.length n 0 false (by omega) (by omega)
      rw [List.drop_zero, Bool.false_or] at this
      exact this
theorem ref_Missing_l {n : Nat} (hn : 200 < n) {W : List Int} (hW : W.length ≤ 100) : ∀ (m p N : Nat) (l : List Nat) (acc : List Int), 1 ≤ N → N ≤ 1000000 → 2 ≤ p → (N = 1 ∨ p ≤ 1000000) → Rough p N → PrimesOf N l → (if N = 1 then 1 else 1000004 - p) < m → acc.length + l.length ≤ 2000000 →
    ev_ref01_Missing_l0 n m (N : Int) (p : Int) W acc = some (acc ++ missP l W) := by
  intro m
  induction m with
  | zero => intro p N l acc _ _ _ _ _ _ h; omega
  | succ m ih =>
    intro p N l acc h1 hN hp hp2 hr hl hm hlen
    rw [ev_ref01_Missing_l0, cond_if]
    by_cases h : N = 1
    · subst h
      have : l = [] := primesOf_eq hl primesOf_one
      subst this
      rw [if_neg (by decide)]
      simp [missP]
    · rw [if_neg h] at hm
      have hpN : p ≤ N := by
        rcases Nat.lt_or_ge N p with h2 | h2
        · exact absurd (Nat.dvd_refl N) (hr N (by omega) h2)
        · exact h2
      rw [if_pos (decide_eq_true (by omega)), chk_of (by simp only [bne_iff_ne, ne_eq]; omega), tmod_nat, cond_if]
      by_cases hd : p ∣ N
      · obtain ⟨l', e, hl', hr', hs1, hs2⟩ := primes_step (k := 40) h1 hp hr hd (by omega) hl
        subst e
        simp only [List.length_cons] at hlen
        rw [if_neg (by rw [Nat.mod_eq_zero_of_dvd hd]; decide), ref_strip hn ⟨hp, by omega⟩ hW (by omega) 40 n N h1 hN (by omega) (by omega)]
        have hps : stripN p 40 N = 1 ∨ p + 1 ≤ 1000000 := by
          by_cases hs : stripN p 40 N = 1
          · exact .inl hs
          · right
            rcases Nat.lt_or_ge (stripN p 40 N) (p + 1) with h2 | h2
            · exact absurd (Nat.dvd_refl _) (hr' _ (by omega) h2)
            · omega
        by_cases hb : (W.any fun c => Int.tmod c (p : Int) == 0) = true
        · rw [if_pos hb, ih (p + 1) _ l' acc hs1 (by omega) (by omega) hps hr' hl' (by split <;> omega) (by omega)]
          unfold missP
          rw [List.map_cons, List.filter_cons_of_neg (by simp [hb])]
        · have hb' : (W.any fun c => Int.tmod c (p : Int) == 0) = false := by simpa using hb
          rw [if_neg hb, ih (p + 1) _ l' _ hs1 (by omega) (by omega) hps hr' hl' (by split <;> omega) (by simp; omega)]
          unfold missP
          rw [List.map_cons, List.filter_cons_of_pos (by simp [hb'])]
          simp
      · have hpos : 0 < N % p := by
          rcases Nat.eq_zero_or_pos (N % p) with h0 | h0
          · exact absurd (Nat.dvd_of_mod_eq_zero h0) hd
          · exact h0
        have hpne : p ≠ N := fun e => hd (by rw [e]; exact Nat.dvd_refl _)
        rw [if_pos (decide_eq_true (show (0 : Int) < ((N % p : Nat) : Int) from Int.ofNat_lt.2 hpos)), chk_of (in64_of (by omega))]
        exact ih (p + 1) N l acc h1 hN (by omega) (.inr (by omega)) (rough_succ hr hd) hl (by rw [if_neg h]; omega) hlen
theorem ref_Missing {n : Nat} (hn : 1000100 < n) {W : List Int} (hW : W.length ≤ 100) {N : Nat} {l : List Nat} (h1 : 1 ≤ N ∧ N ≤ 1000000) (hl : PrimesOf N l) : ev_ref01_Missing n (N : Int) W = some (missP l W) := by
  have := hl.len h1.1
  rw [ev_ref01_Missing]
  have := ref_Missing_l (n := n) (by omega) hW n 2 N l [] h1.1 h1.2 (by omega) (.inr (by omega)) (rough_two _) hl (by split <;> omega) (by simp; omega)
  rwa [List.nil_append] at this
/-- the error of a shop -/
def adj (l : List Int) : Bool := (List.range (l.length - 1)).all fun i => decide (l.getD i 0 < l.getD (i + 1) 0)
def cutB (l : List Int) : Bool := decide (0 < l.length) && (l.all fun z => decide (6 ≤ z) && decide (z ≤ 400)) && decide (l.Pairwise (· < ·))
def chkS (W P : List Int) : Int := if 12 < W.length ∨ 12 < P.length then 5 else if cutB W = true ∧ cutB P = true then 0 else 2
theorem cutB_ok {l : List Int} (h : cutB l = true) (hl : l.length ≤ 12) : OkCut l := by
  unfold cutB at h
  simp only [Bool.and_eq_true, decide_eq_true_eq] at h
  refine ⟨fun x hx => ?_, h.2, by omega⟩
  have := List.all_eq_true.1 h.1.2 x hx
  simpa using this
theorem pairwise_adj {R : Int → Int → Prop} (ht : ∀ a b c, R a b → R b c → R a c) {l : List Int} (h : ∀ (i : Nat) (hi : i + 1 < l.length), R l[i] l[i + 1]) : l.Pairwise R := by
  rw [List.pairwise_iff_getElem]
  intro i j hi hj hij
  obtain ⟨d, rfl⟩ : ∃ d, j = i + 1 + d := ⟨j - i - 1, by omega⟩
  clear hij
  induction d with
  | zero => exact h i hj
  | succ d ih => exact ht _ _ _ (ih (by omega)) (h (i + 1 + d) hj)
theorem ev_sorted {n : Nat} {l : List Int} (hl : l.length ≤ 1000) (hn : 1000 < n) : ev_slices_IsSorted_Lint_int n l = some (decide (l.Pairwise (· ≤ ·))) := by
  have key : ∀ (k m : Nat), (k < l.length ∨ l.length = 0 ∧ k = 0) → k < m → ∃ b : Bool, ev_slices_IsSorted_Lint_int_l0 n l m (k : Int) = some b ∧ (b = true ↔ ∀ i, (hi : i + 1 < l.length) → i < k → l[i] ≤ l[i + 1]) := by
    intro k
    induction k with
    | zero =>
      intro m _ hm
      obtain ⟨m, rfl⟩ : ∃ m', m = m' + 1 := ⟨m - 1, by omega⟩
      refine ⟨true, by rw [ev_slices_IsSorted_Lint_int_l0, cond_if, if_neg (by simp)], by simp⟩
    | succ k ih =>
      intro m hk hm
      obtain ⟨m, rfl⟩ : ∃ m', m = m' + 1 := ⟨m - 1, by omega⟩
      have hk : k + 1 < l.length := by omega
      have e : (((k + 1 : Nat) : Int) - 1) = (k : Int) := by omega
      obtain ⟨b, hb, hbi⟩ := ih m (by omega) (by omega)
      rw [ev_slices_IsSorted_Lint_int_l0, cond_if, if_pos (decide_eq_true (by omega)), idx_nat (List.getElem?_eq_getElem hk), chk_of (in64_of (by omega)), e, idx_nat (List.getElem?_eq_getElem (show k < l.length by omega)), less_ev, bind_of rfl, cond_if]
      by_cases h : l[k + 1] < l[k]
      · rw [if_pos (decide_eq_true h)]
        refine ⟨false, rfl, ?_⟩
        simp only [Bool.false_eq_true, false_iff]
        intro hh
        have := hh k hk (by omega)
        omega
      · rw [if_neg (by simpa using h), chk_of (in64_of (by omega))]
        refine ⟨b, hb, hbi.trans ⟨fun hh i hi hik => ?_, fun hh i hi hik => hh i hi (by omega)⟩⟩
        rcases Nat.lt_or_ge i k with h1 | h1
        · exact hh i hi h1
        · have : i = k := by omega
          subst this; omega
  rw [ev_slices_IsSorted_Lint_int, chk_of (in64_of (by omega))]
  cases l with
  | nil =>
    obtain ⟨m, rfl⟩ : ∃ m, n = m + 1 := ⟨n - 1, by omega⟩
    rw [ev_slices_IsSorted_Lint_int_l0, cond_if, if_neg (by simp)]; simp
  | cons a t =>
    obtain ⟨b, hb, hbi⟩ := key t.length n (by simp) (by simp at hl; omega)
    rw [show (((a :: t).length : Int) - 1) = (t.length : Int) by simp, hb]
    congr 1
    rw [Bool.eq_iff_iff, hbi, decide_eq_true_eq]
    constructor
    · intro hh; exact pairwise_adj (R := fun a b => a ≤ b) (fun _ _ _ => Int.le_trans) fun i hi => hh i hi (by simp at hi; omega)
    · intro hh i hi _; exact List.pairwise_iff_getElem.1 hh i (i + 1) (by omega) hi (by omega)
theorem compact_lt {l : List Int} (h : l.Pairwise (· ≤ ·)) : (Lib.compact l).length < l.length ↔ ¬ l.Pairwise (· < ·) := by
  constructor
  · intro hl hp; rw [compact_asc hp] at hl; omega
  · intro hp
    have hex : ∃ i, ∃ hi : i + 1 < l.length, l[i] = l[i + 1] := by
      apply Classical.byContradiction
      intro hne
      apply hp
      refine pairwise_adj (R := fun a b => a < b) (fun _ _ _ h1 h2 => Int.lt_trans h1 h2) fun i hi => ?_
      have h1 := List.pairwise_iff_getElem.1 h i (i + 1) (by omega) hi (by omega)
      have h2 : l[i] ≠ l[i + 1] := fun e => hne ⟨i, hi, e⟩
      omega
    obtain ⟨i, hi, e⟩ := hex
    unfold Lib.compact Lib.compactUpTo
    rw [List.length_map]
    have h1 : (List.range l.length).filter (Lib.keeps l.toArray) ≠ List.range l.length := by
      intro h2
      have h3 := List.filter_eq_self.1 h2 (i + 1) (List.mem_range.2 hi)
      unfold Lib.keeps at h3
      simp only [Nat.add_sub_cancel, Bool.or_eq_true, bne_iff_ne, ne_eq] at h3
      simp [hi, show i < l.length by omega, e] at h3
    have h4 := List.length_filter_le (Lib.keeps l.toArray) (List.range l.length)
    rw [List.length_range] at h4
    rcases Nat.lt_or_ge ((List.range l.length).filter (Lib.keeps l.toArray)).length l.length with h5 | h5
    · exact h5
    · exact absurd (List.filter_sublist.eq_of_length (by rw [List.length_range]; omega)) h1
theorem ev_Check {n : Nat} (hn : 1000 < n) {W P : List Int} (hW : W.length ≤ 15) (hP : P.length ≤ 15) : ev_train_Check n W P = some (chkS W P) := by
  have one : ∀ (l : List Int) (k : Option Int), l.length ≤ 15 → cond ((l.length : Int) == 0) (some 2) ((ev_train_isTeeth n l).bind fun r9 => cond (!r9) (some 2) ((ev_slices_IsSorted_Lint_int n l).bind fun r10 => cond (!r10) (some 2) ((ev_slices_Clone_Lint_int n l).bind fun r11 => (ev_slices_Compact_Lint_int n r11).bind fun r12 => cond (decide ((r12.length : Int) < (l.length : Int))) (some 2) k))) = if cutB l = true then k else some 2 := by
    intro l k hl
    have te : ev_train_isTeeth n l = some (l.all fun z => decide (6 ≤ z) && decide (z ≤ 400)) := by rw [ev_train_isTeeth, bind_of (wi_train (by omega) (by omega))]
    rw [cond_if]
    by_cases h0 : l.length = 0
    · rw [if_pos (by simp [h0]), if_neg (by unfold cutB; simp [h0])]
    rw [if_neg (by rw [beq_iff_eq]; omega), bind_of te, cond_if]
    by_cases h1 : (l.all fun z => decide (6 ≤ z) && decide (z ≤ 400)) = true
    · rw [if_neg (by rw [h1]; decide), bind_of (ev_sorted (by omega) hn), cond_if]
      by_cases h2 : l.Pairwise (· ≤ ·)
      · rw [if_neg (by simp [h2]), ev_slices_Clone_Lint_int, chk_of (room_iff.2 (by simp; omega)), bind_of rfl, List.nil_append, ev_slices_Compact_Lint_int, chk_of (room_iff.2 (by omega)), bind_of rfl, cond_if]
        by_cases h3 : l.Pairwise (· < ·)
        · rw [if_neg (by rw [compact_asc h3]; simp), if_pos (by unfold cutB; rw [h1, decide_eq_true h3, decide_eq_true (by omega)]; rfl)]
        · rw [if_pos (decide_eq_true (Int.ofNat_lt.2 ((compact_lt h2).2 h3))), if_neg (by unfold cutB; simp [h3])]
      · rw [if_pos (by simp [h2]), if_neg (by
          unfold cutB
          intro h
          simp only [Bool.and_eq_true, decide_eq_true_eq] at h
          exact h2 (h.2.imp fun h => by omega))]
    · have h1' : (l.all fun z => decide (6 ≤ z) && decide (z ≤ 400)) = false := by simpa using h1
      rw [h1', if_pos (by rfl), if_neg (by unfold cutB; rw [h1']; simp)]
  obtain ⟨m, rfl⟩ : ∃ m, n = m + 3 := ⟨n - 3, by omega⟩
  unfold chkS
  rw [ev_train_Check, ev_train_Check_l0, cond_if, if_pos (by decide), chk_of (by decide), idx_of (x := W) (by decide) rfl, cond_if]
  by_cases w : 12 < W.length
  · rw [if_pos (decide_eq_true (by omega)), if_pos (.inl w)]
  rw [if_neg (by simp; omega), chk_of (by decide), show (0 : Int) + 1 = 1 from rfl,
    ev_train_Check_l0, cond_if, if_pos (by decide), chk_of (by decide), idx_of (x := P) (by decide) rfl, cond_if]
  by_cases p : 12 < P.length
  · rw [if_pos (decide_eq_true (by omega)), if_pos (.inr p)]
  rw [if_neg (by simp; omega), chk_of (by decide), show (1 : Int) + 1 = 2 from rfl, ev_train_Check_l0, cond_if, if_neg (by decide), if_neg (by omega),
    ev_train_Check_l1, cond_if, if_pos (by decide), chk_of (by decide), idx_of (x := W) (by decide) rfl, one W _ hW]
  by_cases c1 : cutB W = true
  · rw [if_pos c1, chk_of (by decide), show (0 : Int) + 1 = 1 from rfl, ev_train_Check_l1, cond_if, if_pos (by decide), chk_of (by decide), idx_of (x := P) (by decide) rfl, one P _ hP]
    by_cases c2 : cutB P = true
    · rw [if_pos c2, if_pos ⟨c1, c2⟩, chk_of (by decide), show (1 : Int) + 1 = 2 from rfl, ev_train_Check_l1, cond_if, if_neg (by decide)]
    · rw [if_neg c2, if_neg (fun h => c2 h.2)]
  · rw [if_neg c1, if_neg (fun h => c1 h.1)]
theorem ref_Counts {n : Nat} (hn : 100 < n) {l : List Int} (hl : l.length ≤ 15) : ev_ref01_Counts n l = some (cutB l) := by
  have key : ∀ (k m i : Nat), i + k = l.length → k < m → ∃ b : Bool, ev_ref01_Counts_l0 n l m (i : Int) = some (decide (0 < l.length) && ((l.drop i).all fun z => decide (6 ≤ z) && decide (z ≤ 400)) && b) ∧ (((l.drop i).all fun z => decide (6 ≤ z) && decide (z ≤ 400)) = true → (b = true ↔ ∀ j, (hj : j < l.length) → i ≤ j → (h0 : 0 < j) → l[j - 1] < l[j])) := by
    intro k
    induction k with
    | zero =>
      intro m i hi hm
      obtain ⟨m, rfl⟩ : ∃ m', m = m' + 1 := ⟨m - 1, by omega⟩
      refine ⟨true, ?_, fun _ => ⟨fun _ j hj hij => by omega, fun _ => rfl⟩⟩
      rw [ev_ref01_Counts_l0, cond_if, if_neg (by simp; omega), List.drop_eq_nil_of_le (by omega), List.all_nil]
      simp
    | succ k ih =>
      intro m i hi hm
      obtain ⟨m, rfl⟩ : ∃ m', m = m' + 1 := ⟨m - 1, by omega⟩
      have hlt : i < l.length := by omega
      obtain ⟨b, hb, hbi⟩ := ih m (i + 1) (by omega) (by omega)
      rw [show ((i + 1 : Nat) : Int) = (i : Int) + 1 by omega] at hb
      rw [ev_ref01_Counts_l0, cond_if, if_pos (decide_eq_true (by omega)), idx_nat (List.getElem?_eq_getElem hlt), bind_of (ev_refTeeth _), List.drop_eq_getElem_cons hlt, List.all_cons, cond_if]
      cases ht : (decide (6 ≤ l[i]) && decide (l[i] ≤ 400)) with
      | false => exact ⟨true, by rw [if_pos (by decide)]; simp, fun h => by simp at h⟩
      | true =>
        rw [if_neg (by decide), Bool.true_and, cond_if]
        by_cases h0 : 0 < i
        · have e : ((i : Int) - 1) = ((i - 1 : Nat) : Int) := by omega
          rw [if_pos (decide_eq_true (by omega)), chk_of (in64_of (by omega)), e, idx_nat (List.getElem?_eq_getElem (show i - 1 < l.length by omega)), cond_if]
          by_cases hx : l[i] ≤ l[i - 1]
          · rw [if_pos (decide_eq_true hx)]
            refine ⟨false, by simp, fun _ => ⟨fun h => (nomatch h), fun h => ?_⟩⟩
            have := h i hlt (Nat.le_refl _) h0; omega
          · rw [if_neg (by simpa using hx), chk_of (in64_of (by omega)), hb]
            refine ⟨b, rfl, fun ha => (hbi ha).trans ⟨fun h j hj hij hj0 => ?_, fun h j hj hij hj0 => h j hj (by omega) hj0⟩⟩
            rcases Nat.lt_or_ge i j with h1 | h1
            · exact h j hj h1 hj0
            · have : j = i := by omega
              subst this; omega
        · rw [if_neg (by simp; omega), chk_of (in64_of (by omega)), hb]
          refine ⟨b, rfl, fun ha => (hbi ha).trans ⟨fun h j hj hij hj0 => h j hj (by omega) hj0, fun h j hj hij hj0 => h j hj (by omega) hj0⟩⟩
  obtain ⟨b, hb, hbi⟩ := key l.length n 0 (by omega) (by omega)
  rw [ev_ref01_Counts]
  refine Eq.trans hb ?_
  rw [List.drop_zero] at hbi ⊢
  unfold cutB
  cases ha : (l.all fun z => decide (6 ≤ z) && decide (z ≤ 400)) with
  | false => simp
  | true =>
    congr 2
    rw [Bool.eq_iff_iff, hbi ha, decide_eq_true_eq]
    constructor
    · intro h
      refine pairwise_adj (R := fun a b => a < b) (fun _ _ _ h1 h2 => Int.lt_trans h1 h2) fun i hi => ?_
      have := h (i + 1) hi (by omega) (by omega)
      simpa using this
    · intro h j hj _ h0
      exact List.pairwise_iff_getElem.1 h (j - 1) j (by omega) hj (by omega)
theorem ref_Check {n : Nat} (hn : 100 < n) {W P : List Int} (hW : W.length ≤ 15) (hP : P.length ≤ 15) : ev_ref01_Check n W P = some (chkS W P) := by
  unfold chkS
  rw [ev_ref01_Check, cond_if]
  by_cases w : 12 < W.length
  · rw [if_pos (decide_eq_true (by omega)), if_pos (.inl w)]
  rw [if_neg (by simp; omega), cond_if]
  by_cases p : 12 < P.length
  · rw [if_pos (decide_eq_true (by omega)), if_pos (.inr p)]
  rw [if_neg (by simp; omega), if_neg (by omega), ev_ref01_Check_j0, bind_of (ref_Counts hn hW), cond_if]
  cases c1 : cutB W with
  | false => rw [if_pos (by decide), if_neg (by simp)]
  | true =>
    rw [if_neg (by decide), bind_of (ref_Counts hn hP), cond_if]
    cases c2 : cutB P with
    | false => rw [if_pos (by decide), if_neg (by simp)]
    | true => rw [if_neg (by decide), if_pos (by simp)]
def wantB (a b : Int) : Bool := decide (1 ≤ a) && decide (a ≤ 1000000) && (decide (1 ≤ b) && decide (b ≤ 1000000))
theorem wantB_iff {a b : Int} : wantB a b = true ↔ (1 ≤ a ∧ a ≤ 1000000) ∧ (1 ≤ b ∧ b ≤ 1000000) := by unfold wantB; simp
theorem ref_Wanted {n : Nat} {a b : Int} : ev_ref01_Wanted n a b = some (wantB a b) := by
  rw [ev_ref01_Wanted, cond_if, cond_if, cond_if]
  unfold wantB
  by_cases h1 : 1 ≤ a <;> by_cases h2 : a ≤ 1000000 <;> by_cases h3 : 1 ≤ b <;> simp [h1, h2, h3]
theorem ev_open {n : Nat} (hn : 1000 < n) {W P : List Int} (hW : W.length ≤ 15) (hP : P.length ≤ 15) {a b : Int} : ev_train_open n W P a b =
    some (if chkS W P ≠ 0 then ([], [], 0, 0, chkS W P) else if wantB a b = true then (W, P, (lowP a b).1, (lowP a b).2, 0) else ([], [], 0, 0, 2)) := by
  rw [ev_train_open, bind_of (ev_Check hn hW hP), cond_if]
  by_cases hc : chkS W P = 0
  · rw [if_neg (by simp [hc]), if_neg (by simp [hc])]
    have hw : ev_train_isWanted n a b = some (wantB a b) := by rw [ev_train_isWanted, bind_of (wi2_train (by omega))]; rfl
    rw [bind_of hw, cond_if]
    by_cases hb : wantB a b = true
    · have := wantB_iff.1 hb
      rw [if_neg (by simp [hb]), if_pos hb, bind_of (ev_lowest (by omega) (by omega) (by omega))]
    · have hb' : wantB a b = false := by simpa using hb
      rw [if_pos (by simp [hb']), if_neg hb]
  · rw [if_pos (by simpa using hc), if_pos hc]
end Go.Proofs.Ytabjhlfgcmmbfaa.Sy
