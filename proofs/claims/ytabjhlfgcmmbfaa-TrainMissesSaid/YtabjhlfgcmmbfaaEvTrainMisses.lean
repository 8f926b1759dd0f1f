/- The missing primes are those of the reference. -/
import Derived.Test.YtabjhlfgcmmbfaaGTrainMisses
import Derived.Test.YtabjhlfgcmmbfaaEvShop
set_option linter.unusedSimpArgs false
set_option linter.unusedVariables false
namespace Go.Proofs.Ytabjhlfgcmmbfaa.Sy
open Go.RowKit
set_option maxRecDepth 100000

def leB (x y : Int) : Bool := decide (x ≤ y)
theorem drop_one (x : Int) (l : List Int) : List.drop (1 : Int).toNat (List.take (((x :: l).length : Int) : Int).toNat (x :: l)) = l := by
  rw [Int.toNat_natCast, List.take_length]; rfl
theorem ev_merge {n : Nat} {r9 : (List Int) × Int} : ∀ (m : Nat) (a b acc : List Int), (∀ x ∈ a, ∀ y ∈ b, x ≠ y) → a.length + b.length < m → acc.length + a.length + b.length ≤ 2000000 →
    ev_law01_TrainMisses_l2 n r9 m r9.1 acc a b = ev_law01_TrainMisses_l2 n r9 (m - (a.length + b.length)) r9.1 (acc ++ List.merge a b leB) [] [] := by
  intro m
  induction m with
  | zero => intro a b acc _ h; omega
  | succ m ih =>
    intro a b acc hd hm hl
    have hin : in64 ((a.length : Int) + (b.length : Int)) = true := in64_of (by omega)
    cases a with
    | nil =>
      cases b with
      | nil => simp
      | cons y b =>
        have e0 : ([] : List Int).length = 0 := rfl
        have e1 : (y :: b).length = b.length + 1 := rfl
        have e2 : ([y] : List Int).length = 1 := rfl
        have hx := ih [] b (acc ++ [y]) (by simp) (by omega) (by rw [List.length_append]; omega)
        rw [show m + 1 - (([] : List Int).length + (y :: b).length) = m - (([] : List Int).length + b.length) by omega, ev_law01_TrainMisses_l2, chk_of hin, cond_if, if_pos (decide_eq_true (by omega)), cond_if, if_neg (by rw [beq_iff_eq]; omega), cond_if, if_neg (by simp), idx_of (x := y) (by decide) rfl, chk_of (room_iff.2 (by omega)), chk_of (by simp; omega), drop_one, hx]
        simp only [List.nil_merge, List.append_assoc, List.singleton_append]
    | cons x a =>
      cases b with
      | nil =>
        have e0 : ([] : List Int).length = 0 := rfl
        have e1 : (x :: a).length = a.length + 1 := rfl
        have e2 : ([x] : List Int).length = 1 := rfl
        have hx := ih a [] (acc ++ [x]) (by simp) (by omega) (by rw [List.length_append]; omega)
        rw [show m + 1 - ((x :: a).length + ([] : List Int).length) = m - (a.length + ([] : List Int).length) by omega, ev_law01_TrainMisses_l2, chk_of hin, cond_if, if_pos (decide_eq_true (by omega)), cond_if, if_pos (by simp), idx_of (x := x) (by decide) rfl, chk_of (room_iff.2 (by omega)), chk_of (by simp; omega), drop_one, hx]
        simp only [List.merge_right, List.append_assoc, List.singleton_append]
      | cons y b =>
        have e0 : (x :: a).length = a.length + 1 := rfl
        have e1 : (y :: b).length = b.length + 1 := rfl
        have e2 : ([x] : List Int).length = 1 := rfl
        have e3 : ([y] : List Int).length = 1 := rfl
        have hne := hd x (by simp) y (by simp)
        rw [ev_law01_TrainMisses_l2, chk_of hin, cond_if, if_pos (decide_eq_true (by omega)), cond_if, if_neg (by rw [beq_iff_eq]; omega), cond_if, if_pos (decide_eq_true (by omega)), idx_of (x := x) (by decide) rfl, idx_of (x := y) (by decide) rfl, cond_if]
        by_cases hxy : x < y
        · have hx := ih a (y :: b) (acc ++ [x]) (fun p hp q hq => hd p (by simp [hp]) q hq) (by omega) (by rw [List.length_append]; omega)
          rw [if_pos (decide_eq_true hxy), chk_of (room_iff.2 (by omega)), chk_of (by simp; omega), drop_one, hx, show m + 1 - ((x :: a).length + (y :: b).length) = m - (a.length + (y :: b).length) by omega, List.cons_merge_cons_pos leB _ _ (decide_eq_true (by omega))]
          simp only [List.append_assoc, List.singleton_append]
        · have hx := ih (x :: a) b (acc ++ [y]) (fun p hp q hq => hd p hp q (by simp [hq])) (by omega) (by rw [List.length_append]; omega)
          rw [if_neg (by simpa using hxy), chk_of (room_iff.2 (by omega)), chk_of (by simp; omega), drop_one, hx, show m + 1 - ((x :: a).length + (y :: b).length) = m - ((x :: a).length + b.length) by omega, List.cons_merge_cons_neg leB _ _ (by unfold leB; simp; omega)]
          simp only [List.append_assoc, List.singleton_append]
theorem merge_srt {a b : List Int} (ha : a.Pairwise (· < ·)) (hb : b.Pairwise (· < ·)) : List.merge a b leB = srt (a ++ b) := by
  refine sorted_eq ((List.merge_perm_append (xs := a) (ys := b) (le := leB)).trans (srt_perm _).symm) ?_ (srt_sorted _)
  have h := List.pairwise_merge (le := leB) (fun a b c h1 h2 => by unfold leB at *; simp at *; omega) (fun a b => by unfold leB; simp; omega) a b (ha.imp fun h => by unfold leB; simp; omega) (hb.imp fun h => by unfold leB; simp; omega)
  exact h.imp fun h => of_decide_eq_true h
theorem miss_asc {l : List Nat} (h : l.Pairwise (· < ·)) (W : List Int) : (missP l W).Pairwise (· < ·) := by
  unfold missP
  refine List.Pairwise.filter _ ?_
  rw [List.pairwise_map]
  exact h.imp fun h => by omega
theorem miss_disj {a b : Int} (ha : 1 ≤ a) (hb : 1 ≤ b) {A B : Nat} (hA : (A : Int) = (lowP a b).1) (hB : (B : Int) = (lowP a b).2) {la lb : List Nat} (hla : PrimesOf A la) (hlb : PrimesOf B lb) {W P : List Int} : ∀ x ∈ missP la W, ∀ y ∈ missP lb P, x ≠ y := by
  intro x hx y hy e
  subst e
  unfold missP at hx hy
  obtain ⟨p, hp, e1⟩ := List.mem_map.1 (List.mem_filter.1 hx).1
  obtain ⟨q, hq, e2⟩ := List.mem_map.1 (List.mem_filter.1 hy).1
  have : p = q := by omega
  subst this
  obtain ⟨h1, h2⟩ := (hla.mem p).1 hp
  obtain ⟨_, h3⟩ := (hlb.mem p).1 hq
  have hg1 : Int.gcd (lowP a b).1 (lowP a b).2 = 1 := by
    have hg := gcd_pos (b := b) ha
    exact Int.gcd_ediv_gcd_ediv_gcd (by omega)
  rw [← hA, ← hB] at hg1
  have : p ∣ Nat.gcd A B := Nat.dvd_gcd h2 h3
  have hg2 : Nat.gcd A B = 1 := hg1
  rw [hg2] at this
  have := Nat.le_of_dvd (by decide) this
  have := h1.1
  omega
theorem trainMisses_evx {s1 : List Int} {s2 : List Int} {want3 : Int} {want4 : Int} (h0 : (s1.length ≤ maxLen ∧ ∀ el3 ∈ s1, (Lit.int .i64 el3).wf = true) ∧ (s2.length ≤ maxLen ∧ ∀ el3 ∈ s2, (Lit.int .i64 el3).wf = true)) (h1 : (Lit.int .i64 want3).wf = true ∧ (Lit.int .i64 want4).wf = true) :
    ∃ n, ev_law01_TrainMisses n s1 s2 want3 want4 = some true := by
  refine ⟨2000000, ?_⟩
  rw [ev_law01_TrainMisses, cond_if, cond_if]
  by_cases w : 15 < s1.length
  · rw [if_pos (decide_eq_true (by omega)), bind_of knownB]
  rw [if_neg (by simp; omega)]
  by_cases p : 15 < s2.length
  · rw [if_pos (decide_eq_true (by omega)), bind_of knownB]
  rw [if_neg (by simp; omega), ev_law01_TrainMisses_j0, bind_of (law_copied (by omega) (by omega))]
  dsimp only
  rw [bind_of (ev_Check (by decide) (by omega) (by omega))]
  have hsame : ev_law01_same 2000000 s1 s2 s1 s2 = some true := law_same (by omega) (by omega) (by omega) (by omega)
  have hop := ev_open (n := 2000000) (by decide) (W := s1) (P := s2) (by omega) (by omega) (a := want3) (b := want4)
  by_cases hc : chkS s1 s2 = 0
  · by_cases hw : wantB want3 want4 = true
    · obtain ⟨wa, wb⟩ := wantB_iff.1 hw
      have hcc := hc
      unfold chkS at hcc
      have hle : ¬ (12 < s1.length ∨ 12 < s2.length) := fun h => by rw [if_pos h] at hcc; cases hcc
      rw [if_neg hle] at hcc
      have hcut : cutB s1 = true ∧ cutB s2 = true := Classical.byContradiction fun h => by rw [if_neg h] at hcc; cases hcc
      have hW := cutB_ok hcut.1 (by omega)
      have hP := cutB_ok hcut.2 (by omega)
      obtain ⟨q1, q2, q3, q4⟩ := lowP_pos wa.1 wb.1
      obtain ⟨A, hA⟩ : ∃ A : Nat, (A : Int) = (lowP want3 want4).1 := ⟨(lowP want3 want4).1.toNat, by omega⟩
      obtain ⟨B, hB⟩ : ∃ B : Nat, (B : Int) = (lowP want3 want4).2 := ⟨(lowP want3 want4).2.toNat, by omega⟩
      obtain ⟨la, hla⟩ := exists_primes (n := A) (by omega)
      obtain ⟨lb, hlb⟩ := exists_primes (n := B) (by omega)
      have lena := hla.len (by omega)
      have lenb := hlb.len (by omega)
      have ml1 := missP_len la s1
      have ml2 := missP_len lb s2
      have hr1 := ref_Missing (n := 2000000) (by decide) (W := s1) (by omega) ⟨by omega, by omega⟩ hla
      have hr2 := ref_Missing (n := 2000000) (by decide) (W := s2) (by omega) ⟨by omega, by omega⟩ hlb
      rw [hA] at hr1
      rw [hB] at hr2
      rw [bind_of (ev_Missing (by decide) hW hP wa wb hA hB hla hlb), bind_of hsame, cond_if, if_neg (by decide), bind_of (ref_Check (by decide) (by omega) (by omega)), cond_if, if_neg (by simp), ev_law01_TrainMisses_j1, cond_if, if_neg (by simp [hc]), bind_of ref_Wanted, cond_if, if_neg (by simp [hw]), refLow_eq, bind_of (ev_lowest (by decide) (by omega) (by omega)), bind_of hr1, bind_of hr2]
      have hla2 : la.length ≤ 999999 := by
        refine asc_len la 2 999999 hla.asc fun x hx => ?_
        obtain ⟨a1, a2⟩ := (hla.mem x).1 hx
        have := Nat.le_of_dvd (by omega) a2
        have := a1.1
        omega
      rw [ev_merge _ _ _ _ (miss_disj wa.1 wb.1 hA hB hla hlb) (by omega) (by rw [List.length_nil]; omega), List.nil_append, merge_srt (miss_asc hla.asc _) (miss_asc hlb.asc _)]
      obtain ⟨m, hm⟩ : ∃ m, 2000000 - ((missP la s1).length + (missP lb s2).length) = m + 1 := ⟨2000000 - ((missP la s1).length + (missP lb s2).length) - 1, by omega⟩
      have hsl : (srt (missP la s1 ++ missP lb s2)).length < 2000000 := by
        rw [(srt_perm _).length_eq, List.length_append]; omega
      rw [hm, ev_law01_TrainMisses_l2, chk_of (by decide), cond_if, if_neg (by decide), cond_if, if_pos (by rfl)]
      dsimp only
      rw [bind_of (ref_Same2 hsl), cond_if, if_pos (by simp), bind_of knownB]
    · have hw' : wantB want3 want4 = false := by simpa using hw
      have hM : ev_train_Missing 2000000 s1 s2 want3 want4 = some ([], 2) := by
        rw [ev_train_Missing, bind_of hop, if_neg (by simp [hc]), if_neg hw, cond_if, if_pos (by decide)]
      rw [bind_of hM, bind_of hsame, cond_if, if_neg (by decide), bind_of (ref_Check (by decide) (by omega) (by omega)), cond_if, if_neg (by simp), ev_law01_TrainMisses_j1, cond_if, if_neg (by simp [hc]), bind_of ref_Wanted, cond_if, if_pos (by simp [hw']), cond_if, if_pos (by rfl), cond_if, if_pos (by rfl), bind_of knownB]
  · have hM : ev_train_Missing 2000000 s1 s2 want3 want4 = some ([], chkS s1 s2) := by
      rw [ev_train_Missing, bind_of hop, if_pos hc, cond_if, if_pos (by simpa using hc)]
    rw [bind_of hM, bind_of hsame, cond_if, if_neg (by decide), bind_of (ref_Check (by decide) (by omega) (by omega)), cond_if, if_neg (by simp), ev_law01_TrainMisses_j1, cond_if, if_pos (by simpa using hc), cond_if, if_pos (by simp), cond_if, if_pos (by rfl), bind_of knownB]
end Go.Proofs.Ytabjhlfgcmmbfaa.Sy
