/- Rounds: winding days that are right; how long the clocks go. -/
import Derived.Test.YtohjpfkcahlfkaaPdEvRoundD
set_option linter.unusedSimpArgs false
set_option linter.unusedVariables false
namespace Go.Proofs.Ytohjpfkcahlfkaa.Sy
open Go.RowKit
set_option maxRecDepth 100000
theorem compact_asc {l : List Int} (h : l.Pairwise (· < ·)) : (Lib.compact l).length = l.length := by
  unfold Lib.compact Lib.compactUpTo
  rw [List.length_map]
  have : (List.range l.length).filter (Lib.keeps l.toArray) = List.range l.length := by
    rw [List.filter_eq_self]
    intro i hi
    have hi := List.mem_range.1 hi
    unfold Lib.keeps
    cases i with
    | zero => rfl
    | succ i =>
      have h1 := List.pairwise_iff_getElem.1 h i (i + 1) (by omega) hi (by omega)
      simp only [Nat.add_sub_cancel, Bool.or_eq_true, bne_iff_ne, ne_eq]
      simp [hi, show i < l.length by omega]
      omega
  rw [this, List.length_range]
theorem srt_asc {l : List Int} (h : l.Nodup) : (srt l).Pairwise (· < ·) := by
  have h1 := srt_sorted l
  have h2 : (srt l).Nodup := (srt_perm l).nodup_iff.2 h
  exact (h1.and h2).imp fun ⟨a, b⟩ => by omega
theorem collect_ev {n : Nat} {l : List Int} (hn : l.length < n) (hl : l.length ≤ 1000000) : ev_slices_Collect_int n l = some l := by
  have key : ∀ (k m i : Nat), i + k = l.length → k < m → ev_slices_Values_Lint_int_1_l0 (loopStep (ev_slices_AppendSeq_Lint_int_r0 n)) n l m (i : Int) (l.take i, 0) = some (l, 0) := by
    intro k
    induction k with
    | zero =>
      intro m i hi hm
      obtain ⟨m, rfl⟩ : ∃ m', m = m' + 1 := ⟨m - 1, by omega⟩
      rw [ev_slices_Values_Lint_int_1_l0, cond_if, if_neg (by simp; omega), List.take_of_length_le (by omega)]
    | succ k ih =>
      intro m i hi hm
      obtain ⟨m, rfl⟩ : ∃ m', m = m' + 1 := ⟨m - 1, by omega⟩
      have hlt : i < l.length := by omega
      have e : ev_slices_AppendSeq_Lint_int_r0 n l[i] (l.take i) = some (0, l.take (i + 1)) := by
        rw [ev_slices_AppendSeq_Lint_int_r0, chk_of (room_iff.2 (by rw [List.length_take]; simp; omega)), List.take_succ_eq_append_getElem hlt]
      rw [ev_slices_Values_Lint_int_1_l0, cond_if, if_pos (decide_eq_true (by omega)), idx_nat (List.getElem?_eq_getElem hlt), bind_of (loopStep_of e), cond_if, if_neg (by simp), chk_of (in64_of (by omega))]
      exact ih m (i + 1) (by omega) (by omega)
  have h0 := key l.length n 0 (by omega) hn
  rw [ev_slices_Collect_int, ev_slices_AppendSeq_Lint_int, ev_slices_Values_Lint_int_1]
  rw [show ((0 : Nat) : Int) = 0 from rfl, List.take_zero] at h0
  rw [h0]; rfl
theorem sorted_ev {n : Nat} {l : List Int} (hn : l.length < n) (hl : l.length ≤ 1000000) : ev_slices_Sorted_int n l = some (srt l) := by
  rw [ev_slices_Sorted_int, bind_of (collect_ev hn hl), ev_slices_Sort_Lint_int, chk_of (room_iff.2 (by omega))]; rfl
abbrev Dy := Int × List Int
structure OkDs (k : Nat) (ds : List Dy) : Prop where
  asc : ds.Pairwise (fun a b => a.1 < b.1)
  day : ∀ d ∈ ds, 1 ≤ d.1 ∧ d.1 ≤ 36524
  tow : ∀ d ∈ ds, ∀ x ∈ d.2, 0 ≤ x ∧ x < k
  nd : ∀ d ∈ ds, d.2.Nodup
  short : ∀ d ∈ ds, d.2.length ≤ 100
  len : ds.length ≤ 400
theorem OkDs.after {k : Nat} {ds : List Dy} (h : OkDs k ds) {i : Nat} (hi : i < ds.length) : ∀ d ∈ ds.drop (i + 1), ds[i].1 < d.1 := by
  have := h.asc.sublist (List.drop_sublist i ds)
  rw [List.drop_eq_getElem_cons hi, List.pairwise_cons] at this
  exact this.1
theorem checkDays_ev {n : Nat} (hn : 2000 < n) {t : List Tw} {w : List (List Int)} {g : List Wd} {rest wage : Int} (h : OkR t w g rest wage) {ds : List Dy} (hd : OkDs t.length ds) : ev_round_checkDays n t w g rest wage ds = some 0 := by
  have hl := hd.len
  have ht := h.tn
  have key : ∀ (k m i : Nat) (p : Int), i + k = ds.length → k < m → 0 ≤ p → p ≤ 36524 → (∀ d ∈ ds.drop i, p < d.1) → ev_round_checkDays_l0 n ds m p (i : Int) rest wage ds t w g = some 0 := by
    intro k
    induction k with
    | zero =>
      intro m i p hi hm h0 h1 hp
      obtain ⟨m, rfl⟩ : ∃ m', m = m' + 1 := ⟨m - 1, by omega⟩
      rw [ev_round_checkDays_l0, cond_if, if_neg (by simp; omega)]
    | succ k ih =>
      intro m i p hi hm h0 h1 hp
      obtain ⟨m, rfl⟩ : ∃ m', m = m' + 1 := ⟨m - 1, by omega⟩
      have hlt : i < ds.length := by omega
      have hm2 := List.getElem_mem hlt
      have hday := hd.day _ hm2
      have hpd := hp ds[i] (by rw [List.drop_eq_getElem_cons hlt]; exact List.Mem.head _)
      have hall : (ds[i].2.all fun z => decide ((0 : Int) ≤ z) && decide (z ≤ (t.length : Int) - 1)) = true := List.all_eq_true.2 fun z hz => by have := hd.tow _ hm2 z hz; simp; omega
      have hs := hd.short _ hm2
      have hsl : (srt ds[i].2).length = ds[i].2.length := (srt_perm _).length_eq
      have hv : ev_slices_Values_Lint_int n ds[i].2 = some ds[i].2 := rfl
      have hc : ev_slices_Compact_Lint_int n (srt ds[i].2) = some (Lib.compact (srt ds[i].2)) := by
        rw [ev_slices_Compact_Lint_int, chk_of (room_iff.2 (by omega))]
      rw [ev_round_checkDays_l0, cond_if, if_pos (decide_eq_true (by omega)), idx_nat (List.getElem?_eq_getElem hlt), chk_of (in64_of (by omega)), bind_of (wi1_round (by omega)), cond_if, if_neg (by simp; omega), chk_of (in64_of (by omega)), bind_of (wi_round (by omega) (by omega)), hall, cond_if, if_neg (by simp), ev_round_checkDays_j1, bind_of hv, bind_of (sorted_ev (by omega) (by omega)), bind_of hc, cond_if, if_neg (by rw [compact_asc (srt_asc (hd.nd _ hm2)), hsl]; simp), chk_of (in64_of (by omega))]
      exact ih m (i + 1) ds[i].1 (by omega) (by omega) (by omega) (by omega) (hd.after hlt)
  rw [ev_round_checkDays, cond_if, if_neg (by simp; omega)]
  exact key ds.length n 0 0 (by omega) (by omega) (by decide) (by decide) (fun d hdd => by have := hd.day d (by simpa using hdd); omega)
theorem open_ev {n : Nat} (hn : 2000 < n) {t : List Tw} {w : List (List Int)} {g : List Wd} {rest wage : Int} (h : OkR t w g rest wage) {ds : List Dy} (hd : OkDs t.length ds) {q : Int} (hq : 0 ≤ q ∧ q ≤ 36524) : ev_round_open n t w g rest wage ds q = some (goesP t, 0) := by
  have ht := h.tn
  have hday : ev_round_isDay n q = some true := by
    rw [ev_round_isDay, bind_of (wi1_round (by omega))]; simp; omega
  have key : ∀ (k m i : Nat), i + k = t.length → k < m → ev_round_open_l3 n t m ((goesP t).take i) (i : Int) t = some (goesP t, 0) := by
    intro k
    have hgl : (goesP t).length = t.length := by rw [goesP, List.length_map]
    induction k with
    | zero =>
      intro m i hi hm
      obtain ⟨m, rfl⟩ : ∃ m', m = m' + 1 := ⟨m - 1, by omega⟩
      rw [ev_round_open_l3, cond_if, if_neg (by simp; omega), List.take_of_length_le (by omega)]
    | succ k ih =>
      intro m i hi hm
      obtain ⟨m, rfl⟩ : ∃ m', m = m' + 1 := ⟨m - 1, by omega⟩
      have hlt : i < t.length := by omega
      rw [ev_round_open_l3, cond_if, if_pos (decide_eq_true (by omega)), idx_nat (List.getElem?_eq_getElem hlt), chk_of (room_iff.2 (by rw [List.length_take]; simp; omega)), chk_of (in64_of (by omega))]
      have := ih m (i + 1) (by omega) (by omega)
      rw [List.take_succ_eq_append_getElem (by omega), show (goesP t)[i]'(by omega) = t[i].2.2.2.2 by simp [goesP]] at this
      exact this
  rw [ev_round_open, bind_of (check_ev (by omega) h), cond_if, if_pos (by rfl), bind_of (checkDays_ev hn h hd), ev_round_open_j0, cond_if, if_pos (by rfl), bind_of hday, cond_if, if_neg (by simp), ev_round_open_j4, ev_round_open_j2, cond_if, if_neg (by simp)]
  exact key t.length n 0 (by omega) (by omega)
end Go.Proofs.Ytohjpfkcahlfkaa.Sy
