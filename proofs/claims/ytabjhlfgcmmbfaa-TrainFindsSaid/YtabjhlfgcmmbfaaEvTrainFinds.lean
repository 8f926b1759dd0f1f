/- The trains with the fewest pairs are those of the reference. -/
import Derived.Test.YtabjhlfgcmmbfaaGTrainFinds
import Derived.Test.YtabjhlfgcmmbfaaEvLists
set_option linter.unusedSimpArgs false
set_option linter.unusedVariables false
namespace Go.Proofs.Ytabjhlfgcmmbfaa.Sy
open Go.RowKit
set_option maxRecDepth 100000

theorem law_large {n : Nat} {a b : List Int} : ev_law01_large n a b = some (decide ((5 < max a.length b.length ∧ max a.length b.length ≤ 12) ∨ 15 < max a.length b.length)) := by
  have e : max (a.length : Int) (b.length : Int) = ((max a.length b.length : Nat) : Int) := by omega
  rw [ev_law01_large, e, cond_if, cond_if]
  generalize max a.length b.length = m
  by_cases h1 : 5 < m
  · by_cases h2 : m ≤ 12
    · rw [if_pos (decide_eq_true (by omega)), if_pos (decide_eq_true (by omega))]; simp [h1, h2]
    · rw [if_pos (decide_eq_true (by omega)), if_neg (by simp; omega)]
      congr 1
      rw [decide_eq_decide]; omega
  · rw [if_neg (by simp; omega)]
    congr 1
    rw [decide_eq_decide]; omega
theorem ref_Equal {n : Nat} {a b : List Int} (ha : a.length < n) (hb : b.length < n) (ha2 : a.length ≤ 1000) (hb2 : b.length ≤ 1000) : ev_ref01_Equal n a b a b = some true := by
  rw [ev_ref01_Equal, bind_of (ref_Same ha (by omega)), cond_if, if_pos (by simp), bind_of (ref_Same hb (by omega))]; simp
/-- the error of a shop and a ratio -/
theorem chk_ok {W P : List Int} (h : chkS W P = 0) : OkCut W ∧ OkCut P := by
  unfold chkS at h
  have hle : ¬ (12 < W.length ∨ 12 < P.length) := fun h' => by rw [if_pos h'] at h; cases h
  rw [if_neg hle] at h
  have hcut : cutB W = true ∧ cutB P = true := Classical.byContradiction fun h' => by rw [if_neg h'] at h; cases h
  exact ⟨cutB_ok hcut.1 (by omega), cutB_ok hcut.2 (by omega)⟩
theorem chkS_vals (W P : List Int) : chkS W P = 0 ∨ chkS W P = 2 ∨ chkS W P = 5 := by
  unfold chkS; split
  · exact .inr (.inr rfl)
  · split
    · exact .inl rfl
    · exact .inr (.inl rfl)
theorem fewR_mem {W P : List Int} {r : Int × Int} : ∀ (d k : Nat), k + d = 5 → ∀ x ∈ fewR W P r d k, ∃ q, k ≤ q ∧ q ≤ 4 ∧ x ∈ trP W P r q := by
  intro d
  induction d with
  | zero => intro k _ x hx; simp [fewR] at hx
  | succ d ih =>
    intro k hk x hx
    rw [fewR] at hx
    split at hx
    · exact ⟨k, Nat.le_refl _, by omega, hx⟩
    · obtain ⟨q, h1, h2, h3⟩ := ih (k + 1) (by omega) x hx
      exact ⟨q, by omega, h2, h3⟩
theorem mem_trP {W P : List Int} {r : Int × Int} {k : Nat} {x : List Int × List Int} : x ∈ trP W P r k ↔ x.1 ∈ chP k W ∧ x.2 ∈ chP k P ∧ lowP (prodL x.1) (prodL x.2) = r := by
  unfold trP trW
  rw [List.mem_flatMap]
  constructor
  · rintro ⟨w, hw, h⟩
    obtain ⟨p, hp, rfl⟩ := List.mem_map.1 h
    rw [List.mem_filter, beq_iff_eq] at hp
    exact ⟨hw, hp.1, hp.2⟩
  · rintro ⟨h1, h2, h3⟩
    exact ⟨x.1, h1, List.mem_map.2 ⟨x.2, List.mem_filter.2 ⟨h2, by simpa using h3⟩, rfl⟩⟩
theorem trainFinds_evx {s1 : List Int} {s2 : List Int} {want3 : Int} {want4 : Int} (h0 : (s1.length ≤ maxLen ∧ ∀ el3 ∈ s1, (Lit.int .i64 el3).wf = true) ∧ (s2.length ≤ maxLen ∧ ∀ el3 ∈ s2, (Lit.int .i64 el3).wf = true)) (h1 : (Lit.int .i64 want3).wf = true ∧ (Lit.int .i64 want4).wf = true) :
    ∃ n, ev_law01_TrainFinds n s1 s2 want3 want4 = some true := by
  refine ⟨2000000, ?_⟩
  rw [ev_law01_TrainFinds, bind_of law_large, cond_if]
  by_cases hlg : (5 < max s1.length s2.length ∧ max s1.length s2.length ≤ 12) ∨ 15 < max s1.length s2.length
  · rw [if_pos (decide_eq_true hlg), bind_of knownB]
  have w : s1.length ≤ 15 := by omega
  have p : s2.length ≤ 15 := by omega
  rw [if_neg (by simpa using hlg), bind_of (law_copied (by omega) (by omega))]
  dsimp only
  have hsame : ev_law01_same 2000000 s1 s2 s1 s2 = some true := law_same (by omega) (by omega) (by omega) (by omega)
  have hop := ev_open (n := 2000000) (by decide) (W := s1) (P := s2) (by omega) (by omega) (a := want3) (b := want4)
  by_cases hc : chkS s1 s2 = 0
  · by_cases hw : wantB want3 want4 = true
    · obtain ⟨wa, wb⟩ := wantB_iff.1 hw
      obtain ⟨hW, hP⟩ := chk_ok hc
      have l1 := hW.len
      have l2 := hP.len
      have hL := low_Low wa.1 wb.1
      have hp4 : s2.length ^ 4 < 2000000 := by
        have : s2.length ^ 4 ≤ 12 ^ 4 := Nat.pow_le_pow_left (by omega) 4
        omega
      have hF := ev_Fewest (n := 2000000) (by decide) hW hP wa wb hp4
      rw [few_eq hL hW.ok hP.ok 4 0 rfl] at hF
      rw [bind_of hF, bind_of hsame, cond_if, if_neg (by decide), bind_of (ref_Check (by decide) (by omega) (by omega)), cond_if, if_pos (by rw [hc]; rfl), bind_of ref_Wanted, cond_if, if_neg (by rw [hw]; decide), ev_law01_TrainFinds_j4, ev_law01_TrainFinds_j1, cond_if, if_neg (by rw [hc]; decide), bind_of (ref_Fewest (by decide) hW hP wa wb), cond_if]
      have hmem := fewR_mem (W := s1) (P := s2) (r := lowP want3 want4) 4 1 rfl
      generalize fewR s1 s2 (lowP want3 want4) 4 1 = R at hmem
      by_cases hr0 : R.length = 0
      · rw [if_pos (by rw [hr0]; rfl), if_pos hr0, cond_if, if_pos (by rfl), cond_if, if_pos (by rfl), bind_of knownB]
      · rw [if_neg (by rw [beq_iff_eq]; omega), if_neg hr0, cond_if]
        by_cases hr2 : 2000 < R.length
        · rw [if_pos (decide_eq_true (by omega)), if_pos hr2, cond_if, if_pos (by rfl), cond_if, if_pos (by rfl), bind_of knownB]
        · rw [if_neg (fun h => hr2 (by have := of_decide_eq_true h; omega)), if_neg hr2, cond_if, if_neg (by simp), cond_if, if_neg (by simp), ev_law01_TrainFinds_j2]
          have key : ∀ (d m i : Nat), i + d = R.length → d < m → ev_law01_TrainFinds_l3 2000000 (R, 0) R m (i : Int) = some true := by
            intro d
            induction d with
            | zero =>
              intro m i hi hm
              obtain ⟨m, rfl⟩ : ∃ m', m = m' + 1 := ⟨m - 1, by omega⟩
              rw [ev_law01_TrainFinds_l3, cond_if, if_neg (by simp; omega), bind_of knownB]
            | succ d ih =>
              intro m i hi hm
              obtain ⟨m, rfl⟩ : ∃ m', m = m' + 1 := ⟨m - 1, by omega⟩
              have hlt : i < R.length := by omega
              obtain ⟨q, q1, q2, q3⟩ := hmem _ (List.getElem_mem hlt)
              obtain ⟨m1, m2, _⟩ := mem_trP.1 q3
              have n1 := (mem_chP q _ _ m1).1
              have n2 := (mem_chP q _ _ m2).1
              rw [ev_law01_TrainFinds_l3, cond_if, if_pos (decide_eq_true (by simp only; omega)), idx_nat (List.getElem?_eq_getElem hlt), idx_nat (List.getElem?_eq_getElem hlt), bind_of (ref_Equal (by omega) (by omega) (by omega) (by omega)), cond_if, if_neg (by decide), chk_of (in64_of (by omega))]
              exact ih m (i + 1) (by omega) (by omega)
          exact key R.length 2000000 0 (by omega) (by omega)
    · have hw' : wantB want3 want4 = false := by simpa using hw
      have hM : ev_train_Fewest 2000000 s1 s2 want3 want4 = some ([], 2) := by
        rw [ev_train_Fewest, bind_of hop, if_neg (by simp [hc]), if_neg hw, cond_if, if_pos (by decide)]
      rw [bind_of hM, bind_of hsame, cond_if, if_neg (by decide), bind_of (ref_Check (by decide) (by omega) (by omega)), cond_if, if_pos (by rw [hc]; rfl), bind_of ref_Wanted, cond_if, if_pos (by rw [hw']; decide), ev_law01_TrainFinds_j0, ev_law01_TrainFinds_j1, cond_if, if_pos (by decide), cond_if, if_pos (by rfl), cond_if, if_pos (by rfl), bind_of knownB]
  · have hM : ev_train_Fewest 2000000 s1 s2 want3 want4 = some ([], chkS s1 s2) := by
      rw [ev_train_Fewest, bind_of hop, if_pos hc, cond_if, if_pos (by simpa using hc)]
    rw [bind_of hM, bind_of hsame, cond_if, if_neg (by decide), bind_of (ref_Check (by decide) (by omega) (by omega)), cond_if, if_neg (by simpa using hc), ev_law01_TrainFinds_j4, ev_law01_TrainFinds_j1, cond_if, if_pos (by simpa using hc), cond_if, if_pos (by simp), cond_if, if_pos (by rfl), bind_of knownB]
end Go.Proofs.Ytabjhlfgcmmbfaa.Sy
