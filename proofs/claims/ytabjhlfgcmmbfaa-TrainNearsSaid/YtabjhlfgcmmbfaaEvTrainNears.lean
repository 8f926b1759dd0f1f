/- The nearest train is that of the reference. -/
import Derived.Test.YtabjhlfgcmmbfaaGTrainNears
import Derived.Test.YtabjhlfgcmmbfaaEvNearR
set_option linter.unusedSimpArgs false
set_option linter.unusedVariables false
namespace Go.Proofs.Ytabjhlfgcmmbfaa.Sy
open Go.RowKit
set_option maxRecDepth 100000

theorem trainNears_evx {s1 : List Int} {s2 : List Int} {want3 : Int} {want4 : Int} {most5 : Int} (h0 : (s1.length ≤ maxLen ∧ ∀ el3 ∈ s1, (Lit.int .i64 el3).wf = true) ∧ (s2.length ≤ maxLen ∧ ∀ el3 ∈ s2, (Lit.int .i64 el3).wf = true)) (h1 : (Lit.int .i64 want3).wf = true ∧ (Lit.int .i64 want4).wf = true) (h2 : (Lit.int .i64 most5).wf = true) :
    ∃ n, ev_law01_TrainNears n s1 s2 want3 want4 most5 = some true := by
  refine ⟨2000000, ?_⟩
  rw [ev_law01_TrainNears, bind_of law_large, cond_if]
  by_cases hlg : (5 < max s1.length s2.length ∧ max s1.length s2.length ≤ 12) ∨ 15 < max s1.length s2.length
  · rw [if_pos (decide_eq_true hlg), bind_of knownB]
  have w : s1.length ≤ 15 := by omega
  have p : s2.length ≤ 15 := by omega
  rw [if_neg (by simpa using hlg), bind_of (law_copied (by omega) (by omega))]
  dsimp only
  have hsame : ev_law01_same 2000000 s1 s2 s1 s2 = some true := law_same (by omega) (by omega) (by omega) (by omega)
  have hop := ev_open (n := 2000000) (by decide) (W := s1) (P := s2) (by omega) (by omega) (a := want3) (b := want4)
  have eqE : ev_ref01_Equal 2000000 [] [] [] [] = some true := ref_Equal (by decide) (by decide) (by decide) (by decide)
  by_cases hc : chkS s1 s2 = 0
  · by_cases hw : wantB want3 want4 = true
    · obtain ⟨wa, wb⟩ := wantB_iff.1 hw
      obtain ⟨hW, hP⟩ := chk_ok hc
      by_cases hm : 1 ≤ most5 ∧ most5 ≤ 2
      · obtain ⟨most, rfl⟩ : ∃ m : Nat, most5 = (m : Int) := ⟨most5.toNat, by omega⟩
        have hN := ev_Near (n := 2000000) (by decide) hW hP wa wb (most := most) (by omega)
        have hR := ref_Near (n := 2000000) (by decide) hW hP wa wb (most := most) (by omega)
        have hE : ev_ref01_Equal 2000000 (nearP s1 s2 (lowP want3 want4) most).1 (nearP s1 s2 (lowP want3 want4) most).2 (nearP s1 s2 (lowP want3 want4) most).1 (nearP s1 s2 (lowP want3 want4) most).2 = some true := by
          rcases near_tr (W := s1) (P := s2) (r := lowP want3 want4) (allU s1 s2 most 1) ([], []) (fun x hx => tr_of hW.ok hP.ok (by omega) hx) (.inl rfl) with h | h
          · unfold nearP; rw [h]; exact eqE
          · have := h.len
            exact ref_Equal (by unfold nearP; omega) (by unfold nearP; omega) (by unfold nearP; omega) (by unfold nearP; omega)
        rw [bind_of hN, bind_of hsame, cond_if, if_neg (by decide), bind_of (ref_Check (by decide) (by omega) (by omega)), cond_if, if_pos (by rw [hc]; rfl), bind_of ref_Wanted, cond_if, if_neg (by rw [hw]; decide), ev_law01_TrainNears_j5, ev_law01_TrainNears_j1, cond_if, if_pos (by rw [hc]; rfl), cond_if, if_neg (by simp; omega), cond_if, if_neg (by simp; omega), ev_law01_TrainNears_j3, ev_law01_TrainNears_j4, cond_if, if_neg (by rw [hc]; decide), cond_if, if_pos (by rfl), bind_of hR, bind_of hE, cond_if, if_pos rfl, bind_of knownB]
      · have hwi : ev_train_within 2000000 1 2 ([most5] : List Int) = some false := by
          rw [wi1_train (by decide)]; congr 1
          rw [Bool.and_eq_false_iff, decide_eq_false_iff_not, decide_eq_false_iff_not]; omega
        have hM : ev_train_Near 2000000 s1 s2 want3 want4 most5 = some ([], [], 3) := by
          rw [ev_train_Near, bind_of hop, if_neg (by simp [hc]), if_pos hw, cond_if, if_neg (by simp), bind_of hwi, cond_if, if_pos (by decide)]
        have j2 : ev_law01_TrainNears_j2 2000000 ([], [], 3) s1 s2 want3 want4 most5 = some true := by
          rw [ev_law01_TrainNears_j2, cond_if, if_pos (by decide), cond_if, if_pos (by rfl)]
          dsimp only
          rw [bind_of eqE, cond_if, if_pos rfl, bind_of knownB]
        rw [bind_of hM, bind_of hsame, cond_if, if_neg (by decide), bind_of (ref_Check (by decide) (by omega) (by omega)), cond_if, if_pos (by rw [hc]; rfl), bind_of ref_Wanted, cond_if, if_neg (by rw [hw]; decide), ev_law01_TrainNears_j5, ev_law01_TrainNears_j1, cond_if, if_pos (by rw [hc]; rfl), cond_if, cond_if]
        by_cases h3 : most5 < 1
        · rw [if_pos (decide_eq_true h3), j2]
        · rw [if_neg (by simpa using h3), if_pos (decide_eq_true (by omega)), j2]
    · have hw' : wantB want3 want4 = false := by simpa using hw
      have hM : ev_train_Near 2000000 s1 s2 want3 want4 most5 = some ([], [], 2) := by
        rw [ev_train_Near, bind_of hop, if_neg (by simp [hc]), if_neg hw, cond_if, if_pos (by decide)]
      rw [bind_of hM, bind_of hsame, cond_if, if_neg (by decide), bind_of (ref_Check (by decide) (by omega) (by omega)), cond_if, if_pos (by rw [hc]; rfl), bind_of ref_Wanted, cond_if, if_pos (by rw [hw']; decide), ev_law01_TrainNears_j0, ev_law01_TrainNears_j1, cond_if, if_neg (by decide), ev_law01_TrainNears_j3, ev_law01_TrainNears_j4, cond_if, if_pos (by decide), cond_if, if_pos (by rfl)]
      dsimp only
      rw [bind_of eqE, cond_if, if_pos rfl, bind_of knownB]
  · have hM : ev_train_Near 2000000 s1 s2 want3 want4 most5 = some ([], [], chkS s1 s2) := by
      rw [ev_train_Near, bind_of hop, if_pos hc, cond_if, if_pos (by simpa using hc)]
    rw [bind_of hM, bind_of hsame, cond_if, if_neg (by decide), bind_of (ref_Check (by decide) (by omega) (by omega)), cond_if, if_neg (by simpa using hc), ev_law01_TrainNears_j5, ev_law01_TrainNears_j1, cond_if, if_neg (by simpa using hc), ev_law01_TrainNears_j3, ev_law01_TrainNears_j4, cond_if, if_pos (by simpa using hc), cond_if, if_pos (by simp)]
    dsimp only
    rw [bind_of eqE, cond_if, if_pos rfl, bind_of knownB]
end Go.Proofs.Ytabjhlfgcmmbfaa.Sy
