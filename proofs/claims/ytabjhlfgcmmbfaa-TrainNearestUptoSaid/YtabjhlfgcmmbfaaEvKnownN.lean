/- The known calls, at any fuel. -/
import Derived.Test.YtabjhlfgcmmbfaaEvNear
import Derived.Test.YtabjhlfgcmmbfaaEvMissing
set_option linter.unusedSimpArgs false
set_option linter.unusedVariables false
namespace Go.Proofs.Ytabjhlfgcmmbfaa.Sy
open Go.RowKit
set_option maxRecDepth 100000

theorem prime_list {p : Nat} (h : 2 ≤ p) (hd : ∀ d, d < p → 2 ≤ d → ¬ d ∣ p) : PrimesOf p [p] := by
  refine ⟨by simp, fun q => ?_⟩
  rw [List.mem_singleton]
  constructor
  · rintro rfl
    refine ⟨⟨h, fun d h1 h2 => ?_⟩, Nat.dvd_refl _⟩
    have := Nat.le_of_dvd (by omega) h2
    rcases Nat.lt_or_ge d q with h3 | h3
    · exact absurd h2 (hd d h3 h1)
    · omega
  · rintro ⟨h1, h2⟩
    have := Nat.le_of_dvd (by omega) h2
    rcases Nat.lt_or_ge q p with h3 | h3
    · exact absurd h2 (hd q h3 h1.1)
    · omega
theorem cutW : OkCut [60, 64, 96] := ⟨by decide, by decide, by decide⟩
theorem cutP : OkCut [8, 10, 12] := ⟨by decide, by decide, by decide⟩
theorem okP1 : OkP [(64, 12)] := ⟨by decide, by decide⟩
theorem okP2 : OkP [(64, 12), (60, 8)] := ⟨by decide, by decide⟩
theorem fewK1 : fewG [60, 64, 96] [8, 10, 12] (lowP 48 1) 4 0 = ([([60, 64], [8, 10]), ([60, 96], [10, 12])], 0) := by decide +kernel
theorem fewK2 : fewG [60, 64, 96] [8, 10, 12] (lowP 9 1) 4 0 = ([], 7) := by decide +kernel
theorem nearK : nearP [60, 64, 96] [8, 10, 12] (lowP 59 10) 1 = ([60], [10]) := by decide +kernel
theorem turnK : (lowP (wP [(64, 12)]) (pP [(64, 12)])).1 = 16 ∧ (lowP (wP [(64, 12)]) (pP [(64, 12)])).2 = 3 := by decide +kernel
theorem cycK : cycP [(64, 12), (60, 8)] = 3 := by decide +kernel
theorem missK : srt (missP [7] [60, 64, 96] ++ missP [11] [8, 10, 12]) = [7, 11] := by decide +kernel
theorem same_lit {n : Nat} (hn : 100 < n) {l : List Int} (hl : l.length ≤ 10) : ev_ref01_Same n l l = some true := by rw [ref_Same (by omega) (by omega)]; simp
theorem equal_lit {n : Nat} (hn : 100 < n) {a b : List Int} (ha : a.length ≤ 10) (hb : b.length ≤ 10) : ev_ref01_Equal n a b a b = some true := by
  rw [ev_ref01_Equal, bind_of (same_lit hn ha), cond_if, if_pos rfl, bind_of (same_lit hn hb)]
theorem knownN {n : Nat} (hn : 40000 < n) : ev_law01_known n = some true := by
  have h1 := ev_Turns (n := n) (by omega) okP1
  have h2 := ev_Cycle (n := n) (by omega) okP2
  have h3 := ev_Fewest (n := n) (by omega) cutW cutP (a := 48) (b := 1) (by decide) (by decide) (by show 3 ^ 4 < n; omega)
  have h4 := ev_Missing (n := n) (by omega) cutW cutP (a := 14) (b := 22) (by decide) (by decide) (A := 7) (B := 11) (by decide) (by decide) (prime_list (p := 7) (by decide) (by decide)) (prime_list (p := 11) (by decide) (by decide))
  have h5 := ev_Fewest (n := n) (by omega) cutW cutP (a := 9) (b := 1) (by decide) (by decide) (by show 3 ^ 4 < n; omega)
  have h6 := ev_Near (n := n) (by omega) cutW cutP (a := 59) (b := 10) (by decide) (by decide) (most := 1) (by decide)
  rw [fewK1] at h3
  rw [missK] at h4
  rw [fewK2] at h5
  rw [nearK] at h6
  rw [turnK.1, turnK.2] at h1
  rw [cycK] at h2
  rw [ev_law01_known, bind_of h1, bind_of h2, ev_law01_shop, bind_of rfl, bind_of h3, bind_of rfl, bind_of h4, bind_of rfl, bind_of h5, bind_of rfl]
  dsimp only
  rw [show ((1 : Nat) : Int) = 1 from rfl] at h6
  rw [bind_of h6, cond_if, if_neg (by decide), cond_if, if_neg (by decide), cond_if, if_neg (by decide), cond_if, if_neg (by decide), cond_if, if_neg (by decide), cond_if, if_neg (by decide), cond_if, if_neg (by decide), cond_if, if_neg (by decide), ev_law01_known_j0, cond_if, if_pos (by decide), cond_if, if_pos (by decide), cond_if, if_pos (by decide)]
  dsimp only
  rw [bind_of (same_lit (by omega) (by decide)), cond_if, if_pos rfl, idx_of (x := ([60, 64], [8, 10])) (by decide) rfl, bind_of (equal_lit (by omega) (by decide) (by decide)), cond_if, if_pos rfl, idx_of (x := ([60, 96], [10, 12])) (by decide) rfl, bind_of (equal_lit (by omega) (by decide) (by decide)), cond_if, if_pos rfl, bind_of (equal_lit (by omega) (by decide) (by decide))]
end Go.Proofs.Ytabjhlfgcmmbfaa.Sy
