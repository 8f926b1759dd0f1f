/- The known calls of the chime: the map has one key. -/
import Derived.Test.YtgkoldcmbcbbpaaCdGChime
import Derived.Test.YtgkoldcmbcbbpaaCdEvL
set_option linter.unusedSimpArgs false
set_option linter.unusedVariables false
namespace Go.Proofs.Ytgkoldcmbcbbpaa.Sy
open Go.RowKit
set_option maxRecDepth 100000
theorem nextAll_nil {α ρ : Type} {f : α → List α → Option ρ} {e : Option ρ} : nextAll [] f e = e := rfl
theorem nextAll_one {α ρ : Type} {f : α → List α → Option ρ} {e : Option ρ} (x : α) : nextAll [x] f e = f x [] := by
  simp only [nextAll];rw [if_pos];intro j hj;have : j = 0 := by simp at hj; omega
  subst this; rfl
theorem byBell_pc : ev_chime_tune_byBell 12000 10 [(0, 5), (2, 5), (4, 5), (6, 5), (8, 5)] 3 = some [(5, [0, 1, 2, 3, 4])] := by decide +kernel
theorem check_pc : ev_chime_tune_check 12000 10 [(0, 5), (2, 5), (4, 5), (6, 5), (8, 5)] 3 = some 0 := by
  have h1 : ev_chime_within 12000 1 1000 ([10] : List Int) = some true := by decide +kernel
  have h2 : ev_slices_ContainsFunc_Lapi_ChimeBlow_api_ChimeBlow 12000 [(0, 5), (2, 5), (4, 5), (6, 5), (8, 5)] (fun a => ev_chime_tune_check_1 12000 a.1 a.2 10 [(0, 5), (2, 5), (4, 5), (6, 5), (8, 5)] 3) = some false := by decide +kernel
  have h3 : ev_chime_distinct_api_ChimeBlow 12000 [(0, 5), (2, 5), (4, 5), (6, 5), (8, 5)] = some true := by decide +kernel
  rw [ev_chime_tune_check, bind_of h1, cond_if, if_neg (by decide), cond_if, if_neg (by decide), bind_of h2, cond_if, if_neg (by decide), bind_of h3, cond_if, if_neg (by decide), ev_chime_tune_check_j0, bind_of byBell_pc];show ev_chime_tune_check_l1 12000 (11998 + 1 + 1) 10 3 [(5, [0, 1, 2, 3, 4])] _ = _;rw [ev_chime_tune_check_l1, nextAll_one];show cond (decide ((8 : Int) < (([0, 1, 2, 3, 4] : List Int).length : Int))) (some 2) (ev_chime_tune_check_l1 12000 (11998 + 1) 10 3 [] _) = _;rw [cond_if, if_neg (by decide), ev_chime_tune_check_l1, nextAll_nil]
  decide +kernel
theorem few_pc (k : Int → Int → (List Int) → (List Int) → (List (Int × ((List Int)))) → (List (Int × Int)) → Option (Int × Int × Int × Int × Int × Int × Int × Int × Int × Int × Int × Int × Int × Int × Int × Int × (List Int))) :
    ev_chime_tune_fewest_l1 12000 (5, [0, 1, 2, 3, 4]) k 12000 10 [(0, 5), (2, 5), (4, 5), (6, 5), (8, 5)] 3 [0, 0, 0, 0, 0, 1, 0, 0, 0, 0, 0, 0, 0, 0, 0, 0] [0, 0, 0, 0, 0] [0, 1, 2, 3, 4] 10 [(0, 5), (2, 5), (4, 5), (6, 5), (8, 5)] 3 [0, 1, 2, 3, 4] [] [] = k 10 3 [0, 0, 0, 0, 0, 3, 0, 0, 0, 0, 0, 0, 0, 0, 0, 0] [0, 1, 0, 1, 2] [] [(0, 5), (2, 5), (4, 5), (6, 5), (8, 5)] := by kernel_rfl
theorem fewest_pc : ev_chime_tune_fewest 12000 10 [(0, 5), (2, 5), (4, 5), (6, 5), (8, 5)] 3 = some (0, 0, 0, 0, 0, 3, 0, 0, 0, 0, 0, 0, 0, 0, 0, 0, [0, 1, 0, 1, 2]) := by
  rw [ev_chime_tune_fewest, chk_of (by decide), chk_of (by decide), bind_of byBell_pc];show ev_chime_tune_fewest_l0 12000 (11998 + 1 + 1) 10 3 ([0, 0, 0, 0, 0, 0, 0, 0, 0, 0, 0, 0, 0, 0, 0, 0] : List Int) ([0, 0, 0, 0, 0] : List Int) [(5, [0, 1, 2, 3, 4])] [(0, 5), (2, 5), (4, 5), (6, 5), (8, 5)] = _;rw [ev_chime_tune_fewest_l0, nextAll_one];show chk (decide (0 ≤ (5 : Int)) && decide ((5 : Int) < 16)) (idx ([0, 0, 0, 0, 0, 0, 0, 0, 0, 0, 0, 0, 0, 0, 0, 0] : List Int) 5 fun _ => ev_chime_tune_fewest_l1 12000 (5, [0, 1, 2, 3, 4]) (fun a b c d e f => ev_chime_tune_fewest_l0 12000 (11998 + 1) a b c d e f) 12000 10 [(0, 5), (2, 5), (4, 5), (6, 5), (8, 5)] 3 [0, 0, 0, 0, 0, 1, 0, 0, 0, 0, 0, 0, 0, 0, 0, 0] [0, 0, 0, 0, 0] [0, 1, 2, 3, 4] 10 [(0, 5), (2, 5), (4, 5), (6, 5), (8, 5)] 3 [0, 1, 2, 3, 4] [] []) = _;rw [chk_of (by decide), idx_of (x := 0) (by decide) (by decide), few_pc, ev_chime_tune_fewest_l0, nextAll_nil]
  kernel_rfl
theorem Fewest_pc : ev_chime_Fewest 12000 10 [(0, 5), (2, 5), (4, 5), (6, 5), (8, 5)] 3 = some ([(5, 3), (5, 3), (5, 3)], [0, 1, 0, 1, 2], 0) := by
  rw [ev_chime_Fewest, bind_of check_pc, cond_if, if_neg (by decide), bind_of fewest_pc]
  decide +kernel
theorem pubChime_pc : ev_top_pubChime 12000 = some true := by
  have h1 : ev_top_pubSpan 12000 0 1 = some (0, 1) := rfl;have h2 : ev_top_pubSpan 12000 3 3 = some (3, 3) := rfl;have h3 : ev_chime_Meet 12000 [(4, 0, 1), (6, 3, 3)] 0 = some (9, 0) := by decide +kernel
  rw [ev_top_pubChime, bind_of h1, bind_of h2, bind_of h3, bind_of Fewest_pc]
  decide +kernel
end Go.Proofs.Ytgkoldcmbcbbpaa.Sy
