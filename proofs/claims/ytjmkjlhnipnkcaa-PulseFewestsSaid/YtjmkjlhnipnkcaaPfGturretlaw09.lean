/- What functions of the program compute, and that they do: printed by symgen.py. -/
import Derived.Test.YtjmkjlhnipnkcaaPfGLib
set_option linter.unusedSimpArgs false
set_option linter.unusedVariables false
namespace Go.Proofs.Ytjmkjlhnipnkcaa.Sy
open Go.RowKit
noncomputable section
set_option maxRecDepth 100000
set_option maxHeartbeats 2000000
def ev_law09_seen (n : Nat) (l1 : List (Int × Int)) : Option ((List (Int × Int))) :=
  chk (room 16 (([] : List (Int × Int)).length + l1.length)) <| some (([] : List (Int × Int)) ++ l1)
theorem fc_law09_seen {n : Nat} {l1 : List (Int × Int)} {r : (List (Int × Int))} (h : ev_law09_seen n l1 = some r) : FC Try.prog 22 [.ref 0] [.ro 0 2 (List.map en_api_PulseSeen l1)] (.ref 0) [.row 0 53 2 (List.map en_api_PulseSeen r)] := by
  refine introJ (nz := 6) Try.func22 rfl rfl rfl (fun w0 R0 env0 => ?_)
  rw [ev_law09_seen] at h;refine tr ?_;refine qa ?_;refine TL.nil ?_;refine tr ?_;refine q0 (sp_emptyM 1 (List.map en_api_PulseSeen []) rfl rfl sl50) ?_;refine qm ?_;obtain ⟨h1, h⟩ := chk_inv h;refine appM 0 1 (N := ([] : List (Int × Int)).length) (N2 := l1.length) 2 rfl rfl trivial rfl rfl rfl rfl rfl isRo rfl sl50 (len_map _ _) (len_map _ _) h1 (map_app _ _ _) rfl ?_;refine qa ?_;refine TL.nil ?_;cases h;exact retJ [(0, 2)] (.tmp rfl .nil) rfl ⟨mem_at 0 rfl, trivial⟩ rfl rfl
end
end Go.Proofs.Ytjmkjlhnipnkcaa.Sy
