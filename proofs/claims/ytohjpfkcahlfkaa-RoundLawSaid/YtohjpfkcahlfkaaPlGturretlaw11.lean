/- What functions of the program compute, and that they do: printed by symgen.py. -/
import Derived.Test.YtohjpfkcahlfkaaPlGLib
import Derived.Test.YtohjpfkcahlfkaaPlGRound
import Derived.Test.YtohjpfkcahlfkaaPlGTurretref11
set_option linter.unusedSimpArgs false
set_option linter.unusedVariables false
namespace Go.Proofs.Ytohjpfkcahlfkaa.Sy
open Go.RowKit
noncomputable section
set_option maxRecDepth 100000
set_option maxHeartbeats 2000000
def ev_law11_two (n : Nat) : Option ((List (Int × Int × Int × Int × Int)) × (List ((List Int))) × (List (Int × Int × Int × Int)) × Int × Int) :=
  some (([(10, 20, 1, 5, 8), (5, 15, 2, 3, 2)] : List (Int × Int × Int × Int × Int)), ([([0, 30, 10] : List Int), ([30, 0, 25] : List Int), ([10, 25, 0] : List Int)] : List ((List Int))), ([(3, 10, 200, 100), (2, 3, 100, 45)] : List (Int × Int × Int × Int)), 15, 2)
theorem fc_law11_two {n : Nat}  {r : (List (Int × Int × Int × Int × Int)) × (List ((List Int))) × (List (Int × Int × Int × Int)) × Int × Int} (h : ev_law11_two n = some r) : FC Try.prog 26 [] [] (.agg [.ref 0, .ref 1, .ref 2, vi r.2.2.2.1, vi r.2.2.2.2]) [.row 0 46 5 (List.map en_api_RoundTower r.1), .row 1 30 1 (List.map en_Lint r.2.1), .row 2 76 4 (List.map en_api_RoundWinder r.2.2.1)] := by
  refine introJ (nz := 12) Try.func26 rfl rfl rfl (fun w0 R0 env0 => ?_)
  rw [ev_law11_two] at h
  refine TC.seq ?_
  refine TC.region ?_
  refine op0 (sp_alloc 0 rfl Try.zeroValue26 rfl) rfl trivial rfl rfl ?_
  refine TL.nil ?_
  refine TC.seq ?_
  refine TC.region ?_
  refine op0 (sp_build (qs := [(0, vi 10), (1, vi 20), (2, .val (.int .u16 1)), (3, vi 5), (4, vi 8)]) rfl bt46 rfl rfl rfl rfl) rfl trivial rfl rfl ?_
  refine op0 (sp_build (qs := [(0, vi 5), (1, vi 15), (2, .val (.int .u16 2)), (3, vi 3), (4, vi 2)]) rfl bt46 rfl rfl rfl rfl) rfl trivial rfl rfl ?_
  refine op0 (sp_buildSlice (qs := [.agg [vi 10, vi 20, .val (.int .u16 1), vi 5, vi 8], .agg [vi 5, vi 15, .val (.int .u16 2), vi 3, vi 2]]) (need := []) (els := List.map en_api_RoundTower ([(10, 20, 1, 5, 8), (5, 15, 2, 3, 2)] : List (Int × Int × Int × Int × Int))) 1 rfl sl22 (by decide) (by decide) rfl rfl rfl (.v (.v (.v (.v (.v (.v (.v (.v (.v (.v (.nil))))))))))) (map_len fun _ => rfl) rfl rfl rfl) rfl trivial rfl rfl ?_
  refine op0 (sp_buildSlice (qs := [vi 0, vi 30, vi 10]) (need := []) (els := List.map en_int ([0, 30, 10] : List Int)) 2 rfl sl30 (by decide) (by decide) rfl rfl rfl (.v (.v (.v (.nil)))) (map_len fun _ => rfl) rfl rfl rfl) rfl trivial rfl rfl ?_
  refine op0 (sp_buildSlice (qs := [vi 30, vi 0, vi 25]) (need := []) (els := List.map en_int ([30, 0, 25] : List Int)) 3 rfl sl30 (by decide) (by decide) rfl rfl rfl (.v (.v (.v (.nil)))) (map_len fun _ => rfl) rfl rfl rfl) rfl trivial rfl rfl ?_
  refine op0 (sp_buildSlice (qs := [vi 10, vi 25, vi 0]) (need := []) (els := List.map en_int ([10, 25, 0] : List Int)) 4 rfl sl30 (by decide) (by decide) rfl rfl rfl (.v (.v (.v (.nil)))) (map_len fun _ => rfl) rfl rfl rfl) rfl trivial rfl rfl ?_
  refine TL.freeze 2 rfl ?_
  refine TL.freeze 1 rfl ?_
  refine TL.freeze 0 rfl ?_
  refine opN (need := [.ro 2 1 (List.map en_int ([0, 30, 10] : List Int)), .ro 3 1 (List.map en_int ([30, 0, 25] : List Int)), .ro 4 1 (List.map en_int ([10, 25, 0] : List Int))]) [2, 1, 0] ⟨rfl, rfl, rfl, trivial⟩ (sp_buildSlice (qs := [.ref 2, .ref 3, .ref 4]) (need := [.ro 2 1 (List.map en_int ([0, 30, 10] : List Int)), .ro 3 1 (List.map en_int ([30, 0, 25] : List Int)), .ro 4 1 (List.map en_int ([10, 25, 0] : List Int))]) (els := List.map en_Lint ([([0, 30, 10] : List Int), ([30, 0, 25] : List Int), ([10, 25, 0] : List Int)] : List ((List Int)))) 5 rfl sl23 (by decide) (by decide) rfl rfl rfl (.s (mem_at 0 rfl) (.s (mem_at 1 rfl) (.s (mem_at 2 rfl) (.nil)))) (map_len fun _ => rfl) rfl rfl rfl) rfl trivial rfl rfl ?_
  refine op0 (sp_build (qs := [(0, .val (.int .u16 3)), (1, vi 10), (2, vi 200), (3, vi 100)]) rfl bt76 rfl rfl rfl rfl) rfl trivial rfl rfl ?_
  refine op0 (sp_build (qs := [(0, .val (.int .u16 2)), (1, vi 3), (2, vi 100), (3, vi 45)]) rfl bt76 rfl rfl rfl rfl) rfl trivial rfl rfl ?_
  refine op0 (sp_buildSlice (qs := [.agg [.val (.int .u16 3), vi 10, vi 200, vi 100], .agg [.val (.int .u16 2), vi 3, vi 100, vi 45]]) (need := []) (els := List.map en_api_RoundWinder ([(3, 10, 200, 100), (2, 3, 100, 45)] : List (Int × Int × Int × Int))) 6 rfl sl24 (by decide) (by decide) rfl rfl rfl (.v (.v (.v (.v (.v (.v (.v (.v (.nil))))))))) (map_len fun _ => rfl) rfl rfl rfl) rfl trivial rfl rfl ?_
  refine op0 (sp_build (qs := [(0, .ref 1), (1, .ref 5), (2, .ref 6), (3, vi 15), (4, vi 2)]) rfl bt26 rfl rfl rfl rfl) rfl trivial rfl rfl ?_
  refine stoB 6 (cells' := [.ref 1, .ref 5, .ref 6, vi 15, vi 2]) rfl rfl trivial rfl rfl rfl rfl vt26 rfl rfl rfl ?_
  refine TL.nil ?_
  cases h
  exact retJ [(0, 1), (1, 5), (2, 6)] (.cells rfl (mem_at 6 rfl) isBlk vt26 rfl rfl (.nil)) rfl ⟨mem_at 5 rfl, mem_at 1 rfl, mem_at 0 rfl, trivial⟩ rfl rfl
def ev_law11_known_j0 (n : Nat) (r2 : Int × Int × Int × Int) (r4 : Int × Int × Int × Int) (r6 : (List Int) × Int × Int) (r8 : (List Int) × Int × Int) (r10 : (List (Int × (List Int))) × Int × Int) (r12 : (List Int) × Int) (r14 : Int × Int × Int) : Option Bool :=
  cond (r2.2.2.1 == 2) (cond (r4.1 == 130) (cond (r4.2.1 == 260) (cond (r6.2.1 == 130) ((ev_ref11_Same n r6.1 ([0, (-1), 1] : List Int)).bind fun r15 => cond r15 ((ev_ref11_Same n r8.1 ([1, (-1)] : List Int)).bind fun r16 => cond r16 ((ev_ref11_Equal n r10.1 ([(0, ([0, (-1), 1] : List Int))] : List (Int × (List Int)))).bind fun r17 => cond r17 ((ev_ref11_Same n r12.1 ([3, 1] : List Int)).bind fun r18 => cond r18 (cond (r14.1 == 1) (some (r14.2.1 == 6)) (some false)) (some false)) (some false)) (some false)) (some false)) (some false)) (some false)) (some false)) (some false)
theorem ok_law11_known_j0 {n : Nat} {w0 : World} {R0 : Nat → Prop} {env0 : Env} {r : Bool} {r2 : Int × Int × Int × Int} {r4 : Int × Int × Int × Int} {r6 : (List Int) × Int × Int} {r14 : Int × Int × Int} {r8 : (List Int) × Int × Int} {r10 : (List (Int × (List Int))) × Int × Int} {r12 : (List Int) × Int} (h : ev_law11_known_j0 n r2 r4 r6 r8 r10 r12 r14 = some r) : TC Try.prog ⟨w0, fun _ => False, R0⟩ 151 (bodyPost Try.prog Try.f9 (Post ⟨w0, fun _ => False, R0⟩ env0 (.val (.bool r)) [])) [.code (sub (bodyOf Try.f9) [1, 1, 1, 1, 1, 1, 1, 1, 1, 0, 1, 1]), .code (sub (bodyOf Try.f9) [1, 1, 1, 1, 1, 1, 1, 1, 1, 1])] ([(3, vi r2.2.2.1), (5, vi r4.1), (6, vi r4.2.1), (9, .ref 12), (10, vi r6.2.1), (12, .ref 17), (15, .ref 22), (19, .ref 29), (21, vi r14.1), (22, vi r14.2.1)]) ([.ro 12 1 (List.map en_int r6.1), .ro 17 1 (List.map en_int r8.1), .ro 22 2 (List.map en_api_RoundTrip r10.1), .row 29 3 1 (List.map en_int r12.1)]) := by
  rw [ev_law11_known_j0] at h
  refine TC.skip ?_
  refine TC.seq ?_
  refine TC.region ?_
  refine op0 (sp_move rfl rfl) rfl trivial rfl rfl ?_
  refine op0 (sp_eql rfl rfl rfl) rfl trivial rfl rfl ?_
  refine op0 (sp_move rfl rfl) rfl trivial rfl rfl ?_
  rcases cond_cases h with ⟨h22, h⟩ | ⟨h22, h⟩
  · refine (boolLit 109 rfl h22).2 ?_
    refine op0 (sp_move rfl rfl) rfl ⟨_, rfl, rfl⟩ rfl rfl ?_
    refine op0 (sp_eql rfl rfl rfl) rfl ⟨_, rfl, rfl⟩ rfl rfl ?_
    refine op0 (sp_pickT rfl rfl rfl) rfl trivial rfl rfl ?_
    refine op0 (sp_move rfl rfl) rfl trivial rfl rfl ?_
    rcases cond_cases h with ⟨h23, h⟩ | ⟨h23, h⟩
    · refine (boolLit 113 rfl h23).2 ?_
      refine op0 (sp_move rfl rfl) rfl ⟨_, rfl, rfl⟩ rfl rfl ?_
      refine op0 (sp_eql rfl rfl rfl) rfl ⟨_, rfl, rfl⟩ rfl rfl ?_
      refine op0 (sp_pickT rfl rfl rfl) rfl trivial rfl rfl ?_
      refine op0 (sp_move rfl rfl) rfl trivial rfl rfl ?_
      rcases cond_cases h with ⟨h24, h⟩ | ⟨h24, h⟩
      · refine (boolLit 117 rfl h24).2 ?_
        refine op0 (sp_move rfl rfl) rfl ⟨_, rfl, rfl⟩ rfl rfl ?_
        refine op0 (sp_eql rfl rfl rfl) rfl ⟨_, rfl, rfl⟩ rfl rfl ?_
        refine op0 (sp_pickT rfl rfl rfl) rfl trivial rfl rfl ?_
        refine op0 (sp_move rfl rfl) rfl trivial rfl rfl ?_
        rcases cond_cases h with ⟨h25, h⟩ | ⟨h25, h⟩
        · refine (boolLit 121 rfl h25).2 ?_
          refine op0 (sp_move rfl rfl) rfl ⟨_, rfl, rfl⟩ rfl rfl ?_
          refine op0 (sp_buildSlice (qs := [vi 0, vi (-1), vi 1]) (need := []) (els := List.map en_int ([0, (-1), 1] : List Int)) 33 rfl sl30 (by decide) (by decide) rfl rfl rfl (.v (.v (.v (.nil)))) (map_len fun _ => rfl) rfl rfl rfl) rfl ⟨_, rfl, rfl⟩ rfl rfl ?_
          obtain ⟨r15, h26, h⟩ := bind_inv h
          refine opN (need := [.ro 12 1 (List.map en_int r6.1), .row 33 3 1 (List.map en_int ([0, (-1), 1] : List Int))]) [1, 0] ⟨rfl, rfl, trivial⟩ (sp_call (avs := [.ref 12, .ref 33]) (need := [.ro 12 1 (List.map en_int r6.1), .row 33 3 1 (List.map en_int ([0, (-1), 1] : List Int))]) (v := .val (.bool r15)) (news := []) rfl rfl rfl Try.call14 (atJ [(0, 12), (1, 33)] [] (fc_ref11_Same h26) rfl rfl) (.inr (fun x hx => nomatch hx))) rfl ⟨_, rfl, rfl⟩ rfl rfl ?_
          refine op0 (sp_pickT rfl rfl rfl) rfl trivial rfl rfl ?_
          refine op0 (sp_move rfl rfl) rfl trivial rfl rfl ?_
          rcases cond_cases h with ⟨h27, h⟩ | ⟨h27, h⟩
          · refine (boolLit 126 rfl h27).2 ?_
            refine op0 (sp_move rfl rfl) rfl ⟨_, rfl, rfl⟩ rfl rfl ?_
            refine op0 (sp_buildSlice (qs := [vi 1, vi (-1)]) (need := []) (els := List.map en_int ([1, (-1)] : List Int)) 34 rfl sl30 (by decide) (by decide) rfl rfl rfl (.v (.v (.nil))) (map_len fun _ => rfl) rfl rfl rfl) rfl ⟨_, rfl, rfl⟩ rfl rfl ?_
            obtain ⟨r16, h28, h⟩ := bind_inv h
            refine opN (need := [.ro 17 1 (List.map en_int r8.1), .row 34 3 1 (List.map en_int ([1, (-1)] : List Int))]) [3, 0] ⟨rfl, rfl, trivial⟩ (sp_call (avs := [.ref 17, .ref 34]) (need := [.ro 17 1 (List.map en_int r8.1), .row 34 3 1 (List.map en_int ([1, (-1)] : List Int))]) (v := .val (.bool r16)) (news := []) rfl rfl rfl Try.call14 (atJ [(0, 17), (1, 34)] [] (fc_ref11_Same h28) rfl rfl) (.inr (fun x hx => nomatch hx))) rfl ⟨_, rfl, rfl⟩ rfl rfl ?_
            refine op0 (sp_pickT rfl rfl rfl) rfl trivial rfl rfl ?_
            refine op0 (sp_move rfl rfl) rfl trivial rfl rfl ?_
            rcases cond_cases h with ⟨h29, h⟩ | ⟨h29, h⟩
            · refine (boolLit 131 rfl h29).2 ?_
              refine op0 (sp_move rfl rfl) rfl ⟨_, rfl, rfl⟩ rfl rfl ?_
              refine op0 (sp_buildSlice (qs := [vi 0, vi (-1), vi 1]) (need := []) (els := List.map en_int ([0, (-1), 1] : List Int)) 35 rfl sl30 (by decide) (by decide) rfl rfl rfl (.v (.v (.v (.nil)))) (map_len fun _ => rfl) rfl rfl rfl) rfl ⟨_, rfl, rfl⟩ rfl rfl ?_
              refine op0 (sp_build (qs := [(1, .ref 35)]) rfl bt65 rfl rfl rfl rfl) rfl ⟨_, rfl, rfl⟩ rfl rfl ?_
              refine TL.freeze 0 rfl ?_
              refine op1 0 rfl (sp_buildSlice (qs := [.agg [vi 0, .ref 35]]) (need := [.ro 35 1 (List.map en_int ([0, (-1), 1] : List Int))]) (els := List.map en_api_RoundTrip ([(0, ([0, (-1), 1] : List Int))] : List (Int × (List Int)))) 36 rfl sl68 (by decide) (by decide) rfl rfl rfl (.v (.s (mem_at 0 rfl) (.nil))) (map_len fun _ => rfl) rfl rfl rfl) rfl ⟨_, rfl, rfl⟩ rfl rfl ?_
              obtain ⟨r17, h30, h⟩ := bind_inv h
              refine opN (need := [.ro 22 2 (List.map en_api_RoundTrip r10.1), .row 36 65 2 (List.map en_api_RoundTrip ([(0, ([0, (-1), 1] : List Int))] : List (Int × (List Int))))]) [6, 0] ⟨rfl, rfl, trivial⟩ (sp_call (avs := [.ref 22, .ref 36]) (need := [.ro 22 2 (List.map en_api_RoundTrip r10.1), .row 36 65 2 (List.map en_api_RoundTrip ([(0, ([0, (-1), 1] : List Int))] : List (Int × (List Int))))]) (v := .val (.bool r17)) (news := []) rfl rfl rfl Try.call27 (atJ [(0, 22), (1, 36)] [] (fc_ref11_Equal h30) rfl rfl) (.inr (fun x hx => nomatch hx))) rfl ⟨_, rfl, rfl⟩ rfl rfl ?_
              refine op0 (sp_pickT rfl rfl rfl) rfl trivial rfl rfl ?_
              refine op0 (sp_move rfl rfl) rfl trivial rfl rfl ?_
              rcases cond_cases h with ⟨h31, h⟩ | ⟨h31, h⟩
              · refine (boolLit 138 rfl h31).2 ?_
                refine op0 (sp_move rfl rfl) rfl ⟨_, rfl, rfl⟩ rfl rfl ?_
                refine op0 (sp_buildSlice (qs := [vi 3, vi 1]) (need := []) (els := List.map en_int ([3, 1] : List Int)) 37 rfl sl30 (by decide) (by decide) rfl rfl rfl (.v (.v (.nil))) (map_len fun _ => rfl) rfl rfl rfl) rfl ⟨_, rfl, rfl⟩ rfl rfl ?_
                obtain ⟨r18, h32, h⟩ := bind_inv h
                refine opN (need := [.row 29 3 1 (List.map en_int r12.1), .row 37 3 1 (List.map en_int ([3, 1] : List Int))]) [8, 0] ⟨rfl, rfl, trivial⟩ (sp_call (avs := [.ref 29, .ref 37]) (need := [.row 29 3 1 (List.map en_int r12.1), .row 37 3 1 (List.map en_int ([3, 1] : List Int))]) (v := .val (.bool r18)) (news := []) rfl rfl rfl Try.call14 (atJ [(0, 29), (1, 37)] [] (fc_ref11_Same h32) rfl rfl) (.inr (fun x hx => nomatch hx))) rfl ⟨_, rfl, rfl⟩ rfl rfl ?_
                refine op0 (sp_pickT rfl rfl rfl) rfl trivial rfl rfl ?_
                refine op0 (sp_move rfl rfl) rfl trivial rfl rfl ?_
                rcases cond_cases h with ⟨h33, h⟩ | ⟨h33, h⟩
                · refine (boolLit 143 rfl h33).2 ?_
                  refine op0 (sp_move rfl rfl) rfl ⟨_, rfl, rfl⟩ rfl rfl ?_
                  refine op0 (sp_eql rfl rfl rfl) rfl ⟨_, rfl, rfl⟩ rfl rfl ?_
                  refine op0 (sp_pickT rfl rfl rfl) rfl trivial rfl rfl ?_
                  refine op0 (sp_move rfl rfl) rfl trivial rfl rfl ?_
                  rcases cond_cases h with ⟨h34, h⟩ | ⟨h34, h⟩
                  · refine (boolLit 147 rfl h34).2 ?_
                    refine op0 (sp_move rfl rfl) rfl ⟨_, rfl, rfl⟩ rfl rfl ?_
                    refine op0 (sp_eql rfl rfl rfl) rfl ⟨_, rfl, rfl⟩ rfl rfl ?_
                    refine op0 (sp_pickT rfl rfl rfl) rfl trivial rfl rfl ?_
                    refine op0 (sp_assign rfl rfl) rfl trivial rfl rfl ?_
                    refine TL.nil ?_
                    cases h
                    exact retJ [] (.tmp rfl .nil) rfl trivial rfl rfl
                  · refine (boolLit 147 rfl h34).2 ?_
                    refine opSkip rfl ⟨_, rfl, .inl rfl⟩ rfl ?_
                    refine opSkip rfl ⟨_, rfl, .inl rfl⟩ rfl ?_
                    refine op0 (sp_pickF rfl rfl rfl) rfl trivial rfl rfl ?_
                    refine op0 (sp_assign rfl rfl) rfl trivial rfl rfl ?_
                    refine TL.nil ?_
                    cases h
                    exact retJ [] (.tmp rfl .nil) rfl trivial rfl rfl
                · refine (boolLit 143 rfl h33).2 ?_
                  refine opSkip rfl ⟨_, rfl, .inl rfl⟩ rfl ?_
                  refine opSkip rfl ⟨_, rfl, .inl rfl⟩ rfl ?_
                  refine op0 (sp_pickF rfl rfl rfl) rfl trivial rfl rfl ?_
                  refine op0 (sp_move rfl rfl) rfl trivial rfl rfl ?_
                  refine opSkip rfl ⟨_, rfl, .inl rfl⟩ rfl ?_
                  refine opSkip rfl ⟨_, rfl, .inl rfl⟩ rfl ?_
                  refine op0 (sp_pickF rfl rfl rfl) rfl trivial rfl rfl ?_
                  refine op0 (sp_assign rfl rfl) rfl trivial rfl rfl ?_
                  refine TL.nil ?_
                  cases h
                  exact retJ [] (.tmp rfl .nil) rfl trivial rfl rfl
              · refine (boolLit 138 rfl h31).2 ?_
                refine opSkip rfl ⟨_, rfl, .inl rfl⟩ rfl ?_
                refine opSkip rfl ⟨_, rfl, .inl rfl⟩ rfl ?_
                refine opSkip rfl ⟨_, rfl, .inl rfl⟩ rfl ?_
                refine op0 (sp_pickF rfl rfl rfl) rfl trivial rfl rfl ?_
                refine op0 (sp_move rfl rfl) rfl trivial rfl rfl ?_
                refine opSkip rfl ⟨_, rfl, .inl rfl⟩ rfl ?_
                refine opSkip rfl ⟨_, rfl, .inl rfl⟩ rfl ?_
                refine op0 (sp_pickF rfl rfl rfl) rfl trivial rfl rfl ?_
                refine op0 (sp_move rfl rfl) rfl trivial rfl rfl ?_
                refine opSkip rfl ⟨_, rfl, .inl rfl⟩ rfl ?_
                refine opSkip rfl ⟨_, rfl, .inl rfl⟩ rfl ?_
                refine op0 (sp_pickF rfl rfl rfl) rfl trivial rfl rfl ?_
                refine op0 (sp_assign rfl rfl) rfl trivial rfl rfl ?_
                refine TL.nil ?_
                cases h
                exact retJ [] (.tmp rfl .nil) rfl trivial rfl rfl
            · refine (boolLit 131 rfl h29).2 ?_
              refine opSkip rfl ⟨_, rfl, .inl rfl⟩ rfl ?_
              refine opSkip rfl ⟨_, rfl, .inl rfl⟩ rfl ?_
              refine opSkip rfl ⟨_, rfl, .inl rfl⟩ rfl ?_
              refine opSkip rfl ⟨_, rfl, .inl rfl⟩ rfl ?_
              refine opSkip rfl ⟨_, rfl, .inl rfl⟩ rfl ?_
              refine op0 (sp_pickF rfl rfl rfl) rfl trivial rfl rfl ?_
              refine op0 (sp_move rfl rfl) rfl trivial rfl rfl ?_
              refine opSkip rfl ⟨_, rfl, .inl rfl⟩ rfl ?_
              refine opSkip rfl ⟨_, rfl, .inl rfl⟩ rfl ?_
              refine opSkip rfl ⟨_, rfl, .inl rfl⟩ rfl ?_
              refine op0 (sp_pickF rfl rfl rfl) rfl trivial rfl rfl ?_
              refine op0 (sp_move rfl rfl) rfl trivial rfl rfl ?_
              refine opSkip rfl ⟨_, rfl, .inl rfl⟩ rfl ?_
              refine opSkip rfl ⟨_, rfl, .inl rfl⟩ rfl ?_
              refine op0 (sp_pickF rfl rfl rfl) rfl trivial rfl rfl ?_
              refine op0 (sp_move rfl rfl) rfl trivial rfl rfl ?_
              refine opSkip rfl ⟨_, rfl, .inl rfl⟩ rfl ?_
              refine opSkip rfl ⟨_, rfl, .inl rfl⟩ rfl ?_
              refine op0 (sp_pickF rfl rfl rfl) rfl trivial rfl rfl ?_
              refine op0 (sp_assign rfl rfl) rfl trivial rfl rfl ?_
              refine TL.nil ?_
              cases h
              exact retJ [] (.tmp rfl .nil) rfl trivial rfl rfl
          · refine (boolLit 126 rfl h27).2 ?_
            refine opSkip rfl ⟨_, rfl, .inl rfl⟩ rfl ?_
            refine opSkip rfl ⟨_, rfl, .inl rfl⟩ rfl ?_
            refine opSkip rfl ⟨_, rfl, .inl rfl⟩ rfl ?_
            refine op0 (sp_pickF rfl rfl rfl) rfl trivial rfl rfl ?_
            refine op0 (sp_move rfl rfl) rfl trivial rfl rfl ?_
            refine opSkip rfl ⟨_, rfl, .inl rfl⟩ rfl ?_
            refine opSkip rfl ⟨_, rfl, .inl rfl⟩ rfl ?_
            refine opSkip rfl ⟨_, rfl, .inl rfl⟩ rfl ?_
            refine opSkip rfl ⟨_, rfl, .inl rfl⟩ rfl ?_
            refine opSkip rfl ⟨_, rfl, .inl rfl⟩ rfl ?_
            refine op0 (sp_pickF rfl rfl rfl) rfl trivial rfl rfl ?_
            refine op0 (sp_move rfl rfl) rfl trivial rfl rfl ?_
            refine opSkip rfl ⟨_, rfl, .inl rfl⟩ rfl ?_
            refine opSkip rfl ⟨_, rfl, .inl rfl⟩ rfl ?_
            refine opSkip rfl ⟨_, rfl, .inl rfl⟩ rfl ?_
            refine op0 (sp_pickF rfl rfl rfl) rfl trivial rfl rfl ?_
            refine op0 (sp_move rfl rfl) rfl trivial rfl rfl ?_
            refine opSkip rfl ⟨_, rfl, .inl rfl⟩ rfl ?_
            refine opSkip rfl ⟨_, rfl, .inl rfl⟩ rfl ?_
            refine op0 (sp_pickF rfl rfl rfl) rfl trivial rfl rfl ?_
            refine op0 (sp_move rfl rfl) rfl trivial rfl rfl ?_
            refine opSkip rfl ⟨_, rfl, .inl rfl⟩ rfl ?_
            refine opSkip rfl ⟨_, rfl, .inl rfl⟩ rfl ?_
            refine op0 (sp_pickF rfl rfl rfl) rfl trivial rfl rfl ?_
            refine op0 (sp_assign rfl rfl) rfl trivial rfl rfl ?_
            refine TL.nil ?_
            cases h
            exact retJ [] (.tmp rfl .nil) rfl trivial rfl rfl
        · refine (boolLit 121 rfl h25).2 ?_
          refine opSkip rfl ⟨_, rfl, .inl rfl⟩ rfl ?_
          refine opSkip rfl ⟨_, rfl, .inl rfl⟩ rfl ?_
          refine opSkip rfl ⟨_, rfl, .inl rfl⟩ rfl ?_
          refine op0 (sp_pickF rfl rfl rfl) rfl trivial rfl rfl ?_
          refine op0 (sp_move rfl rfl) rfl trivial rfl rfl ?_
          refine opSkip rfl ⟨_, rfl, .inl rfl⟩ rfl ?_
          refine opSkip rfl ⟨_, rfl, .inl rfl⟩ rfl ?_
          refine opSkip rfl ⟨_, rfl, .inl rfl⟩ rfl ?_
          refine op0 (sp_pickF rfl rfl rfl) rfl trivial rfl rfl ?_
          refine op0 (sp_move rfl rfl) rfl trivial rfl rfl ?_
          refine opSkip rfl ⟨_, rfl, .inl rfl⟩ rfl ?_
          refine opSkip rfl ⟨_, rfl, .inl rfl⟩ rfl ?_
          refine opSkip rfl ⟨_, rfl, .inl rfl⟩ rfl ?_
          refine opSkip rfl ⟨_, rfl, .inl rfl⟩ rfl ?_
          refine opSkip rfl ⟨_, rfl, .inl rfl⟩ rfl ?_
          refine op0 (sp_pickF rfl rfl rfl) rfl trivial rfl rfl ?_
          refine op0 (sp_move rfl rfl) rfl trivial rfl rfl ?_
          refine opSkip rfl ⟨_, rfl, .inl rfl⟩ rfl ?_
          refine opSkip rfl ⟨_, rfl, .inl rfl⟩ rfl ?_
          refine opSkip rfl ⟨_, rfl, .inl rfl⟩ rfl ?_
          refine op0 (sp_pickF rfl rfl rfl) rfl trivial rfl rfl ?_
          refine op0 (sp_move rfl rfl) rfl trivial rfl rfl ?_
          refine opSkip rfl ⟨_, rfl, .inl rfl⟩ rfl ?_
          refine opSkip rfl ⟨_, rfl, .inl rfl⟩ rfl ?_
          refine op0 (sp_pickF rfl rfl rfl) rfl trivial rfl rfl ?_
          refine op0 (sp_move rfl rfl) rfl trivial rfl rfl ?_
          refine opSkip rfl ⟨_, rfl, .inl rfl⟩ rfl ?_
          refine opSkip rfl ⟨_, rfl, .inl rfl⟩ rfl ?_
          refine op0 (sp_pickF rfl rfl rfl) rfl trivial rfl rfl ?_
          refine op0 (sp_assign rfl rfl) rfl trivial rfl rfl ?_
          refine TL.nil ?_
          cases h
          exact retJ [] (.tmp rfl .nil) rfl trivial rfl rfl
      · refine (boolLit 117 rfl h24).2 ?_
        refine opSkip rfl ⟨_, rfl, .inl rfl⟩ rfl ?_
        refine opSkip rfl ⟨_, rfl, .inl rfl⟩ rfl ?_
        refine op0 (sp_pickF rfl rfl rfl) rfl trivial rfl rfl ?_
        refine op0 (sp_move rfl rfl) rfl trivial rfl rfl ?_
        refine opSkip rfl ⟨_, rfl, .inl rfl⟩ rfl ?_
        refine opSkip rfl ⟨_, rfl, .inl rfl⟩ rfl ?_
        refine opSkip rfl ⟨_, rfl, .inl rfl⟩ rfl ?_
        refine op0 (sp_pickF rfl rfl rfl) rfl trivial rfl rfl ?_
        refine op0 (sp_move rfl rfl) rfl trivial rfl rfl ?_
        refine opSkip rfl ⟨_, rfl, .inl rfl⟩ rfl ?_
        refine opSkip rfl ⟨_, rfl, .inl rfl⟩ rfl ?_
        refine opSkip rfl ⟨_, rfl, .inl rfl⟩ rfl ?_
        refine op0 (sp_pickF rfl rfl rfl) rfl trivial rfl rfl ?_
        refine op0 (sp_move rfl rfl) rfl trivial rfl rfl ?_
        refine opSkip rfl ⟨_, rfl, .inl rfl⟩ rfl ?_
        refine opSkip rfl ⟨_, rfl, .inl rfl⟩ rfl ?_
        refine opSkip rfl ⟨_, rfl, .inl rfl⟩ rfl ?_
        refine opSkip rfl ⟨_, rfl, .inl rfl⟩ rfl ?_
        refine opSkip rfl ⟨_, rfl, .inl rfl⟩ rfl ?_
        refine op0 (sp_pickF rfl rfl rfl) rfl trivial rfl rfl ?_
        refine op0 (sp_move rfl rfl) rfl trivial rfl rfl ?_
        refine opSkip rfl ⟨_, rfl, .inl rfl⟩ rfl ?_
        refine opSkip rfl ⟨_, rfl, .inl rfl⟩ rfl ?_
        refine opSkip rfl ⟨_, rfl, .inl rfl⟩ rfl ?_
        refine op0 (sp_pickF rfl rfl rfl) rfl trivial rfl rfl ?_
        refine op0 (sp_move rfl rfl) rfl trivial rfl rfl ?_
        refine opSkip rfl ⟨_, rfl, .inl rfl⟩ rfl ?_
        refine opSkip rfl ⟨_, rfl, .inl rfl⟩ rfl ?_
        refine op0 (sp_pickF rfl rfl rfl) rfl trivial rfl rfl ?_
        refine op0 (sp_move rfl rfl) rfl trivial rfl rfl ?_
        refine opSkip rfl ⟨_, rfl, .inl rfl⟩ rfl ?_
        refine opSkip rfl ⟨_, rfl, .inl rfl⟩ rfl ?_
        refine op0 (sp_pickF rfl rfl rfl) rfl trivial rfl rfl ?_
        refine op0 (sp_assign rfl rfl) rfl trivial rfl rfl ?_
        refine TL.nil ?_
        cases h
        exact retJ [] (.tmp rfl .nil) rfl trivial rfl rfl
    · refine (boolLit 113 rfl h23).2 ?_
      refine opSkip rfl ⟨_, rfl, .inl rfl⟩ rfl ?_
      refine opSkip rfl ⟨_, rfl, .inl rfl⟩ rfl ?_
      refine op0 (sp_pickF rfl rfl rfl) rfl trivial rfl rfl ?_
      refine op0 (sp_move rfl rfl) rfl trivial rfl rfl ?_
      refine opSkip rfl ⟨_, rfl, .inl rfl⟩ rfl ?_
      refine opSkip rfl ⟨_, rfl, .inl rfl⟩ rfl ?_
      refine op0 (sp_pickF rfl rfl rfl) rfl trivial rfl rfl ?_
      refine op0 (sp_move rfl rfl) rfl trivial rfl rfl ?_
      refine opSkip rfl ⟨_, rfl, .inl rfl⟩ rfl ?_
      refine opSkip rfl ⟨_, rfl, .inl rfl⟩ rfl ?_
      refine opSkip rfl ⟨_, rfl, .inl rfl⟩ rfl ?_
      refine op0 (sp_pickF rfl rfl rfl) rfl trivial rfl rfl ?_
      refine op0 (sp_move rfl rfl) rfl trivial rfl rfl ?_
      refine opSkip rfl ⟨_, rfl, .inl rfl⟩ rfl ?_
      refine opSkip rfl ⟨_, rfl, .inl rfl⟩ rfl ?_
      refine opSkip rfl ⟨_, rfl, .inl rfl⟩ rfl ?_
      refine op0 (sp_pickF rfl rfl rfl) rfl trivial rfl rfl ?_
      refine op0 (sp_move rfl rfl) rfl trivial rfl rfl ?_
      refine opSkip rfl ⟨_, rfl, .inl rfl⟩ rfl ?_
      refine opSkip rfl ⟨_, rfl, .inl rfl⟩ rfl ?_
      refine opSkip rfl ⟨_, rfl, .inl rfl⟩ rfl ?_
      refine opSkip rfl ⟨_, rfl, .inl rfl⟩ rfl ?_
      refine opSkip rfl ⟨_, rfl, .inl rfl⟩ rfl ?_
      refine op0 (sp_pickF rfl rfl rfl) rfl trivial rfl rfl ?_
      refine op0 (sp_move rfl rfl) rfl trivial rfl rfl ?_
      refine opSkip rfl ⟨_, rfl, .inl rfl⟩ rfl ?_
      refine opSkip rfl ⟨_, rfl, .inl rfl⟩ rfl ?_
      refine opSkip rfl ⟨_, rfl, .inl rfl⟩ rfl ?_
      refine op0 (sp_pickF rfl rfl rfl) rfl trivial rfl rfl ?_
      refine op0 (sp_move rfl rfl) rfl trivial rfl rfl ?_
      refine opSkip rfl ⟨_, rfl, .inl rfl⟩ rfl ?_
      refine opSkip rfl ⟨_, rfl, .inl rfl⟩ rfl ?_
      refine op0 (sp_pickF rfl rfl rfl) rfl trivial rfl rfl ?_
      refine op0 (sp_move rfl rfl) rfl trivial rfl rfl ?_
      refine opSkip rfl ⟨_, rfl, .inl rfl⟩ rfl ?_
      refine opSkip rfl ⟨_, rfl, .inl rfl⟩ rfl ?_
      refine op0 (sp_pickF rfl rfl rfl) rfl trivial rfl rfl ?_
      refine op0 (sp_assign rfl rfl) rfl trivial rfl rfl ?_
      refine TL.nil ?_
      cases h
      exact retJ [] (.tmp rfl .nil) rfl trivial rfl rfl
  · refine (boolLit 109 rfl h22).2 ?_
    refine opSkip rfl ⟨_, rfl, .inl rfl⟩ rfl ?_
    refine opSkip rfl ⟨_, rfl, .inl rfl⟩ rfl ?_
    refine op0 (sp_pickF rfl rfl rfl) rfl trivial rfl rfl ?_
    refine op0 (sp_move rfl rfl) rfl trivial rfl rfl ?_
    refine opSkip rfl ⟨_, rfl, .inl rfl⟩ rfl ?_
    refine opSkip rfl ⟨_, rfl, .inl rfl⟩ rfl ?_
    refine op0 (sp_pickF rfl rfl rfl) rfl trivial rfl rfl ?_
    refine op0 (sp_move rfl rfl) rfl trivial rfl rfl ?_
    refine opSkip rfl ⟨_, rfl, .inl rfl⟩ rfl ?_
    refine opSkip rfl ⟨_, rfl, .inl rfl⟩ rfl ?_
    refine op0 (sp_pickF rfl rfl rfl) rfl trivial rfl rfl ?_
    refine op0 (sp_move rfl rfl) rfl trivial rfl rfl ?_
    refine opSkip rfl ⟨_, rfl, .inl rfl⟩ rfl ?_
    refine opSkip rfl ⟨_, rfl, .inl rfl⟩ rfl ?_
    refine opSkip rfl ⟨_, rfl, .inl rfl⟩ rfl ?_
    refine op0 (sp_pickF rfl rfl rfl) rfl trivial rfl rfl ?_
    refine op0 (sp_move rfl rfl) rfl trivial rfl rfl ?_
    refine opSkip rfl ⟨_, rfl, .inl rfl⟩ rfl ?_
    refine opSkip rfl ⟨_, rfl, .inl rfl⟩ rfl ?_
    refine opSkip rfl ⟨_, rfl, .inl rfl⟩ rfl ?_
    refine op0 (sp_pickF rfl rfl rfl) rfl trivial rfl rfl ?_
    refine op0 (sp_move rfl rfl) rfl trivial rfl rfl ?_
    refine opSkip rfl ⟨_, rfl, .inl rfl⟩ rfl ?_
    refine opSkip rfl ⟨_, rfl, .inl rfl⟩ rfl ?_
    refine opSkip rfl ⟨_, rfl, .inl rfl⟩ rfl ?_
    refine opSkip rfl ⟨_, rfl, .inl rfl⟩ rfl ?_
    refine opSkip rfl ⟨_, rfl, .inl rfl⟩ rfl ?_
    refine op0 (sp_pickF rfl rfl rfl) rfl trivial rfl rfl ?_
    refine op0 (sp_move rfl rfl) rfl trivial rfl rfl ?_
    refine opSkip rfl ⟨_, rfl, .inl rfl⟩ rfl ?_
    refine opSkip rfl ⟨_, rfl, .inl rfl⟩ rfl ?_
    refine opSkip rfl ⟨_, rfl, .inl rfl⟩ rfl ?_
    refine op0 (sp_pickF rfl rfl rfl) rfl trivial rfl rfl ?_
    refine op0 (sp_move rfl rfl) rfl trivial rfl rfl ?_
    refine opSkip rfl ⟨_, rfl, .inl rfl⟩ rfl ?_
    refine opSkip rfl ⟨_, rfl, .inl rfl⟩ rfl ?_
    refine op0 (sp_pickF rfl rfl rfl) rfl trivial rfl rfl ?_
    refine op0 (sp_move rfl rfl) rfl trivial rfl rfl ?_
    refine opSkip rfl ⟨_, rfl, .inl rfl⟩ rfl ?_
    refine opSkip rfl ⟨_, rfl, .inl rfl⟩ rfl ?_
    refine op0 (sp_pickF rfl rfl rfl) rfl trivial rfl rfl ?_
    refine op0 (sp_assign rfl rfl) rfl trivial rfl rfl ?_
    refine TL.nil ?_
    cases h
    exact retJ [] (.tmp rfl .nil) rfl trivial rfl rfl
def ev_law11_known (n : Nat) : Option Bool :=
  (ev_law11_two n).bind fun r1 => (ev_round_Walk n r1.1 r1.2.1 r1.2.2.1 r1.2.2.2.1 r1.2.2.2.2 0 ([0, 1] : List Int)).bind fun r2 => (ev_law11_two n).bind fun r3 => (ev_round_Walk n r3.1 r3.2.1 r3.2.2.1 r3.2.2.2.1 r3.2.2.2.2 0 ([0, 1, (-1)] : List Int)).bind fun r4 => (ev_law11_two n).bind fun r5 => (ev_round_Best n r5.1 r5.2.1 r5.2.2.1 r5.2.2.2.1 r5.2.2.2.2 0 ([1, 0] : List Int)).bind fun r6 => (ev_law11_two n).bind fun r7 => (ev_round_Best n r7.1 r7.2.1 r7.2.2.1 r7.2.2.2.1 r7.2.2.2.2 1 ([1] : List Int)).bind fun r8 => (ev_law11_two n).bind fun r9 => (ev_round_Fewest n r9.1 r9.2.1 r9.2.2.1 r9.2.2.2.1 r9.2.2.2.2 ([0, 1] : List Int)).bind fun r10 => (ev_law11_two n).bind fun r11 => (ev_round_Left n r11.1 r11.2.1 r11.2.2.1 r11.2.2.2.1 r11.2.2.2.2 ([(2, ([1] : List Int)), (4, ([1] : List Int))] : List (Int × (List Int))) 5).bind fun r12 => (ev_law11_two n).bind fun r13 => (ev_round_Stops n r13.1 r13.2.1 r13.2.2.1 r13.2.2.2.1 r13.2.2.2.2 ([(2, ([1] : List Int)), (4, ([1] : List Int))] : List (Int × (List Int))) 10).bind fun r14 => cond (r2.2.2.2 != 111) (some false) (cond (r4.2.2.2 != 0) (some false) (cond (r6.2.2 != 0) (some false) (cond (r8.2.2 != 0) (some false) (cond (r10.2.2 != 0) (some false) (cond (r12.2 != 0) (some false) (cond (r14.2.2 != 0) (some false) (ev_law11_known_j0 n r2 r4 r6 r8 r10 r12 r14)))))))
theorem fc_law11_known {n : Nat}  {r : Bool} (h : ev_law11_known n = some r) : FC Try.prog 9 [] [] (.val (.bool r)) [] := by
  refine introJ (nz := 151) Try.func9 rfl rfl rfl (fun w0 R0 env0 => ?_)
  rw [ev_law11_known] at h
  refine TC.seq ?_
  refine TC.region ?_
  refine op0 (sp_assign rfl rfl) rfl trivial rfl rfl ?_
  refine TL.nil ?_
  refine TC.seq ?_
  refine TC.region ?_
  obtain ⟨r1, h1, h⟩ := bind_inv h
  refine op0 (sp_call (avs := []) (need := []) (v := .agg [.ref 0, .ref 1, .ref 2, vi r1.2.2.2.1, vi r1.2.2.2.2]) (news := [.row 0 46 5 (List.map en_api_RoundTower r1.1), .row 1 30 1 (List.map en_Lint r1.2.1), .row 2 76 4 (List.map en_api_RoundWinder r1.2.2.1)]) rfl rfl rfl Try.call26 (atJ [] [] (fc_law11_two h1) rfl rfl) (.inl (roAll rfl))) rfl trivial rfl rfl ?_
  refine op0 (sp_buildSlice (qs := [vi 0, vi 1]) (need := []) (els := List.map en_int ([0, 1] : List Int)) 3 rfl sl30 (by decide) (by decide) rfl rfl rfl (.v (.v (.nil))) (map_len fun _ => rfl) rfl rfl rfl) rfl trivial rfl rfl ?_
  refine op0 (sp_build (qs := [(1, .ref 3)]) rfl bt65 rfl rfl rfl rfl) rfl trivial rfl rfl ?_
  obtain ⟨r2, h2, h⟩ := bind_inv h
  refine opN (need := [.row 0 46 5 (List.map en_api_RoundTower r1.1), .row 1 30 1 (List.map en_Lint r1.2.1), .row 2 76 4 (List.map en_api_RoundWinder r1.2.2.1), .row 3 3 1 (List.map en_int ([0, 1] : List Int))]) [1, 2, 3, 0] ⟨rfl, rfl, rfl, rfl, trivial⟩ (sp_call (avs := [.agg [.ref 0, .ref 1, .ref 2, vi r1.2.2.2.1, vi r1.2.2.2.2], .agg [vi 0, .ref 3]]) (need := [.row 0 46 5 (List.map en_api_RoundTower r1.1), .row 1 30 1 (List.map en_Lint r1.2.1), .row 2 76 4 (List.map en_api_RoundWinder r1.2.2.1), .row 3 3 1 (List.map en_int ([0, 1] : List Int))]) (v := .tup [vi r2.1, vi r2.2.1, vi r2.2.2.1, vi r2.2.2.2]) (news := []) rfl rfl rfl Try.call24 (atJ [] [] (fc_round_Walk h2) rfl rfl) (.inr (fun x hx => nomatch hx))) rfl trivial rfl rfl ?_
  refine op0 (sp_move rfl rfl) rfl trivial rfl rfl ?_
  refine op0 (sp_extract rfl rfl rfl) rfl trivial rfl rfl ?_
  refine op0 (sp_extract rfl rfl rfl) rfl trivial rfl rfl ?_
  refine op0 (sp_extract rfl rfl rfl) rfl trivial rfl rfl ?_
  refine op0 (sp_extract rfl rfl rfl) rfl trivial rfl rfl ?_
  refine op0 (sp_assign rfl rfl) rfl trivial rfl rfl ?_
  refine op0 (sp_assign rfl rfl) rfl trivial rfl rfl ?_
  refine op0 (sp_assign rfl rfl) rfl trivial rfl rfl ?_
  refine op0 (sp_assign rfl rfl) rfl trivial rfl rfl ?_
  refine TL.nil ?_
  refine TC.seq ?_
  refine TC.region ?_
  obtain ⟨r3, h3, h⟩ := bind_inv h
  refine op0 (sp_call (avs := []) (need := []) (v := .agg [.ref 4, .ref 5, .ref 6, vi r3.2.2.2.1, vi r3.2.2.2.2]) (news := [.row 4 46 5 (List.map en_api_RoundTower r3.1), .row 5 30 1 (List.map en_Lint r3.2.1), .row 6 76 4 (List.map en_api_RoundWinder r3.2.2.1)]) rfl rfl rfl Try.call26 (atJ [] [(0, 4), (1, 5), (2, 6)] (fc_law11_two h3) rfl rfl) (.inl (roAll rfl))) rfl trivial rfl rfl ?_
  refine op0 (sp_buildSlice (qs := [vi 0, vi 1, vi (-1)]) (need := []) (els := List.map en_int ([0, 1, (-1)] : List Int)) 7 rfl sl30 (by decide) (by decide) rfl rfl rfl (.v (.v (.v (.nil)))) (map_len fun _ => rfl) rfl rfl rfl) rfl trivial rfl rfl ?_
  refine op0 (sp_build (qs := [(1, .ref 7)]) rfl bt65 rfl rfl rfl rfl) rfl trivial rfl rfl ?_
  obtain ⟨r4, h4, h⟩ := bind_inv h
  refine opN (need := [.row 4 46 5 (List.map en_api_RoundTower r3.1), .row 5 30 1 (List.map en_Lint r3.2.1), .row 6 76 4 (List.map en_api_RoundWinder r3.2.2.1), .row 7 3 1 (List.map en_int ([0, 1, (-1)] : List Int))]) [1, 2, 3, 0] ⟨rfl, rfl, rfl, rfl, trivial⟩ (sp_call (avs := [.agg [.ref 4, .ref 5, .ref 6, vi r3.2.2.2.1, vi r3.2.2.2.2], .agg [vi 0, .ref 7]]) (need := [.row 4 46 5 (List.map en_api_RoundTower r3.1), .row 5 30 1 (List.map en_Lint r3.2.1), .row 6 76 4 (List.map en_api_RoundWinder r3.2.2.1), .row 7 3 1 (List.map en_int ([0, 1, (-1)] : List Int))]) (v := .tup [vi r4.1, vi r4.2.1, vi r4.2.2.1, vi r4.2.2.2]) (news := []) rfl rfl rfl Try.call24 (atJ [(0, 4), (1, 5), (2, 6), (3, 7)] [] (fc_round_Walk h4) rfl rfl) (.inr (fun x hx => nomatch hx))) rfl trivial rfl rfl ?_
  refine op0 (sp_move rfl rfl) rfl trivial rfl rfl ?_
  refine op0 (sp_extract rfl rfl rfl) rfl trivial rfl rfl ?_
  refine op0 (sp_extract rfl rfl rfl) rfl trivial rfl rfl ?_
  refine op0 (sp_extract rfl rfl rfl) rfl trivial rfl rfl ?_
  refine op0 (sp_extract rfl rfl rfl) rfl trivial rfl rfl ?_
  refine op0 (sp_assign rfl rfl) rfl trivial rfl rfl ?_
  refine op0 (sp_assign rfl rfl) rfl trivial rfl rfl ?_
  refine op0 (sp_assign rfl rfl) rfl trivial rfl rfl ?_
  refine op0 (sp_assign rfl rfl) rfl trivial rfl rfl ?_
  refine TL.nil ?_
  refine TC.seq ?_
  refine TC.region ?_
  obtain ⟨r5, h5, h⟩ := bind_inv h
  refine op0 (sp_call (avs := []) (need := []) (v := .agg [.ref 8, .ref 9, .ref 10, vi r5.2.2.2.1, vi r5.2.2.2.2]) (news := [.row 8 46 5 (List.map en_api_RoundTower r5.1), .row 9 30 1 (List.map en_Lint r5.2.1), .row 10 76 4 (List.map en_api_RoundWinder r5.2.2.1)]) rfl rfl rfl Try.call26 (atJ [] [(0, 8), (1, 9), (2, 10)] (fc_law11_two h5) rfl rfl) (.inl (roAll rfl))) rfl trivial rfl rfl ?_
  refine op0 (sp_buildSlice (qs := [vi 1, vi 0]) (need := []) (els := List.map en_int ([1, 0] : List Int)) 11 rfl sl30 (by decide) (by decide) rfl rfl rfl (.v (.v (.nil))) (map_len fun _ => rfl) rfl rfl rfl) rfl trivial rfl rfl ?_
  refine TL.freeze 1 rfl ?_
  refine TL.freeze 2 rfl ?_
  refine TL.freeze 3 rfl ?_
  refine TL.freeze 0 rfl ?_
  obtain ⟨r6, h6, h⟩ := bind_inv h
  refine opN (need := [.ro 8 5 (List.map en_api_RoundTower r5.1), .ro 9 1 (List.map en_Lint r5.2.1), .ro 10 4 (List.map en_api_RoundWinder r5.2.2.1), .ro 11 1 (List.map en_int ([1, 0] : List Int))]) [1, 2, 3, 0] ⟨rfl, rfl, rfl, rfl, trivial⟩ (sp_call (avs := [.agg [.ref 8, .ref 9, .ref 10, vi r5.2.2.2.1, vi r5.2.2.2.2], vi 0, .ref 11]) (need := [.ro 8 5 (List.map en_api_RoundTower r5.1), .ro 9 1 (List.map en_Lint r5.2.1), .ro 10 4 (List.map en_api_RoundWinder r5.2.2.1), .ro 11 1 (List.map en_int ([1, 0] : List Int))]) (v := .tup [.ref 12, vi r6.2.1, vi r6.2.2]) (news := [.ro 12 1 (List.map en_int r6.1)]) rfl rfl rfl Try.call21 (atJ [(0, 8), (1, 9), (2, 10), (3, 11)] [(0, 12)] (fc_round_Best h6) rfl rfl) (.inl (roAll rfl))) rfl trivial rfl rfl ?_
  refine op0 (sp_move rfl rfl) rfl trivial rfl rfl ?_
  refine op0 (sp_extract rfl rfl rfl) rfl trivial rfl rfl ?_
  refine op0 (sp_extract rfl rfl rfl) rfl trivial rfl rfl ?_
  refine op0 (sp_extract rfl rfl rfl) rfl trivial rfl rfl ?_
  refine op0 (sp_assign rfl rfl) rfl trivial rfl rfl ?_
  refine op0 (sp_assign rfl rfl) rfl trivial rfl rfl ?_
  refine op0 (sp_assign rfl rfl) rfl trivial rfl rfl ?_
  refine TL.nil ?_
  refine TC.seq ?_
  refine TC.region ?_
  obtain ⟨r7, h7, h⟩ := bind_inv h
  refine op0 (sp_call (avs := []) (need := []) (v := .agg [.ref 13, .ref 14, .ref 15, vi r7.2.2.2.1, vi r7.2.2.2.2]) (news := [.row 13 46 5 (List.map en_api_RoundTower r7.1), .row 14 30 1 (List.map en_Lint r7.2.1), .row 15 76 4 (List.map en_api_RoundWinder r7.2.2.1)]) rfl rfl rfl Try.call26 (atJ [] [(0, 13), (1, 14), (2, 15)] (fc_law11_two h7) rfl rfl) (.inl (roAll rfl))) rfl trivial rfl rfl ?_
  refine op0 (sp_buildSlice (qs := [vi 1]) (need := []) (els := List.map en_int ([1] : List Int)) 16 rfl sl30 (by decide) (by decide) rfl rfl rfl (.v (.nil)) (map_len fun _ => rfl) rfl rfl rfl) rfl trivial rfl rfl ?_
  refine TL.freeze 1 rfl ?_
  refine TL.freeze 2 rfl ?_
  refine TL.freeze 3 rfl ?_
  refine TL.freeze 0 rfl ?_
  obtain ⟨r8, h8, h⟩ := bind_inv h
  refine opN (need := [.ro 13 5 (List.map en_api_RoundTower r7.1), .ro 14 1 (List.map en_Lint r7.2.1), .ro 15 4 (List.map en_api_RoundWinder r7.2.2.1), .ro 16 1 (List.map en_int ([1] : List Int))]) [1, 2, 3, 0] ⟨rfl, rfl, rfl, rfl, trivial⟩ (sp_call (avs := [.agg [.ref 13, .ref 14, .ref 15, vi r7.2.2.2.1, vi r7.2.2.2.2], vi 1, .ref 16]) (need := [.ro 13 5 (List.map en_api_RoundTower r7.1), .ro 14 1 (List.map en_Lint r7.2.1), .ro 15 4 (List.map en_api_RoundWinder r7.2.2.1), .ro 16 1 (List.map en_int ([1] : List Int))]) (v := .tup [.ref 17, vi r8.2.1, vi r8.2.2]) (news := [.ro 17 1 (List.map en_int r8.1)]) rfl rfl rfl Try.call21 (atJ [(0, 13), (1, 14), (2, 15), (3, 16)] [(0, 17)] (fc_round_Best h8) rfl rfl) (.inl (roAll rfl))) rfl trivial rfl rfl ?_
  refine op0 (sp_move rfl rfl) rfl trivial rfl rfl ?_
  refine op0 (sp_extract rfl rfl rfl) rfl trivial rfl rfl ?_
  refine op0 (sp_extract rfl rfl rfl) rfl trivial rfl rfl ?_
  refine op0 (sp_extract rfl rfl rfl) rfl trivial rfl rfl ?_
  refine op0 (sp_assign rfl rfl) rfl trivial rfl rfl ?_
  refine op0 (sp_assign rfl rfl) rfl trivial rfl rfl ?_
  refine op0 (sp_assign rfl rfl) rfl trivial rfl rfl ?_
  refine TL.nil ?_
  refine TC.seq ?_
  refine TC.region ?_
  obtain ⟨r9, h9, h⟩ := bind_inv h
  refine op0 (sp_call (avs := []) (need := []) (v := .agg [.ref 18, .ref 19, .ref 20, vi r9.2.2.2.1, vi r9.2.2.2.2]) (news := [.row 18 46 5 (List.map en_api_RoundTower r9.1), .row 19 30 1 (List.map en_Lint r9.2.1), .row 20 76 4 (List.map en_api_RoundWinder r9.2.2.1)]) rfl rfl rfl Try.call26 (atJ [] [(0, 18), (1, 19), (2, 20)] (fc_law11_two h9) rfl rfl) (.inl (roAll rfl))) rfl trivial rfl rfl ?_
  refine op0 (sp_buildSlice (qs := [vi 0, vi 1]) (need := []) (els := List.map en_int ([0, 1] : List Int)) 21 rfl sl30 (by decide) (by decide) rfl rfl rfl (.v (.v (.nil))) (map_len fun _ => rfl) rfl rfl rfl) rfl trivial rfl rfl ?_
  refine TL.freeze 1 rfl ?_
  refine TL.freeze 2 rfl ?_
  refine TL.freeze 3 rfl ?_
  refine TL.freeze 0 rfl ?_
  obtain ⟨r10, h10, h⟩ := bind_inv h
  refine opN (need := [.ro 18 5 (List.map en_api_RoundTower r9.1), .ro 19 1 (List.map en_Lint r9.2.1), .ro 20 4 (List.map en_api_RoundWinder r9.2.2.1), .ro 21 1 (List.map en_int ([0, 1] : List Int))]) [1, 2, 3, 0] ⟨rfl, rfl, rfl, rfl, trivial⟩ (sp_call (avs := [.agg [.ref 18, .ref 19, .ref 20, vi r9.2.2.2.1, vi r9.2.2.2.2], .ref 21]) (need := [.ro 18 5 (List.map en_api_RoundTower r9.1), .ro 19 1 (List.map en_Lint r9.2.1), .ro 20 4 (List.map en_api_RoundWinder r9.2.2.1), .ro 21 1 (List.map en_int ([0, 1] : List Int))]) (v := .tup [.ref 22, vi r10.2.1, vi r10.2.2]) (news := [.ro 22 2 (List.map en_api_RoundTrip r10.1)]) rfl rfl rfl Try.call25 (atJ [(0, 18), (1, 19), (2, 20), (3, 21)] [(0, 22)] (fc_round_Fewest h10) rfl rfl) (.inl (roAll rfl))) rfl trivial rfl rfl ?_
  refine op0 (sp_move rfl rfl) rfl trivial rfl rfl ?_
  refine op0 (sp_extract rfl rfl rfl) rfl trivial rfl rfl ?_
  refine op0 (sp_extract rfl rfl rfl) rfl trivial rfl rfl ?_
  refine op0 (sp_extract rfl rfl rfl) rfl trivial rfl rfl ?_
  refine op0 (sp_assign rfl rfl) rfl trivial rfl rfl ?_
  refine op0 (sp_assign rfl rfl) rfl trivial rfl rfl ?_
  refine op0 (sp_assign rfl rfl) rfl trivial rfl rfl ?_
  refine TL.nil ?_
  refine TC.seq ?_
  refine TC.region ?_
  refine op0 (sp_buildSlice (qs := [vi 1]) (need := []) (els := List.map en_int ([1] : List Int)) 23 rfl sl30 (by decide) (by decide) rfl rfl rfl (.v (.nil)) (map_len fun _ => rfl) rfl rfl rfl) rfl trivial rfl rfl ?_
  refine op0 (sp_build (qs := [(0, vi 2), (1, .ref 23)]) rfl bt32 rfl rfl rfl rfl) rfl trivial rfl rfl ?_
  refine op0 (sp_buildSlice (qs := [vi 1]) (need := []) (els := List.map en_int ([1] : List Int)) 24 rfl sl30 (by decide) (by decide) rfl rfl rfl (.v (.nil)) (map_len fun _ => rfl) rfl rfl rfl) rfl trivial rfl rfl ?_
  refine op0 (sp_build (qs := [(0, vi 4), (1, .ref 24)]) rfl bt32 rfl rfl rfl rfl) rfl trivial rfl rfl ?_
  refine TL.freeze 1 rfl ?_
  refine TL.freeze 0 rfl ?_
  refine opN (need := [.ro 23 1 (List.map en_int ([1] : List Int)), .ro 24 1 (List.map en_int ([1] : List Int))]) [1, 0] ⟨rfl, rfl, trivial⟩ (sp_buildSlice (qs := [.agg [vi 2, .ref 23], .agg [vi 4, .ref 24]]) (need := [.ro 23 1 (List.map en_int ([1] : List Int)), .ro 24 1 (List.map en_int ([1] : List Int))]) (els := List.map en_api_RoundDay ([(2, ([1] : List Int)), (4, ([1] : List Int))] : List (Int × (List Int)))) 25 rfl sl27 (by decide) (by decide) rfl rfl rfl (.v (.s (mem_at 0 rfl) (.v (.s (mem_at 1 rfl) (.nil))))) (map_len fun _ => rfl) rfl rfl rfl) rfl trivial rfl rfl ?_
  refine op0 (sp_assign rfl rfl) rfl trivial rfl rfl ?_
  refine TL.nil ?_
  refine TC.seq ?_
  refine TC.region ?_
  obtain ⟨r11, h11, h⟩ := bind_inv h
  refine op0 (sp_call (avs := []) (need := []) (v := .agg [.ref 26, .ref 27, .ref 28, vi r11.2.2.2.1, vi r11.2.2.2.2]) (news := [.row 26 46 5 (List.map en_api_RoundTower r11.1), .row 27 30 1 (List.map en_Lint r11.2.1), .row 28 76 4 (List.map en_api_RoundWinder r11.2.2.1)]) rfl rfl rfl Try.call26 (atJ [] [(0, 26), (1, 27), (2, 28)] (fc_law11_two h11) rfl rfl) (.inl (roAll rfl))) rfl trivial rfl rfl ?_
  refine op0 (sp_move rfl rfl) rfl trivial rfl rfl ?_
  obtain ⟨r12, h12, h⟩ := bind_inv h
  refine opN (need := [.row 26 46 5 (List.map en_api_RoundTower r11.1), .row 27 30 1 (List.map en_Lint r11.2.1), .row 28 76 4 (List.map en_api_RoundWinder r11.2.2.1), .row 25 32 2 (List.map en_api_RoundDay ([(2, ([1] : List Int)), (4, ([1] : List Int))] : List (Int × (List Int))))]) [0, 1, 2, 3] ⟨rfl, rfl, rfl, rfl, trivial⟩ (sp_call (avs := [.agg [.ref 26, .ref 27, .ref 28, vi r11.2.2.2.1, vi r11.2.2.2.2], .ref 25, vi 5]) (need := [.row 26 46 5 (List.map en_api_RoundTower r11.1), .row 27 30 1 (List.map en_Lint r11.2.1), .row 28 76 4 (List.map en_api_RoundWinder r11.2.2.1), .row 25 32 2 (List.map en_api_RoundDay ([(2, ([1] : List Int)), (4, ([1] : List Int))] : List (Int × (List Int))))]) (v := .tup [.ref 29, vi r12.2]) (news := [.row 29 3 1 (List.map en_int r12.1)]) rfl rfl rfl Try.call11 (atJ [(0, 26), (1, 27), (2, 28), (3, 25)] [(0, 29)] (fc_round_Left h12) rfl rfl) (.inr (List.forall_mem_cons.2 ⟨indep_map en_int_flat, (by simp)⟩))) rfl trivial rfl rfl ?_
  refine op0 (sp_move rfl rfl) rfl trivial rfl rfl ?_
  refine op0 (sp_extract rfl rfl rfl) rfl trivial rfl rfl ?_
  refine op0 (sp_extract rfl rfl rfl) rfl trivial rfl rfl ?_
  refine op0 (sp_assign rfl rfl) rfl trivial rfl rfl ?_
  refine op0 (sp_assign rfl rfl) rfl trivial rfl rfl ?_
  refine TL.nil ?_
  refine TC.seq ?_
  refine TC.region ?_
  obtain ⟨r13, h13, h⟩ := bind_inv h
  refine op0 (sp_call (avs := []) (need := []) (v := .agg [.ref 30, .ref 31, .ref 32, vi r13.2.2.2.1, vi r13.2.2.2.2]) (news := [.row 30 46 5 (List.map en_api_RoundTower r13.1), .row 31 30 1 (List.map en_Lint r13.2.1), .row 32 76 4 (List.map en_api_RoundWinder r13.2.2.1)]) rfl rfl rfl Try.call26 (atJ [] [(0, 30), (1, 31), (2, 32)] (fc_law11_two h13) rfl rfl) (.inl (roAll rfl))) rfl trivial rfl rfl ?_
  refine op0 (sp_move rfl rfl) rfl trivial rfl rfl ?_
  obtain ⟨r14, h14, h⟩ := bind_inv h
  refine opN (need := [.row 30 46 5 (List.map en_api_RoundTower r13.1), .row 31 30 1 (List.map en_Lint r13.2.1), .row 32 76 4 (List.map en_api_RoundWinder r13.2.2.1), .row 25 32 2 (List.map en_api_RoundDay ([(2, ([1] : List Int)), (4, ([1] : List Int))] : List (Int × (List Int))))]) [0, 1, 2, 7] ⟨rfl, rfl, rfl, rfl, trivial⟩ (sp_call (avs := [.agg [.ref 30, .ref 31, .ref 32, vi r13.2.2.2.1, vi r13.2.2.2.2], .ref 25, vi 10]) (need := [.row 30 46 5 (List.map en_api_RoundTower r13.1), .row 31 30 1 (List.map en_Lint r13.2.1), .row 32 76 4 (List.map en_api_RoundWinder r13.2.2.1), .row 25 32 2 (List.map en_api_RoundDay ([(2, ([1] : List Int)), (4, ([1] : List Int))] : List (Int × (List Int))))]) (v := .tup [vi r14.1, vi r14.2.1, vi r14.2.2]) (news := []) rfl rfl rfl Try.call13 (atJ [(0, 30), (1, 31), (2, 32), (3, 25)] [] (fc_round_Stops h14) rfl rfl) (.inr (fun x hx => nomatch hx))) rfl trivial rfl rfl ?_
  refine op0 (sp_move rfl rfl) rfl trivial rfl rfl ?_
  refine op0 (sp_extract rfl rfl rfl) rfl trivial rfl rfl ?_
  refine op0 (sp_extract rfl rfl rfl) rfl trivial rfl rfl ?_
  refine op0 (sp_extract rfl rfl rfl) rfl trivial rfl rfl ?_
  refine op0 (sp_assign rfl rfl) rfl trivial rfl rfl ?_
  refine op0 (sp_assign rfl rfl) rfl trivial rfl rfl ?_
  refine op0 (sp_assign rfl rfl) rfl trivial rfl rfl ?_
  refine TL.nil ?_
  refine TC.seq ?_
  refine TC.seq ?_
  refine TC.region ?_
  refine op0 (sp_move rfl rfl) rfl trivial rfl rfl ?_
  refine op0 (sp_neq rfl rfl rfl) rfl trivial rfl rfl ?_
  refine op0 (sp_move rfl rfl) rfl trivial rfl rfl ?_
  rcases cond_cases h with ⟨h15, h⟩ | ⟨h15, h⟩
  · refine (boolLit 83 rfl h15).2 ?_
    refine opSkip rfl ⟨_, rfl, .inl rfl⟩ rfl ?_
    refine opSkip rfl ⟨_, rfl, .inl rfl⟩ rfl ?_
    refine op0 (sp_pickT rfl rfl rfl) rfl trivial rfl rfl ?_
    refine op0 (sp_move rfl rfl) rfl trivial rfl rfl ?_
    refine opSkip rfl ⟨_, rfl, .inl rfl⟩ rfl ?_
    refine opSkip rfl ⟨_, rfl, .inl rfl⟩ rfl ?_
    refine op0 (sp_pickT rfl rfl rfl) rfl trivial rfl rfl ?_
    refine op0 (sp_move rfl rfl) rfl trivial rfl rfl ?_
    refine opSkip rfl ⟨_, rfl, .inl rfl⟩ rfl ?_
    refine opSkip rfl ⟨_, rfl, .inl rfl⟩ rfl ?_
    refine op0 (sp_pickT rfl rfl rfl) rfl trivial rfl rfl ?_
    refine op0 (sp_move rfl rfl) rfl trivial rfl rfl ?_
    refine opSkip rfl ⟨_, rfl, .inl rfl⟩ rfl ?_
    refine opSkip rfl ⟨_, rfl, .inl rfl⟩ rfl ?_
    refine op0 (sp_pickT rfl rfl rfl) rfl trivial rfl rfl ?_
    refine op0 (sp_move rfl rfl) rfl trivial rfl rfl ?_
    refine opSkip rfl ⟨_, rfl, .inl rfl⟩ rfl ?_
    refine opSkip rfl ⟨_, rfl, .inl rfl⟩ rfl ?_
    refine op0 (sp_pickT rfl rfl rfl) rfl trivial rfl rfl ?_
    refine op0 (sp_move rfl rfl) rfl trivial rfl rfl ?_
    refine opSkip rfl ⟨_, rfl, .inl rfl⟩ rfl ?_
    refine opSkip rfl ⟨_, rfl, .inl rfl⟩ rfl ?_
    refine op0 (sp_pickT rfl rfl rfl) rfl trivial rfl rfl ?_
    refine TL.nil ?_
    refine TC.condT rfl ?_
    refine TC.seq ?_
    refine TC.region ?_
    refine op0 (sp_assign rfl rfl) rfl trivial rfl rfl ?_
    refine TL.nil ?_
    cases h
    exact retJ [] (.tmp rfl .nil) rfl trivial rfl rfl
  · refine (boolLit 83 rfl h15).2 ?_
    refine op0 (sp_move rfl rfl) rfl ⟨_, rfl, rfl⟩ rfl rfl ?_
    refine op0 (sp_neq rfl rfl rfl) rfl ⟨_, rfl, rfl⟩ rfl rfl ?_
    refine op0 (sp_pickF rfl rfl rfl) rfl trivial rfl rfl ?_
    refine op0 (sp_move rfl rfl) rfl trivial rfl rfl ?_
    rcases cond_cases h with ⟨h16, h⟩ | ⟨h16, h⟩
    · refine (boolLit 87 rfl h16).2 ?_
      refine opSkip rfl ⟨_, rfl, .inl rfl⟩ rfl ?_
      refine opSkip rfl ⟨_, rfl, .inl rfl⟩ rfl ?_
      refine op0 (sp_pickT rfl rfl rfl) rfl trivial rfl rfl ?_
      refine op0 (sp_move rfl rfl) rfl trivial rfl rfl ?_
      refine opSkip rfl ⟨_, rfl, .inl rfl⟩ rfl ?_
      refine opSkip rfl ⟨_, rfl, .inl rfl⟩ rfl ?_
      refine op0 (sp_pickT rfl rfl rfl) rfl trivial rfl rfl ?_
      refine op0 (sp_move rfl rfl) rfl trivial rfl rfl ?_
      refine opSkip rfl ⟨_, rfl, .inl rfl⟩ rfl ?_
      refine opSkip rfl ⟨_, rfl, .inl rfl⟩ rfl ?_
      refine op0 (sp_pickT rfl rfl rfl) rfl trivial rfl rfl ?_
      refine op0 (sp_move rfl rfl) rfl trivial rfl rfl ?_
      refine opSkip rfl ⟨_, rfl, .inl rfl⟩ rfl ?_
      refine opSkip rfl ⟨_, rfl, .inl rfl⟩ rfl ?_
      refine op0 (sp_pickT rfl rfl rfl) rfl trivial rfl rfl ?_
      refine op0 (sp_move rfl rfl) rfl trivial rfl rfl ?_
      refine opSkip rfl ⟨_, rfl, .inl rfl⟩ rfl ?_
      refine opSkip rfl ⟨_, rfl, .inl rfl⟩ rfl ?_
      refine op0 (sp_pickT rfl rfl rfl) rfl trivial rfl rfl ?_
      refine TL.nil ?_
      refine TC.condT rfl ?_
      refine TC.seq ?_
      refine TC.region ?_
      refine op0 (sp_assign rfl rfl) rfl trivial rfl rfl ?_
      refine TL.nil ?_
      cases h
      exact retJ [] (.tmp rfl .nil) rfl trivial rfl rfl
    · refine (boolLit 87 rfl h16).2 ?_
      refine op0 (sp_move rfl rfl) rfl ⟨_, rfl, rfl⟩ rfl rfl ?_
      refine op0 (sp_neq rfl rfl rfl) rfl ⟨_, rfl, rfl⟩ rfl rfl ?_
      refine op0 (sp_pickF rfl rfl rfl) rfl trivial rfl rfl ?_
      refine op0 (sp_move rfl rfl) rfl trivial rfl rfl ?_
      rcases cond_cases h with ⟨h17, h⟩ | ⟨h17, h⟩
      · refine (boolLit 91 rfl h17).2 ?_
        refine opSkip rfl ⟨_, rfl, .inl rfl⟩ rfl ?_
        refine opSkip rfl ⟨_, rfl, .inl rfl⟩ rfl ?_
        refine op0 (sp_pickT rfl rfl rfl) rfl trivial rfl rfl ?_
        refine op0 (sp_move rfl rfl) rfl trivial rfl rfl ?_
        refine opSkip rfl ⟨_, rfl, .inl rfl⟩ rfl ?_
        refine opSkip rfl ⟨_, rfl, .inl rfl⟩ rfl ?_
        refine op0 (sp_pickT rfl rfl rfl) rfl trivial rfl rfl ?_
        refine op0 (sp_move rfl rfl) rfl trivial rfl rfl ?_
        refine opSkip rfl ⟨_, rfl, .inl rfl⟩ rfl ?_
        refine opSkip rfl ⟨_, rfl, .inl rfl⟩ rfl ?_
        refine op0 (sp_pickT rfl rfl rfl) rfl trivial rfl rfl ?_
        refine op0 (sp_move rfl rfl) rfl trivial rfl rfl ?_
        refine opSkip rfl ⟨_, rfl, .inl rfl⟩ rfl ?_
        refine opSkip rfl ⟨_, rfl, .inl rfl⟩ rfl ?_
        refine op0 (sp_pickT rfl rfl rfl) rfl trivial rfl rfl ?_
        refine TL.nil ?_
        refine TC.condT rfl ?_
        refine TC.seq ?_
        refine TC.region ?_
        refine op0 (sp_assign rfl rfl) rfl trivial rfl rfl ?_
        refine TL.nil ?_
        cases h
        exact retJ [] (.tmp rfl .nil) rfl trivial rfl rfl
      · refine (boolLit 91 rfl h17).2 ?_
        refine op0 (sp_move rfl rfl) rfl ⟨_, rfl, rfl⟩ rfl rfl ?_
        refine op0 (sp_neq rfl rfl rfl) rfl ⟨_, rfl, rfl⟩ rfl rfl ?_
        refine op0 (sp_pickF rfl rfl rfl) rfl trivial rfl rfl ?_
        refine op0 (sp_move rfl rfl) rfl trivial rfl rfl ?_
        rcases cond_cases h with ⟨h18, h⟩ | ⟨h18, h⟩
        · refine (boolLit 95 rfl h18).2 ?_
          refine opSkip rfl ⟨_, rfl, .inl rfl⟩ rfl ?_
          refine opSkip rfl ⟨_, rfl, .inl rfl⟩ rfl ?_
          refine op0 (sp_pickT rfl rfl rfl) rfl trivial rfl rfl ?_
          refine op0 (sp_move rfl rfl) rfl trivial rfl rfl ?_
          refine opSkip rfl ⟨_, rfl, .inl rfl⟩ rfl ?_
          refine opSkip rfl ⟨_, rfl, .inl rfl⟩ rfl ?_
          refine op0 (sp_pickT rfl rfl rfl) rfl trivial rfl rfl ?_
          refine op0 (sp_move rfl rfl) rfl trivial rfl rfl ?_
          refine opSkip rfl ⟨_, rfl, .inl rfl⟩ rfl ?_
          refine opSkip rfl ⟨_, rfl, .inl rfl⟩ rfl ?_
          refine op0 (sp_pickT rfl rfl rfl) rfl trivial rfl rfl ?_
          refine TL.nil ?_
          refine TC.condT rfl ?_
          refine TC.seq ?_
          refine TC.region ?_
          refine op0 (sp_assign rfl rfl) rfl trivial rfl rfl ?_
          refine TL.nil ?_
          cases h
          exact retJ [] (.tmp rfl .nil) rfl trivial rfl rfl
        · refine (boolLit 95 rfl h18).2 ?_
          refine op0 (sp_move rfl rfl) rfl ⟨_, rfl, rfl⟩ rfl rfl ?_
          refine op0 (sp_neq rfl rfl rfl) rfl ⟨_, rfl, rfl⟩ rfl rfl ?_
          refine op0 (sp_pickF rfl rfl rfl) rfl trivial rfl rfl ?_
          refine op0 (sp_move rfl rfl) rfl trivial rfl rfl ?_
          rcases cond_cases h with ⟨h19, h⟩ | ⟨h19, h⟩
          · refine (boolLit 99 rfl h19).2 ?_
            refine opSkip rfl ⟨_, rfl, .inl rfl⟩ rfl ?_
            refine opSkip rfl ⟨_, rfl, .inl rfl⟩ rfl ?_
            refine op0 (sp_pickT rfl rfl rfl) rfl trivial rfl rfl ?_
            refine op0 (sp_move rfl rfl) rfl trivial rfl rfl ?_
            refine opSkip rfl ⟨_, rfl, .inl rfl⟩ rfl ?_
            refine opSkip rfl ⟨_, rfl, .inl rfl⟩ rfl ?_
            refine op0 (sp_pickT rfl rfl rfl) rfl trivial rfl rfl ?_
            refine TL.nil ?_
            refine TC.condT rfl ?_
            refine TC.seq ?_
            refine TC.region ?_
            refine op0 (sp_assign rfl rfl) rfl trivial rfl rfl ?_
            refine TL.nil ?_
            cases h
            exact retJ [] (.tmp rfl .nil) rfl trivial rfl rfl
          · refine (boolLit 99 rfl h19).2 ?_
            refine op0 (sp_move rfl rfl) rfl ⟨_, rfl, rfl⟩ rfl rfl ?_
            refine op0 (sp_neq rfl rfl rfl) rfl ⟨_, rfl, rfl⟩ rfl rfl ?_
            refine op0 (sp_pickF rfl rfl rfl) rfl trivial rfl rfl ?_
            refine op0 (sp_move rfl rfl) rfl trivial rfl rfl ?_
            rcases cond_cases h with ⟨h20, h⟩ | ⟨h20, h⟩
            · refine (boolLit 103 rfl h20).2 ?_
              refine opSkip rfl ⟨_, rfl, .inl rfl⟩ rfl ?_
              refine opSkip rfl ⟨_, rfl, .inl rfl⟩ rfl ?_
              refine op0 (sp_pickT rfl rfl rfl) rfl trivial rfl rfl ?_
              refine TL.nil ?_
              refine TC.condT rfl ?_
              refine TC.seq ?_
              refine TC.region ?_
              refine op0 (sp_assign rfl rfl) rfl trivial rfl rfl ?_
              refine TL.nil ?_
              cases h
              exact retJ [] (.tmp rfl .nil) rfl trivial rfl rfl
            · refine (boolLit 103 rfl h20).2 ?_
              refine op0 (sp_move rfl rfl) rfl ⟨_, rfl, rfl⟩ rfl rfl ?_
              refine op0 (sp_neq rfl rfl rfl) rfl ⟨_, rfl, rfl⟩ rfl rfl ?_
              refine op0 (sp_pickF rfl rfl rfl) rfl trivial rfl rfl ?_
              refine TL.nil ?_
              refine TC.cond (b := (r14.2.2 != 0)) rfl (fun h21 => ?_) (fun h21 => ?_)
              · have h := cond_t h h21
                refine TC.seq ?_
                refine TC.region ?_
                refine op0 (sp_assign rfl rfl) rfl trivial rfl rfl ?_
                refine TL.nil ?_
                cases h
                exact retJ [] (.tmp rfl .nil) rfl trivial rfl rfl
              · have h := cond_f h h21
                refine subJ [] (ok_law11_known_j0 h) ?_ ?_ ?_
                · exact ⟨rfl, rfl, rfl, rfl, rfl, rfl, rfl, rfl, rfl, rfl, trivial⟩
                · exact ⟨mem_at 20 rfl, mem_at 15 rfl, mem_at 10 rfl, mem_at 3 rfl, trivial⟩
                · rfl
def ev_law11_ints (n : Nat) (l1 : List Int) : Option ((List Int)) :=
  chk (room 8 (([] : List Int).length + l1.length)) <| some (([] : List Int) ++ l1)
theorem fc_law11_ints {n : Nat} {l1 : List Int} {r : (List Int)} (h : ev_law11_ints n l1 = some r) : FC Try.prog 22 [.ref 0] [.ro 0 1 (List.map en_int l1)] (.ref 0) [.row 0 3 1 (List.map en_int r)] := by
  refine introJ (nz := 6) Try.func22 rfl rfl rfl (fun w0 R0 env0 => ?_)
  rw [ev_law11_ints] at h
  refine TC.seq ?_
  refine TC.region ?_
  refine op0 (sp_assign rfl rfl) rfl trivial rfl rfl ?_
  refine TL.nil ?_
  refine TC.seq ?_
  refine TC.region ?_
  refine op0 (sp_emptyM 1 (List.map en_int []) rfl rfl sl30) rfl trivial rfl rfl ?_
  refine op0 (sp_move rfl rfl) rfl trivial rfl rfl ?_
  obtain ⟨h1, h⟩ := chk_inv h
  refine appM 0 1 (N := ([] : List Int).length) (N2 := l1.length) 2 rfl rfl trivial rfl rfl rfl rfl rfl isRo rfl sl30 (len_map _ _) (len_map _ _) h1 (map_app _ _ _) rfl ?_
  refine op0 (sp_assign rfl rfl) rfl trivial rfl rfl ?_
  refine TL.nil ?_
  cases h
  exact retJ [(0, 2)] (.tmp rfl .nil) rfl ⟨mem_at 0 rfl, trivial⟩ rfl rfl
def ev_law11_copied_l0 (n : Nat) : Nat → Int → Int → Int → (List (Int × Int × Int × Int × Int)) → (List ((List Int))) → (List (Int × Int × Int × Int)) → Int → Int → (List ((List Int))) → (List (Int × Int × Int × Int × Int)) → (List ((List Int))) → (List (Int × Int × Int × Int)) → Option ((List (Int × Int × Int × Int × Int)) × (List ((List Int))) × (List (Int × Int × Int × Int)) × Int × Int)
  | 0, _, _, _, _, _, _, _, _, _, _, _, _ => none
  | m + 1, i6, i7, i9, l10, l11, l12, i13, i14, l15, l16, l17, l18 => cond (decide (i6 < (l17.length : Int))) (idx l17 i6 fun x19 => (ev_law11_ints n x19).bind fun r20 => chk (room 24 (l15.length + ([r20] : List ((List Int))).length)) <| chk (in64 (i6 + 1)) <| ev_law11_copied_l0 n m (i6 + 1) i7 i9 l10 l11 l12 i13 i14 (l15 ++ ([r20] : List ((List Int)))) l16 l17 l18) (some (l16, l15, l18, i7, i9))
theorem ok_law11_copied_l0 {n : Nat} {w0 : World} {R0 : Nat → Prop} {env0 : Env} {r : (List (Int × Int × Int × Int × Int)) × (List ((List Int))) × (List (Int × Int × Int × Int)) × Int × Int} : ∀ (m : Nat) (i6 : Int) (i7 : Int) (i9 : Int) (l10 : List (Int × Int × Int × Int × Int)) (l11 : List ((List Int))) (l12 : List (Int × Int × Int × Int)) (i13 : Int) (i14 : Int) (l15 : List ((List Int))) (l16 : List (Int × Int × Int × Int × Int)) (l17 : List ((List Int))) (l18 : List (Int × Int × Int × Int)), ev_law11_copied_l0 n m i6 i7 i9 l10 l11 l12 i13 i14 l15 l16 l17 l18 = some r → TC Try.prog ⟨w0, fun _ => False, R0⟩ 35 (bodyPost Try.prog Try.f12 (Post ⟨w0, fun _ => False, R0⟩ env0 (.agg [.ref 0, .ref 1, .ref 2, vi r.2.2.2.1, vi r.2.2.2.2]) [.row 0 46 5 (List.map en_api_RoundTower r.1), .row 1 30 1 (List.map en_Lint r.2.1), .row 2 76 4 (List.map en_api_RoundWinder r.2.2.1)])) [.code (sub (bodyOf Try.f12) [1, 1, 1, 0, 1, 0, 0, 0, 0]), .code (sub (bodyOf Try.f12) [1, 1, 1, 0, 1, 0, 0, 0, 1]), .code (sub (bodyOf Try.f12) [1, 1, 1, 0, 1, 0, 0, 1]), .inLoop (sub (bodyOf Try.f12) [1, 1, 1, 0, 1, 0, 0]), .inBlock 0, .code (sub (bodyOf Try.f12) [1, 1, 1, 1])] ([(1, .ptr 3 0), (2, .ptr 4 0), (3, .ref 9), (4, vi i6)]) ([.blk 3 [.ref 6, .ref 1, .ref 8, vi i7, vi i9] 26, .row 10 46 5 (List.map en_api_RoundTower l10), .row 11 30 1 (List.map en_Lint l11), .row 12 76 4 (List.map en_api_RoundWinder l12), .blk 4 [.ref 10, .ref 11, .ref 12, vi i13, vi i14] 26, .row 9 30 1 (List.map en_Lint l15), .row 6 46 5 (List.map en_api_RoundTower l16), .ro 1 1 (List.map en_Lint l17), .row 8 76 4 (List.map en_api_RoundWinder l18)]) := by
  intro m
  induction m with
  | zero => intro i6 i7 i9 l10 l11 l12 i13 i14 l15 l16 l17 l18 h; exact none_no h
  | succ m ih =>
    intro i6 i7 i9 l10 l11 l12 i13 i14 l15 l16 l17 l18 h
    rw [ev_law11_copied_l0] at h
    refine TC.region ?_
    refine op0 (sp_move rfl rfl) rfl trivial rfl rfl ?_
    refine op1 0 rfl (sp_fieldAddrB rfl isBlk rfl ft26_1 vt23 (by decide)) rfl trivial rfl rfl ?_
    refine op1 0 rfl (sp_loadB rfl isBlk rfl vt23 rfl) rfl trivial rfl rfl ?_
    refine op1 7 rfl (sp_lenM (N := l17.length) (len_map _ _) rfl rfl isRo Try.underlying23) rfl trivial rfl rfl ?_
    refine op0 (sp_lss rfl rfl rfl) rfl trivial rfl rfl ?_
    refine TL.nil ?_
    refine TC.cond (b := (decide (i6 < (l17.length : Int)))) rfl (fun h3 => ?_) (fun h3 => ?_)
    · have h := cond_t h h3
      refine TC.skip ?_
      refine TC.seq ?_
      refine TC.block ?_
      refine TC.region ?_
      refine op0 (sp_move rfl rfl) rfl trivial rfl rfl ?_
      refine op1 0 rfl (sp_fieldAddrB rfl isBlk rfl ft26_1 vt23 (by decide)) rfl trivial rfl rfl ?_
      refine op1 0 rfl (sp_loadB rfl isBlk rfl vt23 rfl) rfl trivial rfl rfl ?_
      refine op0 (sp_move rfl rfl) rfl trivial rfl rfl ?_
      obtain ⟨x19, h4, h5, h⟩ := idx_inv h
      refine op1 7 rfl (sp_indexS rfl rfl rfl isRo sl23 h4 (map_get _ h5)) rfl trivial rfl rfl ?_
      refine op1 7 rfl (sp_loadR (i := (i6 : Int).toNat) (j := 0) (ns := [.ro 13 1 (List.map en_int x19)]) rfl rfl isRo vt30 rfl (map_get _ h5) rfl (.s (.nil)) (nodup_of_B rfl)) rfl trivial rfl rfl ?_
      obtain ⟨r20, h6, h⟩ := bind_inv h
      refine op1 0 rfl (sp_call (avs := [.ref 13]) (need := [.ro 13 1 (List.map en_int x19)]) (v := .ref 14) (news := [.row 14 3 1 (List.map en_int r20)]) rfl rfl rfl Try.call22 (atJ [(0, 13)] [(0, 14)] (fc_law11_ints h6) rfl rfl) (.inl (roAll rfl))) rfl trivial rfl rfl ?_
      refine TL.freeze 0 rfl ?_
      refine op1 0 rfl (sp_buildSlice (qs := [.ref 14]) (need := [.ro 14 1 (List.map en_int r20)]) (els := List.map en_Lint ([r20] : List ((List Int)))) 15 rfl sl23 (by decide) (by decide) rfl rfl rfl (.s (mem_at 0 rfl) (.nil)) (map_len fun _ => rfl) rfl rfl rfl) rfl trivial rfl rfl ?_
      obtain ⟨h7, h⟩ := chk_inv h
      refine appM 8 0 (N := l15.length) (N2 := ([r20] : List ((List Int))).length) 16 rfl rfl trivial rfl rfl rfl rfl rfl isOwn rfl sl23 (len_map _ _) (len_map _ _) h7 (map_app _ _ _) rfl ?_
      refine op0 (sp_assign rfl rfl) rfl trivial rfl rfl ?_
      refine TL.nil ?_
      refine TC.inBlock ?_
      refine TC.region ?_
      refine op0 (sp_move rfl rfl) rfl trivial rfl rfl ?_
      obtain ⟨h8, h⟩ := chk_inv h
      refine op0 (sp_add rfl rfl rfl h8) rfl trivial rfl rfl ?_
      refine op0 (sp_assign rfl rfl) rfl trivial rfl rfl ?_
      refine TL.nil ?_
      refine TC.inLoop ?_
      refine TC.seq ?_
      refine TC.seq ?_
      refine subJ [(9, 16)] (ih _ _ _ _ _ _ _ _ _ _ _ _ h) ?_ ?_ ?_
      · exact ⟨rfl, rfl, rfl, rfl, trivial⟩
      · exact ⟨mem_at 4 rfl, mem_at 5 rfl, mem_at 6 rfl, mem_at 7 rfl, mem_at 8 rfl, mem_at 0 rfl, mem_at 9 rfl, mem_at 10 rfl, mem_at 11 rfl, trivial⟩
      · rfl
    · have h := cond_f h h3
      refine TC.exit rfl ?_
      refine TC.seq ?_
      refine TC.region ?_
      refine op0 (sp_move rfl rfl) rfl trivial rfl rfl ?_
      refine op1 0 rfl (sp_fieldAddrB rfl isBlk rfl ft26_1 vt23 (by decide)) rfl trivial rfl rfl ?_
      refine stoB 0 (cells' := [.ref 6, .ref 9, .ref 8, vi i7, vi i9]) rfl rfl trivial rfl rfl rfl rfl vt23 rfl rfl rfl ?_
      refine TL.nil ?_
      refine TC.seq ?_
      refine TC.region ?_
      refine op1 0 rfl (sp_loadBA rfl isBlk rfl vt26 rfl rfl) rfl trivial rfl rfl ?_
      refine stoB 4 (cells' := [.ref 6, .ref 9, .ref 8, vi i7, vi i9]) rfl rfl trivial rfl rfl rfl rfl vt26 rfl rfl rfl ?_
      refine TL.nil ?_
      cases h
      exact retJ [(0, 6), (1, 9), (2, 8)] (.cells rfl (mem_at 4 rfl) isBlk vt26 rfl rfl (.nil)) rfl ⟨mem_at 6 rfl, mem_at 5 rfl, mem_at 8 rfl, trivial⟩ rfl rfl
def ev_law11_copied (n : Nat) (rr1 : List (Int × Int × Int × Int × Int)) (rr2 : List ((List Int))) (rr3 : List (Int × Int × Int × Int)) (rr4 : Int) (rr5 : Int) : Option ((List (Int × Int × Int × Int × Int)) × (List ((List Int))) × (List (Int × Int × Int × Int)) × Int × Int) :=
  chk (room 40 (([] : List (Int × Int × Int × Int × Int)).length + rr1.length)) <| chk (room 32 (([] : List (Int × Int × Int × Int)).length + rr3.length)) <| ev_law11_copied_l0 n n 0 rr4 rr5 ([] : List (Int × Int × Int × Int × Int)) ([] : List ((List Int))) ([] : List (Int × Int × Int × Int)) 0 0 ([] : List ((List Int))) (([] : List (Int × Int × Int × Int × Int)) ++ rr1) rr2 (([] : List (Int × Int × Int × Int)) ++ rr3)
theorem fc_law11_copied {n : Nat} {rr1 : List (Int × Int × Int × Int × Int)} {rr2 : List ((List Int))} {rr3 : List (Int × Int × Int × Int)} {rr4 : Int} {rr5 : Int} {r : (List (Int × Int × Int × Int × Int)) × (List ((List Int))) × (List (Int × Int × Int × Int)) × Int × Int} (h : ev_law11_copied n rr1 rr2 rr3 rr4 rr5 = some r) : FC Try.prog 12 [.agg [.ref 0, .ref 1, .ref 2, vi rr4, vi rr5]] [.ro 0 5 (List.map en_api_RoundTower rr1), .ro 1 1 (List.map en_Lint rr2), .ro 2 4 (List.map en_api_RoundWinder rr3)] (.agg [.ref 0, .ref 1, .ref 2, vi r.2.2.2.1, vi r.2.2.2.2]) [.row 0 46 5 (List.map en_api_RoundTower r.1), .row 1 30 1 (List.map en_Lint r.2.1), .row 2 76 4 (List.map en_api_RoundWinder r.2.2.1)] := by
  refine introJ (nz := 35) Try.func12 rfl rfl rfl (fun w0 R0 env0 => ?_)
  rw [ev_law11_copied] at h
  refine TC.seq ?_
  refine TC.region ?_
  refine op0 (sp_box 3 rfl rfl rfl rfl rfl) rfl trivial rfl rfl ?_
  refine op0 (sp_alloc 4 rfl Try.zeroValue26 rfl) rfl trivial rfl rfl ?_
  refine TL.nil ?_
  refine TC.seq ?_
  obtain ⟨h1, h⟩ := chk_inv h
  obtain ⟨h2, h⟩ := chk_inv h
  refine drawJ 9 [⟨.ref 5, [.row 5 46 5 (List.map en_api_RoundTower ([] : List (Int × Int × Int × Int × Int)))], [], []⟩, ⟨.ptr 3 0, [], [.blk 3 [.ref 0, .ref 1, .ref 2, vi rr4, vi rr5] 26], []⟩, ⟨.ref 0, [], [.blk 3 [.ref 0, .ref 1, .ref 2, vi rr4, vi rr5] 26], []⟩, ⟨.ref 6, [.row 6 46 5 (List.map en_api_RoundTower (([] : List (Int × Int × Int × Int × Int)) ++ rr1))], [.ro 0 5 (List.map en_api_RoundTower rr1)], [.row 5 46 5 (List.map en_api_RoundTower ([] : List (Int × Int × Int × Int × Int)))]⟩, ⟨.ref 7, [.row 7 76 4 (List.map en_api_RoundWinder ([] : List (Int × Int × Int × Int)))], [], []⟩, ⟨.ptr 3 2, [], [.blk 3 [.ref 0, .ref 1, .ref 2, vi rr4, vi rr5] 26], []⟩, ⟨.ref 2, [], [.blk 3 [.ref 0, .ref 1, .ref 2, vi rr4, vi rr5] 26], []⟩, ⟨.ref 8, [.row 8 76 4 (List.map en_api_RoundWinder (([] : List (Int × Int × Int × Int)) ++ rr3))], [.ro 2 4 (List.map en_api_RoundWinder rr3)], [.row 7 76 4 (List.map en_api_RoundWinder ([] : List (Int × Int × Int × Int)))]⟩, ⟨.ptr 3 0, [], [.blk 3 [.ref 0, .ref 1, .ref 2, vi rr4, vi rr5] 26], []⟩] rfl ?_ rfl ?_ rfl ?_ ?_
  · kernel_rfl
  · kernel_rfl
  · exact DAll.op' (sp_emptyM 5 (List.map en_api_RoundTower []) rfl rfl sl22) trivial rfl (From.ok (ps := []) trivial) (DAll.op' (sp_fieldAddrB rfl isBlk rfl ft26_0 vt22 (by decide)) trivial rfl (From.ok (ps := [(none, 1)]) ⟨⟨rfl, by kernel_rfl⟩, trivial⟩) (DAll.op' (sp_loadB rfl isBlk rfl vt22 rfl) trivial rfl (From.ok (ps := [(none, 1)]) ⟨⟨rfl, by kernel_rfl⟩, trivial⟩) (DAll.opT (ts_append (N := ([] : List (Int × Int × Int × Int × Int)).length) (N2 := rr1.length) 6 rfl rfl rfl isRo rfl sl22 (len_map _ _) (len_map _ _) h1 (map_app _ _ _) rfl) trivial (From.ok (ps := [(some 0, 0)]) ⟨⟨_, rfl, by kernel_rfl, rfl, by kernel_rfl⟩, trivial⟩) (From.ok (ps := [(none, 2)]) ⟨⟨rfl, by kernel_rfl⟩, trivial⟩) (DAll.op' (sp_emptyM 7 (List.map en_api_RoundWinder []) rfl rfl sl24) trivial rfl (From.ok (ps := []) trivial) (DAll.op' (sp_fieldAddrB rfl isBlk rfl ft26_2 vt24 (by decide)) trivial rfl (From.ok (ps := [(none, 1)]) ⟨⟨rfl, by kernel_rfl⟩, trivial⟩) (DAll.op' (sp_loadB rfl isBlk rfl vt24 rfl) trivial rfl (From.ok (ps := [(none, 1)]) ⟨⟨rfl, by kernel_rfl⟩, trivial⟩) (DAll.opT (ts_append (N := ([] : List (Int × Int × Int × Int)).length) (N2 := rr3.length) 8 rfl rfl rfl isRo rfl sl24 (len_map _ _) (len_map _ _) h2 (map_app _ _ _) rfl) trivial (From.ok (ps := [(some 4, 0)]) ⟨⟨_, rfl, by kernel_rfl, rfl, by kernel_rfl⟩, trivial⟩) (From.ok (ps := [(none, 4)]) ⟨⟨rfl, by kernel_rfl⟩, trivial⟩) (DAll.op' (sp_fieldAddrB rfl isBlk rfl ft26_0 vt22 (by decide)) trivial rfl (From.ok (ps := [(none, 1)]) ⟨⟨rfl, by kernel_rfl⟩, trivial⟩) (.nil)))))))))
  refine stoB 3 (cells' := [.ref 6, .ref 1, .ref 2, vi rr4, vi rr5]) rfl rfl trivial rfl rfl rfl rfl vt22 rfl rfl rfl ?_
  refine op1 3 rfl (sp_fieldAddrB rfl isBlk rfl ft26_2 vt24 (by decide)) rfl trivial rfl rfl ?_
  refine stoB 3 (cells' := [.ref 6, .ref 1, .ref 8, vi rr4, vi rr5]) rfl rfl trivial rfl rfl rfl rfl vt24 rfl rfl rfl ?_
  refine TL.nil ?_
  refine TC.seq ?_
  refine TC.region ?_
  refine op0 (sp_emptyM 9 (List.map en_Lint []) rfl rfl sl23) rfl trivial rfl rfl ?_
  refine op0 (sp_assign rfl rfl) rfl trivial rfl rfl ?_
  refine TL.nil ?_
  refine TC.seq ?_
  refine TC.seq ?_
  refine TC.region ?_
  refine op0 (sp_assign rfl rfl) rfl trivial rfl rfl ?_
  refine TL.nil ?_
  refine TC.block ?_
  refine TC.loop ?_
  refine TC.seq ?_
  refine TC.seq ?_
  refine nilCellC 3 17 46 5 4 (List.map en_api_RoundTower []) [.ref 17, .val (.slice none 0 0), .val (.slice none 0 0), vi 0, vi 0] rfl rfl rfl ?_
  refine nilCellC 4 18 30 1 4 (List.map en_Lint []) [.ref 17, .ref 18, .val (.slice none 0 0), vi 0, vi 0] rfl rfl rfl ?_
  refine nilCellC 5 19 76 4 4 (List.map en_api_RoundWinder []) [.ref 17, .ref 18, .ref 19, vi 0, vi 0] rfl rfl rfl ?_
  refine subJ [(10, 17), (11, 18), (12, 19)] (ok_law11_copied_l0 _ _ _ _ _ _ _ _ _ _ _ _ _ h) ?_ ?_ ?_
  · exact ⟨rfl, rfl, rfl, rfl, trivial⟩
  · exact ⟨mem_at 7 rfl, mem_at 2 rfl, mem_at 1 rfl, mem_at 0 rfl, mem_at 6 rfl, mem_at 3 rfl, mem_at 5 rfl, mem_at 9 rfl, mem_at 4 rfl, trivial⟩
  · rfl
def ev_law11_byteOf (n : Nat) (l1 : List Int) (i2 : Int) : Option Int :=
  cond ((l1.length : Int) == 0) (some 0) (chk ((l1.length : Int) != 0) <| idx l1 (Int.tmod i2 (l1.length : Int)) fun x3 => chk (in64 x3) <| some x3)
theorem fc_law11_byteOf {n : Nat} {l1 : List Int} {i2 : Int} {r : Int} (h : ev_law11_byteOf n l1 i2 = some r) : FC Try.prog 23 [.ref 0, vi i2] [.ro 0 1 (List.map en_uint8 l1)] (vi r) [] := by
  refine introJ (nz := 16) Try.func23 rfl rfl rfl (fun w0 R0 env0 => ?_)
  rw [ev_law11_byteOf] at h
  refine TC.seq ?_
  refine TC.region ?_
  refine op0 (sp_assign rfl rfl) rfl trivial rfl rfl ?_
  refine TL.nil ?_
  refine TC.seq ?_
  refine TC.seq ?_
  refine TC.region ?_
  refine op0 (sp_move rfl rfl) rfl trivial rfl rfl ?_
  refine op1 0 rfl (sp_lenM (N := l1.length) (len_map _ _) rfl rfl isRo Try.underlying51) rfl trivial rfl rfl ?_
  refine op0 (sp_eql rfl rfl rfl) rfl trivial rfl rfl ?_
  refine TL.nil ?_
  refine TC.cond (b := ((l1.length : Int) == 0)) rfl (fun h1 => ?_) (fun h1 => ?_)
  · have h := cond_t h h1
    refine TC.seq ?_
    refine TC.region ?_
    refine op0 (sp_assign rfl rfl) rfl trivial rfl rfl ?_
    refine TL.nil ?_
    cases h
    exact retJ [] (.tmp rfl .nil) rfl trivial rfl rfl
  · have h := cond_f h h1
    refine TC.skip ?_
    refine TC.seq ?_
    refine TC.region ?_
    refine op0 (sp_move rfl rfl) rfl trivial rfl rfl ?_
    refine op0 (sp_move rfl rfl) rfl trivial rfl rfl ?_
    refine op0 (sp_move rfl rfl) rfl trivial rfl rfl ?_
    refine op1 0 rfl (sp_lenM (N := l1.length) (len_map _ _) rfl rfl isRo Try.underlying51) rfl trivial rfl rfl ?_
    obtain ⟨h2, h⟩ := chk_inv h
    refine op0 (sp_rem rfl rfl rfl h2) rfl trivial rfl rfl ?_
    obtain ⟨x3, h3, h4, h⟩ := idx_inv h
    refine op1 0 rfl (sp_indexS rfl rfl rfl isRo sl51 h3 (map_get _ h4)) rfl trivial rfl rfl ?_
    refine op1 0 rfl (sp_loadR (i := ((Int.tmod i2 (l1.length : Int)) : Int).toNat) (j := 0) rfl rfl isRo vt5 rfl (map_get _ h4) rfl (.v (.nil)) (nodup_of_B rfl)) rfl trivial rfl rfl ?_
    obtain ⟨h5, h⟩ := chk_inv h
    refine op0 (sp_conv rfl Try.underlying5 Try.underlying3 rfl h5) rfl trivial rfl rfl ?_
    refine op0 (sp_assign rfl rfl) rfl trivial rfl rfl ?_
    refine TL.nil ?_
    cases h
    exact retJ [] (.tmp rfl .nil) rfl trivial rfl rfl
def ev_law11_Town_rules_j1 (n : Nat) (i6 : Int) (l20 : List (Int × Int × Int × Int × Int)) (l15 : List (Int × Int × Int × Int × Int)) (i7 : Int) (i9 : Int) (l10 : List (Int × Int × Int × Int × Int)) (l11 : List ((List Int))) (l12 : List (Int × Int × Int × Int)) (i13 : Int) (i14 : Int) (l16 : List ((List Int))) (l17 : List (Int × Int × Int × Int)) (i18 : Int) (i19 : Int) (l21 : List Int) (l22 : List (Int × Int × Int × Int)) (k_law11_Town_rules_l0 : Int → Int → Int → (List (Int × Int × Int × Int × Int)) → (List ((List Int))) → (List (Int × Int × Int × Int)) → Int → Int → (List (Int × Int × Int × Int × Int)) → (List ((List Int))) → (List (Int × Int × Int × Int)) → Int → Int → (List (Int × Int × Int × Int × Int)) → (List Int) → (List (Int × Int × Int × Int)) → Option ((List (Int × Int × Int × Int × Int)) × (List ((List Int))) × (List (Int × Int × Int × Int)) × Int × Int)) : Option ((List (Int × Int × Int × Int × Int)) × (List ((List Int))) × (List (Int × Int × Int × Int)) × Int × Int) :=
  cond (decide (i6 < (l20.length : Int))) (idx l20 i6 fun x23 => chk (in64 x23.1) <| chk (in64 x23.2.1) <| chk (inK .u16 (bitK .u8 .and x23.2.2.1 (x23.2.2.1 / (shK .u8 4 : Int)))) <| chk (in64 x23.2.2.2.1) <| chk (in64 x23.2.2.2.2) <| chk (in64 ((1 : Int) + (Int.tmod x23.2.2.2.2 12))) <| chk (room 40 (l15.length + ([((Int.tmod x23.1 30), (Int.tmod x23.2.1 30), (bitK .u8 .and x23.2.2.1 (x23.2.2.1 / (shK .u8 4 : Int))), (Int.tmod x23.2.2.2.1 20), ((1 : Int) + (Int.tmod x23.2.2.2.2 12)))] : List (Int × Int × Int × Int × Int)).length)) <| chk (in64 (i6 + 1)) <| k_law11_Town_rules_l0 (i6 + 1) i7 i9 l10 l11 l12 i13 i14 (l15 ++ ([((Int.tmod x23.1 30), (Int.tmod x23.2.1 30), (bitK .u8 .and x23.2.2.1 (x23.2.2.1 / (shK .u8 4 : Int))), (Int.tmod x23.2.2.2.1 20), ((1 : Int) + (Int.tmod x23.2.2.2.2 12)))] : List (Int × Int × Int × Int × Int))) l16 l17 i18 i19 l20 l21 l22) (chk (room 40 (l15.length + ([(0, 0, 0, 0, 1)] : List (Int × Int × Int × Int × Int)).length)) <| chk (in64 (i6 + 1)) <| k_law11_Town_rules_l0 (i6 + 1) i7 i9 l10 l11 l12 i13 i14 (l15 ++ ([(0, 0, 0, 0, 1)] : List (Int × Int × Int × Int × Int))) l16 l17 i18 i19 l20 l21 l22)
theorem ok_law11_Town_rules_j1 {n : Nat} {w0 : World} {R0 : Nat → Prop} {env0 : Env} {r : (List (Int × Int × Int × Int × Int)) × (List ((List Int))) × (List (Int × Int × Int × Int)) × Int × Int} {i6 : Int} {l20 : List (Int × Int × Int × Int × Int)} {l15 : List (Int × Int × Int × Int × Int)} {i7 : Int} {i9 : Int} {l10 : List (Int × Int × Int × Int × Int)} {l11 : List ((List Int))} {l12 : List (Int × Int × Int × Int)} {i13 : Int} {i14 : Int} {l16 : List ((List Int))} {l17 : List (Int × Int × Int × Int)} {i18 : Int} {i19 : Int} {l21 : List Int} {l22 : List (Int × Int × Int × Int)} {k_law11_Town_rules_l0 : Int → Int → Int → (List (Int × Int × Int × Int × Int)) → (List ((List Int))) → (List (Int × Int × Int × Int)) → Int → Int → (List (Int × Int × Int × Int × Int)) → (List ((List Int))) → (List (Int × Int × Int × Int)) → Int → Int → (List (Int × Int × Int × Int × Int)) → (List Int) → (List (Int × Int × Int × Int)) → Option ((List (Int × Int × Int × Int × Int)) × (List ((List Int))) × (List (Int × Int × Int × Int)) × Int × Int)} (hk_law11_Town_rules_l0 : ∀ (i6 : Int) (i7 : Int) (i9 : Int) (l10 : List (Int × Int × Int × Int × Int)) (l11 : List ((List Int))) (l12 : List (Int × Int × Int × Int)) (i13 : Int) (i14 : Int) (l15 : List (Int × Int × Int × Int × Int)) (l16 : List ((List Int))) (l17 : List (Int × Int × Int × Int)) (i18 : Int) (i19 : Int) (l20 : List (Int × Int × Int × Int × Int)) (l21 : List Int) (l22 : List (Int × Int × Int × Int)), k_law11_Town_rules_l0 i6 i7 i9 l10 l11 l12 i13 i14 l15 l16 l17 i18 i19 l20 l21 l22 = some r → TC Try.prog ⟨w0, fun _ => False, R0⟩ 171 (bodyPost Try.prog Try.f19 (Post ⟨w0, fun _ => False, R0⟩ env0 (.agg [.ref 0, .ref 1, .ref 2, vi r.2.2.2.1, vi r.2.2.2.2]) [.row 0 46 5 (List.map en_api_RoundTower r.1), .row 1 30 1 (List.map en_Lint r.2.1), .row 2 76 4 (List.map en_api_RoundWinder r.2.2.1)])) [.code (sub (bodyOf Try.f19) [1, 1, 0, 1, 0, 0, 0, 0]), .code (sub (bodyOf Try.f19) [1, 1, 0, 1, 0, 0, 0, 1]), .code (sub (bodyOf Try.f19) [1, 1, 0, 1, 0, 0, 1]), .inLoop (sub (bodyOf Try.f19) [1, 1, 0, 1, 0, 0]), .inBlock 0, .code (sub (bodyOf Try.f19) [1, 1, 1])] ([(1, .ptr 3 0), (2, .ptr 4 0), (3, .ptr 5 0), (4, vi i6)]) ([.blk 3 [.ref 0, .ref 1, .ref 2, .val (.int .u8 i7), .val (.int .u8 i9)] 54, .row 6 46 5 (List.map en_api_RoundTower l10), .row 7 30 1 (List.map en_Lint l11), .row 8 76 4 (List.map en_api_RoundWinder l12), .blk 4 [.ref 6, .ref 7, .ref 8, vi i13, vi i14] 26, .row 9 46 5 (List.map en_api_RoundTower l15), .row 10 30 1 (List.map en_Lint l16), .row 11 76 4 (List.map en_api_RoundWinder l17), .blk 5 [.ref 9, .ref 10, .ref 11, vi i18, vi i19] 26, .ro 0 5 (List.map en_5_uint8 l20), .ro 1 1 (List.map en_uint8 l21), .ro 2 4 (List.map en_4_uint8 l22)])) (h : ev_law11_Town_rules_j1 n i6 l20 l15 i7 i9 l10 l11 l12 i13 i14 l16 l17 i18 i19 l21 l22 k_law11_Town_rules_l0 = some r) : TC Try.prog ⟨w0, fun _ => False, R0⟩ 171 (bodyPost Try.prog Try.f19 (Post ⟨w0, fun _ => False, R0⟩ env0 (.agg [.ref 0, .ref 1, .ref 2, vi r.2.2.2.1, vi r.2.2.2.2]) [.row 0 46 5 (List.map en_api_RoundTower r.1), .row 1 30 1 (List.map en_Lint r.2.1), .row 2 76 4 (List.map en_api_RoundWinder r.2.2.1)])) [.code (sub (bodyOf Try.f19) [1, 1, 0, 1, 0, 0, 0, 1, 0]), .code (sub (bodyOf Try.f19) [1, 1, 0, 1, 0, 0, 1]), .inLoop (sub (bodyOf Try.f19) [1, 1, 0, 1, 0, 0]), .inBlock 0, .code (sub (bodyOf Try.f19) [1, 1, 1])] ([(1, .ptr 3 0), (2, .ptr 4 0), (3, .ptr 5 0), (4, vi i6)]) ([.blk 3 [.ref 0, .ref 1, .ref 2, .val (.int .u8 i7), .val (.int .u8 i9)] 54, .blk 4 [.ref 6, .ref 7, .ref 8, vi i13, vi i14] 26, .blk 5 [.ref 9, .ref 10, .ref 11, vi i18, vi i19] 26, .ro 0 5 (List.map en_5_uint8 l20), .ro 1 1 (List.map en_uint8 l21), .ro 2 4 (List.map en_4_uint8 l22), .row 6 46 5 (List.map en_api_RoundTower l10), .row 7 30 1 (List.map en_Lint l11), .row 8 76 4 (List.map en_api_RoundWinder l12), .row 9 46 5 (List.map en_api_RoundTower l15), .row 10 30 1 (List.map en_Lint l16), .row 11 76 4 (List.map en_api_RoundWinder l17)]) := by
  rw [ev_law11_Town_rules_j1] at h
  refine TC.skip ?_
  refine TC.seq ?_
  refine TC.block ?_
  refine TC.seq ?_
  refine TC.region ?_
  refine op0 (sp_build (qs := [(4, vi 1)]) rfl bt46 rfl rfl rfl rfl) rfl trivial rfl rfl ?_
  refine op0 (sp_alloc 12 rfl Try.zeroValue46 rfl) rfl trivial rfl rfl ?_
  refine stoB 0 (cells' := [vi 0, vi 0, .val (.int .u16 0), vi 0, vi 1]) rfl rfl trivial rfl rfl rfl rfl vt46 rfl rfl rfl ?_
  refine TL.nil ?_
  refine TC.seq ?_
  refine TC.seq ?_
  refine TC.region ?_
  refine op0 (sp_move rfl rfl) rfl trivial rfl rfl ?_
  refine op1 1 rfl (sp_fieldAddrB rfl isBlk rfl ft54_0 vt50 (by decide)) rfl trivial rfl rfl ?_
  refine op1 1 rfl (sp_loadB rfl isBlk rfl vt50 rfl) rfl trivial rfl rfl ?_
  refine op1 4 rfl (sp_lenM (N := l20.length) (len_map _ _) rfl rfl isRo Try.underlying50) rfl trivial rfl rfl ?_
  refine op0 (sp_lss rfl rfl rfl) rfl trivial rfl rfl ?_
  refine TL.nil ?_
  refine TC.cond (b := (decide (i6 < (l20.length : Int)))) rfl (fun h5 => ?_) (fun h5 => ?_)
  · have h := cond_t h h5
    refine TC.seq ?_
    refine TC.region ?_
    refine op1 1 rfl (sp_fieldAddrB rfl isBlk rfl ft54_0 vt50 (by decide)) rfl trivial rfl rfl ?_
    refine op1 1 rfl (sp_loadB rfl isBlk rfl vt50 rfl) rfl trivial rfl rfl ?_
    refine op0 (sp_move rfl rfl) rfl trivial rfl rfl ?_
    obtain ⟨x23, h6, h7, h⟩ := idx_inv h
    refine op1 4 rfl (sp_indexS rfl rfl rfl isRo sl50 h6 (map_get _ h7)) rfl trivial rfl rfl ?_
    refine op1 4 rfl (sp_loadRA (i := (i6 : Int).toNat) (j := 0) (as_ := [.val (.int .u8 x23.1), .val (.int .u8 x23.2.1), .val (.int .u8 x23.2.2.1), .val (.int .u8 x23.2.2.2.1), .val (.int .u8 x23.2.2.2.2)]) (ns := []) rfl rfl isRo vt89 rfl (map_get _ h7) rfl rfl (by decide) (.v (.v (.v (.v (.v (.nil)))))) (nodup_of_B rfl)) rfl trivial rfl rfl ?_
    refine op0 (sp_alloc 13 rfl Try.zeroValue89 rfl) rfl trivial rfl rfl ?_
    refine stoB 0 (cells' := [.val (.int .u8 x23.1), .val (.int .u8 x23.2.1), .val (.int .u8 x23.2.2.1), .val (.int .u8 x23.2.2.2.1), .val (.int .u8 x23.2.2.2.2)]) rfl rfl trivial rfl rfl rfl rfl vt89 rfl rfl rfl ?_
    refine TL.nil ?_
    refine TC.region ?_
    refine op1 0 rfl (sp_indexA (len := 5) (iv := 0) rfl isBlk rfl rfl Try.underlying89 vt5 (by decide)) rfl trivial rfl rfl ?_
    refine op1 0 rfl (sp_loadB rfl isBlk rfl vt5 rfl) rfl trivial rfl rfl ?_
    obtain ⟨h8, h⟩ := chk_inv h
    refine op0 (sp_conv rfl Try.underlying5 Try.underlying3 rfl h8) rfl trivial rfl rfl ?_
    refine op0 (sp_rem rfl rfl rfl (by decide)) rfl trivial rfl rfl ?_
    refine op1 0 rfl (sp_indexA (len := 5) (iv := 1) rfl isBlk rfl rfl Try.underlying89 vt5 (by decide)) rfl trivial rfl rfl ?_
    refine op1 0 rfl (sp_loadB rfl isBlk rfl vt5 rfl) rfl trivial rfl rfl ?_
    obtain ⟨h9, h⟩ := chk_inv h
    refine op0 (sp_conv rfl Try.underlying5 Try.underlying3 rfl h9) rfl trivial rfl rfl ?_
    refine op0 (sp_rem rfl rfl rfl (by decide)) rfl trivial rfl rfl ?_
    refine op1 0 rfl (sp_indexA (len := 5) (iv := 2) rfl isBlk rfl rfl Try.underlying89 vt5 (by decide)) rfl trivial rfl rfl ?_
    refine op1 0 rfl (sp_loadB rfl isBlk rfl vt5 rfl) rfl trivial rfl rfl ?_
    refine op1 0 rfl (sp_indexA (len := 5) (iv := 2) rfl isBlk rfl rfl Try.underlying89 vt5 (by decide)) rfl trivial rfl rfl ?_
    refine op1 0 rfl (sp_loadB rfl isBlk rfl vt5 rfl) rfl trivial rfl rfl ?_
    refine op0 (sp_shr rfl rfl rfl (by decide)) rfl trivial rfl rfl ?_
    refine op0 (sp_bit .and rfl rfl rfl rfl) rfl trivial rfl rfl ?_
    obtain ⟨h10, h⟩ := chk_inv h
    refine op0 (sp_conv rfl Try.underlying5 Try.underlying44 rfl h10) rfl trivial rfl rfl ?_
    refine op1 0 rfl (sp_indexA (len := 5) (iv := 3) rfl isBlk rfl rfl Try.underlying89 vt5 (by decide)) rfl trivial rfl rfl ?_
    refine op1 0 rfl (sp_loadB rfl isBlk rfl vt5 rfl) rfl trivial rfl rfl ?_
    obtain ⟨h11, h⟩ := chk_inv h
    refine op0 (sp_conv rfl Try.underlying5 Try.underlying3 rfl h11) rfl trivial rfl rfl ?_
    refine op0 (sp_rem rfl rfl rfl (by decide)) rfl trivial rfl rfl ?_
    refine op1 0 rfl (sp_indexA (len := 5) (iv := 4) rfl isBlk rfl rfl Try.underlying89 vt5 (by decide)) rfl trivial rfl rfl ?_
    refine op1 0 rfl (sp_loadB rfl isBlk rfl vt5 rfl) rfl trivial rfl rfl ?_
    obtain ⟨h12, h⟩ := chk_inv h
    refine op0 (sp_conv rfl Try.underlying5 Try.underlying3 rfl h12) rfl trivial rfl rfl ?_
    refine op0 (sp_rem rfl rfl rfl (by decide)) rfl trivial rfl rfl ?_
    obtain ⟨h13, h⟩ := chk_inv h
    refine op0 (sp_add rfl rfl rfl h13) rfl trivial rfl rfl ?_
    refine op0 (sp_build (qs := [(0, vi (Int.tmod x23.1 30)), (1, vi (Int.tmod x23.2.1 30)), (2, .val (.int .u16 (bitK .u8 .and x23.2.2.1 (x23.2.2.1 / (shK .u8 4 : Int))))), (3, vi (Int.tmod x23.2.2.2.1 20)), (4, vi ((1 : Int) + (Int.tmod x23.2.2.2.2 12)))]) rfl bt46 rfl rfl rfl rfl) rfl trivial rfl rfl ?_
    refine stoB 1 (cells' := [vi (Int.tmod x23.1 30), vi (Int.tmod x23.2.1 30), .val (.int .u16 (bitK .u8 .and x23.2.2.1 (x23.2.2.1 / (shK .u8 4 : Int)))), vi (Int.tmod x23.2.2.2.1 20), vi ((1 : Int) + (Int.tmod x23.2.2.2.2 12))]) rfl rfl trivial rfl rfl rfl rfl vt46 rfl rfl rfl ?_
    refine TL.nil ?_
    refine TC.region ?_
    refine op1 4 rfl (sp_fieldAddrB rfl isBlk rfl ft26_0 vt22 (by decide)) rfl trivial rfl rfl ?_
    refine op1 4 rfl (sp_loadB rfl isBlk rfl vt22 rfl) rfl trivial rfl rfl ?_
    refine op1 1 rfl (sp_loadBA rfl isBlk rfl vt46 rfl rfl) rfl trivial rfl rfl ?_
    refine op0 (sp_buildSlice (qs := [.agg [vi (Int.tmod x23.1 30), vi (Int.tmod x23.2.1 30), .val (.int .u16 (bitK .u8 .and x23.2.2.1 (x23.2.2.1 / (shK .u8 4 : Int)))), vi (Int.tmod x23.2.2.2.1 20), vi ((1 : Int) + (Int.tmod x23.2.2.2.2 12))]]) (need := []) (els := List.map en_api_RoundTower ([((Int.tmod x23.1 30), (Int.tmod x23.2.1 30), (bitK .u8 .and x23.2.2.1 (x23.2.2.1 / (shK .u8 4 : Int))), (Int.tmod x23.2.2.2.1 20), ((1 : Int) + (Int.tmod x23.2.2.2.2 12)))] : List (Int × Int × Int × Int × Int))) 14 rfl sl22 (by decide) (by decide) rfl rfl rfl (.v (.v (.v (.v (.v (.nil)))))) (map_len fun _ => rfl) rfl rfl rfl) rfl trivial rfl rfl ?_
    obtain ⟨h14, h⟩ := chk_inv h
    refine appM 12 0 (N := l15.length) (N2 := ([((Int.tmod x23.1 30), (Int.tmod x23.2.1 30), (bitK .u8 .and x23.2.2.1 (x23.2.2.1 / (shK .u8 4 : Int))), (Int.tmod x23.2.2.2.1 20), ((1 : Int) + (Int.tmod x23.2.2.2.2 12)))] : List (Int × Int × Int × Int × Int)).length) 15 rfl rfl trivial rfl rfl rfl rfl rfl isOwn rfl sl22 (len_map _ _) (len_map _ _) h14 (map_app _ _ _) rfl ?_
    refine op1 6 rfl (sp_fieldAddrB rfl isBlk rfl ft26_0 vt22 (by decide)) rfl trivial rfl rfl ?_
    refine stoB 6 (cells' := [.ref 15, .ref 10, .ref 11, vi i18, vi i19]) rfl rfl trivial rfl rfl rfl rfl vt22 rfl rfl rfl ?_
    refine TL.nil ?_
    refine TC.inBlock ?_
    refine TC.region ?_
    refine op0 (sp_move rfl rfl) rfl trivial rfl rfl ?_
    obtain ⟨h15, h⟩ := chk_inv h
    refine op0 (sp_add rfl rfl rfl h15) rfl trivial rfl rfl ?_
    refine op0 (sp_assign rfl rfl) rfl trivial rfl rfl ?_
    refine TL.nil ?_
    refine TC.inLoop ?_
    refine TC.seq ?_
    refine TC.seq ?_
    refine subJ [(9, 15)] (hk_law11_Town_rules_l0 _ _ _ _ _ _ _ _ _ _ _ _ _ _ _ _ h) ?_ ?_ ?_
    · exact ⟨rfl, rfl, rfl, rfl, trivial⟩
    · exact ⟨mem_at 4 rfl, mem_at 10 rfl, mem_at 11 rfl, mem_at 12 rfl, mem_at 5 rfl, mem_at 0 rfl, mem_at 13 rfl, mem_at 14 rfl, mem_at 6 rfl, mem_at 7 rfl, mem_at 8 rfl, mem_at 9 rfl, trivial⟩
    · rfl
  · have h := cond_f h h5
    refine TC.skip ?_
    refine TC.region ?_
    refine op1 3 rfl (sp_fieldAddrB rfl isBlk rfl ft26_0 vt22 (by decide)) rfl trivial rfl rfl ?_
    refine op1 3 rfl (sp_loadB rfl isBlk rfl vt22 rfl) rfl trivial rfl rfl ?_
    refine op1 0 rfl (sp_loadBA rfl isBlk rfl vt46 rfl rfl) rfl trivial rfl rfl ?_
    refine op0 (sp_buildSlice (qs := [.agg [vi 0, vi 0, .val (.int .u16 0), vi 0, vi 1]]) (need := []) (els := List.map en_api_RoundTower ([(0, 0, 0, 0, 1)] : List (Int × Int × Int × Int × Int))) 16 rfl sl22 (by decide) (by decide) rfl rfl rfl (.v (.v (.v (.v (.v (.nil)))))) (map_len fun _ => rfl) rfl rfl rfl) rfl trivial rfl rfl ?_
    obtain ⟨h16, h⟩ := chk_inv h
    refine appM 11 0 (N := l15.length) (N2 := ([(0, 0, 0, 0, 1)] : List (Int × Int × Int × Int × Int)).length) 17 rfl rfl trivial rfl rfl rfl rfl rfl isOwn rfl sl22 (len_map _ _) (len_map _ _) h16 (map_app _ _ _) rfl ?_
    refine op1 5 rfl (sp_fieldAddrB rfl isBlk rfl ft26_0 vt22 (by decide)) rfl trivial rfl rfl ?_
    refine stoB 5 (cells' := [.ref 17, .ref 10, .ref 11, vi i18, vi i19]) rfl rfl trivial rfl rfl rfl rfl vt22 rfl rfl rfl ?_
    refine TL.nil ?_
    refine TC.inBlock ?_
    refine TC.region ?_
    refine op0 (sp_move rfl rfl) rfl trivial rfl rfl ?_
    obtain ⟨h17, h⟩ := chk_inv h
    refine op0 (sp_add rfl rfl rfl h17) rfl trivial rfl rfl ?_
    refine op0 (sp_assign rfl rfl) rfl trivial rfl rfl ?_
    refine TL.nil ?_
    refine TC.inLoop ?_
    refine TC.seq ?_
    refine TC.seq ?_
    refine subJ [(9, 17)] (hk_law11_Town_rules_l0 _ _ _ _ _ _ _ _ _ _ _ _ _ _ _ _ h) ?_ ?_ ?_
    · exact ⟨rfl, rfl, rfl, rfl, trivial⟩
    · exact ⟨mem_at 3 rfl, mem_at 9 rfl, mem_at 10 rfl, mem_at 11 rfl, mem_at 4 rfl, mem_at 0 rfl, mem_at 12 rfl, mem_at 13 rfl, mem_at 5 rfl, mem_at 6 rfl, mem_at 7 rfl, mem_at 8 rfl, trivial⟩
    · rfl
def ev_law11_Town_rules_l4 (n : Nat) (l36 : List (Int × Int × Int × Int × Int)) (i39 : Int) (k_law11_Town_rules_l3 : Int → Int → Int → Int → Int → Int → Int → (List (Int × Int × Int × Int × Int)) → (List Int) → (List (Int × Int × Int × Int)) → (List (Int × Int × Int × Int × Int)) → (List ((List Int))) → (List (Int × Int × Int × Int)) → (List (Int × Int × Int × Int × Int)) → (List ((List Int))) → (List (Int × Int × Int × Int)) → Option ((List (Int × Int × Int × Int × Int)) × (List ((List Int))) × (List (Int × Int × Int × Int)) × Int × Int)) : Nat → Int → Int → Int → Int → Int → Int → Int → (List Int) → (List (Int × Int × Int × Int × Int)) → (List Int) → (List (Int × Int × Int × Int)) → (List (Int × Int × Int × Int × Int)) → (List ((List Int))) → (List (Int × Int × Int × Int)) → (List (Int × Int × Int × Int × Int)) → (List ((List Int))) → (List (Int × Int × Int × Int)) → Option ((List (Int × Int × Int × Int × Int)) × (List ((List Int))) × (List (Int × Int × Int × Int)) × Int × Int)
  | 0, _, _, _, _, _, _, _, _, _, _, _, _, _, _, _, _, _ => none
  | m + 1, i55, i56, i57, i58, i59, i60, i61, l62, l63, l64, l65, l66, l67, l68, l69, l70, l71 => cond (decide (i55 ≤ (l36.length : Int))) (chk (in64 ((7 : Int) * i39)) <| chk (in64 (((7 : Int) * i39) + i55)) <| (ev_law11_byteOf n l64 (((7 : Int) * i39) + i55)).bind fun r72 => cond (i39 == i55) (chk (room 8 (l62.length + ([0] : List Int).length)) <| chk (in64 (i55 + 1)) <| ev_law11_Town_rules_l4 n l36 i39 k_law11_Town_rules_l3 m (i55 + 1) i56 i57 i58 i59 i60 i61 (l62 ++ ([0] : List Int)) l63 l64 l65 l66 l67 l68 l69 l70 l71) (chk (room 8 (l62.length + ([(Int.tmod r72 60)] : List Int).length)) <| chk (in64 (i55 + 1)) <| ev_law11_Town_rules_l4 n l36 i39 k_law11_Town_rules_l3 m (i55 + 1) i56 i57 i58 i59 i60 i61 (l62 ++ ([(Int.tmod r72 60)] : List Int)) l63 l64 l65 l66 l67 l68 l69 l70 l71)) (chk (room 24 (l70.length + ([l62] : List ((List Int))).length)) <| chk (in64 (i39 + 1)) <| k_law11_Town_rules_l3 (i39 + 1) i56 i57 i58 i59 i60 i61 l63 l64 l65 l66 l67 l68 l69 (l70 ++ ([l62] : List ((List Int)))) l71)
theorem ok_law11_Town_rules_l4 {n : Nat} {w0 : World} {R0 : Nat → Prop} {env0 : Env} {r : (List (Int × Int × Int × Int × Int)) × (List ((List Int))) × (List (Int × Int × Int × Int)) × Int × Int} {l36 : List (Int × Int × Int × Int × Int)} {i39 : Int} {k_law11_Town_rules_l3 : Int → Int → Int → Int → Int → Int → Int → (List (Int × Int × Int × Int × Int)) → (List Int) → (List (Int × Int × Int × Int)) → (List (Int × Int × Int × Int × Int)) → (List ((List Int))) → (List (Int × Int × Int × Int)) → (List (Int × Int × Int × Int × Int)) → (List ((List Int))) → (List (Int × Int × Int × Int)) → Option ((List (Int × Int × Int × Int × Int)) × (List ((List Int))) × (List (Int × Int × Int × Int)) × Int × Int)} (hk_law11_Town_rules_l3 : ∀ (i39 : Int) (i40 : Int) (i41 : Int) (i42 : Int) (i43 : Int) (i44 : Int) (i45 : Int) (l46 : List (Int × Int × Int × Int × Int)) (l47 : List Int) (l48 : List (Int × Int × Int × Int)) (l49 : List (Int × Int × Int × Int × Int)) (l50 : List ((List Int))) (l51 : List (Int × Int × Int × Int)) (l52 : List (Int × Int × Int × Int × Int)) (l53 : List ((List Int))) (l54 : List (Int × Int × Int × Int)), k_law11_Town_rules_l3 i39 i40 i41 i42 i43 i44 i45 l46 l47 l48 l49 l50 l51 l52 l53 l54 = some r → TC Try.prog ⟨w0, fun _ => False, R0⟩ 171 (bodyPost Try.prog Try.f19 (Post ⟨w0, fun _ => False, R0⟩ env0 (.agg [.ref 0, .ref 1, .ref 2, vi r.2.2.2.1, vi r.2.2.2.2]) [.row 0 46 5 (List.map en_api_RoundTower r.1), .row 1 30 1 (List.map en_Lint r.2.1), .row 2 76 4 (List.map en_api_RoundWinder r.2.2.1)])) [.code (sub (bodyOf Try.f19) [1, 1, 1, 1, 0, 1, 0, 0, 0, 0]), .code (sub (bodyOf Try.f19) [1, 1, 1, 1, 0, 1, 0, 0, 0, 1]), .code (sub (bodyOf Try.f19) [1, 1, 1, 1, 0, 1, 0, 0, 1]), .inLoop (sub (bodyOf Try.f19) [1, 1, 1, 1, 0, 1, 0, 0]), .inBlock 2, .code (sub (bodyOf Try.f19) [1, 1, 1, 1, 1])] ([(1, .ptr 3 0), (2, .ptr 4 0), (3, .ptr 5 0), (7, vi (l36.length : Int)), (8, vi i39)]) ([.blk 3 [.ref 0, .ref 1, .ref 2, .val (.int .u8 i40), .val (.int .u8 i41)] 54, .blk 4 [.ref 6, .ref 7, .ref 8, vi i42, vi i43] 26, .blk 5 [.ref 9, .ref 10, .ref 11, vi i44, vi i45] 26, .ro 0 5 (List.map en_5_uint8 l46), .ro 1 1 (List.map en_uint8 l47), .ro 2 4 (List.map en_4_uint8 l48), .row 6 46 5 (List.map en_api_RoundTower l49), .row 7 30 1 (List.map en_Lint l50), .row 8 76 4 (List.map en_api_RoundWinder l51), .row 9 46 5 (List.map en_api_RoundTower l52), .row 10 30 1 (List.map en_Lint l53), .row 11 76 4 (List.map en_api_RoundWinder l54)])) : ∀ (m : Nat) (i55 : Int) (i56 : Int) (i57 : Int) (i58 : Int) (i59 : Int) (i60 : Int) (i61 : Int) (l62 : List Int) (l63 : List (Int × Int × Int × Int × Int)) (l64 : List Int) (l65 : List (Int × Int × Int × Int)) (l66 : List (Int × Int × Int × Int × Int)) (l67 : List ((List Int))) (l68 : List (Int × Int × Int × Int)) (l69 : List (Int × Int × Int × Int × Int)) (l70 : List ((List Int))) (l71 : List (Int × Int × Int × Int)), ev_law11_Town_rules_l4 n l36 i39 k_law11_Town_rules_l3 m i55 i56 i57 i58 i59 i60 i61 l62 l63 l64 l65 l66 l67 l68 l69 l70 l71 = some r → TC Try.prog ⟨w0, fun _ => False, R0⟩ 171 (bodyPost Try.prog Try.f19 (Post ⟨w0, fun _ => False, R0⟩ env0 (.agg [.ref 0, .ref 1, .ref 2, vi r.2.2.2.1, vi r.2.2.2.2]) [.row 0 46 5 (List.map en_api_RoundTower r.1), .row 1 30 1 (List.map en_Lint r.2.1), .row 2 76 4 (List.map en_api_RoundWinder r.2.2.1)])) [.code (sub (bodyOf Try.f19) [1, 1, 1, 1, 0, 1, 0, 0, 1, 0, 0, 1, 0, 1, 0, 0, 0, 0]), .code (sub (bodyOf Try.f19) [1, 1, 1, 1, 0, 1, 0, 0, 1, 0, 0, 1, 0, 1, 0, 0, 0, 1]), .code (sub (bodyOf Try.f19) [1, 1, 1, 1, 0, 1, 0, 0, 1, 0, 0, 1, 0, 1, 0, 0, 1]), .inLoop (sub (bodyOf Try.f19) [1, 1, 1, 1, 0, 1, 0, 0, 1, 0, 0, 1, 0, 1, 0, 0]), .inBlock 4, .code (sub (bodyOf Try.f19) [1, 1, 1, 1, 0, 1, 0, 0, 1, 0, 0, 1, 1]), .inBlock 3, .code (sub (bodyOf Try.f19) [1, 1, 1, 1, 0, 1, 0, 0, 1, 1]), .inLoop (sub (bodyOf Try.f19) [1, 1, 1, 1, 0, 1, 0, 0]), .inBlock 2, .code (sub (bodyOf Try.f19) [1, 1, 1, 1, 1])] ([(1, .ptr 3 0), (2, .ptr 4 0), (3, .ptr 5 0), (7, vi (l36.length : Int)), (8, vi i39), (9, .ref 18), (10, vi i55)]) ([.blk 3 [.ref 0, .ref 1, .ref 2, .val (.int .u8 i56), .val (.int .u8 i57)] 54, .blk 4 [.ref 6, .ref 7, .ref 8, vi i58, vi i59] 26, .blk 5 [.ref 9, .ref 10, .ref 11, vi i60, vi i61] 26, .row 18 3 1 (List.map en_int l62), .ro 0 5 (List.map en_5_uint8 l63), .ro 1 1 (List.map en_uint8 l64), .ro 2 4 (List.map en_4_uint8 l65), .row 6 46 5 (List.map en_api_RoundTower l66), .row 7 30 1 (List.map en_Lint l67), .row 8 76 4 (List.map en_api_RoundWinder l68), .row 9 46 5 (List.map en_api_RoundTower l69), .row 10 30 1 (List.map en_Lint l70), .row 11 76 4 (List.map en_api_RoundWinder l71)]) := by
  intro m
  induction m with
  | zero => intro i55 i56 i57 i58 i59 i60 i61 l62 l63 l64 l65 l66 l67 l68 l69 l70 l71 h; exact none_no h
  | succ m ih =>
    intro i55 i56 i57 i58 i59 i60 i61 l62 l63 l64 l65 l66 l67 l68 l69 l70 l71 h
    rw [ev_law11_Town_rules_l4] at h
    refine TC.region ?_
    refine op0 (sp_move rfl rfl) rfl trivial rfl rfl ?_
    refine op0 (sp_move rfl rfl) rfl trivial rfl rfl ?_
    refine op0 (sp_leq rfl rfl rfl) rfl trivial rfl rfl ?_
    refine TL.nil ?_
    refine TC.cond (b := (decide (i55 ≤ (l36.length : Int)))) rfl (fun h21 => ?_) (fun h21 => ?_)
    · have h := cond_t h h21
      refine TC.skip ?_
      refine TC.seq ?_
      refine TC.block ?_
      refine TC.seq ?_
      refine TC.region ?_
      refine op1 0 rfl (sp_fieldAddrB rfl isBlk rfl ft54_1 vt51 (by decide)) rfl trivial rfl rfl ?_
      refine op1 0 rfl (sp_loadB rfl isBlk rfl vt51 rfl) rfl trivial rfl rfl ?_
      refine op0 (sp_move rfl rfl) rfl trivial rfl rfl ?_
      obtain ⟨h22, h⟩ := chk_inv h
      refine op0 (sp_mul rfl rfl rfl h22) rfl trivial rfl rfl ?_
      refine op0 (sp_move rfl rfl) rfl trivial rfl rfl ?_
      obtain ⟨h23, h⟩ := chk_inv h
      refine op0 (sp_add rfl rfl rfl h23) rfl trivial rfl rfl ?_
      obtain ⟨r72, h24, h⟩ := bind_inv h
      refine op1 5 rfl (sp_call (avs := [.ref 1, vi (((7 : Int) * i39) + i55)]) (need := [.ro 1 1 (List.map en_uint8 l64)]) (v := vi r72) (news := []) rfl rfl rfl Try.call23 (atJ [(0, 1)] [] (fc_law11_byteOf h24) rfl rfl) (.inl (roAll rfl))) rfl trivial rfl rfl ?_
      refine op0 (sp_rem rfl rfl rfl (by decide)) rfl trivial rfl rfl ?_
      refine op0 (sp_assign rfl rfl) rfl trivial rfl rfl ?_
      refine TL.nil ?_
      refine TC.seq ?_
      refine TC.seq ?_
      refine TC.region ?_
      refine op0 (sp_move rfl rfl) rfl trivial rfl rfl ?_
      refine op0 (sp_move rfl rfl) rfl trivial rfl rfl ?_
      refine op0 (sp_eql rfl rfl rfl) rfl trivial rfl rfl ?_
      refine TL.nil ?_
      refine TC.cond (b := (i39 == i55)) rfl (fun h25 => ?_) (fun h25 => ?_)
      · have h := cond_t h h25
        refine TC.region ?_
        refine op0 (sp_assign rfl rfl) rfl trivial rfl rfl ?_
        refine TL.nil ?_
        refine TC.region ?_
        refine op0 (sp_move rfl rfl) rfl trivial rfl rfl ?_
        refine op0 (sp_move rfl rfl) rfl trivial rfl rfl ?_
        refine op0 (sp_buildSlice (qs := [vi 0]) (need := []) (els := List.map en_int ([0] : List Int)) 19 rfl sl30 (by decide) (by decide) rfl rfl rfl (.v (.nil)) (map_len fun _ => rfl) rfl rfl rfl) rfl trivial rfl rfl ?_
        obtain ⟨h26, h⟩ := chk_inv h
        refine appM 4 0 (N := l62.length) (N2 := ([0] : List Int).length) 20 rfl rfl trivial rfl rfl rfl rfl rfl isOwn rfl sl30 (len_map _ _) (len_map _ _) h26 (map_app _ _ _) rfl ?_
        refine op0 (sp_assign rfl rfl) rfl trivial rfl rfl ?_
        refine TL.nil ?_
        refine TC.inBlock ?_
        refine TC.region ?_
        refine op0 (sp_move rfl rfl) rfl trivial rfl rfl ?_
        obtain ⟨h27, h⟩ := chk_inv h
        refine op0 (sp_add rfl rfl rfl h27) rfl trivial rfl rfl ?_
        refine op0 (sp_assign rfl rfl) rfl trivial rfl rfl ?_
        refine TL.nil ?_
        refine TC.inLoop ?_
        refine TC.seq ?_
        refine TC.seq ?_
        refine subJ [(18, 20)] (ih _ _ _ _ _ _ _ _ _ _ _ _ _ _ _ _ _ h) ?_ ?_ ?_
        · exact ⟨rfl, rfl, rfl, rfl, rfl, rfl, rfl, trivial⟩
        · exact ⟨mem_at 2 rfl, mem_at 3 rfl, mem_at 4 rfl, mem_at 0 rfl, mem_at 5 rfl, mem_at 6 rfl, mem_at 7 rfl, mem_at 8 rfl, mem_at 9 rfl, mem_at 10 rfl, mem_at 11 rfl, mem_at 12 rfl, mem_at 13 rfl, trivial⟩
        · rfl
      · have h := cond_f h h25
        refine TC.skip ?_
        refine TC.region ?_
        refine op0 (sp_move rfl rfl) rfl trivial rfl rfl ?_
        refine op0 (sp_move rfl rfl) rfl trivial rfl rfl ?_
        refine op0 (sp_buildSlice (qs := [vi (Int.tmod r72 60)]) (need := []) (els := List.map en_int ([(Int.tmod r72 60)] : List Int)) 21 rfl sl30 (by decide) (by decide) rfl rfl rfl (.v (.nil)) (map_len fun _ => rfl) rfl rfl rfl) rfl trivial rfl rfl ?_
        obtain ⟨h28, h⟩ := chk_inv h
        refine appM 4 0 (N := l62.length) (N2 := ([(Int.tmod r72 60)] : List Int).length) 22 rfl rfl trivial rfl rfl rfl rfl rfl isOwn rfl sl30 (len_map _ _) (len_map _ _) h28 (map_app _ _ _) rfl ?_
        refine op0 (sp_assign rfl rfl) rfl trivial rfl rfl ?_
        refine TL.nil ?_
        refine TC.inBlock ?_
        refine TC.region ?_
        refine op0 (sp_move rfl rfl) rfl trivial rfl rfl ?_
        obtain ⟨h29, h⟩ := chk_inv h
        refine op0 (sp_add rfl rfl rfl h29) rfl trivial rfl rfl ?_
        refine op0 (sp_assign rfl rfl) rfl trivial rfl rfl ?_
        refine TL.nil ?_
        refine TC.inLoop ?_
        refine TC.seq ?_
        refine TC.seq ?_
        refine subJ [(18, 22)] (ih _ _ _ _ _ _ _ _ _ _ _ _ _ _ _ _ _ h) ?_ ?_ ?_
        · exact ⟨rfl, rfl, rfl, rfl, rfl, rfl, rfl, trivial⟩
        · exact ⟨mem_at 2 rfl, mem_at 3 rfl, mem_at 4 rfl, mem_at 0 rfl, mem_at 5 rfl, mem_at 6 rfl, mem_at 7 rfl, mem_at 8 rfl, mem_at 9 rfl, mem_at 10 rfl, mem_at 11 rfl, mem_at 12 rfl, mem_at 13 rfl, trivial⟩
        · rfl
    · have h := cond_f h h21
      refine TC.exit rfl ?_
      refine TC.region ?_
      refine op1 2 rfl (sp_fieldAddrB rfl isBlk rfl ft26_1 vt23 (by decide)) rfl trivial rfl rfl ?_
      refine op1 2 rfl (sp_loadB rfl isBlk rfl vt23 rfl) rfl trivial rfl rfl ?_
      refine op0 (sp_move rfl rfl) rfl trivial rfl rfl ?_
      refine TL.freeze 3 rfl ?_
      refine op1 3 rfl (sp_buildSlice (qs := [.ref 18]) (need := [.ro 18 1 (List.map en_int l62)]) (els := List.map en_Lint ([l62] : List ((List Int)))) 23 rfl sl23 (by decide) (by decide) rfl rfl rfl (.s (mem_at 0 rfl) (.nil)) (map_len fun _ => rfl) rfl rfl rfl) rfl trivial rfl rfl ?_
      obtain ⟨h30, h⟩ := chk_inv h
      refine appM 12 0 (N := l70.length) (N2 := ([l62] : List ((List Int))).length) 24 rfl rfl trivial rfl rfl rfl rfl rfl isOwn rfl sl23 (len_map _ _) (len_map _ _) h30 (map_app _ _ _) rfl ?_
      refine op1 4 rfl (sp_fieldAddrB rfl isBlk rfl ft26_1 vt23 (by decide)) rfl trivial rfl rfl ?_
      refine stoB 4 (cells' := [.ref 9, .ref 24, .ref 11, vi i60, vi i61]) rfl rfl trivial rfl rfl rfl rfl vt23 rfl rfl rfl ?_
      refine TL.nil ?_
      refine TC.inBlock ?_
      refine TC.region ?_
      refine op0 (sp_move rfl rfl) rfl trivial rfl rfl ?_
      obtain ⟨h31, h⟩ := chk_inv h
      refine op0 (sp_add rfl rfl rfl h31) rfl trivial rfl rfl ?_
      refine op0 (sp_assign rfl rfl) rfl trivial rfl rfl ?_
      refine TL.nil ?_
      refine TC.inLoop ?_
      refine TC.seq ?_
      refine TC.seq ?_
      refine subJ [(10, 24)] (hk_law11_Town_rules_l3 _ _ _ _ _ _ _ _ _ _ _ _ _ _ _ _ h) ?_ ?_ ?_
      · exact ⟨rfl, rfl, rfl, rfl, rfl, trivial⟩
      · exact ⟨mem_at 2 rfl, mem_at 3 rfl, mem_at 4 rfl, mem_at 6 rfl, mem_at 7 rfl, mem_at 8 rfl, mem_at 9 rfl, mem_at 10 rfl, mem_at 11 rfl, mem_at 12 rfl, mem_at 0 rfl, mem_at 13 rfl, trivial⟩
      · rfl
def ev_law11_Town_rules_j6 (n : Nat) (i73 : Int) (l82 : List (Int × Int × Int × Int)) (l88 : List (Int × Int × Int × Int)) (i74 : Int) (i75 : Int) (i76 : Int) (i77 : Int) (i78 : Int) (i79 : Int) (l80 : List (Int × Int × Int × Int × Int)) (l81 : List Int) (l83 : List (Int × Int × Int × Int × Int)) (l84 : List ((List Int))) (l85 : List (Int × Int × Int × Int)) (l86 : List (Int × Int × Int × Int × Int)) (l87 : List ((List Int))) (k_law11_Town_rules_l5 : Int → Int → Int → Int → Int → Int → Int → (List (Int × Int × Int × Int × Int)) → (List Int) → (List (Int × Int × Int × Int)) → (List (Int × Int × Int × Int × Int)) → (List ((List Int))) → (List (Int × Int × Int × Int)) → (List (Int × Int × Int × Int × Int)) → (List ((List Int))) → (List (Int × Int × Int × Int)) → Option ((List (Int × Int × Int × Int × Int)) × (List ((List Int))) × (List (Int × Int × Int × Int)) × Int × Int)) : Option ((List (Int × Int × Int × Int × Int)) × (List ((List Int))) × (List (Int × Int × Int × Int)) × Int × Int) :=
  cond (decide (i73 < (l82.length : Int))) (idx l82 i73 fun x89 => chk (inK .u16 (bitK .u8 .or x89.1 (IntKind.u8.wrap (x89.1 * (shK .u8 4 : Int))))) <| chk (in64 x89.2.1) <| chk (in64 x89.2.2.1) <| chk (in64 ((2 : Int) * x89.2.2.1)) <| chk (in64 ((60 : Int) + ((2 : Int) * x89.2.2.1))) <| chk (in64 x89.2.2.2) <| chk (in64 ((40 : Int) + x89.2.2.2)) <| chk (room 32 (l88.length + ([((bitK .u8 .or x89.1 (IntKind.u8.wrap (x89.1 * (shK .u8 4 : Int)))), (Int.tmod x89.2.1 100), ((60 : Int) + ((2 : Int) * x89.2.2.1)), ((40 : Int) + x89.2.2.2))] : List (Int × Int × Int × Int)).length)) <| chk (in64 (i73 + 1)) <| k_law11_Town_rules_l5 (i73 + 1) i74 i75 i76 i77 i78 i79 l80 l81 l82 l83 l84 l85 l86 l87 (l88 ++ ([((bitK .u8 .or x89.1 (IntKind.u8.wrap (x89.1 * (shK .u8 4 : Int)))), (Int.tmod x89.2.1 100), ((60 : Int) + ((2 : Int) * x89.2.2.1)), ((40 : Int) + x89.2.2.2))] : List (Int × Int × Int × Int)))) (chk (room 32 (l88.length + ([(255, 100, 400, 200)] : List (Int × Int × Int × Int)).length)) <| chk (in64 (i73 + 1)) <| k_law11_Town_rules_l5 (i73 + 1) i74 i75 i76 i77 i78 i79 l80 l81 l82 l83 l84 l85 l86 l87 (l88 ++ ([(255, 100, 400, 200)] : List (Int × Int × Int × Int))))
theorem ok_law11_Town_rules_j6 {n : Nat} {w0 : World} {R0 : Nat → Prop} {env0 : Env} {r : (List (Int × Int × Int × Int × Int)) × (List ((List Int))) × (List (Int × Int × Int × Int)) × Int × Int} {i73 : Int} {l82 : List (Int × Int × Int × Int)} {l88 : List (Int × Int × Int × Int)} {i74 : Int} {i75 : Int} {i76 : Int} {i77 : Int} {i78 : Int} {i79 : Int} {l80 : List (Int × Int × Int × Int × Int)} {l81 : List Int} {l83 : List (Int × Int × Int × Int × Int)} {l84 : List ((List Int))} {l85 : List (Int × Int × Int × Int)} {l86 : List (Int × Int × Int × Int × Int)} {l87 : List ((List Int))} {k_law11_Town_rules_l5 : Int → Int → Int → Int → Int → Int → Int → (List (Int × Int × Int × Int × Int)) → (List Int) → (List (Int × Int × Int × Int)) → (List (Int × Int × Int × Int × Int)) → (List ((List Int))) → (List (Int × Int × Int × Int)) → (List (Int × Int × Int × Int × Int)) → (List ((List Int))) → (List (Int × Int × Int × Int)) → Option ((List (Int × Int × Int × Int × Int)) × (List ((List Int))) × (List (Int × Int × Int × Int)) × Int × Int)} (hk_law11_Town_rules_l5 : ∀ (i73 : Int) (i74 : Int) (i75 : Int) (i76 : Int) (i77 : Int) (i78 : Int) (i79 : Int) (l80 : List (Int × Int × Int × Int × Int)) (l81 : List Int) (l82 : List (Int × Int × Int × Int)) (l83 : List (Int × Int × Int × Int × Int)) (l84 : List ((List Int))) (l85 : List (Int × Int × Int × Int)) (l86 : List (Int × Int × Int × Int × Int)) (l87 : List ((List Int))) (l88 : List (Int × Int × Int × Int)), k_law11_Town_rules_l5 i73 i74 i75 i76 i77 i78 i79 l80 l81 l82 l83 l84 l85 l86 l87 l88 = some r → TC Try.prog ⟨w0, fun _ => False, R0⟩ 171 (bodyPost Try.prog Try.f19 (Post ⟨w0, fun _ => False, R0⟩ env0 (.agg [.ref 0, .ref 1, .ref 2, vi r.2.2.2.1, vi r.2.2.2.2]) [.row 0 46 5 (List.map en_api_RoundTower r.1), .row 1 30 1 (List.map en_Lint r.2.1), .row 2 76 4 (List.map en_api_RoundWinder r.2.2.1)])) [.code (sub (bodyOf Try.f19) [1, 1, 1, 1, 1, 0, 1, 0, 0, 0, 0]), .code (sub (bodyOf Try.f19) [1, 1, 1, 1, 1, 0, 1, 0, 0, 0, 1]), .code (sub (bodyOf Try.f19) [1, 1, 1, 1, 1, 0, 1, 0, 0, 1]), .inLoop (sub (bodyOf Try.f19) [1, 1, 1, 1, 1, 0, 1, 0, 0]), .inBlock 6, .code (sub (bodyOf Try.f19) [1, 1, 1, 1, 1, 1])] ([(1, .ptr 3 0), (2, .ptr 4 0), (3, .ptr 5 0), (12, vi i73)]) ([.blk 3 [.ref 0, .ref 1, .ref 2, .val (.int .u8 i74), .val (.int .u8 i75)] 54, .blk 4 [.ref 6, .ref 7, .ref 8, vi i76, vi i77] 26, .blk 5 [.ref 9, .ref 10, .ref 11, vi i78, vi i79] 26, .ro 0 5 (List.map en_5_uint8 l80), .ro 1 1 (List.map en_uint8 l81), .ro 2 4 (List.map en_4_uint8 l82), .row 6 46 5 (List.map en_api_RoundTower l83), .row 7 30 1 (List.map en_Lint l84), .row 8 76 4 (List.map en_api_RoundWinder l85), .row 9 46 5 (List.map en_api_RoundTower l86), .row 10 30 1 (List.map en_Lint l87), .row 11 76 4 (List.map en_api_RoundWinder l88)])) (h : ev_law11_Town_rules_j6 n i73 l82 l88 i74 i75 i76 i77 i78 i79 l80 l81 l83 l84 l85 l86 l87 k_law11_Town_rules_l5 = some r) : TC Try.prog ⟨w0, fun _ => False, R0⟩ 171 (bodyPost Try.prog Try.f19 (Post ⟨w0, fun _ => False, R0⟩ env0 (.agg [.ref 0, .ref 1, .ref 2, vi r.2.2.2.1, vi r.2.2.2.2]) [.row 0 46 5 (List.map en_api_RoundTower r.1), .row 1 30 1 (List.map en_Lint r.2.1), .row 2 76 4 (List.map en_api_RoundWinder r.2.2.1)])) [.code (sub (bodyOf Try.f19) [1, 1, 1, 1, 1, 0, 1, 0, 0, 0, 1, 0]), .code (sub (bodyOf Try.f19) [1, 1, 1, 1, 1, 0, 1, 0, 0, 1]), .inLoop (sub (bodyOf Try.f19) [1, 1, 1, 1, 1, 0, 1, 0, 0]), .inBlock 6, .code (sub (bodyOf Try.f19) [1, 1, 1, 1, 1, 1])] ([(1, .ptr 3 0), (2, .ptr 4 0), (3, .ptr 5 0), (12, vi i73)]) ([.blk 3 [.ref 0, .ref 1, .ref 2, .val (.int .u8 i74), .val (.int .u8 i75)] 54, .blk 4 [.ref 6, .ref 7, .ref 8, vi i76, vi i77] 26, .blk 5 [.ref 9, .ref 10, .ref 11, vi i78, vi i79] 26, .ro 0 5 (List.map en_5_uint8 l80), .ro 1 1 (List.map en_uint8 l81), .ro 2 4 (List.map en_4_uint8 l82), .row 6 46 5 (List.map en_api_RoundTower l83), .row 7 30 1 (List.map en_Lint l84), .row 8 76 4 (List.map en_api_RoundWinder l85), .row 9 46 5 (List.map en_api_RoundTower l86), .row 10 30 1 (List.map en_Lint l87), .row 11 76 4 (List.map en_api_RoundWinder l88)]) := by
  rw [ev_law11_Town_rules_j6] at h
  refine TC.skip ?_
  refine TC.seq ?_
  refine TC.block ?_
  refine TC.seq ?_
  refine TC.region ?_
  refine op0 (sp_build (qs := [(0, .val (.int .u16 255)), (1, vi 100), (2, vi 400), (3, vi 200)]) rfl bt76 rfl rfl rfl rfl) rfl trivial rfl rfl ?_
  refine op0 (sp_alloc 25 rfl Try.zeroValue76 rfl) rfl trivial rfl rfl ?_
  refine stoB 0 (cells' := [.val (.int .u16 255), vi 100, vi 400, vi 200]) rfl rfl trivial rfl rfl rfl rfl vt76 rfl rfl rfl ?_
  refine TL.nil ?_
  refine TC.seq ?_
  refine TC.seq ?_
  refine TC.region ?_
  refine op0 (sp_move rfl rfl) rfl trivial rfl rfl ?_
  refine op1 1 rfl (sp_fieldAddrB rfl isBlk rfl ft54_2 vt52 (by decide)) rfl trivial rfl rfl ?_
  refine op1 1 rfl (sp_loadB rfl isBlk rfl vt52 rfl) rfl trivial rfl rfl ?_
  refine op1 6 rfl (sp_lenM (N := l82.length) (len_map _ _) rfl rfl isRo Try.underlying52) rfl trivial rfl rfl ?_
  refine op0 (sp_lss rfl rfl rfl) rfl trivial rfl rfl ?_
  refine TL.nil ?_
  refine TC.cond (b := (decide (i73 < (l82.length : Int)))) rfl (fun h33 => ?_) (fun h33 => ?_)
  · have h := cond_t h h33
    refine TC.seq ?_
    refine TC.region ?_
    refine op1 1 rfl (sp_fieldAddrB rfl isBlk rfl ft54_2 vt52 (by decide)) rfl trivial rfl rfl ?_
    refine op1 1 rfl (sp_loadB rfl isBlk rfl vt52 rfl) rfl trivial rfl rfl ?_
    refine op0 (sp_move rfl rfl) rfl trivial rfl rfl ?_
    obtain ⟨x89, h34, h35, h⟩ := idx_inv h
    refine op1 6 rfl (sp_indexS rfl rfl rfl isRo sl52 h34 (map_get _ h35)) rfl trivial rfl rfl ?_
    refine op1 6 rfl (sp_loadRA (i := (i73 : Int).toNat) (j := 0) (as_ := [.val (.int .u8 x89.1), .val (.int .u8 x89.2.1), .val (.int .u8 x89.2.2.1), .val (.int .u8 x89.2.2.2)]) (ns := []) rfl rfl isRo vt90 rfl (map_get _ h35) rfl rfl (by decide) (.v (.v (.v (.v (.nil))))) (nodup_of_B rfl)) rfl trivial rfl rfl ?_
    refine op0 (sp_alloc 26 rfl Try.zeroValue90 rfl) rfl trivial rfl rfl ?_
    refine stoB 0 (cells' := [.val (.int .u8 x89.1), .val (.int .u8 x89.2.1), .val (.int .u8 x89.2.2.1), .val (.int .u8 x89.2.2.2)]) rfl rfl trivial rfl rfl rfl rfl vt90 rfl rfl rfl ?_
    refine TL.nil ?_
    refine TC.region ?_
    refine op1 0 rfl (sp_indexA (len := 4) (iv := 0) rfl isBlk rfl rfl Try.underlying90 vt5 (by decide)) rfl trivial rfl rfl ?_
    refine op1 0 rfl (sp_loadB rfl isBlk rfl vt5 rfl) rfl trivial rfl rfl ?_
    refine op1 0 rfl (sp_indexA (len := 4) (iv := 0) rfl isBlk rfl rfl Try.underlying90 vt5 (by decide)) rfl trivial rfl rfl ?_
    refine op1 0 rfl (sp_loadB rfl isBlk rfl vt5 rfl) rfl trivial rfl rfl ?_
    refine op0 (sp_shlW rfl rfl rfl (by decide)) rfl trivial rfl rfl ?_
    refine op0 (sp_bit .or rfl rfl rfl rfl) rfl trivial rfl rfl ?_
    obtain ⟨h36, h⟩ := chk_inv h
    refine op0 (sp_conv rfl Try.underlying5 Try.underlying44 rfl h36) rfl trivial rfl rfl ?_
    refine op1 0 rfl (sp_indexA (len := 4) (iv := 1) rfl isBlk rfl rfl Try.underlying90 vt5 (by decide)) rfl trivial rfl rfl ?_
    refine op1 0 rfl (sp_loadB rfl isBlk rfl vt5 rfl) rfl trivial rfl rfl ?_
    obtain ⟨h37, h⟩ := chk_inv h
    refine op0 (sp_conv rfl Try.underlying5 Try.underlying3 rfl h37) rfl trivial rfl rfl ?_
    refine op0 (sp_rem rfl rfl rfl (by decide)) rfl trivial rfl rfl ?_
    refine op1 0 rfl (sp_indexA (len := 4) (iv := 2) rfl isBlk rfl rfl Try.underlying90 vt5 (by decide)) rfl trivial rfl rfl ?_
    refine op1 0 rfl (sp_loadB rfl isBlk rfl vt5 rfl) rfl trivial rfl rfl ?_
    obtain ⟨h38, h⟩ := chk_inv h
    refine op0 (sp_conv rfl Try.underlying5 Try.underlying3 rfl h38) rfl trivial rfl rfl ?_
    obtain ⟨h39, h⟩ := chk_inv h
    refine op0 (sp_mul rfl rfl rfl h39) rfl trivial rfl rfl ?_
    obtain ⟨h40, h⟩ := chk_inv h
    refine op0 (sp_add rfl rfl rfl h40) rfl trivial rfl rfl ?_
    refine op1 0 rfl (sp_indexA (len := 4) (iv := 3) rfl isBlk rfl rfl Try.underlying90 vt5 (by decide)) rfl trivial rfl rfl ?_
    refine op1 0 rfl (sp_loadB rfl isBlk rfl vt5 rfl) rfl trivial rfl rfl ?_
    obtain ⟨h41, h⟩ := chk_inv h
    refine op0 (sp_conv rfl Try.underlying5 Try.underlying3 rfl h41) rfl trivial rfl rfl ?_
    obtain ⟨h42, h⟩ := chk_inv h
    refine op0 (sp_add rfl rfl rfl h42) rfl trivial rfl rfl ?_
    refine op0 (sp_build (qs := [(0, .val (.int .u16 (bitK .u8 .or x89.1 (IntKind.u8.wrap (x89.1 * (shK .u8 4 : Int)))))), (1, vi (Int.tmod x89.2.1 100)), (2, vi ((60 : Int) + ((2 : Int) * x89.2.2.1))), (3, vi ((40 : Int) + x89.2.2.2))]) rfl bt76 rfl rfl rfl rfl) rfl trivial rfl rfl ?_
    refine stoB 1 (cells' := [.val (.int .u16 (bitK .u8 .or x89.1 (IntKind.u8.wrap (x89.1 * (shK .u8 4 : Int))))), vi (Int.tmod x89.2.1 100), vi ((60 : Int) + ((2 : Int) * x89.2.2.1)), vi ((40 : Int) + x89.2.2.2)]) rfl rfl trivial rfl rfl rfl rfl vt76 rfl rfl rfl ?_
    refine TL.nil ?_
    refine TC.region ?_
    refine op1 4 rfl (sp_fieldAddrB rfl isBlk rfl ft26_2 vt24 (by decide)) rfl trivial rfl rfl ?_
    refine op1 4 rfl (sp_loadB rfl isBlk rfl vt24 rfl) rfl trivial rfl rfl ?_
    refine op1 1 rfl (sp_loadBA rfl isBlk rfl vt76 rfl rfl) rfl trivial rfl rfl ?_
    refine op0 (sp_buildSlice (qs := [.agg [.val (.int .u16 (bitK .u8 .or x89.1 (IntKind.u8.wrap (x89.1 * (shK .u8 4 : Int))))), vi (Int.tmod x89.2.1 100), vi ((60 : Int) + ((2 : Int) * x89.2.2.1)), vi ((40 : Int) + x89.2.2.2)]]) (need := []) (els := List.map en_api_RoundWinder ([((bitK .u8 .or x89.1 (IntKind.u8.wrap (x89.1 * (shK .u8 4 : Int)))), (Int.tmod x89.2.1 100), ((60 : Int) + ((2 : Int) * x89.2.2.1)), ((40 : Int) + x89.2.2.2))] : List (Int × Int × Int × Int))) 27 rfl sl24 (by decide) (by decide) rfl rfl rfl (.v (.v (.v (.v (.nil))))) (map_len fun _ => rfl) rfl rfl rfl) rfl trivial rfl rfl ?_
    obtain ⟨h43, h⟩ := chk_inv h
    refine appM 14 0 (N := l88.length) (N2 := ([((bitK .u8 .or x89.1 (IntKind.u8.wrap (x89.1 * (shK .u8 4 : Int)))), (Int.tmod x89.2.1 100), ((60 : Int) + ((2 : Int) * x89.2.2.1)), ((40 : Int) + x89.2.2.2))] : List (Int × Int × Int × Int)).length) 28 rfl rfl trivial rfl rfl rfl rfl rfl isOwn rfl sl24 (len_map _ _) (len_map _ _) h43 (map_app _ _ _) rfl ?_
    refine op1 6 rfl (sp_fieldAddrB rfl isBlk rfl ft26_2 vt24 (by decide)) rfl trivial rfl rfl ?_
    refine stoB 6 (cells' := [.ref 9, .ref 10, .ref 28, vi i78, vi i79]) rfl rfl trivial rfl rfl rfl rfl vt24 rfl rfl rfl ?_
    refine TL.nil ?_
    refine TC.inBlock ?_
    refine TC.region ?_
    refine op0 (sp_move rfl rfl) rfl trivial rfl rfl ?_
    obtain ⟨h44, h⟩ := chk_inv h
    refine op0 (sp_add rfl rfl rfl h44) rfl trivial rfl rfl ?_
    refine op0 (sp_assign rfl rfl) rfl trivial rfl rfl ?_
    refine TL.nil ?_
    refine TC.inLoop ?_
    refine TC.seq ?_
    refine TC.seq ?_
    refine subJ [(11, 28)] (hk_law11_Town_rules_l5 _ _ _ _ _ _ _ _ _ _ _ _ _ _ _ _ h) ?_ ?_ ?_
    · exact ⟨rfl, rfl, rfl, rfl, trivial⟩
    · exact ⟨mem_at 4 rfl, mem_at 5 rfl, mem_at 6 rfl, mem_at 7 rfl, mem_at 8 rfl, mem_at 9 rfl, mem_at 10 rfl, mem_at 11 rfl, mem_at 12 rfl, mem_at 13 rfl, mem_at 14 rfl, mem_at 0 rfl, trivial⟩
    · rfl
  · have h := cond_f h h33
    refine TC.skip ?_
    refine TC.region ?_
    refine op1 3 rfl (sp_fieldAddrB rfl isBlk rfl ft26_2 vt24 (by decide)) rfl trivial rfl rfl ?_
    refine op1 3 rfl (sp_loadB rfl isBlk rfl vt24 rfl) rfl trivial rfl rfl ?_
    refine op1 0 rfl (sp_loadBA rfl isBlk rfl vt76 rfl rfl) rfl trivial rfl rfl ?_
    refine op0 (sp_buildSlice (qs := [.agg [.val (.int .u16 255), vi 100, vi 400, vi 200]]) (need := []) (els := List.map en_api_RoundWinder ([(255, 100, 400, 200)] : List (Int × Int × Int × Int))) 29 rfl sl24 (by decide) (by decide) rfl rfl rfl (.v (.v (.v (.v (.nil))))) (map_len fun _ => rfl) rfl rfl rfl) rfl trivial rfl rfl ?_
    obtain ⟨h45, h⟩ := chk_inv h
    refine appM 13 0 (N := l88.length) (N2 := ([(255, 100, 400, 200)] : List (Int × Int × Int × Int)).length) 30 rfl rfl trivial rfl rfl rfl rfl rfl isOwn rfl sl24 (len_map _ _) (len_map _ _) h45 (map_app _ _ _) rfl ?_
    refine op1 5 rfl (sp_fieldAddrB rfl isBlk rfl ft26_2 vt24 (by decide)) rfl trivial rfl rfl ?_
    refine stoB 5 (cells' := [.ref 9, .ref 10, .ref 30, vi i78, vi i79]) rfl rfl trivial rfl rfl rfl rfl vt24 rfl rfl rfl ?_
    refine TL.nil ?_
    refine TC.inBlock ?_
    refine TC.region ?_
    refine op0 (sp_move rfl rfl) rfl trivial rfl rfl ?_
    obtain ⟨h46, h⟩ := chk_inv h
    refine op0 (sp_add rfl rfl rfl h46) rfl trivial rfl rfl ?_
    refine op0 (sp_assign rfl rfl) rfl trivial rfl rfl ?_
    refine TL.nil ?_
    refine TC.inLoop ?_
    refine TC.seq ?_
    refine TC.seq ?_
    refine subJ [(11, 30)] (hk_law11_Town_rules_l5 _ _ _ _ _ _ _ _ _ _ _ _ _ _ _ _ h) ?_ ?_ ?_
    · exact ⟨rfl, rfl, rfl, rfl, trivial⟩
    · exact ⟨mem_at 3 rfl, mem_at 4 rfl, mem_at 5 rfl, mem_at 6 rfl, mem_at 7 rfl, mem_at 8 rfl, mem_at 9 rfl, mem_at 10 rfl, mem_at 11 rfl, mem_at 12 rfl, mem_at 13 rfl, mem_at 0 rfl, trivial⟩
    · rfl
def ev_law11_Town_rules_l5 (n : Nat) : Nat → Int → Int → Int → Int → Int → Int → Int → (List (Int × Int × Int × Int × Int)) → (List Int) → (List (Int × Int × Int × Int)) → (List (Int × Int × Int × Int × Int)) → (List ((List Int))) → (List (Int × Int × Int × Int)) → (List (Int × Int × Int × Int × Int)) → (List ((List Int))) → (List (Int × Int × Int × Int)) → Option ((List (Int × Int × Int × Int × Int)) × (List ((List Int))) × (List (Int × Int × Int × Int)) × Int × Int)
  | 0, _, _, _, _, _, _, _, _, _, _, _, _, _, _, _, _ => none
  | m + 1, i73, i74, i75, i76, i77, i78, i79, l80, l81, l82, l83, l84, l85, l86, l87, l88 => cond (i73 == 0) (ev_law11_Town_rules_j6 n i73 l82 l88 i74 i75 i76 i77 i78 i79 l80 l81 l83 l84 l85 l86 l87 (fun i73q i74q i75q i76q i77q i78q i79q l80q l81q l82q l83q l84q l85q l86q l87q l88q => ev_law11_Town_rules_l5 n m i73q i74q i75q i76q i77q i78q i79q l80q l81q l82q l83q l84q l85q l86q l87q l88q)) (cond (decide (i73 < (l82.length : Int))) (cond (decide (i73 < 3)) (ev_law11_Town_rules_j6 n i73 l82 l88 i74 i75 i76 i77 i78 i79 l80 l81 l83 l84 l85 l86 l87 (fun i73q i74q i75q i76q i77q i78q i79q l80q l81q l82q l83q l84q l85q l86q l87q l88q => ev_law11_Town_rules_l5 n m i73q i74q i75q i76q i77q i78q i79q l80q l81q l82q l83q l84q l85q l86q l87q l88q)) (some (l86, l87, l88, i78, i79))) (some (l86, l87, l88, i78, i79)))
theorem ok_law11_Town_rules_l5 {n : Nat} {w0 : World} {R0 : Nat → Prop} {env0 : Env} {r : (List (Int × Int × Int × Int × Int)) × (List ((List Int))) × (List (Int × Int × Int × Int)) × Int × Int} : ∀ (m : Nat) (i73 : Int) (i74 : Int) (i75 : Int) (i76 : Int) (i77 : Int) (i78 : Int) (i79 : Int) (l80 : List (Int × Int × Int × Int × Int)) (l81 : List Int) (l82 : List (Int × Int × Int × Int)) (l83 : List (Int × Int × Int × Int × Int)) (l84 : List ((List Int))) (l85 : List (Int × Int × Int × Int)) (l86 : List (Int × Int × Int × Int × Int)) (l87 : List ((List Int))) (l88 : List (Int × Int × Int × Int)), ev_law11_Town_rules_l5 n m i73 i74 i75 i76 i77 i78 i79 l80 l81 l82 l83 l84 l85 l86 l87 l88 = some r → TC Try.prog ⟨w0, fun _ => False, R0⟩ 171 (bodyPost Try.prog Try.f19 (Post ⟨w0, fun _ => False, R0⟩ env0 (.agg [.ref 0, .ref 1, .ref 2, vi r.2.2.2.1, vi r.2.2.2.2]) [.row 0 46 5 (List.map en_api_RoundTower r.1), .row 1 30 1 (List.map en_Lint r.2.1), .row 2 76 4 (List.map en_api_RoundWinder r.2.2.1)])) [.code (sub (bodyOf Try.f19) [1, 1, 1, 1, 1, 0, 1, 0, 0, 0, 0]), .code (sub (bodyOf Try.f19) [1, 1, 1, 1, 1, 0, 1, 0, 0, 0, 1]), .code (sub (bodyOf Try.f19) [1, 1, 1, 1, 1, 0, 1, 0, 0, 1]), .inLoop (sub (bodyOf Try.f19) [1, 1, 1, 1, 1, 0, 1, 0, 0]), .inBlock 6, .code (sub (bodyOf Try.f19) [1, 1, 1, 1, 1, 1])] ([(1, .ptr 3 0), (2, .ptr 4 0), (3, .ptr 5 0), (12, vi i73)]) ([.blk 3 [.ref 0, .ref 1, .ref 2, .val (.int .u8 i74), .val (.int .u8 i75)] 54, .blk 4 [.ref 6, .ref 7, .ref 8, vi i76, vi i77] 26, .blk 5 [.ref 9, .ref 10, .ref 11, vi i78, vi i79] 26, .ro 0 5 (List.map en_5_uint8 l80), .ro 1 1 (List.map en_uint8 l81), .ro 2 4 (List.map en_4_uint8 l82), .row 6 46 5 (List.map en_api_RoundTower l83), .row 7 30 1 (List.map en_Lint l84), .row 8 76 4 (List.map en_api_RoundWinder l85), .row 9 46 5 (List.map en_api_RoundTower l86), .row 10 30 1 (List.map en_Lint l87), .row 11 76 4 (List.map en_api_RoundWinder l88)]) := by
  intro m
  induction m with
  | zero => intro i73 i74 i75 i76 i77 i78 i79 l80 l81 l82 l83 l84 l85 l86 l87 l88 h; exact none_no h
  | succ m ih =>
    intro i73 i74 i75 i76 i77 i78 i79 l80 l81 l82 l83 l84 l85 l86 l87 l88 h
    rw [ev_law11_Town_rules_l5] at h
    refine TC.region ?_
    refine op0 (sp_move rfl rfl) rfl trivial rfl rfl ?_
    refine op0 (sp_eql rfl rfl rfl) rfl trivial rfl rfl ?_
    refine op0 (sp_move rfl rfl) rfl trivial rfl rfl ?_
    rcases cond_cases h with ⟨h32, h⟩ | ⟨h32, h⟩
    · refine (boolLit 119 rfl h32).2 ?_
      refine opSkip rfl ⟨_, rfl, .inl rfl⟩ rfl ?_
      refine opSkip rfl ⟨_, rfl, .inl rfl⟩ rfl ?_
      refine opSkip rfl ⟨_, rfl, .inl rfl⟩ rfl ?_
      refine opSkip rfl ⟨_, rfl, .inl rfl⟩ rfl ?_
      refine opSkip rfl ⟨_, rfl, .inl rfl⟩ rfl ?_
      refine opSkip rfl ⟨_, rfl, .inl rfl⟩ rfl ?_
      refine opSkip rfl ⟨_, rfl, .inr rfl⟩ rfl ?_
      refine opSkip rfl ⟨_, rfl, .inr rfl⟩ rfl ?_
      refine opSkip rfl ⟨_, rfl, .inl rfl⟩ rfl ?_
      refine op0 (sp_pickT rfl rfl rfl) rfl trivial rfl rfl ?_
      refine TL.nil ?_
      refine TC.condT rfl ?_
      refine subJ [] (ok_law11_Town_rules_j6 ih h) ?_ ?_ ?_
      · exact ⟨rfl, rfl, rfl, rfl, trivial⟩
      · exact ⟨mem_at 0 rfl, mem_at 1 rfl, mem_at 2 rfl, mem_at 3 rfl, mem_at 4 rfl, mem_at 5 rfl, mem_at 6 rfl, mem_at 7 rfl, mem_at 8 rfl, mem_at 9 rfl, mem_at 10 rfl, mem_at 11 rfl, trivial⟩
      · rfl
    · refine (boolLit 119 rfl h32).2 ?_
      refine op0 (sp_move rfl rfl) rfl ⟨_, rfl, rfl⟩ rfl rfl ?_
      refine op1 0 rfl (sp_fieldAddrB rfl isBlk rfl ft54_2 vt52 (by decide)) rfl ⟨_, rfl, rfl⟩ rfl rfl ?_
      refine op1 0 rfl (sp_loadB rfl isBlk rfl vt52 rfl) rfl ⟨_, rfl, rfl⟩ rfl rfl ?_
      refine op1 5 rfl (sp_lenM (N := l82.length) (len_map _ _) rfl rfl isRo Try.underlying52) rfl ⟨_, rfl, rfl⟩ rfl rfl ?_
      refine op0 (sp_lss rfl rfl rfl) rfl ⟨_, rfl, rfl⟩ rfl rfl ?_
      refine op0 (sp_move rfl rfl) rfl ⟨_, rfl, rfl⟩ rfl rfl ?_
      rcases cond_cases h with ⟨h47, h⟩ | ⟨h47, h⟩
      · refine (boolLit 125 rfl h47).2 ?_
        refine op0 (sp_move rfl rfl) rfl ⟨_, rfl, rfl⟩ rfl rfl ?_
        refine op0 (sp_lss rfl rfl rfl) rfl ⟨_, rfl, rfl⟩ rfl rfl ?_
        refine op0 (sp_pickT rfl rfl rfl) rfl ⟨_, rfl, rfl⟩ rfl rfl ?_
        refine op0 (sp_pickF rfl rfl rfl) rfl trivial rfl rfl ?_
        refine TL.nil ?_
        refine TC.cond (b := (decide (i73 < 3))) rfl (fun h48 => ?_) (fun h48 => ?_)
        · have h := cond_t h h48
          refine subJ [] (ok_law11_Town_rules_j6 ih h) ?_ ?_ ?_
          · exact ⟨rfl, rfl, rfl, rfl, trivial⟩
          · exact ⟨mem_at 0 rfl, mem_at 1 rfl, mem_at 2 rfl, mem_at 3 rfl, mem_at 4 rfl, mem_at 5 rfl, mem_at 6 rfl, mem_at 7 rfl, mem_at 8 rfl, mem_at 9 rfl, mem_at 10 rfl, mem_at 11 rfl, trivial⟩
          · rfl
        · have h := cond_f h h48
          refine TC.exit rfl ?_
          refine TC.seq ?_
          refine TC.region ?_
          refine op1 2 rfl (sp_loadBA rfl isBlk rfl vt26 rfl rfl) rfl trivial rfl rfl ?_
          refine stoB 1 (cells' := [.ref 9, .ref 10, .ref 11, vi i78, vi i79]) rfl rfl trivial rfl rfl rfl rfl vt26 rfl rfl rfl ?_
          refine TL.nil ?_
          cases h
          exact retJ [(0, 9), (1, 10), (2, 11)] (.cells rfl (mem_at 1 rfl) isBlk vt26 rfl rfl (.nil)) rfl ⟨mem_at 9 rfl, mem_at 10 rfl, mem_at 11 rfl, trivial⟩ rfl rfl
      · refine (boolLit 125 rfl h47).2 ?_
        refine opSkip rfl ⟨_, rfl, .inl rfl⟩ rfl ?_
        refine opSkip rfl ⟨_, rfl, .inl rfl⟩ rfl ?_
        refine op0 (sp_pickF rfl rfl rfl) rfl ⟨_, rfl, rfl⟩ rfl rfl ?_
        refine op0 (sp_pickF rfl rfl rfl) rfl trivial rfl rfl ?_
        refine TL.nil ?_
        refine TC.condF rfl ?_
        refine TC.exit rfl ?_
        refine TC.seq ?_
        refine TC.region ?_
        refine op1 2 rfl (sp_loadBA rfl isBlk rfl vt26 rfl rfl) rfl trivial rfl rfl ?_
        refine stoB 1 (cells' := [.ref 9, .ref 10, .ref 11, vi i78, vi i79]) rfl rfl trivial rfl rfl rfl rfl vt26 rfl rfl rfl ?_
        refine TL.nil ?_
        cases h
        exact retJ [(0, 9), (1, 10), (2, 11)] (.cells rfl (mem_at 1 rfl) isBlk vt26 rfl rfl (.nil)) rfl ⟨mem_at 9 rfl, mem_at 10 rfl, mem_at 11 rfl, trivial⟩ rfl rfl
def ev_law11_Town_rules_l3 (n : Nat) (l36 : List (Int × Int × Int × Int × Int)) : Nat → Int → Int → Int → Int → Int → Int → Int → (List (Int × Int × Int × Int × Int)) → (List Int) → (List (Int × Int × Int × Int)) → (List (Int × Int × Int × Int × Int)) → (List ((List Int))) → (List (Int × Int × Int × Int)) → (List (Int × Int × Int × Int × Int)) → (List ((List Int))) → (List (Int × Int × Int × Int)) → Option ((List (Int × Int × Int × Int × Int)) × (List ((List Int))) × (List (Int × Int × Int × Int)) × Int × Int)
  | 0, _, _, _, _, _, _, _, _, _, _, _, _, _, _, _, _ => none
  | m + 1, i39, i40, i41, i42, i43, i44, i45, l46, l47, l48, l49, l50, l51, l52, l53, l54 => cond (decide (i39 ≤ (l36.length : Int))) (ev_law11_Town_rules_l4 n l36 i39 (fun i39q i40q i41q i42q i43q i44q i45q l46q l47q l48q l49q l50q l51q l52q l53q l54q => ev_law11_Town_rules_l3 n l36 m i39q i40q i41q i42q i43q i44q i45q l46q l47q l48q l49q l50q l51q l52q l53q l54q) n 0 i40 i41 i42 i43 i44 i45 ([] : List Int) l46 l47 l48 l49 l50 l51 l52 l53 l54) (ev_law11_Town_rules_l5 n n 0 i40 i41 i42 i43 i44 i45 l46 l47 l48 l49 l50 l51 l52 l53 l54)
theorem ok_law11_Town_rules_l3 {n : Nat} {w0 : World} {R0 : Nat → Prop} {env0 : Env} {r : (List (Int × Int × Int × Int × Int)) × (List ((List Int))) × (List (Int × Int × Int × Int)) × Int × Int} {l36 : List (Int × Int × Int × Int × Int)} : ∀ (m : Nat) (i39 : Int) (i40 : Int) (i41 : Int) (i42 : Int) (i43 : Int) (i44 : Int) (i45 : Int) (l46 : List (Int × Int × Int × Int × Int)) (l47 : List Int) (l48 : List (Int × Int × Int × Int)) (l49 : List (Int × Int × Int × Int × Int)) (l50 : List ((List Int))) (l51 : List (Int × Int × Int × Int)) (l52 : List (Int × Int × Int × Int × Int)) (l53 : List ((List Int))) (l54 : List (Int × Int × Int × Int)), ev_law11_Town_rules_l3 n l36 m i39 i40 i41 i42 i43 i44 i45 l46 l47 l48 l49 l50 l51 l52 l53 l54 = some r → TC Try.prog ⟨w0, fun _ => False, R0⟩ 171 (bodyPost Try.prog Try.f19 (Post ⟨w0, fun _ => False, R0⟩ env0 (.agg [.ref 0, .ref 1, .ref 2, vi r.2.2.2.1, vi r.2.2.2.2]) [.row 0 46 5 (List.map en_api_RoundTower r.1), .row 1 30 1 (List.map en_Lint r.2.1), .row 2 76 4 (List.map en_api_RoundWinder r.2.2.1)])) [.code (sub (bodyOf Try.f19) [1, 1, 1, 1, 0, 1, 0, 0, 0, 0]), .code (sub (bodyOf Try.f19) [1, 1, 1, 1, 0, 1, 0, 0, 0, 1]), .code (sub (bodyOf Try.f19) [1, 1, 1, 1, 0, 1, 0, 0, 1]), .inLoop (sub (bodyOf Try.f19) [1, 1, 1, 1, 0, 1, 0, 0]), .inBlock 2, .code (sub (bodyOf Try.f19) [1, 1, 1, 1, 1])] ([(1, .ptr 3 0), (2, .ptr 4 0), (3, .ptr 5 0), (7, vi (l36.length : Int)), (8, vi i39)]) ([.blk 3 [.ref 0, .ref 1, .ref 2, .val (.int .u8 i40), .val (.int .u8 i41)] 54, .blk 4 [.ref 6, .ref 7, .ref 8, vi i42, vi i43] 26, .blk 5 [.ref 9, .ref 10, .ref 11, vi i44, vi i45] 26, .ro 0 5 (List.map en_5_uint8 l46), .ro 1 1 (List.map en_uint8 l47), .ro 2 4 (List.map en_4_uint8 l48), .row 6 46 5 (List.map en_api_RoundTower l49), .row 7 30 1 (List.map en_Lint l50), .row 8 76 4 (List.map en_api_RoundWinder l51), .row 9 46 5 (List.map en_api_RoundTower l52), .row 10 30 1 (List.map en_Lint l53), .row 11 76 4 (List.map en_api_RoundWinder l54)]) := by
  intro m
  induction m with
  | zero => intro i39 i40 i41 i42 i43 i44 i45 l46 l47 l48 l49 l50 l51 l52 l53 l54 h; exact none_no h
  | succ m ih =>
    intro i39 i40 i41 i42 i43 i44 i45 l46 l47 l48 l49 l50 l51 l52 l53 l54 h
    rw [ev_law11_Town_rules_l3] at h
    refine TC.region ?_
    refine op0 (sp_move rfl rfl) rfl trivial rfl rfl ?_
    refine op0 (sp_move rfl rfl) rfl trivial rfl rfl ?_
    refine op0 (sp_leq rfl rfl rfl) rfl trivial rfl rfl ?_
    refine TL.nil ?_
    refine TC.cond (b := (decide (i39 ≤ (l36.length : Int)))) rfl (fun h20 => ?_) (fun h20 => ?_)
    · have h := cond_t h h20
      refine TC.skip ?_
      refine TC.seq ?_
      refine TC.block ?_
      refine TC.seq ?_
      refine TC.region ?_
      refine op0 (sp_emptyM 18 (List.map en_int []) rfl rfl sl30) rfl trivial rfl rfl ?_
      refine op0 (sp_assign rfl rfl) rfl trivial rfl rfl ?_
      refine TL.nil ?_
      refine TC.seq ?_
      refine TC.seq ?_
      refine TC.region ?_
      refine op0 (sp_assign rfl rfl) rfl trivial rfl rfl ?_
      refine TL.nil ?_
      refine TC.block ?_
      refine TC.loop ?_
      refine TC.seq ?_
      refine TC.seq ?_
      refine subJ [] (ok_law11_Town_rules_l4 ih _ _ _ _ _ _ _ _ _ _ _ _ _ _ _ _ _ _ h) ?_ ?_ ?_
      · exact ⟨rfl, rfl, rfl, rfl, rfl, rfl, rfl, trivial⟩
      · exact ⟨mem_at 1 rfl, mem_at 2 rfl, mem_at 3 rfl, mem_at 0 rfl, mem_at 4 rfl, mem_at 5 rfl, mem_at 6 rfl, mem_at 7 rfl, mem_at 8 rfl, mem_at 9 rfl, mem_at 10 rfl, mem_at 11 rfl, mem_at 12 rfl, trivial⟩
      · rfl
    · have h := cond_f h h20
      refine TC.exit rfl ?_
      refine TC.seq ?_
      refine TC.seq ?_
      refine TC.region ?_
      refine op0 (sp_assign rfl rfl) rfl trivial rfl rfl ?_
      refine TL.nil ?_
      refine TC.block ?_
      refine TC.loop ?_
      refine TC.seq ?_
      refine TC.seq ?_
      refine subJ [] (ok_law11_Town_rules_l5 _ _ _ _ _ _ _ _ _ _ _ _ _ _ _ _ _ h) ?_ ?_ ?_
      · exact ⟨rfl, rfl, rfl, rfl, trivial⟩
      · exact ⟨mem_at 0 rfl, mem_at 1 rfl, mem_at 2 rfl, mem_at 3 rfl, mem_at 4 rfl, mem_at 5 rfl, mem_at 6 rfl, mem_at 7 rfl, mem_at 8 rfl, mem_at 9 rfl, mem_at 10 rfl, mem_at 11 rfl, trivial⟩
      · rfl
def ev_law11_Town_rules_j2 (n : Nat) (i24 : Int) (i25 : Int) (i26 : Int) (i27 : Int) (i28 : Int) (i29 : Int) (l30 : List (Int × Int × Int × Int × Int)) (l31 : List Int) (l32 : List (Int × Int × Int × Int)) (l33 : List (Int × Int × Int × Int × Int)) (l34 : List ((List Int))) (l35 : List (Int × Int × Int × Int)) (l36 : List (Int × Int × Int × Int × Int)) (l37 : List ((List Int))) (l38 : List (Int × Int × Int × Int)) : Option ((List (Int × Int × Int × Int × Int)) × (List ((List Int))) × (List (Int × Int × Int × Int)) × Int × Int) :=
  ev_law11_Town_rules_l3 n l36 n 0 i24 i25 i26 i27 i28 i29 l30 l31 l32 l33 l34 l35 l36 l37 l38
theorem ok_law11_Town_rules_j2 {n : Nat} {w0 : World} {R0 : Nat → Prop} {env0 : Env} {r : (List (Int × Int × Int × Int × Int)) × (List ((List Int))) × (List (Int × Int × Int × Int)) × Int × Int} {i24 : Int} {i25 : Int} {i26 : Int} {i27 : Int} {i28 : Int} {i29 : Int} {l30 : List (Int × Int × Int × Int × Int)} {l31 : List Int} {l32 : List (Int × Int × Int × Int)} {l33 : List (Int × Int × Int × Int × Int)} {l34 : List ((List Int))} {l35 : List (Int × Int × Int × Int)} {l36 : List (Int × Int × Int × Int × Int)} {l37 : List ((List Int))} {l38 : List (Int × Int × Int × Int)} (h : ev_law11_Town_rules_j2 n i24 i25 i26 i27 i28 i29 l30 l31 l32 l33 l34 l35 l36 l37 l38 = some r) : TC Try.prog ⟨w0, fun _ => False, R0⟩ 171 (bodyPost Try.prog Try.f19 (Post ⟨w0, fun _ => False, R0⟩ env0 (.agg [.ref 0, .ref 1, .ref 2, vi r.2.2.2.1, vi r.2.2.2.2]) [.row 0 46 5 (List.map en_api_RoundTower r.1), .row 1 30 1 (List.map en_Lint r.2.1), .row 2 76 4 (List.map en_api_RoundWinder r.2.2.1)])) [.code (sub (bodyOf Try.f19) [1, 1, 1, 0]), .code (sub (bodyOf Try.f19) [1, 1, 1, 1])] ([(1, .ptr 3 0), (2, .ptr 4 0), (3, .ptr 5 0)]) ([.blk 3 [.ref 0, .ref 1, .ref 2, .val (.int .u8 i24), .val (.int .u8 i25)] 54, .blk 4 [.ref 6, .ref 7, .ref 8, vi i26, vi i27] 26, .blk 5 [.ref 9, .ref 10, .ref 11, vi i28, vi i29] 26, .ro 0 5 (List.map en_5_uint8 l30), .ro 1 1 (List.map en_uint8 l31), .ro 2 4 (List.map en_4_uint8 l32), .row 6 46 5 (List.map en_api_RoundTower l33), .row 7 30 1 (List.map en_Lint l34), .row 8 76 4 (List.map en_api_RoundWinder l35), .row 9 46 5 (List.map en_api_RoundTower l36), .row 10 30 1 (List.map en_Lint l37), .row 11 76 4 (List.map en_api_RoundWinder l38)]) := by
  rw [ev_law11_Town_rules_j2] at h
  refine TC.region ?_
  refine op1 2 rfl (sp_fieldAddrB rfl isBlk rfl ft26_0 vt22 (by decide)) rfl trivial rfl rfl ?_
  refine op1 2 rfl (sp_loadB rfl isBlk rfl vt22 rfl) rfl trivial rfl rfl ?_
  refine op1 9 rfl (sp_lenM (N := l36.length) (len_map _ _) rfl rfl isOwn Try.underlying22) rfl trivial rfl rfl ?_
  refine op0 (sp_assign rfl rfl) rfl trivial rfl rfl ?_
  refine TL.nil ?_
  refine TC.seq ?_
  refine TC.seq ?_
  refine TC.region ?_
  refine op0 (sp_assign rfl rfl) rfl trivial rfl rfl ?_
  refine TL.nil ?_
  refine TC.block ?_
  refine TC.loop ?_
  refine TC.seq ?_
  refine TC.seq ?_
  refine subJ [] (ok_law11_Town_rules_l3 _ _ _ _ _ _ _ _ _ _ _ _ _ _ _ _ _ h) ?_ ?_ ?_
  · exact ⟨rfl, rfl, rfl, rfl, rfl, trivial⟩
  · exact ⟨mem_at 0 rfl, mem_at 1 rfl, mem_at 2 rfl, mem_at 3 rfl, mem_at 4 rfl, mem_at 5 rfl, mem_at 6 rfl, mem_at 7 rfl, mem_at 8 rfl, mem_at 9 rfl, mem_at 10 rfl, mem_at 11 rfl, trivial⟩
  · rfl
def ev_law11_Town_rules_l0 (n : Nat) : Nat → Int → Int → Int → (List (Int × Int × Int × Int × Int)) → (List ((List Int))) → (List (Int × Int × Int × Int)) → Int → Int → (List (Int × Int × Int × Int × Int)) → (List ((List Int))) → (List (Int × Int × Int × Int)) → Int → Int → (List (Int × Int × Int × Int × Int)) → (List Int) → (List (Int × Int × Int × Int)) → Option ((List (Int × Int × Int × Int × Int)) × (List ((List Int))) × (List (Int × Int × Int × Int)) × Int × Int)
  | 0, _, _, _, _, _, _, _, _, _, _, _, _, _, _, _, _ => none
  | m + 1, i6, i7, i9, l10, l11, l12, i13, i14, l15, l16, l17, i18, i19, l20, l21, l22 => cond (i6 == 0) (ev_law11_Town_rules_j1 n i6 l20 l15 i7 i9 l10 l11 l12 i13 i14 l16 l17 i18 i19 l21 l22 (fun i6q i7q i9q l10q l11q l12q i13q i14q l15q l16q l17q i18q i19q l20q l21q l22q => ev_law11_Town_rules_l0 n m i6q i7q i9q l10q l11q l12q i13q i14q l15q l16q l17q i18q i19q l20q l21q l22q)) (cond (decide (i6 < (l20.length : Int))) (cond (decide (i6 < 5)) (ev_law11_Town_rules_j1 n i6 l20 l15 i7 i9 l10 l11 l12 i13 i14 l16 l17 i18 i19 l21 l22 (fun i6q i7q i9q l10q l11q l12q i13q i14q l15q l16q l17q i18q i19q l20q l21q l22q => ev_law11_Town_rules_l0 n m i6q i7q i9q l10q l11q l12q i13q i14q l15q l16q l17q i18q i19q l20q l21q l22q)) (ev_law11_Town_rules_j2 n i7 i9 i13 i14 i18 i19 l20 l21 l22 l10 l11 l12 l15 l16 l17)) (ev_law11_Town_rules_j2 n i7 i9 i13 i14 i18 i19 l20 l21 l22 l10 l11 l12 l15 l16 l17))
theorem ok_law11_Town_rules_l0 {n : Nat} {w0 : World} {R0 : Nat → Prop} {env0 : Env} {r : (List (Int × Int × Int × Int × Int)) × (List ((List Int))) × (List (Int × Int × Int × Int)) × Int × Int} : ∀ (m : Nat) (i6 : Int) (i7 : Int) (i9 : Int) (l10 : List (Int × Int × Int × Int × Int)) (l11 : List ((List Int))) (l12 : List (Int × Int × Int × Int)) (i13 : Int) (i14 : Int) (l15 : List (Int × Int × Int × Int × Int)) (l16 : List ((List Int))) (l17 : List (Int × Int × Int × Int)) (i18 : Int) (i19 : Int) (l20 : List (Int × Int × Int × Int × Int)) (l21 : List Int) (l22 : List (Int × Int × Int × Int)), ev_law11_Town_rules_l0 n m i6 i7 i9 l10 l11 l12 i13 i14 l15 l16 l17 i18 i19 l20 l21 l22 = some r → TC Try.prog ⟨w0, fun _ => False, R0⟩ 171 (bodyPost Try.prog Try.f19 (Post ⟨w0, fun _ => False, R0⟩ env0 (.agg [.ref 0, .ref 1, .ref 2, vi r.2.2.2.1, vi r.2.2.2.2]) [.row 0 46 5 (List.map en_api_RoundTower r.1), .row 1 30 1 (List.map en_Lint r.2.1), .row 2 76 4 (List.map en_api_RoundWinder r.2.2.1)])) [.code (sub (bodyOf Try.f19) [1, 1, 0, 1, 0, 0, 0, 0]), .code (sub (bodyOf Try.f19) [1, 1, 0, 1, 0, 0, 0, 1]), .code (sub (bodyOf Try.f19) [1, 1, 0, 1, 0, 0, 1]), .inLoop (sub (bodyOf Try.f19) [1, 1, 0, 1, 0, 0]), .inBlock 0, .code (sub (bodyOf Try.f19) [1, 1, 1])] ([(1, .ptr 3 0), (2, .ptr 4 0), (3, .ptr 5 0), (4, vi i6)]) ([.blk 3 [.ref 0, .ref 1, .ref 2, .val (.int .u8 i7), .val (.int .u8 i9)] 54, .row 6 46 5 (List.map en_api_RoundTower l10), .row 7 30 1 (List.map en_Lint l11), .row 8 76 4 (List.map en_api_RoundWinder l12), .blk 4 [.ref 6, .ref 7, .ref 8, vi i13, vi i14] 26, .row 9 46 5 (List.map en_api_RoundTower l15), .row 10 30 1 (List.map en_Lint l16), .row 11 76 4 (List.map en_api_RoundWinder l17), .blk 5 [.ref 9, .ref 10, .ref 11, vi i18, vi i19] 26, .ro 0 5 (List.map en_5_uint8 l20), .ro 1 1 (List.map en_uint8 l21), .ro 2 4 (List.map en_4_uint8 l22)]) := by
  intro m
  induction m with
  | zero => intro i6 i7 i9 l10 l11 l12 i13 i14 l15 l16 l17 i18 i19 l20 l21 l22 h; exact none_no h
  | succ m ih =>
    intro i6 i7 i9 l10 l11 l12 i13 i14 l15 l16 l17 i18 i19 l20 l21 l22 h
    rw [ev_law11_Town_rules_l0] at h
    refine TC.region ?_
    refine op0 (sp_move rfl rfl) rfl trivial rfl rfl ?_
    refine op0 (sp_eql rfl rfl rfl) rfl trivial rfl rfl ?_
    refine op0 (sp_move rfl rfl) rfl trivial rfl rfl ?_
    rcases cond_cases h with ⟨h4, h⟩ | ⟨h4, h⟩
    · refine (boolLit 27 rfl h4).2 ?_
      refine opSkip rfl ⟨_, rfl, .inl rfl⟩ rfl ?_
      refine opSkip rfl ⟨_, rfl, .inl rfl⟩ rfl ?_
      refine opSkip rfl ⟨_, rfl, .inl rfl⟩ rfl ?_
      refine opSkip rfl ⟨_, rfl, .inl rfl⟩ rfl ?_
      refine opSkip rfl ⟨_, rfl, .inl rfl⟩ rfl ?_
      refine opSkip rfl ⟨_, rfl, .inl rfl⟩ rfl ?_
      refine opSkip rfl ⟨_, rfl, .inr rfl⟩ rfl ?_
      refine opSkip rfl ⟨_, rfl, .inr rfl⟩ rfl ?_
      refine opSkip rfl ⟨_, rfl, .inl rfl⟩ rfl ?_
      refine op0 (sp_pickT rfl rfl rfl) rfl trivial rfl rfl ?_
      refine TL.nil ?_
      refine TC.condT rfl ?_
      refine subJ [] (ok_law11_Town_rules_j1 ih h) ?_ ?_ ?_
      · exact ⟨rfl, rfl, rfl, rfl, trivial⟩
      · exact ⟨mem_at 0 rfl, mem_at 4 rfl, mem_at 8 rfl, mem_at 9 rfl, mem_at 10 rfl, mem_at 11 rfl, mem_at 1 rfl, mem_at 2 rfl, mem_at 3 rfl, mem_at 5 rfl, mem_at 6 rfl, mem_at 7 rfl, trivial⟩
      · rfl
    · refine (boolLit 27 rfl h4).2 ?_
      refine op0 (sp_move rfl rfl) rfl ⟨_, rfl, rfl⟩ rfl rfl ?_
      refine op1 0 rfl (sp_fieldAddrB rfl isBlk rfl ft54_0 vt50 (by decide)) rfl ⟨_, rfl, rfl⟩ rfl rfl ?_
      refine op1 0 rfl (sp_loadB rfl isBlk rfl vt50 rfl) rfl ⟨_, rfl, rfl⟩ rfl rfl ?_
      refine op1 9 rfl (sp_lenM (N := l20.length) (len_map _ _) rfl rfl isRo Try.underlying50) rfl ⟨_, rfl, rfl⟩ rfl rfl ?_
      refine op0 (sp_lss rfl rfl rfl) rfl ⟨_, rfl, rfl⟩ rfl rfl ?_
      refine op0 (sp_move rfl rfl) rfl ⟨_, rfl, rfl⟩ rfl rfl ?_
      rcases cond_cases h with ⟨h18, h⟩ | ⟨h18, h⟩
      · refine (boolLit 33 rfl h18).2 ?_
        refine op0 (sp_move rfl rfl) rfl ⟨_, rfl, rfl⟩ rfl rfl ?_
        refine op0 (sp_lss rfl rfl rfl) rfl ⟨_, rfl, rfl⟩ rfl rfl ?_
        refine op0 (sp_pickT rfl rfl rfl) rfl ⟨_, rfl, rfl⟩ rfl rfl ?_
        refine op0 (sp_pickF rfl rfl rfl) rfl trivial rfl rfl ?_
        refine TL.nil ?_
        refine TC.cond (b := (decide (i6 < 5))) rfl (fun h19 => ?_) (fun h19 => ?_)
        · have h := cond_t h h19
          refine subJ [] (ok_law11_Town_rules_j1 ih h) ?_ ?_ ?_
          · exact ⟨rfl, rfl, rfl, rfl, trivial⟩
          · exact ⟨mem_at 0 rfl, mem_at 4 rfl, mem_at 8 rfl, mem_at 9 rfl, mem_at 10 rfl, mem_at 11 rfl, mem_at 1 rfl, mem_at 2 rfl, mem_at 3 rfl, mem_at 5 rfl, mem_at 6 rfl, mem_at 7 rfl, trivial⟩
          · rfl
        · have h := cond_f h h19
          refine TC.exit rfl ?_
          refine TC.seq ?_
          refine subJ [] (ok_law11_Town_rules_j2 h) ?_ ?_ ?_
          · exact ⟨rfl, rfl, rfl, trivial⟩
          · exact ⟨mem_at 0 rfl, mem_at 4 rfl, mem_at 8 rfl, mem_at 9 rfl, mem_at 10 rfl, mem_at 11 rfl, mem_at 1 rfl, mem_at 2 rfl, mem_at 3 rfl, mem_at 5 rfl, mem_at 6 rfl, mem_at 7 rfl, trivial⟩
          · rfl
      · refine (boolLit 33 rfl h18).2 ?_
        refine opSkip rfl ⟨_, rfl, .inl rfl⟩ rfl ?_
        refine opSkip rfl ⟨_, rfl, .inl rfl⟩ rfl ?_
        refine op0 (sp_pickF rfl rfl rfl) rfl ⟨_, rfl, rfl⟩ rfl rfl ?_
        refine op0 (sp_pickF rfl rfl rfl) rfl trivial rfl rfl ?_
        refine TL.nil ?_
        refine TC.condF rfl ?_
        refine TC.exit rfl ?_
        refine TC.seq ?_
        refine subJ [] (ok_law11_Town_rules_j2 h) ?_ ?_ ?_
        · exact ⟨rfl, rfl, rfl, trivial⟩
        · exact ⟨mem_at 0 rfl, mem_at 4 rfl, mem_at 8 rfl, mem_at 9 rfl, mem_at 10 rfl, mem_at 11 rfl, mem_at 1 rfl, mem_at 2 rfl, mem_at 3 rfl, mem_at 5 rfl, mem_at 6 rfl, mem_at 7 rfl, trivial⟩
        · rfl
def ev_law11_Town_rules (n : Nat) (x1 : List (Int × Int × Int × Int × Int)) (x2 : List Int) (x3 : List (Int × Int × Int × Int)) (x4 : Int) (x5 : Int) : Option ((List (Int × Int × Int × Int × Int)) × (List ((List Int))) × (List (Int × Int × Int × Int)) × Int × Int) :=
  chk (in64 x4) <| chk (in64 ((1 : Int) + (Int.tmod x4 40))) <| chk (in64 x5) <| ev_law11_Town_rules_l0 n n 0 x4 x5 ([] : List (Int × Int × Int × Int × Int)) ([] : List ((List Int))) ([] : List (Int × Int × Int × Int)) 0 0 ([] : List (Int × Int × Int × Int × Int)) ([] : List ((List Int))) ([] : List (Int × Int × Int × Int)) ((1 : Int) + (Int.tmod x4 40)) (Int.tmod x5 20) x1 x2 x3
theorem fc_law11_Town_rules {n : Nat} {x1 : List (Int × Int × Int × Int × Int)} {x2 : List Int} {x3 : List (Int × Int × Int × Int)} {x4 : Int} {x5 : Int} {r : (List (Int × Int × Int × Int × Int)) × (List ((List Int))) × (List (Int × Int × Int × Int)) × Int × Int} (h : ev_law11_Town_rules n x1 x2 x3 x4 x5 = some r) : FC Try.prog 19 [.agg [.ref 0, .ref 1, .ref 2, .val (.int .u8 x4), .val (.int .u8 x5)]] [.ro 0 5 (List.map en_5_uint8 x1), .ro 1 1 (List.map en_uint8 x2), .ro 2 4 (List.map en_4_uint8 x3)] (.agg [.ref 0, .ref 1, .ref 2, vi r.2.2.2.1, vi r.2.2.2.2]) [.row 0 46 5 (List.map en_api_RoundTower r.1), .row 1 30 1 (List.map en_Lint r.2.1), .row 2 76 4 (List.map en_api_RoundWinder r.2.2.1)] := by
  refine introJ (nz := 171) Try.func19 rfl rfl rfl (fun w0 R0 env0 => ?_)
  rw [ev_law11_Town_rules] at h
  refine TC.seq ?_
  refine TC.region ?_
  refine op0 (sp_box 3 rfl rfl rfl rfl rfl) rfl trivial rfl rfl ?_
  refine op0 (sp_alloc 4 rfl Try.zeroValue26 rfl) rfl trivial rfl rfl ?_
  refine TL.nil ?_
  refine TC.seq ?_
  refine TC.region ?_
  refine op1 1 rfl (sp_fieldAddrB rfl isBlk rfl ft54_3 vt5 (by decide)) rfl trivial rfl rfl ?_
  refine op1 1 rfl (sp_loadB rfl isBlk rfl vt5 rfl) rfl trivial rfl rfl ?_
  obtain ⟨h1, h⟩ := chk_inv h
  refine op0 (sp_conv rfl Try.underlying5 Try.underlying3 rfl h1) rfl trivial rfl rfl ?_
  refine op0 (sp_rem rfl rfl rfl (by decide)) rfl trivial rfl rfl ?_
  obtain ⟨h2, h⟩ := chk_inv h
  refine op0 (sp_add rfl rfl rfl h2) rfl trivial rfl rfl ?_
  refine op1 1 rfl (sp_fieldAddrB rfl isBlk rfl ft54_4 vt5 (by decide)) rfl trivial rfl rfl ?_
  refine op1 1 rfl (sp_loadB rfl isBlk rfl vt5 rfl) rfl trivial rfl rfl ?_
  obtain ⟨h3, h⟩ := chk_inv h
  refine op0 (sp_conv rfl Try.underlying5 Try.underlying3 rfl h3) rfl trivial rfl rfl ?_
  refine op0 (sp_rem rfl rfl rfl (by decide)) rfl trivial rfl rfl ?_
  refine op0 (sp_build (qs := [(3, vi ((1 : Int) + (Int.tmod x4 40))), (4, vi (Int.tmod x5 20))]) rfl bt26 rfl rfl rfl rfl) rfl trivial rfl rfl ?_
  refine op0 (sp_alloc 5 rfl Try.zeroValue26 rfl) rfl trivial rfl rfl ?_
  refine stoB 0 (cells' := [.val (.slice none 0 0), .val (.slice none 0 0), .val (.slice none 0 0), vi ((1 : Int) + (Int.tmod x4 40)), vi (Int.tmod x5 20)]) rfl rfl trivial rfl rfl rfl rfl vt26 rfl rfl rfl ?_
  refine TL.nil ?_
  refine TC.seq ?_
  refine TC.seq ?_
  refine TC.region ?_
  refine op0 (sp_assign rfl rfl) rfl trivial rfl rfl ?_
  refine TL.nil ?_
  refine TC.block ?_
  refine TC.loop ?_
  refine TC.seq ?_
  refine TC.seq ?_
  refine nilCellC 1 31 46 5 4 (List.map en_api_RoundTower []) [.ref 31, .val (.slice none 0 0), .val (.slice none 0 0), vi 0, vi 0] rfl rfl rfl ?_
  refine nilCellC 2 32 30 1 4 (List.map en_Lint []) [.ref 31, .ref 32, .val (.slice none 0 0), vi 0, vi 0] rfl rfl rfl ?_
  refine nilCellC 3 33 76 4 4 (List.map en_api_RoundWinder []) [.ref 31, .ref 32, .ref 33, vi 0, vi 0] rfl rfl rfl ?_
  refine nilCellC 3 34 46 5 5 (List.map en_api_RoundTower []) [.ref 34, .val (.slice none 0 0), .val (.slice none 0 0), vi ((1 : Int) + (Int.tmod x4 40)), vi (Int.tmod x5 20)] rfl rfl rfl ?_
  refine nilCellC 4 35 30 1 5 (List.map en_Lint []) [.ref 34, .ref 35, .val (.slice none 0 0), vi ((1 : Int) + (Int.tmod x4 40)), vi (Int.tmod x5 20)] rfl rfl rfl ?_
  refine nilCellC 5 36 76 4 5 (List.map en_api_RoundWinder []) [.ref 34, .ref 35, .ref 36, vi ((1 : Int) + (Int.tmod x4 40)), vi (Int.tmod x5 20)] rfl rfl rfl ?_
  refine subJ [(6, 31), (7, 32), (8, 33), (9, 34), (10, 35), (11, 36)] (ok_law11_Town_rules_l0 _ _ _ _ _ _ _ _ _ _ _ _ _ _ _ _ _ h) ?_ ?_ ?_
  · exact ⟨rfl, rfl, rfl, rfl, trivial⟩
  · exact ⟨mem_at 8 rfl, mem_at 5 rfl, mem_at 4 rfl, mem_at 3 rfl, mem_at 7 rfl, mem_at 2 rfl, mem_at 1 rfl, mem_at 0 rfl, mem_at 6 rfl, mem_at 9 rfl, mem_at 10 rfl, mem_at 11 rfl, trivial⟩
  · rfl
def ev_law11_some_j1 (n : Nat) (l10 : List Int) (i9 : Int) (l15 : List (Int × Int × Int × Int × Int)) (l14 : List Bool) (l13 : List Int) (i11 : Int) (i12 : Int) (l16 : List ((List Int))) (l17 : List (Int × Int × Int × Int)) (k_law11_some_l0 : Int → (List Int) → Int → Int → (List Int) → (List Bool) → (List (Int × Int × Int × Int × Int)) → (List ((List Int))) → (List (Int × Int × Int × Int)) → Option ((List Int))) : Option ((List Int)) :=
  idx l10 i9 fun x18 => chk (in64 x18) <| chk ((l15.length : Int) != 0) <| chk (decide (0 ≤ (Int.tmod x18 (l15.length : Int))) && decide ((Int.tmod x18 (l15.length : Int)) < 8)) <| idx l14 (Int.tmod x18 (l15.length : Int)) fun x19 => cond (!x19) (chk (room 8 (l13.length + ([(Int.tmod x18 (l15.length : Int))] : List Int).length)) <| chk (decide (0 ≤ (Int.tmod x18 (l15.length : Int))) && decide ((Int.tmod x18 (l15.length : Int)) < 8)) <| idx l14 (Int.tmod x18 (l15.length : Int)) fun x20 => chk (in64 (i9 + 1)) <| k_law11_some_l0 (i9 + 1) l10 i11 i12 (l13 ++ ([(Int.tmod x18 (l15.length : Int))] : List Int)) (List.set l14 (((Int.tmod x18 (l15.length : Int)) : Int).toNat) true) l15 l16 l17) (chk (in64 (i9 + 1)) <| k_law11_some_l0 (i9 + 1) l10 i11 i12 l13 l14 l15 l16 l17)
theorem ok_law11_some_j1 {n : Nat} {w0 : World} {R0 : Nat → Prop} {env0 : Env} {r : (List Int)} {most7 : Int} {l10 : List Int} {i9 : Int} {l15 : List (Int × Int × Int × Int × Int)} {l14 : List Bool} {l13 : List Int} {i11 : Int} {i12 : Int} {l16 : List ((List Int))} {l17 : List (Int × Int × Int × Int)} {k_law11_some_l0 : Int → (List Int) → Int → Int → (List Int) → (List Bool) → (List (Int × Int × Int × Int × Int)) → (List ((List Int))) → (List (Int × Int × Int × Int)) → Option ((List Int))} (hk_law11_some_l0 : ∀ (i9 : Int) (l10 : List Int) (i11 : Int) (i12 : Int) (l13 : List Int) (l14 : List Bool) (l15 : List (Int × Int × Int × Int × Int)) (l16 : List ((List Int))) (l17 : List (Int × Int × Int × Int)), k_law11_some_l0 i9 l10 i11 i12 l13 l14 l15 l16 l17 = some r → TC Try.prog ⟨w0, fun _ => False, R0⟩ 45 (bodyPost Try.prog Try.f20 (Post ⟨w0, fun _ => False, R0⟩ env0 (.ref 0) [.row 0 3 1 (List.map en_int r)])) [.code (sub (bodyOf Try.f20) [1, 1, 0, 1, 0, 0, 0, 0]), .code (sub (bodyOf Try.f20) [1, 1, 0, 1, 0, 0, 0, 1]), .code (sub (bodyOf Try.f20) [1, 1, 0, 1, 0, 0, 1]), .inLoop (sub (bodyOf Try.f20) [1, 1, 0, 1, 0, 0]), .inBlock 0, .code (sub (bodyOf Try.f20) [1, 1, 1])] ([(1, .ref 3), (2, vi most7), (3, .ptr 4 0), (7, .ref 5), (8, .ptr 6 0), (9, vi i9)]) ([.ro 3 1 (List.map en_uint8 l10), .blk 4 [.ref 0, .ref 1, .ref 2, vi i11, vi i12] 26, .row 5 3 1 (List.map en_int l13), .inv 6 (arrI 66 vx_bool l14), .ro 0 5 (List.map en_api_RoundTower l15), .ro 1 1 (List.map en_Lint l16), .ro 2 4 (List.map en_api_RoundWinder l17)])) (h : ev_law11_some_j1 n l10 i9 l15 l14 l13 i11 i12 l16 l17 k_law11_some_l0 = some r) : TC Try.prog ⟨w0, fun _ => False, R0⟩ 45 (bodyPost Try.prog Try.f20 (Post ⟨w0, fun _ => False, R0⟩ env0 (.ref 0) [.row 0 3 1 (List.map en_int r)])) [.code (sub (bodyOf Try.f20) [1, 1, 0, 1, 0, 0, 0, 1, 0]), .code (sub (bodyOf Try.f20) [1, 1, 0, 1, 0, 0, 1]), .inLoop (sub (bodyOf Try.f20) [1, 1, 0, 1, 0, 0]), .inBlock 0, .code (sub (bodyOf Try.f20) [1, 1, 1])] ([(1, .ref 3), (2, vi most7), (3, .ptr 4 0), (7, .ref 5), (8, .ptr 6 0), (9, vi i9)]) ([.ro 3 1 (List.map en_uint8 l10), .blk 4 [.ref 0, .ref 1, .ref 2, vi i11, vi i12] 26, .row 5 3 1 (List.map en_int l13), .inv 6 (arrI 66 vx_bool l14), .ro 0 5 (List.map en_api_RoundTower l15), .ro 1 1 (List.map en_Lint l16), .ro 2 4 (List.map en_api_RoundWinder l17)]) := by
  rw [ev_law11_some_j1] at h
  refine TC.skip ?_
  refine TC.seq ?_
  refine TC.block ?_
  refine TC.seq ?_
  obtain ⟨x18, h3, h4, h⟩ := idx_inv h
  obtain ⟨h5, h⟩ := chk_inv h
  refine drawJ 8 [⟨.ref 3, [], [], []⟩, ⟨vi i9, [], [], []⟩, ⟨.cell 3 ((i9 : Int).toNat * 1), [], [.ro 3 1 (List.map en_uint8 l10)], []⟩, ⟨.val (.int .u8 x18), [], [.ro 3 1 (List.map en_uint8 l10)], []⟩, ⟨vi x18, [], [], []⟩, ⟨.ptr 4 0, [], [.blk 4 [.ref 0, .ref 1, .ref 2, vi i11, vi i12] 26], []⟩, ⟨.ref 0, [], [.blk 4 [.ref 0, .ref 1, .ref 2, vi i11, vi i12] 26], []⟩, ⟨vi (l15.length : Int), [], [.ro 0 5 (List.map en_api_RoundTower l15)], []⟩] rfl ?_ rfl ?_ rfl ?_ ?_
  · kernel_rfl
  · kernel_rfl
  · exact DAll.op' (sp_move rfl rfl) trivial rfl (From.ok (ps := []) trivial) (DAll.op' (sp_move rfl rfl) trivial rfl (From.ok (ps := []) trivial) (DAll.op' (sp_indexS rfl rfl rfl isRo sl51 h3 (map_get _ h4)) trivial rfl (From.ok (ps := [(none, 0)]) ⟨⟨rfl, rfl⟩, trivial⟩) (DAll.op' (sp_loadR (i := (i9 : Int).toNat) (j := 0) rfl rfl isRo vt5 rfl (map_get _ h4) rfl (.v (.nil)) (nodup_of_B rfl)) trivial rfl (From.ok (ps := [(none, 0)]) ⟨⟨rfl, rfl⟩, trivial⟩) (DAll.op' (sp_conv rfl Try.underlying5 Try.underlying3 rfl h5) trivial rfl (From.ok (ps := []) trivial) (DAll.op' (sp_fieldAddrB rfl isBlk rfl ft26_0 vt22 (by decide)) trivial rfl (From.ok (ps := [(none, 1)]) ⟨⟨rfl, rfl⟩, trivial⟩) (DAll.op' (sp_loadB rfl isBlk rfl vt22 rfl) trivial rfl (From.ok (ps := [(none, 1)]) ⟨⟨rfl, rfl⟩, trivial⟩) (DAll.op' (sp_lenM (N := l15.length) (len_map _ _) rfl rfl isRo Try.underlying22) trivial rfl (From.ok (ps := [(none, 4)]) ⟨⟨rfl, rfl⟩, trivial⟩) (.nil))))))))
  obtain ⟨h6, h⟩ := chk_inv h
  refine op0 (sp_rem rfl rfl rfl h6) rfl trivial rfl rfl ?_
  refine op0 (sp_assign rfl rfl) rfl trivial rfl rfl ?_
  refine TL.nil ?_
  refine TC.seq ?_
  refine TC.region ?_
  refine op0 (sp_move rfl rfl) rfl trivial rfl rfl ?_
  obtain ⟨h7, h⟩ := chk_inv h
  obtain ⟨x19, h8, h9, h⟩ := idx_inv h
  refine op1 3 rfl (sp_indexX (len := 8) rfl isArrO rfl rfl Try.underlying66 vt4 h7) rfl trivial rfl rfl ?_
  refine op1 3 rfl (sp_loadX (i := ((Int.tmod x18 (l15.length : Int)) : Int).toNat) (j := 0) rfl isArrO rfl vt4 (fun _ => rfl) rfl h9 rfl) rfl trivial rfl rfl ?_
  refine op0 (sp_not rfl rfl) rfl trivial rfl rfl ?_
  refine TL.nil ?_
  refine TC.cond (b := (!x19)) rfl (fun h10 => ?_) (fun h10 => ?_)
  · have h := cond_t h h10
    refine TC.region ?_
    refine op0 (sp_move rfl rfl) rfl trivial rfl rfl ?_
    refine op0 (sp_move rfl rfl) rfl trivial rfl rfl ?_
    refine op0 (sp_move rfl rfl) rfl trivial rfl rfl ?_
    refine op0 (sp_buildSlice (qs := [vi (Int.tmod x18 (l15.length : Int))]) (need := []) (els := List.map en_int ([(Int.tmod x18 (l15.length : Int))] : List Int)) 7 rfl sl30 (by decide) (by decide) rfl rfl rfl (.v (.nil)) (map_len fun _ => rfl) rfl rfl rfl) rfl trivial rfl rfl ?_
    obtain ⟨h11, h⟩ := chk_inv h
    refine appM 3 0 (N := l13.length) (N2 := ([(Int.tmod x18 (l15.length : Int))] : List Int).length) 8 rfl rfl trivial rfl rfl rfl rfl rfl isOwn rfl sl30 (len_map _ _) (len_map _ _) h11 (map_app _ _ _) rfl ?_
    refine op0 (sp_assign rfl rfl) rfl trivial rfl rfl ?_
    obtain ⟨h12, h⟩ := chk_inv h
    obtain ⟨x20, h13, h14, h⟩ := idx_inv h
    refine op1 4 rfl (sp_indexX (len := 8) rfl isArrO rfl rfl Try.underlying66 vt4 h12) rfl trivial rfl rfl ?_
    refine opT (take := [.inv 6 (arrI 66 vx_bool l14)]) (need := []) (V' := [.inv 6 (arrI 66 vx_bool (List.set l14 (((Int.tmod x18 (l15.length : Int)) : Int).toNat) true)), .row 8 3 1 (List.map en_int (l13 ++ ([(Int.tmod x18 (l15.length : Int))] : List Int))), .row 7 3 1 (List.map en_int ([(Int.tmod x18 (l15.length : Int))] : List Int)), .ro 3 1 (List.map en_uint8 l10), .blk 4 [.ref 0, .ref 1, .ref 2, vi i11, vi i12] 26, .ro 0 5 (List.map en_api_RoundTower l15), .ro 1 1 (List.map en_Lint l16), .ro 2 4 (List.map en_api_RoundWinder l17)]) [4] [] (ts_storeX (i := ((Int.tmod x18 (l15.length : Int)) : Int).toNat) (j := 0) (z' := true) (vs := [.bool true]) rfl rfl rfl rfl rfl vt4 rfl (fun _ => rfl) rfl h14 rfl rfl) trivial rfl ⟨rfl, trivial⟩ trivial rfl rfl ?_
    refine TL.nil ?_
    refine TC.inBlock ?_
    refine TC.region ?_
    refine op0 (sp_move rfl rfl) rfl trivial rfl rfl ?_
    obtain ⟨h15, h⟩ := chk_inv h
    refine op0 (sp_add rfl rfl rfl h15) rfl trivial rfl rfl ?_
    refine op0 (sp_assign rfl rfl) rfl trivial rfl rfl ?_
    refine TL.nil ?_
    refine TC.inLoop ?_
    refine TC.seq ?_
    refine TC.seq ?_
    refine subJ [(5, 8)] (hk_law11_some_l0 _ _ _ _ _ _ _ _ _ h) ?_ ?_ ?_
    · exact ⟨rfl, rfl, rfl, rfl, rfl, rfl, trivial⟩
    · exact ⟨mem_at 3 rfl, mem_at 4 rfl, mem_at 1 rfl, mem_at 0 rfl, mem_at 5 rfl, mem_at 6 rfl, mem_at 7 rfl, trivial⟩
    · rfl
  · have h := cond_f h h10
    refine TC.skip ?_
    refine TC.inBlock ?_
    refine TC.region ?_
    refine op0 (sp_move rfl rfl) rfl trivial rfl rfl ?_
    obtain ⟨h16, h⟩ := chk_inv h
    refine op0 (sp_add rfl rfl rfl h16) rfl trivial rfl rfl ?_
    refine op0 (sp_assign rfl rfl) rfl trivial rfl rfl ?_
    refine TL.nil ?_
    refine TC.inLoop ?_
    refine TC.seq ?_
    refine TC.seq ?_
    refine subJ [] (hk_law11_some_l0 _ _ _ _ _ _ _ _ _ h) ?_ ?_ ?_
    · exact ⟨rfl, rfl, rfl, rfl, rfl, rfl, trivial⟩
    · exact ⟨mem_at 0 rfl, mem_at 1 rfl, mem_at 2 rfl, mem_at 3 rfl, mem_at 4 rfl, mem_at 5 rfl, mem_at 6 rfl, trivial⟩
    · rfl
def ev_law11_some_l0 (n : Nat) (most7 : Int) : Nat → Int → (List Int) → Int → Int → (List Int) → (List Bool) → (List (Int × Int × Int × Int × Int)) → (List ((List Int))) → (List (Int × Int × Int × Int)) → Option ((List Int))
  | 0, _, _, _, _, _, _, _, _, _ => none
  | m + 1, i9, l10, i11, i12, l13, l14, l15, l16, l17 => cond (decide (i9 < (l10.length : Int))) (cond (decide ((l13.length : Int) < most7)) (ev_law11_some_j1 n l10 i9 l15 l14 l13 i11 i12 l16 l17 (fun i9q l10q i11q i12q l13q l14q l15q l16q l17q => ev_law11_some_l0 n most7 m i9q l10q i11q i12q l13q l14q l15q l16q l17q)) (some l13)) (some l13)
theorem ok_law11_some_l0 {n : Nat} {w0 : World} {R0 : Nat → Prop} {env0 : Env} {r : (List Int)} {most7 : Int} : ∀ (m : Nat) (i9 : Int) (l10 : List Int) (i11 : Int) (i12 : Int) (l13 : List Int) (l14 : List Bool) (l15 : List (Int × Int × Int × Int × Int)) (l16 : List ((List Int))) (l17 : List (Int × Int × Int × Int)), ev_law11_some_l0 n most7 m i9 l10 i11 i12 l13 l14 l15 l16 l17 = some r → TC Try.prog ⟨w0, fun _ => False, R0⟩ 45 (bodyPost Try.prog Try.f20 (Post ⟨w0, fun _ => False, R0⟩ env0 (.ref 0) [.row 0 3 1 (List.map en_int r)])) [.code (sub (bodyOf Try.f20) [1, 1, 0, 1, 0, 0, 0, 0]), .code (sub (bodyOf Try.f20) [1, 1, 0, 1, 0, 0, 0, 1]), .code (sub (bodyOf Try.f20) [1, 1, 0, 1, 0, 0, 1]), .inLoop (sub (bodyOf Try.f20) [1, 1, 0, 1, 0, 0]), .inBlock 0, .code (sub (bodyOf Try.f20) [1, 1, 1])] ([(1, .ref 3), (2, vi most7), (3, .ptr 4 0), (7, .ref 5), (8, .ptr 6 0), (9, vi i9)]) ([.ro 3 1 (List.map en_uint8 l10), .blk 4 [.ref 0, .ref 1, .ref 2, vi i11, vi i12] 26, .row 5 3 1 (List.map en_int l13), .inv 6 (arrI 66 vx_bool l14), .ro 0 5 (List.map en_api_RoundTower l15), .ro 1 1 (List.map en_Lint l16), .ro 2 4 (List.map en_api_RoundWinder l17)]) := by
  intro m
  induction m with
  | zero => intro i9 l10 i11 i12 l13 l14 l15 l16 l17 h; exact none_no h
  | succ m ih =>
    intro i9 l10 i11 i12 l13 l14 l15 l16 l17 h
    rw [ev_law11_some_l0] at h
    refine TC.region ?_
    refine op0 (sp_move rfl rfl) rfl trivial rfl rfl ?_
    refine op0 (sp_move rfl rfl) rfl trivial rfl rfl ?_
    refine op1 0 rfl (sp_lenM (N := l10.length) (len_map _ _) rfl rfl isRo Try.underlying51) rfl trivial rfl rfl ?_
    refine op0 (sp_lss rfl rfl rfl) rfl trivial rfl rfl ?_
    refine op0 (sp_move rfl rfl) rfl trivial rfl rfl ?_
    rcases cond_cases h with ⟨h1, h⟩ | ⟨h1, h⟩
    · refine (boolLit 17 rfl h1).2 ?_
      refine op0 (sp_move rfl rfl) rfl ⟨_, rfl, rfl⟩ rfl rfl ?_
      refine op1 2 rfl (sp_lenM (N := l13.length) (len_map _ _) rfl rfl isOwn Try.underlying30) rfl ⟨_, rfl, rfl⟩ rfl rfl ?_
      refine op0 (sp_move rfl rfl) rfl ⟨_, rfl, rfl⟩ rfl rfl ?_
      refine op0 (sp_lss rfl rfl rfl) rfl ⟨_, rfl, rfl⟩ rfl rfl ?_
      refine op0 (sp_pickT rfl rfl rfl) rfl trivial rfl rfl ?_
      refine TL.nil ?_
      refine TC.cond (b := (decide ((l13.length : Int) < most7))) rfl (fun h2 => ?_) (fun h2 => ?_)
      · have h := cond_t h h2
        refine subJ [] (ok_law11_some_j1 (most7 := most7) ih h) ?_ ?_ ?_
        · exact ⟨rfl, rfl, rfl, rfl, rfl, rfl, trivial⟩
        · exact ⟨mem_at 0 rfl, mem_at 1 rfl, mem_at 2 rfl, mem_at 3 rfl, mem_at 4 rfl, mem_at 5 rfl, mem_at 6 rfl, trivial⟩
        · rfl
      · have h := cond_f h h2
        refine TC.exit rfl ?_
        refine TC.seq ?_
        refine TC.region ?_
        refine op0 (sp_move rfl rfl) rfl trivial rfl rfl ?_
        refine op0 (sp_assign rfl rfl) rfl trivial rfl rfl ?_
        refine TL.nil ?_
        cases h
        exact retJ [(0, 5)] (.tmp rfl .nil) rfl ⟨mem_at 2 rfl, trivial⟩ rfl rfl
    · refine (boolLit 17 rfl h1).2 ?_
      refine opSkip rfl ⟨_, rfl, .inl rfl⟩ rfl ?_
      refine opSkip rfl ⟨_, rfl, .inl rfl⟩ rfl ?_
      refine opSkip rfl ⟨_, rfl, .inl rfl⟩ rfl ?_
      refine opSkip rfl ⟨_, rfl, .inl rfl⟩ rfl ?_
      refine op0 (sp_pickF rfl rfl rfl) rfl trivial rfl rfl ?_
      refine TL.nil ?_
      refine TC.condF rfl ?_
      refine TC.exit rfl ?_
      refine TC.seq ?_
      refine TC.region ?_
      refine op0 (sp_move rfl rfl) rfl trivial rfl rfl ?_
      refine op0 (sp_assign rfl rfl) rfl trivial rfl rfl ?_
      refine TL.nil ?_
      cases h
      exact retJ [(0, 5)] (.tmp rfl .nil) rfl ⟨mem_at 2 rfl, trivial⟩ rfl rfl
def ev_law11_some (n : Nat) (rr1 : List (Int × Int × Int × Int × Int)) (rr2 : List ((List Int))) (rr3 : List (Int × Int × Int × Int)) (rr4 : Int) (rr5 : Int) (by_6 : List Int) (most7 : Int) : Option ((List Int)) :=
  ev_law11_some_l0 n most7 n 0 by_6 rr4 rr5 ([] : List Int) ([false, false, false, false, false, false, false, false] : List Bool) rr1 rr2 rr3
theorem fc_law11_some {n : Nat} {rr1 : List (Int × Int × Int × Int × Int)} {rr2 : List ((List Int))} {rr3 : List (Int × Int × Int × Int)} {rr4 : Int} {rr5 : Int} {by_6 : List Int} {most7 : Int} {r : (List Int)} (h : ev_law11_some n rr1 rr2 rr3 rr4 rr5 by_6 most7 = some r) : FC Try.prog 20 [.agg [.ref 0, .ref 1, .ref 2, vi rr4, vi rr5], .ref 3, vi most7] [.ro 0 5 (List.map en_api_RoundTower rr1), .ro 1 1 (List.map en_Lint rr2), .ro 2 4 (List.map en_api_RoundWinder rr3), .ro 3 1 (List.map en_uint8 by_6)] (.ref 0) [.row 0 3 1 (List.map en_int r)] := by
  refine introJ (nz := 45) Try.func20 rfl rfl rfl (fun w0 R0 env0 => ?_)
  rw [ev_law11_some] at h
  refine TC.seq ?_
  refine TC.region ?_
  refine op0 (sp_box 4 rfl rfl rfl rfl rfl) rfl trivial rfl rfl ?_
  refine op0 (sp_assign rfl rfl) rfl trivial rfl rfl ?_
  refine TL.nil ?_
  refine TC.seq ?_
  refine TC.region ?_
  refine op0 (sp_emptyM 5 (List.map en_int []) rfl rfl sl30) rfl trivial rfl rfl ?_
  refine op0 (sp_build (qs := []) rfl bt66 rfl rfl rfl rfl) rfl trivial rfl rfl ?_
  refine op0 (sp_alloc 6 rfl Try.zeroValue66 rfl) rfl trivial rfl rfl ?_
  refine op0 (sp_assign rfl rfl) rfl trivial rfl rfl ?_
  refine stoB 0 (cells' := [.val (.bool false), .val (.bool false), .val (.bool false), .val (.bool false), .val (.bool false), .val (.bool false), .val (.bool false), .val (.bool false)]) rfl rfl trivial rfl rfl rfl rfl vt66 rfl rfl rfl ?_
  refine TL.nil ?_
  refine TC.seq ?_
  refine TC.seq ?_
  refine TC.region ?_
  refine op0 (sp_assign rfl rfl) rfl trivial rfl rfl ?_
  refine TL.nil ?_
  refine TC.block ?_
  refine TC.loop ?_
  refine TC.toArr 0 ([false, false, false, false, false, false, false, false] : List Bool) vx_bool rfl (by kernel_rfl) ?_
  refine TC.seq ?_
  refine TC.seq ?_
  refine subJ [] (ok_law11_some_l0 _ _ _ _ _ _ _ _ _ _ h) ?_ ?_ ?_
  · exact ⟨rfl, rfl, rfl, rfl, rfl, rfl, trivial⟩
  · exact ⟨mem_at 6 rfl, mem_at 2 rfl, mem_at 1 rfl, mem_at 0 rfl, mem_at 3 rfl, mem_at 4 rfl, mem_at 5 rfl, trivial⟩
  · rfl
end
end Go.Proofs.Ytohjpfkcahlfkaa.Sy
