/- What functions of the program compute, and that they do: printed by symgen.py. -/
import Derived.Test.YtohjpfkcahlfkaaPsGLib
import Derived.Test.YtohjpfkcahlfkaaPsGturretlaw11
import Derived.Test.YtohjpfkcahlfkaaPsGRound
set_option linter.unusedSimpArgs false
set_option linter.unusedVariables false
namespace Go.Proofs.Ytohjpfkcahlfkaa.Sy
open Go.RowKit
noncomputable section
set_option maxRecDepth 100000
set_option maxHeartbeats 2000000
def ev_law11_RoundStops_l6 (n : Nat) (r37 : (List Int) × Int) (i34 : Int) (r33 : Int × Int × Int) (k_law11_RoundStops_l3 : Int → Option Bool) : Nat → Int → Option Bool
  | 0, _ => none
  | m + 1, i38 => cond (decide (i38 < (r37.1.length : Int))) (idx r37.1 i38 fun x39 => cond (decide (x39 ≤ 0)) (cond (i34 != r33.2.1) (some false) (cond (decide (i38 < r33.1)) (some false) (cond (i34 == r33.2.1) (cond (i38 == r33.1) (cond (x39 != 0) (some false) (chk (in64 (i38 + 1)) <| ev_law11_RoundStops_l6 n r37 i34 r33 k_law11_RoundStops_l3 m (i38 + 1))) (chk (in64 (i38 + 1)) <| ev_law11_RoundStops_l6 n r37 i34 r33 k_law11_RoundStops_l3 m (i38 + 1))) (chk (in64 (i38 + 1)) <| ev_law11_RoundStops_l6 n r37 i34 r33 k_law11_RoundStops_l3 m (i38 + 1))))) (cond (i34 == r33.2.1) (cond (i38 == r33.1) (cond (x39 != 0) (some false) (chk (in64 (i38 + 1)) <| ev_law11_RoundStops_l6 n r37 i34 r33 k_law11_RoundStops_l3 m (i38 + 1))) (chk (in64 (i38 + 1)) <| ev_law11_RoundStops_l6 n r37 i34 r33 k_law11_RoundStops_l3 m (i38 + 1))) (chk (in64 (i38 + 1)) <| ev_law11_RoundStops_l6 n r37 i34 r33 k_law11_RoundStops_l3 m (i38 + 1)))) (chk (in64 (i34 + 1)) <| k_law11_RoundStops_l3 (i34 + 1))
theorem ok_law11_RoundStops_l6 {n : Nat} {w0 : World} {R0 : Nat → Prop} {env0 : Env} {r : Bool} {r33 : Int × Int × Int} {i23 : Int} {i24 : Int} {i25 : Int} {i26 : Int} {l27 : List (Int × (List Int))} {r37 : (List Int) × Int} {l28 : List (Int × Int × Int × Int × Int)} {l29 : List ((List Int))} {l30 : List (Int × Int × Int × Int)} {i34 : Int} {k_law11_RoundStops_l3 : Int → Option Bool} (hk_law11_RoundStops_l3 : ∀ (i34 : Int), k_law11_RoundStops_l3 i34 = some r → TC Try.prog ⟨w0, fun _ => False, R0⟩ 265 (bodyPost Try.prog Try.f7 (Post ⟨w0, fun _ => False, R0⟩ env0 (.val (.bool r)) [])) [.code (sub (bodyOf Try.f7) [1, 1, 1, 1, 1, 1, 0, 1, 0, 0, 0, 0]), .code (sub (bodyOf Try.f7) [1, 1, 1, 1, 1, 1, 0, 1, 0, 0, 0, 1]), .code (sub (bodyOf Try.f7) [1, 1, 1, 1, 1, 1, 0, 1, 0, 0, 1]), .inLoop (sub (bodyOf Try.f7) [1, 1, 1, 1, 1, 1, 0, 1, 0, 0]), .inBlock 2, .code (sub (bodyOf Try.f7) [1, 1, 1, 1, 1, 1, 1])] ([(5, .ptr 5 0), (7, .ptr 10 0), (8, .ref 9), (10, vi 30), (12, vi r33.1), (13, vi r33.2.1), (15, vi i34)]) ([.blk 5 [.val (.int .u8 i23), .val (.int .u8 i24)] 79, .blk 10 [.ref 6, .ref 7, .ref 8, vi i25, vi i26] 26, .ro 9 2 (List.map en_api_RoundDay l27), .ro 6 5 (List.map en_api_RoundTower l28), .ro 7 1 (List.map en_Lint l29), .ro 8 4 (List.map en_api_RoundWinder l30)])) : ∀ (m : Nat) (i38 : Int), ev_law11_RoundStops_l6 n r37 i34 r33 k_law11_RoundStops_l3 m i38 = some r → TC Try.prog ⟨w0, fun _ => False, R0⟩ 265 (bodyPost Try.prog Try.f7 (Post ⟨w0, fun _ => False, R0⟩ env0 (.val (.bool r)) [])) [.code (sub (bodyOf Try.f7) [1, 1, 1, 1, 1, 1, 0, 1, 0, 0, 1, 0, 0, 1, 1, 1, 0, 0, 0, 0]), .code (sub (bodyOf Try.f7) [1, 1, 1, 1, 1, 1, 0, 1, 0, 0, 1, 0, 0, 1, 1, 1, 0, 0, 0, 1]), .code (sub (bodyOf Try.f7) [1, 1, 1, 1, 1, 1, 0, 1, 0, 0, 1, 0, 0, 1, 1, 1, 0, 0, 1]), .inLoop (sub (bodyOf Try.f7) [1, 1, 1, 1, 1, 1, 0, 1, 0, 0, 1, 0, 0, 1, 1, 1, 0, 0]), .inBlock 4, .inBlock 3, .code (sub (bodyOf Try.f7) [1, 1, 1, 1, 1, 1, 0, 1, 0, 0, 1, 1]), .inLoop (sub (bodyOf Try.f7) [1, 1, 1, 1, 1, 1, 0, 1, 0, 0]), .inBlock 2, .code (sub (bodyOf Try.f7) [1, 1, 1, 1, 1, 1, 1])] ([(5, .ptr 5 0), (7, .ptr 10 0), (8, .ref 9), (10, vi 30), (12, vi r33.1), (13, vi r33.2.1), (15, vi i34), (16, .ref 19), (18, vi i38)]) ([.blk 5 [.val (.int .u8 i23), .val (.int .u8 i24)] 79, .blk 10 [.ref 6, .ref 7, .ref 8, vi i25, vi i26] 26, .ro 9 2 (List.map en_api_RoundDay l27), .row 19 3 1 (List.map en_int r37.1), .ro 6 5 (List.map en_api_RoundTower l28), .ro 7 1 (List.map en_Lint l29), .ro 8 4 (List.map en_api_RoundWinder l30)]) := by
  intro m
  induction m with
  | zero => intro i38 h; exact none_no h
  | succ m ih =>
    intro i38 h
    rw [ev_law11_RoundStops_l6] at h
    refine TC.region ?_
    refine op0 (sp_move rfl rfl) rfl trivial rfl rfl ?_
    refine op0 (sp_move rfl rfl) rfl trivial rfl rfl ?_
    refine op1 3 rfl (sp_lenM (N := r37.1.length) (len_map _ _) rfl rfl isOwn Try.underlying30) rfl trivial rfl rfl ?_
    refine op0 (sp_lss rfl rfl rfl) rfl trivial rfl rfl ?_
    refine TL.nil ?_
    refine TC.cond (b := (decide (i38 < (r37.1.length : Int)))) rfl (fun h25 => ?_) (fun h25 => ?_)
    · have h := cond_t h h25
      refine TC.skip ?_
      refine TC.seq ?_
      refine TC.block ?_
      refine TC.seq ?_
      refine TC.region ?_
      refine op0 (sp_move rfl rfl) rfl trivial rfl rfl ?_
      refine op0 (sp_move rfl rfl) rfl trivial rfl rfl ?_
      obtain ⟨x39, h26, h27, h⟩ := idx_inv h
      refine op1 3 rfl (sp_indexS rfl rfl rfl isOwn sl30 h26 (map_get _ h27)) rfl trivial rfl rfl ?_
      refine op1 3 rfl (sp_loadR (i := (i38 : Int).toNat) (j := 0) rfl rfl isOwn vt3 rfl (map_get _ h27) rfl (.v (.nil)) (nodup_of_B rfl)) rfl trivial rfl rfl ?_
      refine op0 (sp_leq rfl rfl rfl) rfl trivial rfl rfl ?_
      refine op0 (sp_move rfl rfl) rfl trivial rfl rfl ?_
      rcases cond_cases h with ⟨h28, h⟩ | ⟨h28, h⟩
      · refine (boolLit 154 rfl h28).2 ?_
        refine op0 (sp_move rfl rfl) rfl ⟨_, rfl, rfl⟩ rfl rfl ?_
        refine op0 (sp_move rfl rfl) rfl ⟨_, rfl, rfl⟩ rfl rfl ?_
        refine op0 (sp_neq rfl rfl rfl) rfl ⟨_, rfl, rfl⟩ rfl rfl ?_
        refine op0 (sp_move rfl rfl) rfl ⟨_, rfl, rfl⟩ rfl rfl ?_
        rcases cond_cases h with ⟨h29, h⟩ | ⟨h29, h⟩
        · refine (boolLit 158 rfl h29).2 ?_
          refine opSkip rfl ⟨_, rfl, .inl rfl⟩ rfl ?_
          refine opSkip rfl ⟨_, rfl, .inl rfl⟩ rfl ?_
          refine opSkip rfl ⟨_, rfl, .inl rfl⟩ rfl ?_
          refine op0 (sp_pickT rfl rfl rfl) rfl ⟨_, rfl, rfl⟩ rfl rfl ?_
          refine op0 (sp_pickT rfl rfl rfl) rfl trivial rfl rfl ?_
          refine op0 (sp_move rfl rfl) rfl trivial rfl rfl ?_
          refine opSkip rfl ⟨_, rfl, .inl rfl⟩ rfl ?_
          refine opSkip rfl ⟨_, rfl, .inl rfl⟩ rfl ?_
          refine opSkip rfl ⟨_, rfl, .inl rfl⟩ rfl ?_
          refine opSkip rfl ⟨_, rfl, .inl rfl⟩ rfl ?_
          refine opSkip rfl ⟨_, rfl, .inr rfl⟩ rfl ?_
          refine opSkip rfl ⟨_, rfl, .inr rfl⟩ rfl ?_
          refine opSkip rfl ⟨_, rfl, .inr rfl⟩ rfl ?_
          refine opSkip rfl ⟨_, rfl, .inl rfl⟩ rfl ?_
          refine opSkip rfl ⟨_, rfl, .inl rfl⟩ rfl ?_
          refine opSkip rfl ⟨_, rfl, .inr rfl⟩ rfl ?_
          refine opSkip rfl ⟨_, rfl, .inr rfl⟩ rfl ?_
          refine opSkip rfl ⟨_, rfl, .inr rfl⟩ rfl ?_
          refine opSkip rfl ⟨_, rfl, .inr rfl⟩ rfl ?_
          refine opSkip rfl ⟨_, rfl, .inr rfl⟩ rfl ?_
          refine opSkip rfl ⟨_, rfl, .inl rfl⟩ rfl ?_
          refine op0 (sp_pickT rfl rfl rfl) rfl trivial rfl rfl ?_
          refine TL.nil ?_
          refine TC.condT rfl ?_
          refine TC.seq ?_
          refine TC.region ?_
          refine op0 (sp_assign rfl rfl) rfl trivial rfl rfl ?_
          refine TL.nil ?_
          cases h
          exact retJ [] (.tmp rfl .nil) rfl trivial rfl rfl
        · refine (boolLit 158 rfl h29).2 ?_
          refine op0 (sp_move rfl rfl) rfl ⟨_, rfl, rfl⟩ rfl rfl ?_
          refine op0 (sp_move rfl rfl) rfl ⟨_, rfl, rfl⟩ rfl rfl ?_
          refine op0 (sp_lss rfl rfl rfl) rfl ⟨_, rfl, rfl⟩ rfl rfl ?_
          refine op0 (sp_pickF rfl rfl rfl) rfl ⟨_, rfl, rfl⟩ rfl rfl ?_
          refine op0 (sp_pickT rfl rfl rfl) rfl trivial rfl rfl ?_
          refine op0 (sp_move rfl rfl) rfl trivial rfl rfl ?_
          rcases cond_cases h with ⟨h30, h⟩ | ⟨h30, h⟩
          · refine (boolLit 164 rfl h30).2 ?_
            refine opSkip rfl ⟨_, rfl, .inl rfl⟩ rfl ?_
            refine opSkip rfl ⟨_, rfl, .inl rfl⟩ rfl ?_
            refine opSkip rfl ⟨_, rfl, .inl rfl⟩ rfl ?_
            refine opSkip rfl ⟨_, rfl, .inl rfl⟩ rfl ?_
            refine opSkip rfl ⟨_, rfl, .inr rfl⟩ rfl ?_
            refine opSkip rfl ⟨_, rfl, .inr rfl⟩ rfl ?_
            refine opSkip rfl ⟨_, rfl, .inr rfl⟩ rfl ?_
            refine opSkip rfl ⟨_, rfl, .inl rfl⟩ rfl ?_
            refine opSkip rfl ⟨_, rfl, .inl rfl⟩ rfl ?_
            refine opSkip rfl ⟨_, rfl, .inr rfl⟩ rfl ?_
            refine opSkip rfl ⟨_, rfl, .inr rfl⟩ rfl ?_
            refine opSkip rfl ⟨_, rfl, .inr rfl⟩ rfl ?_
            refine opSkip rfl ⟨_, rfl, .inr rfl⟩ rfl ?_
            refine opSkip rfl ⟨_, rfl, .inr rfl⟩ rfl ?_
            refine opSkip rfl ⟨_, rfl, .inl rfl⟩ rfl ?_
            refine op0 (sp_pickT rfl rfl rfl) rfl trivial rfl rfl ?_
            refine TL.nil ?_
            refine TC.condT rfl ?_
            refine TC.seq ?_
            refine TC.region ?_
            refine op0 (sp_assign rfl rfl) rfl trivial rfl rfl ?_
            refine TL.nil ?_
            cases h
            exact retJ [] (.tmp rfl .nil) rfl trivial rfl rfl
          · refine (boolLit 164 rfl h30).2 ?_
            refine op0 (sp_move rfl rfl) rfl ⟨_, rfl, rfl⟩ rfl rfl ?_
            refine op0 (sp_move rfl rfl) rfl ⟨_, rfl, rfl⟩ rfl rfl ?_
            refine op0 (sp_eql rfl rfl rfl) rfl ⟨_, rfl, rfl⟩ rfl rfl ?_
            refine op0 (sp_move rfl rfl) rfl ⟨_, rfl, rfl⟩ rfl rfl ?_
            rcases cond_cases h with ⟨h31, h⟩ | ⟨h31, h⟩
            · refine (boolLit 168 rfl h31).2 ?_
              refine op0 (sp_move rfl rfl) rfl ⟨_, rfl, rfl⟩ rfl rfl ?_
              refine op0 (sp_move rfl rfl) rfl ⟨_, rfl, rfl⟩ rfl rfl ?_
              refine op0 (sp_eql rfl rfl rfl) rfl ⟨_, rfl, rfl⟩ rfl rfl ?_
              refine op0 (sp_pickT rfl rfl rfl) rfl ⟨_, rfl, rfl⟩ rfl rfl ?_
              refine op0 (sp_move rfl rfl) rfl ⟨_, rfl, rfl⟩ rfl rfl ?_
              rcases cond_cases h with ⟨h32, h⟩ | ⟨h32, h⟩
              · refine (boolLit 173 rfl h32).2 ?_
                refine op0 (sp_move rfl rfl) rfl ⟨_, rfl, rfl⟩ rfl rfl ?_
                refine op0 (sp_move rfl rfl) rfl ⟨_, rfl, rfl⟩ rfl rfl ?_
                refine op1 3 rfl (sp_indexS rfl rfl rfl isOwn sl30 h26 (map_get _ h27)) rfl ⟨_, rfl, rfl⟩ rfl rfl ?_
                refine op1 3 rfl (sp_loadR (i := (i38 : Int).toNat) (j := 0) rfl rfl isOwn vt3 rfl (map_get _ h27) rfl (.v (.nil)) (nodup_of_B rfl)) rfl ⟨_, rfl, rfl⟩ rfl rfl ?_
                refine op0 (sp_neq rfl rfl rfl) rfl ⟨_, rfl, rfl⟩ rfl rfl ?_
                refine op0 (sp_pickT rfl rfl rfl) rfl ⟨_, rfl, rfl⟩ rfl rfl ?_
                refine op0 (sp_pickF rfl rfl rfl) rfl trivial rfl rfl ?_
                refine TL.nil ?_
                refine TC.cond (b := (x39 != 0)) rfl (fun h33 => ?_) (fun h33 => ?_)
                · have h := cond_t h h33
                  refine TC.seq ?_
                  refine TC.region ?_
                  refine op0 (sp_assign rfl rfl) rfl trivial rfl rfl ?_
                  refine TL.nil ?_
                  cases h
                  exact retJ [] (.tmp rfl .nil) rfl trivial rfl rfl
                · have h := cond_f h h33
                  refine TC.skip ?_
                  refine TC.inBlock ?_
                  refine TC.region ?_
                  refine op0 (sp_move rfl rfl) rfl trivial rfl rfl ?_
                  obtain ⟨h34, h⟩ := chk_inv h
                  refine op0 (sp_add rfl rfl rfl h34) rfl trivial rfl rfl ?_
                  refine op0 (sp_assign rfl rfl) rfl trivial rfl rfl ?_
                  refine TL.nil ?_
                  refine TC.inLoop ?_
                  refine TC.seq ?_
                  refine TC.seq ?_
                  refine subJ [] (ih _ h) ?_ ?_ ?_
                  · exact ⟨rfl, rfl, rfl, rfl, rfl, rfl, rfl, rfl, rfl, trivial⟩
                  · exact ⟨mem_at 0 rfl, mem_at 1 rfl, mem_at 2 rfl, mem_at 3 rfl, mem_at 4 rfl, mem_at 5 rfl, mem_at 6 rfl, trivial⟩
                  · rfl
              · refine (boolLit 173 rfl h32).2 ?_
                refine opSkip rfl ⟨_, rfl, .inl rfl⟩ rfl ?_
                refine opSkip rfl ⟨_, rfl, .inl rfl⟩ rfl ?_
                refine opSkip rfl ⟨_, rfl, .inl rfl⟩ rfl ?_
                refine opSkip rfl ⟨_, rfl, .inl rfl⟩ rfl ?_
                refine opSkip rfl ⟨_, rfl, .inl rfl⟩ rfl ?_
                refine op0 (sp_pickF rfl rfl rfl) rfl ⟨_, rfl, rfl⟩ rfl rfl ?_
                refine op0 (sp_pickF rfl rfl rfl) rfl trivial rfl rfl ?_
                refine TL.nil ?_
                refine TC.condF rfl ?_
                refine TC.skip ?_
                refine TC.inBlock ?_
                refine TC.region ?_
                refine op0 (sp_move rfl rfl) rfl trivial rfl rfl ?_
                obtain ⟨h35, h⟩ := chk_inv h
                refine op0 (sp_add rfl rfl rfl h35) rfl trivial rfl rfl ?_
                refine op0 (sp_assign rfl rfl) rfl trivial rfl rfl ?_
                refine TL.nil ?_
                refine TC.inLoop ?_
                refine TC.seq ?_
                refine TC.seq ?_
                refine subJ [] (ih _ h) ?_ ?_ ?_
                · exact ⟨rfl, rfl, rfl, rfl, rfl, rfl, rfl, rfl, rfl, trivial⟩
                · exact ⟨mem_at 0 rfl, mem_at 1 rfl, mem_at 2 rfl, mem_at 3 rfl, mem_at 4 rfl, mem_at 5 rfl, mem_at 6 rfl, trivial⟩
                · rfl
            · refine (boolLit 168 rfl h31).2 ?_
              refine opSkip rfl ⟨_, rfl, .inl rfl⟩ rfl ?_
              refine opSkip rfl ⟨_, rfl, .inl rfl⟩ rfl ?_
              refine opSkip rfl ⟨_, rfl, .inl rfl⟩ rfl ?_
              refine op0 (sp_pickF rfl rfl rfl) rfl ⟨_, rfl, rfl⟩ rfl rfl ?_
              refine op0 (sp_move rfl rfl) rfl ⟨_, rfl, rfl⟩ rfl rfl ?_
              refine opSkip rfl ⟨_, rfl, .inl rfl⟩ rfl ?_
              refine opSkip rfl ⟨_, rfl, .inl rfl⟩ rfl ?_
              refine opSkip rfl ⟨_, rfl, .inl rfl⟩ rfl ?_
              refine opSkip rfl ⟨_, rfl, .inl rfl⟩ rfl ?_
              refine opSkip rfl ⟨_, rfl, .inl rfl⟩ rfl ?_
              refine op0 (sp_pickF rfl rfl rfl) rfl ⟨_, rfl, rfl⟩ rfl rfl ?_
              refine op0 (sp_pickF rfl rfl rfl) rfl trivial rfl rfl ?_
              refine TL.nil ?_
              refine TC.condF rfl ?_
              refine TC.skip ?_
              refine TC.inBlock ?_
              refine TC.region ?_
              refine op0 (sp_move rfl rfl) rfl trivial rfl rfl ?_
              obtain ⟨h36, h⟩ := chk_inv h
              refine op0 (sp_add rfl rfl rfl h36) rfl trivial rfl rfl ?_
              refine op0 (sp_assign rfl rfl) rfl trivial rfl rfl ?_
              refine TL.nil ?_
              refine TC.inLoop ?_
              refine TC.seq ?_
              refine TC.seq ?_
              refine subJ [] (ih _ h) ?_ ?_ ?_
              · exact ⟨rfl, rfl, rfl, rfl, rfl, rfl, rfl, rfl, rfl, trivial⟩
              · exact ⟨mem_at 0 rfl, mem_at 1 rfl, mem_at 2 rfl, mem_at 3 rfl, mem_at 4 rfl, mem_at 5 rfl, mem_at 6 rfl, trivial⟩
              · rfl
      · refine (boolLit 154 rfl h28).2 ?_
        refine opSkip rfl ⟨_, rfl, .inl rfl⟩ rfl ?_
        refine opSkip rfl ⟨_, rfl, .inl rfl⟩ rfl ?_
        refine opSkip rfl ⟨_, rfl, .inl rfl⟩ rfl ?_
        refine opSkip rfl ⟨_, rfl, .inl rfl⟩ rfl ?_
        refine opSkip rfl ⟨_, rfl, .inr rfl⟩ rfl ?_
        refine opSkip rfl ⟨_, rfl, .inr rfl⟩ rfl ?_
        refine opSkip rfl ⟨_, rfl, .inr rfl⟩ rfl ?_
        refine opSkip rfl ⟨_, rfl, .inl rfl⟩ rfl ?_
        refine op0 (sp_pickF rfl rfl rfl) rfl trivial rfl rfl ?_
        refine op0 (sp_move rfl rfl) rfl trivial rfl rfl ?_
        refine op0 (sp_move rfl rfl) rfl ⟨_, rfl, rfl⟩ rfl rfl ?_
        refine op0 (sp_move rfl rfl) rfl ⟨_, rfl, rfl⟩ rfl rfl ?_
        refine op0 (sp_eql rfl rfl rfl) rfl ⟨_, rfl, rfl⟩ rfl rfl ?_
        refine op0 (sp_move rfl rfl) rfl ⟨_, rfl, rfl⟩ rfl rfl ?_
        rcases cond_cases h with ⟨h37, h⟩ | ⟨h37, h⟩
        · refine (boolLit 168 rfl h37).2 ?_
          refine op0 (sp_move rfl rfl) rfl ⟨_, rfl, rfl⟩ rfl rfl ?_
          refine op0 (sp_move rfl rfl) rfl ⟨_, rfl, rfl⟩ rfl rfl ?_
          refine op0 (sp_eql rfl rfl rfl) rfl ⟨_, rfl, rfl⟩ rfl rfl ?_
          refine op0 (sp_pickT rfl rfl rfl) rfl ⟨_, rfl, rfl⟩ rfl rfl ?_
          refine op0 (sp_move rfl rfl) rfl ⟨_, rfl, rfl⟩ rfl rfl ?_
          rcases cond_cases h with ⟨h38, h⟩ | ⟨h38, h⟩
          · refine (boolLit 173 rfl h38).2 ?_
            refine op0 (sp_move rfl rfl) rfl ⟨_, rfl, rfl⟩ rfl rfl ?_
            refine op0 (sp_move rfl rfl) rfl ⟨_, rfl, rfl⟩ rfl rfl ?_
            refine op1 3 rfl (sp_indexS rfl rfl rfl isOwn sl30 h26 (map_get _ h27)) rfl ⟨_, rfl, rfl⟩ rfl rfl ?_
            refine op1 3 rfl (sp_loadR (i := (i38 : Int).toNat) (j := 0) rfl rfl isOwn vt3 rfl (map_get _ h27) rfl (.v (.nil)) (nodup_of_B rfl)) rfl ⟨_, rfl, rfl⟩ rfl rfl ?_
            refine op0 (sp_neq rfl rfl rfl) rfl ⟨_, rfl, rfl⟩ rfl rfl ?_
            refine op0 (sp_pickT rfl rfl rfl) rfl ⟨_, rfl, rfl⟩ rfl rfl ?_
            refine op0 (sp_pickF rfl rfl rfl) rfl trivial rfl rfl ?_
            refine TL.nil ?_
            refine TC.cond (b := (x39 != 0)) rfl (fun h39 => ?_) (fun h39 => ?_)
            · have h := cond_t h h39
              refine TC.seq ?_
              refine TC.region ?_
              refine op0 (sp_assign rfl rfl) rfl trivial rfl rfl ?_
              refine TL.nil ?_
              cases h
              exact retJ [] (.tmp rfl .nil) rfl trivial rfl rfl
            · have h := cond_f h h39
              refine TC.skip ?_
              refine TC.inBlock ?_
              refine TC.region ?_
              refine op0 (sp_move rfl rfl) rfl trivial rfl rfl ?_
              obtain ⟨h40, h⟩ := chk_inv h
              refine op0 (sp_add rfl rfl rfl h40) rfl trivial rfl rfl ?_
              refine op0 (sp_assign rfl rfl) rfl trivial rfl rfl ?_
              refine TL.nil ?_
              refine TC.inLoop ?_
              refine TC.seq ?_
              refine TC.seq ?_
              refine subJ [] (ih _ h) ?_ ?_ ?_
              · exact ⟨rfl, rfl, rfl, rfl, rfl, rfl, rfl, rfl, rfl, trivial⟩
              · exact ⟨mem_at 0 rfl, mem_at 1 rfl, mem_at 2 rfl, mem_at 3 rfl, mem_at 4 rfl, mem_at 5 rfl, mem_at 6 rfl, trivial⟩
              · rfl
          · refine (boolLit 173 rfl h38).2 ?_
            refine opSkip rfl ⟨_, rfl, .inl rfl⟩ rfl ?_
            refine opSkip rfl ⟨_, rfl, .inl rfl⟩ rfl ?_
            refine opSkip rfl ⟨_, rfl, .inl rfl⟩ rfl ?_
            refine opSkip rfl ⟨_, rfl, .inl rfl⟩ rfl ?_
            refine opSkip rfl ⟨_, rfl, .inl rfl⟩ rfl ?_
            refine op0 (sp_pickF rfl rfl rfl) rfl ⟨_, rfl, rfl⟩ rfl rfl ?_
            refine op0 (sp_pickF rfl rfl rfl) rfl trivial rfl rfl ?_
            refine TL.nil ?_
            refine TC.condF rfl ?_
            refine TC.skip ?_
            refine TC.inBlock ?_
            refine TC.region ?_
            refine op0 (sp_move rfl rfl) rfl trivial rfl rfl ?_
            obtain ⟨h41, h⟩ := chk_inv h
            refine op0 (sp_add rfl rfl rfl h41) rfl trivial rfl rfl ?_
            refine op0 (sp_assign rfl rfl) rfl trivial rfl rfl ?_
            refine TL.nil ?_
            refine TC.inLoop ?_
            refine TC.seq ?_
            refine TC.seq ?_
            refine subJ [] (ih _ h) ?_ ?_ ?_
            · exact ⟨rfl, rfl, rfl, rfl, rfl, rfl, rfl, rfl, rfl, trivial⟩
            · exact ⟨mem_at 0 rfl, mem_at 1 rfl, mem_at 2 rfl, mem_at 3 rfl, mem_at 4 rfl, mem_at 5 rfl, mem_at 6 rfl, trivial⟩
            · rfl
        · refine (boolLit 168 rfl h37).2 ?_
          refine opSkip rfl ⟨_, rfl, .inl rfl⟩ rfl ?_
          refine opSkip rfl ⟨_, rfl, .inl rfl⟩ rfl ?_
          refine opSkip rfl ⟨_, rfl, .inl rfl⟩ rfl ?_
          refine op0 (sp_pickF rfl rfl rfl) rfl ⟨_, rfl, rfl⟩ rfl rfl ?_
          refine op0 (sp_move rfl rfl) rfl ⟨_, rfl, rfl⟩ rfl rfl ?_
          refine opSkip rfl ⟨_, rfl, .inl rfl⟩ rfl ?_
          refine opSkip rfl ⟨_, rfl, .inl rfl⟩ rfl ?_
          refine opSkip rfl ⟨_, rfl, .inl rfl⟩ rfl ?_
          refine opSkip rfl ⟨_, rfl, .inl rfl⟩ rfl ?_
          refine opSkip rfl ⟨_, rfl, .inl rfl⟩ rfl ?_
          refine op0 (sp_pickF rfl rfl rfl) rfl ⟨_, rfl, rfl⟩ rfl rfl ?_
          refine op0 (sp_pickF rfl rfl rfl) rfl trivial rfl rfl ?_
          refine TL.nil ?_
          refine TC.condF rfl ?_
          refine TC.skip ?_
          refine TC.inBlock ?_
          refine TC.region ?_
          refine op0 (sp_move rfl rfl) rfl trivial rfl rfl ?_
          obtain ⟨h42, h⟩ := chk_inv h
          refine op0 (sp_add rfl rfl rfl h42) rfl trivial rfl rfl ?_
          refine op0 (sp_assign rfl rfl) rfl trivial rfl rfl ?_
          refine TL.nil ?_
          refine TC.inLoop ?_
          refine TC.seq ?_
          refine TC.seq ?_
          refine subJ [] (ih _ h) ?_ ?_ ?_
          · exact ⟨rfl, rfl, rfl, rfl, rfl, rfl, rfl, rfl, rfl, trivial⟩
          · exact ⟨mem_at 0 rfl, mem_at 1 rfl, mem_at 2 rfl, mem_at 3 rfl, mem_at 4 rfl, mem_at 5 rfl, mem_at 6 rfl, trivial⟩
          · rfl
    · have h := cond_f h h25
      refine TC.exit rfl ?_
      refine TC.inBlock ?_
      refine TC.region ?_
      refine op0 (sp_move rfl rfl) rfl trivial rfl rfl ?_
      obtain ⟨h43, h⟩ := chk_inv h
      refine op0 (sp_add rfl rfl rfl h43) rfl trivial rfl rfl ?_
      refine op0 (sp_assign rfl rfl) rfl trivial rfl rfl ?_
      refine TL.nil ?_
      refine TC.inLoop ?_
      refine TC.seq ?_
      refine TC.seq ?_
      refine subJ [] (hk_law11_RoundStops_l3 _ h) ?_ ?_ ?_
      · exact ⟨rfl, rfl, rfl, rfl, rfl, rfl, rfl, trivial⟩
      · exact ⟨mem_at 0 rfl, mem_at 1 rfl, mem_at 2 rfl, mem_at 4 rfl, mem_at 5 rfl, mem_at 6 rfl, trivial⟩
      · rfl
def ev_law11_RoundStops_j5 (n : Nat) (r37 : (List Int) × Int) (i34 : Int) (r33 : Int × Int × Int) (k_law11_RoundStops_l3 : Int → Option Bool) : Option Bool :=
  ev_law11_RoundStops_l6 n r37 i34 r33 k_law11_RoundStops_l3 n 0
theorem ok_law11_RoundStops_j5 {n : Nat} {w0 : World} {R0 : Nat → Prop} {env0 : Env} {r : Bool} {r33 : Int × Int × Int} {i23 : Int} {i24 : Int} {i25 : Int} {i26 : Int} {l27 : List (Int × (List Int))} {r37 : (List Int) × Int} {l28 : List (Int × Int × Int × Int × Int)} {l29 : List ((List Int))} {l30 : List (Int × Int × Int × Int)} {i34 : Int} {k_law11_RoundStops_l3 : Int → Option Bool} (hk_law11_RoundStops_l3 : ∀ (i34 : Int), k_law11_RoundStops_l3 i34 = some r → TC Try.prog ⟨w0, fun _ => False, R0⟩ 265 (bodyPost Try.prog Try.f7 (Post ⟨w0, fun _ => False, R0⟩ env0 (.val (.bool r)) [])) [.code (sub (bodyOf Try.f7) [1, 1, 1, 1, 1, 1, 0, 1, 0, 0, 0, 0]), .code (sub (bodyOf Try.f7) [1, 1, 1, 1, 1, 1, 0, 1, 0, 0, 0, 1]), .code (sub (bodyOf Try.f7) [1, 1, 1, 1, 1, 1, 0, 1, 0, 0, 1]), .inLoop (sub (bodyOf Try.f7) [1, 1, 1, 1, 1, 1, 0, 1, 0, 0]), .inBlock 2, .code (sub (bodyOf Try.f7) [1, 1, 1, 1, 1, 1, 1])] ([(5, .ptr 5 0), (7, .ptr 10 0), (8, .ref 9), (10, vi 30), (12, vi r33.1), (13, vi r33.2.1), (15, vi i34)]) ([.blk 5 [.val (.int .u8 i23), .val (.int .u8 i24)] 79, .blk 10 [.ref 6, .ref 7, .ref 8, vi i25, vi i26] 26, .ro 9 2 (List.map en_api_RoundDay l27), .ro 6 5 (List.map en_api_RoundTower l28), .ro 7 1 (List.map en_Lint l29), .ro 8 4 (List.map en_api_RoundWinder l30)])) (h : ev_law11_RoundStops_j5 n r37 i34 r33 k_law11_RoundStops_l3 = some r) : TC Try.prog ⟨w0, fun _ => False, R0⟩ 265 (bodyPost Try.prog Try.f7 (Post ⟨w0, fun _ => False, R0⟩ env0 (.val (.bool r)) [])) [.code (sub (bodyOf Try.f7) [1, 1, 1, 1, 1, 1, 0, 1, 0, 0, 1, 0, 0, 1, 0, 1, 1]), .code (sub (bodyOf Try.f7) [1, 1, 1, 1, 1, 1, 0, 1, 0, 0, 1, 0, 0, 1, 1]), .inBlock 3, .code (sub (bodyOf Try.f7) [1, 1, 1, 1, 1, 1, 0, 1, 0, 0, 1, 1]), .inLoop (sub (bodyOf Try.f7) [1, 1, 1, 1, 1, 1, 0, 1, 0, 0]), .inBlock 2, .code (sub (bodyOf Try.f7) [1, 1, 1, 1, 1, 1, 1])] ([(5, .ptr 5 0), (7, .ptr 10 0), (8, .ref 9), (10, vi 30), (12, vi r33.1), (13, vi r33.2.1), (15, vi i34), (16, .ref 19)]) ([.blk 5 [.val (.int .u8 i23), .val (.int .u8 i24)] 79, .blk 10 [.ref 6, .ref 7, .ref 8, vi i25, vi i26] 26, .ro 9 2 (List.map en_api_RoundDay l27), .row 19 3 1 (List.map en_int r37.1), .ro 6 5 (List.map en_api_RoundTower l28), .ro 7 1 (List.map en_Lint l29), .ro 8 4 (List.map en_api_RoundWinder l30)]) := by
  rw [ev_law11_RoundStops_j5] at h
  refine TC.skip ?_
  refine TC.seq ?_
  refine TC.region ?_
  refine op0 (sp_assign rfl rfl) rfl trivial rfl rfl ?_
  refine TL.nil ?_
  refine TC.block ?_
  refine TC.loop ?_
  refine TC.seq ?_
  refine TC.seq ?_
  refine subJ [] (ok_law11_RoundStops_l6 (i23 := i23) (i24 := i24) (i25 := i25) (i26 := i26) (l27 := l27) (l28 := l28) (l29 := l29) (l30 := l30) hk_law11_RoundStops_l3 _ _ h) ?_ ?_ ?_
  · exact ⟨rfl, rfl, rfl, rfl, rfl, rfl, rfl, rfl, rfl, trivial⟩
  · exact ⟨mem_at 0 rfl, mem_at 1 rfl, mem_at 2 rfl, mem_at 3 rfl, mem_at 4 rfl, mem_at 5 rfl, mem_at 6 rfl, trivial⟩
  · rfl
def ev_law11_RoundStops_j4 (n : Nat) (l28 : List (Int × Int × Int × Int × Int)) (l29 : List ((List Int))) (l30 : List (Int × Int × Int × Int)) (i25 : Int) (i26 : Int) (l27 : List (Int × (List Int))) (i34 : Int) (r33 : Int × Int × Int) (k_law11_RoundStops_l3 : Int → Option Bool) : Option Bool :=
  (ev_law11_copied n l28 l29 l30 i25 i26).bind fun r35 => (ev_law11_days n l27).bind fun r36 => (ev_round_Left n r35.1 r35.2.1 r35.2.2.1 r35.2.2.2.1 r35.2.2.2.2 r36 i34).bind fun r37 => cond (r37.2 != 0) (some false) (cond ((r37.1.length : Int) != (l28.length : Int)) (some false) (ev_law11_RoundStops_j5 n r37 i34 r33 k_law11_RoundStops_l3))
theorem ok_law11_RoundStops_j4 {n : Nat} {w0 : World} {R0 : Nat → Prop} {env0 : Env} {r : Bool} {r33 : Int × Int × Int} {i23 : Int} {i24 : Int} {i25 : Int} {i26 : Int} {l27 : List (Int × (List Int))} {l28 : List (Int × Int × Int × Int × Int)} {l29 : List ((List Int))} {l30 : List (Int × Int × Int × Int)} {i34 : Int} {k_law11_RoundStops_l3 : Int → Option Bool} (hk_law11_RoundStops_l3 : ∀ (i34 : Int), k_law11_RoundStops_l3 i34 = some r → TC Try.prog ⟨w0, fun _ => False, R0⟩ 265 (bodyPost Try.prog Try.f7 (Post ⟨w0, fun _ => False, R0⟩ env0 (.val (.bool r)) [])) [.code (sub (bodyOf Try.f7) [1, 1, 1, 1, 1, 1, 0, 1, 0, 0, 0, 0]), .code (sub (bodyOf Try.f7) [1, 1, 1, 1, 1, 1, 0, 1, 0, 0, 0, 1]), .code (sub (bodyOf Try.f7) [1, 1, 1, 1, 1, 1, 0, 1, 0, 0, 1]), .inLoop (sub (bodyOf Try.f7) [1, 1, 1, 1, 1, 1, 0, 1, 0, 0]), .inBlock 2, .code (sub (bodyOf Try.f7) [1, 1, 1, 1, 1, 1, 1])] ([(5, .ptr 5 0), (7, .ptr 10 0), (8, .ref 9), (10, vi 30), (12, vi r33.1), (13, vi r33.2.1), (15, vi i34)]) ([.blk 5 [.val (.int .u8 i23), .val (.int .u8 i24)] 79, .blk 10 [.ref 6, .ref 7, .ref 8, vi i25, vi i26] 26, .ro 9 2 (List.map en_api_RoundDay l27), .ro 6 5 (List.map en_api_RoundTower l28), .ro 7 1 (List.map en_Lint l29), .ro 8 4 (List.map en_api_RoundWinder l30)])) (h : ev_law11_RoundStops_j4 n l28 l29 l30 i25 i26 l27 i34 r33 k_law11_RoundStops_l3 = some r) : TC Try.prog ⟨w0, fun _ => False, R0⟩ 265 (bodyPost Try.prog Try.f7 (Post ⟨w0, fun _ => False, R0⟩ env0 (.val (.bool r)) [])) [.code (sub (bodyOf Try.f7) [1, 1, 1, 1, 1, 1, 0, 1, 0, 0, 0, 1, 0]), .code (sub (bodyOf Try.f7) [1, 1, 1, 1, 1, 1, 0, 1, 0, 0, 1]), .inLoop (sub (bodyOf Try.f7) [1, 1, 1, 1, 1, 1, 0, 1, 0, 0]), .inBlock 2, .code (sub (bodyOf Try.f7) [1, 1, 1, 1, 1, 1, 1])] ([(5, .ptr 5 0), (7, .ptr 10 0), (8, .ref 9), (10, vi 30), (12, vi r33.1), (13, vi r33.2.1), (15, vi i34)]) ([.blk 5 [.val (.int .u8 i23), .val (.int .u8 i24)] 79, .blk 10 [.ref 6, .ref 7, .ref 8, vi i25, vi i26] 26, .ro 9 2 (List.map en_api_RoundDay l27), .ro 6 5 (List.map en_api_RoundTower l28), .ro 7 1 (List.map en_Lint l29), .ro 8 4 (List.map en_api_RoundWinder l30)]) := by
  rw [ev_law11_RoundStops_j4] at h
  refine TC.skip ?_
  refine TC.seq ?_
  refine TC.block ?_
  refine TC.seq ?_
  refine TC.region ?_
  refine op1 1 rfl (sp_loadBA rfl isBlk rfl vt26 rfl rfl) rfl trivial rfl rfl ?_
  obtain ⟨r35, h20, h⟩ := bind_inv h
  refine opN (need := [.ro 6 5 (List.map en_api_RoundTower l28), .ro 7 1 (List.map en_Lint l29), .ro 8 4 (List.map en_api_RoundWinder l30)]) [3, 4, 5] ⟨rfl, rfl, rfl, trivial⟩ (sp_call (avs := [.agg [.ref 6, .ref 7, .ref 8, vi i25, vi i26]]) (need := [.ro 6 5 (List.map en_api_RoundTower l28), .ro 7 1 (List.map en_Lint l29), .ro 8 4 (List.map en_api_RoundWinder l30)]) (v := .agg [.ref 15, .ref 16, .ref 17, vi r35.2.2.2.1, vi r35.2.2.2.2]) (news := [.row 15 46 5 (List.map en_api_RoundTower r35.1), .row 16 30 1 (List.map en_Lint r35.2.1), .row 17 76 4 (List.map en_api_RoundWinder r35.2.2.1)]) rfl rfl rfl Try.call12 (atJ [(0, 6), (1, 7), (2, 8)] [(0, 15), (1, 16), (2, 17)] (fc_law11_copied h20) rfl rfl) (.inl (roAll rfl))) rfl trivial rfl rfl ?_
  refine op0 (sp_move rfl rfl) rfl trivial rfl rfl ?_
  obtain ⟨r36, h21, h⟩ := bind_inv h
  refine op1 5 rfl (sp_call (avs := [.ref 9]) (need := [.ro 9 2 (List.map en_api_RoundDay l27)]) (v := .ref 18) (news := [.row 18 32 2 (List.map en_api_RoundDay r36)]) rfl rfl rfl Try.call10 (atJ [(0, 9)] [(0, 18)] (fc_law11_days h21) rfl rfl) (.inl (roAll rfl))) rfl trivial rfl rfl ?_
  refine op0 (sp_move rfl rfl) rfl trivial rfl rfl ?_
  obtain ⟨r37, h22, h⟩ := bind_inv h
  refine opN (need := [.row 15 46 5 (List.map en_api_RoundTower r35.1), .row 16 30 1 (List.map en_Lint r35.2.1), .row 17 76 4 (List.map en_api_RoundWinder r35.2.2.1), .row 18 32 2 (List.map en_api_RoundDay r36)]) [1, 2, 3, 0] ⟨rfl, rfl, rfl, rfl, trivial⟩ (sp_call (avs := [.agg [.ref 15, .ref 16, .ref 17, vi r35.2.2.2.1, vi r35.2.2.2.2], .ref 18, vi i34]) (need := [.row 15 46 5 (List.map en_api_RoundTower r35.1), .row 16 30 1 (List.map en_Lint r35.2.1), .row 17 76 4 (List.map en_api_RoundWinder r35.2.2.1), .row 18 32 2 (List.map en_api_RoundDay r36)]) (v := .tup [.ref 19, vi r37.2]) (news := [.row 19 3 1 (List.map en_int r37.1)]) rfl rfl rfl Try.call11 (atJ [(0, 15), (1, 16), (2, 17), (3, 18)] [(0, 19)] (fc_round_Left h22) rfl rfl) (.inr (List.forall_mem_cons.2 ⟨indep_map en_int_flat, (by simp)⟩))) rfl trivial rfl rfl ?_
  refine op0 (sp_move rfl rfl) rfl trivial rfl rfl ?_
  refine op0 (sp_extract rfl rfl rfl) rfl trivial rfl rfl ?_
  refine op0 (sp_extract rfl rfl rfl) rfl trivial rfl rfl ?_
  refine op0 (sp_assign rfl rfl) rfl trivial rfl rfl ?_
  refine op0 (sp_assign rfl rfl) rfl trivial rfl rfl ?_
  refine TL.nil ?_
  refine TC.seq ?_
  refine TC.seq ?_
  refine TC.region ?_
  refine op0 (sp_move rfl rfl) rfl trivial rfl rfl ?_
  refine op0 (sp_neq rfl rfl rfl) rfl trivial rfl rfl ?_
  refine op0 (sp_move rfl rfl) rfl trivial rfl rfl ?_
  rcases cond_cases h with ⟨h23, h⟩ | ⟨h23, h⟩
  · refine (boolLit 135 rfl h23).2 ?_
    refine opSkip rfl ⟨_, rfl, .inl rfl⟩ rfl ?_
    refine opSkip rfl ⟨_, rfl, .inl rfl⟩ rfl ?_
    refine opSkip rfl ⟨_, rfl, .inl rfl⟩ rfl ?_
    refine opSkip rfl ⟨_, rfl, .inl rfl⟩ rfl ?_
    refine opSkip rfl ⟨_, rfl, .inl rfl⟩ rfl ?_
    refine opSkip rfl ⟨_, rfl, .inl rfl⟩ rfl ?_
    refine op0 (sp_pickT rfl rfl rfl) rfl trivial rfl rfl ?_
    refine TL.nil ?_
    refine TC.condT rfl ?_
    refine TC.seq ?_
    refine TC.region ?_
    refine op0 (sp_assign rfl rfl) rfl trivial rfl rfl ?_
    refine TL.nil ?_
    cases h
    exact retJ [] (.tmp rfl .nil) rfl trivial rfl rfl
  · refine (boolLit 135 rfl h23).2 ?_
    refine op0 (sp_move rfl rfl) rfl ⟨_, rfl, rfl⟩ rfl rfl ?_
    refine op1 0 rfl (sp_lenM (N := r37.1.length) (len_map _ _) rfl rfl isOwn Try.underlying30) rfl ⟨_, rfl, rfl⟩ rfl rfl ?_
    refine op1 6 rfl (sp_fieldAddrB rfl isBlk rfl ft26_0 vt22 (by decide)) rfl ⟨_, rfl, rfl⟩ rfl rfl ?_
    refine op1 6 rfl (sp_loadB rfl isBlk rfl vt22 rfl) rfl ⟨_, rfl, rfl⟩ rfl rfl ?_
    refine op1 8 rfl (sp_lenM (N := l28.length) (len_map _ _) rfl rfl isRo Try.underlying22) rfl ⟨_, rfl, rfl⟩ rfl rfl ?_
    refine op0 (sp_neq rfl rfl rfl) rfl ⟨_, rfl, rfl⟩ rfl rfl ?_
    refine op0 (sp_pickF rfl rfl rfl) rfl trivial rfl rfl ?_
    refine TL.nil ?_
    refine TC.cond (b := ((r37.1.length : Int) != (l28.length : Int))) rfl (fun h24 => ?_) (fun h24 => ?_)
    · have h := cond_t h h24
      refine TC.seq ?_
      refine TC.region ?_
      refine op0 (sp_assign rfl rfl) rfl trivial rfl rfl ?_
      refine TL.nil ?_
      cases h
      exact retJ [] (.tmp rfl .nil) rfl trivial rfl rfl
    · have h := cond_f h h24
      refine subJ [] (ok_law11_RoundStops_j5 (i23 := i23) (i24 := i24) (i25 := i25) (i26 := i26) (l27 := l27) (l28 := l28) (l29 := l29) (l30 := l30) hk_law11_RoundStops_l3 h) ?_ ?_ ?_
      · exact ⟨rfl, rfl, rfl, rfl, rfl, rfl, rfl, rfl, trivial⟩
      · exact ⟨mem_at 5 rfl, mem_at 6 rfl, mem_at 7 rfl, mem_at 0 rfl, mem_at 8 rfl, mem_at 9 rfl, mem_at 10 rfl, trivial⟩
      · rfl
def ev_law11_RoundStops_j10 (n : Nat) (i43 : Int) (r40 : (List (Int × (List Int)))) (i24 : Int) (l28 : List (Int × Int × Int × Int × Int)) (i23 : Int) (l29 : List ((List Int))) (l30 : List (Int × Int × Int × Int)) (i25 : Int) (i26 : Int) (r33 : Int × Int × Int) : Option Bool :=
  chk (decide (0 ≤ (0 : Int)) && (decide ((0 : Int) ≤ i43) && decide (i43 ≤ (r40.length : Int)))) <| chk (room 32 (([] : List (Int × (List Int))).length + (List.drop (0 : Int).toNat (List.take (i43 : Int).toNat r40)).length)) <| chk (in64 i24) <| chk ((l28.length : Int) != 0) <| chk (room 32 ((([] : List (Int × (List Int))) ++ (List.drop (0 : Int).toNat (List.take (i43 : Int).toNat r40))).length + ([(((1 : Int) + (Int.tmod i23 30)), ([(Int.tmod i24 (l28.length : Int))] : List Int))] : List (Int × (List Int))).length)) <| chk (decide (0 ≤ (i43 : Int)) && (decide ((i43 : Int) ≤ (r40.length : Int)) && decide ((r40.length : Int) ≤ (r40.length : Int)))) <| chk (room 32 (((([] : List (Int × (List Int))) ++ (List.drop (0 : Int).toNat (List.take (i43 : Int).toNat r40))) ++ ([(((1 : Int) + (Int.tmod i23 30)), ([(Int.tmod i24 (l28.length : Int))] : List Int))] : List (Int × (List Int)))).length + (List.drop (i43 : Int).toNat (List.take ((r40.length : Int) : Int).toNat r40)).length)) <| (ev_law11_copied n l28 l29 l30 i25 i26).bind fun r44 => (ev_round_Stops n r44.1 r44.2.1 r44.2.2.1 r44.2.2.2.1 r44.2.2.2.2 (((([] : List (Int × (List Int))) ++ (List.drop (0 : Int).toNat (List.take (i43 : Int).toNat r40))) ++ ([(((1 : Int) + (Int.tmod i23 30)), ([(Int.tmod i24 (l28.length : Int))] : List Int))] : List (Int × (List Int)))) ++ (List.drop (i43 : Int).toNat (List.take ((r40.length : Int) : Int).toNat r40))) 30).bind fun r45 => cond (r45.2.2 == 0) (cond (r45.2.1 == 0) ((ev_law11_known n).bind fun r46 => some r46) (cond (decide ((0 : Int) < r33.2.1)) (cond (decide (r33.2.1 ≤ r45.2.1)) ((ev_law11_known n).bind fun r47 => some r47) (some false)) (some false))) (some false)
theorem ok_law11_RoundStops_j10 {n : Nat} {w0 : World} {R0 : Nat → Prop} {env0 : Env} {r : Bool} {r33 : Int × Int × Int} {i23 : Int} {i43 : Int} {i24 : Int} {i25 : Int} {i26 : Int} {r40 : (List (Int × (List Int)))} {l28 : List (Int × Int × Int × Int × Int)} {l29 : List ((List Int))} {l30 : List (Int × Int × Int × Int)} (h : ev_law11_RoundStops_j10 n i43 r40 i24 l28 i23 l29 l30 i25 i26 r33 = some r) : TC Try.prog ⟨w0, fun _ => False, R0⟩ 265 (bodyPost Try.prog Try.f7 (Post ⟨w0, fun _ => False, R0⟩ env0 (.val (.bool r)) [])) [.code (sub (bodyOf Try.f7) [1, 1, 1, 1, 1, 1, 1, 1, 1, 1, 0, 1, 0]), .code (sub (bodyOf Try.f7) [1, 1, 1, 1, 1, 1, 1, 1, 1, 1, 1])] ([(5, .ptr 5 0), (7, .ptr 10 0), (10, vi 30), (13, vi r33.2.1), (19, .ref 20), (20, vi ((1 : Int) + (Int.tmod i23 30))), (21, vi i43)]) ([.blk 5 [.val (.int .u8 i23), .val (.int .u8 i24)] 79, .blk 10 [.ref 6, .ref 7, .ref 8, vi i25, vi i26] 26, .row 20 32 2 (List.map en_api_RoundDay r40), .ro 6 5 (List.map en_api_RoundTower l28), .ro 7 1 (List.map en_Lint l29), .ro 8 4 (List.map en_api_RoundWinder l30)]) := by
  rw [ev_law11_RoundStops_j10] at h
  refine TC.freeze 2 rfl ?_
  obtain ⟨h58, h⟩ := chk_inv h
  obtain ⟨h59, h⟩ := chk_inv h
  obtain ⟨h60, h⟩ := chk_inv h
  obtain ⟨h61, h⟩ := chk_inv h
  obtain ⟨h62, h⟩ := chk_inv h
  obtain ⟨h63, h⟩ := chk_inv h
  refine drawJ 20 [⟨.ref 27, [.row 27 32 2 (List.map en_api_RoundDay ([] : List (Int × (List Int))))], [], []⟩, ⟨.ref 20, [], [], []⟩, ⟨vi i43, [], [], []⟩, ⟨.ref 28, [.ro 28 2 (List.map en_api_RoundDay (List.drop (0 : Int).toNat (List.take (i43 : Int).toNat r40)))], [.ro 20 2 (List.map en_api_RoundDay r40)], []⟩, ⟨.ref 29, [.row 29 32 2 (List.map en_api_RoundDay (([] : List (Int × (List Int))) ++ (List.drop (0 : Int).toNat (List.take (i43 : Int).toNat r40))))], [.ro 28 2 (List.map en_api_RoundDay (List.drop (0 : Int).toNat (List.take (i43 : Int).toNat r40)))], [.row 27 32 2 (List.map en_api_RoundDay ([] : List (Int × (List Int))))]⟩, ⟨vi ((1 : Int) + (Int.tmod i23 30)), [], [], []⟩, ⟨.ptr 5 1, [], [.blk 5 [.val (.int .u8 i23), .val (.int .u8 i24)] 79], []⟩, ⟨.val (.int .u8 i24), [], [.blk 5 [.val (.int .u8 i23), .val (.int .u8 i24)] 79], []⟩, ⟨vi i24, [], [], []⟩, ⟨.ptr 10 0, [], [.blk 10 [.ref 6, .ref 7, .ref 8, vi i25, vi i26] 26], []⟩, ⟨.ref 6, [], [.blk 10 [.ref 6, .ref 7, .ref 8, vi i25, vi i26] 26], []⟩, ⟨vi (l28.length : Int), [], [.ro 6 5 (List.map en_api_RoundTower l28)], []⟩, ⟨vi (Int.tmod i24 (l28.length : Int)), [], [], []⟩, ⟨.ref 30, [.ro 30 1 (List.map en_int ([(Int.tmod i24 (l28.length : Int))] : List Int))], [], []⟩, ⟨.agg [vi ((1 : Int) + (Int.tmod i23 30)), .ref 30], [], [], []⟩, ⟨.ref 31, [.row 31 32 2 (List.map en_api_RoundDay ([(((1 : Int) + (Int.tmod i23 30)), ([(Int.tmod i24 (l28.length : Int))] : List Int))] : List (Int × (List Int))))], [.ro 30 1 (List.map en_int ([(Int.tmod i24 (l28.length : Int))] : List Int))], []⟩, ⟨.ref 32, [.row 32 32 2 (List.map en_api_RoundDay ((([] : List (Int × (List Int))) ++ (List.drop (0 : Int).toNat (List.take (i43 : Int).toNat r40))) ++ ([(((1 : Int) + (Int.tmod i23 30)), ([(Int.tmod i24 (l28.length : Int))] : List Int))] : List (Int × (List Int)))))], [.row 31 32 2 (List.map en_api_RoundDay ([(((1 : Int) + (Int.tmod i23 30)), ([(Int.tmod i24 (l28.length : Int))] : List Int))] : List (Int × (List Int))))], [.row 29 32 2 (List.map en_api_RoundDay (([] : List (Int × (List Int))) ++ (List.drop (0 : Int).toNat (List.take (i43 : Int).toNat r40))))]⟩, ⟨.ref 20, [], [], []⟩, ⟨vi i43, [], [], []⟩, ⟨.ref 33, [.ro 33 2 (List.map en_api_RoundDay (List.drop (i43 : Int).toNat (List.take ((r40.length : Int) : Int).toNat r40)))], [.ro 20 2 (List.map en_api_RoundDay r40)], []⟩] rfl ?_ rfl ?_ rfl ?_ ?_
  · kernel_rfl
  · kernel_rfl
  · exact DAll.op' (sp_emptyM 27 (List.map en_api_RoundDay []) rfl rfl sl27) trivial rfl (From.ok (ps := []) trivial) (DAll.op' (sp_move rfl rfl) trivial rfl (From.ok (ps := []) trivial) (DAll.op' (sp_move rfl rfl) trivial rfl (From.ok (ps := []) trivial) (DAll.op' (sp_sliceM (l := 0) (h := i43) 28 (len_map _ _) rfl rfl sl27 cut_none (cut_some rfl) h58 (map_cut _ _ _ _)) trivial rfl (From.ok (ps := [(none, 2)]) ⟨⟨rfl, by kernel_rfl⟩, trivial⟩) (DAll.opT (ts_append (N := ([] : List (Int × (List Int))).length) (N2 := (List.drop (0 : Int).toNat (List.take (i43 : Int).toNat r40)).length) 29 rfl rfl rfl isRo rfl sl27 (len_map _ _) (len_map _ _) h59 (map_app _ _ _) rfl) trivial (From.ok (ps := [(some 0, 0)]) ⟨⟨_, rfl, by kernel_rfl, rfl, by kernel_rfl⟩, trivial⟩) (From.ok (ps := [(some 3, 0)]) ⟨⟨_, rfl, by kernel_rfl, rfl, by kernel_rfl⟩, trivial⟩) (DAll.op' (sp_move rfl rfl) trivial rfl (From.ok (ps := []) trivial) (DAll.op' (sp_indexA (len := 2) (iv := 1) rfl isBlk rfl rfl Try.underlying79 vt5 (by decide)) trivial rfl (From.ok (ps := [(none, 0)]) ⟨⟨rfl, by kernel_rfl⟩, trivial⟩) (DAll.op' (sp_loadB rfl isBlk rfl vt5 rfl) trivial rfl (From.ok (ps := [(none, 0)]) ⟨⟨rfl, by kernel_rfl⟩, trivial⟩) (DAll.op' (sp_conv rfl Try.underlying5 Try.underlying3 rfl h60) trivial rfl (From.ok (ps := []) trivial) (DAll.op' (sp_fieldAddrB rfl isBlk rfl ft26_0 vt22 (by decide)) trivial rfl (From.ok (ps := [(none, 1)]) ⟨⟨rfl, by kernel_rfl⟩, trivial⟩) (DAll.op' (sp_loadB rfl isBlk rfl vt22 rfl) trivial rfl (From.ok (ps := [(none, 1)]) ⟨⟨rfl, by kernel_rfl⟩, trivial⟩) (DAll.op' (sp_lenM (N := l28.length) (len_map _ _) rfl rfl isRo Try.underlying22) trivial rfl (From.ok (ps := [(none, 3)]) ⟨⟨rfl, by kernel_rfl⟩, trivial⟩) (DAll.op' (sp_rem rfl rfl rfl h61) trivial rfl (From.ok (ps := []) trivial) (DAll.op' (OpSpec.froz (news := [.row 30 3 1 (List.map en_int ([(Int.tmod i24 (l28.length : Int))] : List Int))]) 0 rfl (sp_buildSlice (qs := [vi (Int.tmod i24 (l28.length : Int))]) (need := []) (els := List.map en_int ([(Int.tmod i24 (l28.length : Int))] : List Int)) 30 rfl sl30 (by decide) (by decide) rfl rfl rfl (.v (.nil)) (map_len fun _ => rfl) rfl rfl rfl)) trivial rfl (From.ok (ps := []) trivial) (DAll.op' (sp_build (qs := [(0, vi ((1 : Int) + (Int.tmod i23 30))), (1, .ref 30)]) rfl bt32 rfl rfl rfl rfl) trivial rfl (From.ok (ps := []) trivial) (DAll.op' (sp_buildSlice (qs := [.agg [vi ((1 : Int) + (Int.tmod i23 30)), .ref 30]]) (need := [.ro 30 1 (List.map en_int ([(Int.tmod i24 (l28.length : Int))] : List Int))]) (els := List.map en_api_RoundDay ([(((1 : Int) + (Int.tmod i23 30)), ([(Int.tmod i24 (l28.length : Int))] : List Int))] : List (Int × (List Int)))) 31 rfl sl27 (by decide) (by decide) rfl rfl rfl (.v (.s (mem_at 0 rfl) (.nil))) (map_len fun _ => rfl) rfl rfl rfl) trivial rfl (From.ok (ps := [(some 13, 0)]) ⟨⟨_, rfl, by kernel_rfl, rfl, by kernel_rfl⟩, trivial⟩) (DAll.opT (ts_append (N := (([] : List (Int × (List Int))) ++ (List.drop (0 : Int).toNat (List.take (i43 : Int).toNat r40))).length) (N2 := ([(((1 : Int) + (Int.tmod i23 30)), ([(Int.tmod i24 (l28.length : Int))] : List Int))] : List (Int × (List Int))).length) 32 rfl rfl rfl isOwn rfl sl27 (len_map _ _) (len_map _ _) h62 (map_app _ _ _) rfl) trivial (From.ok (ps := [(some 4, 0)]) ⟨⟨_, rfl, by kernel_rfl, rfl, by kernel_rfl⟩, trivial⟩) (From.ok (ps := [(some 15, 0)]) ⟨⟨_, rfl, by kernel_rfl, rfl, by kernel_rfl⟩, trivial⟩) (DAll.op' (sp_move rfl rfl) trivial rfl (From.ok (ps := []) trivial) (DAll.op' (sp_move rfl rfl) trivial rfl (From.ok (ps := []) trivial) (DAll.op' (sp_sliceM (l := i43) (h := (r40.length : Int)) 33 (len_map _ _) rfl rfl sl27 (cut_some rfl) cut_none h63 (map_cut _ _ _ _)) trivial rfl (From.ok (ps := [(none, 2)]) ⟨⟨rfl, by kernel_rfl⟩, trivial⟩) (.nil))))))))))))))))))))
  obtain ⟨h64, h⟩ := chk_inv h
  refine appM 1 0 (N := ((([] : List (Int × (List Int))) ++ (List.drop (0 : Int).toNat (List.take (i43 : Int).toNat r40))) ++ ([(((1 : Int) + (Int.tmod i23 30)), ([(Int.tmod i24 (l28.length : Int))] : List Int))] : List (Int × (List Int)))).length) (N2 := (List.drop (i43 : Int).toNat (List.take ((r40.length : Int) : Int).toNat r40)).length) 34 rfl rfl trivial rfl rfl rfl rfl rfl isRo rfl sl27 (len_map _ _) (len_map _ _) h64 (map_app _ _ _) rfl ?_
  refine op0 (sp_assign rfl rfl) rfl trivial rfl rfl ?_
  refine TL.nil ?_
  refine TC.seq ?_
  refine TC.region ?_
  refine op1 6 rfl (sp_loadBA rfl isBlk rfl vt26 rfl rfl) rfl trivial rfl rfl ?_
  obtain ⟨r44, h65, h⟩ := bind_inv h
  refine opN (need := [.ro 6 5 (List.map en_api_RoundTower l28), .ro 7 1 (List.map en_Lint l29), .ro 8 4 (List.map en_api_RoundWinder l30)]) [8, 9, 10] ⟨rfl, rfl, rfl, trivial⟩ (sp_call (avs := [.agg [.ref 6, .ref 7, .ref 8, vi i25, vi i26]]) (need := [.ro 6 5 (List.map en_api_RoundTower l28), .ro 7 1 (List.map en_Lint l29), .ro 8 4 (List.map en_api_RoundWinder l30)]) (v := .agg [.ref 35, .ref 36, .ref 37, vi r44.2.2.2.1, vi r44.2.2.2.2]) (news := [.row 35 46 5 (List.map en_api_RoundTower r44.1), .row 36 30 1 (List.map en_Lint r44.2.1), .row 37 76 4 (List.map en_api_RoundWinder r44.2.2.1)]) rfl rfl rfl Try.call12 (atJ [(0, 6), (1, 7), (2, 8)] [(0, 35), (1, 36), (2, 37)] (fc_law11_copied h65) rfl rfl) (.inl (roAll rfl))) rfl trivial rfl rfl ?_
  refine op0 (sp_move rfl rfl) rfl trivial rfl rfl ?_
  refine op0 (sp_move rfl rfl) rfl trivial rfl rfl ?_
  obtain ⟨r45, h66, h⟩ := bind_inv h
  refine opN (need := [.row 35 46 5 (List.map en_api_RoundTower r44.1), .row 36 30 1 (List.map en_Lint r44.2.1), .row 37 76 4 (List.map en_api_RoundWinder r44.2.2.1), .row 34 32 2 (List.map en_api_RoundDay (((([] : List (Int × (List Int))) ++ (List.drop (0 : Int).toNat (List.take (i43 : Int).toNat r40))) ++ ([(((1 : Int) + (Int.tmod i23 30)), ([(Int.tmod i24 (l28.length : Int))] : List Int))] : List (Int × (List Int)))) ++ (List.drop (i43 : Int).toNat (List.take ((r40.length : Int) : Int).toNat r40))))]) [0, 1, 2, 3] ⟨rfl, rfl, rfl, rfl, trivial⟩ (sp_call (avs := [.agg [.ref 35, .ref 36, .ref 37, vi r44.2.2.2.1, vi r44.2.2.2.2], .ref 34, vi 30]) (need := [.row 35 46 5 (List.map en_api_RoundTower r44.1), .row 36 30 1 (List.map en_Lint r44.2.1), .row 37 76 4 (List.map en_api_RoundWinder r44.2.2.1), .row 34 32 2 (List.map en_api_RoundDay (((([] : List (Int × (List Int))) ++ (List.drop (0 : Int).toNat (List.take (i43 : Int).toNat r40))) ++ ([(((1 : Int) + (Int.tmod i23 30)), ([(Int.tmod i24 (l28.length : Int))] : List Int))] : List (Int × (List Int)))) ++ (List.drop (i43 : Int).toNat (List.take ((r40.length : Int) : Int).toNat r40))))]) (v := .tup [vi r45.1, vi r45.2.1, vi r45.2.2]) (news := []) rfl rfl rfl Try.call13 (atJ [(0, 35), (1, 36), (2, 37), (3, 34)] [] (fc_round_Stops h66) rfl rfl) (.inr (fun x hx => nomatch hx))) rfl trivial rfl rfl ?_
  refine op0 (sp_move rfl rfl) rfl trivial rfl rfl ?_
  refine op0 (sp_extract rfl rfl rfl) rfl trivial rfl rfl ?_
  refine op0 (sp_extract rfl rfl rfl) rfl trivial rfl rfl ?_
  refine op0 (sp_extract rfl rfl rfl) rfl trivial rfl rfl ?_
  refine op0 (sp_assign rfl rfl) rfl trivial rfl rfl ?_
  refine op0 (sp_assign rfl rfl) rfl trivial rfl rfl ?_
  refine op0 (sp_assign rfl rfl) rfl trivial rfl rfl ?_
  refine TL.nil ?_
  refine TC.seq ?_
  refine TC.region ?_
  refine op0 (sp_move rfl rfl) rfl trivial rfl rfl ?_
  refine op0 (sp_eql rfl rfl rfl) rfl trivial rfl rfl ?_
  refine op0 (sp_move rfl rfl) rfl trivial rfl rfl ?_
  rcases cond_cases h with ⟨h67, h⟩ | ⟨h67, h⟩
  · refine (boolLit 249 rfl h67).2 ?_
    refine op0 (sp_move rfl rfl) rfl ⟨_, rfl, rfl⟩ rfl rfl ?_
    refine op0 (sp_eql rfl rfl rfl) rfl ⟨_, rfl, rfl⟩ rfl rfl ?_
    refine op0 (sp_move rfl rfl) rfl ⟨_, rfl, rfl⟩ rfl rfl ?_
    rcases cond_cases h with ⟨h68, h⟩ | ⟨h68, h⟩
    · refine (boolLit 252 rfl h68).2 ?_
      refine opSkip rfl ⟨_, rfl, .inl rfl⟩ rfl ?_
      refine opSkip rfl ⟨_, rfl, .inl rfl⟩ rfl ?_
      refine opSkip rfl ⟨_, rfl, .inl rfl⟩ rfl ?_
      refine opSkip rfl ⟨_, rfl, .inr rfl⟩ rfl ?_
      refine opSkip rfl ⟨_, rfl, .inr rfl⟩ rfl ?_
      refine opSkip rfl ⟨_, rfl, .inr rfl⟩ rfl ?_
      refine opSkip rfl ⟨_, rfl, .inl rfl⟩ rfl ?_
      refine op0 (sp_pickT rfl rfl rfl) rfl ⟨_, rfl, rfl⟩ rfl rfl ?_
      refine op0 (sp_pickT rfl rfl rfl) rfl trivial rfl rfl ?_
      refine op0 (sp_move rfl rfl) rfl trivial rfl rfl ?_
      obtain ⟨r46, h69, h⟩ := bind_inv h
      refine op0 (sp_call (avs := []) (need := []) (v := .val (.bool r46)) (news := []) rfl rfl rfl Try.call9 (atJ [] [] (fc_law11_known h69) rfl rfl) (.inl (roAll rfl))) rfl ⟨_, rfl, rfl⟩ rfl rfl ?_
      refine op0 (sp_pickT rfl rfl rfl) rfl trivial rfl rfl ?_
      refine op0 (sp_assign rfl rfl) rfl trivial rfl rfl ?_
      refine TL.nil ?_
      cases h
      exact retJ [] (.tmp rfl .nil) rfl trivial rfl rfl
    · refine (boolLit 252 rfl h68).2 ?_
      refine op0 (sp_move rfl rfl) rfl ⟨_, rfl, rfl⟩ rfl rfl ?_
      refine op0 (sp_gtr rfl rfl rfl) rfl ⟨_, rfl, rfl⟩ rfl rfl ?_
      refine op0 (sp_move rfl rfl) rfl ⟨_, rfl, rfl⟩ rfl rfl ?_
      rcases cond_cases h with ⟨h70, h⟩ | ⟨h70, h⟩
      · refine (boolLit 255 rfl h70).2 ?_
        refine op0 (sp_move rfl rfl) rfl ⟨_, rfl, rfl⟩ rfl rfl ?_
        refine op0 (sp_move rfl rfl) rfl ⟨_, rfl, rfl⟩ rfl rfl ?_
        refine op0 (sp_geq rfl rfl rfl) rfl ⟨_, rfl, rfl⟩ rfl rfl ?_
        refine op0 (sp_pickT rfl rfl rfl) rfl ⟨_, rfl, rfl⟩ rfl rfl ?_
        refine op0 (sp_pickF rfl rfl rfl) rfl ⟨_, rfl, rfl⟩ rfl rfl ?_
        refine op0 (sp_pickT rfl rfl rfl) rfl trivial rfl rfl ?_
        refine op0 (sp_move rfl rfl) rfl trivial rfl rfl ?_
        rcases cond_cases h with ⟨h71, h⟩ | ⟨h71, h⟩
        · refine (boolLit 262 rfl h71).2 ?_
          obtain ⟨r47, h72, h⟩ := bind_inv h
          refine op0 (sp_call (avs := []) (need := []) (v := .val (.bool r47)) (news := []) rfl rfl rfl Try.call9 (atJ [] [] (fc_law11_known h72) rfl rfl) (.inl (roAll rfl))) rfl ⟨_, rfl, rfl⟩ rfl rfl ?_
          refine op0 (sp_pickT rfl rfl rfl) rfl trivial rfl rfl ?_
          refine op0 (sp_assign rfl rfl) rfl trivial rfl rfl ?_
          refine TL.nil ?_
          cases h
          exact retJ [] (.tmp rfl .nil) rfl trivial rfl rfl
        · refine (boolLit 262 rfl h71).2 ?_
          refine opSkip rfl ⟨_, rfl, .inl rfl⟩ rfl ?_
          refine op0 (sp_pickF rfl rfl rfl) rfl trivial rfl rfl ?_
          refine op0 (sp_assign rfl rfl) rfl trivial rfl rfl ?_
          refine TL.nil ?_
          cases h
          exact retJ [] (.tmp rfl .nil) rfl trivial rfl rfl
      · refine (boolLit 255 rfl h70).2 ?_
        refine opSkip rfl ⟨_, rfl, .inl rfl⟩ rfl ?_
        refine opSkip rfl ⟨_, rfl, .inl rfl⟩ rfl ?_
        refine opSkip rfl ⟨_, rfl, .inl rfl⟩ rfl ?_
        refine op0 (sp_pickF rfl rfl rfl) rfl ⟨_, rfl, rfl⟩ rfl rfl ?_
        refine op0 (sp_pickF rfl rfl rfl) rfl ⟨_, rfl, rfl⟩ rfl rfl ?_
        refine op0 (sp_pickT rfl rfl rfl) rfl trivial rfl rfl ?_
        refine op0 (sp_move rfl rfl) rfl trivial rfl rfl ?_
        refine opSkip rfl ⟨_, rfl, .inl rfl⟩ rfl ?_
        refine op0 (sp_pickF rfl rfl rfl) rfl trivial rfl rfl ?_
        refine op0 (sp_assign rfl rfl) rfl trivial rfl rfl ?_
        refine TL.nil ?_
        cases h
        exact retJ [] (.tmp rfl .nil) rfl trivial rfl rfl
  · refine (boolLit 249 rfl h67).2 ?_
    refine opSkip rfl ⟨_, rfl, .inl rfl⟩ rfl ?_
    refine opSkip rfl ⟨_, rfl, .inl rfl⟩ rfl ?_
    refine opSkip rfl ⟨_, rfl, .inl rfl⟩ rfl ?_
    refine opSkip rfl ⟨_, rfl, .inr rfl⟩ rfl ?_
    refine opSkip rfl ⟨_, rfl, .inr rfl⟩ rfl ?_
    refine opSkip rfl ⟨_, rfl, .inr rfl⟩ rfl ?_
    refine opSkip rfl ⟨_, rfl, .inr rfl⟩ rfl ?_
    refine opSkip rfl ⟨_, rfl, .inr rfl⟩ rfl ?_
    refine opSkip rfl ⟨_, rfl, .inr rfl⟩ rfl ?_
    refine opSkip rfl ⟨_, rfl, .inr rfl⟩ rfl ?_
    refine opSkip rfl ⟨_, rfl, .inl rfl⟩ rfl ?_
    refine op0 (sp_pickF rfl rfl rfl) rfl trivial rfl rfl ?_
    refine op0 (sp_move rfl rfl) rfl trivial rfl rfl ?_
    refine opSkip rfl ⟨_, rfl, .inl rfl⟩ rfl ?_
    refine op0 (sp_pickF rfl rfl rfl) rfl trivial rfl rfl ?_
    refine op0 (sp_assign rfl rfl) rfl trivial rfl rfl ?_
    refine TL.nil ?_
    cases h
    exact retJ [] (.tmp rfl .nil) rfl trivial rfl rfl
def ev_law11_RoundStops_j12 (n : Nat) (r33 : Int × Int × Int) (i49 : Int) (i50 : Int) (l51 : List (Int × (List Int))) (l52 : List (Int × Int × Int × Int × Int)) (l53 : List ((List Int))) (l54 : List (Int × Int × Int × Int)) : Option Bool :=
  (ev_law11_copied n l52 l53 l54 i49 i50).bind fun r55 => (ev_round_Stops n r55.1 r55.2.1 r55.2.2.1 r55.2.2.2.1 r55.2.2.2.2 l51 30).bind fun r56 => cond (r56.2.2 == 0) (cond (r56.2.1 == 0) ((ev_law11_known n).bind fun r57 => some r57) (cond (decide ((0 : Int) < r33.2.1)) (cond (decide (r33.2.1 ≤ r56.2.1)) ((ev_law11_known n).bind fun r58 => some r58) (some false)) (some false))) (some false)
theorem ok_law11_RoundStops_j12 {n : Nat} {w0 : World} {R0 : Nat → Prop} {env0 : Env} {r : Bool} {r33 : Int × Int × Int} {i49 : Int} {i50 : Int} {l51 : List (Int × (List Int))} {l52 : List (Int × Int × Int × Int × Int)} {l53 : List ((List Int))} {l54 : List (Int × Int × Int × Int)} (h : ev_law11_RoundStops_j12 n r33 i49 i50 l51 l52 l53 l54 = some r) : TC Try.prog ⟨w0, fun _ => False, R0⟩ 265 (bodyPost Try.prog Try.f7 (Post ⟨w0, fun _ => False, R0⟩ env0 (.val (.bool r)) [])) [.code (sub (bodyOf Try.f7) [1, 1, 1, 1, 1, 1, 1, 1, 1, 1, 1, 0]), .code (sub (bodyOf Try.f7) [1, 1, 1, 1, 1, 1, 1, 1, 1, 1, 1, 1])] ([(7, .ptr 10 0), (10, vi 30), (13, vi r33.2.1), (19, .ref 20)]) ([.blk 10 [.ref 6, .ref 7, .ref 8, vi i49, vi i50] 26, .row 20 32 2 (List.map en_api_RoundDay l51), .ro 6 5 (List.map en_api_RoundTower l52), .ro 7 1 (List.map en_Lint l53), .ro 8 4 (List.map en_api_RoundWinder l54)]) := by
  rw [ev_law11_RoundStops_j12] at h
  refine TC.region ?_
  refine op1 0 rfl (sp_loadBA rfl isBlk rfl vt26 rfl rfl) rfl trivial rfl rfl ?_
  obtain ⟨r55, h76, h⟩ := bind_inv h
  refine opN (need := [.ro 6 5 (List.map en_api_RoundTower l52), .ro 7 1 (List.map en_Lint l53), .ro 8 4 (List.map en_api_RoundWinder l54)]) [2, 3, 4] ⟨rfl, rfl, rfl, trivial⟩ (sp_call (avs := [.agg [.ref 6, .ref 7, .ref 8, vi i49, vi i50]]) (need := [.ro 6 5 (List.map en_api_RoundTower l52), .ro 7 1 (List.map en_Lint l53), .ro 8 4 (List.map en_api_RoundWinder l54)]) (v := .agg [.ref 38, .ref 39, .ref 40, vi r55.2.2.2.1, vi r55.2.2.2.2]) (news := [.row 38 46 5 (List.map en_api_RoundTower r55.1), .row 39 30 1 (List.map en_Lint r55.2.1), .row 40 76 4 (List.map en_api_RoundWinder r55.2.2.1)]) rfl rfl rfl Try.call12 (atJ [(0, 6), (1, 7), (2, 8)] [(0, 38), (1, 39), (2, 40)] (fc_law11_copied h76) rfl rfl) (.inl (roAll rfl))) rfl trivial rfl rfl ?_
  refine op0 (sp_move rfl rfl) rfl trivial rfl rfl ?_
  refine op0 (sp_move rfl rfl) rfl trivial rfl rfl ?_
  obtain ⟨r56, h77, h⟩ := bind_inv h
  refine opN (need := [.row 38 46 5 (List.map en_api_RoundTower r55.1), .row 39 30 1 (List.map en_Lint r55.2.1), .row 40 76 4 (List.map en_api_RoundWinder r55.2.2.1), .row 20 32 2 (List.map en_api_RoundDay l51)]) [0, 1, 2, 4] ⟨rfl, rfl, rfl, rfl, trivial⟩ (sp_call (avs := [.agg [.ref 38, .ref 39, .ref 40, vi r55.2.2.2.1, vi r55.2.2.2.2], .ref 20, vi 30]) (need := [.row 38 46 5 (List.map en_api_RoundTower r55.1), .row 39 30 1 (List.map en_Lint r55.2.1), .row 40 76 4 (List.map en_api_RoundWinder r55.2.2.1), .row 20 32 2 (List.map en_api_RoundDay l51)]) (v := .tup [vi r56.1, vi r56.2.1, vi r56.2.2]) (news := []) rfl rfl rfl Try.call13 (atJ [(0, 38), (1, 39), (2, 40), (3, 20)] [] (fc_round_Stops h77) rfl rfl) (.inr (fun x hx => nomatch hx))) rfl trivial rfl rfl ?_
  refine op0 (sp_move rfl rfl) rfl trivial rfl rfl ?_
  refine op0 (sp_extract rfl rfl rfl) rfl trivial rfl rfl ?_
  refine op0 (sp_extract rfl rfl rfl) rfl trivial rfl rfl ?_
  refine op0 (sp_extract rfl rfl rfl) rfl trivial rfl rfl ?_
  refine op0 (sp_assign rfl rfl) rfl trivial rfl rfl ?_
  refine op0 (sp_assign rfl rfl) rfl trivial rfl rfl ?_
  refine op0 (sp_assign rfl rfl) rfl trivial rfl rfl ?_
  refine TL.nil ?_
  refine TC.seq ?_
  refine TC.region ?_
  refine op0 (sp_move rfl rfl) rfl trivial rfl rfl ?_
  refine op0 (sp_eql rfl rfl rfl) rfl trivial rfl rfl ?_
  refine op0 (sp_move rfl rfl) rfl trivial rfl rfl ?_
  rcases cond_cases h with ⟨h78, h⟩ | ⟨h78, h⟩
  · refine (boolLit 249 rfl h78).2 ?_
    refine op0 (sp_move rfl rfl) rfl ⟨_, rfl, rfl⟩ rfl rfl ?_
    refine op0 (sp_eql rfl rfl rfl) rfl ⟨_, rfl, rfl⟩ rfl rfl ?_
    refine op0 (sp_move rfl rfl) rfl ⟨_, rfl, rfl⟩ rfl rfl ?_
    rcases cond_cases h with ⟨h79, h⟩ | ⟨h79, h⟩
    · refine (boolLit 252 rfl h79).2 ?_
      refine opSkip rfl ⟨_, rfl, .inl rfl⟩ rfl ?_
      refine opSkip rfl ⟨_, rfl, .inl rfl⟩ rfl ?_
      refine opSkip rfl ⟨_, rfl, .inl rfl⟩ rfl ?_
      refine opSkip rfl ⟨_, rfl, .inr rfl⟩ rfl ?_
      refine opSkip rfl ⟨_, rfl, .inr rfl⟩ rfl ?_
      refine opSkip rfl ⟨_, rfl, .inr rfl⟩ rfl ?_
      refine opSkip rfl ⟨_, rfl, .inl rfl⟩ rfl ?_
      refine op0 (sp_pickT rfl rfl rfl) rfl ⟨_, rfl, rfl⟩ rfl rfl ?_
      refine op0 (sp_pickT rfl rfl rfl) rfl trivial rfl rfl ?_
      refine op0 (sp_move rfl rfl) rfl trivial rfl rfl ?_
      obtain ⟨r57, h80, h⟩ := bind_inv h
      refine op0 (sp_call (avs := []) (need := []) (v := .val (.bool r57)) (news := []) rfl rfl rfl Try.call9 (atJ [] [] (fc_law11_known h80) rfl rfl) (.inl (roAll rfl))) rfl ⟨_, rfl, rfl⟩ rfl rfl ?_
      refine op0 (sp_pickT rfl rfl rfl) rfl trivial rfl rfl ?_
      refine op0 (sp_assign rfl rfl) rfl trivial rfl rfl ?_
      refine TL.nil ?_
      cases h
      exact retJ [] (.tmp rfl .nil) rfl trivial rfl rfl
    · refine (boolLit 252 rfl h79).2 ?_
      refine op0 (sp_move rfl rfl) rfl ⟨_, rfl, rfl⟩ rfl rfl ?_
      refine op0 (sp_gtr rfl rfl rfl) rfl ⟨_, rfl, rfl⟩ rfl rfl ?_
      refine op0 (sp_move rfl rfl) rfl ⟨_, rfl, rfl⟩ rfl rfl ?_
      rcases cond_cases h with ⟨h81, h⟩ | ⟨h81, h⟩
      · refine (boolLit 255 rfl h81).2 ?_
        refine op0 (sp_move rfl rfl) rfl ⟨_, rfl, rfl⟩ rfl rfl ?_
        refine op0 (sp_move rfl rfl) rfl ⟨_, rfl, rfl⟩ rfl rfl ?_
        refine op0 (sp_geq rfl rfl rfl) rfl ⟨_, rfl, rfl⟩ rfl rfl ?_
        refine op0 (sp_pickT rfl rfl rfl) rfl ⟨_, rfl, rfl⟩ rfl rfl ?_
        refine op0 (sp_pickF rfl rfl rfl) rfl ⟨_, rfl, rfl⟩ rfl rfl ?_
        refine op0 (sp_pickT rfl rfl rfl) rfl trivial rfl rfl ?_
        refine op0 (sp_move rfl rfl) rfl trivial rfl rfl ?_
        rcases cond_cases h with ⟨h82, h⟩ | ⟨h82, h⟩
        · refine (boolLit 262 rfl h82).2 ?_
          obtain ⟨r58, h83, h⟩ := bind_inv h
          refine op0 (sp_call (avs := []) (need := []) (v := .val (.bool r58)) (news := []) rfl rfl rfl Try.call9 (atJ [] [] (fc_law11_known h83) rfl rfl) (.inl (roAll rfl))) rfl ⟨_, rfl, rfl⟩ rfl rfl ?_
          refine op0 (sp_pickT rfl rfl rfl) rfl trivial rfl rfl ?_
          refine op0 (sp_assign rfl rfl) rfl trivial rfl rfl ?_
          refine TL.nil ?_
          cases h
          exact retJ [] (.tmp rfl .nil) rfl trivial rfl rfl
        · refine (boolLit 262 rfl h82).2 ?_
          refine opSkip rfl ⟨_, rfl, .inl rfl⟩ rfl ?_
          refine op0 (sp_pickF rfl rfl rfl) rfl trivial rfl rfl ?_
          refine op0 (sp_assign rfl rfl) rfl trivial rfl rfl ?_
          refine TL.nil ?_
          cases h
          exact retJ [] (.tmp rfl .nil) rfl trivial rfl rfl
      · refine (boolLit 255 rfl h81).2 ?_
        refine opSkip rfl ⟨_, rfl, .inl rfl⟩ rfl ?_
        refine opSkip rfl ⟨_, rfl, .inl rfl⟩ rfl ?_
        refine opSkip rfl ⟨_, rfl, .inl rfl⟩ rfl ?_
        refine op0 (sp_pickF rfl rfl rfl) rfl ⟨_, rfl, rfl⟩ rfl rfl ?_
        refine op0 (sp_pickF rfl rfl rfl) rfl ⟨_, rfl, rfl⟩ rfl rfl ?_
        refine op0 (sp_pickT rfl rfl rfl) rfl trivial rfl rfl ?_
        refine op0 (sp_move rfl rfl) rfl trivial rfl rfl ?_
        refine opSkip rfl ⟨_, rfl, .inl rfl⟩ rfl ?_
        refine op0 (sp_pickF rfl rfl rfl) rfl trivial rfl rfl ?_
        refine op0 (sp_assign rfl rfl) rfl trivial rfl rfl ?_
        refine TL.nil ?_
        cases h
        exact retJ [] (.tmp rfl .nil) rfl trivial rfl rfl
  · refine (boolLit 249 rfl h78).2 ?_
    refine opSkip rfl ⟨_, rfl, .inl rfl⟩ rfl ?_
    refine opSkip rfl ⟨_, rfl, .inl rfl⟩ rfl ?_
    refine opSkip rfl ⟨_, rfl, .inl rfl⟩ rfl ?_
    refine opSkip rfl ⟨_, rfl, .inr rfl⟩ rfl ?_
    refine opSkip rfl ⟨_, rfl, .inr rfl⟩ rfl ?_
    refine opSkip rfl ⟨_, rfl, .inr rfl⟩ rfl ?_
    refine opSkip rfl ⟨_, rfl, .inr rfl⟩ rfl ?_
    refine opSkip rfl ⟨_, rfl, .inr rfl⟩ rfl ?_
    refine opSkip rfl ⟨_, rfl, .inr rfl⟩ rfl ?_
    refine opSkip rfl ⟨_, rfl, .inr rfl⟩ rfl ?_
    refine opSkip rfl ⟨_, rfl, .inl rfl⟩ rfl ?_
    refine op0 (sp_pickF rfl rfl rfl) rfl trivial rfl rfl ?_
    refine op0 (sp_move rfl rfl) rfl trivial rfl rfl ?_
    refine opSkip rfl ⟨_, rfl, .inl rfl⟩ rfl ?_
    refine op0 (sp_pickF rfl rfl rfl) rfl trivial rfl rfl ?_
    refine op0 (sp_assign rfl rfl) rfl trivial rfl rfl ?_
    refine TL.nil ?_
    cases h
    exact retJ [] (.tmp rfl .nil) rfl trivial rfl rfl
def ev_law11_RoundStops_j11 (n : Nat) (r33 : Int × Int × Int) (i25 : Int) (i26 : Int) (r40 : (List (Int × (List Int)))) (l28 : List (Int × Int × Int × Int × Int)) (l29 : List ((List Int))) (l30 : List (Int × Int × Int × Int)) : Option Bool :=
  ev_law11_RoundStops_j12 n r33 i25 i26 r40 l28 l29 l30
theorem ok_law11_RoundStops_j11 {n : Nat} {w0 : World} {R0 : Nat → Prop} {env0 : Env} {r : Bool} {r33 : Int × Int × Int} {i25 : Int} {i26 : Int} {r40 : (List (Int × (List Int)))} {l28 : List (Int × Int × Int × Int × Int)} {l29 : List ((List Int))} {l30 : List (Int × Int × Int × Int)} (h : ev_law11_RoundStops_j11 n r33 i25 i26 r40 l28 l29 l30 = some r) : TC Try.prog ⟨w0, fun _ => False, R0⟩ 265 (bodyPost Try.prog Try.f7 (Post ⟨w0, fun _ => False, R0⟩ env0 (.val (.bool r)) [])) [.code (sub (bodyOf Try.f7) [1, 1, 1, 1, 1, 1, 1, 1, 1, 1, 0, 1, 1]), .code (sub (bodyOf Try.f7) [1, 1, 1, 1, 1, 1, 1, 1, 1, 1, 1])] ([(7, .ptr 10 0), (10, vi 30), (13, vi r33.2.1), (19, .ref 20)]) ([.blk 10 [.ref 6, .ref 7, .ref 8, vi i25, vi i26] 26, .row 20 32 2 (List.map en_api_RoundDay r40), .ro 6 5 (List.map en_api_RoundTower l28), .ro 7 1 (List.map en_Lint l29), .ro 8 4 (List.map en_api_RoundWinder l30)]) := by
  rw [ev_law11_RoundStops_j11] at h
  refine TC.skip ?_
  refine TC.seq ?_
  refine subJ [] (ok_law11_RoundStops_j12 h) ?_ ?_ ?_
  · exact ⟨rfl, rfl, rfl, rfl, trivial⟩
  · exact ⟨mem_at 0 rfl, mem_at 1 rfl, mem_at 2 rfl, mem_at 3 rfl, mem_at 4 rfl, trivial⟩
  · rfl
def ev_law11_RoundStops_j9 (n : Nat) (r40 : (List (Int × (List Int)))) (i24 : Int) (l28 : List (Int × Int × Int × Int × Int)) (i23 : Int) (l29 : List ((List Int))) (l30 : List (Int × Int × Int × Int)) (i25 : Int) (i26 : Int) (r33 : Int × Int × Int) (i43 : Int) : Option Bool :=
  cond (i43 == (r40.length : Int)) (ev_law11_RoundStops_j10 n i43 r40 i24 l28 i23 l29 l30 i25 i26 r33) (idx r40 i43 fun x48 => cond (x48.1 != ((1 : Int) + (Int.tmod i23 30))) (ev_law11_RoundStops_j10 n i43 r40 i24 l28 i23 l29 l30 i25 i26 r33) (ev_law11_RoundStops_j11 n r33 i25 i26 r40 l28 l29 l30))
theorem ok_law11_RoundStops_j9 {n : Nat} {w0 : World} {R0 : Nat → Prop} {env0 : Env} {r : Bool} {r33 : Int × Int × Int} {i23 : Int} {i24 : Int} {i25 : Int} {i26 : Int} {r40 : (List (Int × (List Int)))} {l28 : List (Int × Int × Int × Int × Int)} {l29 : List ((List Int))} {l30 : List (Int × Int × Int × Int)} {i43 : Int} (h : ev_law11_RoundStops_j9 n r40 i24 l28 i23 l29 l30 i25 i26 r33 i43 = some r) : TC Try.prog ⟨w0, fun _ => False, R0⟩ 265 (bodyPost Try.prog Try.f7 (Post ⟨w0, fun _ => False, R0⟩ env0 (.val (.bool r)) [])) [.code (sub (bodyOf Try.f7) [1, 1, 1, 1, 1, 1, 1, 1, 1, 1, 0, 0]), .code (sub (bodyOf Try.f7) [1, 1, 1, 1, 1, 1, 1, 1, 1, 1, 0, 1]), .code (sub (bodyOf Try.f7) [1, 1, 1, 1, 1, 1, 1, 1, 1, 1, 1])] ([(5, .ptr 5 0), (7, .ptr 10 0), (10, vi 30), (13, vi r33.2.1), (19, .ref 20), (20, vi ((1 : Int) + (Int.tmod i23 30))), (21, vi i43)]) ([.blk 5 [.val (.int .u8 i23), .val (.int .u8 i24)] 79, .blk 10 [.ref 6, .ref 7, .ref 8, vi i25, vi i26] 26, .row 20 32 2 (List.map en_api_RoundDay r40), .ro 6 5 (List.map en_api_RoundTower l28), .ro 7 1 (List.map en_Lint l29), .ro 8 4 (List.map en_api_RoundWinder l30)]) := by
  rw [ev_law11_RoundStops_j9] at h
  refine TC.region ?_
  refine op0 (sp_move rfl rfl) rfl trivial rfl rfl ?_
  refine op0 (sp_move rfl rfl) rfl trivial rfl rfl ?_
  refine op1 2 rfl (sp_lenM (N := r40.length) (len_map _ _) rfl rfl isOwn Try.underlying27) rfl trivial rfl rfl ?_
  refine op0 (sp_eql rfl rfl rfl) rfl trivial rfl rfl ?_
  refine op0 (sp_move rfl rfl) rfl trivial rfl rfl ?_
  rcases cond_cases h with ⟨h53, h⟩ | ⟨h53, h⟩
  · refine (boolLit 208 rfl h53).2 ?_
    refine opSkip rfl ⟨_, rfl, .inl rfl⟩ rfl ?_
    refine opSkip rfl ⟨_, rfl, .inl rfl⟩ rfl ?_
    refine opSkip rfl ⟨_, rfl, .inl rfl⟩ rfl ?_
    refine opSkip rfl ⟨_, rfl, .inl rfl⟩ rfl ?_
    refine opSkip rfl ⟨_, rfl, .inl rfl⟩ rfl ?_
    refine opSkip rfl ⟨_, rfl, .inl rfl⟩ rfl ?_
    refine opSkip rfl ⟨_, rfl, .inl rfl⟩ rfl ?_
    refine op0 (sp_pickT rfl rfl rfl) rfl trivial rfl rfl ?_
    refine TL.nil ?_
    refine TC.condT rfl ?_
    refine subJ [] (ok_law11_RoundStops_j10 h) ?_ ?_ ?_
    · exact ⟨rfl, rfl, rfl, rfl, rfl, rfl, rfl, trivial⟩
    · exact ⟨mem_at 0 rfl, mem_at 1 rfl, mem_at 2 rfl, mem_at 3 rfl, mem_at 4 rfl, mem_at 5 rfl, trivial⟩
    · rfl
  · refine (boolLit 208 rfl h53).2 ?_
    refine op0 (sp_move rfl rfl) rfl ⟨_, rfl, rfl⟩ rfl rfl ?_
    refine op0 (sp_move rfl rfl) rfl ⟨_, rfl, rfl⟩ rfl rfl ?_
    obtain ⟨x48, h73, h74, h⟩ := idx_inv h
    refine op1 2 rfl (sp_indexS rfl rfl rfl isOwn sl27 h73 (map_get _ h74)) rfl ⟨_, rfl, rfl⟩ rfl rfl ?_
    refine op1 2 rfl (sp_fieldAddrR (i := (i43 : Int).toNat) rfl rfl isOwn ft32_0 vt3 (by decide) (map_get _ h74) (fun h => nomatch h)) rfl ⟨_, rfl, rfl⟩ rfl rfl ?_
    refine op1 2 rfl (sp_loadR (i := (i43 : Int).toNat) (j := 0) rfl rfl isOwn vt3 rfl (map_get _ h74) rfl (.v (.nil)) (nodup_of_B rfl)) rfl ⟨_, rfl, rfl⟩ rfl rfl ?_
    refine op0 (sp_move rfl rfl) rfl ⟨_, rfl, rfl⟩ rfl rfl ?_
    refine op0 (sp_neq rfl rfl rfl) rfl ⟨_, rfl, rfl⟩ rfl rfl ?_
    refine op0 (sp_pickF rfl rfl rfl) rfl trivial rfl rfl ?_
    refine TL.nil ?_
    refine TC.cond (b := (x48.1 != ((1 : Int) + (Int.tmod i23 30)))) rfl (fun h75 => ?_) (fun h75 => ?_)
    · have h := cond_t h h75
      refine subJ [] (ok_law11_RoundStops_j10 h) ?_ ?_ ?_
      · exact ⟨rfl, rfl, rfl, rfl, rfl, rfl, rfl, trivial⟩
      · exact ⟨mem_at 0 rfl, mem_at 1 rfl, mem_at 2 rfl, mem_at 3 rfl, mem_at 4 rfl, mem_at 5 rfl, trivial⟩
      · rfl
    · have h := cond_f h h75
      refine subJ [] (ok_law11_RoundStops_j11 h) ?_ ?_ ?_
      · exact ⟨rfl, rfl, rfl, rfl, trivial⟩
      · exact ⟨mem_at 1 rfl, mem_at 2 rfl, mem_at 3 rfl, mem_at 4 rfl, mem_at 5 rfl, trivial⟩
      · rfl
def ev_law11_RoundStops_l8 (n : Nat) (r40 : (List (Int × (List Int)))) (i23 : Int) (i24 : Int) (l28 : List (Int × Int × Int × Int × Int)) (l29 : List ((List Int))) (l30 : List (Int × Int × Int × Int)) (i25 : Int) (i26 : Int) (r33 : Int × Int × Int) : Nat → Int → Option Bool
  | 0, _ => none
  | m + 1, i41 => cond (decide (i41 < (r40.length : Int))) (idx r40 i41 fun x42 => cond (decide (x42.1 < ((1 : Int) + (Int.tmod i23 30)))) (chk (in64 (i41 + 1)) <| ev_law11_RoundStops_l8 n r40 i23 i24 l28 l29 l30 i25 i26 r33 m (i41 + 1)) (ev_law11_RoundStops_j9 n r40 i24 l28 i23 l29 l30 i25 i26 r33 i41)) (ev_law11_RoundStops_j9 n r40 i24 l28 i23 l29 l30 i25 i26 r33 i41)
theorem ok_law11_RoundStops_l8 {n : Nat} {w0 : World} {R0 : Nat → Prop} {env0 : Env} {r : Bool} {r33 : Int × Int × Int} {i23 : Int} {i24 : Int} {i25 : Int} {i26 : Int} {r40 : (List (Int × (List Int)))} {l28 : List (Int × Int × Int × Int × Int)} {l29 : List ((List Int))} {l30 : List (Int × Int × Int × Int)} : ∀ (m : Nat) (i41 : Int), ev_law11_RoundStops_l8 n r40 i23 i24 l28 l29 l30 i25 i26 r33 m i41 = some r → TC Try.prog ⟨w0, fun _ => False, R0⟩ 265 (bodyPost Try.prog Try.f7 (Post ⟨w0, fun _ => False, R0⟩ env0 (.val (.bool r)) [])) [.code (sub (bodyOf Try.f7) [1, 1, 1, 1, 1, 1, 1, 1, 1, 0, 0, 0, 0, 0]), .code (sub (bodyOf Try.f7) [1, 1, 1, 1, 1, 1, 1, 1, 1, 0, 0, 0, 0, 1]), .code (sub (bodyOf Try.f7) [1, 1, 1, 1, 1, 1, 1, 1, 1, 0, 0, 0, 1]), .inLoop (sub (bodyOf Try.f7) [1, 1, 1, 1, 1, 1, 1, 1, 1, 0, 0, 0]), .inBlock 6, .code (sub (bodyOf Try.f7) [1, 1, 1, 1, 1, 1, 1, 1, 1, 1])] ([(5, .ptr 5 0), (7, .ptr 10 0), (10, vi 30), (13, vi r33.2.1), (19, .ref 20), (20, vi ((1 : Int) + (Int.tmod i23 30))), (21, vi i41)]) ([.blk 5 [.val (.int .u8 i23), .val (.int .u8 i24)] 79, .blk 10 [.ref 6, .ref 7, .ref 8, vi i25, vi i26] 26, .row 20 32 2 (List.map en_api_RoundDay r40), .ro 6 5 (List.map en_api_RoundTower l28), .ro 7 1 (List.map en_Lint l29), .ro 8 4 (List.map en_api_RoundWinder l30)]) := by
  intro m
  induction m with
  | zero => intro i41 h; exact none_no h
  | succ m ih =>
    intro i41 h
    rw [ev_law11_RoundStops_l8] at h
    refine TC.region ?_
    refine op0 (sp_move rfl rfl) rfl trivial rfl rfl ?_
    refine op0 (sp_move rfl rfl) rfl trivial rfl rfl ?_
    refine op1 2 rfl (sp_lenM (N := r40.length) (len_map _ _) rfl rfl isOwn Try.underlying27) rfl trivial rfl rfl ?_
    refine op0 (sp_lss rfl rfl rfl) rfl trivial rfl rfl ?_
    refine op0 (sp_move rfl rfl) rfl trivial rfl rfl ?_
    rcases cond_cases h with ⟨h48, h⟩ | ⟨h48, h⟩
    · refine (boolLit 193 rfl h48).2 ?_
      refine op0 (sp_move rfl rfl) rfl ⟨_, rfl, rfl⟩ rfl rfl ?_
      refine op0 (sp_move rfl rfl) rfl ⟨_, rfl, rfl⟩ rfl rfl ?_
      obtain ⟨x42, h49, h50, h⟩ := idx_inv h
      refine op1 2 rfl (sp_indexS rfl rfl rfl isOwn sl27 h49 (map_get _ h50)) rfl ⟨_, rfl, rfl⟩ rfl rfl ?_
      refine op1 2 rfl (sp_fieldAddrR (i := (i41 : Int).toNat) rfl rfl isOwn ft32_0 vt3 (by decide) (map_get _ h50) (fun h => nomatch h)) rfl ⟨_, rfl, rfl⟩ rfl rfl ?_
      refine op1 2 rfl (sp_loadR (i := (i41 : Int).toNat) (j := 0) rfl rfl isOwn vt3 rfl (map_get _ h50) rfl (.v (.nil)) (nodup_of_B rfl)) rfl ⟨_, rfl, rfl⟩ rfl rfl ?_
      refine op0 (sp_move rfl rfl) rfl ⟨_, rfl, rfl⟩ rfl rfl ?_
      refine op0 (sp_lss rfl rfl rfl) rfl ⟨_, rfl, rfl⟩ rfl rfl ?_
      refine op0 (sp_pickT rfl rfl rfl) rfl trivial rfl rfl ?_
      refine TL.nil ?_
      refine TC.cond (b := (decide (x42.1 < ((1 : Int) + (Int.tmod i23 30))))) rfl (fun h51 => ?_) (fun h51 => ?_)
      · have h := cond_t h h51
        refine TC.skip ?_
        refine TC.block ?_
        refine TC.region ?_
        refine op0 (sp_move rfl rfl) rfl trivial rfl rfl ?_
        obtain ⟨h52, h⟩ := chk_inv h
        refine op0 (sp_add rfl rfl rfl h52) rfl trivial rfl rfl ?_
        refine op0 (sp_assign rfl rfl) rfl trivial rfl rfl ?_
        refine TL.nil ?_
        refine TC.inBlock ?_
        refine TC.inLoop ?_
        refine TC.seq ?_
        refine TC.seq ?_
        refine subJ [] (ih _ h) ?_ ?_ ?_
        · exact ⟨rfl, rfl, rfl, rfl, rfl, rfl, rfl, trivial⟩
        · exact ⟨mem_at 0 rfl, mem_at 1 rfl, mem_at 2 rfl, mem_at 3 rfl, mem_at 4 rfl, mem_at 5 rfl, trivial⟩
        · rfl
      · have h := cond_f h h51
        refine TC.exit rfl ?_
        refine TC.seq ?_
        refine TC.seq ?_
        refine subJ [] (ok_law11_RoundStops_j9 h) ?_ ?_ ?_
        · exact ⟨rfl, rfl, rfl, rfl, rfl, rfl, rfl, trivial⟩
        · exact ⟨mem_at 0 rfl, mem_at 1 rfl, mem_at 2 rfl, mem_at 3 rfl, mem_at 4 rfl, mem_at 5 rfl, trivial⟩
        · rfl
    · refine (boolLit 193 rfl h48).2 ?_
      refine opSkip rfl ⟨_, rfl, .inl rfl⟩ rfl ?_
      refine opSkip rfl ⟨_, rfl, .inl rfl⟩ rfl ?_
      refine opSkip rfl ⟨_, rfl, .inl rfl⟩ rfl ?_
      refine opSkip rfl ⟨_, rfl, .inl rfl⟩ rfl ?_
      refine opSkip rfl ⟨_, rfl, .inl rfl⟩ rfl ?_
      refine opSkip rfl ⟨_, rfl, .inl rfl⟩ rfl ?_
      refine opSkip rfl ⟨_, rfl, .inl rfl⟩ rfl ?_
      refine op0 (sp_pickF rfl rfl rfl) rfl trivial rfl rfl ?_
      refine TL.nil ?_
      refine TC.condF rfl ?_
      refine TC.exit rfl ?_
      refine TC.seq ?_
      refine TC.seq ?_
      refine subJ [] (ok_law11_RoundStops_j9 h) ?_ ?_ ?_
      · exact ⟨rfl, rfl, rfl, rfl, rfl, rfl, rfl, trivial⟩
      · exact ⟨mem_at 0 rfl, mem_at 1 rfl, mem_at 2 rfl, mem_at 3 rfl, mem_at 4 rfl, mem_at 5 rfl, trivial⟩
      · rfl
def ev_law11_RoundStops_j7 (n : Nat) (l27 : List (Int × (List Int))) (i23 : Int) (i24 : Int) (l28 : List (Int × Int × Int × Int × Int)) (l29 : List ((List Int))) (l30 : List (Int × Int × Int × Int)) (i25 : Int) (i26 : Int) (r33 : Int × Int × Int) : Option Bool :=
  (ev_law11_days n l27).bind fun r40 => chk (in64 i23) <| chk (in64 ((1 : Int) + (Int.tmod i23 30))) <| ev_law11_RoundStops_l8 n r40 i23 i24 l28 l29 l30 i25 i26 r33 n 0
theorem ok_law11_RoundStops_j7 {n : Nat} {w0 : World} {R0 : Nat → Prop} {env0 : Env} {r : Bool} {r33 : Int × Int × Int} {i23 : Int} {i24 : Int} {i25 : Int} {i26 : Int} {l27 : List (Int × (List Int))} {l28 : List (Int × Int × Int × Int × Int)} {l29 : List ((List Int))} {l30 : List (Int × Int × Int × Int)} (h : ev_law11_RoundStops_j7 n l27 i23 i24 l28 l29 l30 i25 i26 r33 = some r) : TC Try.prog ⟨w0, fun _ => False, R0⟩ 265 (bodyPost Try.prog Try.f7 (Post ⟨w0, fun _ => False, R0⟩ env0 (.val (.bool r)) [])) [.code (sub (bodyOf Try.f7) [1, 1, 1, 1, 1, 1, 1, 0]), .code (sub (bodyOf Try.f7) [1, 1, 1, 1, 1, 1, 1, 1])] ([(5, .ptr 5 0), (7, .ptr 10 0), (8, .ref 9), (10, vi 30), (13, vi r33.2.1)]) ([.blk 5 [.val (.int .u8 i23), .val (.int .u8 i24)] 79, .blk 10 [.ref 6, .ref 7, .ref 8, vi i25, vi i26] 26, .ro 9 2 (List.map en_api_RoundDay l27), .ro 6 5 (List.map en_api_RoundTower l28), .ro 7 1 (List.map en_Lint l29), .ro 8 4 (List.map en_api_RoundWinder l30)]) := by
  rw [ev_law11_RoundStops_j7] at h
  obtain ⟨r40, h45, h⟩ := bind_inv h
  obtain ⟨h46, h⟩ := chk_inv h
  obtain ⟨h47, h⟩ := chk_inv h
  refine drawJ 9 [⟨.ref 9, [], [], []⟩, ⟨.ref 20, [.row 20 32 2 (List.map en_api_RoundDay r40)], [.ro 9 2 (List.map en_api_RoundDay l27)], []⟩, ⟨.ptr 5 0, [], [.blk 5 [.val (.int .u8 i23), .val (.int .u8 i24)] 79], []⟩, ⟨.val (.int .u8 i23), [], [.blk 5 [.val (.int .u8 i23), .val (.int .u8 i24)] 79], []⟩, ⟨vi i23, [], [], []⟩, ⟨vi 30, [], [], []⟩, ⟨vi (Int.tmod i23 30), [], [], []⟩, ⟨vi ((1 : Int) + (Int.tmod i23 30)), [], [], []⟩, ⟨.ref 20, [], [], []⟩] rfl ?_ rfl ?_ rfl ?_ ?_
  · kernel_rfl
  · kernel_rfl
  · exact DAll.op' (sp_move rfl rfl) trivial rfl (From.ok (ps := []) trivial) (DAll.op' (sp_call (avs := [.ref 9]) (need := [.ro 9 2 (List.map en_api_RoundDay l27)]) (v := .ref 20) (news := [.row 20 32 2 (List.map en_api_RoundDay r40)]) rfl rfl rfl Try.call10 (atJ [(0, 9)] [(0, 20)] (fc_law11_days h45) rfl rfl) (.inl (roAll rfl))) trivial rfl (From.ok (ps := [(none, 2)]) ⟨⟨rfl, rfl⟩, trivial⟩) (DAll.op' (sp_indexA (len := 2) (iv := 0) rfl isBlk rfl rfl Try.underlying79 vt5 (by decide)) trivial rfl (From.ok (ps := [(none, 0)]) ⟨⟨rfl, rfl⟩, trivial⟩) (DAll.op' (sp_loadB rfl isBlk rfl vt5 rfl) trivial rfl (From.ok (ps := [(none, 0)]) ⟨⟨rfl, rfl⟩, trivial⟩) (DAll.op' (sp_conv rfl Try.underlying5 Try.underlying3 rfl h46) trivial rfl (From.ok (ps := []) trivial) (DAll.op' (sp_move rfl rfl) trivial rfl (From.ok (ps := []) trivial) (DAll.op' (sp_rem rfl rfl rfl (by decide)) trivial rfl (From.ok (ps := []) trivial) (DAll.op' (sp_add rfl rfl rfl h47) trivial rfl (From.ok (ps := []) trivial) (DAll.op' (sp_assign rfl rfl) trivial rfl (From.ok (ps := []) trivial) (.nil)))))))))
  refine op0 (sp_assign rfl rfl) rfl trivial rfl rfl ?_
  refine TL.nil ?_
  refine TC.seq ?_
  refine TC.region ?_
  refine op0 (sp_assign rfl rfl) rfl trivial rfl rfl ?_
  refine TL.nil ?_
  refine TC.seq ?_
  refine TC.block ?_
  refine TC.loop ?_
  refine TC.seq ?_
  refine TC.seq ?_
  refine subJ [] (ok_law11_RoundStops_l8 _ _ h) ?_ ?_ ?_
  · exact ⟨rfl, rfl, rfl, rfl, rfl, rfl, rfl, trivial⟩
  · exact ⟨mem_at 1 rfl, mem_at 2 rfl, mem_at 0 rfl, mem_at 4 rfl, mem_at 5 rfl, mem_at 6 rfl, trivial⟩
  · rfl
def ev_law11_RoundStops_l3 (n : Nat) (r33 : Int × Int × Int) (l28 : List (Int × Int × Int × Int × Int)) (l29 : List ((List Int))) (l30 : List (Int × Int × Int × Int)) (i25 : Int) (i26 : Int) (l27 : List (Int × (List Int))) (i23 : Int) (i24 : Int) : Nat → Int → Option Bool
  | 0, _ => none
  | m + 1, i34 => cond (decide (i34 ≤ 30)) (cond (r33.2.1 == 0) (ev_law11_RoundStops_j4 n l28 l29 l30 i25 i26 l27 i34 r33 (fun i34q => ev_law11_RoundStops_l3 n r33 l28 l29 l30 i25 i26 l27 i23 i24 m i34q)) (cond (decide (i34 ≤ r33.2.1)) (ev_law11_RoundStops_j4 n l28 l29 l30 i25 i26 l27 i34 r33 (fun i34q => ev_law11_RoundStops_l3 n r33 l28 l29 l30 i25 i26 l27 i23 i24 m i34q)) (ev_law11_RoundStops_j7 n l27 i23 i24 l28 l29 l30 i25 i26 r33))) (ev_law11_RoundStops_j7 n l27 i23 i24 l28 l29 l30 i25 i26 r33)
theorem ok_law11_RoundStops_l3 {n : Nat} {w0 : World} {R0 : Nat → Prop} {env0 : Env} {r : Bool} {r33 : Int × Int × Int} {i23 : Int} {i24 : Int} {i25 : Int} {i26 : Int} {l27 : List (Int × (List Int))} {l28 : List (Int × Int × Int × Int × Int)} {l29 : List ((List Int))} {l30 : List (Int × Int × Int × Int)} : ∀ (m : Nat) (i34 : Int), ev_law11_RoundStops_l3 n r33 l28 l29 l30 i25 i26 l27 i23 i24 m i34 = some r → TC Try.prog ⟨w0, fun _ => False, R0⟩ 265 (bodyPost Try.prog Try.f7 (Post ⟨w0, fun _ => False, R0⟩ env0 (.val (.bool r)) [])) [.code (sub (bodyOf Try.f7) [1, 1, 1, 1, 1, 1, 0, 1, 0, 0, 0, 0]), .code (sub (bodyOf Try.f7) [1, 1, 1, 1, 1, 1, 0, 1, 0, 0, 0, 1]), .code (sub (bodyOf Try.f7) [1, 1, 1, 1, 1, 1, 0, 1, 0, 0, 1]), .inLoop (sub (bodyOf Try.f7) [1, 1, 1, 1, 1, 1, 0, 1, 0, 0]), .inBlock 2, .code (sub (bodyOf Try.f7) [1, 1, 1, 1, 1, 1, 1])] ([(5, .ptr 5 0), (7, .ptr 10 0), (8, .ref 9), (10, vi 30), (12, vi r33.1), (13, vi r33.2.1), (15, vi i34)]) ([.blk 5 [.val (.int .u8 i23), .val (.int .u8 i24)] 79, .blk 10 [.ref 6, .ref 7, .ref 8, vi i25, vi i26] 26, .ro 9 2 (List.map en_api_RoundDay l27), .ro 6 5 (List.map en_api_RoundTower l28), .ro 7 1 (List.map en_Lint l29), .ro 8 4 (List.map en_api_RoundWinder l30)]) := by
  intro m
  induction m with
  | zero => intro i34 h; exact none_no h
  | succ m ih =>
    intro i34 h
    rw [ev_law11_RoundStops_l3] at h
    refine TC.region ?_
    refine op0 (sp_move rfl rfl) rfl trivial rfl rfl ?_
    refine op0 (sp_move rfl rfl) rfl trivial rfl rfl ?_
    refine op0 (sp_leq rfl rfl rfl) rfl trivial rfl rfl ?_
    refine op0 (sp_move rfl rfl) rfl trivial rfl rfl ?_
    rcases cond_cases h with ⟨h18, h⟩ | ⟨h18, h⟩
    · refine (boolLit 113 rfl h18).2 ?_
      refine op0 (sp_move rfl rfl) rfl ⟨_, rfl, rfl⟩ rfl rfl ?_
      refine op0 (sp_eql rfl rfl rfl) rfl ⟨_, rfl, rfl⟩ rfl rfl ?_
      refine op0 (sp_move rfl rfl) rfl ⟨_, rfl, rfl⟩ rfl rfl ?_
      rcases cond_cases h with ⟨h19, h⟩ | ⟨h19, h⟩
      · refine (boolLit 116 rfl h19).2 ?_
        refine opSkip rfl ⟨_, rfl, .inl rfl⟩ rfl ?_
        refine opSkip rfl ⟨_, rfl, .inl rfl⟩ rfl ?_
        refine opSkip rfl ⟨_, rfl, .inl rfl⟩ rfl ?_
        refine op0 (sp_pickT rfl rfl rfl) rfl ⟨_, rfl, rfl⟩ rfl rfl ?_
        refine op0 (sp_pickT rfl rfl rfl) rfl trivial rfl rfl ?_
        refine TL.nil ?_
        refine TC.condT rfl ?_
        refine subJ [] (ok_law11_RoundStops_j4 (i23 := i23) (i24 := i24) ih h) ?_ ?_ ?_
        · exact ⟨rfl, rfl, rfl, rfl, rfl, rfl, rfl, trivial⟩
        · exact ⟨mem_at 0 rfl, mem_at 1 rfl, mem_at 2 rfl, mem_at 3 rfl, mem_at 4 rfl, mem_at 5 rfl, trivial⟩
        · rfl
      · refine (boolLit 116 rfl h19).2 ?_
        refine op0 (sp_move rfl rfl) rfl ⟨_, rfl, rfl⟩ rfl rfl ?_
        refine op0 (sp_move rfl rfl) rfl ⟨_, rfl, rfl⟩ rfl rfl ?_
        refine op0 (sp_leq rfl rfl rfl) rfl ⟨_, rfl, rfl⟩ rfl rfl ?_
        refine op0 (sp_pickF rfl rfl rfl) rfl ⟨_, rfl, rfl⟩ rfl rfl ?_
        refine op0 (sp_pickT rfl rfl rfl) rfl trivial rfl rfl ?_
        refine TL.nil ?_
        refine TC.cond (b := (decide (i34 ≤ r33.2.1))) rfl (fun h44 => ?_) (fun h44 => ?_)
        · have h := cond_t h h44
          refine subJ [] (ok_law11_RoundStops_j4 (i23 := i23) (i24 := i24) ih h) ?_ ?_ ?_
          · exact ⟨rfl, rfl, rfl, rfl, rfl, rfl, rfl, trivial⟩
          · exact ⟨mem_at 0 rfl, mem_at 1 rfl, mem_at 2 rfl, mem_at 3 rfl, mem_at 4 rfl, mem_at 5 rfl, trivial⟩
          · rfl
        · have h := cond_f h h44
          refine TC.exit rfl ?_
          refine TC.seq ?_
          refine subJ [] (ok_law11_RoundStops_j7 h) ?_ ?_ ?_
          · exact ⟨rfl, rfl, rfl, rfl, rfl, trivial⟩
          · exact ⟨mem_at 0 rfl, mem_at 1 rfl, mem_at 2 rfl, mem_at 3 rfl, mem_at 4 rfl, mem_at 5 rfl, trivial⟩
          · rfl
    · refine (boolLit 113 rfl h18).2 ?_
      refine opSkip rfl ⟨_, rfl, .inl rfl⟩ rfl ?_
      refine opSkip rfl ⟨_, rfl, .inl rfl⟩ rfl ?_
      refine opSkip rfl ⟨_, rfl, .inl rfl⟩ rfl ?_
      refine opSkip rfl ⟨_, rfl, .inr rfl⟩ rfl ?_
      refine opSkip rfl ⟨_, rfl, .inr rfl⟩ rfl ?_
      refine opSkip rfl ⟨_, rfl, .inr rfl⟩ rfl ?_
      refine opSkip rfl ⟨_, rfl, .inl rfl⟩ rfl ?_
      refine op0 (sp_pickF rfl rfl rfl) rfl trivial rfl rfl ?_
      refine TL.nil ?_
      refine TC.condF rfl ?_
      refine TC.exit rfl ?_
      refine TC.seq ?_
      refine subJ [] (ok_law11_RoundStops_j7 h) ?_ ?_ ?_
      · exact ⟨rfl, rfl, rfl, rfl, rfl, trivial⟩
      · exact ⟨mem_at 0 rfl, mem_at 1 rfl, mem_at 2 rfl, mem_at 3 rfl, mem_at 4 rfl, mem_at 5 rfl, trivial⟩
      · rfl
def ev_law11_RoundStops_j2 (n : Nat) (r33 : Int × Int × Int) (l28 : List (Int × Int × Int × Int × Int)) (l29 : List ((List Int))) (l30 : List (Int × Int × Int × Int)) (i25 : Int) (i26 : Int) (l27 : List (Int × (List Int))) (i23 : Int) (i24 : Int) : Option Bool :=
  ev_law11_RoundStops_l3 n r33 l28 l29 l30 i25 i26 l27 i23 i24 n 1
theorem ok_law11_RoundStops_j2 {n : Nat} {w0 : World} {R0 : Nat → Prop} {env0 : Env} {r : Bool} {r33 : Int × Int × Int} {i23 : Int} {i24 : Int} {i25 : Int} {i26 : Int} {l27 : List (Int × (List Int))} {l28 : List (Int × Int × Int × Int × Int)} {l29 : List ((List Int))} {l30 : List (Int × Int × Int × Int)} (h : ev_law11_RoundStops_j2 n r33 l28 l29 l30 i25 i26 l27 i23 i24 = some r) : TC Try.prog ⟨w0, fun _ => False, R0⟩ 265 (bodyPost Try.prog Try.f7 (Post ⟨w0, fun _ => False, R0⟩ env0 (.val (.bool r)) [])) [.code (sub (bodyOf Try.f7) [1, 1, 1, 1, 1, 0, 1, 1]), .code (sub (bodyOf Try.f7) [1, 1, 1, 1, 1, 1])] ([(5, .ptr 5 0), (7, .ptr 10 0), (8, .ref 9), (10, vi 30), (12, vi r33.1), (13, vi r33.2.1)]) ([.blk 5 [.val (.int .u8 i23), .val (.int .u8 i24)] 79, .blk 10 [.ref 6, .ref 7, .ref 8, vi i25, vi i26] 26, .ro 9 2 (List.map en_api_RoundDay l27), .ro 6 5 (List.map en_api_RoundTower l28), .ro 7 1 (List.map en_Lint l29), .ro 8 4 (List.map en_api_RoundWinder l30)]) := by
  rw [ev_law11_RoundStops_j2] at h
  refine TC.skip ?_
  refine TC.seq ?_
  refine TC.seq ?_
  refine TC.region ?_
  refine op0 (sp_assign rfl rfl) rfl trivial rfl rfl ?_
  refine TL.nil ?_
  refine TC.block ?_
  refine TC.loop ?_
  refine TC.seq ?_
  refine TC.seq ?_
  refine subJ [] (ok_law11_RoundStops_l3 _ _ h) ?_ ?_ ?_
  · exact ⟨rfl, rfl, rfl, rfl, rfl, rfl, rfl, trivial⟩
  · exact ⟨mem_at 0 rfl, mem_at 1 rfl, mem_at 2 rfl, mem_at 3 rfl, mem_at 4 rfl, mem_at 5 rfl, trivial⟩
  · rfl
def ev_law11_RoundStops_j1 (n : Nat) (i23 : Int) (i24 : Int) (i25 : Int) (i26 : Int) (l27 : List (Int × (List Int))) (l28 : List (Int × Int × Int × Int × Int)) (l29 : List ((List Int))) (l30 : List (Int × Int × Int × Int)) : Option Bool :=
  (ev_law11_copied n l28 l29 l30 i25 i26).bind fun r31 => (ev_law11_days n l27).bind fun r32 => (ev_round_Stops n r31.1 r31.2.1 r31.2.2.1 r31.2.2.2.1 r31.2.2.2.2 r32 30).bind fun r33 => cond (r33.2.2 != 0) (some false) (cond ((r33.1 == (-1)) != (r33.2.1 == 0)) (some false) (cond (decide (r33.1 < (-1))) (some false) (cond (decide ((l28.length : Int) ≤ r33.1)) (some false) (cond (decide (r33.2.1 < 0)) (some false) (cond (decide ((30 : Int) < r33.2.1)) (some false) (ev_law11_RoundStops_j2 n r33 l28 l29 l30 i25 i26 l27 i23 i24))))))
theorem ok_law11_RoundStops_j1 {n : Nat} {w0 : World} {R0 : Nat → Prop} {env0 : Env} {r : Bool} {i23 : Int} {i24 : Int} {i25 : Int} {i26 : Int} {l27 : List (Int × (List Int))} {l28 : List (Int × Int × Int × Int × Int)} {l29 : List ((List Int))} {l30 : List (Int × Int × Int × Int)} (h : ev_law11_RoundStops_j1 n i23 i24 i25 i26 l27 l28 l29 l30 = some r) : TC Try.prog ⟨w0, fun _ => False, R0⟩ 265 (bodyPost Try.prog Try.f7 (Post ⟨w0, fun _ => False, R0⟩ env0 (.val (.bool r)) [])) [.code (sub (bodyOf Try.f7) [1, 1, 1, 1, 0]), .code (sub (bodyOf Try.f7) [1, 1, 1, 1, 1])] ([(5, .ptr 5 0), (7, .ptr 10 0), (8, .ref 9), (10, vi 30)]) ([.blk 5 [.val (.int .u8 i23), .val (.int .u8 i24)] 79, .blk 10 [.ref 6, .ref 7, .ref 8, vi i25, vi i26] 26, .row 9 32 2 (List.map en_api_RoundDay l27), .row 6 46 5 (List.map en_api_RoundTower l28), .row 7 30 1 (List.map en_Lint l29), .row 8 76 4 (List.map en_api_RoundWinder l30)]) := by
  rw [ev_law11_RoundStops_j1] at h
  refine TC.region ?_
  refine op1 1 rfl (sp_loadBA rfl isBlk rfl vt26 rfl rfl) rfl trivial rfl rfl ?_
  refine TL.freeze 3 rfl ?_
  refine TL.freeze 4 rfl ?_
  refine TL.freeze 5 rfl ?_
  obtain ⟨r31, h9, h⟩ := bind_inv h
  refine opN (need := [.ro 6 5 (List.map en_api_RoundTower l28), .ro 7 1 (List.map en_Lint l29), .ro 8 4 (List.map en_api_RoundWinder l30)]) [3, 4, 5] ⟨rfl, rfl, rfl, trivial⟩ (sp_call (avs := [.agg [.ref 6, .ref 7, .ref 8, vi i25, vi i26]]) (need := [.ro 6 5 (List.map en_api_RoundTower l28), .ro 7 1 (List.map en_Lint l29), .ro 8 4 (List.map en_api_RoundWinder l30)]) (v := .agg [.ref 11, .ref 12, .ref 13, vi r31.2.2.2.1, vi r31.2.2.2.2]) (news := [.row 11 46 5 (List.map en_api_RoundTower r31.1), .row 12 30 1 (List.map en_Lint r31.2.1), .row 13 76 4 (List.map en_api_RoundWinder r31.2.2.1)]) rfl rfl rfl Try.call12 (atJ [(0, 6), (1, 7), (2, 8)] [(0, 11), (1, 12), (2, 13)] (fc_law11_copied h9) rfl rfl) (.inl (roAll rfl))) rfl trivial rfl rfl ?_
  refine op0 (sp_move rfl rfl) rfl trivial rfl rfl ?_
  refine TL.freeze 5 rfl ?_
  obtain ⟨r32, h10, h⟩ := bind_inv h
  refine op1 5 rfl (sp_call (avs := [.ref 9]) (need := [.ro 9 2 (List.map en_api_RoundDay l27)]) (v := .ref 14) (news := [.row 14 32 2 (List.map en_api_RoundDay r32)]) rfl rfl rfl Try.call10 (atJ [(0, 9)] [(0, 14)] (fc_law11_days h10) rfl rfl) (.inl (roAll rfl))) rfl trivial rfl rfl ?_
  refine op0 (sp_move rfl rfl) rfl trivial rfl rfl ?_
  obtain ⟨r33, h11, h⟩ := bind_inv h
  refine opN (need := [.row 11 46 5 (List.map en_api_RoundTower r31.1), .row 12 30 1 (List.map en_Lint r31.2.1), .row 13 76 4 (List.map en_api_RoundWinder r31.2.2.1), .row 14 32 2 (List.map en_api_RoundDay r32)]) [1, 2, 3, 0] ⟨rfl, rfl, rfl, rfl, trivial⟩ (sp_call (avs := [.agg [.ref 11, .ref 12, .ref 13, vi r31.2.2.2.1, vi r31.2.2.2.2], .ref 14, vi 30]) (need := [.row 11 46 5 (List.map en_api_RoundTower r31.1), .row 12 30 1 (List.map en_Lint r31.2.1), .row 13 76 4 (List.map en_api_RoundWinder r31.2.2.1), .row 14 32 2 (List.map en_api_RoundDay r32)]) (v := .tup [vi r33.1, vi r33.2.1, vi r33.2.2]) (news := []) rfl rfl rfl Try.call13 (atJ [(0, 11), (1, 12), (2, 13), (3, 14)] [] (fc_round_Stops h11) rfl rfl) (.inr (fun x hx => nomatch hx))) rfl trivial rfl rfl ?_
  refine op0 (sp_move rfl rfl) rfl trivial rfl rfl ?_
  refine op0 (sp_extract rfl rfl rfl) rfl trivial rfl rfl ?_
  refine op0 (sp_extract rfl rfl rfl) rfl trivial rfl rfl ?_
  refine op0 (sp_extract rfl rfl rfl) rfl trivial rfl rfl ?_
  refine op0 (sp_assign rfl rfl) rfl trivial rfl rfl ?_
  refine op0 (sp_assign rfl rfl) rfl trivial rfl rfl ?_
  refine op0 (sp_assign rfl rfl) rfl trivial rfl rfl ?_
  refine TL.nil ?_
  refine TC.seq ?_
  refine TC.seq ?_
  refine TC.region ?_
  refine op0 (sp_move rfl rfl) rfl trivial rfl rfl ?_
  refine op0 (sp_neq rfl rfl rfl) rfl trivial rfl rfl ?_
  refine op0 (sp_move rfl rfl) rfl trivial rfl rfl ?_
  rcases cond_cases h with ⟨h12, h⟩ | ⟨h12, h⟩
  · refine (boolLit 83 rfl h12).2 ?_
    refine opSkip rfl ⟨_, rfl, .inl rfl⟩ rfl ?_
    refine opSkip rfl ⟨_, rfl, .inl rfl⟩ rfl ?_
    refine opSkip rfl ⟨_, rfl, .inl rfl⟩ rfl ?_
    refine opSkip rfl ⟨_, rfl, .inl rfl⟩ rfl ?_
    refine opSkip rfl ⟨_, rfl, .inl rfl⟩ rfl ?_
    refine op0 (sp_pickT rfl rfl rfl) rfl trivial rfl rfl ?_
    refine op0 (sp_move rfl rfl) rfl trivial rfl rfl ?_
    refine opSkip rfl ⟨_, rfl, .inl rfl⟩ rfl ?_
    refine opSkip rfl ⟨_, rfl, .inl rfl⟩ rfl ?_
    refine op0 (sp_pickT rfl rfl rfl) rfl trivial rfl rfl ?_
    refine op0 (sp_move rfl rfl) rfl trivial rfl rfl ?_
    refine opSkip rfl ⟨_, rfl, .inl rfl⟩ rfl ?_
    refine opSkip rfl ⟨_, rfl, .inl rfl⟩ rfl ?_
    refine opSkip rfl ⟨_, rfl, .inl rfl⟩ rfl ?_
    refine opSkip rfl ⟨_, rfl, .inl rfl⟩ rfl ?_
    refine opSkip rfl ⟨_, rfl, .inl rfl⟩ rfl ?_
    refine op0 (sp_pickT rfl rfl rfl) rfl trivial rfl rfl ?_
    refine op0 (sp_move rfl rfl) rfl trivial rfl rfl ?_
    refine opSkip rfl ⟨_, rfl, .inl rfl⟩ rfl ?_
    refine opSkip rfl ⟨_, rfl, .inl rfl⟩ rfl ?_
    refine op0 (sp_pickT rfl rfl rfl) rfl trivial rfl rfl ?_
    refine op0 (sp_move rfl rfl) rfl trivial rfl rfl ?_
    refine opSkip rfl ⟨_, rfl, .inl rfl⟩ rfl ?_
    refine opSkip rfl ⟨_, rfl, .inl rfl⟩ rfl ?_
    refine opSkip rfl ⟨_, rfl, .inl rfl⟩ rfl ?_
    refine op0 (sp_pickT rfl rfl rfl) rfl trivial rfl rfl ?_
    refine TL.nil ?_
    refine TC.condT rfl ?_
    refine TC.seq ?_
    refine TC.region ?_
    refine op0 (sp_assign rfl rfl) rfl trivial rfl rfl ?_
    refine TL.nil ?_
    cases h
    exact retJ [] (.tmp rfl .nil) rfl trivial rfl rfl
  · refine (boolLit 83 rfl h12).2 ?_
    refine op0 (sp_move rfl rfl) rfl ⟨_, rfl, rfl⟩ rfl rfl ?_
    refine op0 (sp_eql rfl rfl rfl) rfl ⟨_, rfl, rfl⟩ rfl rfl ?_
    refine op0 (sp_move rfl rfl) rfl ⟨_, rfl, rfl⟩ rfl rfl ?_
    refine op0 (sp_eql rfl rfl rfl) rfl ⟨_, rfl, rfl⟩ rfl rfl ?_
    refine op0 (sp_neqB rfl Try.underlying4 rfl rfl) rfl ⟨_, rfl, rfl⟩ rfl rfl ?_
    refine op0 (sp_pickF rfl rfl rfl) rfl trivial rfl rfl ?_
    refine op0 (sp_move rfl rfl) rfl trivial rfl rfl ?_
    rcases cond_cases h with ⟨h13, h⟩ | ⟨h13, h⟩
    · refine (boolLit 90 rfl h13).2 ?_
      refine opSkip rfl ⟨_, rfl, .inl rfl⟩ rfl ?_
      refine opSkip rfl ⟨_, rfl, .inl rfl⟩ rfl ?_
      refine op0 (sp_pickT rfl rfl rfl) rfl trivial rfl rfl ?_
      refine op0 (sp_move rfl rfl) rfl trivial rfl rfl ?_
      refine opSkip rfl ⟨_, rfl, .inl rfl⟩ rfl ?_
      refine opSkip rfl ⟨_, rfl, .inl rfl⟩ rfl ?_
      refine opSkip rfl ⟨_, rfl, .inl rfl⟩ rfl ?_
      refine opSkip rfl ⟨_, rfl, .inl rfl⟩ rfl ?_
      refine opSkip rfl ⟨_, rfl, .inl rfl⟩ rfl ?_
      refine op0 (sp_pickT rfl rfl rfl) rfl trivial rfl rfl ?_
      refine op0 (sp_move rfl rfl) rfl trivial rfl rfl ?_
      refine opSkip rfl ⟨_, rfl, .inl rfl⟩ rfl ?_
      refine opSkip rfl ⟨_, rfl, .inl rfl⟩ rfl ?_
      refine op0 (sp_pickT rfl rfl rfl) rfl trivial rfl rfl ?_
      refine op0 (sp_move rfl rfl) rfl trivial rfl rfl ?_
      refine opSkip rfl ⟨_, rfl, .inl rfl⟩ rfl ?_
      refine opSkip rfl ⟨_, rfl, .inl rfl⟩ rfl ?_
      refine opSkip rfl ⟨_, rfl, .inl rfl⟩ rfl ?_
      refine op0 (sp_pickT rfl rfl rfl) rfl trivial rfl rfl ?_
      refine TL.nil ?_
      refine TC.condT rfl ?_
      refine TC.seq ?_
      refine TC.region ?_
      refine op0 (sp_assign rfl rfl) rfl trivial rfl rfl ?_
      refine TL.nil ?_
      cases h
      exact retJ [] (.tmp rfl .nil) rfl trivial rfl rfl
    · refine (boolLit 90 rfl h13).2 ?_
      refine op0 (sp_move rfl rfl) rfl ⟨_, rfl, rfl⟩ rfl rfl ?_
      refine op0 (sp_lss rfl rfl rfl) rfl ⟨_, rfl, rfl⟩ rfl rfl ?_
      refine op0 (sp_pickF rfl rfl rfl) rfl trivial rfl rfl ?_
      refine op0 (sp_move rfl rfl) rfl trivial rfl rfl ?_
      rcases cond_cases h with ⟨h14, h⟩ | ⟨h14, h⟩
      · refine (boolLit 94 rfl h14).2 ?_
        refine opSkip rfl ⟨_, rfl, .inl rfl⟩ rfl ?_
        refine opSkip rfl ⟨_, rfl, .inl rfl⟩ rfl ?_
        refine opSkip rfl ⟨_, rfl, .inl rfl⟩ rfl ?_
        refine opSkip rfl ⟨_, rfl, .inl rfl⟩ rfl ?_
        refine opSkip rfl ⟨_, rfl, .inl rfl⟩ rfl ?_
        refine op0 (sp_pickT rfl rfl rfl) rfl trivial rfl rfl ?_
        refine op0 (sp_move rfl rfl) rfl trivial rfl rfl ?_
        refine opSkip rfl ⟨_, rfl, .inl rfl⟩ rfl ?_
        refine opSkip rfl ⟨_, rfl, .inl rfl⟩ rfl ?_
        refine op0 (sp_pickT rfl rfl rfl) rfl trivial rfl rfl ?_
        refine op0 (sp_move rfl rfl) rfl trivial rfl rfl ?_
        refine opSkip rfl ⟨_, rfl, .inl rfl⟩ rfl ?_
        refine opSkip rfl ⟨_, rfl, .inl rfl⟩ rfl ?_
        refine opSkip rfl ⟨_, rfl, .inl rfl⟩ rfl ?_
        refine op0 (sp_pickT rfl rfl rfl) rfl trivial rfl rfl ?_
        refine TL.nil ?_
        refine TC.condT rfl ?_
        refine TC.seq ?_
        refine TC.region ?_
        refine op0 (sp_assign rfl rfl) rfl trivial rfl rfl ?_
        refine TL.nil ?_
        cases h
        exact retJ [] (.tmp rfl .nil) rfl trivial rfl rfl
      · refine (boolLit 94 rfl h14).2 ?_
        refine op0 (sp_move rfl rfl) rfl ⟨_, rfl, rfl⟩ rfl rfl ?_
        refine op1 5 rfl (sp_fieldAddrB rfl isBlk rfl ft26_0 vt22 (by decide)) rfl ⟨_, rfl, rfl⟩ rfl rfl ?_
        refine op1 5 rfl (sp_loadB rfl isBlk rfl vt22 rfl) rfl ⟨_, rfl, rfl⟩ rfl rfl ?_
        refine op1 7 rfl (sp_lenM (N := l28.length) (len_map _ _) rfl rfl isRo Try.underlying22) rfl ⟨_, rfl, rfl⟩ rfl rfl ?_
        refine op0 (sp_geq rfl rfl rfl) rfl ⟨_, rfl, rfl⟩ rfl rfl ?_
        refine op0 (sp_pickF rfl rfl rfl) rfl trivial rfl rfl ?_
        refine op0 (sp_move rfl rfl) rfl trivial rfl rfl ?_
        rcases cond_cases h with ⟨h15, h⟩ | ⟨h15, h⟩
        · refine (boolLit 101 rfl h15).2 ?_
          refine opSkip rfl ⟨_, rfl, .inl rfl⟩ rfl ?_
          refine opSkip rfl ⟨_, rfl, .inl rfl⟩ rfl ?_
          refine op0 (sp_pickT rfl rfl rfl) rfl trivial rfl rfl ?_
          refine op0 (sp_move rfl rfl) rfl trivial rfl rfl ?_
          refine opSkip rfl ⟨_, rfl, .inl rfl⟩ rfl ?_
          refine opSkip rfl ⟨_, rfl, .inl rfl⟩ rfl ?_
          refine opSkip rfl ⟨_, rfl, .inl rfl⟩ rfl ?_
          refine op0 (sp_pickT rfl rfl rfl) rfl trivial rfl rfl ?_
          refine TL.nil ?_
          refine TC.condT rfl ?_
          refine TC.seq ?_
          refine TC.region ?_
          refine op0 (sp_assign rfl rfl) rfl trivial rfl rfl ?_
          refine TL.nil ?_
          cases h
          exact retJ [] (.tmp rfl .nil) rfl trivial rfl rfl
        · refine (boolLit 101 rfl h15).2 ?_
          refine op0 (sp_move rfl rfl) rfl ⟨_, rfl, rfl⟩ rfl rfl ?_
          refine op0 (sp_lss rfl rfl rfl) rfl ⟨_, rfl, rfl⟩ rfl rfl ?_
          refine op0 (sp_pickF rfl rfl rfl) rfl trivial rfl rfl ?_
          refine op0 (sp_move rfl rfl) rfl trivial rfl rfl ?_
          rcases cond_cases h with ⟨h16, h⟩ | ⟨h16, h⟩
          · refine (boolLit 105 rfl h16).2 ?_
            refine opSkip rfl ⟨_, rfl, .inl rfl⟩ rfl ?_
            refine opSkip rfl ⟨_, rfl, .inl rfl⟩ rfl ?_
            refine opSkip rfl ⟨_, rfl, .inl rfl⟩ rfl ?_
            refine op0 (sp_pickT rfl rfl rfl) rfl trivial rfl rfl ?_
            refine TL.nil ?_
            refine TC.condT rfl ?_
            refine TC.seq ?_
            refine TC.region ?_
            refine op0 (sp_assign rfl rfl) rfl trivial rfl rfl ?_
            refine TL.nil ?_
            cases h
            exact retJ [] (.tmp rfl .nil) rfl trivial rfl rfl
          · refine (boolLit 105 rfl h16).2 ?_
            refine op0 (sp_move rfl rfl) rfl ⟨_, rfl, rfl⟩ rfl rfl ?_
            refine op0 (sp_move rfl rfl) rfl ⟨_, rfl, rfl⟩ rfl rfl ?_
            refine op0 (sp_gtr rfl rfl rfl) rfl ⟨_, rfl, rfl⟩ rfl rfl ?_
            refine op0 (sp_pickF rfl rfl rfl) rfl trivial rfl rfl ?_
            refine TL.nil ?_
            refine TC.cond (b := (decide ((30 : Int) < r33.2.1))) rfl (fun h17 => ?_) (fun h17 => ?_)
            · have h := cond_t h h17
              refine TC.seq ?_
              refine TC.region ?_
              refine op0 (sp_assign rfl rfl) rfl trivial rfl rfl ?_
              refine TL.nil ?_
              cases h
              exact retJ [] (.tmp rfl .nil) rfl trivial rfl rfl
            · have h := cond_f h h17
              refine subJ [] (ok_law11_RoundStops_j2 h) ?_ ?_ ?_
              · exact ⟨rfl, rfl, rfl, rfl, rfl, rfl, trivial⟩
              · exact ⟨mem_at 4 rfl, mem_at 5 rfl, mem_at 6 rfl, mem_at 7 rfl, mem_at 8 rfl, mem_at 9 rfl, trivial⟩
              · rfl
def ev_law11_RoundStops_l0 (n : Nat) : Nat → Int → Int → (List (Int × Int)) → Int → Int → Int → Int → (List (Int × (List Int))) → (List (Int × Int × Int × Int × Int)) → (List ((List Int))) → (List (Int × Int × Int × Int)) → Option Bool
  | 0, _, _, _, _, _, _, _, _, _, _, _ => none
  | m + 1, i10, i11, l12, i13, i14, i15, i17, l18, l19, l20, l21 => cond (decide (i11 < (l12.length : Int))) (idx l12 i11 fun x22 => chk (in64 x22.1) <| chk (in64 ((1 : Int) + (Int.tmod x22.1 6))) <| chk (in64 (i10 + ((1 : Int) + (Int.tmod x22.1 6)))) <| cond (decide ((30 : Int) < (i10 + ((1 : Int) + (Int.tmod x22.1 6))))) (ev_law11_RoundStops_j1 n i13 i14 i15 i17 l18 l19 l20 l21) ((ev_law11_some n l19 l20 l21 i15 i17 ([x22.2, (x22.2 / (shK .u8 2 : Int)), (x22.2 / (shK .u8 5 : Int))] : List Int) 3).bind fun r60 => chk (room 32 (l18.length + ([((i10 + ((1 : Int) + (Int.tmod x22.1 6))), r60)] : List (Int × (List Int))).length)) <| chk (in64 (i11 + 1)) <| ev_law11_RoundStops_l0 n m (i10 + ((1 : Int) + (Int.tmod x22.1 6))) (i11 + 1) l12 i13 i14 i15 i17 (l18 ++ ([((i10 + ((1 : Int) + (Int.tmod x22.1 6))), r60)] : List (Int × (List Int)))) l19 l20 l21)) (ev_law11_RoundStops_j1 n i13 i14 i15 i17 l18 l19 l20 l21)
theorem ok_law11_RoundStops_l0 {n : Nat} {w0 : World} {R0 : Nat → Prop} {env0 : Env} {r : Bool} : ∀ (m : Nat) (i10 : Int) (i11 : Int) (l12 : List (Int × Int)) (i13 : Int) (i14 : Int) (i15 : Int) (i17 : Int) (l18 : List (Int × (List Int))) (l19 : List (Int × Int × Int × Int × Int)) (l20 : List ((List Int))) (l21 : List (Int × Int × Int × Int)), ev_law11_RoundStops_l0 n m i10 i11 l12 i13 i14 i15 i17 l18 l19 l20 l21 = some r → TC Try.prog ⟨w0, fun _ => False, R0⟩ 265 (bodyPost Try.prog Try.f7 (Post ⟨w0, fun _ => False, R0⟩ env0 (.val (.bool r)) [])) [.code (sub (bodyOf Try.f7) [1, 1, 1, 0, 1, 0, 0, 0, 0]), .code (sub (bodyOf Try.f7) [1, 1, 1, 0, 1, 0, 0, 0, 1]), .code (sub (bodyOf Try.f7) [1, 1, 1, 0, 1, 0, 0, 1]), .inLoop (sub (bodyOf Try.f7) [1, 1, 1, 0, 1, 0, 0]), .inBlock 0, .code (sub (bodyOf Try.f7) [1, 1, 1, 1])] ([(1, .ref 3), (5, .ptr 5 0), (7, .ptr 10 0), (8, .ref 9), (9, vi i10), (10, vi 30), (11, vi i11)]) ([.ro 3 2 (List.map en_2_uint8 l12), .blk 5 [.val (.int .u8 i13), .val (.int .u8 i14)] 79, .blk 10 [.ref 6, .ref 7, .ref 8, vi i15, vi i17] 26, .row 9 32 2 (List.map en_api_RoundDay l18), .row 6 46 5 (List.map en_api_RoundTower l19), .row 7 30 1 (List.map en_Lint l20), .row 8 76 4 (List.map en_api_RoundWinder l21)]) := by
  intro m
  induction m with
  | zero => intro i10 i11 l12 i13 i14 i15 i17 l18 l19 l20 l21 h; exact none_no h
  | succ m ih =>
    intro i10 i11 l12 i13 i14 i15 i17 l18 l19 l20 l21 h
    rw [ev_law11_RoundStops_l0] at h
    refine TC.region ?_
    refine op0 (sp_move rfl rfl) rfl trivial rfl rfl ?_
    refine op0 (sp_move rfl rfl) rfl trivial rfl rfl ?_
    refine op1 0 rfl (sp_lenM (N := l12.length) (len_map _ _) rfl rfl isRo Try.underlying78) rfl trivial rfl rfl ?_
    refine op0 (sp_lss rfl rfl rfl) rfl trivial rfl rfl ?_
    refine TL.nil ?_
    refine TC.cond (b := (decide (i11 < (l12.length : Int)))) rfl (fun h2 => ?_) (fun h2 => ?_)
    · have h := cond_t h h2
      refine TC.skip ?_
      refine TC.seq ?_
      refine TC.block ?_
      refine TC.seq ?_
      refine TC.seq ?_
      refine TC.region ?_
      refine op0 (sp_move rfl rfl) rfl trivial rfl rfl ?_
      refine op0 (sp_move rfl rfl) rfl trivial rfl rfl ?_
      refine op0 (sp_move rfl rfl) rfl trivial rfl rfl ?_
      obtain ⟨x22, h3, h4, h⟩ := idx_inv h
      refine op1 0 rfl (sp_indexS rfl rfl rfl isRo sl78 h3 (map_get _ h4)) rfl trivial rfl rfl ?_
      refine op1 0 rfl (sp_indexAR (q := (i11 : Int).toNat) (len := 2) (iv := 0) rfl rfl rfl isRo Try.underlying79 vt5 (by decide) (map_get _ h4) (fun h => nomatch h)) rfl trivial rfl rfl ?_
      refine op1 0 rfl (sp_loadR (i := (i11 : Int).toNat) (j := 0) rfl rfl isRo vt5 rfl (map_get _ h4) rfl (.v (.nil)) (nodup_of_B rfl)) rfl trivial rfl rfl ?_
      obtain ⟨h5, h⟩ := chk_inv h
      refine op0 (sp_conv rfl Try.underlying5 Try.underlying3 rfl h5) rfl trivial rfl rfl ?_
      refine op0 (sp_rem rfl rfl rfl (by decide)) rfl trivial rfl rfl ?_
      obtain ⟨h6, h⟩ := chk_inv h
      refine op0 (sp_add rfl rfl rfl h6) rfl trivial rfl rfl ?_
      obtain ⟨h7, h⟩ := chk_inv h
      refine op0 (sp_add rfl rfl rfl h7) rfl trivial rfl rfl ?_
      refine op0 (sp_assign rfl rfl) rfl trivial rfl rfl ?_
      refine TL.nil ?_
      refine TC.seq ?_
      refine TC.region ?_
      refine op0 (sp_move rfl rfl) rfl trivial rfl rfl ?_
      refine op0 (sp_move rfl rfl) rfl trivial rfl rfl ?_
      refine op0 (sp_gtr rfl rfl rfl) rfl trivial rfl rfl ?_
      refine TL.nil ?_
      refine TC.cond (b := (decide ((30 : Int) < (i10 + ((1 : Int) + (Int.tmod x22.1 6)))))) rfl (fun h8 => ?_) (fun h8 => ?_)
      · have h := cond_t h h8
        refine TC.exit rfl ?_
        refine TC.seq ?_
        refine subJ [] (ok_law11_RoundStops_j1 h) ?_ ?_ ?_
        · exact ⟨rfl, rfl, rfl, rfl, trivial⟩
        · exact ⟨mem_at 1 rfl, mem_at 2 rfl, mem_at 3 rfl, mem_at 4 rfl, mem_at 5 rfl, mem_at 6 rfl, trivial⟩
        · rfl
      · have h := cond_f h h8
        refine TC.skip ?_
        obtain ⟨r60, h85, h⟩ := bind_inv h
        refine drawJ 24 [⟨.ref 9, [], [], []⟩, ⟨vi (i10 + ((1 : Int) + (Int.tmod x22.1 6))), [], [], []⟩, ⟨.agg [.ref 6, .ref 7, .ref 8, vi i15, vi i17], [], [.blk 10 [.ref 6, .ref 7, .ref 8, vi i15, vi i17] 26], []⟩, ⟨.ref 3, [], [], []⟩, ⟨vi i11, [], [], []⟩, ⟨.cell 3 ((i11 : Int).toNat * 2), [], [.ro 3 2 (List.map en_2_uint8 l12)], []⟩, ⟨.cell 3 ((i11 : Int).toNat * 2 + 1), [], [.ro 3 2 (List.map en_2_uint8 l12)], []⟩, ⟨.val (.int .u8 x22.2), [], [.ro 3 2 (List.map en_2_uint8 l12)], []⟩, ⟨.ref 3, [], [], []⟩, ⟨vi i11, [], [], []⟩, ⟨.cell 3 ((i11 : Int).toNat * 2), [], [.ro 3 2 (List.map en_2_uint8 l12)], []⟩, ⟨.cell 3 ((i11 : Int).toNat * 2 + 1), [], [.ro 3 2 (List.map en_2_uint8 l12)], []⟩, ⟨.val (.int .u8 x22.2), [], [.ro 3 2 (List.map en_2_uint8 l12)], []⟩, ⟨.val (.int .u8 (x22.2 / (shK .u8 2 : Int))), [], [], []⟩, ⟨.ref 3, [], [], []⟩, ⟨vi i11, [], [], []⟩, ⟨.cell 3 ((i11 : Int).toNat * 2), [], [.ro 3 2 (List.map en_2_uint8 l12)], []⟩, ⟨.cell 3 ((i11 : Int).toNat * 2 + 1), [], [.ro 3 2 (List.map en_2_uint8 l12)], []⟩, ⟨.val (.int .u8 x22.2), [], [.ro 3 2 (List.map en_2_uint8 l12)], []⟩, ⟨.val (.int .u8 (x22.2 / (shK .u8 5 : Int))), [], [], []⟩, ⟨.ref 44, [.row 44 5 1 (List.map en_uint8 ([x22.2, (x22.2 / (shK .u8 2 : Int)), (x22.2 / (shK .u8 5 : Int))] : List Int))], [], []⟩, ⟨.ref 45, [.ro 45 1 (List.map en_int r60)], [.row 6 46 5 (List.map en_api_RoundTower l19), .row 7 30 1 (List.map en_Lint l20), .row 8 76 4 (List.map en_api_RoundWinder l21), .row 44 5 1 (List.map en_uint8 ([x22.2, (x22.2 / (shK .u8 2 : Int)), (x22.2 / (shK .u8 5 : Int))] : List Int))], []⟩, ⟨.agg [vi (i10 + ((1 : Int) + (Int.tmod x22.1 6))), .ref 45], [], [], []⟩, ⟨.ref 46, [.row 46 32 2 (List.map en_api_RoundDay ([((i10 + ((1 : Int) + (Int.tmod x22.1 6))), r60)] : List (Int × (List Int))))], [.ro 45 1 (List.map en_int r60)], []⟩] rfl ?_ rfl ?_ rfl ?_ ?_
        · kernel_rfl
        · kernel_rfl
        · exact DAll.op' (sp_move rfl rfl) trivial rfl (From.ok (ps := []) trivial) (DAll.op' (sp_move rfl rfl) trivial rfl (From.ok (ps := []) trivial) (DAll.op' (sp_loadBA rfl isBlk rfl vt26 rfl rfl) trivial rfl (From.ok (ps := [(none, 2)]) ⟨⟨rfl, by kernel_rfl⟩, trivial⟩) (DAll.op' (sp_move rfl rfl) trivial rfl (From.ok (ps := []) trivial) (DAll.op' (sp_move rfl rfl) trivial rfl (From.ok (ps := []) trivial) (DAll.op' (sp_indexS rfl rfl rfl isRo sl78 h3 (map_get _ h4)) trivial rfl (From.ok (ps := [(none, 0)]) ⟨⟨rfl, by kernel_rfl⟩, trivial⟩) (DAll.op' (sp_indexAR (q := (i11 : Int).toNat) (len := 2) (iv := 1) rfl rfl rfl isRo Try.underlying79 vt5 (by decide) (map_get _ h4) (fun h => nomatch h)) trivial rfl (From.ok (ps := [(none, 0)]) ⟨⟨rfl, by kernel_rfl⟩, trivial⟩) (DAll.op' (sp_loadR (i := (i11 : Int).toNat) (j := 1) rfl rfl isRo vt5 rfl (map_get _ h4) rfl (.v (.nil)) (nodup_of_B rfl)) trivial rfl (From.ok (ps := [(none, 0)]) ⟨⟨rfl, by kernel_rfl⟩, trivial⟩) (DAll.op' (sp_move rfl rfl) trivial rfl (From.ok (ps := []) trivial) (DAll.op' (sp_move rfl rfl) trivial rfl (From.ok (ps := []) trivial) (DAll.op' (sp_indexS rfl rfl rfl isRo sl78 h3 (map_get _ h4)) trivial rfl (From.ok (ps := [(none, 0)]) ⟨⟨rfl, by kernel_rfl⟩, trivial⟩) (DAll.op' (sp_indexAR (q := (i11 : Int).toNat) (len := 2) (iv := 1) rfl rfl rfl isRo Try.underlying79 vt5 (by decide) (map_get _ h4) (fun h => nomatch h)) trivial rfl (From.ok (ps := [(none, 0)]) ⟨⟨rfl, by kernel_rfl⟩, trivial⟩) (DAll.op' (sp_loadR (i := (i11 : Int).toNat) (j := 1) rfl rfl isRo vt5 rfl (map_get _ h4) rfl (.v (.nil)) (nodup_of_B rfl)) trivial rfl (From.ok (ps := [(none, 0)]) ⟨⟨rfl, by kernel_rfl⟩, trivial⟩) (DAll.op' (sp_shr rfl rfl rfl (by decide)) trivial rfl (From.ok (ps := []) trivial) (DAll.op' (sp_move rfl rfl) trivial rfl (From.ok (ps := []) trivial) (DAll.op' (sp_move rfl rfl) trivial rfl (From.ok (ps := []) trivial) (DAll.op' (sp_indexS rfl rfl rfl isRo sl78 h3 (map_get _ h4)) trivial rfl (From.ok (ps := [(none, 0)]) ⟨⟨rfl, by kernel_rfl⟩, trivial⟩) (DAll.op' (sp_indexAR (q := (i11 : Int).toNat) (len := 2) (iv := 1) rfl rfl rfl isRo Try.underlying79 vt5 (by decide) (map_get _ h4) (fun h => nomatch h)) trivial rfl (From.ok (ps := [(none, 0)]) ⟨⟨rfl, by kernel_rfl⟩, trivial⟩) (DAll.op' (sp_loadR (i := (i11 : Int).toNat) (j := 1) rfl rfl isRo vt5 rfl (map_get _ h4) rfl (.v (.nil)) (nodup_of_B rfl)) trivial rfl (From.ok (ps := [(none, 0)]) ⟨⟨rfl, by kernel_rfl⟩, trivial⟩) (DAll.op' (sp_shr rfl rfl rfl (by decide)) trivial rfl (From.ok (ps := []) trivial) (DAll.op' (sp_buildSlice (qs := [.val (.int .u8 x22.2), .val (.int .u8 (x22.2 / (shK .u8 2 : Int))), .val (.int .u8 (x22.2 / (shK .u8 5 : Int)))]) (need := []) (els := List.map en_uint8 ([x22.2, (x22.2 / (shK .u8 2 : Int)), (x22.2 / (shK .u8 5 : Int))] : List Int)) 44 rfl sl51 (by decide) (by decide) rfl rfl rfl (.v (.v (.v (.nil)))) (map_len fun _ => rfl) rfl rfl rfl) trivial rfl (From.ok (ps := []) trivial) (DAll.op' (OpSpec.froz (news := [.row 45 3 1 (List.map en_int r60)]) 0 rfl (sp_call (avs := [.agg [.ref 6, .ref 7, .ref 8, vi i15, vi i17], .ref 44, vi 3]) (need := [.row 6 46 5 (List.map en_api_RoundTower l19), .row 7 30 1 (List.map en_Lint l20), .row 8 76 4 (List.map en_api_RoundWinder l21), .row 44 5 1 (List.map en_uint8 ([x22.2, (x22.2 / (shK .u8 2 : Int)), (x22.2 / (shK .u8 5 : Int))] : List Int))]) (v := .ref 45) (news := [.row 45 3 1 (List.map en_int r60)]) rfl rfl rfl Try.call20 (atJ [(0, 6), (1, 7), (2, 8), (3, 44)] [(0, 45)] (fc_law11_some h85) rfl rfl) (.inr (List.forall_mem_cons.2 ⟨indep_map en_int_flat, (by simp)⟩)))) trivial rfl (From.ok (ps := [(none, 4), (none, 5), (none, 6), (some 20, 0)]) ⟨⟨rfl, by kernel_rfl⟩, ⟨rfl, by kernel_rfl⟩, ⟨rfl, by kernel_rfl⟩, ⟨_, rfl, by kernel_rfl, rfl, by kernel_rfl⟩, trivial⟩) (DAll.op' (sp_build (qs := [(0, vi (i10 + ((1 : Int) + (Int.tmod x22.1 6)))), (1, .ref 45)]) rfl bt32 rfl rfl rfl rfl) trivial rfl (From.ok (ps := []) trivial) (DAll.op' (sp_buildSlice (qs := [.agg [vi (i10 + ((1 : Int) + (Int.tmod x22.1 6))), .ref 45]]) (need := [.ro 45 1 (List.map en_int r60)]) (els := List.map en_api_RoundDay ([((i10 + ((1 : Int) + (Int.tmod x22.1 6))), r60)] : List (Int × (List Int)))) 46 rfl sl27 (by decide) (by decide) rfl rfl rfl (.v (.s (mem_at 0 rfl) (.nil))) (map_len fun _ => rfl) rfl rfl rfl) trivial rfl (From.ok (ps := [(some 21, 0)]) ⟨⟨_, rfl, by kernel_rfl, rfl, by kernel_rfl⟩, trivial⟩) (.nil))))))))))))))))))))))))
        obtain ⟨h86, h⟩ := chk_inv h
        refine appM 6 0 (N := l18.length) (N2 := ([((i10 + ((1 : Int) + (Int.tmod x22.1 6))), r60)] : List (Int × (List Int))).length) 47 rfl rfl trivial rfl rfl rfl rfl rfl isOwn rfl sl27 (len_map _ _) (len_map _ _) h86 (map_app _ _ _) rfl ?_
        refine op0 (sp_assign rfl rfl) rfl trivial rfl rfl ?_
        refine TL.nil ?_
        refine TC.inBlock ?_
        refine TC.region ?_
        refine op0 (sp_move rfl rfl) rfl trivial rfl rfl ?_
        obtain ⟨h87, h⟩ := chk_inv h
        refine op0 (sp_add rfl rfl rfl h87) rfl trivial rfl rfl ?_
        refine op0 (sp_assign rfl rfl) rfl trivial rfl rfl ?_
        refine TL.nil ?_
        refine TC.inLoop ?_
        refine TC.seq ?_
        refine TC.seq ?_
        refine subJ [(9, 47)] (ih _ _ _ _ _ _ _ _ _ _ _ h) ?_ ?_ ?_
        · exact ⟨rfl, rfl, rfl, rfl, rfl, rfl, rfl, trivial⟩
        · exact ⟨mem_at 4 rfl, mem_at 5 rfl, mem_at 6 rfl, mem_at 0 rfl, mem_at 7 rfl, mem_at 8 rfl, mem_at 9 rfl, trivial⟩
        · rfl
    · have h := cond_f h h2
      refine TC.exit rfl ?_
      refine TC.seq ?_
      refine subJ [] (ok_law11_RoundStops_j1 h) ?_ ?_ ?_
      · exact ⟨rfl, rfl, rfl, rfl, trivial⟩
      · exact ⟨mem_at 1 rfl, mem_at 2 rfl, mem_at 3 rfl, mem_at 4 rfl, mem_at 5 rfl, mem_at 6 rfl, trivial⟩
      · rfl
def ev_law11_RoundStops (n : Nat) (x1 : List (Int × Int × Int × Int × Int)) (x2 : List Int) (x3 : List (Int × Int × Int × Int)) (x4 : Int) (x5 : Int) (by_6 : List (Int × Int)) (more7 : Int) (more8 : Int) : Option Bool :=
  (ev_law11_Town_rules n x1 x2 x3 x4 x5).bind fun r9 => ev_law11_RoundStops_l0 n n 0 0 by_6 more7 more8 r9.2.2.2.1 r9.2.2.2.2 ([] : List (Int × (List Int))) r9.1 r9.2.1 r9.2.2.1
theorem fc_law11_RoundStops {n : Nat} {x1 : List (Int × Int × Int × Int × Int)} {x2 : List Int} {x3 : List (Int × Int × Int × Int)} {x4 : Int} {x5 : Int} {by_6 : List (Int × Int)} {more7 : Int} {more8 : Int} {r : Bool} (h : ev_law11_RoundStops n x1 x2 x3 x4 x5 by_6 more7 more8 = some r) : FC Try.prog 7 [.agg [.ref 0, .ref 1, .ref 2, .val (.int .u8 x4), .val (.int .u8 x5)], .ref 3, .agg [.val (.int .u8 more7), .val (.int .u8 more8)]] [.ro 0 5 (List.map en_5_uint8 x1), .ro 1 1 (List.map en_uint8 x2), .ro 2 4 (List.map en_4_uint8 x3), .ro 3 2 (List.map en_2_uint8 by_6)] (.val (.bool r)) [] := by
  refine introJ (nz := 265) Try.func7 rfl rfl rfl (fun w0 R0 env0 => ?_)
  rw [ev_law11_RoundStops] at h
  refine TC.seq ?_
  refine TC.region ?_
  refine op0 (sp_box 4 rfl rfl rfl rfl rfl) rfl trivial rfl rfl ?_
  refine op0 (sp_box 5 rfl rfl rfl rfl rfl) rfl trivial rfl rfl ?_
  refine op0 (sp_assign rfl rfl) rfl trivial rfl rfl ?_
  refine TL.nil ?_
  refine TC.seq ?_
  refine TC.region ?_
  refine op1 1 rfl (sp_loadBA rfl isBlk rfl vt54 rfl rfl) rfl trivial rfl rfl ?_
  obtain ⟨r9, h1, h⟩ := bind_inv h
  refine opN (need := [.ro 0 5 (List.map en_5_uint8 x1), .ro 1 1 (List.map en_uint8 x2), .ro 2 4 (List.map en_4_uint8 x3)]) [2, 3, 4] ⟨rfl, rfl, rfl, trivial⟩ (sp_call (avs := [.agg [.ref 0, .ref 1, .ref 2, .val (.int .u8 x4), .val (.int .u8 x5)]]) (need := [.ro 0 5 (List.map en_5_uint8 x1), .ro 1 1 (List.map en_uint8 x2), .ro 2 4 (List.map en_4_uint8 x3)]) (v := .agg [.ref 6, .ref 7, .ref 8, vi r9.2.2.2.1, vi r9.2.2.2.2]) (news := [.row 6 46 5 (List.map en_api_RoundTower r9.1), .row 7 30 1 (List.map en_Lint r9.2.1), .row 8 76 4 (List.map en_api_RoundWinder r9.2.2.1)]) rfl rfl rfl Try.call19 (atJ [] [(0, 6), (1, 7), (2, 8)] (fc_law11_Town_rules h1) rfl rfl) (.inl (roAll rfl))) rfl trivial rfl rfl ?_
  refine op0 (sp_emptyM 9 (List.map en_api_RoundDay []) rfl rfl sl27) rfl trivial rfl rfl ?_
  refine op0 (sp_alloc 10 rfl Try.zeroValue26 rfl) rfl trivial rfl rfl ?_
  refine stoB 0 (cells' := [.ref 6, .ref 7, .ref 8, vi r9.2.2.2.1, vi r9.2.2.2.2]) rfl rfl trivial rfl rfl rfl rfl vt26 rfl rfl rfl ?_
  refine op0 (sp_assign rfl rfl) rfl trivial rfl rfl ?_
  refine op0 (sp_assign rfl rfl) rfl trivial rfl rfl ?_
  refine TL.nil ?_
  refine TC.seq ?_
  refine TC.region ?_
  refine op0 (sp_assign rfl rfl) rfl trivial rfl rfl ?_
  refine TL.nil ?_
  refine TC.seq ?_
  refine TC.seq ?_
  refine TC.region ?_
  refine op0 (sp_assign rfl rfl) rfl trivial rfl rfl ?_
  refine TL.nil ?_
  refine TC.block ?_
  refine TC.loop ?_
  refine TC.seq ?_
  refine TC.seq ?_
  refine subJ [] (ok_law11_RoundStops_l0 _ _ _ _ _ _ _ _ _ _ _ _ h) ?_ ?_ ?_
  · exact ⟨rfl, rfl, rfl, rfl, rfl, rfl, rfl, trivial⟩
  · exact ⟨mem_at 10 rfl, mem_at 5 rfl, mem_at 0 rfl, mem_at 1 rfl, mem_at 2 rfl, mem_at 3 rfl, mem_at 4 rfl, trivial⟩
  · rfl
end
end Go.Proofs.Ytohjpfkcahlfkaa.Sy
