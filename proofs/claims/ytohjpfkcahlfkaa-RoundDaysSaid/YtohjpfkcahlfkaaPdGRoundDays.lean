/- What functions of the program compute, and that they do: printed by symgen.py. -/
import Derived.Test.YtohjpfkcahlfkaaPdGLib
import Derived.Test.YtohjpfkcahlfkaaPdGturretlaw11
import Derived.Test.YtohjpfkcahlfkaaPdGRound
import Derived.Test.YtohjpfkcahlfkaaPdGTurretref11
set_option linter.unusedSimpArgs false
set_option linter.unusedVariables false
namespace Go.Proofs.Ytohjpfkcahlfkaa.Sy
open Go.RowKit
noncomputable section
set_option maxRecDepth 100000
set_option maxHeartbeats 2000000
def ev_law11_RoundDays_l5 (n : Nat) (day7 : Int) (r18 : (List Int) × Int) (r20 : Int × Int × Int) : Nat → Int → (List (Int × (List Int))) → Int → Int → (List Int) → (List Int) → (List (Int × Int × Int × Int × Int)) → (List ((List Int))) → (List (Int × Int × Int × Int)) → Option Bool
  | 0, _, _, _, _, _, _, _, _, _ => none
  | m + 1, i29, l30, i31, i33, l34, l35, l36, l37, l38 => cond (decide (i29 < (l36.length : Int))) ((ev_ref11_Last n l30 i29 day7).bind fun r39 => idx l36 i29 fun x40 => chk (in64 (r39 + x40.2.2.2.2)) <| chk (in64 ((r39 + x40.2.2.2.2) - day7)) <| chk (room 8 (l35.length + ([((r39 + x40.2.2.2.2) - day7)] : List Int).length)) <| chk (in64 (i29 + 1)) <| ev_law11_RoundDays_l5 n day7 r18 r20 m (i29 + 1) l30 i31 i33 l34 (l35 ++ ([((r39 + x40.2.2.2.2) - day7)] : List Int)) l36 l37 l38) ((ev_ref11_Stops n l36 l37 l38 i31 i33 l30 day7).bind fun r41 => cond (r18.2 == 0) (cond (r20.2.2 == 0) ((ev_ref11_Same n l34 l35).bind fun r42 => cond r42 (cond (r20.1 == r41.1) (cond (r20.2.1 == r41.2) ((ev_law11_known n).bind fun r43 => some r43) (some false)) (some false)) (some false)) (some false)) (some false))
theorem ok_law11_RoundDays_l5 {n : Nat} {w0 : World} {R0 : Nat → Prop} {env0 : Env} {r : Bool} {day7 : Int} {r18 : (List Int) × Int} {r20 : Int × Int × Int} : ∀ (m : Nat) (i29 : Int) (l30 : List (Int × (List Int))) (i31 : Int) (i33 : Int) (l34 : List Int) (l35 : List Int) (l36 : List (Int × Int × Int × Int × Int)) (l37 : List ((List Int))) (l38 : List (Int × Int × Int × Int)), ev_law11_RoundDays_l5 n day7 r18 r20 m i29 l30 i31 i33 l34 l35 l36 l37 l38 = some r → TC Try.prog ⟨w0, fun _ => False, R0⟩ 208 (bodyPost Try.prog Try.f3 (Post ⟨w0, fun _ => False, R0⟩ env0 (.val (.bool r)) [])) [.code (sub (bodyOf Try.f3) [1, 1, 1, 1, 1, 1, 1, 1, 1, 1, 1, 1, 0, 1, 0, 0, 0, 0]), .code (sub (bodyOf Try.f3) [1, 1, 1, 1, 1, 1, 1, 1, 1, 1, 1, 1, 0, 1, 0, 0, 0, 1]), .code (sub (bodyOf Try.f3) [1, 1, 1, 1, 1, 1, 1, 1, 1, 1, 1, 1, 0, 1, 0, 0, 1]), .inLoop (sub (bodyOf Try.f3) [1, 1, 1, 1, 1, 1, 1, 1, 1, 1, 1, 1, 0, 1, 0, 0]), .inBlock 4, .code (sub (bodyOf Try.f3) [1, 1, 1, 1, 1, 1, 1, 1, 1, 1, 1, 1, 1])] ([(1, .ref 3), (2, vi day7), (3, .ptr 4 0), (9, .ref 10), (10, vi r18.2), (11, vi r20.1), (12, vi r20.2.1), (13, vi r20.2.2), (16, .ref 16), (17, vi i29)]) ([.ro 3 2 (List.map en_api_RoundDay l30), .blk 4 [.ref 0, .ref 1, .ref 2, vi i31, vi i33] 26, .row 10 3 1 (List.map en_int l34), .row 16 3 1 (List.map en_int l35), .ro 0 5 (List.map en_api_RoundTower l36), .ro 1 1 (List.map en_Lint l37), .ro 2 4 (List.map en_api_RoundWinder l38)]) := by
  intro m
  induction m with
  | zero => intro i29 l30 i31 i33 l34 l35 l36 l37 l38 h; exact none_no h
  | succ m ih =>
    intro i29 l30 i31 i33 l34 l35 l36 l37 l38 h
    rw [ev_law11_RoundDays_l5] at h
    refine TC.region ?_
    refine op0 (sp_move rfl rfl) rfl trivial rfl rfl ?_
    refine op1 1 rfl (sp_fieldAddrB rfl isBlk rfl ft26_0 vt22 (by decide)) rfl trivial rfl rfl ?_
    refine op1 1 rfl (sp_loadB rfl isBlk rfl vt22 rfl) rfl trivial rfl rfl ?_
    refine op1 4 rfl (sp_lenM (N := l36.length) (len_map _ _) rfl rfl isRo Try.underlying22) rfl trivial rfl rfl ?_
    refine op0 (sp_lss rfl rfl rfl) rfl trivial rfl rfl ?_
    refine TL.nil ?_
    refine TC.cond (b := (decide (i29 < (l36.length : Int)))) rfl (fun h44 => ?_) (fun h44 => ?_)
    · have h := cond_t h h44
      refine TC.skip ?_
      refine TC.seq ?_
      refine TC.block ?_
      obtain ⟨r39, h45, h⟩ := bind_inv h
      obtain ⟨x40, h46, h47, h⟩ := idx_inv h
      obtain ⟨h48, h⟩ := chk_inv h
      obtain ⟨h49, h⟩ := chk_inv h
      refine drawJ 15 [⟨.ref 16, [], [], []⟩, ⟨.ref 3, [], [], []⟩, ⟨vi i29, [], [], []⟩, ⟨vi day7, [], [], []⟩, ⟨vi r39, [], [.ro 3 2 (List.map en_api_RoundDay l30)], []⟩, ⟨.ptr 4 0, [], [.blk 4 [.ref 0, .ref 1, .ref 2, vi i31, vi i33] 26], []⟩, ⟨.ref 0, [], [.blk 4 [.ref 0, .ref 1, .ref 2, vi i31, vi i33] 26], []⟩, ⟨vi i29, [], [], []⟩, ⟨.cell 0 ((i29 : Int).toNat * 5), [], [.ro 0 5 (List.map en_api_RoundTower l36)], []⟩, ⟨.cell 0 ((i29 : Int).toNat * 5 + 4), [], [.ro 0 5 (List.map en_api_RoundTower l36)], []⟩, ⟨vi x40.2.2.2.2, [], [.ro 0 5 (List.map en_api_RoundTower l36)], []⟩, ⟨vi (r39 + x40.2.2.2.2), [], [], []⟩, ⟨vi day7, [], [], []⟩, ⟨vi ((r39 + x40.2.2.2.2) - day7), [], [], []⟩, ⟨.ref 17, [.row 17 3 1 (List.map en_int ([((r39 + x40.2.2.2.2) - day7)] : List Int))], [], []⟩] rfl ?_ rfl ?_ rfl ?_ ?_
      · kernel_rfl
      · kernel_rfl
      · exact DAll.op' (sp_move rfl rfl) trivial rfl (From.ok (ps := []) trivial) (DAll.op' (sp_move rfl rfl) trivial rfl (From.ok (ps := []) trivial) (DAll.op' (sp_move rfl rfl) trivial rfl (From.ok (ps := []) trivial) (DAll.op' (sp_move rfl rfl) trivial rfl (From.ok (ps := []) trivial) (DAll.op' (sp_call (avs := [.ref 3, vi i29, vi day7]) (need := [.ro 3 2 (List.map en_api_RoundDay l30)]) (v := vi r39) (news := []) rfl rfl rfl Try.call17 (atJ [(0, 3)] [] (fc_ref11_Last h45) rfl rfl) (.inl (roAll rfl))) trivial rfl (From.ok (ps := [(none, 0)]) ⟨⟨rfl, rfl⟩, trivial⟩) (DAll.op' (sp_fieldAddrB rfl isBlk rfl ft26_0 vt22 (by decide)) trivial rfl (From.ok (ps := [(none, 1)]) ⟨⟨rfl, rfl⟩, trivial⟩) (DAll.op' (sp_loadB rfl isBlk rfl vt22 rfl) trivial rfl (From.ok (ps := [(none, 1)]) ⟨⟨rfl, rfl⟩, trivial⟩) (DAll.op' (sp_move rfl rfl) trivial rfl (From.ok (ps := []) trivial) (DAll.op' (sp_indexS rfl rfl rfl isRo sl22 h46 (map_get _ h47)) trivial rfl (From.ok (ps := [(none, 4)]) ⟨⟨rfl, rfl⟩, trivial⟩) (DAll.op' (sp_fieldAddrR (i := (i29 : Int).toNat) rfl rfl isRo ft46_4 vt3 (by decide) (map_get _ h47) (fun h => nomatch h)) trivial rfl (From.ok (ps := [(none, 4)]) ⟨⟨rfl, rfl⟩, trivial⟩) (DAll.op' (sp_loadR (i := (i29 : Int).toNat) (j := 4) rfl rfl isRo vt3 rfl (map_get _ h47) rfl (.v (.nil)) (nodup_of_B rfl)) trivial rfl (From.ok (ps := [(none, 4)]) ⟨⟨rfl, rfl⟩, trivial⟩) (DAll.op' (sp_add rfl rfl rfl h48) trivial rfl (From.ok (ps := []) trivial) (DAll.op' (sp_move rfl rfl) trivial rfl (From.ok (ps := []) trivial) (DAll.op' (sp_sub rfl rfl rfl h49) trivial rfl (From.ok (ps := []) trivial) (DAll.op' (sp_buildSlice (qs := [vi ((r39 + x40.2.2.2.2) - day7)]) (need := []) (els := List.map en_int ([((r39 + x40.2.2.2.2) - day7)] : List Int)) 17 rfl sl30 (by decide) (by decide) rfl rfl rfl (.v (.nil)) (map_len fun _ => rfl) rfl rfl rfl) trivial rfl (From.ok (ps := []) trivial) (.nil)))))))))))))))
      obtain ⟨h50, h⟩ := chk_inv h
      refine appM 4 0 (N := l35.length) (N2 := ([((r39 + x40.2.2.2.2) - day7)] : List Int).length) 18 rfl rfl trivial rfl rfl rfl rfl rfl isOwn rfl sl30 (len_map _ _) (len_map _ _) h50 (map_app _ _ _) rfl ?_
      refine op0 (sp_assign rfl rfl) rfl trivial rfl rfl ?_
      refine TL.nil ?_
      refine TC.inBlock ?_
      refine TC.region ?_
      refine op0 (sp_move rfl rfl) rfl trivial rfl rfl ?_
      obtain ⟨h51, h⟩ := chk_inv h
      refine op0 (sp_add rfl rfl rfl h51) rfl trivial rfl rfl ?_
      refine op0 (sp_assign rfl rfl) rfl trivial rfl rfl ?_
      refine TL.nil ?_
      refine TC.inLoop ?_
      refine TC.seq ?_
      refine TC.seq ?_
      refine subJ [(16, 18)] (ih _ _ _ _ _ _ _ _ _ h) ?_ ?_ ?_
      · exact ⟨rfl, rfl, rfl, rfl, rfl, rfl, rfl, rfl, rfl, rfl, trivial⟩
      · exact ⟨mem_at 2 rfl, mem_at 3 rfl, mem_at 4 rfl, mem_at 0 rfl, mem_at 5 rfl, mem_at 6 rfl, mem_at 7 rfl, trivial⟩
      · rfl
    · have h := cond_f h h44
      refine TC.exit rfl ?_
      refine TC.seq ?_
      refine TC.region ?_
      refine op1 1 rfl (sp_loadBA rfl isBlk rfl vt26 rfl rfl) rfl trivial rfl rfl ?_
      refine op0 (sp_move rfl rfl) rfl trivial rfl rfl ?_
      refine op0 (sp_move rfl rfl) rfl trivial rfl rfl ?_
      obtain ⟨r41, h52, h⟩ := bind_inv h
      refine opN (need := [.ro 0 5 (List.map en_api_RoundTower l36), .ro 1 1 (List.map en_Lint l37), .ro 2 4 (List.map en_api_RoundWinder l38), .ro 3 2 (List.map en_api_RoundDay l30)]) [4, 5, 6, 0] ⟨rfl, rfl, rfl, rfl, trivial⟩ (sp_call (avs := [.agg [.ref 0, .ref 1, .ref 2, vi i31, vi i33], .ref 3, vi day7]) (need := [.ro 0 5 (List.map en_api_RoundTower l36), .ro 1 1 (List.map en_Lint l37), .ro 2 4 (List.map en_api_RoundWinder l38), .ro 3 2 (List.map en_api_RoundDay l30)]) (v := .tup [vi r41.1, vi r41.2]) (news := []) rfl rfl rfl Try.call18 (atJ [] [] (fc_ref11_Stops h52) rfl rfl) (.inl (roAll rfl))) rfl trivial rfl rfl ?_
      refine op0 (sp_move rfl rfl) rfl trivial rfl rfl ?_
      refine op0 (sp_extract rfl rfl rfl) rfl trivial rfl rfl ?_
      refine op0 (sp_extract rfl rfl rfl) rfl trivial rfl rfl ?_
      refine op0 (sp_assign rfl rfl) rfl trivial rfl rfl ?_
      refine op0 (sp_assign rfl rfl) rfl trivial rfl rfl ?_
      refine TL.nil ?_
      refine TC.seq ?_
      refine TC.region ?_
      refine op0 (sp_move rfl rfl) rfl trivial rfl rfl ?_
      refine op0 (sp_eql rfl rfl rfl) rfl trivial rfl rfl ?_
      refine op0 (sp_move rfl rfl) rfl trivial rfl rfl ?_
      rcases cond_cases h with ⟨h53, h⟩ | ⟨h53, h⟩
      · refine (boolLit 186 rfl h53).2 ?_
        refine op0 (sp_move rfl rfl) rfl ⟨_, rfl, rfl⟩ rfl rfl ?_
        refine op0 (sp_eql rfl rfl rfl) rfl ⟨_, rfl, rfl⟩ rfl rfl ?_
        refine op0 (sp_pickT rfl rfl rfl) rfl trivial rfl rfl ?_
        refine op0 (sp_move rfl rfl) rfl trivial rfl rfl ?_
        rcases cond_cases h with ⟨h54, h⟩ | ⟨h54, h⟩
        · refine (boolLit 190 rfl h54).2 ?_
          refine op0 (sp_move rfl rfl) rfl ⟨_, rfl, rfl⟩ rfl rfl ?_
          refine op0 (sp_move rfl rfl) rfl ⟨_, rfl, rfl⟩ rfl rfl ?_
          obtain ⟨r42, h55, h⟩ := bind_inv h
          refine opN (need := [.row 10 3 1 (List.map en_int l34), .row 16 3 1 (List.map en_int l35)]) [2, 3] ⟨rfl, rfl, trivial⟩ (sp_call (avs := [.ref 10, .ref 16]) (need := [.row 10 3 1 (List.map en_int l34), .row 16 3 1 (List.map en_int l35)]) (v := .val (.bool r42)) (news := []) rfl rfl rfl Try.call14 (atJ [(0, 10), (1, 16)] [] (fc_ref11_Same h55) rfl rfl) (.inr (fun x hx => nomatch hx))) rfl ⟨_, rfl, rfl⟩ rfl rfl ?_
          refine op0 (sp_pickT rfl rfl rfl) rfl trivial rfl rfl ?_
          refine op0 (sp_move rfl rfl) rfl trivial rfl rfl ?_
          rcases cond_cases h with ⟨h56, h⟩ | ⟨h56, h⟩
          · refine (boolLit 195 rfl h56).2 ?_
            refine op0 (sp_move rfl rfl) rfl ⟨_, rfl, rfl⟩ rfl rfl ?_
            refine op0 (sp_move rfl rfl) rfl ⟨_, rfl, rfl⟩ rfl rfl ?_
            refine op0 (sp_eql rfl rfl rfl) rfl ⟨_, rfl, rfl⟩ rfl rfl ?_
            refine op0 (sp_pickT rfl rfl rfl) rfl trivial rfl rfl ?_
            refine op0 (sp_move rfl rfl) rfl trivial rfl rfl ?_
            rcases cond_cases h with ⟨h57, h⟩ | ⟨h57, h⟩
            · refine (boolLit 200 rfl h57).2 ?_
              refine op0 (sp_move rfl rfl) rfl ⟨_, rfl, rfl⟩ rfl rfl ?_
              refine op0 (sp_move rfl rfl) rfl ⟨_, rfl, rfl⟩ rfl rfl ?_
              refine op0 (sp_eql rfl rfl rfl) rfl ⟨_, rfl, rfl⟩ rfl rfl ?_
              refine op0 (sp_pickT rfl rfl rfl) rfl trivial rfl rfl ?_
              refine op0 (sp_move rfl rfl) rfl trivial rfl rfl ?_
              rcases cond_cases h with ⟨h58, h⟩ | ⟨h58, h⟩
              · refine (boolLit 205 rfl h58).2 ?_
                obtain ⟨r43, h59, h⟩ := bind_inv h
                refine op0 (sp_call (avs := []) (need := []) (v := .val (.bool r43)) (news := []) rfl rfl rfl Try.call9 (atJ [] [] (fc_law11_known h59) rfl rfl) (.inl (roAll rfl))) rfl ⟨_, rfl, rfl⟩ rfl rfl ?_
                refine op0 (sp_pickT rfl rfl rfl) rfl trivial rfl rfl ?_
                refine op0 (sp_assign rfl rfl) rfl trivial rfl rfl ?_
                refine TL.nil ?_
                cases h
                exact retJ [] (.tmp rfl .nil) rfl trivial rfl rfl
              · refine (boolLit 205 rfl h58).2 ?_
                refine opSkip rfl ⟨_, rfl, .inl rfl⟩ rfl ?_
                refine op0 (sp_pickF rfl rfl rfl) rfl trivial rfl rfl ?_
                refine op0 (sp_assign rfl rfl) rfl trivial rfl rfl ?_
                refine TL.nil ?_
                cases h
                exact retJ [] (.tmp rfl .nil) rfl trivial rfl rfl
            · refine (boolLit 200 rfl h57).2 ?_
              refine opSkip rfl ⟨_, rfl, .inl rfl⟩ rfl ?_
              refine opSkip rfl ⟨_, rfl, .inl rfl⟩ rfl ?_
              refine opSkip rfl ⟨_, rfl, .inl rfl⟩ rfl ?_
              refine op0 (sp_pickF rfl rfl rfl) rfl trivial rfl rfl ?_
              refine op0 (sp_move rfl rfl) rfl trivial rfl rfl ?_
              refine opSkip rfl ⟨_, rfl, .inl rfl⟩ rfl ?_
              refine op0 (sp_pickF rfl rfl rfl) rfl trivial rfl rfl ?_
              refine op0 (sp_assign rfl rfl) rfl trivial rfl rfl ?_
              refine TL.nil ?_
              cases h
              exact retJ [] (.tmp rfl .nil) rfl trivial rfl rfl
          · refine (boolLit 195 rfl h56).2 ?_
            refine opSkip rfl ⟨_, rfl, .inl rfl⟩ rfl ?_
            refine opSkip rfl ⟨_, rfl, .inl rfl⟩ rfl ?_
            refine opSkip rfl ⟨_, rfl, .inl rfl⟩ rfl ?_
            refine op0 (sp_pickF rfl rfl rfl) rfl trivial rfl rfl ?_
            refine op0 (sp_move rfl rfl) rfl trivial rfl rfl ?_
            refine opSkip rfl ⟨_, rfl, .inl rfl⟩ rfl ?_
            refine opSkip rfl ⟨_, rfl, .inl rfl⟩ rfl ?_
            refine opSkip rfl ⟨_, rfl, .inl rfl⟩ rfl ?_
            refine op0 (sp_pickF rfl rfl rfl) rfl trivial rfl rfl ?_
            refine op0 (sp_move rfl rfl) rfl trivial rfl rfl ?_
            refine opSkip rfl ⟨_, rfl, .inl rfl⟩ rfl ?_
            refine op0 (sp_pickF rfl rfl rfl) rfl trivial rfl rfl ?_
            refine op0 (sp_assign rfl rfl) rfl trivial rfl rfl ?_
            refine TL.nil ?_
            cases h
            exact retJ [] (.tmp rfl .nil) rfl trivial rfl rfl
        · refine (boolLit 190 rfl h54).2 ?_
          refine opSkip rfl ⟨_, rfl, .inl rfl⟩ rfl ?_
          refine opSkip rfl ⟨_, rfl, .inl rfl⟩ rfl ?_
          refine opSkip rfl ⟨_, rfl, .inl rfl⟩ rfl ?_
          refine op0 (sp_pickF rfl rfl rfl) rfl trivial rfl rfl ?_
          refine op0 (sp_move rfl rfl) rfl trivial rfl rfl ?_
          refine opSkip rfl ⟨_, rfl, .inl rfl⟩ rfl ?_
          refine opSkip rfl ⟨_, rfl, .inl rfl⟩ rfl ?_
          refine opSkip rfl ⟨_, rfl, .inl rfl⟩ rfl ?_
          refine op0 (sp_pickF rfl rfl rfl) rfl trivial rfl rfl ?_
          refine op0 (sp_move rfl rfl) rfl trivial rfl rfl ?_
          refine opSkip rfl ⟨_, rfl, .inl rfl⟩ rfl ?_
          refine opSkip rfl ⟨_, rfl, .inl rfl⟩ rfl ?_
          refine opSkip rfl ⟨_, rfl, .inl rfl⟩ rfl ?_
          refine op0 (sp_pickF rfl rfl rfl) rfl trivial rfl rfl ?_
          refine op0 (sp_move rfl rfl) rfl trivial rfl rfl ?_
          refine opSkip rfl ⟨_, rfl, .inl rfl⟩ rfl ?_
          refine op0 (sp_pickF rfl rfl rfl) rfl trivial rfl rfl ?_
          refine op0 (sp_assign rfl rfl) rfl trivial rfl rfl ?_
          refine TL.nil ?_
          cases h
          exact retJ [] (.tmp rfl .nil) rfl trivial rfl rfl
      · refine (boolLit 186 rfl h53).2 ?_
        refine opSkip rfl ⟨_, rfl, .inl rfl⟩ rfl ?_
        refine opSkip rfl ⟨_, rfl, .inl rfl⟩ rfl ?_
        refine op0 (sp_pickF rfl rfl rfl) rfl trivial rfl rfl ?_
        refine op0 (sp_move rfl rfl) rfl trivial rfl rfl ?_
        refine opSkip rfl ⟨_, rfl, .inl rfl⟩ rfl ?_
        refine opSkip rfl ⟨_, rfl, .inl rfl⟩ rfl ?_
        refine opSkip rfl ⟨_, rfl, .inl rfl⟩ rfl ?_
        refine op0 (sp_pickF rfl rfl rfl) rfl trivial rfl rfl ?_
        refine op0 (sp_move rfl rfl) rfl trivial rfl rfl ?_
        refine opSkip rfl ⟨_, rfl, .inl rfl⟩ rfl ?_
        refine opSkip rfl ⟨_, rfl, .inl rfl⟩ rfl ?_
        refine opSkip rfl ⟨_, rfl, .inl rfl⟩ rfl ?_
        refine op0 (sp_pickF rfl rfl rfl) rfl trivial rfl rfl ?_
        refine op0 (sp_move rfl rfl) rfl trivial rfl rfl ?_
        refine opSkip rfl ⟨_, rfl, .inl rfl⟩ rfl ?_
        refine opSkip rfl ⟨_, rfl, .inl rfl⟩ rfl ?_
        refine opSkip rfl ⟨_, rfl, .inl rfl⟩ rfl ?_
        refine op0 (sp_pickF rfl rfl rfl) rfl trivial rfl rfl ?_
        refine op0 (sp_move rfl rfl) rfl trivial rfl rfl ?_
        refine opSkip rfl ⟨_, rfl, .inl rfl⟩ rfl ?_
        refine op0 (sp_pickF rfl rfl rfl) rfl trivial rfl rfl ?_
        refine op0 (sp_assign rfl rfl) rfl trivial rfl rfl ?_
        refine TL.nil ?_
        cases h
        exact retJ [] (.tmp rfl .nil) rfl trivial rfl rfl
def ev_law11_RoundDays_j4 (n : Nat) (r18 : (List Int) × Int) (r20 : Int × Int × Int) (day7 : Int) (l6 : List (Int × (List Int))) (rr4 : Int) (rr5 : Int) (rr1 : List (Int × Int × Int × Int × Int)) (rr2 : List ((List Int))) (rr3 : List (Int × Int × Int × Int)) : Option Bool :=
  cond ((3 : Int) != 0) (cond (r18.2 == 3) (cond (r20.2.2 == 3) (cond ((r18.1.length : Int) == 0) (cond (r20.1 == 0) (cond (r20.2.1 == 0) ((ev_law11_known n).bind fun r28 => some r28) (some false)) (some false)) (some false)) (some false)) (some false)) (ev_law11_RoundDays_l5 n day7 r18 r20 n 0 l6 rr4 rr5 r18.1 ([] : List Int) rr1 rr2 rr3)
theorem ok_law11_RoundDays_j4 {n : Nat} {w0 : World} {R0 : Nat → Prop} {env0 : Env} {r : Bool} {day7 : Int} {r18 : (List Int) × Int} {r20 : Int × Int × Int} {l6 : List (Int × (List Int))} {rr4 : Int} {rr5 : Int} {rr1 : List (Int × Int × Int × Int × Int)} {rr2 : List ((List Int))} {rr3 : List (Int × Int × Int × Int)} (h : ev_law11_RoundDays_j4 n r18 r20 day7 l6 rr4 rr5 rr1 rr2 rr3 = some r) : TC Try.prog ⟨w0, fun _ => False, R0⟩ 208 (bodyPost Try.prog Try.f3 (Post ⟨w0, fun _ => False, R0⟩ env0 (.val (.bool r)) [])) [.code (sub (bodyOf Try.f3) [1, 1, 1, 1, 1, 1, 1, 1, 1, 0, 1, 0]), .code (sub (bodyOf Try.f3) [1, 1, 1, 1, 1, 1, 1, 1, 1, 1])] ([(1, .ref 3), (2, vi day7), (3, .ptr 4 0), (9, .ref 10), (10, vi r18.2), (11, vi r20.1), (12, vi r20.2.1), (13, vi r20.2.2)]) ([.ro 3 2 (List.map en_api_RoundDay l6), .blk 4 [.ref 0, .ref 1, .ref 2, vi rr4, vi rr5] 26, .row 10 3 1 (List.map en_int r18.1), .ro 0 5 (List.map en_api_RoundTower rr1), .ro 1 1 (List.map en_Lint rr2), .ro 2 4 (List.map en_api_RoundWinder rr3)]) := by
  rw [ev_law11_RoundDays_j4] at h
  refine TC.region ?_
  refine op0 (sp_assign rfl rfl) rfl trivial rfl rfl ?_
  refine TL.nil ?_
  refine TC.seq ?_
  refine TC.seq ?_
  refine TC.region ?_
  refine op0 (sp_move rfl rfl) rfl trivial rfl rfl ?_
  refine op0 (sp_neq rfl rfl rfl) rfl trivial rfl rfl ?_
  refine TL.nil ?_
  refine TC.cond (b := ((3 : Int) != 0)) rfl (fun h37 => ?_) (fun h37 => ?_)
  · have h := cond_t h h37
    refine TC.seq ?_
    refine TC.region ?_
    refine op0 (sp_move rfl rfl) rfl trivial rfl rfl ?_
    refine op0 (sp_move rfl rfl) rfl trivial rfl rfl ?_
    refine op0 (sp_eql rfl rfl rfl) rfl trivial rfl rfl ?_
    refine op0 (sp_move rfl rfl) rfl trivial rfl rfl ?_
    rcases cond_cases h with ⟨h38, h⟩ | ⟨h38, h⟩
    · refine (boolLit 132 rfl h38).2 ?_
      refine op0 (sp_move rfl rfl) rfl ⟨_, rfl, rfl⟩ rfl rfl ?_
      refine op0 (sp_move rfl rfl) rfl ⟨_, rfl, rfl⟩ rfl rfl ?_
      refine op0 (sp_eql rfl rfl rfl) rfl ⟨_, rfl, rfl⟩ rfl rfl ?_
      refine op0 (sp_pickT rfl rfl rfl) rfl trivial rfl rfl ?_
      refine op0 (sp_move rfl rfl) rfl trivial rfl rfl ?_
      rcases cond_cases h with ⟨h39, h⟩ | ⟨h39, h⟩
      · refine (boolLit 137 rfl h39).2 ?_
        refine op0 (sp_move rfl rfl) rfl ⟨_, rfl, rfl⟩ rfl rfl ?_
        refine op1 2 rfl (sp_lenM (N := r18.1.length) (len_map _ _) rfl rfl isOwn Try.underlying30) rfl ⟨_, rfl, rfl⟩ rfl rfl ?_
        refine op0 (sp_eql rfl rfl rfl) rfl ⟨_, rfl, rfl⟩ rfl rfl ?_
        refine op0 (sp_pickT rfl rfl rfl) rfl trivial rfl rfl ?_
        refine op0 (sp_move rfl rfl) rfl trivial rfl rfl ?_
        rcases cond_cases h with ⟨h40, h⟩ | ⟨h40, h⟩
        · refine (boolLit 142 rfl h40).2 ?_
          refine op0 (sp_move rfl rfl) rfl ⟨_, rfl, rfl⟩ rfl rfl ?_
          refine op0 (sp_eql rfl rfl rfl) rfl ⟨_, rfl, rfl⟩ rfl rfl ?_
          refine op0 (sp_pickT rfl rfl rfl) rfl trivial rfl rfl ?_
          refine op0 (sp_move rfl rfl) rfl trivial rfl rfl ?_
          rcases cond_cases h with ⟨h41, h⟩ | ⟨h41, h⟩
          · refine (boolLit 146 rfl h41).2 ?_
            refine op0 (sp_move rfl rfl) rfl ⟨_, rfl, rfl⟩ rfl rfl ?_
            refine op0 (sp_eql rfl rfl rfl) rfl ⟨_, rfl, rfl⟩ rfl rfl ?_
            refine op0 (sp_pickT rfl rfl rfl) rfl trivial rfl rfl ?_
            refine op0 (sp_move rfl rfl) rfl trivial rfl rfl ?_
            rcases cond_cases h with ⟨h42, h⟩ | ⟨h42, h⟩
            · refine (boolLit 150 rfl h42).2 ?_
              obtain ⟨r28, h43, h⟩ := bind_inv h
              refine op0 (sp_call (avs := []) (need := []) (v := .val (.bool r28)) (news := []) rfl rfl rfl Try.call9 (atJ [] [] (fc_law11_known h43) rfl rfl) (.inl (roAll rfl))) rfl ⟨_, rfl, rfl⟩ rfl rfl ?_
              refine op0 (sp_pickT rfl rfl rfl) rfl trivial rfl rfl ?_
              refine op0 (sp_assign rfl rfl) rfl trivial rfl rfl ?_
              refine TL.nil ?_
              cases h
              exact retJ [] (.tmp rfl .nil) rfl trivial rfl rfl
            · refine (boolLit 150 rfl h42).2 ?_
              refine opSkip rfl ⟨_, rfl, .inl rfl⟩ rfl ?_
              refine op0 (sp_pickF rfl rfl rfl) rfl trivial rfl rfl ?_
              refine op0 (sp_assign rfl rfl) rfl trivial rfl rfl ?_
              refine TL.nil ?_
              cases h
              exact retJ [] (.tmp rfl .nil) rfl trivial rfl rfl
          · refine (boolLit 146 rfl h41).2 ?_
            refine opSkip rfl ⟨_, rfl, .inl rfl⟩ rfl ?_
            refine opSkip rfl ⟨_, rfl, .inl rfl⟩ rfl ?_
            refine op0 (sp_pickF rfl rfl rfl) rfl trivial rfl rfl ?_
            refine op0 (sp_move rfl rfl) rfl trivial rfl rfl ?_
            refine opSkip rfl ⟨_, rfl, .inl rfl⟩ rfl ?_
            refine op0 (sp_pickF rfl rfl rfl) rfl trivial rfl rfl ?_
            refine op0 (sp_assign rfl rfl) rfl trivial rfl rfl ?_
            refine TL.nil ?_
            cases h
            exact retJ [] (.tmp rfl .nil) rfl trivial rfl rfl
        · refine (boolLit 142 rfl h40).2 ?_
          refine opSkip rfl ⟨_, rfl, .inl rfl⟩ rfl ?_
          refine opSkip rfl ⟨_, rfl, .inl rfl⟩ rfl ?_
          refine op0 (sp_pickF rfl rfl rfl) rfl trivial rfl rfl ?_
          refine op0 (sp_move rfl rfl) rfl trivial rfl rfl ?_
          refine opSkip rfl ⟨_, rfl, .inl rfl⟩ rfl ?_
          refine opSkip rfl ⟨_, rfl, .inl rfl⟩ rfl ?_
          refine op0 (sp_pickF rfl rfl rfl) rfl trivial rfl rfl ?_
          refine op0 (sp_move rfl rfl) rfl trivial rfl rfl ?_
          refine opSkip rfl ⟨_, rfl, .inl rfl⟩ rfl ?_
          refine op0 (sp_pickF rfl rfl rfl) rfl trivial rfl rfl ?_
          refine op0 (sp_assign rfl rfl) rfl trivial rfl rfl ?_
          refine TL.nil ?_
          cases h
          exact retJ [] (.tmp rfl .nil) rfl trivial rfl rfl
      · refine (boolLit 137 rfl h39).2 ?_
        refine opSkip rfl ⟨_, rfl, .inl rfl⟩ rfl ?_
        refine opSkip rfl ⟨_, rfl, .inl rfl⟩ rfl ?_
        refine opSkip rfl ⟨_, rfl, .inl rfl⟩ rfl ?_
        refine op0 (sp_pickF rfl rfl rfl) rfl trivial rfl rfl ?_
        refine op0 (sp_move rfl rfl) rfl trivial rfl rfl ?_
        refine opSkip rfl ⟨_, rfl, .inl rfl⟩ rfl ?_
        refine opSkip rfl ⟨_, rfl, .inl rfl⟩ rfl ?_
        refine op0 (sp_pickF rfl rfl rfl) rfl trivial rfl rfl ?_
        refine op0 (sp_move rfl rfl) rfl trivial rfl rfl ?_
        refine opSkip rfl ⟨_, rfl, .inl rfl⟩ rfl ?_
        refine opSkip rfl ⟨_, rfl, .inl rfl⟩ rfl ?_
        refine op0 (sp_pickF rfl rfl rfl) rfl trivial rfl rfl ?_
        refine op0 (sp_move rfl rfl) rfl trivial rfl rfl ?_
        refine opSkip rfl ⟨_, rfl, .inl rfl⟩ rfl ?_
        refine op0 (sp_pickF rfl rfl rfl) rfl trivial rfl rfl ?_
        refine op0 (sp_assign rfl rfl) rfl trivial rfl rfl ?_
        refine TL.nil ?_
        cases h
        exact retJ [] (.tmp rfl .nil) rfl trivial rfl rfl
    · refine (boolLit 132 rfl h38).2 ?_
      refine opSkip rfl ⟨_, rfl, .inl rfl⟩ rfl ?_
      refine opSkip rfl ⟨_, rfl, .inl rfl⟩ rfl ?_
      refine opSkip rfl ⟨_, rfl, .inl rfl⟩ rfl ?_
      refine op0 (sp_pickF rfl rfl rfl) rfl trivial rfl rfl ?_
      refine op0 (sp_move rfl rfl) rfl trivial rfl rfl ?_
      refine opSkip rfl ⟨_, rfl, .inl rfl⟩ rfl ?_
      refine opSkip rfl ⟨_, rfl, .inl rfl⟩ rfl ?_
      refine opSkip rfl ⟨_, rfl, .inl rfl⟩ rfl ?_
      refine op0 (sp_pickF rfl rfl rfl) rfl trivial rfl rfl ?_
      refine op0 (sp_move rfl rfl) rfl trivial rfl rfl ?_
      refine opSkip rfl ⟨_, rfl, .inl rfl⟩ rfl ?_
      refine opSkip rfl ⟨_, rfl, .inl rfl⟩ rfl ?_
      refine op0 (sp_pickF rfl rfl rfl) rfl trivial rfl rfl ?_
      refine op0 (sp_move rfl rfl) rfl trivial rfl rfl ?_
      refine opSkip rfl ⟨_, rfl, .inl rfl⟩ rfl ?_
      refine opSkip rfl ⟨_, rfl, .inl rfl⟩ rfl ?_
      refine op0 (sp_pickF rfl rfl rfl) rfl trivial rfl rfl ?_
      refine op0 (sp_move rfl rfl) rfl trivial rfl rfl ?_
      refine opSkip rfl ⟨_, rfl, .inl rfl⟩ rfl ?_
      refine op0 (sp_pickF rfl rfl rfl) rfl trivial rfl rfl ?_
      refine op0 (sp_assign rfl rfl) rfl trivial rfl rfl ?_
      refine TL.nil ?_
      cases h
      exact retJ [] (.tmp rfl .nil) rfl trivial rfl rfl
  · have h := cond_f h h37
    refine TC.skip ?_
    refine TC.seq ?_
    refine TC.region ?_
    refine op0 (sp_emptyM 16 (List.map en_int []) rfl rfl sl30) rfl trivial rfl rfl ?_
    refine op0 (sp_assign rfl rfl) rfl trivial rfl rfl ?_
    refine TL.nil ?_
    refine TC.seq ?_
    refine TC.seq ?_
    refine TC.region ?_
    refine op0 (sp_assign rfl rfl) rfl trivial rfl rfl ?_
    refine TL.nil ?_
    refine TC.block ?_
    refine TC.loop ?_
    refine TC.seq ?_
    refine TC.seq ?_
    refine subJ [] (ok_law11_RoundDays_l5 _ _ _ _ _ _ _ _ _ _ h) ?_ ?_ ?_
    · exact ⟨rfl, rfl, rfl, rfl, rfl, rfl, rfl, rfl, rfl, rfl, trivial⟩
    · exact ⟨mem_at 1 rfl, mem_at 2 rfl, mem_at 3 rfl, mem_at 0 rfl, mem_at 4 rfl, mem_at 5 rfl, mem_at 6 rfl, trivial⟩
    · rfl
def ev_law11_RoundDays_l8 (n : Nat) (day7 : Int) (r18 : (List Int) × Int) (r20 : Int × Int × Int) : Nat → Int → (List (Int × (List Int))) → Int → Int → (List Int) → (List Int) → (List (Int × Int × Int × Int × Int)) → (List ((List Int))) → (List (Int × Int × Int × Int)) → Option Bool
  | 0, _, _, _, _, _, _, _, _, _ => none
  | m + 1, i46, l47, i48, i49, l50, l51, l52, l53, l54 => cond (decide (i46 < (l52.length : Int))) ((ev_ref11_Last n l47 i46 day7).bind fun r55 => idx l52 i46 fun x56 => chk (in64 (r55 + x56.2.2.2.2)) <| chk (in64 ((r55 + x56.2.2.2.2) - day7)) <| chk (room 8 (l51.length + ([((r55 + x56.2.2.2.2) - day7)] : List Int).length)) <| chk (in64 (i46 + 1)) <| ev_law11_RoundDays_l8 n day7 r18 r20 m (i46 + 1) l47 i48 i49 l50 (l51 ++ ([((r55 + x56.2.2.2.2) - day7)] : List Int)) l52 l53 l54) ((ev_ref11_Stops n l52 l53 l54 i48 i49 l47 day7).bind fun r57 => cond (r18.2 == 0) (cond (r20.2.2 == 0) ((ev_ref11_Same n l50 l51).bind fun r58 => cond r58 (cond (r20.1 == r57.1) (cond (r20.2.1 == r57.2) ((ev_law11_known n).bind fun r59 => some r59) (some false)) (some false)) (some false)) (some false)) (some false))
theorem ok_law11_RoundDays_l8 {n : Nat} {w0 : World} {R0 : Nat → Prop} {env0 : Env} {r : Bool} {day7 : Int} {r18 : (List Int) × Int} {r20 : Int × Int × Int} : ∀ (m : Nat) (i46 : Int) (l47 : List (Int × (List Int))) (i48 : Int) (i49 : Int) (l50 : List Int) (l51 : List Int) (l52 : List (Int × Int × Int × Int × Int)) (l53 : List ((List Int))) (l54 : List (Int × Int × Int × Int)), ev_law11_RoundDays_l8 n day7 r18 r20 m i46 l47 i48 i49 l50 l51 l52 l53 l54 = some r → TC Try.prog ⟨w0, fun _ => False, R0⟩ 208 (bodyPost Try.prog Try.f3 (Post ⟨w0, fun _ => False, R0⟩ env0 (.val (.bool r)) [])) [.code (sub (bodyOf Try.f3) [1, 1, 1, 1, 1, 1, 1, 1, 1, 1, 1, 1, 0, 1, 0, 0, 0, 0]), .code (sub (bodyOf Try.f3) [1, 1, 1, 1, 1, 1, 1, 1, 1, 1, 1, 1, 0, 1, 0, 0, 0, 1]), .code (sub (bodyOf Try.f3) [1, 1, 1, 1, 1, 1, 1, 1, 1, 1, 1, 1, 0, 1, 0, 0, 1]), .inLoop (sub (bodyOf Try.f3) [1, 1, 1, 1, 1, 1, 1, 1, 1, 1, 1, 1, 0, 1, 0, 0]), .inBlock 4, .code (sub (bodyOf Try.f3) [1, 1, 1, 1, 1, 1, 1, 1, 1, 1, 1, 1, 1])] ([(1, .ref 3), (2, vi day7), (3, .ptr 4 0), (9, .ref 10), (10, vi r18.2), (11, vi r20.1), (12, vi r20.2.1), (13, vi r20.2.2), (16, .ref 19), (17, vi i46)]) ([.ro 3 2 (List.map en_api_RoundDay l47), .blk 4 [.ref 0, .ref 1, .ref 2, vi i48, vi i49] 26, .row 10 3 1 (List.map en_int l50), .row 19 3 1 (List.map en_int l51), .ro 0 5 (List.map en_api_RoundTower l52), .ro 1 1 (List.map en_Lint l53), .ro 2 4 (List.map en_api_RoundWinder l54)]) := by
  intro m
  induction m with
  | zero => intro i46 l47 i48 i49 l50 l51 l52 l53 l54 h; exact none_no h
  | succ m ih =>
    intro i46 l47 i48 i49 l50 l51 l52 l53 l54 h
    rw [ev_law11_RoundDays_l8] at h
    refine TC.region ?_
    refine op0 (sp_move rfl rfl) rfl trivial rfl rfl ?_
    refine op1 1 rfl (sp_fieldAddrB rfl isBlk rfl ft26_0 vt22 (by decide)) rfl trivial rfl rfl ?_
    refine op1 1 rfl (sp_loadB rfl isBlk rfl vt22 rfl) rfl trivial rfl rfl ?_
    refine op1 4 rfl (sp_lenM (N := l52.length) (len_map _ _) rfl rfl isRo Try.underlying22) rfl trivial rfl rfl ?_
    refine op0 (sp_lss rfl rfl rfl) rfl trivial rfl rfl ?_
    refine TL.nil ?_
    refine TC.cond (b := (decide (i46 < (l52.length : Int)))) rfl (fun h68 => ?_) (fun h68 => ?_)
    · have h := cond_t h h68
      refine TC.skip ?_
      refine TC.seq ?_
      refine TC.block ?_
      obtain ⟨r55, h69, h⟩ := bind_inv h
      obtain ⟨x56, h70, h71, h⟩ := idx_inv h
      obtain ⟨h72, h⟩ := chk_inv h
      obtain ⟨h73, h⟩ := chk_inv h
      refine drawJ 15 [⟨.ref 19, [], [], []⟩, ⟨.ref 3, [], [], []⟩, ⟨vi i46, [], [], []⟩, ⟨vi day7, [], [], []⟩, ⟨vi r55, [], [.ro 3 2 (List.map en_api_RoundDay l47)], []⟩, ⟨.ptr 4 0, [], [.blk 4 [.ref 0, .ref 1, .ref 2, vi i48, vi i49] 26], []⟩, ⟨.ref 0, [], [.blk 4 [.ref 0, .ref 1, .ref 2, vi i48, vi i49] 26], []⟩, ⟨vi i46, [], [], []⟩, ⟨.cell 0 ((i46 : Int).toNat * 5), [], [.ro 0 5 (List.map en_api_RoundTower l52)], []⟩, ⟨.cell 0 ((i46 : Int).toNat * 5 + 4), [], [.ro 0 5 (List.map en_api_RoundTower l52)], []⟩, ⟨vi x56.2.2.2.2, [], [.ro 0 5 (List.map en_api_RoundTower l52)], []⟩, ⟨vi (r55 + x56.2.2.2.2), [], [], []⟩, ⟨vi day7, [], [], []⟩, ⟨vi ((r55 + x56.2.2.2.2) - day7), [], [], []⟩, ⟨.ref 20, [.row 20 3 1 (List.map en_int ([((r55 + x56.2.2.2.2) - day7)] : List Int))], [], []⟩] rfl ?_ rfl ?_ rfl ?_ ?_
      · kernel_rfl
      · kernel_rfl
      · exact DAll.op' (sp_move rfl rfl) trivial rfl (From.ok (ps := []) trivial) (DAll.op' (sp_move rfl rfl) trivial rfl (From.ok (ps := []) trivial) (DAll.op' (sp_move rfl rfl) trivial rfl (From.ok (ps := []) trivial) (DAll.op' (sp_move rfl rfl) trivial rfl (From.ok (ps := []) trivial) (DAll.op' (sp_call (avs := [.ref 3, vi i46, vi day7]) (need := [.ro 3 2 (List.map en_api_RoundDay l47)]) (v := vi r55) (news := []) rfl rfl rfl Try.call17 (atJ [(0, 3)] [] (fc_ref11_Last h69) rfl rfl) (.inl (roAll rfl))) trivial rfl (From.ok (ps := [(none, 0)]) ⟨⟨rfl, rfl⟩, trivial⟩) (DAll.op' (sp_fieldAddrB rfl isBlk rfl ft26_0 vt22 (by decide)) trivial rfl (From.ok (ps := [(none, 1)]) ⟨⟨rfl, rfl⟩, trivial⟩) (DAll.op' (sp_loadB rfl isBlk rfl vt22 rfl) trivial rfl (From.ok (ps := [(none, 1)]) ⟨⟨rfl, rfl⟩, trivial⟩) (DAll.op' (sp_move rfl rfl) trivial rfl (From.ok (ps := []) trivial) (DAll.op' (sp_indexS rfl rfl rfl isRo sl22 h70 (map_get _ h71)) trivial rfl (From.ok (ps := [(none, 4)]) ⟨⟨rfl, rfl⟩, trivial⟩) (DAll.op' (sp_fieldAddrR (i := (i46 : Int).toNat) rfl rfl isRo ft46_4 vt3 (by decide) (map_get _ h71) (fun h => nomatch h)) trivial rfl (From.ok (ps := [(none, 4)]) ⟨⟨rfl, rfl⟩, trivial⟩) (DAll.op' (sp_loadR (i := (i46 : Int).toNat) (j := 4) rfl rfl isRo vt3 rfl (map_get _ h71) rfl (.v (.nil)) (nodup_of_B rfl)) trivial rfl (From.ok (ps := [(none, 4)]) ⟨⟨rfl, rfl⟩, trivial⟩) (DAll.op' (sp_add rfl rfl rfl h72) trivial rfl (From.ok (ps := []) trivial) (DAll.op' (sp_move rfl rfl) trivial rfl (From.ok (ps := []) trivial) (DAll.op' (sp_sub rfl rfl rfl h73) trivial rfl (From.ok (ps := []) trivial) (DAll.op' (sp_buildSlice (qs := [vi ((r55 + x56.2.2.2.2) - day7)]) (need := []) (els := List.map en_int ([((r55 + x56.2.2.2.2) - day7)] : List Int)) 20 rfl sl30 (by decide) (by decide) rfl rfl rfl (.v (.nil)) (map_len fun _ => rfl) rfl rfl rfl) trivial rfl (From.ok (ps := []) trivial) (.nil)))))))))))))))
      obtain ⟨h74, h⟩ := chk_inv h
      refine appM 4 0 (N := l51.length) (N2 := ([((r55 + x56.2.2.2.2) - day7)] : List Int).length) 21 rfl rfl trivial rfl rfl rfl rfl rfl isOwn rfl sl30 (len_map _ _) (len_map _ _) h74 (map_app _ _ _) rfl ?_
      refine op0 (sp_assign rfl rfl) rfl trivial rfl rfl ?_
      refine TL.nil ?_
      refine TC.inBlock ?_
      refine TC.region ?_
      refine op0 (sp_move rfl rfl) rfl trivial rfl rfl ?_
      obtain ⟨h75, h⟩ := chk_inv h
      refine op0 (sp_add rfl rfl rfl h75) rfl trivial rfl rfl ?_
      refine op0 (sp_assign rfl rfl) rfl trivial rfl rfl ?_
      refine TL.nil ?_
      refine TC.inLoop ?_
      refine TC.seq ?_
      refine TC.seq ?_
      refine subJ [(19, 21)] (ih _ _ _ _ _ _ _ _ _ h) ?_ ?_ ?_
      · exact ⟨rfl, rfl, rfl, rfl, rfl, rfl, rfl, rfl, rfl, rfl, trivial⟩
      · exact ⟨mem_at 2 rfl, mem_at 3 rfl, mem_at 4 rfl, mem_at 0 rfl, mem_at 5 rfl, mem_at 6 rfl, mem_at 7 rfl, trivial⟩
      · rfl
    · have h := cond_f h h68
      refine TC.exit rfl ?_
      refine TC.seq ?_
      refine TC.region ?_
      refine op1 1 rfl (sp_loadBA rfl isBlk rfl vt26 rfl rfl) rfl trivial rfl rfl ?_
      refine op0 (sp_move rfl rfl) rfl trivial rfl rfl ?_
      refine op0 (sp_move rfl rfl) rfl trivial rfl rfl ?_
      obtain ⟨r57, h76, h⟩ := bind_inv h
      refine opN (need := [.ro 0 5 (List.map en_api_RoundTower l52), .ro 1 1 (List.map en_Lint l53), .ro 2 4 (List.map en_api_RoundWinder l54), .ro 3 2 (List.map en_api_RoundDay l47)]) [4, 5, 6, 0] ⟨rfl, rfl, rfl, rfl, trivial⟩ (sp_call (avs := [.agg [.ref 0, .ref 1, .ref 2, vi i48, vi i49], .ref 3, vi day7]) (need := [.ro 0 5 (List.map en_api_RoundTower l52), .ro 1 1 (List.map en_Lint l53), .ro 2 4 (List.map en_api_RoundWinder l54), .ro 3 2 (List.map en_api_RoundDay l47)]) (v := .tup [vi r57.1, vi r57.2]) (news := []) rfl rfl rfl Try.call18 (atJ [] [] (fc_ref11_Stops h76) rfl rfl) (.inl (roAll rfl))) rfl trivial rfl rfl ?_
      refine op0 (sp_move rfl rfl) rfl trivial rfl rfl ?_
      refine op0 (sp_extract rfl rfl rfl) rfl trivial rfl rfl ?_
      refine op0 (sp_extract rfl rfl rfl) rfl trivial rfl rfl ?_
      refine op0 (sp_assign rfl rfl) rfl trivial rfl rfl ?_
      refine op0 (sp_assign rfl rfl) rfl trivial rfl rfl ?_
      refine TL.nil ?_
      refine TC.seq ?_
      refine TC.region ?_
      refine op0 (sp_move rfl rfl) rfl trivial rfl rfl ?_
      refine op0 (sp_eql rfl rfl rfl) rfl trivial rfl rfl ?_
      refine op0 (sp_move rfl rfl) rfl trivial rfl rfl ?_
      rcases cond_cases h with ⟨h77, h⟩ | ⟨h77, h⟩
      · refine (boolLit 186 rfl h77).2 ?_
        refine op0 (sp_move rfl rfl) rfl ⟨_, rfl, rfl⟩ rfl rfl ?_
        refine op0 (sp_eql rfl rfl rfl) rfl ⟨_, rfl, rfl⟩ rfl rfl ?_
        refine op0 (sp_pickT rfl rfl rfl) rfl trivial rfl rfl ?_
        refine op0 (sp_move rfl rfl) rfl trivial rfl rfl ?_
        rcases cond_cases h with ⟨h78, h⟩ | ⟨h78, h⟩
        · refine (boolLit 190 rfl h78).2 ?_
          refine op0 (sp_move rfl rfl) rfl ⟨_, rfl, rfl⟩ rfl rfl ?_
          refine op0 (sp_move rfl rfl) rfl ⟨_, rfl, rfl⟩ rfl rfl ?_
          obtain ⟨r58, h79, h⟩ := bind_inv h
          refine opN (need := [.row 10 3 1 (List.map en_int l50), .row 19 3 1 (List.map en_int l51)]) [2, 3] ⟨rfl, rfl, trivial⟩ (sp_call (avs := [.ref 10, .ref 19]) (need := [.row 10 3 1 (List.map en_int l50), .row 19 3 1 (List.map en_int l51)]) (v := .val (.bool r58)) (news := []) rfl rfl rfl Try.call14 (atJ [(0, 10), (1, 19)] [] (fc_ref11_Same h79) rfl rfl) (.inr (fun x hx => nomatch hx))) rfl ⟨_, rfl, rfl⟩ rfl rfl ?_
          refine op0 (sp_pickT rfl rfl rfl) rfl trivial rfl rfl ?_
          refine op0 (sp_move rfl rfl) rfl trivial rfl rfl ?_
          rcases cond_cases h with ⟨h80, h⟩ | ⟨h80, h⟩
          · refine (boolLit 195 rfl h80).2 ?_
            refine op0 (sp_move rfl rfl) rfl ⟨_, rfl, rfl⟩ rfl rfl ?_
            refine op0 (sp_move rfl rfl) rfl ⟨_, rfl, rfl⟩ rfl rfl ?_
            refine op0 (sp_eql rfl rfl rfl) rfl ⟨_, rfl, rfl⟩ rfl rfl ?_
            refine op0 (sp_pickT rfl rfl rfl) rfl trivial rfl rfl ?_
            refine op0 (sp_move rfl rfl) rfl trivial rfl rfl ?_
            rcases cond_cases h with ⟨h81, h⟩ | ⟨h81, h⟩
            · refine (boolLit 200 rfl h81).2 ?_
              refine op0 (sp_move rfl rfl) rfl ⟨_, rfl, rfl⟩ rfl rfl ?_
              refine op0 (sp_move rfl rfl) rfl ⟨_, rfl, rfl⟩ rfl rfl ?_
              refine op0 (sp_eql rfl rfl rfl) rfl ⟨_, rfl, rfl⟩ rfl rfl ?_
              refine op0 (sp_pickT rfl rfl rfl) rfl trivial rfl rfl ?_
              refine op0 (sp_move rfl rfl) rfl trivial rfl rfl ?_
              rcases cond_cases h with ⟨h82, h⟩ | ⟨h82, h⟩
              · refine (boolLit 205 rfl h82).2 ?_
                obtain ⟨r59, h83, h⟩ := bind_inv h
                refine op0 (sp_call (avs := []) (need := []) (v := .val (.bool r59)) (news := []) rfl rfl rfl Try.call9 (atJ [] [] (fc_law11_known h83) rfl rfl) (.inl (roAll rfl))) rfl ⟨_, rfl, rfl⟩ rfl rfl ?_
                refine op0 (sp_pickT rfl rfl rfl) rfl trivial rfl rfl ?_
                refine op0 (sp_assign rfl rfl) rfl trivial rfl rfl ?_
                refine TL.nil ?_
                cases h
                exact retJ [] (.tmp rfl .nil) rfl trivial rfl rfl
              · refine (boolLit 205 rfl h82).2 ?_
                refine opSkip rfl ⟨_, rfl, .inl rfl⟩ rfl ?_
                refine op0 (sp_pickF rfl rfl rfl) rfl trivial rfl rfl ?_
                refine op0 (sp_assign rfl rfl) rfl trivial rfl rfl ?_
                refine TL.nil ?_
                cases h
                exact retJ [] (.tmp rfl .nil) rfl trivial rfl rfl
            · refine (boolLit 200 rfl h81).2 ?_
              refine opSkip rfl ⟨_, rfl, .inl rfl⟩ rfl ?_
              refine opSkip rfl ⟨_, rfl, .inl rfl⟩ rfl ?_
              refine opSkip rfl ⟨_, rfl, .inl rfl⟩ rfl ?_
              refine op0 (sp_pickF rfl rfl rfl) rfl trivial rfl rfl ?_
              refine op0 (sp_move rfl rfl) rfl trivial rfl rfl ?_
              refine opSkip rfl ⟨_, rfl, .inl rfl⟩ rfl ?_
              refine op0 (sp_pickF rfl rfl rfl) rfl trivial rfl rfl ?_
              refine op0 (sp_assign rfl rfl) rfl trivial rfl rfl ?_
              refine TL.nil ?_
              cases h
              exact retJ [] (.tmp rfl .nil) rfl trivial rfl rfl
          · refine (boolLit 195 rfl h80).2 ?_
            refine opSkip rfl ⟨_, rfl, .inl rfl⟩ rfl ?_
            refine opSkip rfl ⟨_, rfl, .inl rfl⟩ rfl ?_
            refine opSkip rfl ⟨_, rfl, .inl rfl⟩ rfl ?_
            refine op0 (sp_pickF rfl rfl rfl) rfl trivial rfl rfl ?_
            refine op0 (sp_move rfl rfl) rfl trivial rfl rfl ?_
            refine opSkip rfl ⟨_, rfl, .inl rfl⟩ rfl ?_
            refine opSkip rfl ⟨_, rfl, .inl rfl⟩ rfl ?_
            refine opSkip rfl ⟨_, rfl, .inl rfl⟩ rfl ?_
            refine op0 (sp_pickF rfl rfl rfl) rfl trivial rfl rfl ?_
            refine op0 (sp_move rfl rfl) rfl trivial rfl rfl ?_
            refine opSkip rfl ⟨_, rfl, .inl rfl⟩ rfl ?_
            refine op0 (sp_pickF rfl rfl rfl) rfl trivial rfl rfl ?_
            refine op0 (sp_assign rfl rfl) rfl trivial rfl rfl ?_
            refine TL.nil ?_
            cases h
            exact retJ [] (.tmp rfl .nil) rfl trivial rfl rfl
        · refine (boolLit 190 rfl h78).2 ?_
          refine opSkip rfl ⟨_, rfl, .inl rfl⟩ rfl ?_
          refine opSkip rfl ⟨_, rfl, .inl rfl⟩ rfl ?_
          refine opSkip rfl ⟨_, rfl, .inl rfl⟩ rfl ?_
          refine op0 (sp_pickF rfl rfl rfl) rfl trivial rfl rfl ?_
          refine op0 (sp_move rfl rfl) rfl trivial rfl rfl ?_
          refine opSkip rfl ⟨_, rfl, .inl rfl⟩ rfl ?_
          refine opSkip rfl ⟨_, rfl, .inl rfl⟩ rfl ?_
          refine opSkip rfl ⟨_, rfl, .inl rfl⟩ rfl ?_
          refine op0 (sp_pickF rfl rfl rfl) rfl trivial rfl rfl ?_
          refine op0 (sp_move rfl rfl) rfl trivial rfl rfl ?_
          refine opSkip rfl ⟨_, rfl, .inl rfl⟩ rfl ?_
          refine opSkip rfl ⟨_, rfl, .inl rfl⟩ rfl ?_
          refine opSkip rfl ⟨_, rfl, .inl rfl⟩ rfl ?_
          refine op0 (sp_pickF rfl rfl rfl) rfl trivial rfl rfl ?_
          refine op0 (sp_move rfl rfl) rfl trivial rfl rfl ?_
          refine opSkip rfl ⟨_, rfl, .inl rfl⟩ rfl ?_
          refine op0 (sp_pickF rfl rfl rfl) rfl trivial rfl rfl ?_
          refine op0 (sp_assign rfl rfl) rfl trivial rfl rfl ?_
          refine TL.nil ?_
          cases h
          exact retJ [] (.tmp rfl .nil) rfl trivial rfl rfl
      · refine (boolLit 186 rfl h77).2 ?_
        refine opSkip rfl ⟨_, rfl, .inl rfl⟩ rfl ?_
        refine opSkip rfl ⟨_, rfl, .inl rfl⟩ rfl ?_
        refine op0 (sp_pickF rfl rfl rfl) rfl trivial rfl rfl ?_
        refine op0 (sp_move rfl rfl) rfl trivial rfl rfl ?_
        refine opSkip rfl ⟨_, rfl, .inl rfl⟩ rfl ?_
        refine opSkip rfl ⟨_, rfl, .inl rfl⟩ rfl ?_
        refine opSkip rfl ⟨_, rfl, .inl rfl⟩ rfl ?_
        refine op0 (sp_pickF rfl rfl rfl) rfl trivial rfl rfl ?_
        refine op0 (sp_move rfl rfl) rfl trivial rfl rfl ?_
        refine opSkip rfl ⟨_, rfl, .inl rfl⟩ rfl ?_
        refine opSkip rfl ⟨_, rfl, .inl rfl⟩ rfl ?_
        refine opSkip rfl ⟨_, rfl, .inl rfl⟩ rfl ?_
        refine op0 (sp_pickF rfl rfl rfl) rfl trivial rfl rfl ?_
        refine op0 (sp_move rfl rfl) rfl trivial rfl rfl ?_
        refine opSkip rfl ⟨_, rfl, .inl rfl⟩ rfl ?_
        refine opSkip rfl ⟨_, rfl, .inl rfl⟩ rfl ?_
        refine opSkip rfl ⟨_, rfl, .inl rfl⟩ rfl ?_
        refine op0 (sp_pickF rfl rfl rfl) rfl trivial rfl rfl ?_
        refine op0 (sp_move rfl rfl) rfl trivial rfl rfl ?_
        refine opSkip rfl ⟨_, rfl, .inl rfl⟩ rfl ?_
        refine op0 (sp_pickF rfl rfl rfl) rfl trivial rfl rfl ?_
        refine op0 (sp_assign rfl rfl) rfl trivial rfl rfl ?_
        refine TL.nil ?_
        cases h
        exact retJ [] (.tmp rfl .nil) rfl trivial rfl rfl
def ev_law11_RoundDays_j7 (n : Nat) (r18 : (List Int) × Int) (r20 : Int × Int × Int) (day7 : Int) (l6 : List (Int × (List Int))) (rr4 : Int) (rr5 : Int) (rr1 : List (Int × Int × Int × Int × Int)) (rr2 : List ((List Int))) (rr3 : List (Int × Int × Int × Int)) (i44 : Int) : Option Bool :=
  cond (i44 != 0) (cond (r18.2 == i44) (cond (r20.2.2 == i44) (cond ((r18.1.length : Int) == 0) (cond (r20.1 == 0) (cond (r20.2.1 == 0) ((ev_law11_known n).bind fun r45 => some r45) (some false)) (some false)) (some false)) (some false)) (some false)) (ev_law11_RoundDays_l8 n day7 r18 r20 n 0 l6 rr4 rr5 r18.1 ([] : List Int) rr1 rr2 rr3)
theorem ok_law11_RoundDays_j7 {n : Nat} {w0 : World} {R0 : Nat → Prop} {env0 : Env} {r : Bool} {day7 : Int} {r18 : (List Int) × Int} {r20 : Int × Int × Int} {l6 : List (Int × (List Int))} {rr4 : Int} {rr5 : Int} {rr1 : List (Int × Int × Int × Int × Int)} {rr2 : List ((List Int))} {rr3 : List (Int × Int × Int × Int)} {i44 : Int} (h : ev_law11_RoundDays_j7 n r18 r20 day7 l6 rr4 rr5 rr1 rr2 rr3 i44 = some r) : TC Try.prog ⟨w0, fun _ => False, R0⟩ 208 (bodyPost Try.prog Try.f3 (Post ⟨w0, fun _ => False, R0⟩ env0 (.val (.bool r)) [])) [.code (sub (bodyOf Try.f3) [1, 1, 1, 1, 1, 1, 1, 1, 1, 1, 0, 0]), .code (sub (bodyOf Try.f3) [1, 1, 1, 1, 1, 1, 1, 1, 1, 1, 0, 1]), .code (sub (bodyOf Try.f3) [1, 1, 1, 1, 1, 1, 1, 1, 1, 1, 1])] ([(1, .ref 3), (2, vi day7), (3, .ptr 4 0), (9, .ref 10), (10, vi r18.2), (11, vi r20.1), (12, vi r20.2.1), (13, vi r20.2.2), (15, vi i44)]) ([.ro 3 2 (List.map en_api_RoundDay l6), .blk 4 [.ref 0, .ref 1, .ref 2, vi rr4, vi rr5] 26, .row 10 3 1 (List.map en_int r18.1), .ro 0 5 (List.map en_api_RoundTower rr1), .ro 1 1 (List.map en_Lint rr2), .ro 2 4 (List.map en_api_RoundWinder rr3)]) := by
  rw [ev_law11_RoundDays_j7] at h
  refine TC.region ?_
  refine op0 (sp_move rfl rfl) rfl trivial rfl rfl ?_
  refine op0 (sp_neq rfl rfl rfl) rfl trivial rfl rfl ?_
  refine TL.nil ?_
  refine TC.cond (b := (i44 != 0)) rfl (fun h61 => ?_) (fun h61 => ?_)
  · have h := cond_t h h61
    refine TC.seq ?_
    refine TC.region ?_
    refine op0 (sp_move rfl rfl) rfl trivial rfl rfl ?_
    refine op0 (sp_move rfl rfl) rfl trivial rfl rfl ?_
    refine op0 (sp_eql rfl rfl rfl) rfl trivial rfl rfl ?_
    refine op0 (sp_move rfl rfl) rfl trivial rfl rfl ?_
    rcases cond_cases h with ⟨h62, h⟩ | ⟨h62, h⟩
    · refine (boolLit 132 rfl h62).2 ?_
      refine op0 (sp_move rfl rfl) rfl ⟨_, rfl, rfl⟩ rfl rfl ?_
      refine op0 (sp_move rfl rfl) rfl ⟨_, rfl, rfl⟩ rfl rfl ?_
      refine op0 (sp_eql rfl rfl rfl) rfl ⟨_, rfl, rfl⟩ rfl rfl ?_
      refine op0 (sp_pickT rfl rfl rfl) rfl trivial rfl rfl ?_
      refine op0 (sp_move rfl rfl) rfl trivial rfl rfl ?_
      rcases cond_cases h with ⟨h63, h⟩ | ⟨h63, h⟩
      · refine (boolLit 137 rfl h63).2 ?_
        refine op0 (sp_move rfl rfl) rfl ⟨_, rfl, rfl⟩ rfl rfl ?_
        refine op1 2 rfl (sp_lenM (N := r18.1.length) (len_map _ _) rfl rfl isOwn Try.underlying30) rfl ⟨_, rfl, rfl⟩ rfl rfl ?_
        refine op0 (sp_eql rfl rfl rfl) rfl ⟨_, rfl, rfl⟩ rfl rfl ?_
        refine op0 (sp_pickT rfl rfl rfl) rfl trivial rfl rfl ?_
        refine op0 (sp_move rfl rfl) rfl trivial rfl rfl ?_
        rcases cond_cases h with ⟨h64, h⟩ | ⟨h64, h⟩
        · refine (boolLit 142 rfl h64).2 ?_
          refine op0 (sp_move rfl rfl) rfl ⟨_, rfl, rfl⟩ rfl rfl ?_
          refine op0 (sp_eql rfl rfl rfl) rfl ⟨_, rfl, rfl⟩ rfl rfl ?_
          refine op0 (sp_pickT rfl rfl rfl) rfl trivial rfl rfl ?_
          refine op0 (sp_move rfl rfl) rfl trivial rfl rfl ?_
          rcases cond_cases h with ⟨h65, h⟩ | ⟨h65, h⟩
          · refine (boolLit 146 rfl h65).2 ?_
            refine op0 (sp_move rfl rfl) rfl ⟨_, rfl, rfl⟩ rfl rfl ?_
            refine op0 (sp_eql rfl rfl rfl) rfl ⟨_, rfl, rfl⟩ rfl rfl ?_
            refine op0 (sp_pickT rfl rfl rfl) rfl trivial rfl rfl ?_
            refine op0 (sp_move rfl rfl) rfl trivial rfl rfl ?_
            rcases cond_cases h with ⟨h66, h⟩ | ⟨h66, h⟩
            · refine (boolLit 150 rfl h66).2 ?_
              obtain ⟨r45, h67, h⟩ := bind_inv h
              refine op0 (sp_call (avs := []) (need := []) (v := .val (.bool r45)) (news := []) rfl rfl rfl Try.call9 (atJ [] [] (fc_law11_known h67) rfl rfl) (.inl (roAll rfl))) rfl ⟨_, rfl, rfl⟩ rfl rfl ?_
              refine op0 (sp_pickT rfl rfl rfl) rfl trivial rfl rfl ?_
              refine op0 (sp_assign rfl rfl) rfl trivial rfl rfl ?_
              refine TL.nil ?_
              cases h
              exact retJ [] (.tmp rfl .nil) rfl trivial rfl rfl
            · refine (boolLit 150 rfl h66).2 ?_
              refine opSkip rfl ⟨_, rfl, .inl rfl⟩ rfl ?_
              refine op0 (sp_pickF rfl rfl rfl) rfl trivial rfl rfl ?_
              refine op0 (sp_assign rfl rfl) rfl trivial rfl rfl ?_
              refine TL.nil ?_
              cases h
              exact retJ [] (.tmp rfl .nil) rfl trivial rfl rfl
          · refine (boolLit 146 rfl h65).2 ?_
            refine opSkip rfl ⟨_, rfl, .inl rfl⟩ rfl ?_
            refine opSkip rfl ⟨_, rfl, .inl rfl⟩ rfl ?_
            refine op0 (sp_pickF rfl rfl rfl) rfl trivial rfl rfl ?_
            refine op0 (sp_move rfl rfl) rfl trivial rfl rfl ?_
            refine opSkip rfl ⟨_, rfl, .inl rfl⟩ rfl ?_
            refine op0 (sp_pickF rfl rfl rfl) rfl trivial rfl rfl ?_
            refine op0 (sp_assign rfl rfl) rfl trivial rfl rfl ?_
            refine TL.nil ?_
            cases h
            exact retJ [] (.tmp rfl .nil) rfl trivial rfl rfl
        · refine (boolLit 142 rfl h64).2 ?_
          refine opSkip rfl ⟨_, rfl, .inl rfl⟩ rfl ?_
          refine opSkip rfl ⟨_, rfl, .inl rfl⟩ rfl ?_
          refine op0 (sp_pickF rfl rfl rfl) rfl trivial rfl rfl ?_
          refine op0 (sp_move rfl rfl) rfl trivial rfl rfl ?_
          refine opSkip rfl ⟨_, rfl, .inl rfl⟩ rfl ?_
          refine opSkip rfl ⟨_, rfl, .inl rfl⟩ rfl ?_
          refine op0 (sp_pickF rfl rfl rfl) rfl trivial rfl rfl ?_
          refine op0 (sp_move rfl rfl) rfl trivial rfl rfl ?_
          refine opSkip rfl ⟨_, rfl, .inl rfl⟩ rfl ?_
          refine op0 (sp_pickF rfl rfl rfl) rfl trivial rfl rfl ?_
          refine op0 (sp_assign rfl rfl) rfl trivial rfl rfl ?_
          refine TL.nil ?_
          cases h
          exact retJ [] (.tmp rfl .nil) rfl trivial rfl rfl
      · refine (boolLit 137 rfl h63).2 ?_
        refine opSkip rfl ⟨_, rfl, .inl rfl⟩ rfl ?_
        refine opSkip rfl ⟨_, rfl, .inl rfl⟩ rfl ?_
        refine opSkip rfl ⟨_, rfl, .inl rfl⟩ rfl ?_
        refine op0 (sp_pickF rfl rfl rfl) rfl trivial rfl rfl ?_
        refine op0 (sp_move rfl rfl) rfl trivial rfl rfl ?_
        refine opSkip rfl ⟨_, rfl, .inl rfl⟩ rfl ?_
        refine opSkip rfl ⟨_, rfl, .inl rfl⟩ rfl ?_
        refine op0 (sp_pickF rfl rfl rfl) rfl trivial rfl rfl ?_
        refine op0 (sp_move rfl rfl) rfl trivial rfl rfl ?_
        refine opSkip rfl ⟨_, rfl, .inl rfl⟩ rfl ?_
        refine opSkip rfl ⟨_, rfl, .inl rfl⟩ rfl ?_
        refine op0 (sp_pickF rfl rfl rfl) rfl trivial rfl rfl ?_
        refine op0 (sp_move rfl rfl) rfl trivial rfl rfl ?_
        refine opSkip rfl ⟨_, rfl, .inl rfl⟩ rfl ?_
        refine op0 (sp_pickF rfl rfl rfl) rfl trivial rfl rfl ?_
        refine op0 (sp_assign rfl rfl) rfl trivial rfl rfl ?_
        refine TL.nil ?_
        cases h
        exact retJ [] (.tmp rfl .nil) rfl trivial rfl rfl
    · refine (boolLit 132 rfl h62).2 ?_
      refine opSkip rfl ⟨_, rfl, .inl rfl⟩ rfl ?_
      refine opSkip rfl ⟨_, rfl, .inl rfl⟩ rfl ?_
      refine opSkip rfl ⟨_, rfl, .inl rfl⟩ rfl ?_
      refine op0 (sp_pickF rfl rfl rfl) rfl trivial rfl rfl ?_
      refine op0 (sp_move rfl rfl) rfl trivial rfl rfl ?_
      refine opSkip rfl ⟨_, rfl, .inl rfl⟩ rfl ?_
      refine opSkip rfl ⟨_, rfl, .inl rfl⟩ rfl ?_
      refine opSkip rfl ⟨_, rfl, .inl rfl⟩ rfl ?_
      refine op0 (sp_pickF rfl rfl rfl) rfl trivial rfl rfl ?_
      refine op0 (sp_move rfl rfl) rfl trivial rfl rfl ?_
      refine opSkip rfl ⟨_, rfl, .inl rfl⟩ rfl ?_
      refine opSkip rfl ⟨_, rfl, .inl rfl⟩ rfl ?_
      refine op0 (sp_pickF rfl rfl rfl) rfl trivial rfl rfl ?_
      refine op0 (sp_move rfl rfl) rfl trivial rfl rfl ?_
      refine opSkip rfl ⟨_, rfl, .inl rfl⟩ rfl ?_
      refine opSkip rfl ⟨_, rfl, .inl rfl⟩ rfl ?_
      refine op0 (sp_pickF rfl rfl rfl) rfl trivial rfl rfl ?_
      refine op0 (sp_move rfl rfl) rfl trivial rfl rfl ?_
      refine opSkip rfl ⟨_, rfl, .inl rfl⟩ rfl ?_
      refine op0 (sp_pickF rfl rfl rfl) rfl trivial rfl rfl ?_
      refine op0 (sp_assign rfl rfl) rfl trivial rfl rfl ?_
      refine TL.nil ?_
      cases h
      exact retJ [] (.tmp rfl .nil) rfl trivial rfl rfl
  · have h := cond_f h h61
    refine TC.skip ?_
    refine TC.seq ?_
    refine TC.region ?_
    refine op0 (sp_emptyM 19 (List.map en_int []) rfl rfl sl30) rfl trivial rfl rfl ?_
    refine op0 (sp_assign rfl rfl) rfl trivial rfl rfl ?_
    refine TL.nil ?_
    refine TC.seq ?_
    refine TC.seq ?_
    refine TC.region ?_
    refine op0 (sp_assign rfl rfl) rfl trivial rfl rfl ?_
    refine TL.nil ?_
    refine TC.block ?_
    refine TC.loop ?_
    refine TC.seq ?_
    refine TC.seq ?_
    refine subJ [] (ok_law11_RoundDays_l8 _ _ _ _ _ _ _ _ _ _ h) ?_ ?_ ?_
    · exact ⟨rfl, rfl, rfl, rfl, rfl, rfl, rfl, rfl, rfl, rfl, trivial⟩
    · exact ⟨mem_at 1 rfl, mem_at 2 rfl, mem_at 3 rfl, mem_at 0 rfl, mem_at 4 rfl, mem_at 5 rfl, mem_at 6 rfl, trivial⟩
    · rfl
def ev_law11_RoundDays_j6 (n : Nat) (r18 : (List Int) × Int) (r20 : Int × Int × Int) (day7 : Int) (l6 : List (Int × (List Int))) (rr4 : Int) (rr5 : Int) (rr1 : List (Int × Int × Int × Int × Int)) (rr2 : List ((List Int))) (rr3 : List (Int × Int × Int × Int)) (i27 : Int) : Option Bool :=
  ev_law11_RoundDays_j7 n r18 r20 day7 l6 rr4 rr5 rr1 rr2 rr3 i27
theorem ok_law11_RoundDays_j6 {n : Nat} {w0 : World} {R0 : Nat → Prop} {env0 : Env} {r : Bool} {day7 : Int} {r18 : (List Int) × Int} {r20 : Int × Int × Int} {i27 : Int} {l6 : List (Int × (List Int))} {rr4 : Int} {rr5 : Int} {rr1 : List (Int × Int × Int × Int × Int)} {rr2 : List ((List Int))} {rr3 : List (Int × Int × Int × Int)} (h : ev_law11_RoundDays_j6 n r18 r20 day7 l6 rr4 rr5 rr1 rr2 rr3 i27 = some r) : TC Try.prog ⟨w0, fun _ => False, R0⟩ 208 (bodyPost Try.prog Try.f3 (Post ⟨w0, fun _ => False, R0⟩ env0 (.val (.bool r)) [])) [.code (sub (bodyOf Try.f3) [1, 1, 1, 1, 1, 1, 1, 1, 1, 0, 1, 1]), .code (sub (bodyOf Try.f3) [1, 1, 1, 1, 1, 1, 1, 1, 1, 1])] ([(1, .ref 3), (2, vi day7), (3, .ptr 4 0), (9, .ref 10), (10, vi r18.2), (11, vi r20.1), (12, vi r20.2.1), (13, vi r20.2.2), (15, vi i27)]) ([.ro 3 2 (List.map en_api_RoundDay l6), .blk 4 [.ref 0, .ref 1, .ref 2, vi rr4, vi rr5] 26, .row 10 3 1 (List.map en_int r18.1), .ro 0 5 (List.map en_api_RoundTower rr1), .ro 1 1 (List.map en_Lint rr2), .ro 2 4 (List.map en_api_RoundWinder rr3)]) := by
  rw [ev_law11_RoundDays_j6] at h
  refine TC.skip ?_
  refine TC.seq ?_
  refine TC.seq ?_
  refine subJ [] (ok_law11_RoundDays_j7 h) ?_ ?_ ?_
  · exact ⟨rfl, rfl, rfl, rfl, rfl, rfl, rfl, rfl, rfl, trivial⟩
  · exact ⟨mem_at 0 rfl, mem_at 1 rfl, mem_at 2 rfl, mem_at 3 rfl, mem_at 4 rfl, mem_at 5 rfl, trivial⟩
  · rfl
def ev_law11_RoundDays_j3 (n : Nat) (day7 : Int) (r18 : (List Int) × Int) (r20 : Int × Int × Int) (l6 : List (Int × (List Int))) (rr4 : Int) (rr5 : Int) (rr1 : List (Int × Int × Int × Int × Int)) (rr2 : List ((List Int))) (rr3 : List (Int × Int × Int × Int)) (i27 : Int) : Option Bool :=
  cond (i27 == 0) (cond (decide (day7 < 0)) (ev_law11_RoundDays_j4 n r18 r20 day7 l6 rr4 rr5 rr1 rr2 rr3) (cond (decide ((36524 : Int) < day7)) (ev_law11_RoundDays_j4 n r18 r20 day7 l6 rr4 rr5 rr1 rr2 rr3) (ev_law11_RoundDays_j6 n r18 r20 day7 l6 rr4 rr5 rr1 rr2 rr3 i27))) (ev_law11_RoundDays_j6 n r18 r20 day7 l6 rr4 rr5 rr1 rr2 rr3 i27)
theorem ok_law11_RoundDays_j3 {n : Nat} {w0 : World} {R0 : Nat → Prop} {env0 : Env} {r : Bool} {day7 : Int} {r18 : (List Int) × Int} {r20 : Int × Int × Int} {l6 : List (Int × (List Int))} {rr4 : Int} {rr5 : Int} {rr1 : List (Int × Int × Int × Int × Int)} {rr2 : List ((List Int))} {rr3 : List (Int × Int × Int × Int)} {i27 : Int} (h : ev_law11_RoundDays_j3 n day7 r18 r20 l6 rr4 rr5 rr1 rr2 rr3 i27 = some r) : TC Try.prog ⟨w0, fun _ => False, R0⟩ 208 (bodyPost Try.prog Try.f3 (Post ⟨w0, fun _ => False, R0⟩ env0 (.val (.bool r)) [])) [.code (sub (bodyOf Try.f3) [1, 1, 1, 1, 1, 1, 1, 1, 1, 0, 0]), .code (sub (bodyOf Try.f3) [1, 1, 1, 1, 1, 1, 1, 1, 1, 0, 1]), .code (sub (bodyOf Try.f3) [1, 1, 1, 1, 1, 1, 1, 1, 1, 1])] ([(1, .ref 3), (2, vi day7), (3, .ptr 4 0), (9, .ref 10), (10, vi r18.2), (11, vi r20.1), (12, vi r20.2.1), (13, vi r20.2.2), (15, vi i27)]) ([.ro 3 2 (List.map en_api_RoundDay l6), .blk 4 [.ref 0, .ref 1, .ref 2, vi rr4, vi rr5] 26, .row 10 3 1 (List.map en_int r18.1), .ro 0 5 (List.map en_api_RoundTower rr1), .ro 1 1 (List.map en_Lint rr2), .ro 2 4 (List.map en_api_RoundWinder rr3)]) := by
  rw [ev_law11_RoundDays_j3] at h
  refine TC.region ?_
  refine op0 (sp_move rfl rfl) rfl trivial rfl rfl ?_
  refine op0 (sp_eql rfl rfl rfl) rfl trivial rfl rfl ?_
  refine op0 (sp_move rfl rfl) rfl trivial rfl rfl ?_
  rcases cond_cases h with ⟨h35, h⟩ | ⟨h35, h⟩
  · refine (boolLit 119 rfl h35).2 ?_
    refine op0 (sp_move rfl rfl) rfl ⟨_, rfl, rfl⟩ rfl rfl ?_
    refine op0 (sp_lss rfl rfl rfl) rfl ⟨_, rfl, rfl⟩ rfl rfl ?_
    refine op0 (sp_move rfl rfl) rfl ⟨_, rfl, rfl⟩ rfl rfl ?_
    rcases cond_cases h with ⟨h36, h⟩ | ⟨h36, h⟩
    · refine (boolLit 122 rfl h36).2 ?_
      refine opSkip rfl ⟨_, rfl, .inl rfl⟩ rfl ?_
      refine opSkip rfl ⟨_, rfl, .inl rfl⟩ rfl ?_
      refine op0 (sp_pickT rfl rfl rfl) rfl ⟨_, rfl, rfl⟩ rfl rfl ?_
      refine op0 (sp_pickT rfl rfl rfl) rfl trivial rfl rfl ?_
      refine TL.nil ?_
      refine TC.condT rfl ?_
      refine subJ [] (ok_law11_RoundDays_j4 h) ?_ ?_ ?_
      · exact ⟨rfl, rfl, rfl, rfl, rfl, rfl, rfl, rfl, trivial⟩
      · exact ⟨mem_at 0 rfl, mem_at 1 rfl, mem_at 2 rfl, mem_at 3 rfl, mem_at 4 rfl, mem_at 5 rfl, trivial⟩
      · rfl
    · refine (boolLit 122 rfl h36).2 ?_
      refine op0 (sp_move rfl rfl) rfl ⟨_, rfl, rfl⟩ rfl rfl ?_
      refine op0 (sp_gtr rfl rfl rfl) rfl ⟨_, rfl, rfl⟩ rfl rfl ?_
      refine op0 (sp_pickF rfl rfl rfl) rfl ⟨_, rfl, rfl⟩ rfl rfl ?_
      refine op0 (sp_pickT rfl rfl rfl) rfl trivial rfl rfl ?_
      refine TL.nil ?_
      refine TC.cond (b := (decide ((36524 : Int) < day7))) rfl (fun h60 => ?_) (fun h60 => ?_)
      · have h := cond_t h h60
        refine subJ [] (ok_law11_RoundDays_j4 h) ?_ ?_ ?_
        · exact ⟨rfl, rfl, rfl, rfl, rfl, rfl, rfl, rfl, trivial⟩
        · exact ⟨mem_at 0 rfl, mem_at 1 rfl, mem_at 2 rfl, mem_at 3 rfl, mem_at 4 rfl, mem_at 5 rfl, trivial⟩
        · rfl
      · have h := cond_f h h60
        refine subJ [] (ok_law11_RoundDays_j6 h) ?_ ?_ ?_
        · exact ⟨rfl, rfl, rfl, rfl, rfl, rfl, rfl, rfl, rfl, trivial⟩
        · exact ⟨mem_at 0 rfl, mem_at 1 rfl, mem_at 2 rfl, mem_at 3 rfl, mem_at 4 rfl, mem_at 5 rfl, trivial⟩
        · rfl
  · refine (boolLit 119 rfl h35).2 ?_
    refine opSkip rfl ⟨_, rfl, .inl rfl⟩ rfl ?_
    refine opSkip rfl ⟨_, rfl, .inl rfl⟩ rfl ?_
    refine opSkip rfl ⟨_, rfl, .inl rfl⟩ rfl ?_
    refine opSkip rfl ⟨_, rfl, .inr rfl⟩ rfl ?_
    refine opSkip rfl ⟨_, rfl, .inr rfl⟩ rfl ?_
    refine opSkip rfl ⟨_, rfl, .inl rfl⟩ rfl ?_
    refine op0 (sp_pickF rfl rfl rfl) rfl trivial rfl rfl ?_
    refine TL.nil ?_
    refine TC.condF rfl ?_
    refine subJ [] (ok_law11_RoundDays_j6 h) ?_ ?_ ?_
    · exact ⟨rfl, rfl, rfl, rfl, rfl, rfl, rfl, rfl, rfl, trivial⟩
    · exact ⟨mem_at 0 rfl, mem_at 1 rfl, mem_at 2 rfl, mem_at 3 rfl, mem_at 4 rfl, mem_at 5 rfl, trivial⟩
    · rfl
def ev_law11_RoundDays_l2 (n : Nat) (l6 : List (Int × (List Int))) (r16 : (List (Int × (List Int)))) (rr1 : List (Int × Int × Int × Int × Int)) (rr2 : List ((List Int))) (rr3 : List (Int × Int × Int × Int)) (rr4 : Int) (rr5 : Int) (day7 : Int) (r18 : (List Int) × Int) (r20 : Int × Int × Int) : Nat → Int → Option Bool
  | 0, _ => none
  | m + 1, i21 => cond (decide (i21 < (l6.length : Int))) (idx r16 i21 fun x22 => idx l6 i21 fun x23 => cond (x22.1 != x23.1) (some false) ((ev_ref11_Same n x22.2 x23.2).bind fun r24 => cond (!r24) (some false) (chk (in64 (i21 + 1)) <| ev_law11_RoundDays_l2 n l6 r16 rr1 rr2 rr3 rr4 rr5 day7 r18 r20 m (i21 + 1)))) ((ev_ref11_Check n rr1 rr2 rr3 rr4 rr5).bind fun r25 => cond (r25 == 0) ((ev_ref11_Days n rr1 rr2 rr3 rr4 rr5 l6).bind fun r26 => ev_law11_RoundDays_j3 n day7 r18 r20 l6 rr4 rr5 rr1 rr2 rr3 r26) (ev_law11_RoundDays_j3 n day7 r18 r20 l6 rr4 rr5 rr1 rr2 rr3 r25))
theorem ok_law11_RoundDays_l2 {n : Nat} {w0 : World} {R0 : Nat → Prop} {env0 : Env} {r : Bool} {day7 : Int} {r18 : (List Int) × Int} {r20 : Int × Int × Int} {l6 : List (Int × (List Int))} {rr4 : Int} {rr5 : Int} {r16 : (List (Int × (List Int)))} {rr1 : List (Int × Int × Int × Int × Int)} {rr2 : List ((List Int))} {rr3 : List (Int × Int × Int × Int)} : ∀ (m : Nat) (i21 : Int), ev_law11_RoundDays_l2 n l6 r16 rr1 rr2 rr3 rr4 rr5 day7 r18 r20 m i21 = some r → TC Try.prog ⟨w0, fun _ => False, R0⟩ 208 (bodyPost Try.prog Try.f3 (Post ⟨w0, fun _ => False, R0⟩ env0 (.val (.bool r)) [])) [.code (sub (bodyOf Try.f3) [1, 1, 1, 1, 1, 1, 0, 1, 0, 0, 0, 0]), .code (sub (bodyOf Try.f3) [1, 1, 1, 1, 1, 1, 0, 1, 0, 0, 0, 1]), .code (sub (bodyOf Try.f3) [1, 1, 1, 1, 1, 1, 0, 1, 0, 0, 1]), .inLoop (sub (bodyOf Try.f3) [1, 1, 1, 1, 1, 1, 0, 1, 0, 0]), .inBlock 2, .code (sub (bodyOf Try.f3) [1, 1, 1, 1, 1, 1, 1])] ([(1, .ref 3), (2, vi day7), (3, .ptr 4 0), (8, .ref 6), (9, .ref 10), (10, vi r18.2), (11, vi r20.1), (12, vi r20.2.1), (13, vi r20.2.2), (14, vi i21)]) ([.ro 3 2 (List.map en_api_RoundDay l6), .blk 4 [.ref 0, .ref 1, .ref 2, vi rr4, vi rr5] 26, .row 6 32 2 (List.map en_api_RoundDay r16), .row 10 3 1 (List.map en_int r18.1), .ro 0 5 (List.map en_api_RoundTower rr1), .ro 1 1 (List.map en_Lint rr2), .ro 2 4 (List.map en_api_RoundWinder rr3)]) := by
  intro m
  induction m with
  | zero => intro i21 h; exact none_no h
  | succ m ih =>
    intro i21 h
    rw [ev_law11_RoundDays_l2] at h
    refine TC.region ?_
    refine op0 (sp_move rfl rfl) rfl trivial rfl rfl ?_
    refine op0 (sp_move rfl rfl) rfl trivial rfl rfl ?_
    refine op1 0 rfl (sp_lenM (N := l6.length) (len_map _ _) rfl rfl isRo Try.underlying27) rfl trivial rfl rfl ?_
    refine op0 (sp_lss rfl rfl rfl) rfl trivial rfl rfl ?_
    refine TL.nil ?_
    refine TC.cond (b := (decide (i21 < (l6.length : Int)))) rfl (fun h23 => ?_) (fun h23 => ?_)
    · have h := cond_t h h23
      refine TC.skip ?_
      refine TC.seq ?_
      refine TC.block ?_
      refine TC.seq ?_
      obtain ⟨x22, h24, h25, h⟩ := idx_inv h
      obtain ⟨x23, h26, h27, h⟩ := idx_inv h
      rcases cond_cases h with ⟨h28, h⟩ | ⟨h28, h⟩
      · refine drawJ 22 [⟨.ref 6, [], [], []⟩, ⟨vi i21, [], [], []⟩, ⟨.cell 6 ((i21 : Int).toNat * 2), [], [.row 6 32 2 (List.map en_api_RoundDay r16)], []⟩, ⟨.cell 6 ((i21 : Int).toNat * 2 + 0), [], [.row 6 32 2 (List.map en_api_RoundDay r16)], []⟩, ⟨vi x22.1, [], [.row 6 32 2 (List.map en_api_RoundDay r16)], []⟩, ⟨.ref 3, [], [], []⟩, ⟨vi i21, [], [], []⟩, ⟨.cell 3 ((i21 : Int).toNat * 2), [], [.ro 3 2 (List.map en_api_RoundDay l6)], []⟩, ⟨.cell 3 ((i21 : Int).toNat * 2 + 0), [], [.ro 3 2 (List.map en_api_RoundDay l6)], []⟩, ⟨vi x23.1, [], [.ro 3 2 (List.map en_api_RoundDay l6)], []⟩, ⟨.val (.bool (x22.1 != x23.1)), [], [], []⟩, ⟨.val (.bool true), [], [], []⟩, ⟨.val (undef), [], [], []⟩, ⟨.val (undef), [], [], []⟩, ⟨.val (undef), [], [], []⟩, ⟨.val (undef), [], [], []⟩, ⟨.val (undef), [], [], []⟩, ⟨.val (undef), [], [], []⟩, ⟨.val (undef), [], [], []⟩, ⟨.val (undef), [], [], []⟩, ⟨.val (undef), [], [], []⟩, ⟨.val (undef), [], [], []⟩] rfl ?_ rfl ?_ rfl ?_ ?_
        · kernel_rfl
        · kernel_rfl
        · exact DAll.op' (sp_move rfl rfl) trivial rfl (From.ok (ps := []) trivial) (DAll.op' (sp_move rfl rfl) trivial rfl (From.ok (ps := []) trivial) (DAll.op' (sp_indexS rfl rfl rfl isOwn sl27 h24 (map_get _ h25)) trivial rfl (From.ok (ps := [(none, 2)]) ⟨⟨rfl, by kernel_rfl⟩, trivial⟩) (DAll.op' (sp_fieldAddrR (i := (i21 : Int).toNat) rfl rfl isOwn ft32_0 vt3 (by decide) (map_get _ h25) (fun h => nomatch h)) trivial rfl (From.ok (ps := [(none, 2)]) ⟨⟨rfl, by kernel_rfl⟩, trivial⟩) (DAll.op' (sp_loadR (i := (i21 : Int).toNat) (j := 0) rfl rfl isOwn vt3 rfl (map_get _ h25) rfl (.v (.nil)) (nodup_of_B rfl)) trivial rfl (From.ok (ps := [(none, 2)]) ⟨⟨rfl, by kernel_rfl⟩, trivial⟩) (DAll.op' (sp_move rfl rfl) trivial rfl (From.ok (ps := []) trivial) (DAll.op' (sp_move rfl rfl) trivial rfl (From.ok (ps := []) trivial) (DAll.op' (sp_indexS rfl rfl rfl isRo sl27 h26 (map_get _ h27)) trivial rfl (From.ok (ps := [(none, 0)]) ⟨⟨rfl, by kernel_rfl⟩, trivial⟩) (DAll.op' (sp_fieldAddrR (i := (i21 : Int).toNat) rfl rfl isRo ft32_0 vt3 (by decide) (map_get _ h27) (fun h => nomatch h)) trivial rfl (From.ok (ps := [(none, 0)]) ⟨⟨rfl, by kernel_rfl⟩, trivial⟩) (DAll.op' (sp_loadR (i := (i21 : Int).toNat) (j := 0) rfl rfl isRo vt3 rfl (map_get _ h27) rfl (.v (.nil)) (nodup_of_B rfl)) trivial rfl (From.ok (ps := [(none, 0)]) ⟨⟨rfl, by kernel_rfl⟩, trivial⟩) (DAll.op' (sp_neq rfl rfl rfl) trivial rfl (From.ok (ps := []) trivial) (DAll.op' (sp_castB h28 (sp_move rfl rfl)) trivial rfl (From.ok (ps := []) trivial) (.skip ⟨_, rfl, .inl rfl⟩ rfl rfl rfl (.skip ⟨_, rfl, .inl rfl⟩ rfl rfl rfl (.skip ⟨_, rfl, .inl rfl⟩ rfl rfl rfl (.skip ⟨_, rfl, .inl rfl⟩ rfl rfl rfl (.skip ⟨_, rfl, .inl rfl⟩ rfl rfl rfl (.skip ⟨_, rfl, .inl rfl⟩ rfl rfl rfl (.skip ⟨_, rfl, .inl rfl⟩ rfl rfl rfl (.skip ⟨_, rfl, .inl rfl⟩ rfl rfl rfl (.skip ⟨_, rfl, .inl rfl⟩ rfl rfl rfl (.skip ⟨_, rfl, .inl rfl⟩ rfl rfl rfl (.nil))))))))))))))))))))))
        refine opSkip rfl ⟨_, rfl, .inl rfl⟩ rfl ?_
        refine opSkip rfl ⟨_, rfl, .inl rfl⟩ rfl ?_
        refine op0 (sp_pickT rfl rfl rfl) rfl trivial rfl rfl ?_
        refine TL.nil ?_
        refine TC.condT rfl ?_
        refine TC.seq ?_
        refine TC.region ?_
        refine op0 (sp_assign rfl rfl) rfl trivial rfl rfl ?_
        refine TL.nil ?_
        cases h
        exact retJ [] (.tmp rfl .nil) rfl trivial rfl rfl
      · refine drawJ 22 [⟨.ref 6, [], [], []⟩, ⟨vi i21, [], [], []⟩, ⟨.cell 6 ((i21 : Int).toNat * 2), [], [.row 6 32 2 (List.map en_api_RoundDay r16)], []⟩, ⟨.cell 6 ((i21 : Int).toNat * 2 + 0), [], [.row 6 32 2 (List.map en_api_RoundDay r16)], []⟩, ⟨vi x22.1, [], [.row 6 32 2 (List.map en_api_RoundDay r16)], []⟩, ⟨.ref 3, [], [], []⟩, ⟨vi i21, [], [], []⟩, ⟨.cell 3 ((i21 : Int).toNat * 2), [], [.ro 3 2 (List.map en_api_RoundDay l6)], []⟩, ⟨.cell 3 ((i21 : Int).toNat * 2 + 0), [], [.ro 3 2 (List.map en_api_RoundDay l6)], []⟩, ⟨vi x23.1, [], [.ro 3 2 (List.map en_api_RoundDay l6)], []⟩, ⟨.val (.bool (x22.1 != x23.1)), [], [], []⟩, ⟨.val (.bool false), [], [], []⟩, ⟨.ref 6, [], [], []⟩, ⟨vi i21, [], [], []⟩, ⟨.cell 6 ((i21 : Int).toNat * 2), [], [.row 6 32 2 (List.map en_api_RoundDay r16)], []⟩, ⟨.cell 6 ((i21 : Int).toNat * 2 + 1), [], [.row 6 32 2 (List.map en_api_RoundDay r16)], []⟩, ⟨.ref 14, [.ro 14 1 (List.map en_int x22.2)], [.row 6 32 2 (List.map en_api_RoundDay r16)], []⟩, ⟨.ref 3, [], [], []⟩, ⟨vi i21, [], [], []⟩, ⟨.cell 3 ((i21 : Int).toNat * 2), [], [.ro 3 2 (List.map en_api_RoundDay l6)], []⟩, ⟨.cell 3 ((i21 : Int).toNat * 2 + 1), [], [.ro 3 2 (List.map en_api_RoundDay l6)], []⟩, ⟨.ref 15, [.ro 15 1 (List.map en_int x23.2)], [.ro 3 2 (List.map en_api_RoundDay l6)], []⟩] rfl ?_ rfl ?_ rfl ?_ ?_
        · kernel_rfl
        · kernel_rfl
        · exact DAll.op' (sp_move rfl rfl) trivial rfl (From.ok (ps := []) trivial) (DAll.op' (sp_move rfl rfl) trivial rfl (From.ok (ps := []) trivial) (DAll.op' (sp_indexS rfl rfl rfl isOwn sl27 h24 (map_get _ h25)) trivial rfl (From.ok (ps := [(none, 2)]) ⟨⟨rfl, by kernel_rfl⟩, trivial⟩) (DAll.op' (sp_fieldAddrR (i := (i21 : Int).toNat) rfl rfl isOwn ft32_0 vt3 (by decide) (map_get _ h25) (fun h => nomatch h)) trivial rfl (From.ok (ps := [(none, 2)]) ⟨⟨rfl, by kernel_rfl⟩, trivial⟩) (DAll.op' (sp_loadR (i := (i21 : Int).toNat) (j := 0) rfl rfl isOwn vt3 rfl (map_get _ h25) rfl (.v (.nil)) (nodup_of_B rfl)) trivial rfl (From.ok (ps := [(none, 2)]) ⟨⟨rfl, by kernel_rfl⟩, trivial⟩) (DAll.op' (sp_move rfl rfl) trivial rfl (From.ok (ps := []) trivial) (DAll.op' (sp_move rfl rfl) trivial rfl (From.ok (ps := []) trivial) (DAll.op' (sp_indexS rfl rfl rfl isRo sl27 h26 (map_get _ h27)) trivial rfl (From.ok (ps := [(none, 0)]) ⟨⟨rfl, by kernel_rfl⟩, trivial⟩) (DAll.op' (sp_fieldAddrR (i := (i21 : Int).toNat) rfl rfl isRo ft32_0 vt3 (by decide) (map_get _ h27) (fun h => nomatch h)) trivial rfl (From.ok (ps := [(none, 0)]) ⟨⟨rfl, by kernel_rfl⟩, trivial⟩) (DAll.op' (sp_loadR (i := (i21 : Int).toNat) (j := 0) rfl rfl isRo vt3 rfl (map_get _ h27) rfl (.v (.nil)) (nodup_of_B rfl)) trivial rfl (From.ok (ps := [(none, 0)]) ⟨⟨rfl, by kernel_rfl⟩, trivial⟩) (DAll.op' (sp_neq rfl rfl rfl) trivial rfl (From.ok (ps := []) trivial) (DAll.op' (sp_castB h28 (sp_move rfl rfl)) trivial rfl (From.ok (ps := []) trivial) (DAll.op' (sp_move rfl rfl) ⟨_, rfl, rfl⟩ rfl (From.ok (ps := []) trivial) (DAll.op' (sp_move rfl rfl) ⟨_, rfl, rfl⟩ rfl (From.ok (ps := []) trivial) (DAll.op' (sp_indexS rfl rfl rfl isOwn sl27 h24 (map_get _ h25)) ⟨_, rfl, rfl⟩ rfl (From.ok (ps := [(none, 2)]) ⟨⟨rfl, by kernel_rfl⟩, trivial⟩) (DAll.op' (sp_fieldAddrR (i := (i21 : Int).toNat) rfl rfl isOwn ft32_1 vt30 (by decide) (map_get _ h25) (fun h => nomatch h)) ⟨_, rfl, rfl⟩ rfl (From.ok (ps := [(none, 2)]) ⟨⟨rfl, by kernel_rfl⟩, trivial⟩) (DAll.op' (sp_loadR (i := (i21 : Int).toNat) (j := 1) (ns := [.ro 14 1 (List.map en_int x22.2)]) rfl rfl isOwn vt30 rfl (map_get _ h25) rfl (.s (.nil)) (nodup_of_B rfl)) ⟨_, rfl, rfl⟩ rfl (From.ok (ps := [(none, 2)]) ⟨⟨rfl, by kernel_rfl⟩, trivial⟩) (DAll.op' (sp_move rfl rfl) ⟨_, rfl, rfl⟩ rfl (From.ok (ps := []) trivial) (DAll.op' (sp_move rfl rfl) ⟨_, rfl, rfl⟩ rfl (From.ok (ps := []) trivial) (DAll.op' (sp_indexS rfl rfl rfl isRo sl27 h26 (map_get _ h27)) ⟨_, rfl, rfl⟩ rfl (From.ok (ps := [(none, 0)]) ⟨⟨rfl, by kernel_rfl⟩, trivial⟩) (DAll.op' (sp_fieldAddrR (i := (i21 : Int).toNat) rfl rfl isRo ft32_1 vt30 (by decide) (map_get _ h27) (fun h => nomatch h)) ⟨_, rfl, rfl⟩ rfl (From.ok (ps := [(none, 0)]) ⟨⟨rfl, by kernel_rfl⟩, trivial⟩) (DAll.op' (sp_loadR (i := (i21 : Int).toNat) (j := 1) (ns := [.ro 15 1 (List.map en_int x23.2)]) rfl rfl isRo vt30 rfl (map_get _ h27) rfl (.s (.nil)) (nodup_of_B rfl)) ⟨_, rfl, rfl⟩ rfl (From.ok (ps := [(none, 0)]) ⟨⟨rfl, by kernel_rfl⟩, trivial⟩) (.nil))))))))))))))))))))))
        obtain ⟨r24, h29, h⟩ := bind_inv h
        refine opN (need := [.ro 14 1 (List.map en_int x22.2), .ro 15 1 (List.map en_int x23.2)]) [1, 0] ⟨rfl, rfl, trivial⟩ (sp_call (avs := [.ref 14, .ref 15]) (need := [.ro 14 1 (List.map en_int x22.2), .ro 15 1 (List.map en_int x23.2)]) (v := .val (.bool r24)) (news := []) rfl rfl rfl Try.call14 (atJ [(0, 14), (1, 15)] [] (fc_ref11_Same h29) rfl rfl) (.inl (roAll rfl))) rfl ⟨_, rfl, rfl⟩ rfl rfl ?_
        refine op0 (sp_not rfl rfl) rfl ⟨_, rfl, rfl⟩ rfl rfl ?_
        refine op0 (sp_pickF rfl rfl rfl) rfl trivial rfl rfl ?_
        refine TL.nil ?_
        refine TC.cond (b := (!r24)) rfl (fun h30 => ?_) (fun h30 => ?_)
        · have h := cond_t h h30
          refine TC.seq ?_
          refine TC.region ?_
          refine op0 (sp_assign rfl rfl) rfl trivial rfl rfl ?_
          refine TL.nil ?_
          cases h
          exact retJ [] (.tmp rfl .nil) rfl trivial rfl rfl
        · have h := cond_f h h30
          refine TC.skip ?_
          refine TC.inBlock ?_
          refine TC.region ?_
          refine op0 (sp_move rfl rfl) rfl trivial rfl rfl ?_
          obtain ⟨h31, h⟩ := chk_inv h
          refine op0 (sp_add rfl rfl rfl h31) rfl trivial rfl rfl ?_
          refine op0 (sp_assign rfl rfl) rfl trivial rfl rfl ?_
          refine TL.nil ?_
          refine TC.inLoop ?_
          refine TC.seq ?_
          refine TC.seq ?_
          refine subJ [] (ih _ h) ?_ ?_ ?_
          · exact ⟨rfl, rfl, rfl, rfl, rfl, rfl, rfl, rfl, rfl, rfl, trivial⟩
          · exact ⟨mem_at 2 rfl, mem_at 3 rfl, mem_at 4 rfl, mem_at 5 rfl, mem_at 6 rfl, mem_at 7 rfl, mem_at 8 rfl, trivial⟩
          · rfl
    · have h := cond_f h h23
      refine TC.exit rfl ?_
      refine TC.seq ?_
      refine TC.region ?_
      refine op1 1 rfl (sp_loadBA rfl isBlk rfl vt26 rfl rfl) rfl trivial rfl rfl ?_
      obtain ⟨r25, h32, h⟩ := bind_inv h
      refine opN (need := [.ro 0 5 (List.map en_api_RoundTower rr1), .ro 1 1 (List.map en_Lint rr2), .ro 2 4 (List.map en_api_RoundWinder rr3)]) [4, 5, 6] ⟨rfl, rfl, rfl, trivial⟩ (sp_call (avs := [.agg [.ref 0, .ref 1, .ref 2, vi rr4, vi rr5]]) (need := [.ro 0 5 (List.map en_api_RoundTower rr1), .ro 1 1 (List.map en_Lint rr2), .ro 2 4 (List.map en_api_RoundWinder rr3)]) (v := vi r25) (news := []) rfl rfl rfl Try.call15 (atJ [] [] (fc_ref11_Check h32) rfl rfl) (.inl (roAll rfl))) rfl trivial rfl rfl ?_
      refine op0 (sp_assign rfl rfl) rfl trivial rfl rfl ?_
      refine TL.nil ?_
      refine TC.seq ?_
      refine TC.seq ?_
      refine TC.region ?_
      refine op0 (sp_move rfl rfl) rfl trivial rfl rfl ?_
      refine op0 (sp_eql rfl rfl rfl) rfl trivial rfl rfl ?_
      refine TL.nil ?_
      refine TC.cond (b := (r25 == 0)) rfl (fun h33 => ?_) (fun h33 => ?_)
      · have h := cond_t h h33
        refine TC.region ?_
        refine op1 1 rfl (sp_loadBA rfl isBlk rfl vt26 rfl rfl) rfl trivial rfl rfl ?_
        refine op0 (sp_move rfl rfl) rfl trivial rfl rfl ?_
        obtain ⟨r26, h34, h⟩ := bind_inv h
        refine opN (need := [.ro 0 5 (List.map en_api_RoundTower rr1), .ro 1 1 (List.map en_Lint rr2), .ro 2 4 (List.map en_api_RoundWinder rr3), .ro 3 2 (List.map en_api_RoundDay l6)]) [4, 5, 6, 0] ⟨rfl, rfl, rfl, rfl, trivial⟩ (sp_call (avs := [.agg [.ref 0, .ref 1, .ref 2, vi rr4, vi rr5], .ref 3]) (need := [.ro 0 5 (List.map en_api_RoundTower rr1), .ro 1 1 (List.map en_Lint rr2), .ro 2 4 (List.map en_api_RoundWinder rr3), .ro 3 2 (List.map en_api_RoundDay l6)]) (v := vi r26) (news := []) rfl rfl rfl Try.call16 (atJ [] [] (fc_ref11_Days h34) rfl rfl) (.inl (roAll rfl))) rfl trivial rfl rfl ?_
        refine op0 (sp_assign rfl rfl) rfl trivial rfl rfl ?_
        refine TL.nil ?_
        refine TC.seq ?_
        refine TC.seq ?_
        refine subJ [] (ok_law11_RoundDays_j3 h) ?_ ?_ ?_
        · exact ⟨rfl, rfl, rfl, rfl, rfl, rfl, rfl, rfl, rfl, trivial⟩
        · exact ⟨mem_at 0 rfl, mem_at 1 rfl, mem_at 3 rfl, mem_at 4 rfl, mem_at 5 rfl, mem_at 6 rfl, trivial⟩
        · rfl
      · have h := cond_f h h33
        refine TC.skip ?_
        refine TC.seq ?_
        refine TC.seq ?_
        refine subJ [] (ok_law11_RoundDays_j3 h) ?_ ?_ ?_
        · exact ⟨rfl, rfl, rfl, rfl, rfl, rfl, rfl, rfl, rfl, trivial⟩
        · exact ⟨mem_at 0 rfl, mem_at 1 rfl, mem_at 3 rfl, mem_at 4 rfl, mem_at 5 rfl, mem_at 6 rfl, trivial⟩
        · rfl
def ev_law11_RoundDays_l1 (n : Nat) (l6 : List (Int × (List Int))) (rr1 : List (Int × Int × Int × Int × Int)) (rr2 : List ((List Int))) (rr3 : List (Int × Int × Int × Int)) (rr4 : Int) (rr5 : Int) (day7 : Int) : Nat → Int → Option Bool
  | 0, _ => none
  | m + 1, i13 => cond (decide (i13 < (l6.length : Int))) (idx l6 i13 fun x14 => cond (decide ((12 : Int) < (x14.2.length : Int))) ((ev_law11_known n).bind fun r15 => some r15) (chk (in64 (i13 + 1)) <| ev_law11_RoundDays_l1 n l6 rr1 rr2 rr3 rr4 rr5 day7 m (i13 + 1))) ((ev_law11_days n l6).bind fun r16 => (ev_law11_copied n rr1 rr2 rr3 rr4 rr5).bind fun r17 => (ev_round_Left n r17.1 r17.2.1 r17.2.2.1 r17.2.2.2.1 r17.2.2.2.2 r16 day7).bind fun r18 => (ev_law11_copied n rr1 rr2 rr3 rr4 rr5).bind fun r19 => (ev_round_Stops n r19.1 r19.2.1 r19.2.2.1 r19.2.2.2.1 r19.2.2.2.2 r16 day7).bind fun r20 => ev_law11_RoundDays_l2 n l6 r16 rr1 rr2 rr3 rr4 rr5 day7 r18 r20 n 0)
theorem ok_law11_RoundDays_l1 {n : Nat} {w0 : World} {R0 : Nat → Prop} {env0 : Env} {r : Bool} {day7 : Int} {l6 : List (Int × (List Int))} {rr4 : Int} {rr5 : Int} {rr1 : List (Int × Int × Int × Int × Int)} {rr2 : List ((List Int))} {rr3 : List (Int × Int × Int × Int)} : ∀ (m : Nat) (i13 : Int), ev_law11_RoundDays_l1 n l6 rr1 rr2 rr3 rr4 rr5 day7 m i13 = some r → TC Try.prog ⟨w0, fun _ => False, R0⟩ 208 (bodyPost Try.prog Try.f3 (Post ⟨w0, fun _ => False, R0⟩ env0 (.val (.bool r)) [])) [.code (sub (bodyOf Try.f3) [1, 1, 0, 1, 0, 0, 0, 0]), .code (sub (bodyOf Try.f3) [1, 1, 0, 1, 0, 0, 0, 1]), .code (sub (bodyOf Try.f3) [1, 1, 0, 1, 0, 0, 1]), .inLoop (sub (bodyOf Try.f3) [1, 1, 0, 1, 0, 0]), .inBlock 0, .code (sub (bodyOf Try.f3) [1, 1, 1])] ([(1, .ref 3), (2, vi day7), (3, .ptr 4 0), (7, vi i13)]) ([.ro 3 2 (List.map en_api_RoundDay l6), .blk 4 [.ref 0, .ref 1, .ref 2, vi rr4, vi rr5] 26, .ro 0 5 (List.map en_api_RoundTower rr1), .ro 1 1 (List.map en_Lint rr2), .ro 2 4 (List.map en_api_RoundWinder rr3)]) := by
  intro m
  induction m with
  | zero => intro i13 h; exact none_no h
  | succ m ih =>
    intro i13 h
    rw [ev_law11_RoundDays_l1] at h
    refine TC.region ?_
    refine op0 (sp_move rfl rfl) rfl trivial rfl rfl ?_
    refine op0 (sp_move rfl rfl) rfl trivial rfl rfl ?_
    refine op1 0 rfl (sp_lenM (N := l6.length) (len_map _ _) rfl rfl isRo Try.underlying27) rfl trivial rfl rfl ?_
    refine op0 (sp_lss rfl rfl rfl) rfl trivial rfl rfl ?_
    refine TL.nil ?_
    refine TC.cond (b := (decide (i13 < (l6.length : Int)))) rfl (fun h12 => ?_) (fun h12 => ?_)
    · have h := cond_t h h12
      refine TC.skip ?_
      refine TC.seq ?_
      refine TC.block ?_
      refine TC.seq ?_
      refine TC.region ?_
      refine op0 (sp_move rfl rfl) rfl trivial rfl rfl ?_
      refine op0 (sp_move rfl rfl) rfl trivial rfl rfl ?_
      obtain ⟨x14, h13, h14, h⟩ := idx_inv h
      refine op1 0 rfl (sp_indexS rfl rfl rfl isRo sl27 h13 (map_get _ h14)) rfl trivial rfl rfl ?_
      refine op1 0 rfl (sp_fieldAddrR (i := (i13 : Int).toNat) rfl rfl isRo ft32_1 vt30 (by decide) (map_get _ h14) (fun h => nomatch h)) rfl trivial rfl rfl ?_
      refine op1 0 rfl (sp_loadR (i := (i13 : Int).toNat) (j := 1) (ns := [.ro 5 1 (List.map en_int x14.2)]) rfl rfl isRo vt30 rfl (map_get _ h14) rfl (.s (.nil)) (nodup_of_B rfl)) rfl trivial rfl rfl ?_
      refine op1 0 rfl (sp_lenM (N := x14.2.length) (len_map _ _) rfl rfl isRo Try.underlying30) rfl trivial rfl rfl ?_
      refine op0 (sp_gtr rfl rfl rfl) rfl trivial rfl rfl ?_
      refine TL.nil ?_
      refine TC.cond (b := (decide ((12 : Int) < (x14.2.length : Int)))) rfl (fun h15 => ?_) (fun h15 => ?_)
      · have h := cond_t h h15
        refine TC.seq ?_
        refine TC.region ?_
        obtain ⟨r15, h16, h⟩ := bind_inv h
        refine op0 (sp_call (avs := []) (need := []) (v := .val (.bool r15)) (news := []) rfl rfl rfl Try.call9 (atJ [] [] (fc_law11_known h16) rfl rfl) (.inl (roAll rfl))) rfl trivial rfl rfl ?_
        refine op0 (sp_assign rfl rfl) rfl trivial rfl rfl ?_
        refine TL.nil ?_
        cases h
        exact retJ [] (.tmp rfl .nil) rfl trivial rfl rfl
      · have h := cond_f h h15
        refine TC.skip ?_
        refine TC.inBlock ?_
        refine TC.region ?_
        refine op0 (sp_move rfl rfl) rfl trivial rfl rfl ?_
        obtain ⟨h17, h⟩ := chk_inv h
        refine op0 (sp_add rfl rfl rfl h17) rfl trivial rfl rfl ?_
        refine op0 (sp_assign rfl rfl) rfl trivial rfl rfl ?_
        refine TL.nil ?_
        refine TC.inLoop ?_
        refine TC.seq ?_
        refine TC.seq ?_
        refine subJ [] (ih _ h) ?_ ?_ ?_
        · exact ⟨rfl, rfl, rfl, rfl, trivial⟩
        · exact ⟨mem_at 1 rfl, mem_at 2 rfl, mem_at 3 rfl, mem_at 4 rfl, mem_at 5 rfl, trivial⟩
        · rfl
    · have h := cond_f h h12
      refine TC.exit rfl ?_
      refine TC.seq ?_
      refine TC.region ?_
      refine op0 (sp_move rfl rfl) rfl trivial rfl rfl ?_
      obtain ⟨r16, h18, h⟩ := bind_inv h
      refine op1 0 rfl (sp_call (avs := [.ref 3]) (need := [.ro 3 2 (List.map en_api_RoundDay l6)]) (v := .ref 6) (news := [.row 6 32 2 (List.map en_api_RoundDay r16)]) rfl rfl rfl Try.call10 (atJ [(0, 3)] [(0, 6)] (fc_law11_days h18) rfl rfl) (.inl (roAll rfl))) rfl trivial rfl rfl ?_
      refine op0 (sp_assign rfl rfl) rfl trivial rfl rfl ?_
      refine TL.nil ?_
      refine TC.seq ?_
      refine TC.region ?_
      refine op1 2 rfl (sp_loadBA rfl isBlk rfl vt26 rfl rfl) rfl trivial rfl rfl ?_
      obtain ⟨r17, h19, h⟩ := bind_inv h
      refine opN (need := [.ro 0 5 (List.map en_api_RoundTower rr1), .ro 1 1 (List.map en_Lint rr2), .ro 2 4 (List.map en_api_RoundWinder rr3)]) [3, 4, 5] ⟨rfl, rfl, rfl, trivial⟩ (sp_call (avs := [.agg [.ref 0, .ref 1, .ref 2, vi rr4, vi rr5]]) (need := [.ro 0 5 (List.map en_api_RoundTower rr1), .ro 1 1 (List.map en_Lint rr2), .ro 2 4 (List.map en_api_RoundWinder rr3)]) (v := .agg [.ref 7, .ref 8, .ref 9, vi r17.2.2.2.1, vi r17.2.2.2.2]) (news := [.row 7 46 5 (List.map en_api_RoundTower r17.1), .row 8 30 1 (List.map en_Lint r17.2.1), .row 9 76 4 (List.map en_api_RoundWinder r17.2.2.1)]) rfl rfl rfl Try.call12 (atJ [] [(0, 7), (1, 8), (2, 9)] (fc_law11_copied h19) rfl rfl) (.inl (roAll rfl))) rfl trivial rfl rfl ?_
      refine op0 (sp_move rfl rfl) rfl trivial rfl rfl ?_
      refine op0 (sp_move rfl rfl) rfl trivial rfl rfl ?_
      obtain ⟨r18, h20, h⟩ := bind_inv h
      refine opN (need := [.row 7 46 5 (List.map en_api_RoundTower r17.1), .row 8 30 1 (List.map en_Lint r17.2.1), .row 9 76 4 (List.map en_api_RoundWinder r17.2.2.1), .row 6 32 2 (List.map en_api_RoundDay r16)]) [0, 1, 2, 3] ⟨rfl, rfl, rfl, rfl, trivial⟩ (sp_call (avs := [.agg [.ref 7, .ref 8, .ref 9, vi r17.2.2.2.1, vi r17.2.2.2.2], .ref 6, vi day7]) (need := [.row 7 46 5 (List.map en_api_RoundTower r17.1), .row 8 30 1 (List.map en_Lint r17.2.1), .row 9 76 4 (List.map en_api_RoundWinder r17.2.2.1), .row 6 32 2 (List.map en_api_RoundDay r16)]) (v := .tup [.ref 10, vi r18.2]) (news := [.row 10 3 1 (List.map en_int r18.1)]) rfl rfl rfl Try.call11 (atJ [(0, 7), (1, 8), (2, 9), (3, 6)] [(0, 10)] (fc_round_Left h20) rfl rfl) (.inr (List.forall_mem_cons.2 ⟨indep_map en_int_flat, (by simp)⟩))) rfl trivial rfl rfl ?_
      refine op0 (sp_move rfl rfl) rfl trivial rfl rfl ?_
      refine op0 (sp_extract rfl rfl rfl) rfl trivial rfl rfl ?_
      refine op0 (sp_extract rfl rfl rfl) rfl trivial rfl rfl ?_
      refine op0 (sp_assign rfl rfl) rfl trivial rfl rfl ?_
      refine op0 (sp_assign rfl rfl) rfl trivial rfl rfl ?_
      refine TL.nil ?_
      refine TC.seq ?_
      refine TC.region ?_
      refine op1 6 rfl (sp_loadBA rfl isBlk rfl vt26 rfl rfl) rfl trivial rfl rfl ?_
      obtain ⟨r19, h21, h⟩ := bind_inv h
      refine opN (need := [.ro 0 5 (List.map en_api_RoundTower rr1), .ro 1 1 (List.map en_Lint rr2), .ro 2 4 (List.map en_api_RoundWinder rr3)]) [7, 8, 9] ⟨rfl, rfl, rfl, trivial⟩ (sp_call (avs := [.agg [.ref 0, .ref 1, .ref 2, vi rr4, vi rr5]]) (need := [.ro 0 5 (List.map en_api_RoundTower rr1), .ro 1 1 (List.map en_Lint rr2), .ro 2 4 (List.map en_api_RoundWinder rr3)]) (v := .agg [.ref 11, .ref 12, .ref 13, vi r19.2.2.2.1, vi r19.2.2.2.2]) (news := [.row 11 46 5 (List.map en_api_RoundTower r19.1), .row 12 30 1 (List.map en_Lint r19.2.1), .row 13 76 4 (List.map en_api_RoundWinder r19.2.2.1)]) rfl rfl rfl Try.call12 (atJ [] [(0, 11), (1, 12), (2, 13)] (fc_law11_copied h21) rfl rfl) (.inl (roAll rfl))) rfl trivial rfl rfl ?_
      refine op0 (sp_move rfl rfl) rfl trivial rfl rfl ?_
      refine op0 (sp_move rfl rfl) rfl trivial rfl rfl ?_
      obtain ⟨r20, h22, h⟩ := bind_inv h
      refine opN (need := [.row 11 46 5 (List.map en_api_RoundTower r19.1), .row 12 30 1 (List.map en_Lint r19.2.1), .row 13 76 4 (List.map en_api_RoundWinder r19.2.2.1), .row 6 32 2 (List.map en_api_RoundDay r16)]) [0, 1, 2, 7] ⟨rfl, rfl, rfl, rfl, trivial⟩ (sp_call (avs := [.agg [.ref 11, .ref 12, .ref 13, vi r19.2.2.2.1, vi r19.2.2.2.2], .ref 6, vi day7]) (need := [.row 11 46 5 (List.map en_api_RoundTower r19.1), .row 12 30 1 (List.map en_Lint r19.2.1), .row 13 76 4 (List.map en_api_RoundWinder r19.2.2.1), .row 6 32 2 (List.map en_api_RoundDay r16)]) (v := .tup [vi r20.1, vi r20.2.1, vi r20.2.2]) (news := []) rfl rfl rfl Try.call13 (atJ [(0, 11), (1, 12), (2, 13), (3, 6)] [] (fc_round_Stops h22) rfl rfl) (.inr (fun x hx => nomatch hx))) rfl trivial rfl rfl ?_
      refine op0 (sp_move rfl rfl) rfl trivial rfl rfl ?_
      refine op0 (sp_extract rfl rfl rfl) rfl trivial rfl rfl ?_
      refine op0 (sp_extract rfl rfl rfl) rfl trivial rfl rfl ?_
      refine op0 (sp_extract rfl rfl rfl) rfl trivial rfl rfl ?_
      refine op0 (sp_assign rfl rfl) rfl trivial rfl rfl ?_
      refine op0 (sp_assign rfl rfl) rfl trivial rfl rfl ?_
      refine op0 (sp_assign rfl rfl) rfl trivial rfl rfl ?_
      refine TL.nil ?_
      refine TC.seq ?_
      refine TC.seq ?_
      refine TC.region ?_
      refine op0 (sp_assign rfl rfl) rfl trivial rfl rfl ?_
      refine TL.nil ?_
      refine TC.block ?_
      refine TC.loop ?_
      refine TC.seq ?_
      refine TC.seq ?_
      refine subJ [] (ok_law11_RoundDays_l2 _ _ h) ?_ ?_ ?_
      · exact ⟨rfl, rfl, rfl, rfl, rfl, rfl, rfl, rfl, rfl, rfl, trivial⟩
      · exact ⟨mem_at 8 rfl, mem_at 9 rfl, mem_at 7 rfl, mem_at 3 rfl, mem_at 10 rfl, mem_at 11 rfl, mem_at 12 rfl, trivial⟩
      · rfl
def ev_law11_RoundDays_j0 (n : Nat) (l6 : List (Int × (List Int))) (rr1 : List (Int × Int × Int × Int × Int)) (rr2 : List ((List Int))) (rr3 : List (Int × Int × Int × Int)) (rr4 : Int) (rr5 : Int) (day7 : Int) : Option Bool :=
  ev_law11_RoundDays_l1 n l6 rr1 rr2 rr3 rr4 rr5 day7 n 0
theorem ok_law11_RoundDays_j0 {n : Nat} {w0 : World} {R0 : Nat → Prop} {env0 : Env} {r : Bool} {day7 : Int} {l6 : List (Int × (List Int))} {rr4 : Int} {rr5 : Int} {rr1 : List (Int × Int × Int × Int × Int)} {rr2 : List ((List Int))} {rr3 : List (Int × Int × Int × Int)} (h : ev_law11_RoundDays_j0 n l6 rr1 rr2 rr3 rr4 rr5 day7 = some r) : TC Try.prog ⟨w0, fun _ => False, R0⟩ 208 (bodyPost Try.prog Try.f3 (Post ⟨w0, fun _ => False, R0⟩ env0 (.val (.bool r)) [])) [.code (sub (bodyOf Try.f3) [1, 0, 1, 1]), .code (sub (bodyOf Try.f3) [1, 1])] ([(1, .ref 3), (2, vi day7), (3, .ptr 4 0)]) ([.ro 3 2 (List.map en_api_RoundDay l6), .blk 4 [.ref 0, .ref 1, .ref 2, vi rr4, vi rr5] 26, .ro 0 5 (List.map en_api_RoundTower rr1), .ro 1 1 (List.map en_Lint rr2), .ro 2 4 (List.map en_api_RoundWinder rr3)]) := by
  rw [ev_law11_RoundDays_j0] at h
  refine TC.skip ?_
  refine TC.seq ?_
  refine TC.seq ?_
  refine TC.region ?_
  refine op0 (sp_assign rfl rfl) rfl trivial rfl rfl ?_
  refine TL.nil ?_
  refine TC.block ?_
  refine TC.loop ?_
  refine TC.seq ?_
  refine TC.seq ?_
  refine subJ [] (ok_law11_RoundDays_l1 _ _ h) ?_ ?_ ?_
  · exact ⟨rfl, rfl, rfl, rfl, trivial⟩
  · exact ⟨mem_at 0 rfl, mem_at 1 rfl, mem_at 2 rfl, mem_at 3 rfl, mem_at 4 rfl, trivial⟩
  · rfl
def ev_law11_RoundDays (n : Nat) (rr1 : List (Int × Int × Int × Int × Int)) (rr2 : List ((List Int))) (rr3 : List (Int × Int × Int × Int)) (rr4 : Int) (rr5 : Int) (l6 : List (Int × (List Int))) (day7 : Int) : Option Bool :=
  (ev_law11_large n rr1 rr2 rr3 rr4 rr5).bind fun r8 => cond r8 ((ev_law11_known n).bind fun r9 => some r9) (cond (decide ((30 : Int) < (l6.length : Int))) (cond (decide ((l6.length : Int) ≤ 400)) ((ev_law11_known n).bind fun r10 => some r10) (cond (decide ((410 : Int) < (l6.length : Int))) ((ev_law11_known n).bind fun r11 => some r11) (cond (decide ((400 : Int) < day7)) (cond (decide (day7 ≤ 36524)) ((ev_law11_known n).bind fun r12 => some r12) (ev_law11_RoundDays_j0 n l6 rr1 rr2 rr3 rr4 rr5 day7)) (ev_law11_RoundDays_j0 n l6 rr1 rr2 rr3 rr4 rr5 day7)))) (cond (decide ((410 : Int) < (l6.length : Int))) ((ev_law11_known n).bind fun r60 => some r60) (cond (decide ((400 : Int) < day7)) (cond (decide (day7 ≤ 36524)) ((ev_law11_known n).bind fun r61 => some r61) (ev_law11_RoundDays_j0 n l6 rr1 rr2 rr3 rr4 rr5 day7)) (ev_law11_RoundDays_j0 n l6 rr1 rr2 rr3 rr4 rr5 day7))))
theorem fc_law11_RoundDays {n : Nat} {rr1 : List (Int × Int × Int × Int × Int)} {rr2 : List ((List Int))} {rr3 : List (Int × Int × Int × Int)} {rr4 : Int} {rr5 : Int} {l6 : List (Int × (List Int))} {day7 : Int} {r : Bool} (h : ev_law11_RoundDays n rr1 rr2 rr3 rr4 rr5 l6 day7 = some r) : FC Try.prog 3 [.agg [.ref 0, .ref 1, .ref 2, vi rr4, vi rr5], .ref 3, vi day7] [.ro 0 5 (List.map en_api_RoundTower rr1), .ro 1 1 (List.map en_Lint rr2), .ro 2 4 (List.map en_api_RoundWinder rr3), .ro 3 2 (List.map en_api_RoundDay l6)] (.val (.bool r)) [] := by
  refine introJ (nz := 208) Try.func3 rfl rfl rfl (fun w0 R0 env0 => ?_)
  rw [ev_law11_RoundDays] at h
  refine TC.seq ?_
  refine TC.region ?_
  refine op0 (sp_box 4 rfl rfl rfl rfl rfl) rfl trivial rfl rfl ?_
  refine op0 (sp_assign rfl rfl) rfl trivial rfl rfl ?_
  refine TL.nil ?_
  refine TC.seq ?_
  refine TC.seq ?_
  refine TC.region ?_
  refine op1 0 rfl (sp_loadBA rfl isBlk rfl vt26 rfl rfl) rfl trivial rfl rfl ?_
  obtain ⟨r8, h1, h⟩ := bind_inv h
  refine opN (need := [.ro 0 5 (List.map en_api_RoundTower rr1), .ro 1 1 (List.map en_Lint rr2), .ro 2 4 (List.map en_api_RoundWinder rr3)]) [1, 2, 3] ⟨rfl, rfl, rfl, trivial⟩ (sp_call (avs := [.agg [.ref 0, .ref 1, .ref 2, vi rr4, vi rr5]]) (need := [.ro 0 5 (List.map en_api_RoundTower rr1), .ro 1 1 (List.map en_Lint rr2), .ro 2 4 (List.map en_api_RoundWinder rr3)]) (v := .val (.bool r8)) (news := []) rfl rfl rfl Try.call8 (atJ [] [] (fc_law11_large h1) rfl rfl) (.inl (roAll rfl))) rfl trivial rfl rfl ?_
  refine op0 (sp_move rfl rfl) rfl trivial rfl rfl ?_
  rcases cond_cases h with ⟨h2, h⟩ | ⟨h2, h⟩
  · refine (boolLit 22 rfl h2).2 ?_
    refine opSkip rfl ⟨_, rfl, .inl rfl⟩ rfl ?_
    refine opSkip rfl ⟨_, rfl, .inl rfl⟩ rfl ?_
    refine opSkip rfl ⟨_, rfl, .inl rfl⟩ rfl ?_
    refine opSkip rfl ⟨_, rfl, .inl rfl⟩ rfl ?_
    refine opSkip rfl ⟨_, rfl, .inr rfl⟩ rfl ?_
    refine opSkip rfl ⟨_, rfl, .inr rfl⟩ rfl ?_
    refine opSkip rfl ⟨_, rfl, .inr rfl⟩ rfl ?_
    refine opSkip rfl ⟨_, rfl, .inl rfl⟩ rfl ?_
    refine op0 (sp_pickT rfl rfl rfl) rfl trivial rfl rfl ?_
    refine op0 (sp_move rfl rfl) rfl trivial rfl rfl ?_
    refine opSkip rfl ⟨_, rfl, .inl rfl⟩ rfl ?_
    refine opSkip rfl ⟨_, rfl, .inl rfl⟩ rfl ?_
    refine opSkip rfl ⟨_, rfl, .inl rfl⟩ rfl ?_
    refine op0 (sp_pickT rfl rfl rfl) rfl trivial rfl rfl ?_
    refine op0 (sp_move rfl rfl) rfl trivial rfl rfl ?_
    refine opSkip rfl ⟨_, rfl, .inl rfl⟩ rfl ?_
    refine opSkip rfl ⟨_, rfl, .inl rfl⟩ rfl ?_
    refine opSkip rfl ⟨_, rfl, .inl rfl⟩ rfl ?_
    refine opSkip rfl ⟨_, rfl, .inr rfl⟩ rfl ?_
    refine opSkip rfl ⟨_, rfl, .inr rfl⟩ rfl ?_
    refine opSkip rfl ⟨_, rfl, .inl rfl⟩ rfl ?_
    refine op0 (sp_pickT rfl rfl rfl) rfl trivial rfl rfl ?_
    refine TL.nil ?_
    refine TC.condT rfl ?_
    refine TC.seq ?_
    refine TC.region ?_
    obtain ⟨r9, h3, h⟩ := bind_inv h
    refine op0 (sp_call (avs := []) (need := []) (v := .val (.bool r9)) (news := []) rfl rfl rfl Try.call9 (atJ [] [] (fc_law11_known h3) rfl rfl) (.inl (roAll rfl))) rfl trivial rfl rfl ?_
    refine op0 (sp_assign rfl rfl) rfl trivial rfl rfl ?_
    refine TL.nil ?_
    cases h
    exact retJ [] (.tmp rfl .nil) rfl trivial rfl rfl
  · refine (boolLit 22 rfl h2).2 ?_
    refine op0 (sp_move rfl rfl) rfl ⟨_, rfl, rfl⟩ rfl rfl ?_
    refine op1 4 rfl (sp_lenM (N := l6.length) (len_map _ _) rfl rfl isRo Try.underlying27) rfl ⟨_, rfl, rfl⟩ rfl rfl ?_
    refine op0 (sp_gtr rfl rfl rfl) rfl ⟨_, rfl, rfl⟩ rfl rfl ?_
    refine op0 (sp_move rfl rfl) rfl ⟨_, rfl, rfl⟩ rfl rfl ?_
    rcases cond_cases h with ⟨h4, h⟩ | ⟨h4, h⟩
    · refine (boolLit 26 rfl h4).2 ?_
      refine op0 (sp_move rfl rfl) rfl ⟨_, rfl, rfl⟩ rfl rfl ?_
      refine op1 4 rfl (sp_lenM (N := l6.length) (len_map _ _) rfl rfl isRo Try.underlying27) rfl ⟨_, rfl, rfl⟩ rfl rfl ?_
      refine op0 (sp_leq rfl rfl rfl) rfl ⟨_, rfl, rfl⟩ rfl rfl ?_
      refine op0 (sp_pickT rfl rfl rfl) rfl ⟨_, rfl, rfl⟩ rfl rfl ?_
      refine op0 (sp_pickF rfl rfl rfl) rfl trivial rfl rfl ?_
      refine op0 (sp_move rfl rfl) rfl trivial rfl rfl ?_
      rcases cond_cases h with ⟨h5, h⟩ | ⟨h5, h⟩
      · refine (boolLit 32 rfl h5).2 ?_
        refine opSkip rfl ⟨_, rfl, .inl rfl⟩ rfl ?_
        refine opSkip rfl ⟨_, rfl, .inl rfl⟩ rfl ?_
        refine opSkip rfl ⟨_, rfl, .inl rfl⟩ rfl ?_
        refine op0 (sp_pickT rfl rfl rfl) rfl trivial rfl rfl ?_
        refine op0 (sp_move rfl rfl) rfl trivial rfl rfl ?_
        refine opSkip rfl ⟨_, rfl, .inl rfl⟩ rfl ?_
        refine opSkip rfl ⟨_, rfl, .inl rfl⟩ rfl ?_
        refine opSkip rfl ⟨_, rfl, .inl rfl⟩ rfl ?_
        refine opSkip rfl ⟨_, rfl, .inr rfl⟩ rfl ?_
        refine opSkip rfl ⟨_, rfl, .inr rfl⟩ rfl ?_
        refine opSkip rfl ⟨_, rfl, .inl rfl⟩ rfl ?_
        refine op0 (sp_pickT rfl rfl rfl) rfl trivial rfl rfl ?_
        refine TL.nil ?_
        refine TC.condT rfl ?_
        refine TC.seq ?_
        refine TC.region ?_
        obtain ⟨r10, h6, h⟩ := bind_inv h
        refine op0 (sp_call (avs := []) (need := []) (v := .val (.bool r10)) (news := []) rfl rfl rfl Try.call9 (atJ [] [] (fc_law11_known h6) rfl rfl) (.inl (roAll rfl))) rfl trivial rfl rfl ?_
        refine op0 (sp_assign rfl rfl) rfl trivial rfl rfl ?_
        refine TL.nil ?_
        cases h
        exact retJ [] (.tmp rfl .nil) rfl trivial rfl rfl
      · refine (boolLit 32 rfl h5).2 ?_
        refine op0 (sp_move rfl rfl) rfl ⟨_, rfl, rfl⟩ rfl rfl ?_
        refine op1 4 rfl (sp_lenM (N := l6.length) (len_map _ _) rfl rfl isRo Try.underlying27) rfl ⟨_, rfl, rfl⟩ rfl rfl ?_
        refine op0 (sp_gtr rfl rfl rfl) rfl ⟨_, rfl, rfl⟩ rfl rfl ?_
        refine op0 (sp_pickF rfl rfl rfl) rfl trivial rfl rfl ?_
        refine op0 (sp_move rfl rfl) rfl trivial rfl rfl ?_
        rcases cond_cases h with ⟨h7, h⟩ | ⟨h7, h⟩
        · refine (boolLit 37 rfl h7).2 ?_
          refine opSkip rfl ⟨_, rfl, .inl rfl⟩ rfl ?_
          refine opSkip rfl ⟨_, rfl, .inl rfl⟩ rfl ?_
          refine opSkip rfl ⟨_, rfl, .inl rfl⟩ rfl ?_
          refine opSkip rfl ⟨_, rfl, .inr rfl⟩ rfl ?_
          refine opSkip rfl ⟨_, rfl, .inr rfl⟩ rfl ?_
          refine opSkip rfl ⟨_, rfl, .inl rfl⟩ rfl ?_
          refine op0 (sp_pickT rfl rfl rfl) rfl trivial rfl rfl ?_
          refine TL.nil ?_
          refine TC.condT rfl ?_
          refine TC.seq ?_
          refine TC.region ?_
          obtain ⟨r11, h8, h⟩ := bind_inv h
          refine op0 (sp_call (avs := []) (need := []) (v := .val (.bool r11)) (news := []) rfl rfl rfl Try.call9 (atJ [] [] (fc_law11_known h8) rfl rfl) (.inl (roAll rfl))) rfl trivial rfl rfl ?_
          refine op0 (sp_assign rfl rfl) rfl trivial rfl rfl ?_
          refine TL.nil ?_
          cases h
          exact retJ [] (.tmp rfl .nil) rfl trivial rfl rfl
        · refine (boolLit 37 rfl h7).2 ?_
          refine op0 (sp_move rfl rfl) rfl ⟨_, rfl, rfl⟩ rfl rfl ?_
          refine op0 (sp_gtr rfl rfl rfl) rfl ⟨_, rfl, rfl⟩ rfl rfl ?_
          refine op0 (sp_move rfl rfl) rfl ⟨_, rfl, rfl⟩ rfl rfl ?_
          rcases cond_cases h with ⟨h9, h⟩ | ⟨h9, h⟩
          · refine (boolLit 40 rfl h9).2 ?_
            refine op0 (sp_move rfl rfl) rfl ⟨_, rfl, rfl⟩ rfl rfl ?_
            refine op0 (sp_leq rfl rfl rfl) rfl ⟨_, rfl, rfl⟩ rfl rfl ?_
            refine op0 (sp_pickT rfl rfl rfl) rfl ⟨_, rfl, rfl⟩ rfl rfl ?_
            refine op0 (sp_pickF rfl rfl rfl) rfl trivial rfl rfl ?_
            refine TL.nil ?_
            refine TC.cond (b := (decide (day7 ≤ 36524))) rfl (fun h10 => ?_) (fun h10 => ?_)
            · have h := cond_t h h10
              refine TC.seq ?_
              refine TC.region ?_
              obtain ⟨r12, h11, h⟩ := bind_inv h
              refine op0 (sp_call (avs := []) (need := []) (v := .val (.bool r12)) (news := []) rfl rfl rfl Try.call9 (atJ [] [] (fc_law11_known h11) rfl rfl) (.inl (roAll rfl))) rfl trivial rfl rfl ?_
              refine op0 (sp_assign rfl rfl) rfl trivial rfl rfl ?_
              refine TL.nil ?_
              cases h
              exact retJ [] (.tmp rfl .nil) rfl trivial rfl rfl
            · have h := cond_f h h10
              refine subJ [] (ok_law11_RoundDays_j0 h) ?_ ?_ ?_
              · exact ⟨rfl, rfl, rfl, trivial⟩
              · exact ⟨mem_at 4 rfl, mem_at 0 rfl, mem_at 1 rfl, mem_at 2 rfl, mem_at 3 rfl, trivial⟩
              · rfl
          · refine (boolLit 40 rfl h9).2 ?_
            refine opSkip rfl ⟨_, rfl, .inl rfl⟩ rfl ?_
            refine opSkip rfl ⟨_, rfl, .inl rfl⟩ rfl ?_
            refine op0 (sp_pickF rfl rfl rfl) rfl ⟨_, rfl, rfl⟩ rfl rfl ?_
            refine op0 (sp_pickF rfl rfl rfl) rfl trivial rfl rfl ?_
            refine TL.nil ?_
            refine TC.condF rfl ?_
            refine subJ [] (ok_law11_RoundDays_j0 h) ?_ ?_ ?_
            · exact ⟨rfl, rfl, rfl, trivial⟩
            · exact ⟨mem_at 4 rfl, mem_at 0 rfl, mem_at 1 rfl, mem_at 2 rfl, mem_at 3 rfl, trivial⟩
            · rfl
    · refine (boolLit 26 rfl h4).2 ?_
      refine opSkip rfl ⟨_, rfl, .inl rfl⟩ rfl ?_
      refine opSkip rfl ⟨_, rfl, .inl rfl⟩ rfl ?_
      refine opSkip rfl ⟨_, rfl, .inl rfl⟩ rfl ?_
      refine op0 (sp_pickF rfl rfl rfl) rfl ⟨_, rfl, rfl⟩ rfl rfl ?_
      refine op0 (sp_pickF rfl rfl rfl) rfl trivial rfl rfl ?_
      refine op0 (sp_move rfl rfl) rfl trivial rfl rfl ?_
      refine op0 (sp_move rfl rfl) rfl ⟨_, rfl, rfl⟩ rfl rfl ?_
      refine op1 4 rfl (sp_lenM (N := l6.length) (len_map _ _) rfl rfl isRo Try.underlying27) rfl ⟨_, rfl, rfl⟩ rfl rfl ?_
      refine op0 (sp_gtr rfl rfl rfl) rfl ⟨_, rfl, rfl⟩ rfl rfl ?_
      refine op0 (sp_pickF rfl rfl rfl) rfl trivial rfl rfl ?_
      refine op0 (sp_move rfl rfl) rfl trivial rfl rfl ?_
      rcases cond_cases h with ⟨h84, h⟩ | ⟨h84, h⟩
      · refine (boolLit 37 rfl h84).2 ?_
        refine opSkip rfl ⟨_, rfl, .inl rfl⟩ rfl ?_
        refine opSkip rfl ⟨_, rfl, .inl rfl⟩ rfl ?_
        refine opSkip rfl ⟨_, rfl, .inl rfl⟩ rfl ?_
        refine opSkip rfl ⟨_, rfl, .inr rfl⟩ rfl ?_
        refine opSkip rfl ⟨_, rfl, .inr rfl⟩ rfl ?_
        refine opSkip rfl ⟨_, rfl, .inl rfl⟩ rfl ?_
        refine op0 (sp_pickT rfl rfl rfl) rfl trivial rfl rfl ?_
        refine TL.nil ?_
        refine TC.condT rfl ?_
        refine TC.seq ?_
        refine TC.region ?_
        obtain ⟨r60, h85, h⟩ := bind_inv h
        refine op0 (sp_call (avs := []) (need := []) (v := .val (.bool r60)) (news := []) rfl rfl rfl Try.call9 (atJ [] [] (fc_law11_known h85) rfl rfl) (.inl (roAll rfl))) rfl trivial rfl rfl ?_
        refine op0 (sp_assign rfl rfl) rfl trivial rfl rfl ?_
        refine TL.nil ?_
        cases h
        exact retJ [] (.tmp rfl .nil) rfl trivial rfl rfl
      · refine (boolLit 37 rfl h84).2 ?_
        refine op0 (sp_move rfl rfl) rfl ⟨_, rfl, rfl⟩ rfl rfl ?_
        refine op0 (sp_gtr rfl rfl rfl) rfl ⟨_, rfl, rfl⟩ rfl rfl ?_
        refine op0 (sp_move rfl rfl) rfl ⟨_, rfl, rfl⟩ rfl rfl ?_
        rcases cond_cases h with ⟨h86, h⟩ | ⟨h86, h⟩
        · refine (boolLit 40 rfl h86).2 ?_
          refine op0 (sp_move rfl rfl) rfl ⟨_, rfl, rfl⟩ rfl rfl ?_
          refine op0 (sp_leq rfl rfl rfl) rfl ⟨_, rfl, rfl⟩ rfl rfl ?_
          refine op0 (sp_pickT rfl rfl rfl) rfl ⟨_, rfl, rfl⟩ rfl rfl ?_
          refine op0 (sp_pickF rfl rfl rfl) rfl trivial rfl rfl ?_
          refine TL.nil ?_
          refine TC.cond (b := (decide (day7 ≤ 36524))) rfl (fun h87 => ?_) (fun h87 => ?_)
          · have h := cond_t h h87
            refine TC.seq ?_
            refine TC.region ?_
            obtain ⟨r61, h88, h⟩ := bind_inv h
            refine op0 (sp_call (avs := []) (need := []) (v := .val (.bool r61)) (news := []) rfl rfl rfl Try.call9 (atJ [] [] (fc_law11_known h88) rfl rfl) (.inl (roAll rfl))) rfl trivial rfl rfl ?_
            refine op0 (sp_assign rfl rfl) rfl trivial rfl rfl ?_
            refine TL.nil ?_
            cases h
            exact retJ [] (.tmp rfl .nil) rfl trivial rfl rfl
          · have h := cond_f h h87
            refine subJ [] (ok_law11_RoundDays_j0 h) ?_ ?_ ?_
            · exact ⟨rfl, rfl, rfl, trivial⟩
            · exact ⟨mem_at 4 rfl, mem_at 0 rfl, mem_at 1 rfl, mem_at 2 rfl, mem_at 3 rfl, trivial⟩
            · rfl
        · refine (boolLit 40 rfl h86).2 ?_
          refine opSkip rfl ⟨_, rfl, .inl rfl⟩ rfl ?_
          refine opSkip rfl ⟨_, rfl, .inl rfl⟩ rfl ?_
          refine op0 (sp_pickF rfl rfl rfl) rfl ⟨_, rfl, rfl⟩ rfl rfl ?_
          refine op0 (sp_pickF rfl rfl rfl) rfl trivial rfl rfl ?_
          refine TL.nil ?_
          refine TC.condF rfl ?_
          refine subJ [] (ok_law11_RoundDays_j0 h) ?_ ?_ ?_
          · exact ⟨rfl, rfl, rfl, trivial⟩
          · exact ⟨mem_at 4 rfl, mem_at 0 rfl, mem_at 1 rfl, mem_at 2 rfl, mem_at 3 rfl, trivial⟩
          · rfl
end
end Go.Proofs.Ytohjpfkcahlfkaa.Sy
