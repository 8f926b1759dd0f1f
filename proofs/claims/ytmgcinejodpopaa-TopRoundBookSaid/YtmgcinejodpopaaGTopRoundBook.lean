/- What functions of the program compute, and that they do: printed by symgen.py. -/
import Derived.Test.YtmgcinejodpopaaGLib
import Derived.Test.YtmgcinejodpopaaGBook
import Derived.Test.YtmgcinejodpopaaGRound
set_option linter.unusedSimpArgs false
set_option linter.unusedVariables false
namespace Go.Proofs.Ytmgcinejodpopaa.Sy
open Go.RowKit
noncomputable section

/- top_TopRoundBook -/
def ev_top_TopRoundBook_j8 (n : Nat) (l30 : List (Int × (List Int))) (l32 : List (Int × Int × Int × Int × Int)) (l33 : List ((List Int))) (l34 : List (Int × Int × Int × Int)) (i28 : Int) (i29 : Int) (i27 : Int) (l31 : List Int) (r6 : Int × Int × Int) (k_top_TopRoundBook_l6 : Int → Int → Int → (List (Int × (List Int))) → (List Int) → (List (Int × Int × Int × Int × Int)) → (List ((List Int))) → (List (Int × Int × Int × Int)) → Option Bool) (i35 : Int) : Option Bool :=
  chk (room 32 (([] : List (Int × (List Int))).length + l30.length)) <| (ev_round_Left n l32 l33 l34 i28 i29 (([] : List (Int × (List Int))) ++ l30) (min i27 80)).bind fun r36 => idx l31 i27 fun x37 => cond (x37 != i35) (some false) (cond (r36.2 != 0) (some false) (cond ((r36.1.length : Int) != 1) (some false) (cond (r6.1 == 0) (cond (i27 == r6.2.1) (idx r36.1 0 fun x38 => cond (x38 != 0) (some false) (chk (in64 (i27 + 1)) <| k_top_TopRoundBook_l6 (i27 + 1) i28 i29 l30 l31 l32 l33 l34)) (chk (in64 (i27 + 1)) <| k_top_TopRoundBook_l6 (i27 + 1) i28 i29 l30 l31 l32 l33 l34)) (chk (in64 (i27 + 1)) <| k_top_TopRoundBook_l6 (i27 + 1) i28 i29 l30 l31 l32 l33 l34))))
set_option maxRecDepth 100000 in
set_option maxHeartbeats 2000000 in
theorem ok_top_TopRoundBook_j8 {n : Nat} {w0 : World} {R0 : Nat → Prop} {env0 : Env} {r : Bool} {set_3 : Int} {r6 : Int × Int × Int} {i18 : Int} {l30 : List (Int × (List Int))} {l32 : List (Int × Int × Int × Int × Int)} {l33 : List ((List Int))} {l34 : List (Int × Int × Int × Int)} {i28 : Int} {i29 : Int} {i27 : Int} {l31 : List Int} {k_top_TopRoundBook_l6 : Int → Int → Int → (List (Int × (List Int))) → (List Int) → (List (Int × Int × Int × Int × Int)) → (List ((List Int))) → (List (Int × Int × Int × Int)) → Option Bool} {i35 : Int} (hk_top_TopRoundBook_l6 : ∀ (i27 : Int) (i28 : Int) (i29 : Int) (l30 : List (Int × (List Int))) (l31 : List Int) (l32 : List (Int × Int × Int × Int × Int)) (l33 : List ((List Int))) (l34 : List (Int × Int × Int × Int)), k_top_TopRoundBook_l6 i27 i28 i29 l30 l31 l32 l33 l34 = some r → TC Try.prog ⟨w0, fun _ => False, R0⟩ 206 (bodyPost Try.prog Try.f11 (Post ⟨w0, fun _ => False, R0⟩ env0 (.val (.bool r)) [])) [.code (sub (bodyOf Try.f11) [1, 1, 1, 1, 1, 1, 1, 1, 0, 1, 0, 0, 0, 0]), .code (sub (bodyOf Try.f11) [1, 1, 1, 1, 1, 1, 1, 1, 0, 1, 0, 0, 0, 1]), .code (sub (bodyOf Try.f11) [1, 1, 1, 1, 1, 1, 1, 1, 0, 1, 0, 0, 1]), .inLoop (sub (bodyOf Try.f11) [1, 1, 1, 1, 1, 1, 1, 1, 0, 1, 0, 0]), .inBlock 2, .code (sub (bodyOf Try.f11) [1, 1, 1, 1, 1, 1, 1, 1, 1])] ([(2, .val (.int .u16 set_3)), (7, .ptr 6 0), (8, .ref 5), (9, .val (.int .i64 r6.1)), (10, .val (.int .i64 r6.2.1)), (13, .val (.int .i64 i18)), (15, .ref 16), (17, .val (.int .i64 i27))]) ([.blk 6 [.ref 2, .ref 3, .ref 4, .val (.int .i64 i28), .val (.int .i64 i29)] 74, .row 5 147 2 (List.map en_api_RoundDay l30), .row 16 3 1 (List.map en_int l31), .row 2 218 5 (List.map en_api_RoundTower l32), .row 3 37 1 (List.map en_Lint l33), .row 4 213 4 (List.map en_api_RoundWinder l34)])) (h : ev_top_TopRoundBook_j8 n l30 l32 l33 l34 i28 i29 i27 l31 r6 k_top_TopRoundBook_l6 i35 = some r) : TC Try.prog ⟨w0, fun _ => False, R0⟩ 206 (bodyPost Try.prog Try.f11 (Post ⟨w0, fun _ => False, R0⟩ env0 (.val (.bool r)) [])) [.code (sub (bodyOf Try.f11) [1, 1, 1, 1, 1, 1, 1, 1, 0, 1, 0, 0, 1, 0, 0, 1, 1, 0]), .code (sub (bodyOf Try.f11) [1, 1, 1, 1, 1, 1, 1, 1, 0, 1, 0, 0, 1, 0, 0, 1, 1, 1]), .inBlock 3, .code (sub (bodyOf Try.f11) [1, 1, 1, 1, 1, 1, 1, 1, 0, 1, 0, 0, 1, 1]), .inLoop (sub (bodyOf Try.f11) [1, 1, 1, 1, 1, 1, 1, 1, 0, 1, 0, 0]), .inBlock 2, .code (sub (bodyOf Try.f11) [1, 1, 1, 1, 1, 1, 1, 1, 1])] ([(2, .val (.int .u16 set_3)), (7, .ptr 6 0), (8, .ref 5), (9, .val (.int .i64 r6.1)), (10, .val (.int .i64 r6.2.1)), (13, .val (.int .i64 i18)), (15, .ref 16), (17, .val (.int .i64 i27)), (18, .val (.int .i64 i35))]) ([.blk 6 [.ref 2, .ref 3, .ref 4, .val (.int .i64 i28), .val (.int .i64 i29)] 74, .row 5 147 2 (List.map en_api_RoundDay l30), .row 16 3 1 (List.map en_int l31), .row 2 218 5 (List.map en_api_RoundTower l32), .row 3 37 1 (List.map en_Lint l33), .row 4 213 4 (List.map en_api_RoundWinder l34)]) := by
  rw [ev_top_TopRoundBook_j8] at h
  obtain ⟨h46, h⟩ := chk_inv h
  obtain ⟨r36, h47, h⟩ := bind_inv h
  refine drawJ 11 [⟨.agg [.ref 2, .ref 3, .ref 4, .val (.int .i64 i28), .val (.int .i64 i29)], [], [.blk 6 [.ref 2, .ref 3, .ref 4, .val (.int .i64 i28), .val (.int .i64 i29)] 74], []⟩, ⟨.ref 17, [.row 17 147 2 (List.map en_api_RoundDay ([] : List (Int × (List Int))))], [], []⟩, ⟨.ref 5, [], [], []⟩, ⟨.ref 18, [.row 18 147 2 (List.map en_api_RoundDay (([] : List (Int × (List Int))) ++ l30))], [.row 5 147 2 (List.map en_api_RoundDay l30)], [.row 17 147 2 (List.map en_api_RoundDay ([] : List (Int × (List Int))))]⟩, ⟨.val (.int .i64 i27), [], [], []⟩, ⟨.val (.int .i64 (min i27 80)), [], [], []⟩, ⟨.tup [.ref 19, .val (.int .i64 r36.2)], [.row 19 3 1 (List.map en_int r36.1)], [.row 2 218 5 (List.map en_api_RoundTower l32), .row 3 37 1 (List.map en_Lint l33), .row 4 213 4 (List.map en_api_RoundWinder l34), .row 18 147 2 (List.map en_api_RoundDay (([] : List (Int × (List Int))) ++ l30))], []⟩, ⟨.tup [.ref 19, .val (.int .i64 r36.2)], [], [], []⟩, ⟨.ref 19, [], [], []⟩, ⟨.val (.int .i64 r36.2), [], [], []⟩, ⟨.ref 19, [], [], []⟩] rfl ?_ rfl ?_ rfl ?_ ?_
  · kernel_rfl
  · kernel_rfl
  · exact DAll.op' (sp_loadBA rfl isBlk rfl vt74 rfl rfl) trivial rfl (From.ok (ps := [(none, 0)]) ⟨⟨rfl, by kernel_rfl⟩, trivial⟩) (DAll.op' (sp_emptyM 17 (List.map en_api_RoundDay []) rfl rfl sl143) trivial rfl (From.ok (ps := []) trivial) (DAll.op' (sp_move rfl rfl) trivial rfl (From.ok (ps := []) trivial) (DAll.opT (ts_append (N := ([] : List (Int × (List Int))).length) (N2 := l30.length) 18 rfl rfl rfl isOwn rfl sl143 (len_map _ _) (len_map _ _) h46 (map_app _ _ _) rfl) trivial (From.ok (ps := [(some 1, 0)]) ⟨⟨_, rfl, by kernel_rfl, rfl, by kernel_rfl⟩, trivial⟩) (From.ok (ps := [(none, 1)]) ⟨⟨rfl, by kernel_rfl⟩, trivial⟩) (DAll.op' (sp_move rfl rfl) trivial rfl (From.ok (ps := []) trivial) (DAll.op' (sp_min rfl rfl rfl) trivial rfl (From.ok (ps := []) trivial) (DAll.op' (sp_call (avs := [.agg [.ref 2, .ref 3, .ref 4, .val (.int .i64 i28), .val (.int .i64 i29)], .ref 18, .val (.int .i64 (min i27 80))]) (need := [.row 2 218 5 (List.map en_api_RoundTower l32), .row 3 37 1 (List.map en_Lint l33), .row 4 213 4 (List.map en_api_RoundWinder l34), .row 18 147 2 (List.map en_api_RoundDay (([] : List (Int × (List Int))) ++ l30))]) (v := .tup [.ref 19, .val (.int .i64 r36.2)]) (news := [.row 19 3 1 (List.map en_int r36.1)]) rfl rfl rfl Try.call53 (atJ [(0, 2), (1, 3), (2, 4), (3, 18)] [(0, 19)] (fc_round_Left h47) rfl rfl) (.inr (List.forall_mem_cons.2 ⟨indep_map en_int_flat, (by simp)⟩))) trivial rfl (From.ok (ps := [(none, 3), (none, 4), (none, 5), (some 3, 0)]) ⟨⟨rfl, by kernel_rfl⟩, ⟨rfl, by kernel_rfl⟩, ⟨rfl, by kernel_rfl⟩, ⟨_, rfl, by kernel_rfl, rfl, by kernel_rfl⟩, trivial⟩) (DAll.op' (sp_move rfl rfl) trivial rfl (From.ok (ps := []) trivial) (DAll.op' (sp_extract rfl rfl rfl) trivial rfl (From.ok (ps := []) trivial) (DAll.op' (sp_extract rfl rfl rfl) trivial rfl (From.ok (ps := []) trivial) (DAll.op' (sp_assign rfl rfl) trivial rfl (From.ok (ps := []) trivial) (.nil)))))))))))
  refine op0 (sp_assign rfl rfl) rfl trivial rfl rfl ?_
  refine TL.nil ?_
  refine TC.seq ?_
  refine TC.region ?_
  refine op0 (sp_move rfl rfl) rfl trivial rfl rfl ?_
  refine op0 (sp_move rfl rfl) rfl trivial rfl rfl ?_
  obtain ⟨x37, h48, h49, h⟩ := idx_inv h
  refine op1 4 rfl (sp_indexS rfl rfl rfl isOwn sl37 h48 (map_get _ h49)) rfl trivial rfl rfl ?_
  refine op1 4 rfl (sp_loadR (i := (i27 : Int).toNat) (j := 0) rfl rfl isOwn vt3 rfl (map_get _ h49) rfl (.v (.nil)) (nodup_of_B rfl)) rfl trivial rfl rfl ?_
  refine op0 (sp_move rfl rfl) rfl trivial rfl rfl ?_
  refine op0 (sp_neq rfl rfl rfl) rfl trivial rfl rfl ?_
  refine op0 (sp_move rfl rfl) rfl trivial rfl rfl ?_
  rcases cond_cases h with ⟨h50, h⟩ | ⟨h50, h⟩
  · refine (boolLit 178 rfl h50).2 ?_
    refine opSkip rfl ⟨_, rfl, .inl rfl⟩ rfl ?_
    refine opSkip rfl ⟨_, rfl, .inl rfl⟩ rfl ?_
    refine op0 (sp_pickT rfl rfl rfl) rfl trivial rfl rfl ?_
    refine op0 (sp_move rfl rfl) rfl trivial rfl rfl ?_
    refine opSkip rfl ⟨_, rfl, .inl rfl⟩ rfl ?_
    refine opSkip rfl ⟨_, rfl, .inl rfl⟩ rfl ?_
    refine opSkip rfl ⟨_, rfl, .inl rfl⟩ rfl ?_
    refine op0 (sp_pickT rfl rfl rfl) rfl trivial rfl rfl ?_
    refine op0 (sp_move rfl rfl) rfl trivial rfl rfl ?_
    refine opSkip rfl ⟨_, rfl, .inl rfl⟩ rfl ?_
    refine opSkip rfl ⟨_, rfl, .inl rfl⟩ rfl ?_
    refine opSkip rfl ⟨_, rfl, .inl rfl⟩ rfl ?_
    refine opSkip rfl ⟨_, rfl, .inr rfl⟩ rfl ?_
    refine opSkip rfl ⟨_, rfl, .inr rfl⟩ rfl ?_
    refine opSkip rfl ⟨_, rfl, .inr rfl⟩ rfl ?_
    refine opSkip rfl ⟨_, rfl, .inl rfl⟩ rfl ?_
    refine opSkip rfl ⟨_, rfl, .inl rfl⟩ rfl ?_
    refine opSkip rfl ⟨_, rfl, .inr rfl⟩ rfl ?_
    refine opSkip rfl ⟨_, rfl, .inr rfl⟩ rfl ?_
    refine opSkip rfl ⟨_, rfl, .inr rfl⟩ rfl ?_
    refine opSkip rfl ⟨_, rfl, .inr rfl⟩ rfl ?_
    refine opSkip rfl ⟨_, rfl, .inl rfl⟩ rfl ?_
    refine op0 (sp_pickT rfl rfl rfl) rfl trivial rfl rfl ?_
    refine TL.nil ?_
    refine TC.condT rfl ?_
    refine TC.seq ?_
    refine TC.region ?_
    refine op0 (sp_assign rfl rfl) rfl trivial rfl rfl ?_
    refine TL.nil ?_
    cases h
    exact retJ [] (.tmp rfl .nil) rfl trivial rfl rfl
  · refine (boolLit 178 rfl h50).2 ?_
    refine op0 (sp_move rfl rfl) rfl ⟨_, rfl, rfl⟩ rfl rfl ?_
    refine op0 (sp_neq rfl rfl rfl) rfl ⟨_, rfl, rfl⟩ rfl rfl ?_
    refine op0 (sp_pickF rfl rfl rfl) rfl trivial rfl rfl ?_
    refine op0 (sp_move rfl rfl) rfl trivial rfl rfl ?_
    rcases cond_cases h with ⟨h51, h⟩ | ⟨h51, h⟩
    · refine (boolLit 182 rfl h51).2 ?_
      refine opSkip rfl ⟨_, rfl, .inl rfl⟩ rfl ?_
      refine opSkip rfl ⟨_, rfl, .inl rfl⟩ rfl ?_
      refine opSkip rfl ⟨_, rfl, .inl rfl⟩ rfl ?_
      refine op0 (sp_pickT rfl rfl rfl) rfl trivial rfl rfl ?_
      refine op0 (sp_move rfl rfl) rfl trivial rfl rfl ?_
      refine opSkip rfl ⟨_, rfl, .inl rfl⟩ rfl ?_
      refine opSkip rfl ⟨_, rfl, .inl rfl⟩ rfl ?_
      refine opSkip rfl ⟨_, rfl, .inl rfl⟩ rfl ?_
      refine opSkip rfl ⟨_, rfl, .inr rfl⟩ rfl ?_
      refine opSkip rfl ⟨_, rfl, .inr rfl⟩ rfl ?_
      refine opSkip rfl ⟨_, rfl, .inr rfl⟩ rfl ?_
      refine opSkip rfl ⟨_, rfl, .inl rfl⟩ rfl ?_
      refine opSkip rfl ⟨_, rfl, .inl rfl⟩ rfl ?_
      refine opSkip rfl ⟨_, rfl, .inr rfl⟩ rfl ?_
      refine opSkip rfl ⟨_, rfl, .inr rfl⟩ rfl ?_
      refine opSkip rfl ⟨_, rfl, .inr rfl⟩ rfl ?_
      refine opSkip rfl ⟨_, rfl, .inr rfl⟩ rfl ?_
      refine opSkip rfl ⟨_, rfl, .inl rfl⟩ rfl ?_
      refine op0 (sp_pickT rfl rfl rfl) rfl trivial rfl rfl ?_
      refine TL.nil ?_
      refine TC.condT rfl ?_
      refine TC.seq ?_
      refine TC.region ?_
      refine op0 (sp_assign rfl rfl) rfl trivial rfl rfl ?_
      refine TL.nil ?_
      cases h
      exact retJ [] (.tmp rfl .nil) rfl trivial rfl rfl
    · refine (boolLit 182 rfl h51).2 ?_
      refine op0 (sp_move rfl rfl) rfl ⟨_, rfl, rfl⟩ rfl rfl ?_
      refine op1 0 rfl (sp_lenM (N := r36.1.length) (len_map _ _) rfl rfl isOwn Try.underlying37) rfl ⟨_, rfl, rfl⟩ rfl rfl ?_
      refine op0 (sp_neq rfl rfl rfl) rfl ⟨_, rfl, rfl⟩ rfl rfl ?_
      refine op0 (sp_pickF rfl rfl rfl) rfl trivial rfl rfl ?_
      refine op0 (sp_move rfl rfl) rfl trivial rfl rfl ?_
      rcases cond_cases h with ⟨h52, h⟩ | ⟨h52, h⟩
      · refine (boolLit 187 rfl h52).2 ?_
        refine opSkip rfl ⟨_, rfl, .inl rfl⟩ rfl ?_
        refine opSkip rfl ⟨_, rfl, .inl rfl⟩ rfl ?_
        refine opSkip rfl ⟨_, rfl, .inl rfl⟩ rfl ?_
        refine opSkip rfl ⟨_, rfl, .inr rfl⟩ rfl ?_
        refine opSkip rfl ⟨_, rfl, .inr rfl⟩ rfl ?_
        refine opSkip rfl ⟨_, rfl, .inr rfl⟩ rfl ?_
        refine opSkip rfl ⟨_, rfl, .inl rfl⟩ rfl ?_
        refine opSkip rfl ⟨_, rfl, .inl rfl⟩ rfl ?_
        refine opSkip rfl ⟨_, rfl, .inr rfl⟩ rfl ?_
        refine opSkip rfl ⟨_, rfl, .inr rfl⟩ rfl ?_
        refine opSkip rfl ⟨_, rfl, .inr rfl⟩ rfl ?_
        refine opSkip rfl ⟨_, rfl, .inr rfl⟩ rfl ?_
        refine opSkip rfl ⟨_, rfl, .inl rfl⟩ rfl ?_
        refine op0 (sp_pickT rfl rfl rfl) rfl trivial rfl rfl ?_
        refine TL.nil ?_
        refine TC.condT rfl ?_
        refine TC.seq ?_
        refine TC.region ?_
        refine op0 (sp_assign rfl rfl) rfl trivial rfl rfl ?_
        refine TL.nil ?_
        cases h
        exact retJ [] (.tmp rfl .nil) rfl trivial rfl rfl
      · refine (boolLit 187 rfl h52).2 ?_
        refine op0 (sp_move rfl rfl) rfl ⟨_, rfl, rfl⟩ rfl rfl ?_
        refine op0 (sp_eql rfl rfl rfl) rfl ⟨_, rfl, rfl⟩ rfl rfl ?_
        refine op0 (sp_move rfl rfl) rfl ⟨_, rfl, rfl⟩ rfl rfl ?_
        rcases cond_cases h with ⟨h53, h⟩ | ⟨h53, h⟩
        · refine (boolLit 190 rfl h53).2 ?_
          refine op0 (sp_move rfl rfl) rfl ⟨_, rfl, rfl⟩ rfl rfl ?_
          refine op0 (sp_move rfl rfl) rfl ⟨_, rfl, rfl⟩ rfl rfl ?_
          refine op0 (sp_eql rfl rfl rfl) rfl ⟨_, rfl, rfl⟩ rfl rfl ?_
          refine op0 (sp_pickT rfl rfl rfl) rfl ⟨_, rfl, rfl⟩ rfl rfl ?_
          refine op0 (sp_move rfl rfl) rfl ⟨_, rfl, rfl⟩ rfl rfl ?_
          rcases cond_cases h with ⟨h54, h⟩ | ⟨h54, h⟩
          · refine (boolLit 195 rfl h54).2 ?_
            refine op0 (sp_move rfl rfl) rfl ⟨_, rfl, rfl⟩ rfl rfl ?_
            obtain ⟨x38, h55, h56, h⟩ := idx_inv h
            refine op1 0 rfl (sp_indexS rfl rfl rfl isOwn sl37 h55 (map_get _ h56)) rfl ⟨_, rfl, rfl⟩ rfl rfl ?_
            refine op1 0 rfl (sp_loadR (i := (0 : Int).toNat) (j := 0) rfl rfl isOwn vt3 rfl (map_get _ h56) rfl (.v (.nil)) (nodup_of_B rfl)) rfl ⟨_, rfl, rfl⟩ rfl rfl ?_
            refine op0 (sp_neq rfl rfl rfl) rfl ⟨_, rfl, rfl⟩ rfl rfl ?_
            refine op0 (sp_pickT rfl rfl rfl) rfl ⟨_, rfl, rfl⟩ rfl rfl ?_
            refine op0 (sp_pickF rfl rfl rfl) rfl trivial rfl rfl ?_
            refine TL.nil ?_
            refine TC.cond (b := (x38 != 0)) rfl (fun h57 => ?_) (fun h57 => ?_)
            · have h := cond_t h h57
              refine TC.seq ?_
              refine TC.region ?_
              refine op0 (sp_assign rfl rfl) rfl trivial rfl rfl ?_
              refine TL.nil ?_
              cases h
              exact retJ [] (.tmp rfl .nil) rfl trivial rfl rfl
            · have h := cond_f h h57
              refine TC.skip ?_
              refine TC.inBlock ?_
              refine TC.region ?_
              refine op0 (sp_move rfl rfl) rfl trivial rfl rfl ?_
              obtain ⟨h58, h⟩ := chk_inv h
              refine op0 (sp_add rfl rfl rfl h58) rfl trivial rfl rfl ?_
              refine op0 (sp_assign rfl rfl) rfl trivial rfl rfl ?_
              refine TL.nil ?_
              refine TC.inLoop ?_
              refine TC.seq ?_
              refine TC.seq ?_
              refine subJ [] (hk_top_TopRoundBook_l6 _ _ _ _ _ _ _ _ h) ?_ ?_ ?_
              · exact ⟨rfl, rfl, rfl, rfl, rfl, rfl, rfl, rfl, trivial⟩
              · exact ⟨mem_at 2 rfl, mem_at 3 rfl, mem_at 4 rfl, mem_at 5 rfl, mem_at 6 rfl, mem_at 7 rfl, trivial⟩
              · rfl
          · refine (boolLit 195 rfl h54).2 ?_
            refine opSkip rfl ⟨_, rfl, .inl rfl⟩ rfl ?_
            refine opSkip rfl ⟨_, rfl, .inl rfl⟩ rfl ?_
            refine opSkip rfl ⟨_, rfl, .inl rfl⟩ rfl ?_
            refine opSkip rfl ⟨_, rfl, .inl rfl⟩ rfl ?_
            refine op0 (sp_pickF rfl rfl rfl) rfl ⟨_, rfl, rfl⟩ rfl rfl ?_
            refine op0 (sp_pickF rfl rfl rfl) rfl trivial rfl rfl ?_
            refine TL.nil ?_
            refine TC.condF rfl ?_
            refine TC.skip ?_
            refine TC.inBlock ?_
            refine TC.region ?_
            refine op0 (sp_move rfl rfl) rfl trivial rfl rfl ?_
            obtain ⟨h59, h⟩ := chk_inv h
            refine op0 (sp_add rfl rfl rfl h59) rfl trivial rfl rfl ?_
            refine op0 (sp_assign rfl rfl) rfl trivial rfl rfl ?_
            refine TL.nil ?_
            refine TC.inLoop ?_
            refine TC.seq ?_
            refine TC.seq ?_
            refine subJ [] (hk_top_TopRoundBook_l6 _ _ _ _ _ _ _ _ h) ?_ ?_ ?_
            · exact ⟨rfl, rfl, rfl, rfl, rfl, rfl, rfl, rfl, trivial⟩
            · exact ⟨mem_at 2 rfl, mem_at 3 rfl, mem_at 4 rfl, mem_at 5 rfl, mem_at 6 rfl, mem_at 7 rfl, trivial⟩
            · rfl
        · refine (boolLit 190 rfl h53).2 ?_
          refine opSkip rfl ⟨_, rfl, .inl rfl⟩ rfl ?_
          refine opSkip rfl ⟨_, rfl, .inl rfl⟩ rfl ?_
          refine opSkip rfl ⟨_, rfl, .inl rfl⟩ rfl ?_
          refine op0 (sp_pickF rfl rfl rfl) rfl ⟨_, rfl, rfl⟩ rfl rfl ?_
          refine op0 (sp_move rfl rfl) rfl ⟨_, rfl, rfl⟩ rfl rfl ?_
          refine opSkip rfl ⟨_, rfl, .inl rfl⟩ rfl ?_
          refine opSkip rfl ⟨_, rfl, .inl rfl⟩ rfl ?_
          refine opSkip rfl ⟨_, rfl, .inl rfl⟩ rfl ?_
          refine opSkip rfl ⟨_, rfl, .inl rfl⟩ rfl ?_
          refine op0 (sp_pickF rfl rfl rfl) rfl ⟨_, rfl, rfl⟩ rfl rfl ?_
          refine op0 (sp_pickF rfl rfl rfl) rfl trivial rfl rfl ?_
          refine TL.nil ?_
          refine TC.condF rfl ?_
          refine TC.skip ?_
          refine TC.inBlock ?_
          refine TC.region ?_
          refine op0 (sp_move rfl rfl) rfl trivial rfl rfl ?_
          obtain ⟨h60, h⟩ := chk_inv h
          refine op0 (sp_add rfl rfl rfl h60) rfl trivial rfl rfl ?_
          refine op0 (sp_assign rfl rfl) rfl trivial rfl rfl ?_
          refine TL.nil ?_
          refine TC.inLoop ?_
          refine TC.seq ?_
          refine TC.seq ?_
          refine subJ [] (hk_top_TopRoundBook_l6 _ _ _ _ _ _ _ _ h) ?_ ?_ ?_
          · exact ⟨rfl, rfl, rfl, rfl, rfl, rfl, rfl, rfl, trivial⟩
          · exact ⟨mem_at 2 rfl, mem_at 3 rfl, mem_at 4 rfl, mem_at 5 rfl, mem_at 6 rfl, mem_at 7 rfl, trivial⟩
          · rfl
def ev_top_TopRoundBook_j7 (n : Nat) (set_3 : Int) (l30 : List (Int × (List Int))) (l32 : List (Int × Int × Int × Int × Int)) (l33 : List ((List Int))) (l34 : List (Int × Int × Int × Int)) (i28 : Int) (i29 : Int) (i27 : Int) (l31 : List Int) (r6 : Int × Int × Int) (k_top_TopRoundBook_l6 : Int → Int → Int → (List (Int × (List Int))) → (List Int) → (List (Int × Int × Int × Int × Int)) → (List ((List Int))) → (List (Int × Int × Int × Int)) → Option Bool) : Option Bool :=
  chk (in64 set_3) <| chk (in64 ((1000 : Int) * (Int.tmod set_3 43200))) <| ev_top_TopRoundBook_j8 n l30 l32 l33 l34 i28 i29 i27 l31 r6 k_top_TopRoundBook_l6 ((1000 : Int) * (Int.tmod set_3 43200))
set_option maxRecDepth 100000 in
set_option maxHeartbeats 2000000 in
theorem ok_top_TopRoundBook_j7 {n : Nat} {w0 : World} {R0 : Nat → Prop} {env0 : Env} {r : Bool} {set_3 : Int} {r6 : Int × Int × Int} {i18 : Int} {l30 : List (Int × (List Int))} {l32 : List (Int × Int × Int × Int × Int)} {l33 : List ((List Int))} {l34 : List (Int × Int × Int × Int)} {i28 : Int} {i29 : Int} {i27 : Int} {l31 : List Int} {k_top_TopRoundBook_l6 : Int → Int → Int → (List (Int × (List Int))) → (List Int) → (List (Int × Int × Int × Int × Int)) → (List ((List Int))) → (List (Int × Int × Int × Int)) → Option Bool} (hk_top_TopRoundBook_l6 : ∀ (i27 : Int) (i28 : Int) (i29 : Int) (l30 : List (Int × (List Int))) (l31 : List Int) (l32 : List (Int × Int × Int × Int × Int)) (l33 : List ((List Int))) (l34 : List (Int × Int × Int × Int)), k_top_TopRoundBook_l6 i27 i28 i29 l30 l31 l32 l33 l34 = some r → TC Try.prog ⟨w0, fun _ => False, R0⟩ 206 (bodyPost Try.prog Try.f11 (Post ⟨w0, fun _ => False, R0⟩ env0 (.val (.bool r)) [])) [.code (sub (bodyOf Try.f11) [1, 1, 1, 1, 1, 1, 1, 1, 0, 1, 0, 0, 0, 0]), .code (sub (bodyOf Try.f11) [1, 1, 1, 1, 1, 1, 1, 1, 0, 1, 0, 0, 0, 1]), .code (sub (bodyOf Try.f11) [1, 1, 1, 1, 1, 1, 1, 1, 0, 1, 0, 0, 1]), .inLoop (sub (bodyOf Try.f11) [1, 1, 1, 1, 1, 1, 1, 1, 0, 1, 0, 0]), .inBlock 2, .code (sub (bodyOf Try.f11) [1, 1, 1, 1, 1, 1, 1, 1, 1])] ([(2, .val (.int .u16 set_3)), (7, .ptr 6 0), (8, .ref 5), (9, .val (.int .i64 r6.1)), (10, .val (.int .i64 r6.2.1)), (13, .val (.int .i64 i18)), (15, .ref 16), (17, .val (.int .i64 i27))]) ([.blk 6 [.ref 2, .ref 3, .ref 4, .val (.int .i64 i28), .val (.int .i64 i29)] 74, .row 5 147 2 (List.map en_api_RoundDay l30), .row 16 3 1 (List.map en_int l31), .row 2 218 5 (List.map en_api_RoundTower l32), .row 3 37 1 (List.map en_Lint l33), .row 4 213 4 (List.map en_api_RoundWinder l34)])) (h : ev_top_TopRoundBook_j7 n set_3 l30 l32 l33 l34 i28 i29 i27 l31 r6 k_top_TopRoundBook_l6 = some r) : TC Try.prog ⟨w0, fun _ => False, R0⟩ 206 (bodyPost Try.prog Try.f11 (Post ⟨w0, fun _ => False, R0⟩ env0 (.val (.bool r)) [])) [.code (sub (bodyOf Try.f11) [1, 1, 1, 1, 1, 1, 1, 1, 0, 1, 0, 0, 1, 0, 0, 1, 0, 1, 0]), .code (sub (bodyOf Try.f11) [1, 1, 1, 1, 1, 1, 1, 1, 0, 1, 0, 0, 1, 0, 0, 1, 1]), .inBlock 3, .code (sub (bodyOf Try.f11) [1, 1, 1, 1, 1, 1, 1, 1, 0, 1, 0, 0, 1, 1]), .inLoop (sub (bodyOf Try.f11) [1, 1, 1, 1, 1, 1, 1, 1, 0, 1, 0, 0]), .inBlock 2, .code (sub (bodyOf Try.f11) [1, 1, 1, 1, 1, 1, 1, 1, 1])] ([(2, .val (.int .u16 set_3)), (7, .ptr 6 0), (8, .ref 5), (9, .val (.int .i64 r6.1)), (10, .val (.int .i64 r6.2.1)), (13, .val (.int .i64 i18)), (15, .ref 16), (17, .val (.int .i64 i27))]) ([.blk 6 [.ref 2, .ref 3, .ref 4, .val (.int .i64 i28), .val (.int .i64 i29)] 74, .row 5 147 2 (List.map en_api_RoundDay l30), .row 16 3 1 (List.map en_int l31), .row 2 218 5 (List.map en_api_RoundTower l32), .row 3 37 1 (List.map en_Lint l33), .row 4 213 4 (List.map en_api_RoundWinder l34)]) := by
  rw [ev_top_TopRoundBook_j7] at h
  refine TC.region ?_
  refine op0 (sp_move rfl rfl) rfl trivial rfl rfl ?_
  obtain ⟨h44, h⟩ := chk_inv h
  refine op0 (sp_conv rfl Try.underlying22 Try.underlying3 rfl h44) rfl trivial rfl rfl ?_
  refine op0 (sp_rem rfl rfl rfl (by decide)) rfl trivial rfl rfl ?_
  obtain ⟨h45, h⟩ := chk_inv h
  refine op0 (sp_mul rfl rfl rfl h45) rfl trivial rfl rfl ?_
  refine op0 (sp_assign rfl rfl) rfl trivial rfl rfl ?_
  refine TL.nil ?_
  refine TC.seq ?_
  refine subJ [] (ok_top_TopRoundBook_j8 (set_3 := set_3) (i18 := i18) hk_top_TopRoundBook_l6 h) ?_ ?_ ?_
  · exact ⟨rfl, rfl, rfl, rfl, rfl, rfl, rfl, rfl, rfl, trivial⟩
  · exact ⟨mem_at 0 rfl, mem_at 1 rfl, mem_at 2 rfl, mem_at 3 rfl, mem_at 4 rfl, mem_at 5 rfl, trivial⟩
  · rfl
def ev_top_TopRoundBook_j9 (n : Nat) (l30 : List (Int × (List Int))) (l32 : List (Int × Int × Int × Int × Int)) (l33 : List ((List Int))) (l34 : List (Int × Int × Int × Int)) (i28 : Int) (i29 : Int) (i27 : Int) (l31 : List Int) (r6 : Int × Int × Int) (k_top_TopRoundBook_l6 : Int → Int → Int → (List (Int × (List Int))) → (List Int) → (List (Int × Int × Int × Int × Int)) → (List ((List Int))) → (List (Int × Int × Int × Int)) → Option Bool) : Option Bool :=
  ev_top_TopRoundBook_j8 n l30 l32 l33 l34 i28 i29 i27 l31 r6 k_top_TopRoundBook_l6 0
set_option maxRecDepth 100000 in
set_option maxHeartbeats 2000000 in
theorem ok_top_TopRoundBook_j9 {n : Nat} {w0 : World} {R0 : Nat → Prop} {env0 : Env} {r : Bool} {set_3 : Int} {r6 : Int × Int × Int} {i18 : Int} {l30 : List (Int × (List Int))} {l32 : List (Int × Int × Int × Int × Int)} {l33 : List ((List Int))} {l34 : List (Int × Int × Int × Int)} {i28 : Int} {i29 : Int} {i27 : Int} {l31 : List Int} {k_top_TopRoundBook_l6 : Int → Int → Int → (List (Int × (List Int))) → (List Int) → (List (Int × Int × Int × Int × Int)) → (List ((List Int))) → (List (Int × Int × Int × Int)) → Option Bool} (hk_top_TopRoundBook_l6 : ∀ (i27 : Int) (i28 : Int) (i29 : Int) (l30 : List (Int × (List Int))) (l31 : List Int) (l32 : List (Int × Int × Int × Int × Int)) (l33 : List ((List Int))) (l34 : List (Int × Int × Int × Int)), k_top_TopRoundBook_l6 i27 i28 i29 l30 l31 l32 l33 l34 = some r → TC Try.prog ⟨w0, fun _ => False, R0⟩ 206 (bodyPost Try.prog Try.f11 (Post ⟨w0, fun _ => False, R0⟩ env0 (.val (.bool r)) [])) [.code (sub (bodyOf Try.f11) [1, 1, 1, 1, 1, 1, 1, 1, 0, 1, 0, 0, 0, 0]), .code (sub (bodyOf Try.f11) [1, 1, 1, 1, 1, 1, 1, 1, 0, 1, 0, 0, 0, 1]), .code (sub (bodyOf Try.f11) [1, 1, 1, 1, 1, 1, 1, 1, 0, 1, 0, 0, 1]), .inLoop (sub (bodyOf Try.f11) [1, 1, 1, 1, 1, 1, 1, 1, 0, 1, 0, 0]), .inBlock 2, .code (sub (bodyOf Try.f11) [1, 1, 1, 1, 1, 1, 1, 1, 1])] ([(2, .val (.int .u16 set_3)), (7, .ptr 6 0), (8, .ref 5), (9, .val (.int .i64 r6.1)), (10, .val (.int .i64 r6.2.1)), (13, .val (.int .i64 i18)), (15, .ref 16), (17, .val (.int .i64 i27))]) ([.blk 6 [.ref 2, .ref 3, .ref 4, .val (.int .i64 i28), .val (.int .i64 i29)] 74, .row 5 147 2 (List.map en_api_RoundDay l30), .row 16 3 1 (List.map en_int l31), .row 2 218 5 (List.map en_api_RoundTower l32), .row 3 37 1 (List.map en_Lint l33), .row 4 213 4 (List.map en_api_RoundWinder l34)])) (h : ev_top_TopRoundBook_j9 n l30 l32 l33 l34 i28 i29 i27 l31 r6 k_top_TopRoundBook_l6 = some r) : TC Try.prog ⟨w0, fun _ => False, R0⟩ 206 (bodyPost Try.prog Try.f11 (Post ⟨w0, fun _ => False, R0⟩ env0 (.val (.bool r)) [])) [.code (sub (bodyOf Try.f11) [1, 1, 1, 1, 1, 1, 1, 1, 0, 1, 0, 0, 1, 0, 0, 1, 0, 1, 1]), .code (sub (bodyOf Try.f11) [1, 1, 1, 1, 1, 1, 1, 1, 0, 1, 0, 0, 1, 0, 0, 1, 1]), .inBlock 3, .code (sub (bodyOf Try.f11) [1, 1, 1, 1, 1, 1, 1, 1, 0, 1, 0, 0, 1, 1]), .inLoop (sub (bodyOf Try.f11) [1, 1, 1, 1, 1, 1, 1, 1, 0, 1, 0, 0]), .inBlock 2, .code (sub (bodyOf Try.f11) [1, 1, 1, 1, 1, 1, 1, 1, 1])] ([(2, .val (.int .u16 set_3)), (7, .ptr 6 0), (8, .ref 5), (9, .val (.int .i64 r6.1)), (10, .val (.int .i64 r6.2.1)), (13, .val (.int .i64 i18)), (15, .ref 16), (17, .val (.int .i64 i27)), (18, .val (.int .i64 0))]) ([.blk 6 [.ref 2, .ref 3, .ref 4, .val (.int .i64 i28), .val (.int .i64 i29)] 74, .row 5 147 2 (List.map en_api_RoundDay l30), .row 16 3 1 (List.map en_int l31), .row 2 218 5 (List.map en_api_RoundTower l32), .row 3 37 1 (List.map en_Lint l33), .row 4 213 4 (List.map en_api_RoundWinder l34)]) := by
  rw [ev_top_TopRoundBook_j9] at h
  refine TC.skip ?_
  refine TC.seq ?_
  refine subJ [] (ok_top_TopRoundBook_j8 (set_3 := set_3) (i18 := i18) hk_top_TopRoundBook_l6 h) ?_ ?_ ?_
  · exact ⟨rfl, rfl, rfl, rfl, rfl, rfl, rfl, rfl, rfl, trivial⟩
  · exact ⟨mem_at 0 rfl, mem_at 1 rfl, mem_at 2 rfl, mem_at 3 rfl, mem_at 4 rfl, mem_at 5 rfl, trivial⟩
  · rfl
def ev_top_TopRoundBook_l6 (n : Nat) (r6 : Int × Int × Int) (i18 : Int) (set_3 : Int) : Nat → Int → Int → Int → (List (Int × (List Int))) → (List Int) → (List (Int × Int × Int × Int × Int)) → (List ((List Int))) → (List (Int × Int × Int × Int)) → Option Bool
  | 0, _, _, _, _, _, _, _, _ => none
  | m + 1, i27, i28, i29, l30, l31, l32, l33, l34 => cond (decide (i27 < 82)) (cond (r6.1 == 0) (cond (decide (r6.2.1 < i27)) (cond (decide (i27 ≤ i18)) (chk (in64 (r6.2.1 + 1)) <| cond (decide ((r6.2.1 + 1) < i18)) (ev_top_TopRoundBook_j7 n set_3 l30 l32 l33 l34 i28 i29 i27 l31 r6 (fun i27q i28q i29q l30q l31q l32q l33q l34q => ev_top_TopRoundBook_l6 n r6 i18 set_3 m i27q i28q i29q l30q l31q l32q l33q l34q)) (ev_top_TopRoundBook_j9 n l30 l32 l33 l34 i28 i29 i27 l31 r6 (fun i27q i28q i29q l30q l31q l32q l33q l34q => ev_top_TopRoundBook_l6 n r6 i18 set_3 m i27q i28q i29q l30q l31q l32q l33q l34q))) (ev_top_TopRoundBook_j9 n l30 l32 l33 l34 i28 i29 i27 l31 r6 (fun i27q i28q i29q l30q l31q l32q l33q l34q => ev_top_TopRoundBook_l6 n r6 i18 set_3 m i27q i28q i29q l30q l31q l32q l33q l34q))) (ev_top_TopRoundBook_j9 n l30 l32 l33 l34 i28 i29 i27 l31 r6 (fun i27q i28q i29q l30q l31q l32q l33q l34q => ev_top_TopRoundBook_l6 n r6 i18 set_3 m i27q i28q i29q l30q l31q l32q l33q l34q))) (ev_top_TopRoundBook_j9 n l30 l32 l33 l34 i28 i29 i27 l31 r6 (fun i27q i28q i29q l30q l31q l32q l33q l34q => ev_top_TopRoundBook_l6 n r6 i18 set_3 m i27q i28q i29q l30q l31q l32q l33q l34q))) ((ev_top_pubRound n).bind fun r39 => cond r39 ((ev_top_pubBook n).bind fun r40 => some r40) (some false))
set_option maxRecDepth 100000 in
set_option maxHeartbeats 2000000 in
theorem ok_top_TopRoundBook_l6 {n : Nat} {w0 : World} {R0 : Nat → Prop} {env0 : Env} {r : Bool} {set_3 : Int} {r6 : Int × Int × Int} {i18 : Int} : ∀ (m : Nat) (i27 : Int) (i28 : Int) (i29 : Int) (l30 : List (Int × (List Int))) (l31 : List Int) (l32 : List (Int × Int × Int × Int × Int)) (l33 : List ((List Int))) (l34 : List (Int × Int × Int × Int)), ev_top_TopRoundBook_l6 n r6 i18 set_3 m i27 i28 i29 l30 l31 l32 l33 l34 = some r → TC Try.prog ⟨w0, fun _ => False, R0⟩ 206 (bodyPost Try.prog Try.f11 (Post ⟨w0, fun _ => False, R0⟩ env0 (.val (.bool r)) [])) [.code (sub (bodyOf Try.f11) [1, 1, 1, 1, 1, 1, 1, 1, 0, 1, 0, 0, 0, 0]), .code (sub (bodyOf Try.f11) [1, 1, 1, 1, 1, 1, 1, 1, 0, 1, 0, 0, 0, 1]), .code (sub (bodyOf Try.f11) [1, 1, 1, 1, 1, 1, 1, 1, 0, 1, 0, 0, 1]), .inLoop (sub (bodyOf Try.f11) [1, 1, 1, 1, 1, 1, 1, 1, 0, 1, 0, 0]), .inBlock 2, .code (sub (bodyOf Try.f11) [1, 1, 1, 1, 1, 1, 1, 1, 1])] ([(2, .val (.int .u16 set_3)), (7, .ptr 6 0), (8, .ref 5), (9, .val (.int .i64 r6.1)), (10, .val (.int .i64 r6.2.1)), (13, .val (.int .i64 i18)), (15, .ref 16), (17, .val (.int .i64 i27))]) ([.blk 6 [.ref 2, .ref 3, .ref 4, .val (.int .i64 i28), .val (.int .i64 i29)] 74, .row 5 147 2 (List.map en_api_RoundDay l30), .row 16 3 1 (List.map en_int l31), .row 2 218 5 (List.map en_api_RoundTower l32), .row 3 37 1 (List.map en_Lint l33), .row 4 213 4 (List.map en_api_RoundWinder l34)]) := by
  intro m
  induction m with
  | zero => intro i27 i28 i29 l30 l31 l32 l33 l34 h; exact none_no h
  | succ m ih =>
    intro i27 i28 i29 l30 l31 l32 l33 l34 h
    rw [ev_top_TopRoundBook_l6] at h
    refine TC.region ?_
    refine op0 (sp_move rfl rfl) rfl trivial rfl rfl ?_
    refine op0 (sp_lss rfl rfl rfl) rfl trivial rfl rfl ?_
    refine TL.nil ?_
    refine TC.cond (b := (decide (i27 < 82))) rfl (fun h38 => ?_) (fun h38 => ?_)
    · have h := cond_t h h38
      refine TC.skip ?_
      refine TC.seq ?_
      refine TC.block ?_
      refine TC.seq ?_
      refine TC.region ?_
      refine op0 (sp_assign rfl rfl) rfl trivial rfl rfl ?_
      refine TL.nil ?_
      refine TC.seq ?_
      refine TC.seq ?_
      refine TC.region ?_
      refine op0 (sp_move rfl rfl) rfl trivial rfl rfl ?_
      refine op0 (sp_eql rfl rfl rfl) rfl trivial rfl rfl ?_
      refine op0 (sp_move rfl rfl) rfl trivial rfl rfl ?_
      rcases cond_cases h with ⟨h39, h⟩ | ⟨h39, h⟩
      · refine (boolLit 142 rfl h39).2 ?_
        refine op0 (sp_move rfl rfl) rfl ⟨_, rfl, rfl⟩ rfl rfl ?_
        refine op0 (sp_move rfl rfl) rfl ⟨_, rfl, rfl⟩ rfl rfl ?_
        refine op0 (sp_gtr rfl rfl rfl) rfl ⟨_, rfl, rfl⟩ rfl rfl ?_
        refine op0 (sp_pickT rfl rfl rfl) rfl trivial rfl rfl ?_
        refine op0 (sp_move rfl rfl) rfl trivial rfl rfl ?_
        rcases cond_cases h with ⟨h40, h⟩ | ⟨h40, h⟩
        · refine (boolLit 147 rfl h40).2 ?_
          refine op0 (sp_move rfl rfl) rfl ⟨_, rfl, rfl⟩ rfl rfl ?_
          refine op0 (sp_move rfl rfl) rfl ⟨_, rfl, rfl⟩ rfl rfl ?_
          refine op0 (sp_leq rfl rfl rfl) rfl ⟨_, rfl, rfl⟩ rfl rfl ?_
          refine op0 (sp_pickT rfl rfl rfl) rfl trivial rfl rfl ?_
          refine op0 (sp_move rfl rfl) rfl trivial rfl rfl ?_
          rcases cond_cases h with ⟨h41, h⟩ | ⟨h41, h⟩
          · refine (boolLit 152 rfl h41).2 ?_
            refine op0 (sp_move rfl rfl) rfl ⟨_, rfl, rfl⟩ rfl rfl ?_
            refine op0 (sp_move rfl rfl) rfl ⟨_, rfl, rfl⟩ rfl rfl ?_
            obtain ⟨h42, h⟩ := chk_inv h
            refine op0 (sp_add rfl rfl rfl h42) rfl ⟨_, rfl, rfl⟩ rfl rfl ?_
            refine op0 (sp_gtr rfl rfl rfl) rfl ⟨_, rfl, rfl⟩ rfl rfl ?_
            refine op0 (sp_pickT rfl rfl rfl) rfl trivial rfl rfl ?_
            refine TL.nil ?_
            refine TC.cond (b := (decide ((r6.2.1 + 1) < i18))) rfl (fun h43 => ?_) (fun h43 => ?_)
            · have h := cond_t h h43
              refine subJ [] (ok_top_TopRoundBook_j7 (i18 := i18) ih h) ?_ ?_ ?_
              · exact ⟨rfl, rfl, rfl, rfl, rfl, rfl, rfl, rfl, trivial⟩
              · exact ⟨mem_at 0 rfl, mem_at 1 rfl, mem_at 2 rfl, mem_at 3 rfl, mem_at 4 rfl, mem_at 5 rfl, trivial⟩
              · rfl
            · have h := cond_f h h43
              refine subJ [] (ok_top_TopRoundBook_j9 (set_3 := set_3) (i18 := i18) ih h) ?_ ?_ ?_
              · exact ⟨rfl, rfl, rfl, rfl, rfl, rfl, rfl, rfl, rfl, trivial⟩
              · exact ⟨mem_at 0 rfl, mem_at 1 rfl, mem_at 2 rfl, mem_at 3 rfl, mem_at 4 rfl, mem_at 5 rfl, trivial⟩
              · rfl
          · refine (boolLit 152 rfl h41).2 ?_
            refine opSkip rfl ⟨_, rfl, .inl rfl⟩ rfl ?_
            refine opSkip rfl ⟨_, rfl, .inl rfl⟩ rfl ?_
            refine opSkip rfl ⟨_, rfl, .inl rfl⟩ rfl ?_
            refine opSkip rfl ⟨_, rfl, .inl rfl⟩ rfl ?_
            refine op0 (sp_pickF rfl rfl rfl) rfl trivial rfl rfl ?_
            refine TL.nil ?_
            refine TC.condF rfl ?_
            refine subJ [] (ok_top_TopRoundBook_j9 (set_3 := set_3) (i18 := i18) ih h) ?_ ?_ ?_
            · exact ⟨rfl, rfl, rfl, rfl, rfl, rfl, rfl, rfl, rfl, trivial⟩
            · exact ⟨mem_at 0 rfl, mem_at 1 rfl, mem_at 2 rfl, mem_at 3 rfl, mem_at 4 rfl, mem_at 5 rfl, trivial⟩
            · rfl
        · refine (boolLit 147 rfl h40).2 ?_
          refine opSkip rfl ⟨_, rfl, .inl rfl⟩ rfl ?_
          refine opSkip rfl ⟨_, rfl, .inl rfl⟩ rfl ?_
          refine opSkip rfl ⟨_, rfl, .inl rfl⟩ rfl ?_
          refine op0 (sp_pickF rfl rfl rfl) rfl trivial rfl rfl ?_
          refine op0 (sp_move rfl rfl) rfl trivial rfl rfl ?_
          refine opSkip rfl ⟨_, rfl, .inl rfl⟩ rfl ?_
          refine opSkip rfl ⟨_, rfl, .inl rfl⟩ rfl ?_
          refine opSkip rfl ⟨_, rfl, .inl rfl⟩ rfl ?_
          refine opSkip rfl ⟨_, rfl, .inl rfl⟩ rfl ?_
          refine op0 (sp_pickF rfl rfl rfl) rfl trivial rfl rfl ?_
          refine TL.nil ?_
          refine TC.condF rfl ?_
          refine subJ [] (ok_top_TopRoundBook_j9 (set_3 := set_3) (i18 := i18) ih h) ?_ ?_ ?_
          · exact ⟨rfl, rfl, rfl, rfl, rfl, rfl, rfl, rfl, rfl, trivial⟩
          · exact ⟨mem_at 0 rfl, mem_at 1 rfl, mem_at 2 rfl, mem_at 3 rfl, mem_at 4 rfl, mem_at 5 rfl, trivial⟩
          · rfl
      · refine (boolLit 142 rfl h39).2 ?_
        refine opSkip rfl ⟨_, rfl, .inl rfl⟩ rfl ?_
        refine opSkip rfl ⟨_, rfl, .inl rfl⟩ rfl ?_
        refine opSkip rfl ⟨_, rfl, .inl rfl⟩ rfl ?_
        refine op0 (sp_pickF rfl rfl rfl) rfl trivial rfl rfl ?_
        refine op0 (sp_move rfl rfl) rfl trivial rfl rfl ?_
        refine opSkip rfl ⟨_, rfl, .inl rfl⟩ rfl ?_
        refine opSkip rfl ⟨_, rfl, .inl rfl⟩ rfl ?_
        refine opSkip rfl ⟨_, rfl, .inl rfl⟩ rfl ?_
        refine op0 (sp_pickF rfl rfl rfl) rfl trivial rfl rfl ?_
        refine op0 (sp_move rfl rfl) rfl trivial rfl rfl ?_
        refine opSkip rfl ⟨_, rfl, .inl rfl⟩ rfl ?_
        refine opSkip rfl ⟨_, rfl, .inl rfl⟩ rfl ?_
        refine opSkip rfl ⟨_, rfl, .inl rfl⟩ rfl ?_
        refine opSkip rfl ⟨_, rfl, .inl rfl⟩ rfl ?_
        refine op0 (sp_pickF rfl rfl rfl) rfl trivial rfl rfl ?_
        refine TL.nil ?_
        refine TC.condF rfl ?_
        refine subJ [] (ok_top_TopRoundBook_j9 (set_3 := set_3) (i18 := i18) ih h) ?_ ?_ ?_
        · exact ⟨rfl, rfl, rfl, rfl, rfl, rfl, rfl, rfl, rfl, trivial⟩
        · exact ⟨mem_at 0 rfl, mem_at 1 rfl, mem_at 2 rfl, mem_at 3 rfl, mem_at 4 rfl, mem_at 5 rfl, trivial⟩
        · rfl
    · have h := cond_f h h38
      refine TC.exit rfl ?_
      refine TC.seq ?_
      refine TC.region ?_
      obtain ⟨r39, h61, h⟩ := bind_inv h
      refine op0 (sp_call (avs := []) (need := []) (v := .val (.bool r39)) (news := []) rfl rfl rfl Try.call28 (atJ [] [] (fc_top_pubRound h61) rfl rfl) (.inl (roAll rfl))) rfl trivial rfl rfl ?_
      refine op0 (sp_move rfl rfl) rfl trivial rfl rfl ?_
      rcases cond_cases h with ⟨h62, h⟩ | ⟨h62, h⟩
      · refine (boolLit 203 rfl h62).2 ?_
        obtain ⟨r40, h63, h⟩ := bind_inv h
        refine op0 (sp_call (avs := []) (need := []) (v := .val (.bool r40)) (news := []) rfl rfl rfl Try.call18 (atJ [] [] (fc_top_pubBook h63) rfl rfl) (.inl (roAll rfl))) rfl ⟨_, rfl, rfl⟩ rfl rfl ?_
        refine op0 (sp_pickT rfl rfl rfl) rfl trivial rfl rfl ?_
        refine op0 (sp_assign rfl rfl) rfl trivial rfl rfl ?_
        refine TL.nil ?_
        cases h
        exact retJ [] (.tmp rfl .nil) rfl trivial rfl rfl
      · refine (boolLit 203 rfl h62).2 ?_
        refine opSkip rfl ⟨_, rfl, .inl rfl⟩ rfl ?_
        refine op0 (sp_pickF rfl rfl rfl) rfl trivial rfl rfl ?_
        refine op0 (sp_assign rfl rfl) rfl trivial rfl rfl ?_
        refine TL.nil ?_
        cases h
        exact retJ [] (.tmp rfl .nil) rfl trivial rfl rfl
def ev_top_TopRoundBook_j5 (n : Nat) (r6 : Int × Int × Int) (i18 : Int) (set_3 : Int) (i19 : Int) (i20 : Int) (l21 : List (Int × (List Int))) (r26 : (List Int) × Int) (l23 : List (Int × Int × Int × Int × Int)) (l24 : List ((List Int))) (l25 : List (Int × Int × Int × Int)) : Option Bool :=
  ev_top_TopRoundBook_l6 n r6 i18 set_3 n 0 i19 i20 l21 r26.1 l23 l24 l25
set_option maxRecDepth 100000 in
set_option maxHeartbeats 2000000 in
theorem ok_top_TopRoundBook_j5 {n : Nat} {w0 : World} {R0 : Nat → Prop} {env0 : Env} {r : Bool} {set_3 : Int} {r6 : Int × Int × Int} {i18 : Int} {i19 : Int} {i20 : Int} {l21 : List (Int × (List Int))} {r26 : (List Int) × Int} {l23 : List (Int × Int × Int × Int × Int)} {l24 : List ((List Int))} {l25 : List (Int × Int × Int × Int)} (h : ev_top_TopRoundBook_j5 n r6 i18 set_3 i19 i20 l21 r26 l23 l24 l25 = some r) : TC Try.prog ⟨w0, fun _ => False, R0⟩ 206 (bodyPost Try.prog Try.f11 (Post ⟨w0, fun _ => False, R0⟩ env0 (.val (.bool r)) [])) [.code (sub (bodyOf Try.f11) [1, 1, 1, 1, 1, 1, 1, 0, 1, 1]), .code (sub (bodyOf Try.f11) [1, 1, 1, 1, 1, 1, 1, 1])] ([(2, .val (.int .u16 set_3)), (7, .ptr 6 0), (8, .ref 5), (9, .val (.int .i64 r6.1)), (10, .val (.int .i64 r6.2.1)), (13, .val (.int .i64 i18)), (15, .ref 16)]) ([.blk 6 [.ref 2, .ref 3, .ref 4, .val (.int .i64 i19), .val (.int .i64 i20)] 74, .row 5 147 2 (List.map en_api_RoundDay l21), .row 16 3 1 (List.map en_int r26.1), .row 2 218 5 (List.map en_api_RoundTower l23), .row 3 37 1 (List.map en_Lint l24), .row 4 213 4 (List.map en_api_RoundWinder l25)]) := by
  rw [ev_top_TopRoundBook_j5] at h
  refine TC.skip ?_
  refine TC.seq ?_
  refine TC.seq ?_
  refine TC.region ?_
  refine op0 (sp_assign rfl rfl) rfl trivial rfl rfl ?_
  refine TL.nil ?_
  refine TC.block ?_
  refine TC.loop ?_
  refine TC.seq ?_
  refine TC.seq ?_
  refine subJ [] (ok_top_TopRoundBook_l6 _ _ _ _ _ _ _ _ _ h) ?_ ?_ ?_
  · exact ⟨rfl, rfl, rfl, rfl, rfl, rfl, rfl, rfl, trivial⟩
  · exact ⟨mem_at 0 rfl, mem_at 1 rfl, mem_at 2 rfl, mem_at 3 rfl, mem_at 4 rfl, mem_at 5 rfl, trivial⟩
  · rfl
def ev_top_TopRoundBook_j4 (n : Nat) (r6 : Int × Int × Int) (set_3 : Int) (i18 : Int) (i19 : Int) (i20 : Int) (l21 : List (Int × (List Int))) (l22 : List (Int × Int × Int)) (l23 : List (Int × Int × Int × Int × Int)) (l24 : List ((List Int))) (l25 : List (Int × Int × Int × Int)) : Option Bool :=
  (ev_book_Noons n l22 0 82).bind fun r26 => cond (r26.2 != 0) (some false) (cond ((r26.1.length : Int) != 82) (some false) (ev_top_TopRoundBook_j5 n r6 i18 set_3 i19 i20 l21 r26 l23 l24 l25))
set_option maxRecDepth 100000 in
set_option maxHeartbeats 2000000 in
theorem ok_top_TopRoundBook_j4 {n : Nat} {w0 : World} {R0 : Nat → Prop} {env0 : Env} {r : Bool} {set_3 : Int} {r6 : Int × Int × Int} {i18 : Int} {i19 : Int} {i20 : Int} {l21 : List (Int × (List Int))} {l22 : List (Int × Int × Int)} {l23 : List (Int × Int × Int × Int × Int)} {l24 : List ((List Int))} {l25 : List (Int × Int × Int × Int)} (h : ev_top_TopRoundBook_j4 n r6 set_3 i18 i19 i20 l21 l22 l23 l24 l25 = some r) : TC Try.prog ⟨w0, fun _ => False, R0⟩ 206 (bodyPost Try.prog Try.f11 (Post ⟨w0, fun _ => False, R0⟩ env0 (.val (.bool r)) [])) [.code (sub (bodyOf Try.f11) [1, 1, 1, 1, 1, 1, 0]), .code (sub (bodyOf Try.f11) [1, 1, 1, 1, 1, 1, 1])] ([(2, .val (.int .u16 set_3)), (7, .ptr 6 0), (8, .ref 5), (9, .val (.int .i64 r6.1)), (10, .val (.int .i64 r6.2.1)), (12, .ref 15), (13, .val (.int .i64 i18))]) ([.blk 6 [.ref 2, .ref 3, .ref 4, .val (.int .i64 i19), .val (.int .i64 i20)] 74, .row 5 147 2 (List.map en_api_RoundDay l21), .row 15 35 3 (List.map en_api_BookEntry l22), .row 2 218 5 (List.map en_api_RoundTower l23), .row 3 37 1 (List.map en_Lint l24), .row 4 213 4 (List.map en_api_RoundWinder l25)]) := by
  rw [ev_top_TopRoundBook_j4] at h
  refine TC.region ?_
  refine op0 (sp_move rfl rfl) rfl trivial rfl rfl ?_
  obtain ⟨r26, h35, h⟩ := bind_inv h
  refine op1 2 rfl (sp_call (avs := [.ref 15, .val (.int .i64 0), .val (.int .i64 82)]) (need := [.row 15 35 3 (List.map en_api_BookEntry l22)]) (v := .tup [.ref 16, .val (.int .i64 r26.2)]) (news := [.row 16 3 1 (List.map en_int r26.1)]) rfl rfl rfl Try.call16 (atJ [(0, 15)] [(500, 16)] (fc_book_Noons h35) rfl rfl) (.inr (List.forall_mem_cons.2 ⟨indep_map en_int_flat, (by simp)⟩))) rfl trivial rfl rfl ?_
  refine op0 (sp_move rfl rfl) rfl trivial rfl rfl ?_
  refine op0 (sp_extract rfl rfl rfl) rfl trivial rfl rfl ?_
  refine op0 (sp_extract rfl rfl rfl) rfl trivial rfl rfl ?_
  refine op0 (sp_assign rfl rfl) rfl trivial rfl rfl ?_
  refine op0 (sp_assign rfl rfl) rfl trivial rfl rfl ?_
  refine TL.nil ?_
  refine TC.seq ?_
  refine TC.seq ?_
  refine TC.region ?_
  refine op0 (sp_move rfl rfl) rfl trivial rfl rfl ?_
  refine op0 (sp_neq rfl rfl rfl) rfl trivial rfl rfl ?_
  refine op0 (sp_move rfl rfl) rfl trivial rfl rfl ?_
  rcases cond_cases h with ⟨h36, h⟩ | ⟨h36, h⟩
  · refine (boolLit 131 rfl h36).2 ?_
    refine opSkip rfl ⟨_, rfl, .inl rfl⟩ rfl ?_
    refine opSkip rfl ⟨_, rfl, .inl rfl⟩ rfl ?_
    refine opSkip rfl ⟨_, rfl, .inl rfl⟩ rfl ?_
    refine op0 (sp_pickT rfl rfl rfl) rfl trivial rfl rfl ?_
    refine TL.nil ?_
    refine TC.condT rfl ?_
    refine TC.seq ?_
    refine TC.region ?_
    refine op0 (sp_assign rfl rfl) rfl trivial rfl rfl ?_
    refine TL.nil ?_
    cases h
    exact retJ [] (.tmp rfl .nil) rfl trivial rfl rfl
  · refine (boolLit 131 rfl h36).2 ?_
    refine op0 (sp_move rfl rfl) rfl ⟨_, rfl, rfl⟩ rfl rfl ?_
    refine op1 0 rfl (sp_lenM (N := r26.1.length) (len_map _ _) rfl rfl isOwn Try.underlying37) rfl ⟨_, rfl, rfl⟩ rfl rfl ?_
    refine op0 (sp_neq rfl rfl rfl) rfl ⟨_, rfl, rfl⟩ rfl rfl ?_
    refine op0 (sp_pickF rfl rfl rfl) rfl trivial rfl rfl ?_
    refine TL.nil ?_
    refine TC.cond (b := ((r26.1.length : Int) != 82)) rfl (fun h37 => ?_) (fun h37 => ?_)
    · have h := cond_t h h37
      refine TC.seq ?_
      refine TC.region ?_
      refine op0 (sp_assign rfl rfl) rfl trivial rfl rfl ?_
      refine TL.nil ?_
      cases h
      exact retJ [] (.tmp rfl .nil) rfl trivial rfl rfl
    · have h := cond_f h h37
      refine subJ [] (ok_top_TopRoundBook_j5 h) ?_ ?_ ?_
      · exact ⟨rfl, rfl, rfl, rfl, rfl, rfl, rfl, trivial⟩
      · exact ⟨mem_at 1 rfl, mem_at 2 rfl, mem_at 0 rfl, mem_at 4 rfl, mem_at 5 rfl, mem_at 6 rfl, trivial⟩
      · rfl
def ev_top_TopRoundBook_j3 (n : Nat) (i7 : Int) (l14 : List (Int × Int × Int)) (r6 : Int × Int × Int) (set_3 : Int) (i11 : Int) (i12 : Int) (l13 : List (Int × (List Int))) (l15 : List (Int × Int × Int × Int × Int)) (l16 : List ((List Int))) (l17 : List (Int × Int × Int × Int)) : Option Bool :=
  chk (in64 (i7 * 86400)) <| chk (in64 (i7 * 86400)) <| chk (in64 ((i7 * 86400) + 60)) <| chk (room 24 (l14.length + ([((i7 * 86400), 4, 0), (((i7 * 86400) + 60), 1, 60)] : List (Int × Int × Int)).length)) <| ev_top_TopRoundBook_j4 n r6 set_3 i7 i11 i12 l13 (l14 ++ ([((i7 * 86400), 4, 0), (((i7 * 86400) + 60), 1, 60)] : List (Int × Int × Int))) l15 l16 l17
set_option maxRecDepth 100000 in
set_option maxHeartbeats 2000000 in
theorem ok_top_TopRoundBook_j3 {n : Nat} {w0 : World} {R0 : Nat → Prop} {env0 : Env} {r : Bool} {set_3 : Int} {r6 : Int × Int × Int} {i7 : Int} {i11 : Int} {i12 : Int} {l13 : List (Int × (List Int))} {l14 : List (Int × Int × Int)} {l15 : List (Int × Int × Int × Int × Int)} {l16 : List ((List Int))} {l17 : List (Int × Int × Int × Int)} (h : ev_top_TopRoundBook_j3 n i7 l14 r6 set_3 i11 i12 l13 l15 l16 l17 = some r) : TC Try.prog ⟨w0, fun _ => False, R0⟩ 206 (bodyPost Try.prog Try.f11 (Post ⟨w0, fun _ => False, R0⟩ env0 (.val (.bool r)) [])) [.code (sub (bodyOf Try.f11) [1, 1, 1, 1, 1, 0, 1, 0, 1, 1, 1, 1, 0]), .code (sub (bodyOf Try.f11) [1, 1, 1, 1, 1, 1])] ([(2, .val (.int .u16 set_3)), (7, .ptr 6 0), (8, .ref 5), (9, .val (.int .i64 r6.1)), (10, .val (.int .i64 r6.2.1)), (12, .ref 13), (13, .val (.int .i64 i7))]) ([.blk 6 [.ref 2, .ref 3, .ref 4, .val (.int .i64 i11), .val (.int .i64 i12)] 74, .row 5 147 2 (List.map en_api_RoundDay l13), .row 13 35 3 (List.map en_api_BookEntry l14), .row 2 218 5 (List.map en_api_RoundTower l15), .row 3 37 1 (List.map en_Lint l16), .row 4 213 4 (List.map en_api_RoundWinder l17)]) := by
  rw [ev_top_TopRoundBook_j3] at h
  refine TC.region ?_
  refine op0 (sp_move rfl rfl) rfl trivial rfl rfl ?_
  refine op0 (sp_move rfl rfl) rfl trivial rfl rfl ?_
  obtain ⟨h31, h⟩ := chk_inv h
  refine op0 (sp_mul rfl rfl rfl h31) rfl trivial rfl rfl ?_
  refine op0 (sp_build (qs := [(0, .val (.int .i64 (i7 * 86400))), (1, .val (.int .i64 4))]) rfl bt35 rfl rfl rfl rfl) rfl trivial rfl rfl ?_
  refine op0 (sp_move rfl rfl) rfl trivial rfl rfl ?_
  obtain ⟨h32, h⟩ := chk_inv h
  refine op0 (sp_mul rfl rfl rfl h32) rfl trivial rfl rfl ?_
  obtain ⟨h33, h⟩ := chk_inv h
  refine op0 (sp_add rfl rfl rfl h33) rfl trivial rfl rfl ?_
  refine op0 (sp_build (qs := [(0, .val (.int .i64 ((i7 * 86400) + 60))), (1, .val (.int .i64 1)), (2, .val (.int .i64 60))]) rfl bt35 rfl rfl rfl rfl) rfl trivial rfl rfl ?_
  refine op0 (sp_buildSlice (qs := [.agg [.val (.int .i64 (i7 * 86400)), .val (.int .i64 4), .val (.int .i64 0)], .agg [.val (.int .i64 ((i7 * 86400) + 60)), .val (.int .i64 1), .val (.int .i64 60)]]) (need := []) (els := List.map en_api_BookEntry ([((i7 * 86400), 4, 0), (((i7 * 86400) + 60), 1, 60)] : List (Int × Int × Int))) 14 rfl sl36 (by decide) (by decide) rfl rfl rfl (.v (.v (.v (.v (.v (.v (.nil))))))) (map_len fun _ => rfl) rfl rfl rfl) rfl trivial rfl rfl ?_
  obtain ⟨h34, h⟩ := chk_inv h
  refine appM 3 0 (N := l14.length) (N2 := ([((i7 * 86400), 4, 0), (((i7 * 86400) + 60), 1, 60)] : List (Int × Int × Int)).length) 15 rfl rfl trivial rfl rfl rfl rfl rfl isOwn rfl sl36 (len_map _ _) (len_map _ _) h34 (map_app _ _ _) rfl ?_
  refine op0 (sp_assign rfl rfl) rfl trivial rfl rfl ?_
  refine TL.nil ?_
  refine TC.seq ?_
  refine subJ [] (ok_top_TopRoundBook_j4 h) ?_ ?_ ?_
  · exact ⟨rfl, rfl, rfl, rfl, rfl, rfl, rfl, trivial⟩
  · exact ⟨mem_at 2 rfl, mem_at 3 rfl, mem_at 0 rfl, mem_at 4 rfl, mem_at 5 rfl, mem_at 6 rfl, trivial⟩
  · rfl
def ev_top_TopRoundBook_j10 (n : Nat) (i7 : Int) (l14 : List (Int × Int × Int)) (r6 : Int × Int × Int) (set_3 : Int) (i11 : Int) (i12 : Int) (l13 : List (Int × (List Int))) (l15 : List (Int × Int × Int × Int × Int)) (l16 : List ((List Int))) (l17 : List (Int × Int × Int × Int)) : Option Bool :=
  cond (decide (i7 ≤ 80)) (chk (in64 (i7 * 86400)) <| chk (room 24 (l14.length + ([((i7 * 86400), 4, 0)] : List (Int × Int × Int)).length)) <| ev_top_TopRoundBook_j4 n r6 set_3 i7 i11 i12 l13 (l14 ++ ([((i7 * 86400), 4, 0)] : List (Int × Int × Int))) l15 l16 l17) (ev_top_TopRoundBook_j4 n r6 set_3 i7 i11 i12 l13 l14 l15 l16 l17)
set_option maxRecDepth 100000 in
set_option maxHeartbeats 2000000 in
theorem ok_top_TopRoundBook_j10 {n : Nat} {w0 : World} {R0 : Nat → Prop} {env0 : Env} {r : Bool} {set_3 : Int} {r6 : Int × Int × Int} {i7 : Int} {i11 : Int} {i12 : Int} {l13 : List (Int × (List Int))} {l14 : List (Int × Int × Int)} {l15 : List (Int × Int × Int × Int × Int)} {l16 : List ((List Int))} {l17 : List (Int × Int × Int × Int)} (h : ev_top_TopRoundBook_j10 n i7 l14 r6 set_3 i11 i12 l13 l15 l16 l17 = some r) : TC Try.prog ⟨w0, fun _ => False, R0⟩ 206 (bodyPost Try.prog Try.f11 (Post ⟨w0, fun _ => False, R0⟩ env0 (.val (.bool r)) [])) [.code (sub (bodyOf Try.f11) [1, 1, 1, 1, 1, 0, 1, 0, 1, 1, 1, 1, 1, 0]), .code (sub (bodyOf Try.f11) [1, 1, 1, 1, 1, 0, 1, 0, 1, 1, 1, 1, 1, 1]), .code (sub (bodyOf Try.f11) [1, 1, 1, 1, 1, 1])] ([(2, .val (.int .u16 set_3)), (7, .ptr 6 0), (8, .ref 5), (9, .val (.int .i64 r6.1)), (10, .val (.int .i64 r6.2.1)), (12, .ref 13), (13, .val (.int .i64 i7))]) ([.blk 6 [.ref 2, .ref 3, .ref 4, .val (.int .i64 i11), .val (.int .i64 i12)] 74, .row 5 147 2 (List.map en_api_RoundDay l13), .row 13 35 3 (List.map en_api_BookEntry l14), .row 2 218 5 (List.map en_api_RoundTower l15), .row 3 37 1 (List.map en_Lint l16), .row 4 213 4 (List.map en_api_RoundWinder l17)]) := by
  rw [ev_top_TopRoundBook_j10] at h
  refine TC.region ?_
  refine op0 (sp_move rfl rfl) rfl trivial rfl rfl ?_
  refine op0 (sp_leq rfl rfl rfl) rfl trivial rfl rfl ?_
  refine TL.nil ?_
  refine TC.cond (b := (decide (i7 ≤ 80))) rfl (fun h64 => ?_) (fun h64 => ?_)
  · have h := cond_t h h64
    refine TC.region ?_
    refine op0 (sp_move rfl rfl) rfl trivial rfl rfl ?_
    refine op0 (sp_move rfl rfl) rfl trivial rfl rfl ?_
    obtain ⟨h65, h⟩ := chk_inv h
    refine op0 (sp_mul rfl rfl rfl h65) rfl trivial rfl rfl ?_
    refine op0 (sp_build (qs := [(0, .val (.int .i64 (i7 * 86400))), (1, .val (.int .i64 4))]) rfl bt35 rfl rfl rfl rfl) rfl trivial rfl rfl ?_
    refine op0 (sp_buildSlice (qs := [.agg [.val (.int .i64 (i7 * 86400)), .val (.int .i64 4), .val (.int .i64 0)]]) (need := []) (els := List.map en_api_BookEntry ([((i7 * 86400), 4, 0)] : List (Int × Int × Int))) 20 rfl sl36 (by decide) (by decide) rfl rfl rfl (.v (.v (.v (.nil)))) (map_len fun _ => rfl) rfl rfl rfl) rfl trivial rfl rfl ?_
    obtain ⟨h66, h⟩ := chk_inv h
    refine appM 3 0 (N := l14.length) (N2 := ([((i7 * 86400), 4, 0)] : List (Int × Int × Int)).length) 21 rfl rfl trivial rfl rfl rfl rfl rfl isOwn rfl sl36 (len_map _ _) (len_map _ _) h66 (map_app _ _ _) rfl ?_
    refine op0 (sp_assign rfl rfl) rfl trivial rfl rfl ?_
    refine TL.nil ?_
    refine TC.seq ?_
    refine subJ [(15, 21)] (ok_top_TopRoundBook_j4 h) ?_ ?_ ?_
    · exact ⟨rfl, rfl, rfl, rfl, rfl, rfl, rfl, trivial⟩
    · exact ⟨mem_at 2 rfl, mem_at 3 rfl, mem_at 0 rfl, mem_at 4 rfl, mem_at 5 rfl, mem_at 6 rfl, trivial⟩
    · rfl
  · have h := cond_f h h64
    refine TC.skip ?_
    refine TC.seq ?_
    refine subJ [(15, 13)] (ok_top_TopRoundBook_j4 h) ?_ ?_ ?_
    · exact ⟨rfl, rfl, rfl, rfl, rfl, rfl, rfl, trivial⟩
    · exact ⟨mem_at 0 rfl, mem_at 1 rfl, mem_at 2 rfl, mem_at 3 rfl, mem_at 4 rfl, mem_at 5 rfl, trivial⟩
    · rfl
def ev_top_TopRoundBook_j2 (n : Nat) (i7 : Int) (r6 : Int × Int × Int) (set_3 : Int) (i11 : Int) (i12 : Int) (l13 : List (Int × (List Int))) (l14 : List (Int × Int × Int)) (l15 : List (Int × Int × Int × Int × Int)) (l16 : List ((List Int))) (l17 : List (Int × Int × Int × Int)) : Option Bool :=
  cond (decide (i7 ≤ 80)) (chk (in64 (r6.2.1 + 1)) <| cond (decide ((r6.2.1 + 1) < i7)) (ev_top_TopRoundBook_j3 n i7 l14 r6 set_3 i11 i12 l13 l15 l16 l17) (ev_top_TopRoundBook_j10 n i7 l14 r6 set_3 i11 i12 l13 l15 l16 l17)) (ev_top_TopRoundBook_j10 n i7 l14 r6 set_3 i11 i12 l13 l15 l16 l17)
set_option maxRecDepth 100000 in
set_option maxHeartbeats 2000000 in
theorem ok_top_TopRoundBook_j2 {n : Nat} {w0 : World} {R0 : Nat → Prop} {env0 : Env} {r : Bool} {set_3 : Int} {r6 : Int × Int × Int} {i7 : Int} {i11 : Int} {i12 : Int} {l13 : List (Int × (List Int))} {l14 : List (Int × Int × Int)} {l15 : List (Int × Int × Int × Int × Int)} {l16 : List ((List Int))} {l17 : List (Int × Int × Int × Int)} (h : ev_top_TopRoundBook_j2 n i7 r6 set_3 i11 i12 l13 l14 l15 l16 l17 = some r) : TC Try.prog ⟨w0, fun _ => False, R0⟩ 206 (bodyPost Try.prog Try.f11 (Post ⟨w0, fun _ => False, R0⟩ env0 (.val (.bool r)) [])) [.code (sub (bodyOf Try.f11) [1, 1, 1, 1, 1, 0, 1, 0, 1, 1, 1, 0]), .code (sub (bodyOf Try.f11) [1, 1, 1, 1, 1, 0, 1, 0, 1, 1, 1, 1]), .code (sub (bodyOf Try.f11) [1, 1, 1, 1, 1, 1])] ([(2, .val (.int .u16 set_3)), (7, .ptr 6 0), (8, .ref 5), (9, .val (.int .i64 r6.1)), (10, .val (.int .i64 r6.2.1)), (12, .ref 13), (13, .val (.int .i64 i7))]) ([.blk 6 [.ref 2, .ref 3, .ref 4, .val (.int .i64 i11), .val (.int .i64 i12)] 74, .row 5 147 2 (List.map en_api_RoundDay l13), .row 13 35 3 (List.map en_api_BookEntry l14), .row 2 218 5 (List.map en_api_RoundTower l15), .row 3 37 1 (List.map en_Lint l16), .row 4 213 4 (List.map en_api_RoundWinder l17)]) := by
  rw [ev_top_TopRoundBook_j2] at h
  refine TC.region ?_
  refine op0 (sp_move rfl rfl) rfl trivial rfl rfl ?_
  refine op0 (sp_leq rfl rfl rfl) rfl trivial rfl rfl ?_
  refine op0 (sp_move rfl rfl) rfl trivial rfl rfl ?_
  rcases cond_cases h with ⟨h28, h⟩ | ⟨h28, h⟩
  · refine (boolLit 100 rfl h28).2 ?_
    refine op0 (sp_move rfl rfl) rfl ⟨_, rfl, rfl⟩ rfl rfl ?_
    refine op0 (sp_move rfl rfl) rfl ⟨_, rfl, rfl⟩ rfl rfl ?_
    obtain ⟨h29, h⟩ := chk_inv h
    refine op0 (sp_add rfl rfl rfl h29) rfl ⟨_, rfl, rfl⟩ rfl rfl ?_
    refine op0 (sp_gtr rfl rfl rfl) rfl ⟨_, rfl, rfl⟩ rfl rfl ?_
    refine op0 (sp_pickT rfl rfl rfl) rfl trivial rfl rfl ?_
    refine TL.nil ?_
    refine TC.cond (b := (decide ((r6.2.1 + 1) < i7))) rfl (fun h30 => ?_) (fun h30 => ?_)
    · have h := cond_t h h30
      refine subJ [] (ok_top_TopRoundBook_j3 h) ?_ ?_ ?_
      · exact ⟨rfl, rfl, rfl, rfl, rfl, rfl, rfl, trivial⟩
      · exact ⟨mem_at 0 rfl, mem_at 1 rfl, mem_at 2 rfl, mem_at 3 rfl, mem_at 4 rfl, mem_at 5 rfl, trivial⟩
      · rfl
    · have h := cond_f h h30
      refine TC.seq ?_
      refine subJ [] (ok_top_TopRoundBook_j10 h) ?_ ?_ ?_
      · exact ⟨rfl, rfl, rfl, rfl, rfl, rfl, rfl, trivial⟩
      · exact ⟨mem_at 0 rfl, mem_at 1 rfl, mem_at 2 rfl, mem_at 3 rfl, mem_at 4 rfl, mem_at 5 rfl, trivial⟩
      · rfl
  · refine (boolLit 100 rfl h28).2 ?_
    refine opSkip rfl ⟨_, rfl, .inl rfl⟩ rfl ?_
    refine opSkip rfl ⟨_, rfl, .inl rfl⟩ rfl ?_
    refine opSkip rfl ⟨_, rfl, .inl rfl⟩ rfl ?_
    refine opSkip rfl ⟨_, rfl, .inl rfl⟩ rfl ?_
    refine op0 (sp_pickF rfl rfl rfl) rfl trivial rfl rfl ?_
    refine TL.nil ?_
    refine TC.condF rfl ?_
    refine TC.seq ?_
    refine subJ [] (ok_top_TopRoundBook_j10 h) ?_ ?_ ?_
    · exact ⟨rfl, rfl, rfl, rfl, rfl, rfl, rfl, trivial⟩
    · exact ⟨mem_at 0 rfl, mem_at 1 rfl, mem_at 2 rfl, mem_at 3 rfl, mem_at 4 rfl, mem_at 5 rfl, trivial⟩
    · rfl
def ev_top_TopRoundBook_l1 (n : Nat) (r5 : (List (Int × (List Int)))) (r6 : Int × Int × Int) (set_3 : Int) (r4 : (List (Int × Int × Int × Int × Int)) × (List ((List Int))) × (List (Int × Int × Int × Int)) × Int × Int) : Nat → Int → Int → Option Bool
  | 0, _, _ => none
  | m + 1, i7, i9 => cond (decide ((0 : Int) ≤ i9)) (idx r5 i9 fun x10 => cond (decide (r6.2.1 < x10.1)) (chk (in64 (i9 - 1)) <| ev_top_TopRoundBook_l1 n r5 r6 set_3 r4 m x10.1 (i9 - 1)) (chk (in64 (i9 - 1)) <| ev_top_TopRoundBook_l1 n r5 r6 set_3 r4 m i7 (i9 - 1))) (chk (in64 (r6.2.1 + 1)) <| cond (decide ((r6.2.1 + 1) < i7)) (chk (in64 (r6.2.1 + 1)) <| chk (in64 ((r6.2.1 + 1) * 86400)) <| chk (in64 set_3) <| chk (room 24 ((([] : List (Int × Int × Int)) ++ ([((r6.2.1 * 86400), 3, 0)] : List (Int × Int × Int))).length + ([(((r6.2.1 + 1) * 86400), 1, (Int.tmod set_3 43200))] : List (Int × Int × Int)).length)) <| ev_top_TopRoundBook_j2 n i7 r6 set_3 r4.2.2.2.1 r4.2.2.2.2 r5 ((([] : List (Int × Int × Int)) ++ ([((r6.2.1 * 86400), 3, 0)] : List (Int × Int × Int))) ++ ([(((r6.2.1 + 1) * 86400), 1, (Int.tmod set_3 43200))] : List (Int × Int × Int))) r4.1 r4.2.1 r4.2.2.1) (ev_top_TopRoundBook_j2 n i7 r6 set_3 r4.2.2.2.1 r4.2.2.2.2 r5 (([] : List (Int × Int × Int)) ++ ([((r6.2.1 * 86400), 3, 0)] : List (Int × Int × Int))) r4.1 r4.2.1 r4.2.2.1))
set_option maxRecDepth 100000 in
set_option maxHeartbeats 2000000 in
theorem ok_top_TopRoundBook_l1 {n : Nat} {w0 : World} {R0 : Nat → Prop} {env0 : Env} {r : Bool} {set_3 : Int} {r6 : Int × Int × Int} {r4 : (List (Int × Int × Int × Int × Int)) × (List ((List Int))) × (List (Int × Int × Int × Int)) × Int × Int} {r5 : (List (Int × (List Int)))} : ∀ (m : Nat) (i7 : Int) (i9 : Int), ev_top_TopRoundBook_l1 n r5 r6 set_3 r4 m i7 i9 = some r → TC Try.prog ⟨w0, fun _ => False, R0⟩ 206 (bodyPost Try.prog Try.f11 (Post ⟨w0, fun _ => False, R0⟩ env0 (.val (.bool r)) [])) [.code (sub (bodyOf Try.f11) [1, 1, 1, 1, 1, 0, 1, 0, 1, 0, 1, 0, 0, 0, 0]), .code (sub (bodyOf Try.f11) [1, 1, 1, 1, 1, 0, 1, 0, 1, 0, 1, 0, 0, 0, 1]), .code (sub (bodyOf Try.f11) [1, 1, 1, 1, 1, 0, 1, 0, 1, 0, 1, 0, 0, 1]), .inLoop (sub (bodyOf Try.f11) [1, 1, 1, 1, 1, 0, 1, 0, 1, 0, 1, 0, 0]), .inBlock 0, .code (sub (bodyOf Try.f11) [1, 1, 1, 1, 1, 0, 1, 0, 1, 1]), .code (sub (bodyOf Try.f11) [1, 1, 1, 1, 1, 1])] ([(2, .val (.int .u16 set_3)), (7, .ptr 6 0), (8, .ref 5), (9, .val (.int .i64 r6.1)), (10, .val (.int .i64 r6.2.1)), (12, .ref 11), (13, .val (.int .i64 i7)), (14, .val (.int .i64 i9))]) ([.blk 6 [.ref 2, .ref 3, .ref 4, .val (.int .i64 r4.2.2.2.1), .val (.int .i64 r4.2.2.2.2)] 74, .row 5 147 2 (List.map en_api_RoundDay r5), .row 11 35 3 (List.map en_api_BookEntry (([] : List (Int × Int × Int)) ++ ([((r6.2.1 * 86400), 3, 0)] : List (Int × Int × Int)))), .row 2 218 5 (List.map en_api_RoundTower r4.1), .row 3 37 1 (List.map en_Lint r4.2.1), .row 4 213 4 (List.map en_api_RoundWinder r4.2.2.1)]) := by
  intro m
  induction m with
  | zero => intro i7 i9 h; exact none_no h
  | succ m ih =>
    intro i7 i9 h
    rw [ev_top_TopRoundBook_l1] at h
    refine TC.region ?_
    refine op0 (sp_move rfl rfl) rfl trivial rfl rfl ?_
    refine op0 (sp_geq rfl rfl rfl) rfl trivial rfl rfl ?_
    refine TL.nil ?_
    refine TC.cond (b := (decide ((0 : Int) ≤ i9))) rfl (fun h16 => ?_) (fun h16 => ?_)
    · have h := cond_t h h16
      refine TC.skip ?_
      refine TC.seq ?_
      refine TC.block ?_
      refine TC.seq ?_
      refine TC.region ?_
      refine op0 (sp_move rfl rfl) rfl trivial rfl rfl ?_
      refine op0 (sp_move rfl rfl) rfl trivial rfl rfl ?_
      obtain ⟨x10, h17, h18, h⟩ := idx_inv h
      refine op1 1 rfl (sp_indexS rfl rfl rfl isOwn sl143 h17 (map_get _ h18)) rfl trivial rfl rfl ?_
      refine op1 1 rfl (sp_fieldAddrR (i := (i9 : Int).toNat) rfl rfl isOwn ft147_0 vt3 (by decide) (map_get _ h18) (fun h => nomatch h)) rfl trivial rfl rfl ?_
      refine op1 1 rfl (sp_loadR (i := (i9 : Int).toNat) (j := 0) rfl rfl isOwn vt3 rfl (map_get _ h18) rfl (.v (.nil)) (nodup_of_B rfl)) rfl trivial rfl rfl ?_
      refine op0 (sp_move rfl rfl) rfl trivial rfl rfl ?_
      refine op0 (sp_gtr rfl rfl rfl) rfl trivial rfl rfl ?_
      refine TL.nil ?_
      refine TC.cond (b := (decide (r6.2.1 < x10.1))) rfl (fun h19 => ?_) (fun h19 => ?_)
      · have h := cond_t h h19
        refine TC.region ?_
        refine op0 (sp_move rfl rfl) rfl trivial rfl rfl ?_
        refine op0 (sp_move rfl rfl) rfl trivial rfl rfl ?_
        refine op1 1 rfl (sp_indexS rfl rfl rfl isOwn sl143 h17 (map_get _ h18)) rfl trivial rfl rfl ?_
        refine op1 1 rfl (sp_fieldAddrR (i := (i9 : Int).toNat) rfl rfl isOwn ft147_0 vt3 (by decide) (map_get _ h18) (fun h => nomatch h)) rfl trivial rfl rfl ?_
        refine op1 1 rfl (sp_loadR (i := (i9 : Int).toNat) (j := 0) rfl rfl isOwn vt3 rfl (map_get _ h18) rfl (.v (.nil)) (nodup_of_B rfl)) rfl trivial rfl rfl ?_
        refine op0 (sp_assign rfl rfl) rfl trivial rfl rfl ?_
        refine TL.nil ?_
        refine TC.inBlock ?_
        refine TC.region ?_
        refine op0 (sp_move rfl rfl) rfl trivial rfl rfl ?_
        obtain ⟨h20, h⟩ := chk_inv h
        refine op0 (sp_sub rfl rfl rfl h20) rfl trivial rfl rfl ?_
        refine op0 (sp_assign rfl rfl) rfl trivial rfl rfl ?_
        refine TL.nil ?_
        refine TC.inLoop ?_
        refine TC.seq ?_
        refine TC.seq ?_
        refine subJ [] (ih _ _ h) ?_ ?_ ?_
        · exact ⟨rfl, rfl, rfl, rfl, rfl, rfl, rfl, rfl, trivial⟩
        · exact ⟨mem_at 0 rfl, mem_at 1 rfl, mem_at 2 rfl, mem_at 3 rfl, mem_at 4 rfl, mem_at 5 rfl, trivial⟩
        · rfl
      · have h := cond_f h h19
        refine TC.skip ?_
        refine TC.inBlock ?_
        refine TC.region ?_
        refine op0 (sp_move rfl rfl) rfl trivial rfl rfl ?_
        obtain ⟨h21, h⟩ := chk_inv h
        refine op0 (sp_sub rfl rfl rfl h21) rfl trivial rfl rfl ?_
        refine op0 (sp_assign rfl rfl) rfl trivial rfl rfl ?_
        refine TL.nil ?_
        refine TC.inLoop ?_
        refine TC.seq ?_
        refine TC.seq ?_
        refine subJ [] (ih _ _ h) ?_ ?_ ?_
        · exact ⟨rfl, rfl, rfl, rfl, rfl, rfl, rfl, rfl, trivial⟩
        · exact ⟨mem_at 0 rfl, mem_at 1 rfl, mem_at 2 rfl, mem_at 3 rfl, mem_at 4 rfl, mem_at 5 rfl, trivial⟩
        · rfl
    · have h := cond_f h h16
      refine TC.exit rfl ?_
      refine TC.seq ?_
      refine TC.seq ?_
      refine TC.region ?_
      refine op0 (sp_move rfl rfl) rfl trivial rfl rfl ?_
      refine op0 (sp_move rfl rfl) rfl trivial rfl rfl ?_
      obtain ⟨h22, h⟩ := chk_inv h
      refine op0 (sp_add rfl rfl rfl h22) rfl trivial rfl rfl ?_
      refine op0 (sp_gtr rfl rfl rfl) rfl trivial rfl rfl ?_
      refine TL.nil ?_
      refine TC.cond (b := (decide ((r6.2.1 + 1) < i7))) rfl (fun h23 => ?_) (fun h23 => ?_)
      · have h := cond_t h h23
        refine TC.region ?_
        refine op0 (sp_move rfl rfl) rfl trivial rfl rfl ?_
        refine op0 (sp_move rfl rfl) rfl trivial rfl rfl ?_
        obtain ⟨h24, h⟩ := chk_inv h
        refine op0 (sp_add rfl rfl rfl h24) rfl trivial rfl rfl ?_
        obtain ⟨h25, h⟩ := chk_inv h
        refine op0 (sp_mul rfl rfl rfl h25) rfl trivial rfl rfl ?_
        refine op0 (sp_move rfl rfl) rfl trivial rfl rfl ?_
        obtain ⟨h26, h⟩ := chk_inv h
        refine op0 (sp_conv rfl Try.underlying22 Try.underlying3 rfl h26) rfl trivial rfl rfl ?_
        refine op0 (sp_rem rfl rfl rfl (by decide)) rfl trivial rfl rfl ?_
        refine op0 (sp_build (qs := [(0, .val (.int .i64 ((r6.2.1 + 1) * 86400))), (1, .val (.int .i64 1)), (2, .val (.int .i64 (Int.tmod set_3 43200)))]) rfl bt35 rfl rfl rfl rfl) rfl trivial rfl rfl ?_
        refine op0 (sp_buildSlice (qs := [.agg [.val (.int .i64 ((r6.2.1 + 1) * 86400)), .val (.int .i64 1), .val (.int .i64 (Int.tmod set_3 43200))]]) (need := []) (els := List.map en_api_BookEntry ([(((r6.2.1 + 1) * 86400), 1, (Int.tmod set_3 43200))] : List (Int × Int × Int))) 12 rfl sl36 (by decide) (by decide) rfl rfl rfl (.v (.v (.v (.nil)))) (map_len fun _ => rfl) rfl rfl rfl) rfl trivial rfl rfl ?_
        obtain ⟨h27, h⟩ := chk_inv h
        refine appM 3 0 (N := (([] : List (Int × Int × Int)) ++ ([((r6.2.1 * 86400), 3, 0)] : List (Int × Int × Int))).length) (N2 := ([(((r6.2.1 + 1) * 86400), 1, (Int.tmod set_3 43200))] : List (Int × Int × Int)).length) 13 rfl rfl trivial rfl rfl rfl rfl rfl isOwn rfl sl36 (len_map _ _) (len_map _ _) h27 (map_app _ _ _) rfl ?_
        refine op0 (sp_assign rfl rfl) rfl trivial rfl rfl ?_
        refine TL.nil ?_
        refine TC.seq ?_
        refine subJ [] (ok_top_TopRoundBook_j2 h) ?_ ?_ ?_
        · exact ⟨rfl, rfl, rfl, rfl, rfl, rfl, rfl, trivial⟩
        · exact ⟨mem_at 2 rfl, mem_at 3 rfl, mem_at 0 rfl, mem_at 4 rfl, mem_at 5 rfl, mem_at 6 rfl, trivial⟩
        · rfl
      · have h := cond_f h h23
        refine TC.skip ?_
        refine TC.seq ?_
        refine subJ [(13, 11)] (ok_top_TopRoundBook_j2 h) ?_ ?_ ?_
        · exact ⟨rfl, rfl, rfl, rfl, rfl, rfl, rfl, trivial⟩
        · exact ⟨mem_at 0 rfl, mem_at 1 rfl, mem_at 2 rfl, mem_at 3 rfl, mem_at 4 rfl, mem_at 5 rfl, trivial⟩
        · rfl
def ev_top_TopRoundBook_j0 (n : Nat) (r6 : Int × Int × Int) (r5 : (List (Int × (List Int)))) (set_3 : Int) (r4 : (List (Int × Int × Int × Int × Int)) × (List ((List Int))) × (List (Int × Int × Int × Int)) × Int × Int) : Option Bool :=
  cond (r6.1 == 0) (chk (in64 (r6.2.1 * 86400)) <| chk (room 24 (([] : List (Int × Int × Int)).length + ([((r6.2.1 * 86400), 3, 0)] : List (Int × Int × Int)).length)) <| chk (in64 ((r5.length : Int) - 1)) <| ev_top_TopRoundBook_l1 n r5 r6 set_3 r4 n 81 ((r5.length : Int) - 1)) (ev_top_TopRoundBook_j4 n r6 set_3 81 r4.2.2.2.1 r4.2.2.2.2 r5 ([] : List (Int × Int × Int)) r4.1 r4.2.1 r4.2.2.1)
set_option maxRecDepth 100000 in
set_option maxHeartbeats 2000000 in
theorem ok_top_TopRoundBook_j0 {n : Nat} {w0 : World} {R0 : Nat → Prop} {env0 : Env} {r : Bool} {set_3 : Int} {r6 : Int × Int × Int} {r4 : (List (Int × Int × Int × Int × Int)) × (List ((List Int))) × (List (Int × Int × Int × Int)) × Int × Int} {r5 : (List (Int × (List Int)))} (h : ev_top_TopRoundBook_j0 n r6 r5 set_3 r4 = some r) : TC Try.prog ⟨w0, fun _ => False, R0⟩ 206 (bodyPost Try.prog Try.f11 (Post ⟨w0, fun _ => False, R0⟩ env0 (.val (.bool r)) [])) [.code (sub (bodyOf Try.f11) [1, 1, 1, 0, 1, 1]), .code (sub (bodyOf Try.f11) [1, 1, 1, 1])] ([(2, .val (.int .u16 set_3)), (7, .ptr 6 0), (8, .ref 5), (9, .val (.int .i64 r6.1)), (10, .val (.int .i64 r6.2.1))]) ([.blk 6 [.ref 2, .ref 3, .ref 4, .val (.int .i64 r4.2.2.2.1), .val (.int .i64 r4.2.2.2.2)] 74, .row 5 147 2 (List.map en_api_RoundDay r5), .row 2 218 5 (List.map en_api_RoundTower r4.1), .row 3 37 1 (List.map en_Lint r4.2.1), .row 4 213 4 (List.map en_api_RoundWinder r4.2.2.1)]) := by
  rw [ev_top_TopRoundBook_j0] at h
  refine TC.skip ?_
  refine TC.seq ?_
  refine TC.region ?_
  refine op0 (sp_emptyM 9 (List.map en_api_BookEntry []) rfl rfl sl36) rfl trivial rfl rfl ?_
  refine op0 (sp_assign rfl rfl) rfl trivial rfl rfl ?_
  refine op0 (sp_assign rfl rfl) rfl trivial rfl rfl ?_
  refine TL.nil ?_
  refine TC.seq ?_
  refine TC.seq ?_
  refine TC.region ?_
  refine op0 (sp_move rfl rfl) rfl trivial rfl rfl ?_
  refine op0 (sp_eql rfl rfl rfl) rfl trivial rfl rfl ?_
  refine TL.nil ?_
  refine TC.cond (b := (r6.1 == 0)) rfl (fun h12 => ?_) (fun h12 => ?_)
  · have h := cond_t h h12
    refine TC.seq ?_
    refine TC.region ?_
    refine op0 (sp_move rfl rfl) rfl trivial rfl rfl ?_
    refine op0 (sp_move rfl rfl) rfl trivial rfl rfl ?_
    obtain ⟨h13, h⟩ := chk_inv h
    refine op0 (sp_mul rfl rfl rfl h13) rfl trivial rfl rfl ?_
    refine op0 (sp_build (qs := [(0, .val (.int .i64 (r6.2.1 * 86400))), (1, .val (.int .i64 3))]) rfl bt35 rfl rfl rfl rfl) rfl trivial rfl rfl ?_
    refine op0 (sp_buildSlice (qs := [.agg [.val (.int .i64 (r6.2.1 * 86400)), .val (.int .i64 3), .val (.int .i64 0)]]) (need := []) (els := List.map en_api_BookEntry ([((r6.2.1 * 86400), 3, 0)] : List (Int × Int × Int))) 10 rfl sl36 (by decide) (by decide) rfl rfl rfl (.v (.v (.v (.nil)))) (map_len fun _ => rfl) rfl rfl rfl) rfl trivial rfl rfl ?_
    obtain ⟨h14, h⟩ := chk_inv h
    refine appM 1 0 (N := ([] : List (Int × Int × Int)).length) (N2 := ([((r6.2.1 * 86400), 3, 0)] : List (Int × Int × Int)).length) 11 rfl rfl trivial rfl rfl rfl rfl rfl isOwn rfl sl36 (len_map _ _) (len_map _ _) h14 (map_app _ _ _) rfl ?_
    refine op0 (sp_assign rfl rfl) rfl trivial rfl rfl ?_
    refine TL.nil ?_
    refine TC.seq ?_
    refine TC.seq ?_
    refine TC.region ?_
    refine op0 (sp_move rfl rfl) rfl trivial rfl rfl ?_
    refine op1 3 rfl (sp_lenM (N := r5.length) (len_map _ _) rfl rfl isOwn Try.underlying143) rfl trivial rfl rfl ?_
    obtain ⟨h15, h⟩ := chk_inv h
    refine op0 (sp_sub rfl rfl rfl h15) rfl trivial rfl rfl ?_
    refine op0 (sp_assign rfl rfl) rfl trivial rfl rfl ?_
    refine TL.nil ?_
    refine TC.block ?_
    refine TC.loop ?_
    refine TC.seq ?_
    refine TC.seq ?_
    refine subJ [] (ok_top_TopRoundBook_l1 _ _ _ h) ?_ ?_ ?_
    · exact ⟨rfl, rfl, rfl, rfl, rfl, rfl, rfl, rfl, trivial⟩
    · exact ⟨mem_at 2 rfl, mem_at 3 rfl, mem_at 0 rfl, mem_at 4 rfl, mem_at 5 rfl, mem_at 6 rfl, trivial⟩
    · rfl
  · have h := cond_f h h12
    refine TC.skip ?_
    refine TC.seq ?_
    refine subJ [(15, 9)] (ok_top_TopRoundBook_j4 h) ?_ ?_ ?_
    · exact ⟨rfl, rfl, rfl, rfl, rfl, rfl, rfl, trivial⟩
    · exact ⟨mem_at 1 rfl, mem_at 2 rfl, mem_at 0 rfl, mem_at 3 rfl, mem_at 4 rfl, mem_at 5 rfl, trivial⟩
    · rfl
def ev_top_TopRoundBook (n : Nat) (goes1 : Int) (by_2 : List Int) (set_3 : Int) : Option Bool :=
  chk (in64 goes1) <| chk (in64 ((1 : Int) + (Int.tmod goes1 30))) <| (ev_top_pubGoing n ([((1 : Int) + (Int.tmod goes1 30))] : List Int)).bind fun r4 => (ev_top_pubWound n by_2 10 80).bind fun r5 => chk (room 32 (([] : List (Int × (List Int))).length + r5.length)) <| (ev_round_Stops n r4.1 r4.2.1 r4.2.2.1 r4.2.2.2.1 r4.2.2.2.2 (([] : List (Int × (List Int))) ++ r5) 80).bind fun r6 => cond (r6.2.2 != 0) (some false) (cond (decide ((0 : Int) < r6.1)) (some false) (cond (r6.1 == 0) (cond (decide (r6.2.1 < 1)) (some false) (cond (decide ((80 : Int) < r6.2.1)) (some false) (ev_top_TopRoundBook_j0 n r6 r5 set_3 r4))) (ev_top_TopRoundBook_j0 n r6 r5 set_3 r4)))
set_option maxRecDepth 100000 in
set_option maxHeartbeats 2000000 in
theorem fc_top_TopRoundBook {n : Nat} {goes1 : Int} {by_2 : List Int} {set_3 : Int} {r : Bool} (h : ev_top_TopRoundBook n goes1 by_2 set_3 = some r) : FC Try.prog 11 [.val (.int .u8 goes1), .ref 0, .val (.int .u16 set_3)] [.ro 0 1 (List.map en_uint8 by_2)] (.val (.bool r)) [] := by
  refine introJ (nz := 206) Try.func11 rfl rfl rfl (fun w0 R0 env0 => ?_)
  rw [ev_top_TopRoundBook] at h
  refine TC.seq ?_
  refine TC.region ?_
  refine op0 (sp_assign rfl rfl) rfl trivial rfl rfl ?_
  refine TL.nil ?_
  refine TC.seq ?_
  refine TC.region ?_
  refine op0 (sp_move rfl rfl) rfl trivial rfl rfl ?_
  obtain ⟨h1, h⟩ := chk_inv h
  refine op0 (sp_conv rfl Try.underlying5 Try.underlying3 rfl h1) rfl trivial rfl rfl ?_
  refine op0 (sp_rem rfl rfl rfl (by decide)) rfl trivial rfl rfl ?_
  obtain ⟨h2, h⟩ := chk_inv h
  refine op0 (sp_add rfl rfl rfl h2) rfl trivial rfl rfl ?_
  refine op0 (sp_buildSlice (qs := [.val (.int .i64 ((1 : Int) + (Int.tmod goes1 30)))]) (need := []) (els := List.map en_int ([((1 : Int) + (Int.tmod goes1 30))] : List Int)) 1 rfl sl37 (by decide) (by decide) rfl rfl rfl (.v (.nil)) (map_len fun _ => rfl) rfl rfl rfl) rfl trivial rfl rfl ?_
  refine TL.freeze 0 rfl ?_
  obtain ⟨r4, h3, h⟩ := bind_inv h
  refine op1 0 rfl (sp_call (avs := [.ref 1]) (need := [.ro 1 1 (List.map en_int ([((1 : Int) + (Int.tmod goes1 30))] : List Int))]) (v := .agg [.ref 2, .ref 3, .ref 4, .val (.int .i64 r4.2.2.2.1), .val (.int .i64 r4.2.2.2.2)]) (news := [.row 2 218 5 (List.map en_api_RoundTower r4.1), .row 3 37 1 (List.map en_Lint r4.2.1), .row 4 213 4 (List.map en_api_RoundWinder r4.2.2.1)]) rfl rfl rfl Try.call50 (atJ [(0, 1)] [(0, 2), (1, 3), (2, 4)] (fc_top_pubGoing h3) rfl rfl) (.inl (roAll rfl))) rfl trivial rfl rfl ?_
  refine op0 (sp_move rfl rfl) rfl trivial rfl rfl ?_
  obtain ⟨r5, h4, h⟩ := bind_inv h
  refine op1 4 rfl (sp_call (avs := [.ref 0, .val (.int .i64 10), .val (.int .i64 80)]) (need := [.ro 0 1 (List.map en_uint8 by_2)]) (v := .ref 5) (news := [.row 5 147 2 (List.map en_api_RoundDay r5)]) rfl rfl rfl Try.call51 (atJ [] [(0, 5)] (fc_top_pubWound h4) rfl rfl) (.inl (roAll rfl))) rfl trivial rfl rfl ?_
  refine op0 (sp_alloc 6 rfl Try.zeroValue74 rfl) rfl trivial rfl rfl ?_
  refine stoB 0 (cells' := [.ref 2, .ref 3, .ref 4, .val (.int .i64 r4.2.2.2.1), .val (.int .i64 r4.2.2.2.2)]) rfl rfl trivial rfl rfl rfl rfl vt74 rfl rfl rfl ?_
  refine op0 (sp_assign rfl rfl) rfl trivial rfl rfl ?_
  refine TL.nil ?_
  refine TC.seq ?_
  obtain ⟨h5, h⟩ := chk_inv h
  obtain ⟨r6, h6, h⟩ := bind_inv h
  refine drawJ 11 [⟨.agg [.ref 2, .ref 3, .ref 4, .val (.int .i64 r4.2.2.2.1), .val (.int .i64 r4.2.2.2.2)], [], [.blk 6 [.ref 2, .ref 3, .ref 4, .val (.int .i64 r4.2.2.2.1), .val (.int .i64 r4.2.2.2.2)] 74], []⟩, ⟨.ref 7, [.row 7 147 2 (List.map en_api_RoundDay ([] : List (Int × (List Int))))], [], []⟩, ⟨.ref 5, [], [], []⟩, ⟨.ref 8, [.row 8 147 2 (List.map en_api_RoundDay (([] : List (Int × (List Int))) ++ r5))], [.row 5 147 2 (List.map en_api_RoundDay r5)], [.row 7 147 2 (List.map en_api_RoundDay ([] : List (Int × (List Int))))]⟩, ⟨.tup [.val (.int .i64 r6.1), .val (.int .i64 r6.2.1), .val (.int .i64 r6.2.2)], [], [.row 2 218 5 (List.map en_api_RoundTower r4.1), .row 3 37 1 (List.map en_Lint r4.2.1), .row 4 213 4 (List.map en_api_RoundWinder r4.2.2.1), .row 8 147 2 (List.map en_api_RoundDay (([] : List (Int × (List Int))) ++ r5))], []⟩, ⟨.tup [.val (.int .i64 r6.1), .val (.int .i64 r6.2.1), .val (.int .i64 r6.2.2)], [], [], []⟩, ⟨.val (.int .i64 r6.1), [], [], []⟩, ⟨.val (.int .i64 r6.2.1), [], [], []⟩, ⟨.val (.int .i64 r6.2.2), [], [], []⟩, ⟨.val (.int .i64 r6.1), [], [], []⟩, ⟨.val (.int .i64 r6.2.1), [], [], []⟩] rfl ?_ rfl ?_ rfl ?_ ?_
  · kernel_rfl
  · kernel_rfl
  · exact DAll.op' (sp_loadBA rfl isBlk rfl vt74 rfl rfl) trivial rfl (From.ok (ps := [(none, 0)]) ⟨⟨rfl, by kernel_rfl⟩, trivial⟩) (DAll.op' (sp_emptyM 7 (List.map en_api_RoundDay []) rfl rfl sl143) trivial rfl (From.ok (ps := []) trivial) (DAll.op' (sp_move rfl rfl) trivial rfl (From.ok (ps := []) trivial) (DAll.opT (ts_append (N := ([] : List (Int × (List Int))).length) (N2 := r5.length) 8 rfl rfl rfl isOwn rfl sl143 (len_map _ _) (len_map _ _) h5 (map_app _ _ _) rfl) trivial (From.ok (ps := [(some 1, 0)]) ⟨⟨_, rfl, by kernel_rfl, rfl, by kernel_rfl⟩, trivial⟩) (From.ok (ps := [(none, 1)]) ⟨⟨rfl, by kernel_rfl⟩, trivial⟩) (DAll.op' (sp_call (avs := [.agg [.ref 2, .ref 3, .ref 4, .val (.int .i64 r4.2.2.2.1), .val (.int .i64 r4.2.2.2.2)], .ref 8, .val (.int .i64 80)]) (need := [.row 2 218 5 (List.map en_api_RoundTower r4.1), .row 3 37 1 (List.map en_Lint r4.2.1), .row 4 213 4 (List.map en_api_RoundWinder r4.2.2.1), .row 8 147 2 (List.map en_api_RoundDay (([] : List (Int × (List Int))) ++ r5))]) (v := .tup [.val (.int .i64 r6.1), .val (.int .i64 r6.2.1), .val (.int .i64 r6.2.2)]) (news := []) rfl rfl rfl Try.call52 (atJ [(0, 2), (1, 3), (2, 4), (3, 8)] [] (fc_round_Stops h6) rfl rfl) (.inr (fun x hx => nomatch hx))) trivial rfl (From.ok (ps := [(none, 2), (none, 3), (none, 4), (some 3, 0)]) ⟨⟨rfl, by kernel_rfl⟩, ⟨rfl, by kernel_rfl⟩, ⟨rfl, by kernel_rfl⟩, ⟨_, rfl, by kernel_rfl, rfl, by kernel_rfl⟩, trivial⟩) (DAll.op' (sp_move rfl rfl) trivial rfl (From.ok (ps := []) trivial) (DAll.op' (sp_extract rfl rfl rfl) trivial rfl (From.ok (ps := []) trivial) (DAll.op' (sp_extract rfl rfl rfl) trivial rfl (From.ok (ps := []) trivial) (DAll.op' (sp_extract rfl rfl rfl) trivial rfl (From.ok (ps := []) trivial) (DAll.op' (sp_assign rfl rfl) trivial rfl (From.ok (ps := []) trivial) (DAll.op' (sp_assign rfl rfl) trivial rfl (From.ok (ps := []) trivial) (.nil)))))))))))
  refine op0 (sp_assign rfl rfl) rfl trivial rfl rfl ?_
  refine TL.nil ?_
  refine TC.seq ?_
  refine TC.seq ?_
  refine TC.region ?_
  refine op0 (sp_move rfl rfl) rfl trivial rfl rfl ?_
  refine op0 (sp_neq rfl rfl rfl) rfl trivial rfl rfl ?_
  refine op0 (sp_move rfl rfl) rfl trivial rfl rfl ?_
  rcases cond_cases h with ⟨h7, h⟩ | ⟨h7, h⟩
  · refine (boolLit 40 rfl h7).2 ?_
    refine opSkip rfl ⟨_, rfl, .inl rfl⟩ rfl ?_
    refine opSkip rfl ⟨_, rfl, .inl rfl⟩ rfl ?_
    refine op0 (sp_pickT rfl rfl rfl) rfl trivial rfl rfl ?_
    refine op0 (sp_move rfl rfl) rfl trivial rfl rfl ?_
    refine opSkip rfl ⟨_, rfl, .inl rfl⟩ rfl ?_
    refine opSkip rfl ⟨_, rfl, .inl rfl⟩ rfl ?_
    refine opSkip rfl ⟨_, rfl, .inl rfl⟩ rfl ?_
    refine opSkip rfl ⟨_, rfl, .inr rfl⟩ rfl ?_
    refine opSkip rfl ⟨_, rfl, .inr rfl⟩ rfl ?_
    refine opSkip rfl ⟨_, rfl, .inr rfl⟩ rfl ?_
    refine opSkip rfl ⟨_, rfl, .inr rfl⟩ rfl ?_
    refine opSkip rfl ⟨_, rfl, .inr rfl⟩ rfl ?_
    refine opSkip rfl ⟨_, rfl, .inr rfl⟩ rfl ?_
    refine opSkip rfl ⟨_, rfl, .inl rfl⟩ rfl ?_
    refine op0 (sp_pickT rfl rfl rfl) rfl trivial rfl rfl ?_
    refine TL.nil ?_
    refine TC.condT rfl ?_
    refine TC.seq ?_
    refine TC.region ?_
    refine op0 (sp_assign rfl rfl) rfl trivial rfl rfl ?_
    refine TL.nil ?_
    cases h
    exact retJ [] (.tmp rfl .nil) rfl trivial rfl rfl
  · refine (boolLit 40 rfl h7).2 ?_
    refine op0 (sp_move rfl rfl) rfl ⟨_, rfl, rfl⟩ rfl rfl ?_
    refine op0 (sp_gtr rfl rfl rfl) rfl ⟨_, rfl, rfl⟩ rfl rfl ?_
    refine op0 (sp_pickF rfl rfl rfl) rfl trivial rfl rfl ?_
    refine op0 (sp_move rfl rfl) rfl trivial rfl rfl ?_
    rcases cond_cases h with ⟨h8, h⟩ | ⟨h8, h⟩
    · refine (boolLit 44 rfl h8).2 ?_
      refine opSkip rfl ⟨_, rfl, .inl rfl⟩ rfl ?_
      refine opSkip rfl ⟨_, rfl, .inl rfl⟩ rfl ?_
      refine opSkip rfl ⟨_, rfl, .inl rfl⟩ rfl ?_
      refine opSkip rfl ⟨_, rfl, .inr rfl⟩ rfl ?_
      refine opSkip rfl ⟨_, rfl, .inr rfl⟩ rfl ?_
      refine opSkip rfl ⟨_, rfl, .inr rfl⟩ rfl ?_
      refine opSkip rfl ⟨_, rfl, .inr rfl⟩ rfl ?_
      refine opSkip rfl ⟨_, rfl, .inr rfl⟩ rfl ?_
      refine opSkip rfl ⟨_, rfl, .inr rfl⟩ rfl ?_
      refine opSkip rfl ⟨_, rfl, .inl rfl⟩ rfl ?_
      refine op0 (sp_pickT rfl rfl rfl) rfl trivial rfl rfl ?_
      refine TL.nil ?_
      refine TC.condT rfl ?_
      refine TC.seq ?_
      refine TC.region ?_
      refine op0 (sp_assign rfl rfl) rfl trivial rfl rfl ?_
      refine TL.nil ?_
      cases h
      exact retJ [] (.tmp rfl .nil) rfl trivial rfl rfl
    · refine (boolLit 44 rfl h8).2 ?_
      refine op0 (sp_move rfl rfl) rfl ⟨_, rfl, rfl⟩ rfl rfl ?_
      refine op0 (sp_eql rfl rfl rfl) rfl ⟨_, rfl, rfl⟩ rfl rfl ?_
      refine op0 (sp_move rfl rfl) rfl ⟨_, rfl, rfl⟩ rfl rfl ?_
      rcases cond_cases h with ⟨h9, h⟩ | ⟨h9, h⟩
      · refine (boolLit 47 rfl h9).2 ?_
        refine op0 (sp_move rfl rfl) rfl ⟨_, rfl, rfl⟩ rfl rfl ?_
        refine op0 (sp_lss rfl rfl rfl) rfl ⟨_, rfl, rfl⟩ rfl rfl ?_
        refine op0 (sp_move rfl rfl) rfl ⟨_, rfl, rfl⟩ rfl rfl ?_
        rcases cond_cases h with ⟨h10, h⟩ | ⟨h10, h⟩
        · refine (boolLit 50 rfl h10).2 ?_
          refine opSkip rfl ⟨_, rfl, .inl rfl⟩ rfl ?_
          refine opSkip rfl ⟨_, rfl, .inl rfl⟩ rfl ?_
          refine op0 (sp_pickT rfl rfl rfl) rfl ⟨_, rfl, rfl⟩ rfl rfl ?_
          refine op0 (sp_pickT rfl rfl rfl) rfl ⟨_, rfl, rfl⟩ rfl rfl ?_
          refine op0 (sp_pickF rfl rfl rfl) rfl trivial rfl rfl ?_
          refine TL.nil ?_
          refine TC.condT rfl ?_
          refine TC.seq ?_
          refine TC.region ?_
          refine op0 (sp_assign rfl rfl) rfl trivial rfl rfl ?_
          refine TL.nil ?_
          cases h
          exact retJ [] (.tmp rfl .nil) rfl trivial rfl rfl
        · refine (boolLit 50 rfl h10).2 ?_
          refine op0 (sp_move rfl rfl) rfl ⟨_, rfl, rfl⟩ rfl rfl ?_
          refine op0 (sp_gtr rfl rfl rfl) rfl ⟨_, rfl, rfl⟩ rfl rfl ?_
          refine op0 (sp_pickF rfl rfl rfl) rfl ⟨_, rfl, rfl⟩ rfl rfl ?_
          refine op0 (sp_pickT rfl rfl rfl) rfl ⟨_, rfl, rfl⟩ rfl rfl ?_
          refine op0 (sp_pickF rfl rfl rfl) rfl trivial rfl rfl ?_
          refine TL.nil ?_
          refine TC.cond (b := (decide ((80 : Int) < r6.2.1))) rfl (fun h11 => ?_) (fun h11 => ?_)
          · have h := cond_t h h11
            refine TC.seq ?_
            refine TC.region ?_
            refine op0 (sp_assign rfl rfl) rfl trivial rfl rfl ?_
            refine TL.nil ?_
            cases h
            exact retJ [] (.tmp rfl .nil) rfl trivial rfl rfl
          · have h := cond_f h h11
            refine subJ [] (ok_top_TopRoundBook_j0 h) ?_ ?_ ?_
            · exact ⟨rfl, rfl, rfl, rfl, rfl, trivial⟩
            · exact ⟨mem_at 1 rfl, mem_at 2 rfl, mem_at 3 rfl, mem_at 4 rfl, mem_at 5 rfl, trivial⟩
            · rfl
      · refine (boolLit 47 rfl h9).2 ?_
        refine opSkip rfl ⟨_, rfl, .inl rfl⟩ rfl ?_
        refine opSkip rfl ⟨_, rfl, .inl rfl⟩ rfl ?_
        refine opSkip rfl ⟨_, rfl, .inl rfl⟩ rfl ?_
        refine opSkip rfl ⟨_, rfl, .inr rfl⟩ rfl ?_
        refine opSkip rfl ⟨_, rfl, .inr rfl⟩ rfl ?_
        refine opSkip rfl ⟨_, rfl, .inl rfl⟩ rfl ?_
        refine op0 (sp_pickF rfl rfl rfl) rfl ⟨_, rfl, rfl⟩ rfl rfl ?_
        refine op0 (sp_pickF rfl rfl rfl) rfl trivial rfl rfl ?_
        refine TL.nil ?_
        refine TC.condF rfl ?_
        refine subJ [] (ok_top_TopRoundBook_j0 h) ?_ ?_ ?_
        · exact ⟨rfl, rfl, rfl, rfl, rfl, trivial⟩
        · exact ⟨mem_at 1 rfl, mem_at 2 rfl, mem_at 3 rfl, mem_at 4 rfl, mem_at 5 rfl, trivial⟩
        · rfl
end
end Go.Proofs.Ytmgcinejodpopaa.Sy
