/- What functions of the program compute, and that they do: printed by symgen.py. -/
import Derived.Test.YtmgcinejodpopaaGLib
import Derived.Test.YtmgcinejodpopaaGBook
import Derived.Test.YtmgcinejodpopaaGRound
set_option linter.unusedSimpArgs false
set_option linter.unusedVariables false
namespace Go.Proofs.Ytmgcinejodpopaa.Sy
open Go.RowKit
noncomputable section

/- top_TopRoundWages -/
def ev_top_TopRoundWages_j2 (n : Nat) (i3 : Int) (i4 : Int) (l6 : List (Int × Int × Int × Int)) (l5 : List Int) (k_top_TopRoundWages_l0 : Int → Int → (List Int) → (List (Int × Int × Int × Int)) → Option Bool) (l8 : List Int) : Option Bool :=
  (ev_top_pubTown n).bind fun r9 => (ev_round_Best n r9.1 r9.2.1 r9.2.2.1 r9.2.2.2.1 r9.2.2.2.2 0 l8).bind fun r10 => (ev_top_pubTown n).bind fun r11 => chk (room 8 (([] : List Int).length + r10.1.length)) <| (ev_round_Walk n r11.1 r11.2.1 r11.2.2.1 r11.2.2.2.1 r11.2.2.2.2 0 (([] : List Int) ++ r10.1)).bind fun r12 => cond (r10.2.2 != 0) (some false) (cond (r12.2.2.2 != 0) (some false) (cond (r10.2.1 != r12.1) (some false) (cond (decide (r10.2.1 < 1)) (some false) (chk (in64 ((2 : Int) * r10.2.1)) <| cond (r12.2.1 != ((2 : Int) * r10.2.1)) (some false) (chk (in64 (i3 + r10.2.1)) <| chk (in64 ((7 : Int) * i4)) <| chk (room 32 (l6.length + ([(((7 : Int) * i4), i4, 0, r12.2.1)] : List (Int × Int × Int × Int)).length)) <| chk (in64 (i4 + 1)) <| k_top_TopRoundWages_l0 (i3 + r10.2.1) (i4 + 1) l5 (l6 ++ ([(((7 : Int) * i4), i4, 0, r12.2.1)] : List (Int × Int × Int × Int))))))))
set_option maxRecDepth 100000 in
set_option maxHeartbeats 2000000 in
theorem ok_top_TopRoundWages_j2 {n : Nat} {w0 : World} {R0 : Nat → Prop} {env0 : Env} {r : Bool} {turn2 : Int} {i3 : Int} {i4 : Int} {l6 : List (Int × Int × Int × Int)} {l5 : List Int} {k_top_TopRoundWages_l0 : Int → Int → (List Int) → (List (Int × Int × Int × Int)) → Option Bool} {l8 : List Int} (hk_top_TopRoundWages_l0 : ∀ (i3 : Int) (i4 : Int) (l5 : List Int) (l6 : List (Int × Int × Int × Int)), k_top_TopRoundWages_l0 i3 i4 l5 l6 = some r → TC Try.prog ⟨w0, fun _ => False, R0⟩ 148 (bodyPost Try.prog Try.f6 (Post ⟨w0, fun _ => False, R0⟩ env0 (.val (.bool r)) [])) [.code (sub (bodyOf Try.f6) [1, 1, 0, 1, 0, 0, 0, 0]), .code (sub (bodyOf Try.f6) [1, 1, 0, 1, 0, 0, 0, 1]), .code (sub (bodyOf Try.f6) [1, 1, 0, 1, 0, 0, 1]), .inLoop (sub (bodyOf Try.f6) [1, 1, 0, 1, 0, 0]), .inBlock 0, .code (sub (bodyOf Try.f6) [1, 1, 1])] ([(0, .ref 0), (1, .val (.int .u8 turn2)), (5, .ref 1), (6, .val (.int .i64 i3)), (7, .val (.int .i64 i4))]) ([.ro 0 1 (List.map en_uint8 l5), .row 1 52 4 (List.map en_api_BookCard l6)])) (h : ev_top_TopRoundWages_j2 n i3 i4 l6 l5 k_top_TopRoundWages_l0 l8 = some r) : TC Try.prog ⟨w0, fun _ => False, R0⟩ 148 (bodyPost Try.prog Try.f6 (Post ⟨w0, fun _ => False, R0⟩ env0 (.val (.bool r)) [])) [.code (sub (bodyOf Try.f6) [1, 1, 0, 1, 0, 0, 1, 0, 0, 1, 1, 0]), .code (sub (bodyOf Try.f6) [1, 1, 0, 1, 0, 0, 1, 0, 0, 1, 1, 1]), .inBlock 1, .code (sub (bodyOf Try.f6) [1, 1, 0, 1, 0, 0, 1, 1]), .inLoop (sub (bodyOf Try.f6) [1, 1, 0, 1, 0, 0]), .inBlock 0, .code (sub (bodyOf Try.f6) [1, 1, 1])] ([(0, .ref 0), (1, .val (.int .u8 turn2)), (5, .ref 1), (6, .val (.int .i64 i3)), (7, .val (.int .i64 i4)), (8, .ref 3)]) ([.ro 0 1 (List.map en_uint8 l5), .row 1 52 4 (List.map en_api_BookCard l6), .row 3 3 1 (List.map en_int l8)]) := by
  rw [ev_top_TopRoundWages_j2] at h
  refine TC.region ?_
  obtain ⟨r9, h7, h⟩ := bind_inv h
  refine op0 (sp_call (avs := []) (need := []) (v := .agg [.ref 4, .ref 5, .ref 6, .val (.int .i64 r9.2.2.2.1), .val (.int .i64 r9.2.2.2.2)]) (news := [.row 4 218 5 (List.map en_api_RoundTower r9.1), .row 5 37 1 (List.map en_Lint r9.2.1), .row 6 213 4 (List.map en_api_RoundWinder r9.2.2.1)]) rfl rfl rfl Try.call26 (atJ [] [(0, 4), (1, 5), (2, 6)] (fc_top_pubTown h7) rfl rfl) (.inl (roAll rfl))) rfl trivial rfl rfl ?_
  refine op0 (sp_move rfl rfl) rfl trivial rfl rfl ?_
  refine TL.freeze 0 rfl ?_
  refine TL.freeze 1 rfl ?_
  refine TL.freeze 2 rfl ?_
  refine TL.freeze 5 rfl ?_
  obtain ⟨r10, h8, h⟩ := bind_inv h
  refine opN (need := [.ro 4 5 (List.map en_api_RoundTower r9.1), .ro 5 1 (List.map en_Lint r9.2.1), .ro 6 4 (List.map en_api_RoundWinder r9.2.2.1), .ro 3 1 (List.map en_int l8)]) [0, 1, 2, 5] ⟨rfl, rfl, rfl, rfl, trivial⟩ (sp_call (avs := [.agg [.ref 4, .ref 5, .ref 6, .val (.int .i64 r9.2.2.2.1), .val (.int .i64 r9.2.2.2.2)], .val (.int .i64 0), .ref 3]) (need := [.ro 4 5 (List.map en_api_RoundTower r9.1), .ro 5 1 (List.map en_Lint r9.2.1), .ro 6 4 (List.map en_api_RoundWinder r9.2.2.1), .ro 3 1 (List.map en_int l8)]) (v := .tup [.ref 7, .val (.int .i64 r10.2.1), .val (.int .i64 r10.2.2)]) (news := [.ro 7 1 (List.map en_int r10.1)]) rfl rfl rfl Try.call25 (atJ [(0, 4), (1, 5), (2, 6)] [(0, 7)] (fc_round_Best h8) rfl rfl) (.inl (roAll rfl))) rfl trivial rfl rfl ?_
  refine op0 (sp_move rfl rfl) rfl trivial rfl rfl ?_
  refine op0 (sp_extract rfl rfl rfl) rfl trivial rfl rfl ?_
  refine op0 (sp_extract rfl rfl rfl) rfl trivial rfl rfl ?_
  refine op0 (sp_extract rfl rfl rfl) rfl trivial rfl rfl ?_
  refine op0 (sp_assign rfl rfl) rfl trivial rfl rfl ?_
  refine op0 (sp_assign rfl rfl) rfl trivial rfl rfl ?_
  refine op0 (sp_assign rfl rfl) rfl trivial rfl rfl ?_
  refine TL.nil ?_
  refine TC.seq ?_
  refine TC.region ?_
  obtain ⟨r11, h9, h⟩ := bind_inv h
  refine op0 (sp_call (avs := []) (need := []) (v := .agg [.ref 8, .ref 9, .ref 10, .val (.int .i64 r11.2.2.2.1), .val (.int .i64 r11.2.2.2.2)]) (news := [.row 8 218 5 (List.map en_api_RoundTower r11.1), .row 9 37 1 (List.map en_Lint r11.2.1), .row 10 213 4 (List.map en_api_RoundWinder r11.2.2.1)]) rfl rfl rfl Try.call26 (atJ [] [(0, 8), (1, 9), (2, 10)] (fc_top_pubTown h9) rfl rfl) (.inl (roAll rfl))) rfl trivial rfl rfl ?_
  refine op0 (sp_emptyM 11 (List.map en_int []) rfl rfl sl37) rfl trivial rfl rfl ?_
  refine op0 (sp_move rfl rfl) rfl trivial rfl rfl ?_
  obtain ⟨h10, h⟩ := chk_inv h
  refine appM 0 4 (N := ([] : List Int).length) (N2 := r10.1.length) 12 rfl rfl trivial rfl rfl rfl rfl rfl isRo rfl sl37 (len_map _ _) (len_map _ _) h10 (map_app _ _ _) rfl ?_
  refine op0 (sp_build (qs := [(1, .ref 12)]) rfl bt79 rfl rfl rfl rfl) rfl trivial rfl rfl ?_
  obtain ⟨r12, h11, h⟩ := bind_inv h
  refine opN (need := [.row 8 218 5 (List.map en_api_RoundTower r11.1), .row 9 37 1 (List.map en_Lint r11.2.1), .row 10 213 4 (List.map en_api_RoundWinder r11.2.2.1), .row 12 3 1 (List.map en_int (([] : List Int) ++ r10.1))]) [1, 2, 3, 0] ⟨rfl, rfl, rfl, rfl, trivial⟩ (sp_call (avs := [.agg [.ref 8, .ref 9, .ref 10, .val (.int .i64 r11.2.2.2.1), .val (.int .i64 r11.2.2.2.2)], .agg [.val (.int .i64 0), .ref 12]]) (need := [.row 8 218 5 (List.map en_api_RoundTower r11.1), .row 9 37 1 (List.map en_Lint r11.2.1), .row 10 213 4 (List.map en_api_RoundWinder r11.2.2.1), .row 12 3 1 (List.map en_int (([] : List Int) ++ r10.1))]) (v := .tup [.val (.int .i64 r12.1), .val (.int .i64 r12.2.1), .val (.int .i64 r12.2.2.1), .val (.int .i64 r12.2.2.2)]) (news := []) rfl rfl rfl Try.call27 (atJ [(0, 8), (1, 9), (2, 10), (3, 12)] [] (fc_round_Walk h11) rfl rfl) (.inr (fun x hx => nomatch hx))) rfl trivial rfl rfl ?_
  refine op0 (sp_move rfl rfl) rfl trivial rfl rfl ?_
  refine op0 (sp_extract rfl rfl rfl) rfl trivial rfl rfl ?_
  refine op0 (sp_extract rfl rfl rfl) rfl trivial rfl rfl ?_
  refine op0 (sp_extract rfl rfl rfl) rfl trivial rfl rfl ?_
  refine op0 (sp_extract rfl rfl rfl) rfl trivial rfl rfl ?_
  refine op0 (sp_assign rfl rfl) rfl trivial rfl rfl ?_
  refine op0 (sp_assign rfl rfl) rfl trivial rfl rfl ?_
  refine op0 (sp_assign rfl rfl) rfl trivial rfl rfl ?_
  refine op0 (sp_assign rfl rfl) rfl trivial rfl rfl ?_
  refine TL.nil ?_
  refine TC.seq ?_
  refine TC.seq ?_
  refine TC.region ?_
  refine op0 (sp_move rfl rfl) rfl trivial rfl rfl ?_
  refine op0 (sp_neq rfl rfl rfl) rfl trivial rfl rfl ?_
  refine op0 (sp_move rfl rfl) rfl trivial rfl rfl ?_
  rcases cond_cases h with ⟨h12, h⟩ | ⟨h12, h⟩
  · refine (boolLit 66 rfl h12).2 ?_
    refine opSkip rfl ⟨_, rfl, .inl rfl⟩ rfl ?_
    refine opSkip rfl ⟨_, rfl, .inl rfl⟩ rfl ?_
    refine op0 (sp_pickT rfl rfl rfl) rfl trivial rfl rfl ?_
    refine op0 (sp_move rfl rfl) rfl trivial rfl rfl ?_
    refine opSkip rfl ⟨_, rfl, .inl rfl⟩ rfl ?_
    refine opSkip rfl ⟨_, rfl, .inl rfl⟩ rfl ?_
    refine opSkip rfl ⟨_, rfl, .inl rfl⟩ rfl ?_
    refine op0 (sp_pickT rfl rfl rfl) rfl trivial rfl rfl ?_
    refine op0 (sp_move rfl rfl) rfl trivial rfl rfl ?_
    refine opSkip rfl ⟨_, rfl, .inl rfl⟩ rfl ?_
    refine opSkip rfl ⟨_, rfl, .inl rfl⟩ rfl ?_
    refine op0 (sp_pickT rfl rfl rfl) rfl trivial rfl rfl ?_
    refine op0 (sp_move rfl rfl) rfl trivial rfl rfl ?_
    refine opSkip rfl ⟨_, rfl, .inl rfl⟩ rfl ?_
    refine opSkip rfl ⟨_, rfl, .inl rfl⟩ rfl ?_
    refine opSkip rfl ⟨_, rfl, .inl rfl⟩ rfl ?_
    refine opSkip rfl ⟨_, rfl, .inl rfl⟩ rfl ?_
    refine op0 (sp_pickT rfl rfl rfl) rfl trivial rfl rfl ?_
    refine TL.nil ?_
    refine TC.condT rfl ?_
    refine TC.seq ?_
    refine TC.region ?_
    refine op0 (sp_assign rfl rfl) rfl trivial rfl rfl ?_
    refine TL.nil ?_
    cases h
    exact retJ [] (.tmp rfl .nil) rfl trivial rfl rfl
  · refine (boolLit 66 rfl h12).2 ?_
    refine op0 (sp_move rfl rfl) rfl ⟨_, rfl, rfl⟩ rfl rfl ?_
    refine op0 (sp_neq rfl rfl rfl) rfl ⟨_, rfl, rfl⟩ rfl rfl ?_
    refine op0 (sp_pickF rfl rfl rfl) rfl trivial rfl rfl ?_
    refine op0 (sp_move rfl rfl) rfl trivial rfl rfl ?_
    rcases cond_cases h with ⟨h13, h⟩ | ⟨h13, h⟩
    · refine (boolLit 70 rfl h13).2 ?_
      refine opSkip rfl ⟨_, rfl, .inl rfl⟩ rfl ?_
      refine opSkip rfl ⟨_, rfl, .inl rfl⟩ rfl ?_
      refine opSkip rfl ⟨_, rfl, .inl rfl⟩ rfl ?_
      refine op0 (sp_pickT rfl rfl rfl) rfl trivial rfl rfl ?_
      refine op0 (sp_move rfl rfl) rfl trivial rfl rfl ?_
      refine opSkip rfl ⟨_, rfl, .inl rfl⟩ rfl ?_
      refine opSkip rfl ⟨_, rfl, .inl rfl⟩ rfl ?_
      refine op0 (sp_pickT rfl rfl rfl) rfl trivial rfl rfl ?_
      refine op0 (sp_move rfl rfl) rfl trivial rfl rfl ?_
      refine opSkip rfl ⟨_, rfl, .inl rfl⟩ rfl ?_
      refine opSkip rfl ⟨_, rfl, .inl rfl⟩ rfl ?_
      refine opSkip rfl ⟨_, rfl, .inl rfl⟩ rfl ?_
      refine opSkip rfl ⟨_, rfl, .inl rfl⟩ rfl ?_
      refine op0 (sp_pickT rfl rfl rfl) rfl trivial rfl rfl ?_
      refine TL.nil ?_
      refine TC.condT rfl ?_
      refine TC.seq ?_
      refine TC.region ?_
      refine op0 (sp_assign rfl rfl) rfl trivial rfl rfl ?_
      refine TL.nil ?_
      cases h
      exact retJ [] (.tmp rfl .nil) rfl trivial rfl rfl
    · refine (boolLit 70 rfl h13).2 ?_
      refine op0 (sp_move rfl rfl) rfl ⟨_, rfl, rfl⟩ rfl rfl ?_
      refine op0 (sp_move rfl rfl) rfl ⟨_, rfl, rfl⟩ rfl rfl ?_
      refine op0 (sp_neq rfl rfl rfl) rfl ⟨_, rfl, rfl⟩ rfl rfl ?_
      refine op0 (sp_pickF rfl rfl rfl) rfl trivial rfl rfl ?_
      refine op0 (sp_move rfl rfl) rfl trivial rfl rfl ?_
      rcases cond_cases h with ⟨h14, h⟩ | ⟨h14, h⟩
      · refine (boolLit 75 rfl h14).2 ?_
        refine opSkip rfl ⟨_, rfl, .inl rfl⟩ rfl ?_
        refine opSkip rfl ⟨_, rfl, .inl rfl⟩ rfl ?_
        refine op0 (sp_pickT rfl rfl rfl) rfl trivial rfl rfl ?_
        refine op0 (sp_move rfl rfl) rfl trivial rfl rfl ?_
        refine opSkip rfl ⟨_, rfl, .inl rfl⟩ rfl ?_
        refine opSkip rfl ⟨_, rfl, .inl rfl⟩ rfl ?_
        refine opSkip rfl ⟨_, rfl, .inl rfl⟩ rfl ?_
        refine opSkip rfl ⟨_, rfl, .inl rfl⟩ rfl ?_
        refine op0 (sp_pickT rfl rfl rfl) rfl trivial rfl rfl ?_
        refine TL.nil ?_
        refine TC.condT rfl ?_
        refine TC.seq ?_
        refine TC.region ?_
        refine op0 (sp_assign rfl rfl) rfl trivial rfl rfl ?_
        refine TL.nil ?_
        cases h
        exact retJ [] (.tmp rfl .nil) rfl trivial rfl rfl
      · refine (boolLit 75 rfl h14).2 ?_
        refine op0 (sp_move rfl rfl) rfl ⟨_, rfl, rfl⟩ rfl rfl ?_
        refine op0 (sp_lss rfl rfl rfl) rfl ⟨_, rfl, rfl⟩ rfl rfl ?_
        refine op0 (sp_pickF rfl rfl rfl) rfl trivial rfl rfl ?_
        refine op0 (sp_move rfl rfl) rfl trivial rfl rfl ?_
        rcases cond_cases h with ⟨h15, h⟩ | ⟨h15, h⟩
        · refine (boolLit 79 rfl h15).2 ?_
          refine opSkip rfl ⟨_, rfl, .inl rfl⟩ rfl ?_
          refine opSkip rfl ⟨_, rfl, .inl rfl⟩ rfl ?_
          refine opSkip rfl ⟨_, rfl, .inl rfl⟩ rfl ?_
          refine opSkip rfl ⟨_, rfl, .inl rfl⟩ rfl ?_
          refine op0 (sp_pickT rfl rfl rfl) rfl trivial rfl rfl ?_
          refine TL.nil ?_
          refine TC.condT rfl ?_
          refine TC.seq ?_
          refine TC.region ?_
          refine op0 (sp_assign rfl rfl) rfl trivial rfl rfl ?_
          refine TL.nil ?_
          cases h
          exact retJ [] (.tmp rfl .nil) rfl trivial rfl rfl
        · refine (boolLit 79 rfl h15).2 ?_
          refine op0 (sp_move rfl rfl) rfl ⟨_, rfl, rfl⟩ rfl rfl ?_
          refine op0 (sp_move rfl rfl) rfl ⟨_, rfl, rfl⟩ rfl rfl ?_
          obtain ⟨h16, h⟩ := chk_inv h
          refine op0 (sp_mul rfl rfl rfl h16) rfl ⟨_, rfl, rfl⟩ rfl rfl ?_
          refine op0 (sp_neq rfl rfl rfl) rfl ⟨_, rfl, rfl⟩ rfl rfl ?_
          refine op0 (sp_pickF rfl rfl rfl) rfl trivial rfl rfl ?_
          refine TL.nil ?_
          refine TC.cond (b := (r12.2.1 != ((2 : Int) * r10.2.1))) rfl (fun h17 => ?_) (fun h17 => ?_)
          · have h := cond_t h h17
            refine TC.seq ?_
            refine TC.region ?_
            refine op0 (sp_assign rfl rfl) rfl trivial rfl rfl ?_
            refine TL.nil ?_
            cases h
            exact retJ [] (.tmp rfl .nil) rfl trivial rfl rfl
          · have h := cond_f h h17
            refine TC.skip ?_
            refine TC.seq ?_
            refine TC.region ?_
            refine op0 (sp_move rfl rfl) rfl trivial rfl rfl ?_
            refine op0 (sp_move rfl rfl) rfl trivial rfl rfl ?_
            obtain ⟨h18, h⟩ := chk_inv h
            refine op0 (sp_add rfl rfl rfl h18) rfl trivial rfl rfl ?_
            refine op0 (sp_assign rfl rfl) rfl trivial rfl rfl ?_
            refine TL.nil ?_
            refine TC.region ?_
            refine op0 (sp_move rfl rfl) rfl trivial rfl rfl ?_
            refine op0 (sp_move rfl rfl) rfl trivial rfl rfl ?_
            obtain ⟨h19, h⟩ := chk_inv h
            refine op0 (sp_mul rfl rfl rfl h19) rfl trivial rfl rfl ?_
            refine op0 (sp_move rfl rfl) rfl trivial rfl rfl ?_
            refine op0 (sp_move rfl rfl) rfl trivial rfl rfl ?_
            refine op0 (sp_build (qs := [(0, .val (.int .i64 ((7 : Int) * i4))), (1, .val (.int .i64 i4)), (3, .val (.int .i64 r12.2.1))]) rfl bt52 rfl rfl rfl rfl) rfl trivial rfl rfl ?_
            refine op0 (sp_buildSlice (qs := [.agg [.val (.int .i64 ((7 : Int) * i4)), .val (.int .i64 i4), .val (.int .i64 0), .val (.int .i64 r12.2.1)]]) (need := []) (els := List.map en_api_BookCard ([(((7 : Int) * i4), i4, 0, r12.2.1)] : List (Int × Int × Int × Int))) 13 rfl sl50 (by decide) (by decide) rfl rfl rfl (.v (.v (.v (.v (.nil))))) (map_len fun _ => rfl) rfl rfl rfl) rfl trivial rfl rfl ?_
            obtain ⟨h20, h⟩ := chk_inv h
            refine appM 10 0 (N := l6.length) (N2 := ([(((7 : Int) * i4), i4, 0, r12.2.1)] : List (Int × Int × Int × Int)).length) 14 rfl rfl trivial rfl rfl rfl rfl rfl isOwn rfl sl50 (len_map _ _) (len_map _ _) h20 (map_app _ _ _) rfl ?_
            refine op0 (sp_assign rfl rfl) rfl trivial rfl rfl ?_
            refine TL.nil ?_
            refine TC.inBlock ?_
            refine TC.region ?_
            refine op0 (sp_move rfl rfl) rfl trivial rfl rfl ?_
            obtain ⟨h21, h⟩ := chk_inv h
            refine op0 (sp_add rfl rfl rfl h21) rfl trivial rfl rfl ?_
            refine op0 (sp_assign rfl rfl) rfl trivial rfl rfl ?_
            refine TL.nil ?_
            refine TC.inLoop ?_
            refine TC.seq ?_
            refine TC.seq ?_
            refine subJ [(1, 14)] (hk_top_TopRoundWages_l0 _ _ _ _ h) ?_ ?_ ?_
            · exact ⟨rfl, rfl, rfl, rfl, rfl, trivial⟩
            · exact ⟨mem_at 10 rfl, mem_at 0 rfl, trivial⟩
            · rfl
def ev_top_TopRoundWages_j1 (n : Nat) (l5 : List Int) (i4 : Int) (i3 : Int) (l6 : List (Int × Int × Int × Int)) (k_top_TopRoundWages_l0 : Int → Int → (List Int) → (List (Int × Int × Int × Int)) → Option Bool) : Option Bool :=
  idx l5 i4 fun x7 => chk (in64 x7) <| cond ((Int.tmod x7 3) == 0) (ev_top_TopRoundWages_j2 n i3 i4 l6 l5 k_top_TopRoundWages_l0 ([0, 1] : List Int)) (ev_top_TopRoundWages_j2 n i3 i4 l6 l5 k_top_TopRoundWages_l0 ([(Int.tmod x7 2)] : List Int))
set_option maxRecDepth 100000 in
set_option maxHeartbeats 2000000 in
theorem ok_top_TopRoundWages_j1 {n : Nat} {w0 : World} {R0 : Nat → Prop} {env0 : Env} {r : Bool} {turn2 : Int} {l5 : List Int} {i4 : Int} {i3 : Int} {l6 : List (Int × Int × Int × Int)} {k_top_TopRoundWages_l0 : Int → Int → (List Int) → (List (Int × Int × Int × Int)) → Option Bool} (hk_top_TopRoundWages_l0 : ∀ (i3 : Int) (i4 : Int) (l5 : List Int) (l6 : List (Int × Int × Int × Int)), k_top_TopRoundWages_l0 i3 i4 l5 l6 = some r → TC Try.prog ⟨w0, fun _ => False, R0⟩ 148 (bodyPost Try.prog Try.f6 (Post ⟨w0, fun _ => False, R0⟩ env0 (.val (.bool r)) [])) [.code (sub (bodyOf Try.f6) [1, 1, 0, 1, 0, 0, 0, 0]), .code (sub (bodyOf Try.f6) [1, 1, 0, 1, 0, 0, 0, 1]), .code (sub (bodyOf Try.f6) [1, 1, 0, 1, 0, 0, 1]), .inLoop (sub (bodyOf Try.f6) [1, 1, 0, 1, 0, 0]), .inBlock 0, .code (sub (bodyOf Try.f6) [1, 1, 1])] ([(0, .ref 0), (1, .val (.int .u8 turn2)), (5, .ref 1), (6, .val (.int .i64 i3)), (7, .val (.int .i64 i4))]) ([.ro 0 1 (List.map en_uint8 l5), .row 1 52 4 (List.map en_api_BookCard l6)])) (h : ev_top_TopRoundWages_j1 n l5 i4 i3 l6 k_top_TopRoundWages_l0 = some r) : TC Try.prog ⟨w0, fun _ => False, R0⟩ 148 (bodyPost Try.prog Try.f6 (Post ⟨w0, fun _ => False, R0⟩ env0 (.val (.bool r)) [])) [.code (sub (bodyOf Try.f6) [1, 1, 0, 1, 0, 0, 0, 1, 0]), .code (sub (bodyOf Try.f6) [1, 1, 0, 1, 0, 0, 1]), .inLoop (sub (bodyOf Try.f6) [1, 1, 0, 1, 0, 0]), .inBlock 0, .code (sub (bodyOf Try.f6) [1, 1, 1])] ([(0, .ref 0), (1, .val (.int .u8 turn2)), (5, .ref 1), (6, .val (.int .i64 i3)), (7, .val (.int .i64 i4))]) ([.ro 0 1 (List.map en_uint8 l5), .row 1 52 4 (List.map en_api_BookCard l6)]) := by
  rw [ev_top_TopRoundWages_j1] at h
  refine TC.skip ?_
  refine TC.seq ?_
  refine TC.block ?_
  refine TC.seq ?_
  refine TC.region ?_
  refine op0 (sp_move rfl rfl) rfl trivial rfl rfl ?_
  refine op0 (sp_move rfl rfl) rfl trivial rfl rfl ?_
  obtain ⟨x7, h3, h4, h⟩ := idx_inv h
  refine op1 0 rfl (sp_indexS rfl rfl rfl isRo sl56 h3 (map_get _ h4)) rfl trivial rfl rfl ?_
  refine op1 0 rfl (sp_loadR (i := (i4 : Int).toNat) (j := 0) rfl rfl isRo vt5 rfl (map_get _ h4) rfl (.v (.nil)) (nodup_of_B rfl)) rfl trivial rfl rfl ?_
  obtain ⟨h5, h⟩ := chk_inv h
  refine op0 (sp_conv rfl Try.underlying5 Try.underlying3 rfl h5) rfl trivial rfl rfl ?_
  refine op0 (sp_rem rfl rfl rfl (by decide)) rfl trivial rfl rfl ?_
  refine op0 (sp_buildSlice (qs := [.val (.int .i64 (Int.tmod x7 2))]) (need := []) (els := List.map en_int ([(Int.tmod x7 2)] : List Int)) 2 rfl sl37 (by decide) (by decide) rfl rfl rfl (.v (.nil)) (map_len fun _ => rfl) rfl rfl rfl) rfl trivial rfl rfl ?_
  refine op0 (sp_assign rfl rfl) rfl trivial rfl rfl ?_
  refine TL.nil ?_
  refine TC.seq ?_
  refine TC.seq ?_
  refine TC.region ?_
  refine op0 (sp_move rfl rfl) rfl trivial rfl rfl ?_
  refine op0 (sp_move rfl rfl) rfl trivial rfl rfl ?_
  refine op1 1 rfl (sp_indexS rfl rfl rfl isRo sl56 h3 (map_get _ h4)) rfl trivial rfl rfl ?_
  refine op1 1 rfl (sp_loadR (i := (i4 : Int).toNat) (j := 0) rfl rfl isRo vt5 rfl (map_get _ h4) rfl (.v (.nil)) (nodup_of_B rfl)) rfl trivial rfl rfl ?_
  refine op0 (sp_rem rfl rfl rfl (by decide)) rfl trivial rfl rfl ?_
  refine op0 (sp_eql rfl rfl rfl) rfl trivial rfl rfl ?_
  refine TL.nil ?_
  refine TC.cond (b := ((Int.tmod x7 3) == 0)) rfl (fun h6 => ?_) (fun h6 => ?_)
  · have h := cond_t h h6
    refine TC.region ?_
    refine op0 (sp_buildSlice (qs := [.val (.int .i64 0), .val (.int .i64 1)]) (need := []) (els := List.map en_int ([0, 1] : List Int)) 3 rfl sl37 (by decide) (by decide) rfl rfl rfl (.v (.v (.nil))) (map_len fun _ => rfl) rfl rfl rfl) rfl trivial rfl rfl ?_
    refine op0 (sp_assign rfl rfl) rfl trivial rfl rfl ?_
    refine TL.nil ?_
    refine TC.seq ?_
    refine subJ [] (ok_top_TopRoundWages_j2 (turn2 := turn2) hk_top_TopRoundWages_l0 h) ?_ ?_ ?_
    · exact ⟨rfl, rfl, rfl, rfl, rfl, rfl, trivial⟩
    · exact ⟨mem_at 2 rfl, mem_at 3 rfl, mem_at 0 rfl, trivial⟩
    · rfl
  · have h := cond_f h h6
    refine TC.skip ?_
    refine TC.seq ?_
    refine subJ [(3, 2)] (ok_top_TopRoundWages_j2 (turn2 := turn2) hk_top_TopRoundWages_l0 h) ?_ ?_ ?_
    · exact ⟨rfl, rfl, rfl, rfl, rfl, rfl, trivial⟩
    · exact ⟨mem_at 1 rfl, mem_at 2 rfl, mem_at 0 rfl, trivial⟩
    · rfl
def ev_top_TopRoundWages_l3 (n : Nat) (turn2 : Int) (i3 : Int) : Nat → Int → (List (Int × Int × Int × Int)) → (List (Int × Int × Int × Int)) → Option Bool
  | 0, _, _, _ => none
  | m + 1, i13, l14, l15 => cond (decide (i13 < (l14.length : Int))) (chk (in64 turn2) <| chk (in64 (i13 + turn2)) <| chk ((l14.length : Int) != 0) <| idx l14 (Int.tmod (i13 + turn2) (l14.length : Int)) fun x16 => chk (room 32 (([(x16.1, x16.2.1, x16.2.2.1, x16.2.2.2)] : List (Int × Int × Int × Int)).length + l15.length)) <| chk (in64 (i13 + 1)) <| ev_top_TopRoundWages_l3 n turn2 i3 m (i13 + 1) l14 (([(x16.1, x16.2.1, x16.2.2.1, x16.2.2.2)] : List (Int × Int × Int × Int)) ++ l15)) (chk (room 32 (l15.length + l14.length)) <| (ev_book_Accounts n ([11] : List Int) (l15 ++ l14)).bind fun r17 => cond (r17.2.2 == 0) (cond ((r17.1.length : Int) == 1) (idx r17.1 0 fun x18 => chk (in64 ((2 : Int) * i3)) <| chk (in64 ((11 : Int) + ((2 : Int) * i3))) <| cond (x18 == ((11 : Int) + ((2 : Int) * i3))) ((ev_top_pubRound n).bind fun r19 => cond r19 ((ev_top_pubBook n).bind fun r20 => some r20) (some false)) (some false)) (some false)) (some false))
set_option maxRecDepth 100000 in
set_option maxHeartbeats 2000000 in
theorem ok_top_TopRoundWages_l3 {n : Nat} {w0 : World} {R0 : Nat → Prop} {env0 : Env} {r : Bool} {turn2 : Int} {i3 : Int} : ∀ (m : Nat) (i13 : Int) (l14 : List (Int × Int × Int × Int)) (l15 : List (Int × Int × Int × Int)), ev_top_TopRoundWages_l3 n turn2 i3 m i13 l14 l15 = some r → TC Try.prog ⟨w0, fun _ => False, R0⟩ 148 (bodyPost Try.prog Try.f6 (Post ⟨w0, fun _ => False, R0⟩ env0 (.val (.bool r)) [])) [.code (sub (bodyOf Try.f6) [1, 1, 1, 1, 0, 1, 0, 0, 0, 0]), .code (sub (bodyOf Try.f6) [1, 1, 1, 1, 0, 1, 0, 0, 0, 1]), .code (sub (bodyOf Try.f6) [1, 1, 1, 1, 0, 1, 0, 0, 1]), .inLoop (sub (bodyOf Try.f6) [1, 1, 1, 1, 0, 1, 0, 0]), .inBlock 2, .code (sub (bodyOf Try.f6) [1, 1, 1, 1, 1])] ([(1, .val (.int .u8 turn2)), (5, .ref 1), (6, .val (.int .i64 i3)), (16, .ref 15), (17, .val (.int .i64 i13))]) ([.row 1 52 4 (List.map en_api_BookCard l14), .row 15 52 4 (List.map en_api_BookCard l15)]) := by
  intro m
  induction m with
  | zero => intro i13 l14 l15 h; exact none_no h
  | succ m ih =>
    intro i13 l14 l15 h
    rw [ev_top_TopRoundWages_l3] at h
    refine TC.region ?_
    refine op0 (sp_move rfl rfl) rfl trivial rfl rfl ?_
    refine op0 (sp_move rfl rfl) rfl trivial rfl rfl ?_
    refine op1 0 rfl (sp_lenM (N := l14.length) (len_map _ _) rfl rfl isOwn Try.underlying50) rfl trivial rfl rfl ?_
    refine op0 (sp_lss rfl rfl rfl) rfl trivial rfl rfl ?_
    refine TL.nil ?_
    refine TC.cond (b := (decide (i13 < (l14.length : Int)))) rfl (fun h22 => ?_) (fun h22 => ?_)
    · have h := cond_t h h22
      refine TC.skip ?_
      refine TC.seq ?_
      refine TC.block ?_
      refine TC.region ?_
      refine op0 (sp_move rfl rfl) rfl trivial rfl rfl ?_
      refine op0 (sp_move rfl rfl) rfl trivial rfl rfl ?_
      refine op0 (sp_move rfl rfl) rfl trivial rfl rfl ?_
      obtain ⟨h23, h⟩ := chk_inv h
      refine op0 (sp_conv rfl Try.underlying5 Try.underlying3 rfl h23) rfl trivial rfl rfl ?_
      obtain ⟨h24, h⟩ := chk_inv h
      refine op0 (sp_add rfl rfl rfl h24) rfl trivial rfl rfl ?_
      refine op0 (sp_move rfl rfl) rfl trivial rfl rfl ?_
      refine op1 0 rfl (sp_lenM (N := l14.length) (len_map _ _) rfl rfl isOwn Try.underlying50) rfl trivial rfl rfl ?_
      obtain ⟨h25, h⟩ := chk_inv h
      refine op0 (sp_rem rfl rfl rfl h25) rfl trivial rfl rfl ?_
      obtain ⟨x16, h26, h27, h⟩ := idx_inv h
      refine op1 0 rfl (sp_indexS rfl rfl rfl isOwn sl50 h26 (map_get _ h27)) rfl trivial rfl rfl ?_
      refine op1 0 rfl (sp_loadRA (i := ((Int.tmod (i13 + turn2) (l14.length : Int)) : Int).toNat) (j := 0) (as_ := [.val (.int .i64 x16.1), .val (.int .i64 x16.2.1), .val (.int .i64 x16.2.2.1), .val (.int .i64 x16.2.2.2)]) (ns := []) rfl rfl isOwn vt52 rfl (map_get _ h27) rfl rfl (by decide) (.v (.v (.v (.v (.nil))))) (nodup_of_B rfl)) rfl trivial rfl rfl ?_
      refine op0 (sp_buildSlice (qs := [.agg [.val (.int .i64 x16.1), .val (.int .i64 x16.2.1), .val (.int .i64 x16.2.2.1), .val (.int .i64 x16.2.2.2)]]) (need := []) (els := List.map en_api_BookCard ([(x16.1, x16.2.1, x16.2.2.1, x16.2.2.2)] : List (Int × Int × Int × Int))) 16 rfl sl50 (by decide) (by decide) rfl rfl rfl (.v (.v (.v (.v (.nil))))) (map_len fun _ => rfl) rfl rfl rfl) rfl trivial rfl rfl ?_
      refine op0 (sp_move rfl rfl) rfl trivial rfl rfl ?_
      obtain ⟨h28, h⟩ := chk_inv h
      refine appM 0 2 (N := ([(x16.1, x16.2.1, x16.2.2.1, x16.2.2.2)] : List (Int × Int × Int × Int)).length) (N2 := l15.length) 17 rfl rfl trivial rfl rfl rfl rfl rfl isOwn rfl sl50 (len_map _ _) (len_map _ _) h28 (map_app _ _ _) rfl ?_
      refine op0 (sp_assign rfl rfl) rfl trivial rfl rfl ?_
      refine TL.nil ?_
      refine TC.inBlock ?_
      refine TC.region ?_
      refine op0 (sp_move rfl rfl) rfl trivial rfl rfl ?_
      obtain ⟨h29, h⟩ := chk_inv h
      refine op0 (sp_add rfl rfl rfl h29) rfl trivial rfl rfl ?_
      refine op0 (sp_assign rfl rfl) rfl trivial rfl rfl ?_
      refine TL.nil ?_
      refine TC.inLoop ?_
      refine TC.seq ?_
      refine TC.seq ?_
      refine subJ [(15, 17)] (ih _ _ _ h) ?_ ?_ ?_
      · exact ⟨rfl, rfl, rfl, rfl, rfl, trivial⟩
      · exact ⟨mem_at 1 rfl, mem_at 0 rfl, trivial⟩
      · rfl
    · have h := cond_f h h22
      refine TC.exit rfl ?_
      refine TC.seq ?_
      refine TC.region ?_
      refine op0 (sp_move rfl rfl) rfl trivial rfl rfl ?_
      refine op0 (sp_move rfl rfl) rfl trivial rfl rfl ?_
      obtain ⟨h30, h⟩ := chk_inv h
      refine appM 1 0 (N := l15.length) (N2 := l14.length) 18 rfl rfl trivial rfl rfl rfl rfl rfl isOwn rfl sl50 (len_map _ _) (len_map _ _) h30 (map_app _ _ _) rfl ?_
      refine op0 (sp_assign rfl rfl) rfl trivial rfl rfl ?_
      refine TL.nil ?_
      refine TC.seq ?_
      refine TC.region ?_
      refine op0 (sp_buildSlice (qs := [.val (.int .i64 11)]) (need := []) (els := List.map en_int ([11] : List Int)) 19 rfl sl37 (by decide) (by decide) rfl rfl rfl (.v (.nil)) (map_len fun _ => rfl) rfl rfl rfl) rfl trivial rfl rfl ?_
      refine op0 (sp_move rfl rfl) rfl trivial rfl rfl ?_
      obtain ⟨r17, h31, h⟩ := bind_inv h
      refine opN (need := [.row 19 3 1 (List.map en_int ([11] : List Int)), .row 18 52 4 (List.map en_api_BookCard (l15 ++ l14))]) [0, 1] ⟨rfl, rfl, trivial⟩ (sp_call (avs := [.ref 19, .ref 18]) (need := [.row 19 3 1 (List.map en_int ([11] : List Int)), .row 18 52 4 (List.map en_api_BookCard (l15 ++ l14))]) (v := .tup [.ref 20, .val (.int .i64 r17.2.1), .val (.int .i64 r17.2.2)]) (news := [.row 20 3 1 (List.map en_int r17.1)]) rfl rfl rfl Try.call20 (atJ [(0, 19), (1, 18)] [(0, 20)] (fc_book_Accounts h31) rfl rfl) (.inr (List.forall_mem_cons.2 ⟨indep_map en_int_flat, (by simp)⟩))) rfl trivial rfl rfl ?_
      refine op0 (sp_move rfl rfl) rfl trivial rfl rfl ?_
      refine op0 (sp_extract rfl rfl rfl) rfl trivial rfl rfl ?_
      refine op0 (sp_extract rfl rfl rfl) rfl trivial rfl rfl ?_
      refine op0 (sp_extract rfl rfl rfl) rfl trivial rfl rfl ?_
      refine op0 (sp_assign rfl rfl) rfl trivial rfl rfl ?_
      refine op0 (sp_assign rfl rfl) rfl trivial rfl rfl ?_
      refine op0 (sp_assign rfl rfl) rfl trivial rfl rfl ?_
      refine TL.nil ?_
      refine TC.seq ?_
      refine TC.region ?_
      refine op0 (sp_move rfl rfl) rfl trivial rfl rfl ?_
      refine op0 (sp_eql rfl rfl rfl) rfl trivial rfl rfl ?_
      refine op0 (sp_move rfl rfl) rfl trivial rfl rfl ?_
      rcases cond_cases h with ⟨h32, h⟩ | ⟨h32, h⟩
      · refine (boolLit 128 rfl h32).2 ?_
        refine op0 (sp_move rfl rfl) rfl ⟨_, rfl, rfl⟩ rfl rfl ?_
        refine op1 0 rfl (sp_lenM (N := r17.1.length) (len_map _ _) rfl rfl isOwn Try.underlying37) rfl ⟨_, rfl, rfl⟩ rfl rfl ?_
        refine op0 (sp_eql rfl rfl rfl) rfl ⟨_, rfl, rfl⟩ rfl rfl ?_
        refine op0 (sp_pickT rfl rfl rfl) rfl trivial rfl rfl ?_
        refine op0 (sp_move rfl rfl) rfl trivial rfl rfl ?_
        rcases cond_cases h with ⟨h33, h⟩ | ⟨h33, h⟩
        · refine (boolLit 133 rfl h33).2 ?_
          refine op0 (sp_move rfl rfl) rfl ⟨_, rfl, rfl⟩ rfl rfl ?_
          obtain ⟨x18, h34, h35, h⟩ := idx_inv h
          refine op1 0 rfl (sp_indexS rfl rfl rfl isOwn sl37 h34 (map_get _ h35)) rfl ⟨_, rfl, rfl⟩ rfl rfl ?_
          refine op1 0 rfl (sp_loadR (i := (0 : Int).toNat) (j := 0) rfl rfl isOwn vt3 rfl (map_get _ h35) rfl (.v (.nil)) (nodup_of_B rfl)) rfl ⟨_, rfl, rfl⟩ rfl rfl ?_
          refine op0 (sp_move rfl rfl) rfl ⟨_, rfl, rfl⟩ rfl rfl ?_
          obtain ⟨h36, h⟩ := chk_inv h
          refine op0 (sp_mul rfl rfl rfl h36) rfl ⟨_, rfl, rfl⟩ rfl rfl ?_
          obtain ⟨h37, h⟩ := chk_inv h
          refine op0 (sp_add rfl rfl rfl h37) rfl ⟨_, rfl, rfl⟩ rfl rfl ?_
          refine op0 (sp_eql rfl rfl rfl) rfl ⟨_, rfl, rfl⟩ rfl rfl ?_
          refine op0 (sp_pickT rfl rfl rfl) rfl trivial rfl rfl ?_
          refine op0 (sp_move rfl rfl) rfl trivial rfl rfl ?_
          rcases cond_cases h with ⟨h38, h⟩ | ⟨h38, h⟩
          · refine (boolLit 142 rfl h38).2 ?_
            obtain ⟨r19, h39, h⟩ := bind_inv h
            refine op0 (sp_call (avs := []) (need := []) (v := .val (.bool r19)) (news := []) rfl rfl rfl Try.call28 (atJ [] [] (fc_top_pubRound h39) rfl rfl) (.inl (roAll rfl))) rfl ⟨_, rfl, rfl⟩ rfl rfl ?_
            refine op0 (sp_pickT rfl rfl rfl) rfl trivial rfl rfl ?_
            refine op0 (sp_move rfl rfl) rfl trivial rfl rfl ?_
            rcases cond_cases h with ⟨h40, h⟩ | ⟨h40, h⟩
            · refine (boolLit 145 rfl h40).2 ?_
              obtain ⟨r20, h41, h⟩ := bind_inv h
              refine op0 (sp_call (avs := []) (need := []) (v := .val (.bool r20)) (news := []) rfl rfl rfl Try.call18 (atJ [] [] (fc_top_pubBook h41) rfl rfl) (.inl (roAll rfl))) rfl ⟨_, rfl, rfl⟩ rfl rfl ?_
              refine op0 (sp_pickT rfl rfl rfl) rfl trivial rfl rfl ?_
              refine op0 (sp_assign rfl rfl) rfl trivial rfl rfl ?_
              refine TL.nil ?_
              cases h
              exact retJ [] (.tmp rfl .nil) rfl trivial rfl rfl
            · refine (boolLit 145 rfl h40).2 ?_
              refine opSkip rfl ⟨_, rfl, .inl rfl⟩ rfl ?_
              refine op0 (sp_pickF rfl rfl rfl) rfl trivial rfl rfl ?_
              refine op0 (sp_assign rfl rfl) rfl trivial rfl rfl ?_
              refine TL.nil ?_
              cases h
              exact retJ [] (.tmp rfl .nil) rfl trivial rfl rfl
          · refine (boolLit 142 rfl h38).2 ?_
            refine opSkip rfl ⟨_, rfl, .inl rfl⟩ rfl ?_
            refine op0 (sp_pickF rfl rfl rfl) rfl trivial rfl rfl ?_
            refine op0 (sp_move rfl rfl) rfl trivial rfl rfl ?_
            refine opSkip rfl ⟨_, rfl, .inl rfl⟩ rfl ?_
            refine op0 (sp_pickF rfl rfl rfl) rfl trivial rfl rfl ?_
            refine op0 (sp_assign rfl rfl) rfl trivial rfl rfl ?_
            refine TL.nil ?_
            cases h
            exact retJ [] (.tmp rfl .nil) rfl trivial rfl rfl
        · refine (boolLit 133 rfl h33).2 ?_
          refine opSkip rfl ⟨_, rfl, .inl rfl⟩ rfl ?_
          refine opSkip rfl ⟨_, rfl, .inl rfl⟩ rfl ?_
          refine opSkip rfl ⟨_, rfl, .inl rfl⟩ rfl ?_
          refine opSkip rfl ⟨_, rfl, .inl rfl⟩ rfl ?_
          refine opSkip rfl ⟨_, rfl, .inl rfl⟩ rfl ?_
          refine opSkip rfl ⟨_, rfl, .inl rfl⟩ rfl ?_
          refine opSkip rfl ⟨_, rfl, .inl rfl⟩ rfl ?_
          refine op0 (sp_pickF rfl rfl rfl) rfl trivial rfl rfl ?_
          refine op0 (sp_move rfl rfl) rfl trivial rfl rfl ?_
          refine opSkip rfl ⟨_, rfl, .inl rfl⟩ rfl ?_
          refine op0 (sp_pickF rfl rfl rfl) rfl trivial rfl rfl ?_
          refine op0 (sp_move rfl rfl) rfl trivial rfl rfl ?_
          refine opSkip rfl ⟨_, rfl, .inl rfl⟩ rfl ?_
          refine op0 (sp_pickF rfl rfl rfl) rfl trivial rfl rfl ?_
          refine op0 (sp_assign rfl rfl) rfl trivial rfl rfl ?_
          refine TL.nil ?_
          cases h
          exact retJ [] (.tmp rfl .nil) rfl trivial rfl rfl
      · refine (boolLit 128 rfl h32).2 ?_
        refine opSkip rfl ⟨_, rfl, .inl rfl⟩ rfl ?_
        refine opSkip rfl ⟨_, rfl, .inl rfl⟩ rfl ?_
        refine opSkip rfl ⟨_, rfl, .inl rfl⟩ rfl ?_
        refine op0 (sp_pickF rfl rfl rfl) rfl trivial rfl rfl ?_
        refine op0 (sp_move rfl rfl) rfl trivial rfl rfl ?_
        refine opSkip rfl ⟨_, rfl, .inl rfl⟩ rfl ?_
        refine opSkip rfl ⟨_, rfl, .inl rfl⟩ rfl ?_
        refine opSkip rfl ⟨_, rfl, .inl rfl⟩ rfl ?_
        refine opSkip rfl ⟨_, rfl, .inl rfl⟩ rfl ?_
        refine opSkip rfl ⟨_, rfl, .inl rfl⟩ rfl ?_
        refine opSkip rfl ⟨_, rfl, .inl rfl⟩ rfl ?_
        refine opSkip rfl ⟨_, rfl, .inl rfl⟩ rfl ?_
        refine op0 (sp_pickF rfl rfl rfl) rfl trivial rfl rfl ?_
        refine op0 (sp_move rfl rfl) rfl trivial rfl rfl ?_
        refine opSkip rfl ⟨_, rfl, .inl rfl⟩ rfl ?_
        refine op0 (sp_pickF rfl rfl rfl) rfl trivial rfl rfl ?_
        refine op0 (sp_move rfl rfl) rfl trivial rfl rfl ?_
        refine opSkip rfl ⟨_, rfl, .inl rfl⟩ rfl ?_
        refine op0 (sp_pickF rfl rfl rfl) rfl trivial rfl rfl ?_
        refine op0 (sp_assign rfl rfl) rfl trivial rfl rfl ?_
        refine TL.nil ?_
        cases h
        exact retJ [] (.tmp rfl .nil) rfl trivial rfl rfl
def ev_top_TopRoundWages_l4 (n : Nat) (turn2 : Int) (i3 : Int) : Nat → Int → (List (Int × Int × Int × Int)) → (List (Int × Int × Int × Int)) → Option Bool
  | 0, _, _, _ => none
  | m + 1, i21, l22, l23 => cond (decide (i21 < (l22.length : Int))) (chk (in64 turn2) <| chk (in64 (i21 + turn2)) <| chk ((l22.length : Int) != 0) <| idx l22 (Int.tmod (i21 + turn2) (l22.length : Int)) fun x24 => chk (room 32 (([(x24.1, x24.2.1, x24.2.2.1, x24.2.2.2)] : List (Int × Int × Int × Int)).length + l23.length)) <| chk (in64 (i21 + 1)) <| ev_top_TopRoundWages_l4 n turn2 i3 m (i21 + 1) l22 (([(x24.1, x24.2.1, x24.2.2.1, x24.2.2.2)] : List (Int × Int × Int × Int)) ++ l23)) (chk (room 32 (l23.length + l22.length)) <| (ev_book_Accounts n ([11] : List Int) (l23 ++ l22)).bind fun r25 => cond (r25.2.2 == 0) (cond ((r25.1.length : Int) == 1) (idx r25.1 0 fun x26 => chk (in64 ((2 : Int) * i3)) <| chk (in64 ((11 : Int) + ((2 : Int) * i3))) <| cond (x26 == ((11 : Int) + ((2 : Int) * i3))) ((ev_top_pubRound n).bind fun r27 => cond r27 ((ev_top_pubBook n).bind fun r28 => some r28) (some false)) (some false)) (some false)) (some false))
set_option maxRecDepth 100000 in
set_option maxHeartbeats 2000000 in
theorem ok_top_TopRoundWages_l4 {n : Nat} {w0 : World} {R0 : Nat → Prop} {env0 : Env} {r : Bool} {turn2 : Int} {i3 : Int} : ∀ (m : Nat) (i21 : Int) (l22 : List (Int × Int × Int × Int)) (l23 : List (Int × Int × Int × Int)), ev_top_TopRoundWages_l4 n turn2 i3 m i21 l22 l23 = some r → TC Try.prog ⟨w0, fun _ => False, R0⟩ 148 (bodyPost Try.prog Try.f6 (Post ⟨w0, fun _ => False, R0⟩ env0 (.val (.bool r)) [])) [.code (sub (bodyOf Try.f6) [1, 1, 1, 1, 0, 1, 0, 0, 0, 0]), .code (sub (bodyOf Try.f6) [1, 1, 1, 1, 0, 1, 0, 0, 0, 1]), .code (sub (bodyOf Try.f6) [1, 1, 1, 1, 0, 1, 0, 0, 1]), .inLoop (sub (bodyOf Try.f6) [1, 1, 1, 1, 0, 1, 0, 0]), .inBlock 2, .code (sub (bodyOf Try.f6) [1, 1, 1, 1, 1])] ([(1, .val (.int .u8 turn2)), (5, .ref 1), (6, .val (.int .i64 i3)), (16, .ref 21), (17, .val (.int .i64 i21))]) ([.row 1 52 4 (List.map en_api_BookCard l22), .row 21 52 4 (List.map en_api_BookCard l23)]) := by
  intro m
  induction m with
  | zero => intro i21 l22 l23 h; exact none_no h
  | succ m ih =>
    intro i21 l22 l23 h
    rw [ev_top_TopRoundWages_l4] at h
    refine TC.region ?_
    refine op0 (sp_move rfl rfl) rfl trivial rfl rfl ?_
    refine op0 (sp_move rfl rfl) rfl trivial rfl rfl ?_
    refine op1 0 rfl (sp_lenM (N := l22.length) (len_map _ _) rfl rfl isOwn Try.underlying50) rfl trivial rfl rfl ?_
    refine op0 (sp_lss rfl rfl rfl) rfl trivial rfl rfl ?_
    refine TL.nil ?_
    refine TC.cond (b := (decide (i21 < (l22.length : Int)))) rfl (fun h42 => ?_) (fun h42 => ?_)
    · have h := cond_t h h42
      refine TC.skip ?_
      refine TC.seq ?_
      refine TC.block ?_
      refine TC.region ?_
      refine op0 (sp_move rfl rfl) rfl trivial rfl rfl ?_
      refine op0 (sp_move rfl rfl) rfl trivial rfl rfl ?_
      refine op0 (sp_move rfl rfl) rfl trivial rfl rfl ?_
      obtain ⟨h43, h⟩ := chk_inv h
      refine op0 (sp_conv rfl Try.underlying5 Try.underlying3 rfl h43) rfl trivial rfl rfl ?_
      obtain ⟨h44, h⟩ := chk_inv h
      refine op0 (sp_add rfl rfl rfl h44) rfl trivial rfl rfl ?_
      refine op0 (sp_move rfl rfl) rfl trivial rfl rfl ?_
      refine op1 0 rfl (sp_lenM (N := l22.length) (len_map _ _) rfl rfl isOwn Try.underlying50) rfl trivial rfl rfl ?_
      obtain ⟨h45, h⟩ := chk_inv h
      refine op0 (sp_rem rfl rfl rfl h45) rfl trivial rfl rfl ?_
      obtain ⟨x24, h46, h47, h⟩ := idx_inv h
      refine op1 0 rfl (sp_indexS rfl rfl rfl isOwn sl50 h46 (map_get _ h47)) rfl trivial rfl rfl ?_
      refine op1 0 rfl (sp_loadRA (i := ((Int.tmod (i21 + turn2) (l22.length : Int)) : Int).toNat) (j := 0) (as_ := [.val (.int .i64 x24.1), .val (.int .i64 x24.2.1), .val (.int .i64 x24.2.2.1), .val (.int .i64 x24.2.2.2)]) (ns := []) rfl rfl isOwn vt52 rfl (map_get _ h47) rfl rfl (by decide) (.v (.v (.v (.v (.nil))))) (nodup_of_B rfl)) rfl trivial rfl rfl ?_
      refine op0 (sp_buildSlice (qs := [.agg [.val (.int .i64 x24.1), .val (.int .i64 x24.2.1), .val (.int .i64 x24.2.2.1), .val (.int .i64 x24.2.2.2)]]) (need := []) (els := List.map en_api_BookCard ([(x24.1, x24.2.1, x24.2.2.1, x24.2.2.2)] : List (Int × Int × Int × Int))) 22 rfl sl50 (by decide) (by decide) rfl rfl rfl (.v (.v (.v (.v (.nil))))) (map_len fun _ => rfl) rfl rfl rfl) rfl trivial rfl rfl ?_
      refine op0 (sp_move rfl rfl) rfl trivial rfl rfl ?_
      obtain ⟨h48, h⟩ := chk_inv h
      refine appM 0 2 (N := ([(x24.1, x24.2.1, x24.2.2.1, x24.2.2.2)] : List (Int × Int × Int × Int)).length) (N2 := l23.length) 23 rfl rfl trivial rfl rfl rfl rfl rfl isOwn rfl sl50 (len_map _ _) (len_map _ _) h48 (map_app _ _ _) rfl ?_
      refine op0 (sp_assign rfl rfl) rfl trivial rfl rfl ?_
      refine TL.nil ?_
      refine TC.inBlock ?_
      refine TC.region ?_
      refine op0 (sp_move rfl rfl) rfl trivial rfl rfl ?_
      obtain ⟨h49, h⟩ := chk_inv h
      refine op0 (sp_add rfl rfl rfl h49) rfl trivial rfl rfl ?_
      refine op0 (sp_assign rfl rfl) rfl trivial rfl rfl ?_
      refine TL.nil ?_
      refine TC.inLoop ?_
      refine TC.seq ?_
      refine TC.seq ?_
      refine subJ [(21, 23)] (ih _ _ _ h) ?_ ?_ ?_
      · exact ⟨rfl, rfl, rfl, rfl, rfl, trivial⟩
      · exact ⟨mem_at 1 rfl, mem_at 0 rfl, trivial⟩
      · rfl
    · have h := cond_f h h42
      refine TC.exit rfl ?_
      refine TC.seq ?_
      refine TC.region ?_
      refine op0 (sp_move rfl rfl) rfl trivial rfl rfl ?_
      refine op0 (sp_move rfl rfl) rfl trivial rfl rfl ?_
      obtain ⟨h50, h⟩ := chk_inv h
      refine appM 1 0 (N := l23.length) (N2 := l22.length) 24 rfl rfl trivial rfl rfl rfl rfl rfl isOwn rfl sl50 (len_map _ _) (len_map _ _) h50 (map_app _ _ _) rfl ?_
      refine op0 (sp_assign rfl rfl) rfl trivial rfl rfl ?_
      refine TL.nil ?_
      refine TC.seq ?_
      refine TC.region ?_
      refine op0 (sp_buildSlice (qs := [.val (.int .i64 11)]) (need := []) (els := List.map en_int ([11] : List Int)) 25 rfl sl37 (by decide) (by decide) rfl rfl rfl (.v (.nil)) (map_len fun _ => rfl) rfl rfl rfl) rfl trivial rfl rfl ?_
      refine op0 (sp_move rfl rfl) rfl trivial rfl rfl ?_
      obtain ⟨r25, h51, h⟩ := bind_inv h
      refine opN (need := [.row 25 3 1 (List.map en_int ([11] : List Int)), .row 24 52 4 (List.map en_api_BookCard (l23 ++ l22))]) [0, 1] ⟨rfl, rfl, trivial⟩ (sp_call (avs := [.ref 25, .ref 24]) (need := [.row 25 3 1 (List.map en_int ([11] : List Int)), .row 24 52 4 (List.map en_api_BookCard (l23 ++ l22))]) (v := .tup [.ref 26, .val (.int .i64 r25.2.1), .val (.int .i64 r25.2.2)]) (news := [.row 26 3 1 (List.map en_int r25.1)]) rfl rfl rfl Try.call20 (atJ [(0, 25), (1, 24)] [(0, 26)] (fc_book_Accounts h51) rfl rfl) (.inr (List.forall_mem_cons.2 ⟨indep_map en_int_flat, (by simp)⟩))) rfl trivial rfl rfl ?_
      refine op0 (sp_move rfl rfl) rfl trivial rfl rfl ?_
      refine op0 (sp_extract rfl rfl rfl) rfl trivial rfl rfl ?_
      refine op0 (sp_extract rfl rfl rfl) rfl trivial rfl rfl ?_
      refine op0 (sp_extract rfl rfl rfl) rfl trivial rfl rfl ?_
      refine op0 (sp_assign rfl rfl) rfl trivial rfl rfl ?_
      refine op0 (sp_assign rfl rfl) rfl trivial rfl rfl ?_
      refine op0 (sp_assign rfl rfl) rfl trivial rfl rfl ?_
      refine TL.nil ?_
      refine TC.seq ?_
      refine TC.region ?_
      refine op0 (sp_move rfl rfl) rfl trivial rfl rfl ?_
      refine op0 (sp_eql rfl rfl rfl) rfl trivial rfl rfl ?_
      refine op0 (sp_move rfl rfl) rfl trivial rfl rfl ?_
      rcases cond_cases h with ⟨h52, h⟩ | ⟨h52, h⟩
      · refine (boolLit 128 rfl h52).2 ?_
        refine op0 (sp_move rfl rfl) rfl ⟨_, rfl, rfl⟩ rfl rfl ?_
        refine op1 0 rfl (sp_lenM (N := r25.1.length) (len_map _ _) rfl rfl isOwn Try.underlying37) rfl ⟨_, rfl, rfl⟩ rfl rfl ?_
        refine op0 (sp_eql rfl rfl rfl) rfl ⟨_, rfl, rfl⟩ rfl rfl ?_
        refine op0 (sp_pickT rfl rfl rfl) rfl trivial rfl rfl ?_
        refine op0 (sp_move rfl rfl) rfl trivial rfl rfl ?_
        rcases cond_cases h with ⟨h53, h⟩ | ⟨h53, h⟩
        · refine (boolLit 133 rfl h53).2 ?_
          refine op0 (sp_move rfl rfl) rfl ⟨_, rfl, rfl⟩ rfl rfl ?_
          obtain ⟨x26, h54, h55, h⟩ := idx_inv h
          refine op1 0 rfl (sp_indexS rfl rfl rfl isOwn sl37 h54 (map_get _ h55)) rfl ⟨_, rfl, rfl⟩ rfl rfl ?_
          refine op1 0 rfl (sp_loadR (i := (0 : Int).toNat) (j := 0) rfl rfl isOwn vt3 rfl (map_get _ h55) rfl (.v (.nil)) (nodup_of_B rfl)) rfl ⟨_, rfl, rfl⟩ rfl rfl ?_
          refine op0 (sp_move rfl rfl) rfl ⟨_, rfl, rfl⟩ rfl rfl ?_
          obtain ⟨h56, h⟩ := chk_inv h
          refine op0 (sp_mul rfl rfl rfl h56) rfl ⟨_, rfl, rfl⟩ rfl rfl ?_
          obtain ⟨h57, h⟩ := chk_inv h
          refine op0 (sp_add rfl rfl rfl h57) rfl ⟨_, rfl, rfl⟩ rfl rfl ?_
          refine op0 (sp_eql rfl rfl rfl) rfl ⟨_, rfl, rfl⟩ rfl rfl ?_
          refine op0 (sp_pickT rfl rfl rfl) rfl trivial rfl rfl ?_
          refine op0 (sp_move rfl rfl) rfl trivial rfl rfl ?_
          rcases cond_cases h with ⟨h58, h⟩ | ⟨h58, h⟩
          · refine (boolLit 142 rfl h58).2 ?_
            obtain ⟨r27, h59, h⟩ := bind_inv h
            refine op0 (sp_call (avs := []) (need := []) (v := .val (.bool r27)) (news := []) rfl rfl rfl Try.call28 (atJ [] [] (fc_top_pubRound h59) rfl rfl) (.inl (roAll rfl))) rfl ⟨_, rfl, rfl⟩ rfl rfl ?_
            refine op0 (sp_pickT rfl rfl rfl) rfl trivial rfl rfl ?_
            refine op0 (sp_move rfl rfl) rfl trivial rfl rfl ?_
            rcases cond_cases h with ⟨h60, h⟩ | ⟨h60, h⟩
            · refine (boolLit 145 rfl h60).2 ?_
              obtain ⟨r28, h61, h⟩ := bind_inv h
              refine op0 (sp_call (avs := []) (need := []) (v := .val (.bool r28)) (news := []) rfl rfl rfl Try.call18 (atJ [] [] (fc_top_pubBook h61) rfl rfl) (.inl (roAll rfl))) rfl ⟨_, rfl, rfl⟩ rfl rfl ?_
              refine op0 (sp_pickT rfl rfl rfl) rfl trivial rfl rfl ?_
              refine op0 (sp_assign rfl rfl) rfl trivial rfl rfl ?_
              refine TL.nil ?_
              cases h
              exact retJ [] (.tmp rfl .nil) rfl trivial rfl rfl
            · refine (boolLit 145 rfl h60).2 ?_
              refine opSkip rfl ⟨_, rfl, .inl rfl⟩ rfl ?_
              refine op0 (sp_pickF rfl rfl rfl) rfl trivial rfl rfl ?_
              refine op0 (sp_assign rfl rfl) rfl trivial rfl rfl ?_
              refine TL.nil ?_
              cases h
              exact retJ [] (.tmp rfl .nil) rfl trivial rfl rfl
          · refine (boolLit 142 rfl h58).2 ?_
            refine opSkip rfl ⟨_, rfl, .inl rfl⟩ rfl ?_
            refine op0 (sp_pickF rfl rfl rfl) rfl trivial rfl rfl ?_
            refine op0 (sp_move rfl rfl) rfl trivial rfl rfl ?_
            refine opSkip rfl ⟨_, rfl, .inl rfl⟩ rfl ?_
            refine op0 (sp_pickF rfl rfl rfl) rfl trivial rfl rfl ?_
            refine op0 (sp_assign rfl rfl) rfl trivial rfl rfl ?_
            refine TL.nil ?_
            cases h
            exact retJ [] (.tmp rfl .nil) rfl trivial rfl rfl
        · refine (boolLit 133 rfl h53).2 ?_
          refine opSkip rfl ⟨_, rfl, .inl rfl⟩ rfl ?_
          refine opSkip rfl ⟨_, rfl, .inl rfl⟩ rfl ?_
          refine opSkip rfl ⟨_, rfl, .inl rfl⟩ rfl ?_
          refine opSkip rfl ⟨_, rfl, .inl rfl⟩ rfl ?_
          refine opSkip rfl ⟨_, rfl, .inl rfl⟩ rfl ?_
          refine opSkip rfl ⟨_, rfl, .inl rfl⟩ rfl ?_
          refine opSkip rfl ⟨_, rfl, .inl rfl⟩ rfl ?_
          refine op0 (sp_pickF rfl rfl rfl) rfl trivial rfl rfl ?_
          refine op0 (sp_move rfl rfl) rfl trivial rfl rfl ?_
          refine opSkip rfl ⟨_, rfl, .inl rfl⟩ rfl ?_
          refine op0 (sp_pickF rfl rfl rfl) rfl trivial rfl rfl ?_
          refine op0 (sp_move rfl rfl) rfl trivial rfl rfl ?_
          refine opSkip rfl ⟨_, rfl, .inl rfl⟩ rfl ?_
          refine op0 (sp_pickF rfl rfl rfl) rfl trivial rfl rfl ?_
          refine op0 (sp_assign rfl rfl) rfl trivial rfl rfl ?_
          refine TL.nil ?_
          cases h
          exact retJ [] (.tmp rfl .nil) rfl trivial rfl rfl
      · refine (boolLit 128 rfl h52).2 ?_
        refine opSkip rfl ⟨_, rfl, .inl rfl⟩ rfl ?_
        refine opSkip rfl ⟨_, rfl, .inl rfl⟩ rfl ?_
        refine opSkip rfl ⟨_, rfl, .inl rfl⟩ rfl ?_
        refine op0 (sp_pickF rfl rfl rfl) rfl trivial rfl rfl ?_
        refine op0 (sp_move rfl rfl) rfl trivial rfl rfl ?_
        refine opSkip rfl ⟨_, rfl, .inl rfl⟩ rfl ?_
        refine opSkip rfl ⟨_, rfl, .inl rfl⟩ rfl ?_
        refine opSkip rfl ⟨_, rfl, .inl rfl⟩ rfl ?_
        refine opSkip rfl ⟨_, rfl, .inl rfl⟩ rfl ?_
        refine opSkip rfl ⟨_, rfl, .inl rfl⟩ rfl ?_
        refine opSkip rfl ⟨_, rfl, .inl rfl⟩ rfl ?_
        refine opSkip rfl ⟨_, rfl, .inl rfl⟩ rfl ?_
        refine op0 (sp_pickF rfl rfl rfl) rfl trivial rfl rfl ?_
        refine op0 (sp_move rfl rfl) rfl trivial rfl rfl ?_
        refine opSkip rfl ⟨_, rfl, .inl rfl⟩ rfl ?_
        refine op0 (sp_pickF rfl rfl rfl) rfl trivial rfl rfl ?_
        refine op0 (sp_move rfl rfl) rfl trivial rfl rfl ?_
        refine opSkip rfl ⟨_, rfl, .inl rfl⟩ rfl ?_
        refine op0 (sp_pickF rfl rfl rfl) rfl trivial rfl rfl ?_
        refine op0 (sp_assign rfl rfl) rfl trivial rfl rfl ?_
        refine TL.nil ?_
        cases h
        exact retJ [] (.tmp rfl .nil) rfl trivial rfl rfl
def ev_top_TopRoundWages_l0 (n : Nat) (turn2 : Int) : Nat → Int → Int → (List Int) → (List (Int × Int × Int × Int)) → Option Bool
  | 0, _, _, _, _ => none
  | m + 1, i3, i4, l5, l6 => cond (decide (i4 < (l5.length : Int))) (cond (decide (i4 < 5)) (ev_top_TopRoundWages_j1 n l5 i4 i3 l6 (fun i3q i4q l5q l6q => ev_top_TopRoundWages_l0 n turn2 m i3q i4q l5q l6q)) (ev_top_TopRoundWages_l3 n turn2 i3 n 0 l6 ([] : List (Int × Int × Int × Int)))) (ev_top_TopRoundWages_l4 n turn2 i3 n 0 l6 ([] : List (Int × Int × Int × Int)))
set_option maxRecDepth 100000 in
set_option maxHeartbeats 2000000 in
theorem ok_top_TopRoundWages_l0 {n : Nat} {w0 : World} {R0 : Nat → Prop} {env0 : Env} {r : Bool} {turn2 : Int} : ∀ (m : Nat) (i3 : Int) (i4 : Int) (l5 : List Int) (l6 : List (Int × Int × Int × Int)), ev_top_TopRoundWages_l0 n turn2 m i3 i4 l5 l6 = some r → TC Try.prog ⟨w0, fun _ => False, R0⟩ 148 (bodyPost Try.prog Try.f6 (Post ⟨w0, fun _ => False, R0⟩ env0 (.val (.bool r)) [])) [.code (sub (bodyOf Try.f6) [1, 1, 0, 1, 0, 0, 0, 0]), .code (sub (bodyOf Try.f6) [1, 1, 0, 1, 0, 0, 0, 1]), .code (sub (bodyOf Try.f6) [1, 1, 0, 1, 0, 0, 1]), .inLoop (sub (bodyOf Try.f6) [1, 1, 0, 1, 0, 0]), .inBlock 0, .code (sub (bodyOf Try.f6) [1, 1, 1])] ([(0, .ref 0), (1, .val (.int .u8 turn2)), (5, .ref 1), (6, .val (.int .i64 i3)), (7, .val (.int .i64 i4))]) ([.ro 0 1 (List.map en_uint8 l5), .row 1 52 4 (List.map en_api_BookCard l6)]) := by
  intro m
  induction m with
  | zero => intro i3 i4 l5 l6 h; exact none_no h
  | succ m ih =>
    intro i3 i4 l5 l6 h
    rw [ev_top_TopRoundWages_l0] at h
    refine TC.region ?_
    refine op0 (sp_move rfl rfl) rfl trivial rfl rfl ?_
    refine op0 (sp_move rfl rfl) rfl trivial rfl rfl ?_
    refine op1 0 rfl (sp_lenM (N := l5.length) (len_map _ _) rfl rfl isRo Try.underlying56) rfl trivial rfl rfl ?_
    refine op0 (sp_lss rfl rfl rfl) rfl trivial rfl rfl ?_
    refine op0 (sp_move rfl rfl) rfl trivial rfl rfl ?_
    rcases cond_cases h with ⟨h1, h⟩ | ⟨h1, h⟩
    · refine (boolLit 26 rfl h1).2 ?_
      refine op0 (sp_move rfl rfl) rfl ⟨_, rfl, rfl⟩ rfl rfl ?_
      refine op0 (sp_lss rfl rfl rfl) rfl ⟨_, rfl, rfl⟩ rfl rfl ?_
      refine op0 (sp_pickT rfl rfl rfl) rfl trivial rfl rfl ?_
      refine TL.nil ?_
      refine TC.cond (b := (decide (i4 < 5))) rfl (fun h2 => ?_) (fun h2 => ?_)
      · have h := cond_t h h2
        refine subJ [] (ok_top_TopRoundWages_j1 (turn2 := turn2) ih h) ?_ ?_ ?_
        · exact ⟨rfl, rfl, rfl, rfl, rfl, trivial⟩
        · exact ⟨mem_at 0 rfl, mem_at 1 rfl, trivial⟩
        · rfl
      · have h := cond_f h h2
        refine TC.exit rfl ?_
        refine TC.seq ?_
        refine TC.region ?_
        refine op0 (sp_emptyM 15 (List.map en_api_BookCard []) rfl rfl sl50) rfl trivial rfl rfl ?_
        refine op0 (sp_assign rfl rfl) rfl trivial rfl rfl ?_
        refine TL.nil ?_
        refine TC.seq ?_
        refine TC.seq ?_
        refine TC.region ?_
        refine op0 (sp_assign rfl rfl) rfl trivial rfl rfl ?_
        refine TL.nil ?_
        refine TC.block ?_
        refine TC.loop ?_
        refine TC.seq ?_
        refine TC.seq ?_
        refine subJ [] (ok_top_TopRoundWages_l3 _ _ _ _ h) ?_ ?_ ?_
        · exact ⟨rfl, rfl, rfl, rfl, rfl, trivial⟩
        · exact ⟨mem_at 2 rfl, mem_at 0 rfl, trivial⟩
        · rfl
    · refine (boolLit 26 rfl h1).2 ?_
      refine opSkip rfl ⟨_, rfl, .inl rfl⟩ rfl ?_
      refine opSkip rfl ⟨_, rfl, .inl rfl⟩ rfl ?_
      refine op0 (sp_pickF rfl rfl rfl) rfl trivial rfl rfl ?_
      refine TL.nil ?_
      refine TC.condF rfl ?_
      refine TC.exit rfl ?_
      refine TC.seq ?_
      refine TC.region ?_
      refine op0 (sp_emptyM 21 (List.map en_api_BookCard []) rfl rfl sl50) rfl trivial rfl rfl ?_
      refine op0 (sp_assign rfl rfl) rfl trivial rfl rfl ?_
      refine TL.nil ?_
      refine TC.seq ?_
      refine TC.seq ?_
      refine TC.region ?_
      refine op0 (sp_assign rfl rfl) rfl trivial rfl rfl ?_
      refine TL.nil ?_
      refine TC.block ?_
      refine TC.loop ?_
      refine TC.seq ?_
      refine TC.seq ?_
      refine subJ [] (ok_top_TopRoundWages_l4 _ _ _ _ h) ?_ ?_ ?_
      · exact ⟨rfl, rfl, rfl, rfl, rfl, trivial⟩
      · exact ⟨mem_at 2 rfl, mem_at 0 rfl, trivial⟩
      · rfl
def ev_top_TopRoundWages (n : Nat) (towers1 : List Int) (turn2 : Int) : Option Bool :=
  ev_top_TopRoundWages_l0 n turn2 n 0 0 towers1 ([] : List (Int × Int × Int × Int))
set_option maxRecDepth 100000 in
set_option maxHeartbeats 2000000 in
theorem fc_top_TopRoundWages {n : Nat} {towers1 : List Int} {turn2 : Int} {r : Bool} (h : ev_top_TopRoundWages n towers1 turn2 = some r) : FC Try.prog 6 [.ref 0, .val (.int .u8 turn2)] [.ro 0 1 (List.map en_uint8 towers1)] (.val (.bool r)) [] := by
  refine introJ (nz := 148) Try.func6 rfl rfl rfl (fun w0 R0 env0 => ?_)
  rw [ev_top_TopRoundWages] at h
  refine TC.seq ?_
  refine TC.region ?_
  refine op0 (sp_assign rfl rfl) rfl trivial rfl rfl ?_
  refine TL.nil ?_
  refine TC.seq ?_
  refine TC.region ?_
  refine op0 (sp_emptyM 1 (List.map en_api_BookCard []) rfl rfl sl50) rfl trivial rfl rfl ?_
  refine op0 (sp_assign rfl rfl) rfl trivial rfl rfl ?_
  refine op0 (sp_assign rfl rfl) rfl trivial rfl rfl ?_
  refine TL.nil ?_
  refine TC.seq ?_
  refine TC.seq ?_
  refine TC.region ?_
  refine op0 (sp_assign rfl rfl) rfl trivial rfl rfl ?_
  refine TL.nil ?_
  refine TC.block ?_
  refine TC.loop ?_
  refine TC.seq ?_
  refine TC.seq ?_
  refine subJ [] (ok_top_TopRoundWages_l0 _ _ _ _ _ h) ?_ ?_ ?_
  · exact ⟨rfl, rfl, rfl, rfl, rfl, trivial⟩
  · exact ⟨mem_at 1 rfl, mem_at 0 rfl, trivial⟩
  · rfl
end
end Go.Proofs.Ytmgcinejodpopaa.Sy
