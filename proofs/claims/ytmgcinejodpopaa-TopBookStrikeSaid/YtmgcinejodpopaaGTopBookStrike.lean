/- What functions of the program compute, and that they do: printed by symgen.py. -/
import Derived.Test.YtmgcinejodpopaaGLib
import Derived.Test.YtmgcinejodpopaaGBook
import Derived.Test.YtmgcinejodpopaaGStrike
set_option linter.unusedSimpArgs false
set_option linter.unusedVariables false
namespace Go.Proofs.Ytmgcinejodpopaa.Sy
open Go.RowKit
noncomputable section

/- top_TopBookStrike -/
def ev_top_TopBookStrike_l2 (n : Nat) (missed2 : Int) (hour1 : Int) : Nat → Int → (List (Int × Int × Int)) → (List (Int × Bool)) → Option Bool
  | 0, _, _, _ => none
  | m + 1, i5, l6, l7 => cond (decide (i5 < (Int.tmod missed2 24))) (chk (room 16 (l7.length + ([(0, true)] : List (Int × Bool)).length)) <| chk (in64 (i5 + 1)) <| ev_top_TopBookStrike_l2 n missed2 hour1 m (i5 + 1) l6 (l7 ++ ([(0, true)] : List (Int × Bool)))) (chk (in64 (((Int.tmod hour1 40000) + 24) * 3600)) <| (ev_book_Hands n l6 (((Int.tmod hour1 40000) + 24) * 3600)).bind fun r8 => chk (in64 (((Int.tmod hour1 40000) + 24) - (Int.tmod missed2 24))) <| chk (in64 (((Int.tmod hour1 40000) + 24) - (Int.tmod missed2 24))) <| (ev_strike_Play n false false ([]) (((Int.tmod hour1 40000) + 24) - (Int.tmod missed2 24)) (Int.tmod (((Int.tmod hour1 40000) + 24) - (Int.tmod missed2 24)) 12) l7).bind fun r9 => cond (r8.2.2 == 0) (cond (r9.2.2 == 0) (cond (!r8.2.1) (cond (r9.2.1 == 0) (chk (in64 ((3600000 : Int) * r9.1)) <| cond (r8.1 == ((3600000 : Int) * r9.1)) ((ev_top_pubStrike n).bind fun r10 => cond r10 ((ev_top_pubBook n).bind fun r11 => some r11) (some false)) (some false)) (some false)) (some false)) (some false)) (some false))
set_option maxRecDepth 100000 in
set_option maxHeartbeats 2000000 in
theorem ok_top_TopBookStrike_l2 {n : Nat} {w0 : World} {R0 : Nat → Prop} {env0 : Env} {r : Bool} {hour1 : Int} {missed2 : Int} : ∀ (m : Nat) (i5 : Int) (l6 : List (Int × Int × Int)) (l7 : List (Int × Bool)), ev_top_TopBookStrike_l2 n missed2 hour1 m i5 l6 l7 = some r → TC Try.prog ⟨w0, fun _ => False, R0⟩ 131 (bodyPost Try.prog Try.f9 (Post ⟨w0, fun _ => False, R0⟩ env0 (.val (.bool r)) [])) [.code (sub (bodyOf Try.f9) [1, 1, 1, 1, 1, 1, 1, 1, 0, 1, 0, 0, 0, 0]), .code (sub (bodyOf Try.f9) [1, 1, 1, 1, 1, 1, 1, 1, 0, 1, 0, 0, 0, 1]), .code (sub (bodyOf Try.f9) [1, 1, 1, 1, 1, 1, 1, 1, 0, 1, 0, 0, 1]), .inLoop (sub (bodyOf Try.f9) [1, 1, 1, 1, 1, 1, 1, 1, 0, 1, 0, 0]), .inBlock 0, .code (sub (bodyOf Try.f9) [1, 1, 1, 1, 1, 1, 1, 1, 1])] ([(5, .val (.int .i64 ((Int.tmod hour1 40000) + 24))), (6, .val (.int .i64 (Int.tmod missed2 24))), (13, .ref 2), (14, .ref 3), (15, .val (.int .i64 i5))]) ([.row 2 35 3 (List.map en_api_BookEntry l6), .row 3 127 2 (List.map en_api_StrikeStep l7)]) := by
  intro m
  induction m with
  | zero => intro i5 l6 l7 h; exact none_no h
  | succ m ih =>
    intro i5 l6 l7 h
    rw [ev_top_TopBookStrike_l2] at h
    refine TC.region ?_
    refine op0 (sp_move rfl rfl) rfl trivial rfl rfl ?_
    refine op0 (sp_move rfl rfl) rfl trivial rfl rfl ?_
    refine op0 (sp_lss rfl rfl rfl) rfl trivial rfl rfl ?_
    refine TL.nil ?_
    refine TC.cond (b := (decide (i5 < (Int.tmod missed2 24)))) rfl (fun h17 => ?_) (fun h17 => ?_)
    · have h := cond_t h h17
      refine TC.skip ?_
      refine TC.seq ?_
      refine TC.block ?_
      refine TC.region ?_
      refine op0 (sp_move rfl rfl) rfl trivial rfl rfl ?_
      refine op0 (sp_build (qs := [(1, .val (.bool true))]) rfl bt127 rfl rfl rfl rfl) rfl trivial rfl rfl ?_
      refine op0 (sp_buildSlice (qs := [.agg [.val (.int .i64 0), .val (.bool true)]]) (need := []) (els := List.map en_api_StrikeStep ([(0, true)] : List (Int × Bool))) 4 rfl sl125 (by decide) (by decide) rfl rfl rfl (.v (.v (.nil))) (map_len fun _ => rfl) rfl rfl rfl) rfl trivial rfl rfl ?_
      obtain ⟨h18, h⟩ := chk_inv h
      refine appM 2 0 (N := l7.length) (N2 := ([(0, true)] : List (Int × Bool)).length) 5 rfl rfl trivial rfl rfl rfl rfl rfl isOwn rfl sl125 (len_map _ _) (len_map _ _) h18 (map_app _ _ _) rfl ?_
      refine op0 (sp_assign rfl rfl) rfl trivial rfl rfl ?_
      refine TL.nil ?_
      refine TC.inBlock ?_
      refine TC.region ?_
      refine op0 (sp_move rfl rfl) rfl trivial rfl rfl ?_
      obtain ⟨h19, h⟩ := chk_inv h
      refine op0 (sp_add rfl rfl rfl h19) rfl trivial rfl rfl ?_
      refine op0 (sp_assign rfl rfl) rfl trivial rfl rfl ?_
      refine TL.nil ?_
      refine TC.inLoop ?_
      refine TC.seq ?_
      refine TC.seq ?_
      refine subJ [(3, 5)] (ih _ _ _ h) ?_ ?_ ?_
      · exact ⟨rfl, rfl, rfl, rfl, rfl, trivial⟩
      · exact ⟨mem_at 2 rfl, mem_at 0 rfl, trivial⟩
      · rfl
    · have h := cond_f h h17
      refine TC.exit rfl ?_
      refine TC.seq ?_
      refine TC.region ?_
      refine op0 (sp_move rfl rfl) rfl trivial rfl rfl ?_
      refine op0 (sp_move rfl rfl) rfl trivial rfl rfl ?_
      obtain ⟨h20, h⟩ := chk_inv h
      refine op0 (sp_mul rfl rfl rfl h20) rfl trivial rfl rfl ?_
      obtain ⟨r8, h21, h⟩ := bind_inv h
      refine op1 0 rfl (sp_call (avs := [.ref 2, .val (.int .i64 (((Int.tmod hour1 40000) + 24) * 3600))]) (need := [.row 2 35 3 (List.map en_api_BookEntry l6)]) (v := .tup [.val (.int .i64 r8.1), .val (.bool r8.2.1), .val (.int .i64 r8.2.2)]) (news := []) rfl rfl rfl Try.call23 (atJ [(0, 2)] [] (fc_book_Hands h21) rfl rfl) (.inr (fun x hx => nomatch hx))) rfl trivial rfl rfl ?_
      refine op0 (sp_move rfl rfl) rfl trivial rfl rfl ?_
      refine op0 (sp_extract rfl rfl rfl) rfl trivial rfl rfl ?_
      refine op0 (sp_extract rfl rfl rfl) rfl trivial rfl rfl ?_
      refine op0 (sp_extract rfl rfl rfl) rfl trivial rfl rfl ?_
      refine op0 (sp_assign rfl rfl) rfl trivial rfl rfl ?_
      refine op0 (sp_assign rfl rfl) rfl trivial rfl rfl ?_
      refine op0 (sp_assign rfl rfl) rfl trivial rfl rfl ?_
      refine TL.nil ?_
      refine TC.seq ?_
      refine TC.region ?_
      refine op0 (sp_build (qs := []) rfl bt124 rfl rfl rfl rfl) rfl trivial rfl rfl ?_
      refine op0 (sp_move rfl rfl) rfl trivial rfl rfl ?_
      refine op0 (sp_move rfl rfl) rfl trivial rfl rfl ?_
      obtain ⟨h22, h⟩ := chk_inv h
      refine op0 (sp_sub rfl rfl rfl h22) rfl trivial rfl rfl ?_
      refine op0 (sp_move rfl rfl) rfl trivial rfl rfl ?_
      refine op0 (sp_move rfl rfl) rfl trivial rfl rfl ?_
      obtain ⟨h23, h⟩ := chk_inv h
      refine op0 (sp_sub rfl rfl rfl h23) rfl trivial rfl rfl ?_
      refine op0 (sp_rem rfl rfl rfl (by decide)) rfl trivial rfl rfl ?_
      refine op0 (sp_move rfl rfl) rfl trivial rfl rfl ?_
      obtain ⟨r9, h24, h⟩ := bind_inv h
      refine op1 1 rfl (sp_call (avs := [.agg [.val (.bool false), .val (.bool false), .val (.slice none 0 0)], .val (.int .i64 (((Int.tmod hour1 40000) + 24) - (Int.tmod missed2 24))), .val (.int .i64 (Int.tmod (((Int.tmod hour1 40000) + 24) - (Int.tmod missed2 24)) 12)), .ref 3]) (need := [.row 3 127 2 (List.map en_api_StrikeStep l7)]) (v := .tup [.val (.int .i64 r9.1), .val (.int .i64 r9.2.1), .val (.int .i64 r9.2.2)]) (news := []) rfl rfl rfl Try.call46 (FC.nil (args := [.agg [.val (.bool false), .val (.bool false), .ref 6], .val (.int .i64 (((Int.tmod hour1 40000) + 24) - (Int.tmod missed2 24))), .val (.int .i64 (Int.tmod (((Int.tmod hour1 40000) + 24) - (Int.tmod missed2 24)) 12)), .ref 3]) 6 2 (atJ [(0, 6), (1, 3)] [] (fc_strike_Play h24) rfl rfl) rfl rfl rfl) (.inr (fun x hx => nomatch hx))) rfl trivial rfl rfl ?_
      refine op0 (sp_move rfl rfl) rfl trivial rfl rfl ?_
      refine op0 (sp_extract rfl rfl rfl) rfl trivial rfl rfl ?_
      refine op0 (sp_extract rfl rfl rfl) rfl trivial rfl rfl ?_
      refine op0 (sp_extract rfl rfl rfl) rfl trivial rfl rfl ?_
      refine op0 (sp_assign rfl rfl) rfl trivial rfl rfl ?_
      refine op0 (sp_assign rfl rfl) rfl trivial rfl rfl ?_
      refine op0 (sp_assign rfl rfl) rfl trivial rfl rfl ?_
      refine TL.nil ?_
      refine TC.seq ?_
      refine TC.region ?_
      refine op0 (sp_move rfl rfl) rfl trivial rfl rfl ?_
      refine op0 (sp_eql rfl rfl rfl) rfl trivial rfl rfl ?_
      refine op0 (sp_move rfl rfl) rfl trivial rfl rfl ?_
      rcases cond_cases h with ⟨h25, h⟩ | ⟨h25, h⟩
      · refine (boolLit 107 rfl h25).2 ?_
        refine op0 (sp_move rfl rfl) rfl ⟨_, rfl, rfl⟩ rfl rfl ?_
        refine op0 (sp_eql rfl rfl rfl) rfl ⟨_, rfl, rfl⟩ rfl rfl ?_
        refine op0 (sp_pickT rfl rfl rfl) rfl trivial rfl rfl ?_
        refine op0 (sp_move rfl rfl) rfl trivial rfl rfl ?_
        rcases cond_cases h with ⟨h26, h⟩ | ⟨h26, h⟩
        · refine (boolLit 111 rfl h26).2 ?_
          refine op0 (sp_move rfl rfl) rfl ⟨_, rfl, rfl⟩ rfl rfl ?_
          refine op0 (sp_not rfl rfl) rfl ⟨_, rfl, rfl⟩ rfl rfl ?_
          refine op0 (sp_pickT rfl rfl rfl) rfl trivial rfl rfl ?_
          refine op0 (sp_move rfl rfl) rfl trivial rfl rfl ?_
          rcases cond_cases h with ⟨h27, h⟩ | ⟨h27, h⟩
          · refine (boolLit 115 rfl h27).2 ?_
            refine op0 (sp_move rfl rfl) rfl ⟨_, rfl, rfl⟩ rfl rfl ?_
            refine op0 (sp_eql rfl rfl rfl) rfl ⟨_, rfl, rfl⟩ rfl rfl ?_
            refine op0 (sp_pickT rfl rfl rfl) rfl trivial rfl rfl ?_
            refine op0 (sp_move rfl rfl) rfl trivial rfl rfl ?_
            rcases cond_cases h with ⟨h28, h⟩ | ⟨h28, h⟩
            · refine (boolLit 119 rfl h28).2 ?_
              refine op0 (sp_move rfl rfl) rfl ⟨_, rfl, rfl⟩ rfl rfl ?_
              refine op0 (sp_move rfl rfl) rfl ⟨_, rfl, rfl⟩ rfl rfl ?_
              obtain ⟨h29, h⟩ := chk_inv h
              refine op0 (sp_mul rfl rfl rfl h29) rfl ⟨_, rfl, rfl⟩ rfl rfl ?_
              refine op0 (sp_eql rfl rfl rfl) rfl ⟨_, rfl, rfl⟩ rfl rfl ?_
              refine op0 (sp_pickT rfl rfl rfl) rfl trivial rfl rfl ?_
              refine op0 (sp_move rfl rfl) rfl trivial rfl rfl ?_
              rcases cond_cases h with ⟨h30, h⟩ | ⟨h30, h⟩
              · refine (boolLit 125 rfl h30).2 ?_
                obtain ⟨r10, h31, h⟩ := bind_inv h
                refine op0 (sp_call (avs := []) (need := []) (v := .val (.bool r10)) (news := []) rfl rfl rfl Try.call47 (atJ [] [] (fc_top_pubStrike h31) rfl rfl) (.inl (roAll rfl))) rfl ⟨_, rfl, rfl⟩ rfl rfl ?_
                refine op0 (sp_pickT rfl rfl rfl) rfl trivial rfl rfl ?_
                refine op0 (sp_move rfl rfl) rfl trivial rfl rfl ?_
                rcases cond_cases h with ⟨h32, h⟩ | ⟨h32, h⟩
                · refine (boolLit 128 rfl h32).2 ?_
                  obtain ⟨r11, h33, h⟩ := bind_inv h
                  refine op0 (sp_call (avs := []) (need := []) (v := .val (.bool r11)) (news := []) rfl rfl rfl Try.call18 (atJ [] [] (fc_top_pubBook h33) rfl rfl) (.inl (roAll rfl))) rfl ⟨_, rfl, rfl⟩ rfl rfl ?_
                  refine op0 (sp_pickT rfl rfl rfl) rfl trivial rfl rfl ?_
                  refine op0 (sp_assign rfl rfl) rfl trivial rfl rfl ?_
                  refine TL.nil ?_
                  cases h
                  exact retJ [] (.tmp rfl .nil) rfl trivial rfl rfl
                · refine (boolLit 128 rfl h32).2 ?_
                  refine opSkip rfl ⟨_, rfl, .inl rfl⟩ rfl ?_
                  refine op0 (sp_pickF rfl rfl rfl) rfl trivial rfl rfl ?_
                  refine op0 (sp_assign rfl rfl) rfl trivial rfl rfl ?_
                  refine TL.nil ?_
                  cases h
                  exact retJ [] (.tmp rfl .nil) rfl trivial rfl rfl
              · refine (boolLit 125 rfl h30).2 ?_
                refine opSkip rfl ⟨_, rfl, .inl rfl⟩ rfl ?_
                refine op0 (sp_pickF rfl rfl rfl) rfl trivial rfl rfl ?_
                refine op0 (sp_move rfl rfl) rfl trivial rfl rfl ?_
                refine opSkip rfl ⟨_, rfl, .inl rfl⟩ rfl ?_
                refine op0 (sp_pickF rfl rfl rfl) rfl trivial rfl rfl ?_
                refine op0 (sp_assign rfl rfl) rfl trivial rfl rfl ?_
                refine TL.nil ?_
                cases h
                exact retJ [] (.tmp rfl .nil) rfl trivial rfl rfl
            · refine (boolLit 119 rfl h28).2 ?_
              refine opSkip rfl ⟨_, rfl, .inl rfl⟩ rfl ?_
              refine opSkip rfl ⟨_, rfl, .inl rfl⟩ rfl ?_
              refine opSkip rfl ⟨_, rfl, .inl rfl⟩ rfl ?_
              refine opSkip rfl ⟨_, rfl, .inl rfl⟩ rfl ?_
              refine op0 (sp_pickF rfl rfl rfl) rfl trivial rfl rfl ?_
              refine op0 (sp_move rfl rfl) rfl trivial rfl rfl ?_
              refine opSkip rfl ⟨_, rfl, .inl rfl⟩ rfl ?_
              refine op0 (sp_pickF rfl rfl rfl) rfl trivial rfl rfl ?_
              refine op0 (sp_move rfl rfl) rfl trivial rfl rfl ?_
              refine opSkip rfl ⟨_, rfl, .inl rfl⟩ rfl ?_
              refine op0 (sp_pickF rfl rfl rfl) rfl trivial rfl rfl ?_
              refine op0 (sp_assign rfl rfl) rfl trivial rfl rfl ?_
              refine TL.nil ?_
              cases h
              exact retJ [] (.tmp rfl .nil) rfl trivial rfl rfl
          · refine (boolLit 115 rfl h27).2 ?_
            refine opSkip rfl ⟨_, rfl, .inl rfl⟩ rfl ?_
            refine opSkip rfl ⟨_, rfl, .inl rfl⟩ rfl ?_
            refine op0 (sp_pickF rfl rfl rfl) rfl trivial rfl rfl ?_
            refine op0 (sp_move rfl rfl) rfl trivial rfl rfl ?_
            refine opSkip rfl ⟨_, rfl, .inl rfl⟩ rfl ?_
            refine opSkip rfl ⟨_, rfl, .inl rfl⟩ rfl ?_
            refine opSkip rfl ⟨_, rfl, .inl rfl⟩ rfl ?_
            refine opSkip rfl ⟨_, rfl, .inl rfl⟩ rfl ?_
            refine op0 (sp_pickF rfl rfl rfl) rfl trivial rfl rfl ?_
            refine op0 (sp_move rfl rfl) rfl trivial rfl rfl ?_
            refine opSkip rfl ⟨_, rfl, .inl rfl⟩ rfl ?_
            refine op0 (sp_pickF rfl rfl rfl) rfl trivial rfl rfl ?_
            refine op0 (sp_move rfl rfl) rfl trivial rfl rfl ?_
            refine opSkip rfl ⟨_, rfl, .inl rfl⟩ rfl ?_
            refine op0 (sp_pickF rfl rfl rfl) rfl trivial rfl rfl ?_
            refine op0 (sp_assign rfl rfl) rfl trivial rfl rfl ?_
            refine TL.nil ?_
            cases h
            exact retJ [] (.tmp rfl .nil) rfl trivial rfl rfl
        · refine (boolLit 111 rfl h26).2 ?_
          refine opSkip rfl ⟨_, rfl, .inl rfl⟩ rfl ?_
          refine opSkip rfl ⟨_, rfl, .inl rfl⟩ rfl ?_
          refine op0 (sp_pickF rfl rfl rfl) rfl trivial rfl rfl ?_
          refine op0 (sp_move rfl rfl) rfl trivial rfl rfl ?_
          refine opSkip rfl ⟨_, rfl, .inl rfl⟩ rfl ?_
          refine opSkip rfl ⟨_, rfl, .inl rfl⟩ rfl ?_
          refine op0 (sp_pickF rfl rfl rfl) rfl trivial rfl rfl ?_
          refine op0 (sp_move rfl rfl) rfl trivial rfl rfl ?_
          refine opSkip rfl ⟨_, rfl, .inl rfl⟩ rfl ?_
          refine opSkip rfl ⟨_, rfl, .inl rfl⟩ rfl ?_
          refine opSkip rfl ⟨_, rfl, .inl rfl⟩ rfl ?_
          refine opSkip rfl ⟨_, rfl, .inl rfl⟩ rfl ?_
          refine op0 (sp_pickF rfl rfl rfl) rfl trivial rfl rfl ?_
          refine op0 (sp_move rfl rfl) rfl trivial rfl rfl ?_
          refine opSkip rfl ⟨_, rfl, .inl rfl⟩ rfl ?_
          refine op0 (sp_pickF rfl rfl rfl) rfl trivial rfl rfl ?_
          refine op0 (sp_move rfl rfl) rfl trivial rfl rfl ?_
          refine opSkip rfl ⟨_, rfl, .inl rfl⟩ rfl ?_
          refine op0 (sp_pickF rfl rfl rfl) rfl trivial rfl rfl ?_
          refine op0 (sp_assign rfl rfl) rfl trivial rfl rfl ?_
          refine TL.nil ?_
          cases h
          exact retJ [] (.tmp rfl .nil) rfl trivial rfl rfl
      · refine (boolLit 107 rfl h25).2 ?_
        refine opSkip rfl ⟨_, rfl, .inl rfl⟩ rfl ?_
        refine opSkip rfl ⟨_, rfl, .inl rfl⟩ rfl ?_
        refine op0 (sp_pickF rfl rfl rfl) rfl trivial rfl rfl ?_
        refine op0 (sp_move rfl rfl) rfl trivial rfl rfl ?_
        refine opSkip rfl ⟨_, rfl, .inl rfl⟩ rfl ?_
        refine opSkip rfl ⟨_, rfl, .inl rfl⟩ rfl ?_
        refine op0 (sp_pickF rfl rfl rfl) rfl trivial rfl rfl ?_
        refine op0 (sp_move rfl rfl) rfl trivial rfl rfl ?_
        refine opSkip rfl ⟨_, rfl, .inl rfl⟩ rfl ?_
        refine opSkip rfl ⟨_, rfl, .inl rfl⟩ rfl ?_
        refine op0 (sp_pickF rfl rfl rfl) rfl trivial rfl rfl ?_
        refine op0 (sp_move rfl rfl) rfl trivial rfl rfl ?_
        refine opSkip rfl ⟨_, rfl, .inl rfl⟩ rfl ?_
        refine opSkip rfl ⟨_, rfl, .inl rfl⟩ rfl ?_
        refine opSkip rfl ⟨_, rfl, .inl rfl⟩ rfl ?_
        refine opSkip rfl ⟨_, rfl, .inl rfl⟩ rfl ?_
        refine op0 (sp_pickF rfl rfl rfl) rfl trivial rfl rfl ?_
        refine op0 (sp_move rfl rfl) rfl trivial rfl rfl ?_
        refine opSkip rfl ⟨_, rfl, .inl rfl⟩ rfl ?_
        refine op0 (sp_pickF rfl rfl rfl) rfl trivial rfl rfl ?_
        refine op0 (sp_move rfl rfl) rfl trivial rfl rfl ?_
        refine opSkip rfl ⟨_, rfl, .inl rfl⟩ rfl ?_
        refine op0 (sp_pickF rfl rfl rfl) rfl trivial rfl rfl ?_
        refine op0 (sp_assign rfl rfl) rfl trivial rfl rfl ?_
        refine TL.nil ?_
        cases h
        exact retJ [] (.tmp rfl .nil) rfl trivial rfl rfl
def ev_top_TopBookStrike_j1 (n : Nat) (hour1 : Int) (missed2 : Int) : Option Bool :=
  chk (in64 (((Int.tmod hour1 40000) + 24) - (Int.tmod missed2 24))) <| chk (in64 ((((Int.tmod hour1 40000) + 24) - (Int.tmod missed2 24)) * 3600)) <| ev_top_TopBookStrike_l2 n missed2 hour1 n 0 ([(((((Int.tmod hour1 40000) + 24) - (Int.tmod missed2 24)) * 3600), 3, 0)] : List (Int × Int × Int)) ([] : List (Int × Bool))
set_option maxRecDepth 100000 in
set_option maxHeartbeats 2000000 in
theorem ok_top_TopBookStrike_j1 {n : Nat} {w0 : World} {R0 : Nat → Prop} {env0 : Env} {r : Bool} {hour1 : Int} {missed2 : Int} (h : ev_top_TopBookStrike_j1 n hour1 missed2 = some r) : TC Try.prog ⟨w0, fun _ => False, R0⟩ 131 (bodyPost Try.prog Try.f9 (Post ⟨w0, fun _ => False, R0⟩ env0 (.val (.bool r)) [])) [.code (sub (bodyOf Try.f9) [1, 1, 1, 1, 1, 0, 1, 1, 1]), .code (sub (bodyOf Try.f9) [1, 1, 1, 1, 1, 1])] ([(5, .val (.int .i64 ((Int.tmod hour1 40000) + 24))), (6, .val (.int .i64 (Int.tmod missed2 24)))]) ([]) := by
  rw [ev_top_TopBookStrike_j1] at h
  refine TC.skip ?_
  refine TC.seq ?_
  refine TC.region ?_
  refine op0 (sp_move rfl rfl) rfl trivial rfl rfl ?_
  refine op0 (sp_move rfl rfl) rfl trivial rfl rfl ?_
  obtain ⟨h15, h⟩ := chk_inv h
  refine op0 (sp_sub rfl rfl rfl h15) rfl trivial rfl rfl ?_
  obtain ⟨h16, h⟩ := chk_inv h
  refine op0 (sp_mul rfl rfl rfl h16) rfl trivial rfl rfl ?_
  refine op0 (sp_build (qs := [(0, .val (.int .i64 ((((Int.tmod hour1 40000) + 24) - (Int.tmod missed2 24)) * 3600))), (1, .val (.int .i64 3))]) rfl bt35 rfl rfl rfl rfl) rfl trivial rfl rfl ?_
  refine op0 (sp_buildSlice (qs := [.agg [.val (.int .i64 ((((Int.tmod hour1 40000) + 24) - (Int.tmod missed2 24)) * 3600)), .val (.int .i64 3), .val (.int .i64 0)]]) (need := []) (els := List.map en_api_BookEntry ([(((((Int.tmod hour1 40000) + 24) - (Int.tmod missed2 24)) * 3600), 3, 0)] : List (Int × Int × Int))) 2 rfl sl36 (by decide) (by decide) rfl rfl rfl (.v (.v (.v (.nil)))) (map_len fun _ => rfl) rfl rfl rfl) rfl trivial rfl rfl ?_
  refine op0 (sp_assign rfl rfl) rfl trivial rfl rfl ?_
  refine TL.nil ?_
  refine TC.seq ?_
  refine TC.region ?_
  refine op0 (sp_emptyM 3 (List.map en_api_StrikeStep []) rfl rfl sl125) rfl trivial rfl rfl ?_
  refine op0 (sp_assign rfl rfl) rfl trivial rfl rfl ?_
  refine TL.nil ?_
  refine TC.seq ?_
  refine TC.seq ?_
  refine TC.region ?_
  refine op0 (sp_assign rfl rfl) rfl trivial rfl rfl ?_
  refine TL.nil ?_
  refine TC.block ?_
  refine TC.loop ?_
  refine TC.seq ?_
  refine TC.seq ?_
  refine subJ [] (ok_top_TopBookStrike_l2 _ _ _ _ h) ?_ ?_ ?_
  · exact ⟨rfl, rfl, rfl, rfl, rfl, trivial⟩
  · exact ⟨mem_at 1 rfl, mem_at 0 rfl, trivial⟩
  · rfl
def ev_top_TopBookStrike_j0 (n : Nat) (r3 : Int × Bool × Int) (r4 : Int × Int) (hour1 : Int) (missed2 : Int) : Option Bool :=
  chk (in64 (Int.tdiv r3.1 3600000)) <| cond ((Int.tdiv r3.1 3600000) != r4.1) (cond ((Int.tdiv r3.1 3600000) == 0) (cond (!(r4.1 == 12)) (some false) (ev_top_TopBookStrike_j1 n hour1 missed2)) (some false)) (ev_top_TopBookStrike_j1 n hour1 missed2)
set_option maxRecDepth 100000 in
set_option maxHeartbeats 2000000 in
theorem ok_top_TopBookStrike_j0 {n : Nat} {w0 : World} {R0 : Nat → Prop} {env0 : Env} {r : Bool} {hour1 : Int} {missed2 : Int} {r3 : Int × Bool × Int} {r4 : Int × Int} (h : ev_top_TopBookStrike_j0 n r3 r4 hour1 missed2 = some r) : TC Try.prog ⟨w0, fun _ => False, R0⟩ 131 (bodyPost Try.prog Try.f9 (Post ⟨w0, fun _ => False, R0⟩ env0 (.val (.bool r)) [])) [.code (sub (bodyOf Try.f9) [1, 1, 1, 1, 0, 1, 1]), .code (sub (bodyOf Try.f9) [1, 1, 1, 1, 1])] ([(5, .val (.int .i64 ((Int.tmod hour1 40000) + 24))), (6, .val (.int .i64 (Int.tmod missed2 24))), (7, .val (.int .i64 r3.1)), (10, .val (.int .i64 r4.1))]) ([]) := by
  rw [ev_top_TopBookStrike_j0] at h
  refine TC.skip ?_
  refine TC.seq ?_
  refine TC.seq ?_
  refine TC.region ?_
  refine op0 (sp_move rfl rfl) rfl trivial rfl rfl ?_
  obtain ⟨h11, h⟩ := chk_inv h
  refine op0 (sp_quo rfl rfl rfl (by decide) h11) rfl trivial rfl rfl ?_
  refine op0 (sp_assign rfl rfl) rfl trivial rfl rfl ?_
  refine TL.nil ?_
  refine TC.seq ?_
  refine TC.region ?_
  refine op0 (sp_move rfl rfl) rfl trivial rfl rfl ?_
  refine op0 (sp_move rfl rfl) rfl trivial rfl rfl ?_
  refine op0 (sp_neq rfl rfl rfl) rfl trivial rfl rfl ?_
  refine op0 (sp_move rfl rfl) rfl trivial rfl rfl ?_
  rcases cond_cases h with ⟨h12, h⟩ | ⟨h12, h⟩
  · refine (boolLit 58 rfl h12).2 ?_
    refine op0 (sp_move rfl rfl) rfl ⟨_, rfl, rfl⟩ rfl rfl ?_
    refine op0 (sp_eql rfl rfl rfl) rfl ⟨_, rfl, rfl⟩ rfl rfl ?_
    refine op0 (sp_move rfl rfl) rfl ⟨_, rfl, rfl⟩ rfl rfl ?_
    rcases cond_cases h with ⟨h13, h⟩ | ⟨h13, h⟩
    · refine (boolLit 61 rfl h13).2 ?_
      refine op0 (sp_move rfl rfl) rfl ⟨_, rfl, rfl⟩ rfl rfl ?_
      refine op0 (sp_eql rfl rfl rfl) rfl ⟨_, rfl, rfl⟩ rfl rfl ?_
      refine op0 (sp_pickT rfl rfl rfl) rfl ⟨_, rfl, rfl⟩ rfl rfl ?_
      refine op0 (sp_not rfl rfl) rfl ⟨_, rfl, rfl⟩ rfl rfl ?_
      refine op0 (sp_pickT rfl rfl rfl) rfl trivial rfl rfl ?_
      refine TL.nil ?_
      refine TC.cond (b := (!(r4.1 == 12))) rfl (fun h14 => ?_) (fun h14 => ?_)
      · have h := cond_t h h14
        refine TC.seq ?_
        refine TC.region ?_
        refine op0 (sp_assign rfl rfl) rfl trivial rfl rfl ?_
        refine TL.nil ?_
        cases h
        exact retJ [] (.tmp rfl .nil) rfl trivial rfl rfl
      · have h := cond_f h h14
        refine subJ [] (ok_top_TopBookStrike_j1 h) ?_ ?_ ?_
        · exact ⟨rfl, rfl, trivial⟩
        · exact trivial
        · rfl
    · refine (boolLit 61 rfl h13).2 ?_
      refine opSkip rfl ⟨_, rfl, .inl rfl⟩ rfl ?_
      refine opSkip rfl ⟨_, rfl, .inl rfl⟩ rfl ?_
      refine op0 (sp_pickF rfl rfl rfl) rfl ⟨_, rfl, rfl⟩ rfl rfl ?_
      refine op0 (sp_not rfl rfl) rfl ⟨_, rfl, rfl⟩ rfl rfl ?_
      refine op0 (sp_pickT rfl rfl rfl) rfl trivial rfl rfl ?_
      refine TL.nil ?_
      refine TC.condT rfl ?_
      refine TC.seq ?_
      refine TC.region ?_
      refine op0 (sp_assign rfl rfl) rfl trivial rfl rfl ?_
      refine TL.nil ?_
      cases h
      exact retJ [] (.tmp rfl .nil) rfl trivial rfl rfl
  · refine (boolLit 58 rfl h12).2 ?_
    refine opSkip rfl ⟨_, rfl, .inl rfl⟩ rfl ?_
    refine opSkip rfl ⟨_, rfl, .inl rfl⟩ rfl ?_
    refine opSkip rfl ⟨_, rfl, .inl rfl⟩ rfl ?_
    refine opSkip rfl ⟨_, rfl, .inr rfl⟩ rfl ?_
    refine opSkip rfl ⟨_, rfl, .inr rfl⟩ rfl ?_
    refine opSkip rfl ⟨_, rfl, .inl rfl⟩ rfl ?_
    refine opSkip rfl ⟨_, rfl, .inl rfl⟩ rfl ?_
    refine op0 (sp_pickF rfl rfl rfl) rfl trivial rfl rfl ?_
    refine TL.nil ?_
    refine TC.condF rfl ?_
    refine subJ [] (ok_top_TopBookStrike_j1 h) ?_ ?_ ?_
    · exact ⟨rfl, rfl, trivial⟩
    · exact trivial
    · rfl
def ev_top_TopBookStrike (n : Nat) (hour1 : Int) (missed2 : Int) : Option Bool :=
  chk (in64 hour1) <| chk (in64 ((Int.tmod hour1 40000) + 24)) <| chk (in64 missed2) <| chk (in64 (((Int.tmod hour1 40000) + 24) * 3600)) <| (ev_book_Hands n ([]) (((Int.tmod hour1 40000) + 24) * 3600)).bind fun r3 => (ev_strike_Blows n false false ([]) ((Int.tmod hour1 40000) + 24)).bind fun r4 => cond (r3.2.2 != 0) (some false) (cond (r4.2 != 0) (some false) (cond (!r3.2.1) (some false) (cond ((Int.tmod r3.1 3600000) != 0) (some false) (ev_top_TopBookStrike_j0 n r3 r4 hour1 missed2))))
set_option maxRecDepth 100000 in
set_option maxHeartbeats 2000000 in
theorem fc_top_TopBookStrike {n : Nat} {hour1 : Int} {missed2 : Int} {r : Bool} (h : ev_top_TopBookStrike n hour1 missed2 = some r) : FC Try.prog 9 [.val (.int .u16 hour1), .val (.int .u8 missed2)] [] (.val (.bool r)) [] := by
  refine introJ (nz := 131) Try.func9 rfl rfl rfl (fun w0 R0 env0 => ?_)
  rw [ev_top_TopBookStrike] at h
  refine TC.seq ?_
  refine TC.region ?_
  refine op0 (sp_assign rfl rfl) rfl trivial rfl rfl ?_
  refine TL.nil ?_
  refine TC.seq ?_
  refine TC.region ?_
  refine op0 (sp_move rfl rfl) rfl trivial rfl rfl ?_
  obtain ⟨h1, h⟩ := chk_inv h
  refine op0 (sp_conv rfl Try.underlying22 Try.underlying3 rfl h1) rfl trivial rfl rfl ?_
  refine op0 (sp_rem rfl rfl rfl (by decide)) rfl trivial rfl rfl ?_
  obtain ⟨h2, h⟩ := chk_inv h
  refine op0 (sp_add rfl rfl rfl h2) rfl trivial rfl rfl ?_
  refine op0 (sp_move rfl rfl) rfl trivial rfl rfl ?_
  obtain ⟨h3, h⟩ := chk_inv h
  refine op0 (sp_conv rfl Try.underlying5 Try.underlying3 rfl h3) rfl trivial rfl rfl ?_
  refine op0 (sp_rem rfl rfl rfl (by decide)) rfl trivial rfl rfl ?_
  refine op0 (sp_assign rfl rfl) rfl trivial rfl rfl ?_
  refine op0 (sp_assign rfl rfl) rfl trivial rfl rfl ?_
  refine TL.nil ?_
  refine TC.seq ?_
  refine TC.region ?_
  refine op0 (sp_move rfl rfl) rfl trivial rfl rfl ?_
  obtain ⟨h4, h⟩ := chk_inv h
  refine op0 (sp_mul rfl rfl rfl h4) rfl trivial rfl rfl ?_
  obtain ⟨r3, h5, h⟩ := bind_inv h
  refine op0 (sp_call (avs := [.val (.slice none 0 0), .val (.int .i64 (((Int.tmod hour1 40000) + 24) * 3600))]) (need := []) (v := .tup [.val (.int .i64 r3.1), .val (.bool r3.2.1), .val (.int .i64 r3.2.2)]) (news := []) rfl rfl rfl Try.call23 (FC.nil (args := [.ref 0, .val (.int .i64 (((Int.tmod hour1 40000) + 24) * 3600))]) 0 3 (atJ [] [] (fc_book_Hands h5) rfl rfl) rfl rfl rfl) (.inl (roAll rfl))) rfl trivial rfl rfl ?_
  refine op0 (sp_move rfl rfl) rfl trivial rfl rfl ?_
  refine op0 (sp_extract rfl rfl rfl) rfl trivial rfl rfl ?_
  refine op0 (sp_extract rfl rfl rfl) rfl trivial rfl rfl ?_
  refine op0 (sp_extract rfl rfl rfl) rfl trivial rfl rfl ?_
  refine op0 (sp_assign rfl rfl) rfl trivial rfl rfl ?_
  refine op0 (sp_assign rfl rfl) rfl trivial rfl rfl ?_
  refine op0 (sp_assign rfl rfl) rfl trivial rfl rfl ?_
  refine TL.nil ?_
  refine TC.seq ?_
  refine TC.region ?_
  refine op0 (sp_build (qs := []) rfl bt124 rfl rfl rfl rfl) rfl trivial rfl rfl ?_
  refine op0 (sp_move rfl rfl) rfl trivial rfl rfl ?_
  obtain ⟨r4, h6, h⟩ := bind_inv h
  refine op0 (sp_call (avs := [.agg [.val (.bool false), .val (.bool false), .val (.slice none 0 0)], .val (.int .i64 ((Int.tmod hour1 40000) + 24))]) (need := []) (v := .tup [.val (.int .i64 r4.1), .val (.int .i64 r4.2)]) (news := []) rfl rfl rfl Try.call45 (FC.nil (args := [.agg [.val (.bool false), .val (.bool false), .ref 1], .val (.int .i64 ((Int.tmod hour1 40000) + 24))]) 1 2 (atJ [(0, 1)] [] (fc_strike_Blows h6) rfl rfl) rfl rfl rfl) (.inl (roAll rfl))) rfl trivial rfl rfl ?_
  refine op0 (sp_move rfl rfl) rfl trivial rfl rfl ?_
  refine op0 (sp_extract rfl rfl rfl) rfl trivial rfl rfl ?_
  refine op0 (sp_extract rfl rfl rfl) rfl trivial rfl rfl ?_
  refine op0 (sp_assign rfl rfl) rfl trivial rfl rfl ?_
  refine op0 (sp_assign rfl rfl) rfl trivial rfl rfl ?_
  refine TL.nil ?_
  refine TC.seq ?_
  refine TC.seq ?_
  refine TC.region ?_
  refine op0 (sp_move rfl rfl) rfl trivial rfl rfl ?_
  refine op0 (sp_neq rfl rfl rfl) rfl trivial rfl rfl ?_
  refine op0 (sp_move rfl rfl) rfl trivial rfl rfl ?_
  rcases cond_cases h with ⟨h7, h⟩ | ⟨h7, h⟩
  · refine (boolLit 40 rfl h7).2 ?_
    refine opSkip rfl ⟨_, rfl, .inl rfl⟩ rfl ?_
    refine opSkip rfl ⟨_, rfl, .inl rfl⟩ rfl ?_
    refine op0 (sp_pickT rfl rfl rfl) rfl trivial rfl rfl ?_
    refine op0 (sp_move rfl rfl) rfl trivial rfl rfl ?_
    refine opSkip rfl ⟨_, rfl, .inl rfl⟩ rfl ?_
    refine opSkip rfl ⟨_, rfl, .inl rfl⟩ rfl ?_
    refine op0 (sp_pickT rfl rfl rfl) rfl trivial rfl rfl ?_
    refine op0 (sp_move rfl rfl) rfl trivial rfl rfl ?_
    refine opSkip rfl ⟨_, rfl, .inl rfl⟩ rfl ?_
    refine opSkip rfl ⟨_, rfl, .inl rfl⟩ rfl ?_
    refine opSkip rfl ⟨_, rfl, .inl rfl⟩ rfl ?_
    refine op0 (sp_pickT rfl rfl rfl) rfl trivial rfl rfl ?_
    refine TL.nil ?_
    refine TC.condT rfl ?_
    refine TC.seq ?_
    refine TC.region ?_
    refine op0 (sp_assign rfl rfl) rfl trivial rfl rfl ?_
    refine TL.nil ?_
    cases h
    exact retJ [] (.tmp rfl .nil) rfl trivial rfl rfl
  · refine (boolLit 40 rfl h7).2 ?_
    refine op0 (sp_move rfl rfl) rfl ⟨_, rfl, rfl⟩ rfl rfl ?_
    refine op0 (sp_neq rfl rfl rfl) rfl ⟨_, rfl, rfl⟩ rfl rfl ?_
    refine op0 (sp_pickF rfl rfl rfl) rfl trivial rfl rfl ?_
    refine op0 (sp_move rfl rfl) rfl trivial rfl rfl ?_
    rcases cond_cases h with ⟨h8, h⟩ | ⟨h8, h⟩
    · refine (boolLit 44 rfl h8).2 ?_
      refine opSkip rfl ⟨_, rfl, .inl rfl⟩ rfl ?_
      refine opSkip rfl ⟨_, rfl, .inl rfl⟩ rfl ?_
      refine op0 (sp_pickT rfl rfl rfl) rfl trivial rfl rfl ?_
      refine op0 (sp_move rfl rfl) rfl trivial rfl rfl ?_
      refine opSkip rfl ⟨_, rfl, .inl rfl⟩ rfl ?_
      refine opSkip rfl ⟨_, rfl, .inl rfl⟩ rfl ?_
      refine opSkip rfl ⟨_, rfl, .inl rfl⟩ rfl ?_
      refine op0 (sp_pickT rfl rfl rfl) rfl trivial rfl rfl ?_
      refine TL.nil ?_
      refine TC.condT rfl ?_
      refine TC.seq ?_
      refine TC.region ?_
      refine op0 (sp_assign rfl rfl) rfl trivial rfl rfl ?_
      refine TL.nil ?_
      cases h
      exact retJ [] (.tmp rfl .nil) rfl trivial rfl rfl
    · refine (boolLit 44 rfl h8).2 ?_
      refine op0 (sp_move rfl rfl) rfl ⟨_, rfl, rfl⟩ rfl rfl ?_
      refine op0 (sp_not rfl rfl) rfl ⟨_, rfl, rfl⟩ rfl rfl ?_
      refine op0 (sp_pickF rfl rfl rfl) rfl trivial rfl rfl ?_
      refine op0 (sp_move rfl rfl) rfl trivial rfl rfl ?_
      rcases cond_cases h with ⟨h9, h⟩ | ⟨h9, h⟩
      · refine (boolLit 48 rfl h9).2 ?_
        refine opSkip rfl ⟨_, rfl, .inl rfl⟩ rfl ?_
        refine opSkip rfl ⟨_, rfl, .inl rfl⟩ rfl ?_
        refine opSkip rfl ⟨_, rfl, .inl rfl⟩ rfl ?_
        refine op0 (sp_pickT rfl rfl rfl) rfl trivial rfl rfl ?_
        refine TL.nil ?_
        refine TC.condT rfl ?_
        refine TC.seq ?_
        refine TC.region ?_
        refine op0 (sp_assign rfl rfl) rfl trivial rfl rfl ?_
        refine TL.nil ?_
        cases h
        exact retJ [] (.tmp rfl .nil) rfl trivial rfl rfl
      · refine (boolLit 48 rfl h9).2 ?_
        refine op0 (sp_move rfl rfl) rfl ⟨_, rfl, rfl⟩ rfl rfl ?_
        refine op0 (sp_rem rfl rfl rfl (by decide)) rfl ⟨_, rfl, rfl⟩ rfl rfl ?_
        refine op0 (sp_neq rfl rfl rfl) rfl ⟨_, rfl, rfl⟩ rfl rfl ?_
        refine op0 (sp_pickF rfl rfl rfl) rfl trivial rfl rfl ?_
        refine TL.nil ?_
        refine TC.cond (b := ((Int.tmod r3.1 3600000) != 0)) rfl (fun h10 => ?_) (fun h10 => ?_)
        · have h := cond_t h h10
          refine TC.seq ?_
          refine TC.region ?_
          refine op0 (sp_assign rfl rfl) rfl trivial rfl rfl ?_
          refine TL.nil ?_
          cases h
          exact retJ [] (.tmp rfl .nil) rfl trivial rfl rfl
        · have h := cond_f h h10
          refine subJ [] (ok_top_TopBookStrike_j0 h) ?_ ?_ ?_
          · exact ⟨rfl, rfl, rfl, rfl, trivial⟩
          · exact trivial
          · rfl
end
end Go.Proofs.Ytmgcinejodpopaa.Sy
