/- What functions of the program compute, and that they do: printed by symgen.py. -/
import Derived.Test.YtmgcinejodpopaaGLib
import Derived.Test.YtmgcinejodpopaaGBook
import Derived.Test.YtmgcinejodpopaaGPulse
set_option linter.unusedSimpArgs false
set_option linter.unusedVariables false
namespace Go.Proofs.Ytmgcinejodpopaa.Sy
open Go.RowKit
noncomputable section

/- top_TopPulseBook -/
def ev_top_TopPulseBook_j2 (n : Nat) (from_1 : Int) (many2 : Int) (l11 : List (Int × Int × Int)) (l12 : List (Int × Int)) : Option Bool :=
  chk (room 16 (([] : List (Int × Int)).length + l12.length)) <| (ev_pulse_Run n 0 0 0 (Int.tmod ((Int.tmod from_1 50000) + 1) 720) ((Int.tmod from_1 50000) + 1) (([] : List (Int × Int)) ++ l12) (((Int.tmod from_1 50000) + 1) + many2)).bind fun r13 => chk (in64 ((60 : Int) * (((Int.tmod from_1 50000) + 1) + many2))) <| (ev_book_Hands n l11 ((60 : Int) * (((Int.tmod from_1 50000) + 1) + many2))).bind fun r14 => cond (r13.2 == 0) (cond (r14.2.2 == 0) (chk (in64 ((60000 : Int) * r13.1)) <| cond (r14.1 == ((60000 : Int) * r13.1)) ((ev_top_pubPulse n).bind fun r15 => cond r15 ((ev_top_pubBook n).bind fun r16 => some r16) (some false)) (some false)) (some false)) (some false)
set_option maxRecDepth 100000 in
set_option maxHeartbeats 2000000 in
theorem ok_top_TopPulseBook_j2 {n : Nat} {w0 : World} {R0 : Nat → Prop} {env0 : Env} {r : Bool} {from_1 : Int} {many2 : Int} {l11 : List (Int × Int × Int)} {l12 : List (Int × Int)} (h : ev_top_TopPulseBook_j2 n from_1 many2 l11 l12 = some r) : TC Try.prog ⟨w0, fun _ => False, R0⟩ 125 (bodyPost Try.prog Try.f5 (Post ⟨w0, fun _ => False, R0⟩ env0 (.val (.bool r)) [])) [.code (sub (bodyOf Try.f5) [1, 1, 1, 1, 1, 0]), .code (sub (bodyOf Try.f5) [1, 1, 1, 1, 1, 1])] ([(7, .val (.int .i64 ((Int.tmod from_1 50000) + 1))), (8, .val (.int .i64 (((Int.tmod from_1 50000) + 1) + many2))), (9, .ref 1), (10, .ref 2)]) ([.row 1 35 3 (List.map en_api_BookEntry l11), .row 2 60 2 (List.map en_api_PulseFault l12)]) := by
  rw [ev_top_TopPulseBook_j2] at h
  refine TC.region ?_
  refine op0 (sp_build (qs := []) rfl bt65 rfl rfl rfl rfl) rfl trivial rfl rfl ?_
  refine op0 (sp_move rfl rfl) rfl trivial rfl rfl ?_
  refine op0 (sp_rem rfl rfl rfl (by decide)) rfl trivial rfl rfl ?_
  refine op0 (sp_move rfl rfl) rfl trivial rfl rfl ?_
  refine op0 (sp_emptyM 3 (List.map en_api_PulseFault []) rfl rfl sl57) rfl trivial rfl rfl ?_
  refine op0 (sp_move rfl rfl) rfl trivial rfl rfl ?_
  obtain ⟨h13, h⟩ := chk_inv h
  refine appM 0 2 (N := ([] : List (Int × Int)).length) (N2 := l12.length) 4 rfl rfl trivial rfl rfl rfl rfl rfl isOwn rfl sl57 (len_map _ _) (len_map _ _) h13 (map_app _ _ _) rfl ?_
  refine op0 (sp_move rfl rfl) rfl trivial rfl rfl ?_
  obtain ⟨r13, h14, h⟩ := bind_inv h
  refine op1 0 rfl (sp_call (avs := [.agg [.val (.int .i64 0), .val (.int .i64 0), .val (.int .i64 0)], .val (.int .i64 (Int.tmod ((Int.tmod from_1 50000) + 1) 720)), .val (.int .i64 ((Int.tmod from_1 50000) + 1)), .ref 4, .val (.int .i64 (((Int.tmod from_1 50000) + 1) + many2))]) (need := [.row 4 60 2 (List.map en_api_PulseFault (([] : List (Int × Int)) ++ l12))]) (v := .tup [.val (.int .i64 r13.1), .val (.int .i64 r13.2)]) (news := []) rfl rfl rfl Try.call22 (atJ [(0, 4)] [] (fc_pulse_Run h14) rfl rfl) (.inr (fun x hx => nomatch hx))) rfl trivial rfl rfl ?_
  refine op0 (sp_move rfl rfl) rfl trivial rfl rfl ?_
  refine op0 (sp_extract rfl rfl rfl) rfl trivial rfl rfl ?_
  refine op0 (sp_extract rfl rfl rfl) rfl trivial rfl rfl ?_
  refine op0 (sp_assign rfl rfl) rfl trivial rfl rfl ?_
  refine op0 (sp_assign rfl rfl) rfl trivial rfl rfl ?_
  refine TL.nil ?_
  refine TC.seq ?_
  refine TC.region ?_
  refine op0 (sp_move rfl rfl) rfl trivial rfl rfl ?_
  refine op0 (sp_move rfl rfl) rfl trivial rfl rfl ?_
  obtain ⟨h15, h⟩ := chk_inv h
  refine op0 (sp_mul rfl rfl rfl h15) rfl trivial rfl rfl ?_
  obtain ⟨r14, h16, h⟩ := bind_inv h
  refine op1 1 rfl (sp_call (avs := [.ref 1, .val (.int .i64 ((60 : Int) * (((Int.tmod from_1 50000) + 1) + many2)))]) (need := [.row 1 35 3 (List.map en_api_BookEntry l11)]) (v := .tup [.val (.int .i64 r14.1), .val (.bool r14.2.1), .val (.int .i64 r14.2.2)]) (news := []) rfl rfl rfl Try.call23 (atJ [(0, 1)] [] (fc_book_Hands h16) rfl rfl) (.inr (fun x hx => nomatch hx))) rfl trivial rfl rfl ?_
  refine op0 (sp_move rfl rfl) rfl trivial rfl rfl ?_
  refine op0 (sp_extract rfl rfl rfl) rfl trivial rfl rfl ?_
  refine op0 (sp_extract rfl rfl rfl) rfl trivial rfl rfl ?_
  refine op0 (sp_extract rfl rfl rfl) rfl trivial rfl rfl ?_
  refine op0 (sp_assign rfl rfl) rfl trivial rfl rfl ?_
  refine op0 (sp_assign rfl rfl) rfl trivial rfl rfl ?_
  refine op0 (sp_assign rfl rfl) rfl trivial rfl rfl ?_
  refine TL.nil ?_
  refine TC.seq ?_
  refine TC.region ?_
  refine op0 (sp_move rfl rfl) rfl trivial rfl rfl ?_
  refine op0 (sp_eql rfl rfl rfl) rfl trivial rfl rfl ?_
  refine op0 (sp_move rfl rfl) rfl trivial rfl rfl ?_
  rcases cond_cases h with ⟨h17, h⟩ | ⟨h17, h⟩
  · refine (boolLit 109 rfl h17).2 ?_
    refine op0 (sp_move rfl rfl) rfl ⟨_, rfl, rfl⟩ rfl rfl ?_
    refine op0 (sp_eql rfl rfl rfl) rfl ⟨_, rfl, rfl⟩ rfl rfl ?_
    refine op0 (sp_pickT rfl rfl rfl) rfl trivial rfl rfl ?_
    refine op0 (sp_move rfl rfl) rfl trivial rfl rfl ?_
    rcases cond_cases h with ⟨h18, h⟩ | ⟨h18, h⟩
    · refine (boolLit 113 rfl h18).2 ?_
      refine op0 (sp_move rfl rfl) rfl ⟨_, rfl, rfl⟩ rfl rfl ?_
      refine op0 (sp_move rfl rfl) rfl ⟨_, rfl, rfl⟩ rfl rfl ?_
      obtain ⟨h19, h⟩ := chk_inv h
      refine op0 (sp_mul rfl rfl rfl h19) rfl ⟨_, rfl, rfl⟩ rfl rfl ?_
      refine op0 (sp_eql rfl rfl rfl) rfl ⟨_, rfl, rfl⟩ rfl rfl ?_
      refine op0 (sp_pickT rfl rfl rfl) rfl trivial rfl rfl ?_
      refine op0 (sp_move rfl rfl) rfl trivial rfl rfl ?_
      rcases cond_cases h with ⟨h20, h⟩ | ⟨h20, h⟩
      · refine (boolLit 119 rfl h20).2 ?_
        obtain ⟨r15, h21, h⟩ := bind_inv h
        refine op0 (sp_call (avs := []) (need := []) (v := .val (.bool r15)) (news := []) rfl rfl rfl Try.call24 (atJ [] [] (fc_top_pubPulse h21) rfl rfl) (.inl (roAll rfl))) rfl ⟨_, rfl, rfl⟩ rfl rfl ?_
        refine op0 (sp_pickT rfl rfl rfl) rfl trivial rfl rfl ?_
        refine op0 (sp_move rfl rfl) rfl trivial rfl rfl ?_
        rcases cond_cases h with ⟨h22, h⟩ | ⟨h22, h⟩
        · refine (boolLit 122 rfl h22).2 ?_
          obtain ⟨r16, h23, h⟩ := bind_inv h
          refine op0 (sp_call (avs := []) (need := []) (v := .val (.bool r16)) (news := []) rfl rfl rfl Try.call18 (atJ [] [] (fc_top_pubBook h23) rfl rfl) (.inl (roAll rfl))) rfl ⟨_, rfl, rfl⟩ rfl rfl ?_
          refine op0 (sp_pickT rfl rfl rfl) rfl trivial rfl rfl ?_
          refine op0 (sp_assign rfl rfl) rfl trivial rfl rfl ?_
          refine TL.nil ?_
          cases h
          exact retJ [] (.tmp rfl .nil) rfl trivial rfl rfl
        · refine (boolLit 122 rfl h22).2 ?_
          refine opSkip rfl ⟨_, rfl, .inl rfl⟩ rfl ?_
          refine op0 (sp_pickF rfl rfl rfl) rfl trivial rfl rfl ?_
          refine op0 (sp_assign rfl rfl) rfl trivial rfl rfl ?_
          refine TL.nil ?_
          cases h
          exact retJ [] (.tmp rfl .nil) rfl trivial rfl rfl
      · refine (boolLit 119 rfl h20).2 ?_
        refine opSkip rfl ⟨_, rfl, .inl rfl⟩ rfl ?_
        refine op0 (sp_pickF rfl rfl rfl) rfl trivial rfl rfl ?_
        refine op0 (sp_move rfl rfl) rfl trivial rfl rfl ?_
        refine opSkip rfl ⟨_, rfl, .inl rfl⟩ rfl ?_
        refine op0 (sp_pickF rfl rfl rfl) rfl trivial rfl rfl ?_
        refine op0 (sp_assign rfl rfl) rfl trivial rfl rfl ?_
        refine TL.nil ?_
        cases h
        exact retJ [] (.tmp rfl .nil) rfl trivial rfl rfl
    · refine (boolLit 113 rfl h18).2 ?_
      refine opSkip rfl ⟨_, rfl, .inl rfl⟩ rfl ?_
      refine opSkip rfl ⟨_, rfl, .inl rfl⟩ rfl ?_
      refine opSkip rfl ⟨_, rfl, .inl rfl⟩ rfl ?_
      refine opSkip rfl ⟨_, rfl, .inl rfl⟩ rfl ?_
      refine op0 (sp_pickF rfl rfl rfl) rfl trivial rfl rfl ?_
      refine op0 (sp_move rfl rfl) rfl trivial rfl rfl ?_
      refine opSkip rfl ⟨_, rfl, .inl rfl⟩ rfl ?_
      refine op0 (sp_pickF rfl rfl rfl) rfl trivial rfl rfl ?_
      refine op0 (sp_move rfl rfl) rfl trivial rfl rfl ?_
      refine opSkip rfl ⟨_, rfl, .inl rfl⟩ rfl ?_
      refine op0 (sp_pickF rfl rfl rfl) rfl trivial rfl rfl ?_
      refine op0 (sp_assign rfl rfl) rfl trivial rfl rfl ?_
      refine TL.nil ?_
      cases h
      exact retJ [] (.tmp rfl .nil) rfl trivial rfl rfl
  · refine (boolLit 109 rfl h17).2 ?_
    refine opSkip rfl ⟨_, rfl, .inl rfl⟩ rfl ?_
    refine opSkip rfl ⟨_, rfl, .inl rfl⟩ rfl ?_
    refine op0 (sp_pickF rfl rfl rfl) rfl trivial rfl rfl ?_
    refine op0 (sp_move rfl rfl) rfl trivial rfl rfl ?_
    refine opSkip rfl ⟨_, rfl, .inl rfl⟩ rfl ?_
    refine opSkip rfl ⟨_, rfl, .inl rfl⟩ rfl ?_
    refine opSkip rfl ⟨_, rfl, .inl rfl⟩ rfl ?_
    refine opSkip rfl ⟨_, rfl, .inl rfl⟩ rfl ?_
    refine op0 (sp_pickF rfl rfl rfl) rfl trivial rfl rfl ?_
    refine op0 (sp_move rfl rfl) rfl trivial rfl rfl ?_
    refine opSkip rfl ⟨_, rfl, .inl rfl⟩ rfl ?_
    refine op0 (sp_pickF rfl rfl rfl) rfl trivial rfl rfl ?_
    refine op0 (sp_move rfl rfl) rfl trivial rfl rfl ?_
    refine opSkip rfl ⟨_, rfl, .inl rfl⟩ rfl ?_
    refine op0 (sp_pickF rfl rfl rfl) rfl trivial rfl rfl ?_
    refine op0 (sp_assign rfl rfl) rfl trivial rfl rfl ?_
    refine TL.nil ?_
    cases h
    exact retJ [] (.tmp rfl .nil) rfl trivial rfl rfl
def ev_top_TopPulseBook_j1 (n : Nat) (l7 : List Int) (i6 : Int) (i4 : Int) (from_1 : Int) (many2 : Int) (l8 : List (Int × Int × Int)) (l9 : List (Int × Int)) (i5 : Int) (k_top_TopPulseBook_l0 : Int → Int → Int → (List Int) → (List (Int × Int × Int)) → (List (Int × Int)) → Option Bool) : Option Bool :=
  idx l7 i6 fun x10 => chk (in64 x10) <| chk (in64 ((1 : Int) + (Int.tmod x10 20))) <| chk (in64 (i4 + ((1 : Int) + (Int.tmod x10 20)))) <| cond (decide ((((Int.tmod from_1 50000) + 1) + many2) < (i4 + ((1 : Int) + (Int.tmod x10 20))))) (ev_top_TopPulseBook_j2 n from_1 many2 l8 l9) (chk (room 16 (l9.length + ([((i4 + ((1 : Int) + (Int.tmod x10 20))), 1)] : List (Int × Int)).length)) <| cond (decide ((0 : Int) < (l8.length : Int))) (chk (in64 ((i4 + ((1 : Int) + (Int.tmod x10 20))) - 1)) <| cond (i5 == ((i4 + ((1 : Int) + (Int.tmod x10 20))) - 1)) (chk (in64 ((l8.length : Int) - 1)) <| chk (decide (0 ≤ (((l8.length : Int) - 1) : Int)) && decide ((((l8.length : Int) - 1) : Int) ≤ (l8.length : Int))) <| chk (in64 ((60 : Int) * (i4 + ((1 : Int) + (Int.tmod x10 20))))) <| chk (room 24 ((List.take (((l8.length : Int) - 1) : Int).toNat l8).length + ([(((60 : Int) * (i4 + ((1 : Int) + (Int.tmod x10 20)))), 4, 0)] : List (Int × Int × Int)).length)) <| chk (in64 (i6 + 1)) <| k_top_TopPulseBook_l0 (i4 + ((1 : Int) + (Int.tmod x10 20))) (i4 + ((1 : Int) + (Int.tmod x10 20))) (i6 + 1) l7 ((List.take (((l8.length : Int) - 1) : Int).toNat l8) ++ ([(((60 : Int) * (i4 + ((1 : Int) + (Int.tmod x10 20)))), 4, 0)] : List (Int × Int × Int))) (l9 ++ ([((i4 + ((1 : Int) + (Int.tmod x10 20))), 1)] : List (Int × Int)))) (chk (in64 ((i4 + ((1 : Int) + (Int.tmod x10 20))) - 1)) <| chk (in64 ((60 : Int) * ((i4 + ((1 : Int) + (Int.tmod x10 20))) - 1))) <| chk (room 24 (l8.length + ([(((60 : Int) * ((i4 + ((1 : Int) + (Int.tmod x10 20))) - 1)), 3, 0)] : List (Int × Int × Int)).length)) <| chk (in64 ((60 : Int) * (i4 + ((1 : Int) + (Int.tmod x10 20))))) <| chk (room 24 ((l8 ++ ([(((60 : Int) * ((i4 + ((1 : Int) + (Int.tmod x10 20))) - 1)), 3, 0)] : List (Int × Int × Int))).length + ([(((60 : Int) * (i4 + ((1 : Int) + (Int.tmod x10 20)))), 4, 0)] : List (Int × Int × Int)).length)) <| chk (in64 (i6 + 1)) <| k_top_TopPulseBook_l0 (i4 + ((1 : Int) + (Int.tmod x10 20))) (i4 + ((1 : Int) + (Int.tmod x10 20))) (i6 + 1) l7 ((l8 ++ ([(((60 : Int) * ((i4 + ((1 : Int) + (Int.tmod x10 20))) - 1)), 3, 0)] : List (Int × Int × Int))) ++ ([(((60 : Int) * (i4 + ((1 : Int) + (Int.tmod x10 20)))), 4, 0)] : List (Int × Int × Int))) (l9 ++ ([((i4 + ((1 : Int) + (Int.tmod x10 20))), 1)] : List (Int × Int))))) (chk (in64 ((i4 + ((1 : Int) + (Int.tmod x10 20))) - 1)) <| chk (in64 ((60 : Int) * ((i4 + ((1 : Int) + (Int.tmod x10 20))) - 1))) <| chk (room 24 (l8.length + ([(((60 : Int) * ((i4 + ((1 : Int) + (Int.tmod x10 20))) - 1)), 3, 0)] : List (Int × Int × Int)).length)) <| chk (in64 ((60 : Int) * (i4 + ((1 : Int) + (Int.tmod x10 20))))) <| chk (room 24 ((l8 ++ ([(((60 : Int) * ((i4 + ((1 : Int) + (Int.tmod x10 20))) - 1)), 3, 0)] : List (Int × Int × Int))).length + ([(((60 : Int) * (i4 + ((1 : Int) + (Int.tmod x10 20)))), 4, 0)] : List (Int × Int × Int)).length)) <| chk (in64 (i6 + 1)) <| k_top_TopPulseBook_l0 (i4 + ((1 : Int) + (Int.tmod x10 20))) (i4 + ((1 : Int) + (Int.tmod x10 20))) (i6 + 1) l7 ((l8 ++ ([(((60 : Int) * ((i4 + ((1 : Int) + (Int.tmod x10 20))) - 1)), 3, 0)] : List (Int × Int × Int))) ++ ([(((60 : Int) * (i4 + ((1 : Int) + (Int.tmod x10 20)))), 4, 0)] : List (Int × Int × Int))) (l9 ++ ([((i4 + ((1 : Int) + (Int.tmod x10 20))), 1)] : List (Int × Int)))))
set_option maxRecDepth 100000 in
set_option maxHeartbeats 2000000 in
theorem ok_top_TopPulseBook_j1 {n : Nat} {w0 : World} {R0 : Nat → Prop} {env0 : Env} {r : Bool} {from_1 : Int} {many2 : Int} {l7 : List Int} {i6 : Int} {i4 : Int} {l8 : List (Int × Int × Int)} {l9 : List (Int × Int)} {i5 : Int} {k_top_TopPulseBook_l0 : Int → Int → Int → (List Int) → (List (Int × Int × Int)) → (List (Int × Int)) → Option Bool} (hk_top_TopPulseBook_l0 : ∀ (i4 : Int) (i5 : Int) (i6 : Int) (l7 : List Int) (l8 : List (Int × Int × Int)) (l9 : List (Int × Int)), k_top_TopPulseBook_l0 i4 i5 i6 l7 l8 l9 = some r → TC Try.prog ⟨w0, fun _ => False, R0⟩ 125 (bodyPost Try.prog Try.f5 (Post ⟨w0, fun _ => False, R0⟩ env0 (.val (.bool r)) [])) [.code (sub (bodyOf Try.f5) [1, 1, 1, 1, 0, 1, 0, 0, 0, 0]), .code (sub (bodyOf Try.f5) [1, 1, 1, 1, 0, 1, 0, 0, 0, 1]), .code (sub (bodyOf Try.f5) [1, 1, 1, 1, 0, 1, 0, 0, 1]), .inLoop (sub (bodyOf Try.f5) [1, 1, 1, 1, 0, 1, 0, 0]), .inBlock 0, .code (sub (bodyOf Try.f5) [1, 1, 1, 1, 1])] ([(2, .ref 0), (7, .val (.int .i64 ((Int.tmod from_1 50000) + 1))), (8, .val (.int .i64 (((Int.tmod from_1 50000) + 1) + many2))), (9, .ref 1), (10, .ref 2), (11, .val (.int .i64 i4)), (12, .val (.int .i64 i5)), (13, .val (.int .i64 i6))]) ([.ro 0 1 (List.map en_uint8 l7), .row 1 35 3 (List.map en_api_BookEntry l8), .row 2 60 2 (List.map en_api_PulseFault l9)])) (h : ev_top_TopPulseBook_j1 n l7 i6 i4 from_1 many2 l8 l9 i5 k_top_TopPulseBook_l0 = some r) : TC Try.prog ⟨w0, fun _ => False, R0⟩ 125 (bodyPost Try.prog Try.f5 (Post ⟨w0, fun _ => False, R0⟩ env0 (.val (.bool r)) [])) [.code (sub (bodyOf Try.f5) [1, 1, 1, 1, 0, 1, 0, 0, 0, 1, 0]), .code (sub (bodyOf Try.f5) [1, 1, 1, 1, 0, 1, 0, 0, 1]), .inLoop (sub (bodyOf Try.f5) [1, 1, 1, 1, 0, 1, 0, 0]), .inBlock 0, .code (sub (bodyOf Try.f5) [1, 1, 1, 1, 1])] ([(2, .ref 0), (7, .val (.int .i64 ((Int.tmod from_1 50000) + 1))), (8, .val (.int .i64 (((Int.tmod from_1 50000) + 1) + many2))), (9, .ref 1), (10, .ref 2), (11, .val (.int .i64 i4)), (12, .val (.int .i64 i5)), (13, .val (.int .i64 i6))]) ([.ro 0 1 (List.map en_uint8 l7), .row 1 35 3 (List.map en_api_BookEntry l8), .row 2 60 2 (List.map en_api_PulseFault l9)]) := by
  rw [ev_top_TopPulseBook_j1] at h
  refine TC.skip ?_
  refine TC.seq ?_
  refine TC.block ?_
  refine TC.seq ?_
  refine TC.seq ?_
  refine TC.region ?_
  refine op0 (sp_move rfl rfl) rfl trivial rfl rfl ?_
  refine op0 (sp_move rfl rfl) rfl trivial rfl rfl ?_
  refine op0 (sp_move rfl rfl) rfl trivial rfl rfl ?_
  obtain ⟨x10, h7, h8, h⟩ := idx_inv h
  refine op1 0 rfl (sp_indexS rfl rfl rfl isRo sl56 h7 (map_get _ h8)) rfl trivial rfl rfl ?_
  refine op1 0 rfl (sp_loadR (i := (i6 : Int).toNat) (j := 0) rfl rfl isRo vt5 rfl (map_get _ h8) rfl (.v (.nil)) (nodup_of_B rfl)) rfl trivial rfl rfl ?_
  obtain ⟨h9, h⟩ := chk_inv h
  refine op0 (sp_conv rfl Try.underlying5 Try.underlying3 rfl h9) rfl trivial rfl rfl ?_
  refine op0 (sp_rem rfl rfl rfl (by decide)) rfl trivial rfl rfl ?_
  obtain ⟨h10, h⟩ := chk_inv h
  refine op0 (sp_add rfl rfl rfl h10) rfl trivial rfl rfl ?_
  obtain ⟨h11, h⟩ := chk_inv h
  refine op0 (sp_add rfl rfl rfl h11) rfl trivial rfl rfl ?_
  refine op0 (sp_assign rfl rfl) rfl trivial rfl rfl ?_
  refine TL.nil ?_
  refine TC.seq ?_
  refine TC.region ?_
  refine op0 (sp_move rfl rfl) rfl trivial rfl rfl ?_
  refine op0 (sp_move rfl rfl) rfl trivial rfl rfl ?_
  refine op0 (sp_gtr rfl rfl rfl) rfl trivial rfl rfl ?_
  refine TL.nil ?_
  refine TC.cond (b := (decide ((((Int.tmod from_1 50000) + 1) + many2) < (i4 + ((1 : Int) + (Int.tmod x10 20)))))) rfl (fun h12 => ?_) (fun h12 => ?_)
  · have h := cond_t h h12
    refine TC.exit rfl ?_
    refine TC.seq ?_
    refine subJ [] (ok_top_TopPulseBook_j2 h) ?_ ?_ ?_
    · exact ⟨rfl, rfl, rfl, rfl, trivial⟩
    · exact ⟨mem_at 1 rfl, mem_at 2 rfl, trivial⟩
    · rfl
  · have h := cond_f h h12
    refine TC.skip ?_
    refine TC.seq ?_
    refine TC.region ?_
    refine op0 (sp_move rfl rfl) rfl trivial rfl rfl ?_
    refine op0 (sp_move rfl rfl) rfl trivial rfl rfl ?_
    refine op0 (sp_build (qs := [(0, .val (.int .i64 (i4 + ((1 : Int) + (Int.tmod x10 20))))), (1, .val (.int .i64 1))]) rfl bt60 rfl rfl rfl rfl) rfl trivial rfl rfl ?_
    refine op0 (sp_buildSlice (qs := [.agg [.val (.int .i64 (i4 + ((1 : Int) + (Int.tmod x10 20)))), .val (.int .i64 1)]]) (need := []) (els := List.map en_api_PulseFault ([((i4 + ((1 : Int) + (Int.tmod x10 20))), 1)] : List (Int × Int))) 5 rfl sl57 (by decide) (by decide) rfl rfl rfl (.v (.v (.nil))) (map_len fun _ => rfl) rfl rfl rfl) rfl trivial rfl rfl ?_
    obtain ⟨h24, h⟩ := chk_inv h
    refine appM 3 0 (N := l9.length) (N2 := ([((i4 + ((1 : Int) + (Int.tmod x10 20))), 1)] : List (Int × Int)).length) 6 rfl rfl trivial rfl rfl rfl rfl rfl isOwn rfl sl57 (len_map _ _) (len_map _ _) h24 (map_app _ _ _) rfl ?_
    refine op0 (sp_assign rfl rfl) rfl trivial rfl rfl ?_
    refine TL.nil ?_
    refine TC.seq ?_
    refine TC.seq ?_
    refine TC.region ?_
    refine op0 (sp_move rfl rfl) rfl trivial rfl rfl ?_
    refine op1 3 rfl (sp_lenM (N := l8.length) (len_map _ _) rfl rfl isOwn Try.underlying36) rfl trivial rfl rfl ?_
    refine op0 (sp_assign rfl rfl) rfl trivial rfl rfl ?_
    refine TL.nil ?_
    refine TC.seq ?_
    refine TC.region ?_
    refine op0 (sp_move rfl rfl) rfl trivial rfl rfl ?_
    refine op0 (sp_gtr rfl rfl rfl) rfl trivial rfl rfl ?_
    refine op0 (sp_move rfl rfl) rfl trivial rfl rfl ?_
    rcases cond_cases h with ⟨h25, h⟩ | ⟨h25, h⟩
    · refine (boolLit 63 rfl h25).2 ?_
      refine op0 (sp_move rfl rfl) rfl ⟨_, rfl, rfl⟩ rfl rfl ?_
      refine op0 (sp_move rfl rfl) rfl ⟨_, rfl, rfl⟩ rfl rfl ?_
      obtain ⟨h26, h⟩ := chk_inv h
      refine op0 (sp_sub rfl rfl rfl h26) rfl ⟨_, rfl, rfl⟩ rfl rfl ?_
      refine op0 (sp_eql rfl rfl rfl) rfl ⟨_, rfl, rfl⟩ rfl rfl ?_
      refine op0 (sp_pickT rfl rfl rfl) rfl trivial rfl rfl ?_
      refine TL.nil ?_
      refine TC.cond (b := (i5 == ((i4 + ((1 : Int) + (Int.tmod x10 20))) - 1))) rfl (fun h27 => ?_) (fun h27 => ?_)
      · have h := cond_t h h27
        refine TC.region ?_
        refine op0 (sp_move rfl rfl) rfl trivial rfl rfl ?_
        refine op0 (sp_move rfl rfl) rfl trivial rfl rfl ?_
        obtain ⟨h28, h⟩ := chk_inv h
        refine op0 (sp_sub rfl rfl rfl h28) rfl trivial rfl rfl ?_
        obtain ⟨h29, h⟩ := chk_inv h
        refine opT (take := [.row 1 35 3 (List.map en_api_BookEntry l8)]) (need := []) (V' := [.row 7 35 3 (List.map en_api_BookEntry (List.take (((l8.length : Int) - 1) : Int).toNat l8)), .row 6 60 2 (List.map en_api_PulseFault (l9 ++ ([((i4 + ((1 : Int) + (Int.tmod x10 20))), 1)] : List (Int × Int)))), .row 5 60 2 (List.map en_api_PulseFault ([((i4 + ((1 : Int) + (Int.tmod x10 20))), 1)] : List (Int × Int))), .ro 0 1 (List.map en_uint8 l7)]) [3] [] (ts_prefix (h := ((l8.length : Int) - 1)) 7 (len_map _ _) rfl rfl sl36 (cut_some rfl) h29 (map_take _ _ _) rfl) trivial rfl ⟨rfl, trivial⟩ trivial rfl rfl ?_
        refine op0 (sp_assign rfl rfl) rfl trivial rfl rfl ?_
        refine TL.nil ?_
        refine TC.region ?_
        refine op0 (sp_move rfl rfl) rfl trivial rfl rfl ?_
        refine op0 (sp_move rfl rfl) rfl trivial rfl rfl ?_
        obtain ⟨h30, h⟩ := chk_inv h
        refine op0 (sp_mul rfl rfl rfl h30) rfl trivial rfl rfl ?_
        refine op0 (sp_build (qs := [(0, .val (.int .i64 ((60 : Int) * (i4 + ((1 : Int) + (Int.tmod x10 20)))))), (1, .val (.int .i64 4))]) rfl bt35 rfl rfl rfl rfl) rfl trivial rfl rfl ?_
        refine op0 (sp_buildSlice (qs := [.agg [.val (.int .i64 ((60 : Int) * (i4 + ((1 : Int) + (Int.tmod x10 20))))), .val (.int .i64 4), .val (.int .i64 0)]]) (need := []) (els := List.map en_api_BookEntry ([(((60 : Int) * (i4 + ((1 : Int) + (Int.tmod x10 20)))), 4, 0)] : List (Int × Int × Int))) 8 rfl sl36 (by decide) (by decide) rfl rfl rfl (.v (.v (.v (.nil)))) (map_len fun _ => rfl) rfl rfl rfl) rfl trivial rfl rfl ?_
        obtain ⟨h31, h⟩ := chk_inv h
        refine appM 1 0 (N := (List.take (((l8.length : Int) - 1) : Int).toNat l8).length) (N2 := ([(((60 : Int) * (i4 + ((1 : Int) + (Int.tmod x10 20)))), 4, 0)] : List (Int × Int × Int)).length) 9 rfl rfl trivial rfl rfl rfl rfl rfl isOwn rfl sl36 (len_map _ _) (len_map _ _) h31 (map_app _ _ _) rfl ?_
        refine op0 (sp_move rfl rfl) rfl trivial rfl rfl ?_
        refine op0 (sp_assign rfl rfl) rfl trivial rfl rfl ?_
        refine op0 (sp_assign rfl rfl) rfl trivial rfl rfl ?_
        refine TL.nil ?_
        refine TC.inBlock ?_
        refine TC.region ?_
        refine op0 (sp_move rfl rfl) rfl trivial rfl rfl ?_
        obtain ⟨h32, h⟩ := chk_inv h
        refine op0 (sp_add rfl rfl rfl h32) rfl trivial rfl rfl ?_
        refine op0 (sp_assign rfl rfl) rfl trivial rfl rfl ?_
        refine TL.nil ?_
        refine TC.inLoop ?_
        refine TC.seq ?_
        refine TC.seq ?_
        refine subJ [(1, 9), (2, 6)] (hk_top_TopPulseBook_l0 _ _ _ _ _ _ h) ?_ ?_ ?_
        · exact ⟨rfl, rfl, rfl, rfl, rfl, rfl, rfl, rfl, trivial⟩
        · exact ⟨mem_at 4 rfl, mem_at 0 rfl, mem_at 2 rfl, trivial⟩
        · rfl
      · have h := cond_f h h27
        refine TC.region ?_
        refine op0 (sp_move rfl rfl) rfl trivial rfl rfl ?_
        refine op0 (sp_move rfl rfl) rfl trivial rfl rfl ?_
        obtain ⟨h33, h⟩ := chk_inv h
        refine op0 (sp_sub rfl rfl rfl h33) rfl trivial rfl rfl ?_
        obtain ⟨h34, h⟩ := chk_inv h
        refine op0 (sp_mul rfl rfl rfl h34) rfl trivial rfl rfl ?_
        refine op0 (sp_build (qs := [(0, .val (.int .i64 ((60 : Int) * ((i4 + ((1 : Int) + (Int.tmod x10 20))) - 1)))), (1, .val (.int .i64 3))]) rfl bt35 rfl rfl rfl rfl) rfl trivial rfl rfl ?_
        refine op0 (sp_buildSlice (qs := [.agg [.val (.int .i64 ((60 : Int) * ((i4 + ((1 : Int) + (Int.tmod x10 20))) - 1))), .val (.int .i64 3), .val (.int .i64 0)]]) (need := []) (els := List.map en_api_BookEntry ([(((60 : Int) * ((i4 + ((1 : Int) + (Int.tmod x10 20))) - 1)), 3, 0)] : List (Int × Int × Int))) 10 rfl sl36 (by decide) (by decide) rfl rfl rfl (.v (.v (.v (.nil)))) (map_len fun _ => rfl) rfl rfl rfl) rfl trivial rfl rfl ?_
        obtain ⟨h35, h⟩ := chk_inv h
        refine appM 4 0 (N := l8.length) (N2 := ([(((60 : Int) * ((i4 + ((1 : Int) + (Int.tmod x10 20))) - 1)), 3, 0)] : List (Int × Int × Int)).length) 11 rfl rfl trivial rfl rfl rfl rfl rfl isOwn rfl sl36 (len_map _ _) (len_map _ _) h35 (map_app _ _ _) rfl ?_
        refine op0 (sp_assign rfl rfl) rfl trivial rfl rfl ?_
        refine TL.nil ?_
        refine TC.region ?_
        refine op0 (sp_move rfl rfl) rfl trivial rfl rfl ?_
        refine op0 (sp_move rfl rfl) rfl trivial rfl rfl ?_
        obtain ⟨h36, h⟩ := chk_inv h
        refine op0 (sp_mul rfl rfl rfl h36) rfl trivial rfl rfl ?_
        refine op0 (sp_build (qs := [(0, .val (.int .i64 ((60 : Int) * (i4 + ((1 : Int) + (Int.tmod x10 20)))))), (1, .val (.int .i64 4))]) rfl bt35 rfl rfl rfl rfl) rfl trivial rfl rfl ?_
        refine op0 (sp_buildSlice (qs := [.agg [.val (.int .i64 ((60 : Int) * (i4 + ((1 : Int) + (Int.tmod x10 20))))), .val (.int .i64 4), .val (.int .i64 0)]]) (need := []) (els := List.map en_api_BookEntry ([(((60 : Int) * (i4 + ((1 : Int) + (Int.tmod x10 20)))), 4, 0)] : List (Int × Int × Int))) 12 rfl sl36 (by decide) (by decide) rfl rfl rfl (.v (.v (.v (.nil)))) (map_len fun _ => rfl) rfl rfl rfl) rfl trivial rfl rfl ?_
        obtain ⟨h37, h⟩ := chk_inv h
        refine appM 1 0 (N := (l8 ++ ([(((60 : Int) * ((i4 + ((1 : Int) + (Int.tmod x10 20))) - 1)), 3, 0)] : List (Int × Int × Int))).length) (N2 := ([(((60 : Int) * (i4 + ((1 : Int) + (Int.tmod x10 20)))), 4, 0)] : List (Int × Int × Int)).length) 13 rfl rfl trivial rfl rfl rfl rfl rfl isOwn rfl sl36 (len_map _ _) (len_map _ _) h37 (map_app _ _ _) rfl ?_
        refine op0 (sp_move rfl rfl) rfl trivial rfl rfl ?_
        refine op0 (sp_assign rfl rfl) rfl trivial rfl rfl ?_
        refine op0 (sp_assign rfl rfl) rfl trivial rfl rfl ?_
        refine TL.nil ?_
        refine TC.inBlock ?_
        refine TC.region ?_
        refine op0 (sp_move rfl rfl) rfl trivial rfl rfl ?_
        obtain ⟨h38, h⟩ := chk_inv h
        refine op0 (sp_add rfl rfl rfl h38) rfl trivial rfl rfl ?_
        refine op0 (sp_assign rfl rfl) rfl trivial rfl rfl ?_
        refine TL.nil ?_
        refine TC.inLoop ?_
        refine TC.seq ?_
        refine TC.seq ?_
        refine subJ [(1, 13), (2, 6)] (hk_top_TopPulseBook_l0 _ _ _ _ _ _ h) ?_ ?_ ?_
        · exact ⟨rfl, rfl, rfl, rfl, rfl, rfl, rfl, rfl, trivial⟩
        · exact ⟨mem_at 5 rfl, mem_at 0 rfl, mem_at 3 rfl, trivial⟩
        · rfl
    · refine (boolLit 63 rfl h25).2 ?_
      refine opSkip rfl ⟨_, rfl, .inl rfl⟩ rfl ?_
      refine opSkip rfl ⟨_, rfl, .inl rfl⟩ rfl ?_
      refine opSkip rfl ⟨_, rfl, .inl rfl⟩ rfl ?_
      refine opSkip rfl ⟨_, rfl, .inl rfl⟩ rfl ?_
      refine op0 (sp_pickF rfl rfl rfl) rfl trivial rfl rfl ?_
      refine TL.nil ?_
      refine TC.condF rfl ?_
      refine TC.region ?_
      refine op0 (sp_move rfl rfl) rfl trivial rfl rfl ?_
      refine op0 (sp_move rfl rfl) rfl trivial rfl rfl ?_
      obtain ⟨h39, h⟩ := chk_inv h
      refine op0 (sp_sub rfl rfl rfl h39) rfl trivial rfl rfl ?_
      obtain ⟨h40, h⟩ := chk_inv h
      refine op0 (sp_mul rfl rfl rfl h40) rfl trivial rfl rfl ?_
      refine op0 (sp_build (qs := [(0, .val (.int .i64 ((60 : Int) * ((i4 + ((1 : Int) + (Int.tmod x10 20))) - 1)))), (1, .val (.int .i64 3))]) rfl bt35 rfl rfl rfl rfl) rfl trivial rfl rfl ?_
      refine op0 (sp_buildSlice (qs := [.agg [.val (.int .i64 ((60 : Int) * ((i4 + ((1 : Int) + (Int.tmod x10 20))) - 1))), .val (.int .i64 3), .val (.int .i64 0)]]) (need := []) (els := List.map en_api_BookEntry ([(((60 : Int) * ((i4 + ((1 : Int) + (Int.tmod x10 20))) - 1)), 3, 0)] : List (Int × Int × Int))) 14 rfl sl36 (by decide) (by decide) rfl rfl rfl (.v (.v (.v (.nil)))) (map_len fun _ => rfl) rfl rfl rfl) rfl trivial rfl rfl ?_
      obtain ⟨h41, h⟩ := chk_inv h
      refine appM 4 0 (N := l8.length) (N2 := ([(((60 : Int) * ((i4 + ((1 : Int) + (Int.tmod x10 20))) - 1)), 3, 0)] : List (Int × Int × Int)).length) 15 rfl rfl trivial rfl rfl rfl rfl rfl isOwn rfl sl36 (len_map _ _) (len_map _ _) h41 (map_app _ _ _) rfl ?_
      refine op0 (sp_assign rfl rfl) rfl trivial rfl rfl ?_
      refine TL.nil ?_
      refine TC.region ?_
      refine op0 (sp_move rfl rfl) rfl trivial rfl rfl ?_
      refine op0 (sp_move rfl rfl) rfl trivial rfl rfl ?_
      obtain ⟨h42, h⟩ := chk_inv h
      refine op0 (sp_mul rfl rfl rfl h42) rfl trivial rfl rfl ?_
      refine op0 (sp_build (qs := [(0, .val (.int .i64 ((60 : Int) * (i4 + ((1 : Int) + (Int.tmod x10 20)))))), (1, .val (.int .i64 4))]) rfl bt35 rfl rfl rfl rfl) rfl trivial rfl rfl ?_
      refine op0 (sp_buildSlice (qs := [.agg [.val (.int .i64 ((60 : Int) * (i4 + ((1 : Int) + (Int.tmod x10 20))))), .val (.int .i64 4), .val (.int .i64 0)]]) (need := []) (els := List.map en_api_BookEntry ([(((60 : Int) * (i4 + ((1 : Int) + (Int.tmod x10 20)))), 4, 0)] : List (Int × Int × Int))) 16 rfl sl36 (by decide) (by decide) rfl rfl rfl (.v (.v (.v (.nil)))) (map_len fun _ => rfl) rfl rfl rfl) rfl trivial rfl rfl ?_
      obtain ⟨h43, h⟩ := chk_inv h
      refine appM 1 0 (N := (l8 ++ ([(((60 : Int) * ((i4 + ((1 : Int) + (Int.tmod x10 20))) - 1)), 3, 0)] : List (Int × Int × Int))).length) (N2 := ([(((60 : Int) * (i4 + ((1 : Int) + (Int.tmod x10 20)))), 4, 0)] : List (Int × Int × Int)).length) 17 rfl rfl trivial rfl rfl rfl rfl rfl isOwn rfl sl36 (len_map _ _) (len_map _ _) h43 (map_app _ _ _) rfl ?_
      refine op0 (sp_move rfl rfl) rfl trivial rfl rfl ?_
      refine op0 (sp_assign rfl rfl) rfl trivial rfl rfl ?_
      refine op0 (sp_assign rfl rfl) rfl trivial rfl rfl ?_
      refine TL.nil ?_
      refine TC.inBlock ?_
      refine TC.region ?_
      refine op0 (sp_move rfl rfl) rfl trivial rfl rfl ?_
      obtain ⟨h44, h⟩ := chk_inv h
      refine op0 (sp_add rfl rfl rfl h44) rfl trivial rfl rfl ?_
      refine op0 (sp_assign rfl rfl) rfl trivial rfl rfl ?_
      refine TL.nil ?_
      refine TC.inLoop ?_
      refine TC.seq ?_
      refine TC.seq ?_
      refine subJ [(1, 17), (2, 6)] (hk_top_TopPulseBook_l0 _ _ _ _ _ _ h) ?_ ?_ ?_
      · exact ⟨rfl, rfl, rfl, rfl, rfl, rfl, rfl, rfl, trivial⟩
      · exact ⟨mem_at 5 rfl, mem_at 0 rfl, mem_at 3 rfl, trivial⟩
      · rfl
def ev_top_TopPulseBook_l0 (n : Nat) (from_1 : Int) (many2 : Int) : Nat → Int → Int → Int → (List Int) → (List (Int × Int × Int)) → (List (Int × Int)) → Option Bool
  | 0, _, _, _, _, _, _ => none
  | m + 1, i4, i5, i6, l7, l8, l9 => cond (decide (i6 < (l7.length : Int))) (cond (decide ((l9.length : Int) < 20)) (ev_top_TopPulseBook_j1 n l7 i6 i4 from_1 many2 l8 l9 i5 (fun i4q i5q i6q l7q l8q l9q => ev_top_TopPulseBook_l0 n from_1 many2 m i4q i5q i6q l7q l8q l9q)) (ev_top_TopPulseBook_j2 n from_1 many2 l8 l9)) (ev_top_TopPulseBook_j2 n from_1 many2 l8 l9)
set_option maxRecDepth 100000 in
set_option maxHeartbeats 2000000 in
theorem ok_top_TopPulseBook_l0 {n : Nat} {w0 : World} {R0 : Nat → Prop} {env0 : Env} {r : Bool} {from_1 : Int} {many2 : Int} : ∀ (m : Nat) (i4 : Int) (i5 : Int) (i6 : Int) (l7 : List Int) (l8 : List (Int × Int × Int)) (l9 : List (Int × Int)), ev_top_TopPulseBook_l0 n from_1 many2 m i4 i5 i6 l7 l8 l9 = some r → TC Try.prog ⟨w0, fun _ => False, R0⟩ 125 (bodyPost Try.prog Try.f5 (Post ⟨w0, fun _ => False, R0⟩ env0 (.val (.bool r)) [])) [.code (sub (bodyOf Try.f5) [1, 1, 1, 1, 0, 1, 0, 0, 0, 0]), .code (sub (bodyOf Try.f5) [1, 1, 1, 1, 0, 1, 0, 0, 0, 1]), .code (sub (bodyOf Try.f5) [1, 1, 1, 1, 0, 1, 0, 0, 1]), .inLoop (sub (bodyOf Try.f5) [1, 1, 1, 1, 0, 1, 0, 0]), .inBlock 0, .code (sub (bodyOf Try.f5) [1, 1, 1, 1, 1])] ([(2, .ref 0), (7, .val (.int .i64 ((Int.tmod from_1 50000) + 1))), (8, .val (.int .i64 (((Int.tmod from_1 50000) + 1) + many2))), (9, .ref 1), (10, .ref 2), (11, .val (.int .i64 i4)), (12, .val (.int .i64 i5)), (13, .val (.int .i64 i6))]) ([.ro 0 1 (List.map en_uint8 l7), .row 1 35 3 (List.map en_api_BookEntry l8), .row 2 60 2 (List.map en_api_PulseFault l9)]) := by
  intro m
  induction m with
  | zero => intro i4 i5 i6 l7 l8 l9 h; exact none_no h
  | succ m ih =>
    intro i4 i5 i6 l7 l8 l9 h
    rw [ev_top_TopPulseBook_l0] at h
    refine TC.region ?_
    refine op0 (sp_move rfl rfl) rfl trivial rfl rfl ?_
    refine op0 (sp_move rfl rfl) rfl trivial rfl rfl ?_
    refine op1 0 rfl (sp_lenM (N := l7.length) (len_map _ _) rfl rfl isRo Try.underlying56) rfl trivial rfl rfl ?_
    refine op0 (sp_lss rfl rfl rfl) rfl trivial rfl rfl ?_
    refine op0 (sp_move rfl rfl) rfl trivial rfl rfl ?_
    rcases cond_cases h with ⟨h5, h⟩ | ⟨h5, h⟩
    · refine (boolLit 35 rfl h5).2 ?_
      refine op0 (sp_move rfl rfl) rfl ⟨_, rfl, rfl⟩ rfl rfl ?_
      refine op1 2 rfl (sp_lenM (N := l9.length) (len_map _ _) rfl rfl isOwn Try.underlying57) rfl ⟨_, rfl, rfl⟩ rfl rfl ?_
      refine op0 (sp_lss rfl rfl rfl) rfl ⟨_, rfl, rfl⟩ rfl rfl ?_
      refine op0 (sp_pickT rfl rfl rfl) rfl trivial rfl rfl ?_
      refine TL.nil ?_
      refine TC.cond (b := (decide ((l9.length : Int) < 20))) rfl (fun h6 => ?_) (fun h6 => ?_)
      · have h := cond_t h h6
        refine subJ [] (ok_top_TopPulseBook_j1 ih h) ?_ ?_ ?_
        · exact ⟨rfl, rfl, rfl, rfl, rfl, rfl, rfl, rfl, trivial⟩
        · exact ⟨mem_at 0 rfl, mem_at 1 rfl, mem_at 2 rfl, trivial⟩
        · rfl
      · have h := cond_f h h6
        refine TC.exit rfl ?_
        refine TC.seq ?_
        refine subJ [] (ok_top_TopPulseBook_j2 h) ?_ ?_ ?_
        · exact ⟨rfl, rfl, rfl, rfl, trivial⟩
        · exact ⟨mem_at 1 rfl, mem_at 2 rfl, trivial⟩
        · rfl
    · refine (boolLit 35 rfl h5).2 ?_
      refine opSkip rfl ⟨_, rfl, .inl rfl⟩ rfl ?_
      refine opSkip rfl ⟨_, rfl, .inl rfl⟩ rfl ?_
      refine opSkip rfl ⟨_, rfl, .inl rfl⟩ rfl ?_
      refine op0 (sp_pickF rfl rfl rfl) rfl trivial rfl rfl ?_
      refine TL.nil ?_
      refine TC.condF rfl ?_
      refine TC.exit rfl ?_
      refine TC.seq ?_
      refine subJ [] (ok_top_TopPulseBook_j2 h) ?_ ?_ ?_
      · exact ⟨rfl, rfl, rfl, rfl, trivial⟩
      · exact ⟨mem_at 1 rfl, mem_at 2 rfl, trivial⟩
      · rfl
def ev_top_TopPulseBook (n : Nat) (from_1 : Int) (many2 : Int) (by_3 : List Int) : Option Bool :=
  chk (in64 from_1) <| chk (in64 ((Int.tmod from_1 50000) + 1)) <| chk (in64 many2) <| chk (in64 (((Int.tmod from_1 50000) + 1) + many2)) <| ev_top_TopPulseBook_l0 n from_1 many2 n ((Int.tmod from_1 50000) + 1) 0 0 by_3 ([] : List (Int × Int × Int)) ([] : List (Int × Int))
set_option maxRecDepth 100000 in
set_option maxHeartbeats 2000000 in
theorem fc_top_TopPulseBook {n : Nat} {from_1 : Int} {many2 : Int} {by_3 : List Int} {r : Bool} (h : ev_top_TopPulseBook n from_1 many2 by_3 = some r) : FC Try.prog 5 [.val (.int .u16 from_1), .val (.int .u8 many2), .ref 0] [.ro 0 1 (List.map en_uint8 by_3)] (.val (.bool r)) [] := by
  refine introJ (nz := 125) Try.func5 rfl rfl rfl (fun w0 R0 env0 => ?_)
  rw [ev_top_TopPulseBook] at h
  refine TC.seq ?_
  refine TC.region ?_
  refine op0 (sp_assign rfl rfl) rfl trivial rfl rfl ?_
  refine TL.nil ?_
  refine TC.seq ?_
  refine TC.region ?_
  refine op0 (sp_move rfl rfl) rfl trivial rfl rfl ?_
  obtain ⟨h1, h⟩ := chk_inv h
  refine op0 (sp_conv rfl Try.underlying22 Try.underlying3 rfl h1) rfl trivial rfl rfl ?_
  refine op0 (sp_rem rfl rfl rfl (by decide)) rfl trivial rfl rfl ?_
  obtain ⟨h2, h⟩ := chk_inv h
  refine op0 (sp_add rfl rfl rfl h2) rfl trivial rfl rfl ?_
  refine op0 (sp_assign rfl rfl) rfl trivial rfl rfl ?_
  refine TL.nil ?_
  refine TC.seq ?_
  refine TC.region ?_
  refine op0 (sp_move rfl rfl) rfl trivial rfl rfl ?_
  refine op0 (sp_move rfl rfl) rfl trivial rfl rfl ?_
  obtain ⟨h3, h⟩ := chk_inv h
  refine op0 (sp_conv rfl Try.underlying5 Try.underlying3 rfl h3) rfl trivial rfl rfl ?_
  obtain ⟨h4, h⟩ := chk_inv h
  refine op0 (sp_add rfl rfl rfl h4) rfl trivial rfl rfl ?_
  refine op0 (sp_assign rfl rfl) rfl trivial rfl rfl ?_
  refine TL.nil ?_
  refine TC.seq ?_
  refine TC.region ?_
  refine op0 (sp_emptyM 1 (List.map en_api_BookEntry []) rfl rfl sl36) rfl trivial rfl rfl ?_
  refine op0 (sp_emptyM 2 (List.map en_api_PulseFault []) rfl rfl sl57) rfl trivial rfl rfl ?_
  refine op0 (sp_move rfl rfl) rfl trivial rfl rfl ?_
  refine op0 (sp_assign rfl rfl) rfl trivial rfl rfl ?_
  refine op0 (sp_assign rfl rfl) rfl trivial rfl rfl ?_
  refine op0 (sp_assign rfl rfl) rfl trivial rfl rfl ?_
  refine op0 (sp_assign rfl rfl) rfl trivial rfl rfl ?_
  refine TL.nil ?_
  refine TC.seq ?_
  refine TC.seq ?_
  refine TC.region ?_
  refine op0 (sp_assign rfl rfl) rfl trivial rfl rfl ?_
  refine TL.nil ?_
  refine TC.block ?_
  refine TC.loop ?_
  refine TC.seq ?_
  refine TC.seq ?_
  refine subJ [] (ok_top_TopPulseBook_l0 _ _ _ _ _ _ _ h) ?_ ?_ ?_
  · exact ⟨rfl, rfl, rfl, rfl, rfl, rfl, rfl, rfl, trivial⟩
  · exact ⟨mem_at 2 rfl, mem_at 1 rfl, mem_at 0 rfl, trivial⟩
  · rfl
end
end Go.Proofs.Ytmgcinejodpopaa.Sy
