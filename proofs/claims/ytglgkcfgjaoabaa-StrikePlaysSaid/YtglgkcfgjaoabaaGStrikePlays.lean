/- What functions of the program compute, and that they do: printed by symgen.py. -/
import Derived.Test.YtglgkcfgjaoabaaGLib
import Derived.Test.YtglgkcfgjaoabaaGturretlaw05
import Derived.Test.YtglgkcfgjaoabaaGStrike
import Derived.Test.YtglgkcfgjaoabaaGTurretref05
set_option linter.unusedSimpArgs false
set_option linter.unusedVariables false
namespace Go.Proofs.Ytglgkcfgjaoabaa.Sy
open Go.RowKit
noncomputable section

/- law05_StrikePlays -/
def ev_law05_StrikePlays_j2 (n : Nat) (r9 : (List (Int × Bool))) (plan6 : List (Int × Bool)) (r11 : Int × Int × Int) (i16 : Int) (i17 : Int) (i18 : Int) : Option Bool :=
  (ev_ref05_Equal n r9 plan6).bind fun r19 => cond r19 (cond (r11.2.2 == i16) (cond (r11.1 == i17) (cond (r11.2.1 == i18) ((ev_law05_known n).bind fun r20 => some r20) (some false)) (some false)) (some false)) (some false)
set_option maxRecDepth 100000 in
set_option maxHeartbeats 2000000 in
theorem ok_law05_StrikePlays_j2 {n : Nat} {w0 : World} {R0 : Nat → Prop} {env0 : Env} {r : Bool} {r11 : Int × Int × Int} {plan6 : List (Int × Bool)} {r9 : (List (Int × Bool))} {i16 : Int} {i17 : Int} {i18 : Int} (h : ev_law05_StrikePlays_j2 n r9 plan6 r11 i16 i17 i18 = some r) : TC Try.prog ⟨w0, fun _ => False, R0⟩ 88 (bodyPost Try.prog Try.f5 (Post ⟨w0, fun _ => False, R0⟩ env0 (.val (.bool r)) [])) [.code (sub (bodyOf Try.f5) [1, 1, 1, 1, 1, 1, 1, 1, 0]), .code (sub (bodyOf Try.f5) [1, 1, 1, 1, 1, 1, 1, 1, 1])] ([(2, .ref 1), (7, .ref 4), (8, .val (.int .i64 r11.1)), (9, .val (.int .i64 r11.2.1)), (10, .val (.int .i64 r11.2.2)), (11, .val (.int .i64 i16)), (12, .val (.int .i64 i17)), (13, .val (.int .i64 i18))]) ([.ro 1 2 (List.map en_api_StrikeStep plan6), .row 4 73 2 (List.map en_api_StrikeStep r9)]) := by
  rw [ev_law05_StrikePlays_j2] at h
  refine TC.region ?_
  refine op0 (sp_move rfl rfl) rfl trivial rfl rfl ?_
  refine op0 (sp_move rfl rfl) rfl trivial rfl rfl ?_
  obtain ⟨r19, h13, h⟩ := bind_inv h
  refine opN (need := [.row 4 73 2 (List.map en_api_StrikeStep r9), .ro 1 2 (List.map en_api_StrikeStep plan6)]) [1, 0] ⟨rfl, rfl, trivial⟩ (sp_call (avs := [.ref 4, .ref 1]) (need := [.row 4 73 2 (List.map en_api_StrikeStep r9), .ro 1 2 (List.map en_api_StrikeStep plan6)]) (v := .val (.bool r19)) (news := []) rfl rfl rfl Try.call31 (atJ [(0, 4)] [] (fc_ref05_Equal h13) rfl rfl) (.inr (fun x hx => nomatch hx))) rfl trivial rfl rfl ?_
  refine op0 (sp_move rfl rfl) rfl trivial rfl rfl ?_
  rcases cond_cases h with ⟨h14, h⟩ | ⟨h14, h⟩
  · refine (boolLit 70 rfl h14).2 ?_
    refine op0 (sp_move rfl rfl) rfl ⟨_, rfl, rfl⟩ rfl rfl ?_
    refine op0 (sp_move rfl rfl) rfl ⟨_, rfl, rfl⟩ rfl rfl ?_
    refine op0 (sp_eql rfl rfl rfl) rfl ⟨_, rfl, rfl⟩ rfl rfl ?_
    refine op0 (sp_pickT rfl rfl rfl) rfl trivial rfl rfl ?_
    refine op0 (sp_move rfl rfl) rfl trivial rfl rfl ?_
    rcases cond_cases h with ⟨h15, h⟩ | ⟨h15, h⟩
    · refine (boolLit 75 rfl h15).2 ?_
      refine op0 (sp_move rfl rfl) rfl ⟨_, rfl, rfl⟩ rfl rfl ?_
      refine op0 (sp_move rfl rfl) rfl ⟨_, rfl, rfl⟩ rfl rfl ?_
      refine op0 (sp_eql rfl rfl rfl) rfl ⟨_, rfl, rfl⟩ rfl rfl ?_
      refine op0 (sp_pickT rfl rfl rfl) rfl trivial rfl rfl ?_
      refine op0 (sp_move rfl rfl) rfl trivial rfl rfl ?_
      rcases cond_cases h with ⟨h16, h⟩ | ⟨h16, h⟩
      · refine (boolLit 80 rfl h16).2 ?_
        refine op0 (sp_move rfl rfl) rfl ⟨_, rfl, rfl⟩ rfl rfl ?_
        refine op0 (sp_move rfl rfl) rfl ⟨_, rfl, rfl⟩ rfl rfl ?_
        refine op0 (sp_eql rfl rfl rfl) rfl ⟨_, rfl, rfl⟩ rfl rfl ?_
        refine op0 (sp_pickT rfl rfl rfl) rfl trivial rfl rfl ?_
        refine op0 (sp_move rfl rfl) rfl trivial rfl rfl ?_
        rcases cond_cases h with ⟨h17, h⟩ | ⟨h17, h⟩
        · refine (boolLit 85 rfl h17).2 ?_
          obtain ⟨r20, h18, h⟩ := bind_inv h
          refine op0 (sp_call (avs := []) (need := []) (v := .val (.bool r20)) (news := []) rfl rfl rfl Try.call12 (atJ [] [] (fc_law05_known h18) rfl rfl) (.inl (roAll rfl))) rfl ⟨_, rfl, rfl⟩ rfl rfl ?_
          refine op0 (sp_pickT rfl rfl rfl) rfl trivial rfl rfl ?_
          refine op0 (sp_assign rfl rfl) rfl trivial rfl rfl ?_
          refine TL.nil ?_
          cases h
          exact retJ [] (.tmp rfl .nil) rfl trivial rfl rfl
        · refine (boolLit 85 rfl h17).2 ?_
          refine opSkip rfl ⟨_, rfl, .inl rfl⟩ rfl ?_
          refine op0 (sp_pickF rfl rfl rfl) rfl trivial rfl rfl ?_
          refine op0 (sp_assign rfl rfl) rfl trivial rfl rfl ?_
          refine TL.nil ?_
          cases h
          exact retJ [] (.tmp rfl .nil) rfl trivial rfl rfl
      · refine (boolLit 80 rfl h16).2 ?_
        refine opSkip rfl ⟨_, rfl, .inl rfl⟩ rfl ?_
        refine opSkip rfl ⟨_, rfl, .inl rfl⟩ rfl ?_
        refine opSkip rfl ⟨_, rfl, .inl rfl⟩ rfl ?_
        refine op0 (sp_pickF rfl rfl rfl) rfl trivial rfl rfl ?_
        refine op0 (sp_move rfl rfl) rfl trivial rfl rfl ?_
        refine opSkip rfl ⟨_, rfl, .inl rfl⟩ rfl ?_
        refine op0 (sp_pickF rfl rfl rfl) rfl trivial rfl rfl ?_
        refine op0 (sp_assign rfl rfl) rfl trivial rfl rfl ?_
        refine TL.nil ?_
        cases h
        exact retJ [] (.tmp rfl .nil) rfl trivial rfl rfl
    · refine (boolLit 75 rfl h15).2 ?_
      refine opSkip rfl ⟨_, rfl, .inl rfl⟩ rfl ?_
      refine opSkip rfl ⟨_, rfl, .inl rfl⟩ rfl ?_
      refine opSkip rfl ⟨_, rfl, .inl rfl⟩ rfl ?_
      refine op0 (sp_pickF rfl rfl rfl) rfl trivial rfl rfl ?_
      refine op0 (sp_move rfl rfl) rfl trivial rfl rfl ?_
      refine opSkip rfl ⟨_, rfl, .inl rfl⟩ rfl ?_
      refine opSkip rfl ⟨_, rfl, .inl rfl⟩ rfl ?_
      refine opSkip rfl ⟨_, rfl, .inl rfl⟩ rfl ?_
      refine op0 (sp_pickF rfl rfl rfl) rfl trivial rfl rfl ?_
      refine op0 (sp_move rfl rfl) rfl trivial rfl rfl ?_
      refine opSkip rfl ⟨_, rfl, .inl rfl⟩ rfl ?_
      refine op0 (sp_pickF rfl rfl rfl) rfl trivial rfl rfl ?_
      refine op0 (sp_assign rfl rfl) rfl trivial rfl rfl ?_
      refine TL.nil ?_
      cases h
      exact retJ [] (.tmp rfl .nil) rfl trivial rfl rfl
  · refine (boolLit 70 rfl h14).2 ?_
    refine opSkip rfl ⟨_, rfl, .inl rfl⟩ rfl ?_
    refine opSkip rfl ⟨_, rfl, .inl rfl⟩ rfl ?_
    refine opSkip rfl ⟨_, rfl, .inl rfl⟩ rfl ?_
    refine op0 (sp_pickF rfl rfl rfl) rfl trivial rfl rfl ?_
    refine op0 (sp_move rfl rfl) rfl trivial rfl rfl ?_
    refine opSkip rfl ⟨_, rfl, .inl rfl⟩ rfl ?_
    refine opSkip rfl ⟨_, rfl, .inl rfl⟩ rfl ?_
    refine opSkip rfl ⟨_, rfl, .inl rfl⟩ rfl ?_
    refine op0 (sp_pickF rfl rfl rfl) rfl trivial rfl rfl ?_
    refine op0 (sp_move rfl rfl) rfl trivial rfl rfl ?_
    refine opSkip rfl ⟨_, rfl, .inl rfl⟩ rfl ?_
    refine opSkip rfl ⟨_, rfl, .inl rfl⟩ rfl ?_
    refine opSkip rfl ⟨_, rfl, .inl rfl⟩ rfl ?_
    refine op0 (sp_pickF rfl rfl rfl) rfl trivial rfl rfl ?_
    refine op0 (sp_move rfl rfl) rfl trivial rfl rfl ?_
    refine opSkip rfl ⟨_, rfl, .inl rfl⟩ rfl ?_
    refine op0 (sp_pickF rfl rfl rfl) rfl trivial rfl rfl ?_
    refine op0 (sp_assign rfl rfl) rfl trivial rfl rfl ?_
    refine TL.nil ?_
    cases h
    exact retJ [] (.tmp rfl .nil) rfl trivial rfl rfl
def ev_law05_StrikePlays_j1 (n : Nat) (rr1 : Bool) (rr2 : Bool) (rr3 : List (Int × Int)) (at_4 : Int) (at_5 : Int) (plan6 : List (Int × Bool)) (r9 : (List (Int × Bool))) (r11 : Int × Int × Int) (i14 : Int) : Option Bool :=
  cond (i14 == 0) ((ev_ref05_Play n rr1 rr2 rr3 at_4 at_5 plan6).bind fun r15 => ev_law05_StrikePlays_j2 n r9 plan6 r11 r15.2.2 r15.1 r15.2.1) (ev_law05_StrikePlays_j2 n r9 plan6 r11 i14 0 0)
set_option maxRecDepth 100000 in
set_option maxHeartbeats 2000000 in
theorem ok_law05_StrikePlays_j1 {n : Nat} {w0 : World} {R0 : Nat → Prop} {env0 : Env} {r : Bool} {r11 : Int × Int × Int} {plan6 : List (Int × Bool)} {rr1 : Bool} {rr2 : Bool} {at_4 : Int} {at_5 : Int} {r9 : (List (Int × Bool))} {rr3 : List (Int × Int)} {i14 : Int} (h : ev_law05_StrikePlays_j1 n rr1 rr2 rr3 at_4 at_5 plan6 r9 r11 i14 = some r) : TC Try.prog ⟨w0, fun _ => False, R0⟩ 88 (bodyPost Try.prog Try.f5 (Post ⟨w0, fun _ => False, R0⟩ env0 (.val (.bool r)) [])) [.code (sub (bodyOf Try.f5) [1, 1, 1, 1, 1, 1, 0]), .code (sub (bodyOf Try.f5) [1, 1, 1, 1, 1, 1, 1])] ([(2, .ref 1), (3, .ptr 2 0), (4, .ptr 3 0), (7, .ref 4), (8, .val (.int .i64 r11.1)), (9, .val (.int .i64 r11.2.1)), (10, .val (.int .i64 r11.2.2)), (11, .val (.int .i64 i14))]) ([.ro 1 2 (List.map en_api_StrikeStep plan6), .blk 2 [.val (.bool rr1), .val (.bool rr2), .ref 0] 24, .blk 3 [.val (.int .i64 at_4), .val (.int .i64 at_5)] 49, .row 4 73 2 (List.map en_api_StrikeStep r9), .ro 0 2 (List.map en_api_Span rr3)]) := by
  rw [ev_law05_StrikePlays_j1] at h
  refine TC.region ?_
  refine op0 (sp_assign rfl rfl) rfl trivial rfl rfl ?_
  refine op0 (sp_assign rfl rfl) rfl trivial rfl rfl ?_
  refine TL.nil ?_
  refine TC.seq ?_
  refine TC.seq ?_
  refine TC.region ?_
  refine op0 (sp_move rfl rfl) rfl trivial rfl rfl ?_
  refine op0 (sp_eql rfl rfl rfl) rfl trivial rfl rfl ?_
  refine TL.nil ?_
  refine TC.cond (b := (i14 == 0)) rfl (fun h11 => ?_) (fun h11 => ?_)
  · have h := cond_t h h11
    refine TC.seq ?_
    refine TC.region ?_
    refine op1 1 rfl (sp_loadBA rfl isBlk rfl vt24 rfl rfl) rfl trivial rfl rfl ?_
    refine op1 2 rfl (sp_indexA (len := 2) (iv := 0) rfl isBlk rfl rfl Try.underlying49 vt3 (by decide)) rfl trivial rfl rfl ?_
    refine op1 2 rfl (sp_loadB rfl isBlk rfl vt3 rfl) rfl trivial rfl rfl ?_
    refine op1 2 rfl (sp_indexA (len := 2) (iv := 1) rfl isBlk rfl rfl Try.underlying49 vt3 (by decide)) rfl trivial rfl rfl ?_
    refine op1 2 rfl (sp_loadB rfl isBlk rfl vt3 rfl) rfl trivial rfl rfl ?_
    refine op0 (sp_move rfl rfl) rfl trivial rfl rfl ?_
    obtain ⟨r15, h12, h⟩ := bind_inv h
    refine opN (need := [.ro 0 2 (List.map en_api_Span rr3), .ro 1 2 (List.map en_api_StrikeStep plan6)]) [4, 0] ⟨rfl, rfl, trivial⟩ (sp_call (avs := [.agg [.val (.bool rr1), .val (.bool rr2), .ref 0], .val (.int .i64 at_4), .val (.int .i64 at_5), .ref 1]) (need := [.ro 0 2 (List.map en_api_Span rr3), .ro 1 2 (List.map en_api_StrikeStep plan6)]) (v := .tup [.val (.int .i64 r15.1), .val (.int .i64 r15.2.1), .val (.int .i64 r15.2.2)]) (news := []) rfl rfl rfl Try.call30 (atJ [] [] (fc_ref05_Play h12) rfl rfl) (.inl (roAll rfl))) rfl trivial rfl rfl ?_
    refine op0 (sp_move rfl rfl) rfl trivial rfl rfl ?_
    refine op0 (sp_extract rfl rfl rfl) rfl trivial rfl rfl ?_
    refine op0 (sp_extract rfl rfl rfl) rfl trivial rfl rfl ?_
    refine op0 (sp_extract rfl rfl rfl) rfl trivial rfl rfl ?_
    refine op0 (sp_assign rfl rfl) rfl trivial rfl rfl ?_
    refine op0 (sp_assign rfl rfl) rfl trivial rfl rfl ?_
    refine op0 (sp_assign rfl rfl) rfl trivial rfl rfl ?_
    refine TL.nil ?_
    refine TC.region ?_
    refine op0 (sp_move rfl rfl) rfl trivial rfl rfl ?_
    refine op0 (sp_move rfl rfl) rfl trivial rfl rfl ?_
    refine op0 (sp_move rfl rfl) rfl trivial rfl rfl ?_
    refine op0 (sp_assign rfl rfl) rfl trivial rfl rfl ?_
    refine op0 (sp_assign rfl rfl) rfl trivial rfl rfl ?_
    refine op0 (sp_assign rfl rfl) rfl trivial rfl rfl ?_
    refine TL.nil ?_
    refine TC.seq ?_
    refine subJ [] (ok_law05_StrikePlays_j2 h) ?_ ?_ ?_
    · exact ⟨rfl, rfl, rfl, rfl, rfl, rfl, rfl, rfl, trivial⟩
    · exact ⟨mem_at 0 rfl, mem_at 3 rfl, trivial⟩
    · rfl
  · have h := cond_f h h11
    refine TC.skip ?_
    refine TC.seq ?_
    refine subJ [] (ok_law05_StrikePlays_j2 h) ?_ ?_ ?_
    · exact ⟨rfl, rfl, rfl, rfl, rfl, rfl, rfl, rfl, trivial⟩
    · exact ⟨mem_at 0 rfl, mem_at 3 rfl, trivial⟩
    · rfl
def ev_law05_StrikePlays_j0 (n : Nat) (plan6 : List (Int × Bool)) (rr1 : Bool) (rr2 : Bool) (rr3 : List (Int × Int)) (at_4 : Int) (at_5 : Int) : Option Bool :=
  (ev_law05_steps n plan6).bind fun r9 => (ev_law05_copied n rr1 rr2 rr3).bind fun r10 => (ev_strike_Play n r10.1 r10.2.1 r10.2.2 at_4 at_5 r9).bind fun r11 => (ev_ref05_Check n rr1 rr2 rr3).bind fun r12 => cond (r12 == 0) ((ev_ref05_Begin n rr1 rr2 rr3 at_4 at_5).bind fun r13 => ev_law05_StrikePlays_j1 n rr1 rr2 rr3 at_4 at_5 plan6 r9 r11 r13) (ev_law05_StrikePlays_j1 n rr1 rr2 rr3 at_4 at_5 plan6 r9 r11 r12)
set_option maxRecDepth 100000 in
set_option maxHeartbeats 2000000 in
theorem ok_law05_StrikePlays_j0 {n : Nat} {w0 : World} {R0 : Nat → Prop} {env0 : Env} {r : Bool} {plan6 : List (Int × Bool)} {rr1 : Bool} {rr2 : Bool} {at_4 : Int} {at_5 : Int} {rr3 : List (Int × Int)} (h : ev_law05_StrikePlays_j0 n plan6 rr1 rr2 rr3 at_4 at_5 = some r) : TC Try.prog ⟨w0, fun _ => False, R0⟩ 88 (bodyPost Try.prog Try.f5 (Post ⟨w0, fun _ => False, R0⟩ env0 (.val (.bool r)) [])) [.code (sub (bodyOf Try.f5) [1, 0, 1, 1]), .code (sub (bodyOf Try.f5) [1, 1])] ([(2, .ref 1), (3, .ptr 2 0), (4, .ptr 3 0)]) ([.ro 1 2 (List.map en_api_StrikeStep plan6), .blk 2 [.val (.bool rr1), .val (.bool rr2), .ref 0] 24, .blk 3 [.val (.int .i64 at_4), .val (.int .i64 at_5)] 49, .ro 0 2 (List.map en_api_Span rr3)]) := by
  rw [ev_law05_StrikePlays_j0] at h
  refine TC.skip ?_
  refine TC.seq ?_
  refine TC.region ?_
  refine op0 (sp_move rfl rfl) rfl trivial rfl rfl ?_
  obtain ⟨r9, h5, h⟩ := bind_inv h
  refine op1 0 rfl (sp_call (avs := [.ref 1]) (need := [.ro 1 2 (List.map en_api_StrikeStep plan6)]) (v := .ref 4) (news := [.row 4 73 2 (List.map en_api_StrikeStep r9)]) rfl rfl rfl Try.call27 (atJ [(0, 1)] [(0, 4)] (fc_law05_steps h5) rfl rfl) (.inl (roAll rfl))) rfl trivial rfl rfl ?_
  refine op0 (sp_assign rfl rfl) rfl trivial rfl rfl ?_
  refine TL.nil ?_
  refine TC.seq ?_
  obtain ⟨r10, h6, h⟩ := bind_inv h
  obtain ⟨r11, h7, h⟩ := bind_inv h
  refine drawJ 14 [⟨.agg [.val (.bool rr1), .val (.bool rr2), .ref 0], [], [.blk 2 [.val (.bool rr1), .val (.bool rr2), .ref 0] 24], []⟩, ⟨.agg [.val (.bool r10.1), .val (.bool r10.2.1), .ref 5], [.row 5 81 2 (List.map en_api_Span r10.2.2)], [.ro 0 2 (List.map en_api_Span rr3)], []⟩, ⟨.ptr 3 0, [], [.blk 3 [.val (.int .i64 at_4), .val (.int .i64 at_5)] 49], []⟩, ⟨.val (.int .i64 at_4), [], [.blk 3 [.val (.int .i64 at_4), .val (.int .i64 at_5)] 49], []⟩, ⟨.ptr 3 1, [], [.blk 3 [.val (.int .i64 at_4), .val (.int .i64 at_5)] 49], []⟩, ⟨.val (.int .i64 at_5), [], [.blk 3 [.val (.int .i64 at_4), .val (.int .i64 at_5)] 49], []⟩, ⟨.ref 4, [], [], []⟩, ⟨.tup [.val (.int .i64 r11.1), .val (.int .i64 r11.2.1), .val (.int .i64 r11.2.2)], [], [.row 5 81 2 (List.map en_api_Span r10.2.2), .row 4 73 2 (List.map en_api_StrikeStep r9)], []⟩, ⟨.tup [.val (.int .i64 r11.1), .val (.int .i64 r11.2.1), .val (.int .i64 r11.2.2)], [], [], []⟩, ⟨.val (.int .i64 r11.1), [], [], []⟩, ⟨.val (.int .i64 r11.2.1), [], [], []⟩, ⟨.val (.int .i64 r11.2.2), [], [], []⟩, ⟨.val (.int .i64 r11.1), [], [], []⟩, ⟨.val (.int .i64 r11.2.1), [], [], []⟩] rfl ?_ rfl ?_ rfl ?_ ?_
  · kernel_rfl
  · kernel_rfl
  · exact DAll.op' (sp_loadBA rfl isBlk rfl vt24 rfl rfl) trivial rfl (From.ok (ps := [(none, 2)]) ⟨⟨rfl, rfl⟩, trivial⟩) (DAll.op' (sp_call (avs := [.agg [.val (.bool rr1), .val (.bool rr2), .ref 0]]) (need := [.ro 0 2 (List.map en_api_Span rr3)]) (v := .agg [.val (.bool r10.1), .val (.bool r10.2.1), .ref 5]) (news := [.row 5 81 2 (List.map en_api_Span r10.2.2)]) rfl rfl rfl Try.call13 (atJ [] [(0, 5)] (fc_law05_copied h6) rfl rfl) (.inl (roAll rfl))) trivial rfl (From.ok (ps := [(none, 4)]) ⟨⟨rfl, rfl⟩, trivial⟩) (DAll.op' (sp_indexA (len := 2) (iv := 0) rfl isBlk rfl rfl Try.underlying49 vt3 (by decide)) trivial rfl (From.ok (ps := [(none, 3)]) ⟨⟨rfl, rfl⟩, trivial⟩) (DAll.op' (sp_loadB rfl isBlk rfl vt3 rfl) trivial rfl (From.ok (ps := [(none, 3)]) ⟨⟨rfl, rfl⟩, trivial⟩) (DAll.op' (sp_indexA (len := 2) (iv := 1) rfl isBlk rfl rfl Try.underlying49 vt3 (by decide)) trivial rfl (From.ok (ps := [(none, 3)]) ⟨⟨rfl, rfl⟩, trivial⟩) (DAll.op' (sp_loadB rfl isBlk rfl vt3 rfl) trivial rfl (From.ok (ps := [(none, 3)]) ⟨⟨rfl, rfl⟩, trivial⟩) (DAll.op' (sp_move rfl rfl) trivial rfl (From.ok (ps := []) trivial) (DAll.op' (sp_call (avs := [.agg [.val (.bool r10.1), .val (.bool r10.2.1), .ref 5], .val (.int .i64 at_4), .val (.int .i64 at_5), .ref 4]) (need := [.row 5 81 2 (List.map en_api_Span r10.2.2), .row 4 73 2 (List.map en_api_StrikeStep r9)]) (v := .tup [.val (.int .i64 r11.1), .val (.int .i64 r11.2.1), .val (.int .i64 r11.2.2)]) (news := []) rfl rfl rfl Try.call28 (atJ [(0, 5), (1, 4)] [] (fc_strike_Play h7) rfl rfl) (.inr (fun x hx => nomatch hx))) trivial rfl (From.ok (ps := [(some 1, 0), (none, 0)]) ⟨⟨_, rfl, rfl, rfl, rfl⟩, ⟨rfl, rfl⟩, trivial⟩) (DAll.op' (sp_move rfl rfl) trivial rfl (From.ok (ps := []) trivial) (DAll.op' (sp_extract rfl rfl rfl) trivial rfl (From.ok (ps := []) trivial) (DAll.op' (sp_extract rfl rfl rfl) trivial rfl (From.ok (ps := []) trivial) (DAll.op' (sp_extract rfl rfl rfl) trivial rfl (From.ok (ps := []) trivial) (DAll.op' (sp_assign rfl rfl) trivial rfl (From.ok (ps := []) trivial) (DAll.op' (sp_assign rfl rfl) trivial rfl (From.ok (ps := []) trivial) (.nil))))))))))))))
  refine op0 (sp_assign rfl rfl) rfl trivial rfl rfl ?_
  refine TL.nil ?_
  refine TC.seq ?_
  refine TC.region ?_
  refine op1 3 rfl (sp_loadBA rfl isBlk rfl vt24 rfl rfl) rfl trivial rfl rfl ?_
  obtain ⟨r12, h8, h⟩ := bind_inv h
  refine op1 5 rfl (sp_call (avs := [.agg [.val (.bool rr1), .val (.bool rr2), .ref 0]]) (need := [.ro 0 2 (List.map en_api_Span rr3)]) (v := .val (.int .i64 r12)) (news := []) rfl rfl rfl Try.call17 (atJ [] [] (fc_ref05_Check h8) rfl rfl) (.inl (roAll rfl))) rfl trivial rfl rfl ?_
  refine op0 (sp_assign rfl rfl) rfl trivial rfl rfl ?_
  refine TL.nil ?_
  refine TC.seq ?_
  refine TC.seq ?_
  refine TC.region ?_
  refine op0 (sp_move rfl rfl) rfl trivial rfl rfl ?_
  refine op0 (sp_eql rfl rfl rfl) rfl trivial rfl rfl ?_
  refine TL.nil ?_
  refine TC.cond (b := (r12 == 0)) rfl (fun h9 => ?_) (fun h9 => ?_)
  · have h := cond_t h h9
    refine TC.region ?_
    refine op1 3 rfl (sp_loadBA rfl isBlk rfl vt24 rfl rfl) rfl trivial rfl rfl ?_
    refine op1 4 rfl (sp_indexA (len := 2) (iv := 0) rfl isBlk rfl rfl Try.underlying49 vt3 (by decide)) rfl trivial rfl rfl ?_
    refine op1 4 rfl (sp_loadB rfl isBlk rfl vt3 rfl) rfl trivial rfl rfl ?_
    refine op1 4 rfl (sp_indexA (len := 2) (iv := 1) rfl isBlk rfl rfl Try.underlying49 vt3 (by decide)) rfl trivial rfl rfl ?_
    refine op1 4 rfl (sp_loadB rfl isBlk rfl vt3 rfl) rfl trivial rfl rfl ?_
    obtain ⟨r13, h10, h⟩ := bind_inv h
    refine op1 5 rfl (sp_call (avs := [.agg [.val (.bool rr1), .val (.bool rr2), .ref 0], .val (.int .i64 at_4), .val (.int .i64 at_5)]) (need := [.ro 0 2 (List.map en_api_Span rr3)]) (v := .val (.int .i64 r13)) (news := []) rfl rfl rfl Try.call29 (atJ [] [] (fc_ref05_Begin h10) rfl rfl) (.inl (roAll rfl))) rfl trivial rfl rfl ?_
    refine op0 (sp_assign rfl rfl) rfl trivial rfl rfl ?_
    refine TL.nil ?_
    refine TC.seq ?_
    refine subJ [] (ok_law05_StrikePlays_j1 h) ?_ ?_ ?_
    · exact ⟨rfl, rfl, rfl, rfl, rfl, rfl, rfl, rfl, trivial⟩
    · exact ⟨mem_at 2 rfl, mem_at 3 rfl, mem_at 4 rfl, mem_at 1 rfl, mem_at 5 rfl, trivial⟩
    · rfl
  · have h := cond_f h h9
    refine TC.skip ?_
    refine TC.seq ?_
    refine subJ [] (ok_law05_StrikePlays_j1 h) ?_ ?_ ?_
    · exact ⟨rfl, rfl, rfl, rfl, rfl, rfl, rfl, rfl, trivial⟩
    · exact ⟨mem_at 2 rfl, mem_at 3 rfl, mem_at 4 rfl, mem_at 1 rfl, mem_at 5 rfl, trivial⟩
    · rfl
def ev_law05_StrikePlays (n : Nat) (rr1 : Bool) (rr2 : Bool) (rr3 : List (Int × Int)) (at_4 : Int) (at_5 : Int) (plan6 : List (Int × Bool)) : Option Bool :=
  cond (decide ((20 : Int) < (rr3.length : Int))) ((ev_law05_known n).bind fun r7 => some r7) (cond (decide ((110 : Int) < (plan6.length : Int))) ((ev_law05_known n).bind fun r8 => some r8) (ev_law05_StrikePlays_j0 n plan6 rr1 rr2 rr3 at_4 at_5))
set_option maxRecDepth 100000 in
set_option maxHeartbeats 2000000 in
theorem fc_law05_StrikePlays {n : Nat} {rr1 : Bool} {rr2 : Bool} {rr3 : List (Int × Int)} {at_4 : Int} {at_5 : Int} {plan6 : List (Int × Bool)} {r : Bool} (h : ev_law05_StrikePlays n rr1 rr2 rr3 at_4 at_5 plan6 = some r) : FC Try.prog 5 [.agg [.val (.bool rr1), .val (.bool rr2), .ref 0], .agg [.val (.int .i64 at_4), .val (.int .i64 at_5)], .ref 1] [.ro 0 2 (List.map en_api_Span rr3), .ro 1 2 (List.map en_api_StrikeStep plan6)] (.val (.bool r)) [] := by
  refine introJ (nz := 88) Try.func5 rfl rfl rfl (fun w0 R0 env0 => ?_)
  rw [ev_law05_StrikePlays] at h
  refine TC.seq ?_
  refine TC.region ?_
  refine op0 (sp_box 2 rfl rfl rfl rfl rfl) rfl trivial rfl rfl ?_
  refine op0 (sp_box 3 rfl rfl rfl rfl rfl) rfl trivial rfl rfl ?_
  refine op0 (sp_assign rfl rfl) rfl trivial rfl rfl ?_
  refine TL.nil ?_
  refine TC.seq ?_
  refine TC.seq ?_
  refine TC.region ?_
  refine op1 1 rfl (sp_fieldAddrB rfl isBlk rfl ft24_2 vt22 (by decide)) rfl trivial rfl rfl ?_
  refine op1 1 rfl (sp_loadB rfl isBlk rfl vt22 rfl) rfl trivial rfl rfl ?_
  refine op1 2 rfl (sp_lenM (N := rr3.length) (len_map _ _) rfl rfl isRo Try.underlying22) rfl trivial rfl rfl ?_
  refine op0 (sp_gtr rfl rfl rfl) rfl trivial rfl rfl ?_
  refine op0 (sp_move rfl rfl) rfl trivial rfl rfl ?_
  rcases cond_cases h with ⟨h1, h⟩ | ⟨h1, h⟩
  · refine (boolLit 21 rfl h1).2 ?_
    refine opSkip rfl ⟨_, rfl, .inl rfl⟩ rfl ?_
    refine opSkip rfl ⟨_, rfl, .inl rfl⟩ rfl ?_
    refine opSkip rfl ⟨_, rfl, .inl rfl⟩ rfl ?_
    refine op0 (sp_pickT rfl rfl rfl) rfl trivial rfl rfl ?_
    refine TL.nil ?_
    refine TC.condT rfl ?_
    refine TC.seq ?_
    refine TC.region ?_
    obtain ⟨r7, h2, h⟩ := bind_inv h
    refine op0 (sp_call (avs := []) (need := []) (v := .val (.bool r7)) (news := []) rfl rfl rfl Try.call12 (atJ [] [] (fc_law05_known h2) rfl rfl) (.inl (roAll rfl))) rfl trivial rfl rfl ?_
    refine op0 (sp_assign rfl rfl) rfl trivial rfl rfl ?_
    refine TL.nil ?_
    cases h
    exact retJ [] (.tmp rfl .nil) rfl trivial rfl rfl
  · refine (boolLit 21 rfl h1).2 ?_
    refine op0 (sp_move rfl rfl) rfl ⟨_, rfl, rfl⟩ rfl rfl ?_
    refine op1 3 rfl (sp_lenM (N := plan6.length) (len_map _ _) rfl rfl isRo Try.underlying50) rfl ⟨_, rfl, rfl⟩ rfl rfl ?_
    refine op0 (sp_gtr rfl rfl rfl) rfl ⟨_, rfl, rfl⟩ rfl rfl ?_
    refine op0 (sp_pickF rfl rfl rfl) rfl trivial rfl rfl ?_
    refine TL.nil ?_
    refine TC.cond (b := (decide ((110 : Int) < (plan6.length : Int)))) rfl (fun h3 => ?_) (fun h3 => ?_)
    · have h := cond_t h h3
      refine TC.seq ?_
      refine TC.region ?_
      obtain ⟨r8, h4, h⟩ := bind_inv h
      refine op0 (sp_call (avs := []) (need := []) (v := .val (.bool r8)) (news := []) rfl rfl rfl Try.call12 (atJ [] [] (fc_law05_known h4) rfl rfl) (.inl (roAll rfl))) rfl trivial rfl rfl ?_
      refine op0 (sp_assign rfl rfl) rfl trivial rfl rfl ?_
      refine TL.nil ?_
      cases h
      exact retJ [] (.tmp rfl .nil) rfl trivial rfl rfl
    · have h := cond_f h h3
      refine subJ [] (ok_law05_StrikePlays_j0 h) ?_ ?_ ?_
      · exact ⟨rfl, rfl, rfl, trivial⟩
      · exact ⟨mem_at 3 rfl, mem_at 1 rfl, mem_at 0 rfl, mem_at 2 rfl, trivial⟩
      · rfl
end
end Go.Proofs.Ytglgkcfgjaoabaa.Sy
