/- What functions of the program compute, and that they do: printed by symgen.py. -/
import Derived.Test.YtglgkcfgjaoabaaGLib
import Derived.Test.YtglgkcfgjaoabaaGturretlaw05
import Derived.Test.YtglgkcfgjaoabaaGStrike
set_option linter.unusedSimpArgs false
set_option linter.unusedVariables false
namespace Go.Proofs.Ytglgkcfgjaoabaa.Sy
open Go.RowKit
noncomputable section

/- law05_StrikeDays -/
def ev_law05_StrikeDays_l1 (n : Nat) (r5 : Int) (day4 : Int) (r6 : Bool × Bool × (List (Int × Int))) (w1 : Bool) (w2 : Int) (w3 : Int) (r7 : Int × Int) : Nat → Int → Int → Option Bool
  | 0, _, _ => none
  | m + 1, i9, i10 => chk (in64 ((2 : Int) * r5)) <| cond (decide (i10 < ((2 : Int) * r5))) (chk (in64 ((2 : Int) * r5)) <| chk (in64 day4) <| chk (in64 (((2 : Int) * r5) * (Int.tmod day4 41666))) <| chk (in64 ((((2 : Int) * r5) * (Int.tmod day4 41666)) + i10)) <| (ev_law05_copied n r6.1 r6.2.1 r6.2.2).bind fun r11 => (ev_strike_Blows n r11.1 r11.2.1 r11.2.2 ((((2 : Int) * r5) * (Int.tmod day4 41666)) + i10)).bind fun r12 => (ev_strike_Blows n w1 false ([]) ((((2 : Int) * r5) * (Int.tmod day4 41666)) + i10)).bind fun r13 => cond (r12.2 != 0) (some false) (cond (r13.2 != 0) (some false) (cond (decide (r13.1 < 1)) (some false) (cond (decide ((12 : Int) < r13.1)) (some false) ((ev_law05_Wheel_silent n w1 w2 w3 i10).bind fun r14 => cond r14 (cond (r12.1 != 0) (some false) ((ev_law05_Wheel_silent n w1 w2 w3 i10).bind fun r15 => cond (!r15) (cond (r12.1 != r13.1) (some false) (cond (decide ((0 : Int) < i10)) (chk (r5 != 0) <| cond (decide ((0 : Int) < (Int.tmod i10 r5))) (cond (!w1) (chk (r5 != 0) <| cond (r13.1 != (Int.tmod i10 r5)) (some false) (chk (in64 (i9 + r12.1)) <| chk (in64 (i10 + 1)) <| ev_law05_StrikeDays_l1 n r5 day4 r6 w1 w2 w3 r7 m (i9 + r12.1) (i10 + 1))) (chk (in64 (i9 + r12.1)) <| chk (in64 (i10 + 1)) <| ev_law05_StrikeDays_l1 n r5 day4 r6 w1 w2 w3 r7 m (i9 + r12.1) (i10 + 1))) (chk (in64 (i9 + r12.1)) <| chk (in64 (i10 + 1)) <| ev_law05_StrikeDays_l1 n r5 day4 r6 w1 w2 w3 r7 m (i9 + r12.1) (i10 + 1))) (chk (in64 (i9 + r12.1)) <| chk (in64 (i10 + 1)) <| ev_law05_StrikeDays_l1 n r5 day4 r6 w1 w2 w3 r7 m (i9 + r12.1) (i10 + 1)))) (cond (decide ((0 : Int) < i10)) (chk (r5 != 0) <| cond (decide ((0 : Int) < (Int.tmod i10 r5))) (cond (!w1) (chk (r5 != 0) <| cond (r13.1 != (Int.tmod i10 r5)) (some false) (chk (in64 (i9 + r12.1)) <| chk (in64 (i10 + 1)) <| ev_law05_StrikeDays_l1 n r5 day4 r6 w1 w2 w3 r7 m (i9 + r12.1) (i10 + 1))) (chk (in64 (i9 + r12.1)) <| chk (in64 (i10 + 1)) <| ev_law05_StrikeDays_l1 n r5 day4 r6 w1 w2 w3 r7 m (i9 + r12.1) (i10 + 1))) (chk (in64 (i9 + r12.1)) <| chk (in64 (i10 + 1)) <| ev_law05_StrikeDays_l1 n r5 day4 r6 w1 w2 w3 r7 m (i9 + r12.1) (i10 + 1))) (chk (in64 (i9 + r12.1)) <| chk (in64 (i10 + 1)) <| ev_law05_StrikeDays_l1 n r5 day4 r6 w1 w2 w3 r7 m (i9 + r12.1) (i10 + 1))))) ((ev_law05_Wheel_silent n w1 w2 w3 i10).bind fun r16 => cond (!r16) (cond (r12.1 != r13.1) (some false) (cond (decide ((0 : Int) < i10)) (chk (r5 != 0) <| cond (decide ((0 : Int) < (Int.tmod i10 r5))) (cond (!w1) (chk (r5 != 0) <| cond (r13.1 != (Int.tmod i10 r5)) (some false) (chk (in64 (i9 + r12.1)) <| chk (in64 (i10 + 1)) <| ev_law05_StrikeDays_l1 n r5 day4 r6 w1 w2 w3 r7 m (i9 + r12.1) (i10 + 1))) (chk (in64 (i9 + r12.1)) <| chk (in64 (i10 + 1)) <| ev_law05_StrikeDays_l1 n r5 day4 r6 w1 w2 w3 r7 m (i9 + r12.1) (i10 + 1))) (chk (in64 (i9 + r12.1)) <| chk (in64 (i10 + 1)) <| ev_law05_StrikeDays_l1 n r5 day4 r6 w1 w2 w3 r7 m (i9 + r12.1) (i10 + 1))) (chk (in64 (i9 + r12.1)) <| chk (in64 (i10 + 1)) <| ev_law05_StrikeDays_l1 n r5 day4 r6 w1 w2 w3 r7 m (i9 + r12.1) (i10 + 1)))) (cond (decide ((0 : Int) < i10)) (chk (r5 != 0) <| cond (decide ((0 : Int) < (Int.tmod i10 r5))) (cond (!w1) (chk (r5 != 0) <| cond (r13.1 != (Int.tmod i10 r5)) (some false) (chk (in64 (i9 + r12.1)) <| chk (in64 (i10 + 1)) <| ev_law05_StrikeDays_l1 n r5 day4 r6 w1 w2 w3 r7 m (i9 + r12.1) (i10 + 1))) (chk (in64 (i9 + r12.1)) <| chk (in64 (i10 + 1)) <| ev_law05_StrikeDays_l1 n r5 day4 r6 w1 w2 w3 r7 m (i9 + r12.1) (i10 + 1))) (chk (in64 (i9 + r12.1)) <| chk (in64 (i10 + 1)) <| ev_law05_StrikeDays_l1 n r5 day4 r6 w1 w2 w3 r7 m (i9 + r12.1) (i10 + 1))) (chk (in64 (i9 + r12.1)) <| chk (in64 (i10 + 1)) <| ev_law05_StrikeDays_l1 n r5 day4 r6 w1 w2 w3 r7 m (i9 + r12.1) (i10 + 1))))))))) (cond (r7.1 == i9) ((ev_law05_known n).bind fun r17 => some r17) (some false))
set_option maxRecDepth 100000 in
set_option maxHeartbeats 2000000 in
theorem ok_law05_StrikeDays_l1 {n : Nat} {w0 : World} {R0 : Nat → Prop} {env0 : Env} {r : Bool} {day4 : Int} {r5 : Int} {r7 : Int × Int} {w1 : Bool} {w2 : Int} {w3 : Int} {r6 : Bool × Bool × (List (Int × Int))} : ∀ (m : Nat) (i9 : Int) (i10 : Int), ev_law05_StrikeDays_l1 n r5 day4 r6 w1 w2 w3 r7 m i9 i10 = some r → TC Try.prog ⟨w0, fun _ => False, R0⟩ 142 (bodyPost Try.prog Try.f10 (Post ⟨w0, fun _ => False, R0⟩ env0 (.val (.bool r)) [])) [.code (sub (bodyOf Try.f10) [1, 1, 1, 1, 1, 0, 1, 0, 0, 0, 0]), .code (sub (bodyOf Try.f10) [1, 1, 1, 1, 1, 0, 1, 0, 0, 0, 1]), .code (sub (bodyOf Try.f10) [1, 1, 1, 1, 1, 0, 1, 0, 0, 1]), .inLoop (sub (bodyOf Try.f10) [1, 1, 1, 1, 1, 0, 1, 0, 0]), .inBlock 0, .code (sub (bodyOf Try.f10) [1, 1, 1, 1, 1, 1])] ([(1, .val (.int .u16 day4)), (2, .ptr 0 0), (5, .val (.int .i64 r5)), (6, .ptr 2 0), (7, .val (.int .i64 i9)), (8, .val (.int .i64 r7.1)), (12, .val (.int .i64 i10))]) ([.blk 0 [.val (.bool w1), .val (.int .u8 w2), .val (.int .u8 w3)] 64, .blk 2 [.val (.bool r6.1), .val (.bool r6.2.1), .ref 1] 24, .row 1 81 2 (List.map en_api_Span r6.2.2)]) := by
  intro m
  induction m with
  | zero => intro i9 i10 h; exact none_no h
  | succ m ih =>
    intro i9 i10 h
    rw [ev_law05_StrikeDays_l1] at h
    refine TC.region ?_
    refine op0 (sp_move rfl rfl) rfl trivial rfl rfl ?_
    refine op0 (sp_move rfl rfl) rfl trivial rfl rfl ?_
    obtain ⟨h11, h⟩ := chk_inv h
    refine op0 (sp_mul rfl rfl rfl h11) rfl trivial rfl rfl ?_
    refine op0 (sp_lss rfl rfl rfl) rfl trivial rfl rfl ?_
    refine TL.nil ?_
    refine TC.cond (b := (decide (i10 < ((2 : Int) * r5)))) rfl (fun h12 => ?_) (fun h12 => ?_)
    · have h := cond_t h h12
      refine TC.skip ?_
      refine TC.seq ?_
      refine TC.block ?_
      refine TC.seq ?_
      refine TC.region ?_
      refine op0 (sp_move rfl rfl) rfl trivial rfl rfl ?_
      obtain ⟨h13, h⟩ := chk_inv h
      refine op0 (sp_mul rfl rfl rfl h13) rfl trivial rfl rfl ?_
      refine op0 (sp_move rfl rfl) rfl trivial rfl rfl ?_
      obtain ⟨h14, h⟩ := chk_inv h
      refine op0 (sp_conv rfl Try.underlying77 Try.underlying3 rfl h14) rfl trivial rfl rfl ?_
      refine op0 (sp_rem rfl rfl rfl (by decide)) rfl trivial rfl rfl ?_
      obtain ⟨h15, h⟩ := chk_inv h
      refine op0 (sp_mul rfl rfl rfl h15) rfl trivial rfl rfl ?_
      refine op0 (sp_move rfl rfl) rfl trivial rfl rfl ?_
      obtain ⟨h16, h⟩ := chk_inv h
      refine op0 (sp_add rfl rfl rfl h16) rfl trivial rfl rfl ?_
      refine op0 (sp_assign rfl rfl) rfl trivial rfl rfl ?_
      refine TL.nil ?_
      refine TC.seq ?_
      refine TC.region ?_
      refine op1 1 rfl (sp_loadBA rfl isBlk rfl vt24 rfl rfl) rfl trivial rfl rfl ?_
      obtain ⟨r11, h17, h⟩ := bind_inv h
      refine op1 2 rfl (sp_call (avs := [.agg [.val (.bool r6.1), .val (.bool r6.2.1), .ref 1]]) (need := [.row 1 81 2 (List.map en_api_Span r6.2.2)]) (v := .agg [.val (.bool r11.1), .val (.bool r11.2.1), .ref 4]) (news := [.row 4 81 2 (List.map en_api_Span r11.2.2)]) rfl rfl rfl Try.call13 (atJ [(0, 1)] [(0, 4)] (fc_law05_copied h17) rfl rfl) (.inr (List.forall_mem_cons.2 ⟨indep_map en_api_Span_flat, (by simp)⟩))) rfl trivial rfl rfl ?_
      refine op0 (sp_move rfl rfl) rfl trivial rfl rfl ?_
      obtain ⟨r12, h18, h⟩ := bind_inv h
      refine op1 0 rfl (sp_call (avs := [.agg [.val (.bool r11.1), .val (.bool r11.2.1), .ref 4], .val (.int .i64 ((((2 : Int) * r5) * (Int.tmod day4 41666)) + i10))]) (need := [.row 4 81 2 (List.map en_api_Span r11.2.2)]) (v := .tup [.val (.int .i64 r12.1), .val (.int .i64 r12.2)]) (news := []) rfl rfl rfl Try.call15 (atJ [(0, 4)] [] (fc_strike_Blows h18) rfl rfl) (.inr (fun x hx => nomatch hx))) rfl trivial rfl rfl ?_
      refine op0 (sp_move rfl rfl) rfl trivial rfl rfl ?_
      refine op0 (sp_extract rfl rfl rfl) rfl trivial rfl rfl ?_
      refine op0 (sp_extract rfl rfl rfl) rfl trivial rfl rfl ?_
      refine op0 (sp_assign rfl rfl) rfl trivial rfl rfl ?_
      refine op0 (sp_assign rfl rfl) rfl trivial rfl rfl ?_
      refine TL.nil ?_
      refine TC.seq ?_
      refine TC.region ?_
      refine op1 1 rfl (sp_fieldAddrB rfl isBlk rfl ft64_0 vt4 (by decide)) rfl trivial rfl rfl ?_
      refine op1 1 rfl (sp_loadB rfl isBlk rfl vt4 rfl) rfl trivial rfl rfl ?_
      refine op0 (sp_build (qs := [(0, .val (.bool w1))]) rfl bt24 rfl rfl rfl rfl) rfl trivial rfl rfl ?_
      refine op0 (sp_move rfl rfl) rfl trivial rfl rfl ?_
      obtain ⟨r13, h19, h⟩ := bind_inv h
      refine op0 (sp_call (avs := [.agg [.val (.bool w1), .val (.bool false), .val (.slice none 0 0)], .val (.int .i64 ((((2 : Int) * r5) * (Int.tmod day4 41666)) + i10))]) (need := []) (v := .tup [.val (.int .i64 r13.1), .val (.int .i64 r13.2)]) (news := []) rfl rfl rfl Try.call15 (FC.nil (args := [.agg [.val (.bool w1), .val (.bool false), .ref 5], .val (.int .i64 ((((2 : Int) * r5) * (Int.tmod day4 41666)) + i10))]) 5 2 (atJ [(0, 5)] [] (fc_strike_Blows h19) rfl rfl) rfl rfl rfl) (.inl (roAll rfl))) rfl trivial rfl rfl ?_
      refine op0 (sp_move rfl rfl) rfl trivial rfl rfl ?_
      refine op0 (sp_extract rfl rfl rfl) rfl trivial rfl rfl ?_
      refine op0 (sp_extract rfl rfl rfl) rfl trivial rfl rfl ?_
      refine op0 (sp_assign rfl rfl) rfl trivial rfl rfl ?_
      refine op0 (sp_assign rfl rfl) rfl trivial rfl rfl ?_
      refine TL.nil ?_
      refine TC.seq ?_
      refine TC.seq ?_
      refine TC.region ?_
      refine op0 (sp_move rfl rfl) rfl trivial rfl rfl ?_
      refine op0 (sp_neq rfl rfl rfl) rfl trivial rfl rfl ?_
      refine op0 (sp_move rfl rfl) rfl trivial rfl rfl ?_
      rcases cond_cases h with ⟨h20, h⟩ | ⟨h20, h⟩
      · refine (boolLit 79 rfl h20).2 ?_
        refine opSkip rfl ⟨_, rfl, .inl rfl⟩ rfl ?_
        refine opSkip rfl ⟨_, rfl, .inl rfl⟩ rfl ?_
        refine op0 (sp_pickT rfl rfl rfl) rfl trivial rfl rfl ?_
        refine op0 (sp_move rfl rfl) rfl trivial rfl rfl ?_
        refine opSkip rfl ⟨_, rfl, .inl rfl⟩ rfl ?_
        refine opSkip rfl ⟨_, rfl, .inl rfl⟩ rfl ?_
        refine op0 (sp_pickT rfl rfl rfl) rfl trivial rfl rfl ?_
        refine op0 (sp_move rfl rfl) rfl trivial rfl rfl ?_
        refine opSkip rfl ⟨_, rfl, .inl rfl⟩ rfl ?_
        refine opSkip rfl ⟨_, rfl, .inl rfl⟩ rfl ?_
        refine op0 (sp_pickT rfl rfl rfl) rfl trivial rfl rfl ?_
        refine op0 (sp_move rfl rfl) rfl trivial rfl rfl ?_
        refine opSkip rfl ⟨_, rfl, .inl rfl⟩ rfl ?_
        refine opSkip rfl ⟨_, rfl, .inl rfl⟩ rfl ?_
        refine opSkip rfl ⟨_, rfl, .inl rfl⟩ rfl ?_
        refine opSkip rfl ⟨_, rfl, .inl rfl⟩ rfl ?_
        refine opSkip rfl ⟨_, rfl, .inr rfl⟩ rfl ?_
        refine opSkip rfl ⟨_, rfl, .inr rfl⟩ rfl ?_
        refine opSkip rfl ⟨_, rfl, .inl rfl⟩ rfl ?_
        refine op0 (sp_pickT rfl rfl rfl) rfl trivial rfl rfl ?_
        refine op0 (sp_move rfl rfl) rfl trivial rfl rfl ?_
        refine opSkip rfl ⟨_, rfl, .inl rfl⟩ rfl ?_
        refine opSkip rfl ⟨_, rfl, .inl rfl⟩ rfl ?_
        refine opSkip rfl ⟨_, rfl, .inl rfl⟩ rfl ?_
        refine opSkip rfl ⟨_, rfl, .inl rfl⟩ rfl ?_
        refine opSkip rfl ⟨_, rfl, .inl rfl⟩ rfl ?_
        refine opSkip rfl ⟨_, rfl, .inr rfl⟩ rfl ?_
        refine opSkip rfl ⟨_, rfl, .inr rfl⟩ rfl ?_
        refine opSkip rfl ⟨_, rfl, .inr rfl⟩ rfl ?_
        refine opSkip rfl ⟨_, rfl, .inl rfl⟩ rfl ?_
        refine op0 (sp_pickT rfl rfl rfl) rfl trivial rfl rfl ?_
        refine op0 (sp_move rfl rfl) rfl trivial rfl rfl ?_
        refine opSkip rfl ⟨_, rfl, .inl rfl⟩ rfl ?_
        refine opSkip rfl ⟨_, rfl, .inl rfl⟩ rfl ?_
        refine opSkip rfl ⟨_, rfl, .inl rfl⟩ rfl ?_
        refine opSkip rfl ⟨_, rfl, .inr rfl⟩ rfl ?_
        refine opSkip rfl ⟨_, rfl, .inr rfl⟩ rfl ?_
        refine opSkip rfl ⟨_, rfl, .inr rfl⟩ rfl ?_
        refine opSkip rfl ⟨_, rfl, .inr rfl⟩ rfl ?_
        refine opSkip rfl ⟨_, rfl, .inl rfl⟩ rfl ?_
        refine opSkip rfl ⟨_, rfl, .inl rfl⟩ rfl ?_
        refine opSkip rfl ⟨_, rfl, .inr rfl⟩ rfl ?_
        refine opSkip rfl ⟨_, rfl, .inr rfl⟩ rfl ?_
        refine opSkip rfl ⟨_, rfl, .inr rfl⟩ rfl ?_
        refine opSkip rfl ⟨_, rfl, .inl rfl⟩ rfl ?_
        refine opSkip rfl ⟨_, rfl, .inl rfl⟩ rfl ?_
        refine opSkip rfl ⟨_, rfl, .inr rfl⟩ rfl ?_
        refine opSkip rfl ⟨_, rfl, .inr rfl⟩ rfl ?_
        refine opSkip rfl ⟨_, rfl, .inr rfl⟩ rfl ?_
        refine opSkip rfl ⟨_, rfl, .inr rfl⟩ rfl ?_
        refine opSkip rfl ⟨_, rfl, .inr rfl⟩ rfl ?_
        refine opSkip rfl ⟨_, rfl, .inl rfl⟩ rfl ?_
        refine op0 (sp_pickT rfl rfl rfl) rfl trivial rfl rfl ?_
        refine TL.nil ?_
        refine TC.condT rfl ?_
        refine TC.seq ?_
        refine TC.region ?_
        refine op0 (sp_assign rfl rfl) rfl trivial rfl rfl ?_
        refine TL.nil ?_
        cases h
        exact retJ [] (.tmp rfl .nil) rfl trivial rfl rfl
      · refine (boolLit 79 rfl h20).2 ?_
        refine op0 (sp_move rfl rfl) rfl ⟨_, rfl, rfl⟩ rfl rfl ?_
        refine op0 (sp_neq rfl rfl rfl) rfl ⟨_, rfl, rfl⟩ rfl rfl ?_
        refine op0 (sp_pickF rfl rfl rfl) rfl trivial rfl rfl ?_
        refine op0 (sp_move rfl rfl) rfl trivial rfl rfl ?_
        rcases cond_cases h with ⟨h21, h⟩ | ⟨h21, h⟩
        · refine (boolLit 83 rfl h21).2 ?_
          refine opSkip rfl ⟨_, rfl, .inl rfl⟩ rfl ?_
          refine opSkip rfl ⟨_, rfl, .inl rfl⟩ rfl ?_
          refine op0 (sp_pickT rfl rfl rfl) rfl trivial rfl rfl ?_
          refine op0 (sp_move rfl rfl) rfl trivial rfl rfl ?_
          refine opSkip rfl ⟨_, rfl, .inl rfl⟩ rfl ?_
          refine opSkip rfl ⟨_, rfl, .inl rfl⟩ rfl ?_
          refine op0 (sp_pickT rfl rfl rfl) rfl trivial rfl rfl ?_
          refine op0 (sp_move rfl rfl) rfl trivial rfl rfl ?_
          refine opSkip rfl ⟨_, rfl, .inl rfl⟩ rfl ?_
          refine opSkip rfl ⟨_, rfl, .inl rfl⟩ rfl ?_
          refine opSkip rfl ⟨_, rfl, .inl rfl⟩ rfl ?_
          refine opSkip rfl ⟨_, rfl, .inl rfl⟩ rfl ?_
          refine opSkip rfl ⟨_, rfl, .inr rfl⟩ rfl ?_
          refine opSkip rfl ⟨_, rfl, .inr rfl⟩ rfl ?_
          refine opSkip rfl ⟨_, rfl, .inl rfl⟩ rfl ?_
          refine op0 (sp_pickT rfl rfl rfl) rfl trivial rfl rfl ?_
          refine op0 (sp_move rfl rfl) rfl trivial rfl rfl ?_
          refine opSkip rfl ⟨_, rfl, .inl rfl⟩ rfl ?_
          refine opSkip rfl ⟨_, rfl, .inl rfl⟩ rfl ?_
          refine opSkip rfl ⟨_, rfl, .inl rfl⟩ rfl ?_
          refine opSkip rfl ⟨_, rfl, .inl rfl⟩ rfl ?_
          refine opSkip rfl ⟨_, rfl, .inl rfl⟩ rfl ?_
          refine opSkip rfl ⟨_, rfl, .inr rfl⟩ rfl ?_
          refine opSkip rfl ⟨_, rfl, .inr rfl⟩ rfl ?_
          refine opSkip rfl ⟨_, rfl, .inr rfl⟩ rfl ?_
          refine opSkip rfl ⟨_, rfl, .inl rfl⟩ rfl ?_
          refine op0 (sp_pickT rfl rfl rfl) rfl trivial rfl rfl ?_
          refine op0 (sp_move rfl rfl) rfl trivial rfl rfl ?_
          refine opSkip rfl ⟨_, rfl, .inl rfl⟩ rfl ?_
          refine opSkip rfl ⟨_, rfl, .inl rfl⟩ rfl ?_
          refine opSkip rfl ⟨_, rfl, .inl rfl⟩ rfl ?_
          refine opSkip rfl ⟨_, rfl, .inr rfl⟩ rfl ?_
          refine opSkip rfl ⟨_, rfl, .inr rfl⟩ rfl ?_
          refine opSkip rfl ⟨_, rfl, .inr rfl⟩ rfl ?_
          refine opSkip rfl ⟨_, rfl, .inr rfl⟩ rfl ?_
          refine opSkip rfl ⟨_, rfl, .inl rfl⟩ rfl ?_
          refine opSkip rfl ⟨_, rfl, .inl rfl⟩ rfl ?_
          refine opSkip rfl ⟨_, rfl, .inr rfl⟩ rfl ?_
          refine opSkip rfl ⟨_, rfl, .inr rfl⟩ rfl ?_
          refine opSkip rfl ⟨_, rfl, .inr rfl⟩ rfl ?_
          refine opSkip rfl ⟨_, rfl, .inl rfl⟩ rfl ?_
          refine opSkip rfl ⟨_, rfl, .inl rfl⟩ rfl ?_
          refine opSkip rfl ⟨_, rfl, .inr rfl⟩ rfl ?_
          refine opSkip rfl ⟨_, rfl, .inr rfl⟩ rfl ?_
          refine opSkip rfl ⟨_, rfl, .inr rfl⟩ rfl ?_
          refine opSkip rfl ⟨_, rfl, .inr rfl⟩ rfl ?_
          refine opSkip rfl ⟨_, rfl, .inr rfl⟩ rfl ?_
          refine opSkip rfl ⟨_, rfl, .inl rfl⟩ rfl ?_
          refine op0 (sp_pickT rfl rfl rfl) rfl trivial rfl rfl ?_
          refine TL.nil ?_
          refine TC.condT rfl ?_
          refine TC.seq ?_
          refine TC.region ?_
          refine op0 (sp_assign rfl rfl) rfl trivial rfl rfl ?_
          refine TL.nil ?_
          cases h
          exact retJ [] (.tmp rfl .nil) rfl trivial rfl rfl
        · refine (boolLit 83 rfl h21).2 ?_
          refine op0 (sp_move rfl rfl) rfl ⟨_, rfl, rfl⟩ rfl rfl ?_
          refine op0 (sp_lss rfl rfl rfl) rfl ⟨_, rfl, rfl⟩ rfl rfl ?_
          refine op0 (sp_pickF rfl rfl rfl) rfl trivial rfl rfl ?_
          refine op0 (sp_move rfl rfl) rfl trivial rfl rfl ?_
          rcases cond_cases h with ⟨h22, h⟩ | ⟨h22, h⟩
          · refine (boolLit 87 rfl h22).2 ?_
            refine opSkip rfl ⟨_, rfl, .inl rfl⟩ rfl ?_
            refine opSkip rfl ⟨_, rfl, .inl rfl⟩ rfl ?_
            refine op0 (sp_pickT rfl rfl rfl) rfl trivial rfl rfl ?_
            refine op0 (sp_move rfl rfl) rfl trivial rfl rfl ?_
            refine opSkip rfl ⟨_, rfl, .inl rfl⟩ rfl ?_
            refine opSkip rfl ⟨_, rfl, .inl rfl⟩ rfl ?_
            refine opSkip rfl ⟨_, rfl, .inl rfl⟩ rfl ?_
            refine opSkip rfl ⟨_, rfl, .inl rfl⟩ rfl ?_
            refine opSkip rfl ⟨_, rfl, .inr rfl⟩ rfl ?_
            refine opSkip rfl ⟨_, rfl, .inr rfl⟩ rfl ?_
            refine opSkip rfl ⟨_, rfl, .inl rfl⟩ rfl ?_
            refine op0 (sp_pickT rfl rfl rfl) rfl trivial rfl rfl ?_
            refine op0 (sp_move rfl rfl) rfl trivial rfl rfl ?_
            refine opSkip rfl ⟨_, rfl, .inl rfl⟩ rfl ?_
            refine opSkip rfl ⟨_, rfl, .inl rfl⟩ rfl ?_
            refine opSkip rfl ⟨_, rfl, .inl rfl⟩ rfl ?_
            refine opSkip rfl ⟨_, rfl, .inl rfl⟩ rfl ?_
            refine opSkip rfl ⟨_, rfl, .inl rfl⟩ rfl ?_
            refine opSkip rfl ⟨_, rfl, .inr rfl⟩ rfl ?_
            refine opSkip rfl ⟨_, rfl, .inr rfl⟩ rfl ?_
            refine opSkip rfl ⟨_, rfl, .inr rfl⟩ rfl ?_
            refine opSkip rfl ⟨_, rfl, .inl rfl⟩ rfl ?_
            refine op0 (sp_pickT rfl rfl rfl) rfl trivial rfl rfl ?_
            refine op0 (sp_move rfl rfl) rfl trivial rfl rfl ?_
            refine opSkip rfl ⟨_, rfl, .inl rfl⟩ rfl ?_
            refine opSkip rfl ⟨_, rfl, .inl rfl⟩ rfl ?_
            refine opSkip rfl ⟨_, rfl, .inl rfl⟩ rfl ?_
            refine opSkip rfl ⟨_, rfl, .inr rfl⟩ rfl ?_
            refine opSkip rfl ⟨_, rfl, .inr rfl⟩ rfl ?_
            refine opSkip rfl ⟨_, rfl, .inr rfl⟩ rfl ?_
            refine opSkip rfl ⟨_, rfl, .inr rfl⟩ rfl ?_
            refine opSkip rfl ⟨_, rfl, .inl rfl⟩ rfl ?_
            refine opSkip rfl ⟨_, rfl, .inl rfl⟩ rfl ?_
            refine opSkip rfl ⟨_, rfl, .inr rfl⟩ rfl ?_
            refine opSkip rfl ⟨_, rfl, .inr rfl⟩ rfl ?_
            refine opSkip rfl ⟨_, rfl, .inr rfl⟩ rfl ?_
            refine opSkip rfl ⟨_, rfl, .inl rfl⟩ rfl ?_
            refine opSkip rfl ⟨_, rfl, .inl rfl⟩ rfl ?_
            refine opSkip rfl ⟨_, rfl, .inr rfl⟩ rfl ?_
            refine opSkip rfl ⟨_, rfl, .inr rfl⟩ rfl ?_
            refine opSkip rfl ⟨_, rfl, .inr rfl⟩ rfl ?_
            refine opSkip rfl ⟨_, rfl, .inr rfl⟩ rfl ?_
            refine opSkip rfl ⟨_, rfl, .inr rfl⟩ rfl ?_
            refine opSkip rfl ⟨_, rfl, .inl rfl⟩ rfl ?_
            refine op0 (sp_pickT rfl rfl rfl) rfl trivial rfl rfl ?_
            refine TL.nil ?_
            refine TC.condT rfl ?_
            refine TC.seq ?_
            refine TC.region ?_
            refine op0 (sp_assign rfl rfl) rfl trivial rfl rfl ?_
            refine TL.nil ?_
            cases h
            exact retJ [] (.tmp rfl .nil) rfl trivial rfl rfl
          · refine (boolLit 87 rfl h22).2 ?_
            refine op0 (sp_move rfl rfl) rfl ⟨_, rfl, rfl⟩ rfl rfl ?_
            refine op0 (sp_gtr rfl rfl rfl) rfl ⟨_, rfl, rfl⟩ rfl rfl ?_
            refine op0 (sp_pickF rfl rfl rfl) rfl trivial rfl rfl ?_
            refine op0 (sp_move rfl rfl) rfl trivial rfl rfl ?_
            rcases cond_cases h with ⟨h23, h⟩ | ⟨h23, h⟩
            · refine (boolLit 91 rfl h23).2 ?_
              refine opSkip rfl ⟨_, rfl, .inl rfl⟩ rfl ?_
              refine opSkip rfl ⟨_, rfl, .inl rfl⟩ rfl ?_
              refine opSkip rfl ⟨_, rfl, .inl rfl⟩ rfl ?_
              refine opSkip rfl ⟨_, rfl, .inl rfl⟩ rfl ?_
              refine opSkip rfl ⟨_, rfl, .inr rfl⟩ rfl ?_
              refine opSkip rfl ⟨_, rfl, .inr rfl⟩ rfl ?_
              refine opSkip rfl ⟨_, rfl, .inl rfl⟩ rfl ?_
              refine op0 (sp_pickT rfl rfl rfl) rfl trivial rfl rfl ?_
              refine op0 (sp_move rfl rfl) rfl trivial rfl rfl ?_
              refine opSkip rfl ⟨_, rfl, .inl rfl⟩ rfl ?_
              refine opSkip rfl ⟨_, rfl, .inl rfl⟩ rfl ?_
              refine opSkip rfl ⟨_, rfl, .inl rfl⟩ rfl ?_
              refine opSkip rfl ⟨_, rfl, .inl rfl⟩ rfl ?_
              refine opSkip rfl ⟨_, rfl, .inl rfl⟩ rfl ?_
              refine opSkip rfl ⟨_, rfl, .inr rfl⟩ rfl ?_
              refine opSkip rfl ⟨_, rfl, .inr rfl⟩ rfl ?_
              refine opSkip rfl ⟨_, rfl, .inr rfl⟩ rfl ?_
              refine opSkip rfl ⟨_, rfl, .inl rfl⟩ rfl ?_
              refine op0 (sp_pickT rfl rfl rfl) rfl trivial rfl rfl ?_
              refine op0 (sp_move rfl rfl) rfl trivial rfl rfl ?_
              refine opSkip rfl ⟨_, rfl, .inl rfl⟩ rfl ?_
              refine opSkip rfl ⟨_, rfl, .inl rfl⟩ rfl ?_
              refine opSkip rfl ⟨_, rfl, .inl rfl⟩ rfl ?_
              refine opSkip rfl ⟨_, rfl, .inr rfl⟩ rfl ?_
              refine opSkip rfl ⟨_, rfl, .inr rfl⟩ rfl ?_
              refine opSkip rfl ⟨_, rfl, .inr rfl⟩ rfl ?_
              refine opSkip rfl ⟨_, rfl, .inr rfl⟩ rfl ?_
              refine opSkip rfl ⟨_, rfl, .inl rfl⟩ rfl ?_
              refine opSkip rfl ⟨_, rfl, .inl rfl⟩ rfl ?_
              refine opSkip rfl ⟨_, rfl, .inr rfl⟩ rfl ?_
              refine opSkip rfl ⟨_, rfl, .inr rfl⟩ rfl ?_
              refine opSkip rfl ⟨_, rfl, .inr rfl⟩ rfl ?_
              refine opSkip rfl ⟨_, rfl, .inl rfl⟩ rfl ?_
              refine opSkip rfl ⟨_, rfl, .inl rfl⟩ rfl ?_
              refine opSkip rfl ⟨_, rfl, .inr rfl⟩ rfl ?_
              refine opSkip rfl ⟨_, rfl, .inr rfl⟩ rfl ?_
              refine opSkip rfl ⟨_, rfl, .inr rfl⟩ rfl ?_
              refine opSkip rfl ⟨_, rfl, .inr rfl⟩ rfl ?_
              refine opSkip rfl ⟨_, rfl, .inr rfl⟩ rfl ?_
              refine opSkip rfl ⟨_, rfl, .inl rfl⟩ rfl ?_
              refine op0 (sp_pickT rfl rfl rfl) rfl trivial rfl rfl ?_
              refine TL.nil ?_
              refine TC.condT rfl ?_
              refine TC.seq ?_
              refine TC.region ?_
              refine op0 (sp_assign rfl rfl) rfl trivial rfl rfl ?_
              refine TL.nil ?_
              cases h
              exact retJ [] (.tmp rfl .nil) rfl trivial rfl rfl
            · refine (boolLit 91 rfl h23).2 ?_
              refine op1 1 rfl (sp_loadBA rfl isBlk rfl vt64 rfl rfl) rfl ⟨_, rfl, rfl⟩ rfl rfl ?_
              refine op0 (sp_move rfl rfl) rfl ⟨_, rfl, rfl⟩ rfl rfl ?_
              obtain ⟨r14, h24, h⟩ := bind_inv h
              refine op0 (sp_call (avs := [.agg [.val (.bool w1), .val (.int .u8 w2), .val (.int .u8 w3)], .val (.int .i64 i10)]) (need := []) (v := .val (.bool r14)) (news := []) rfl rfl rfl Try.call37 (atJ [] [] (fc_law05_Wheel_silent h24) rfl rfl) (.inl (roAll rfl))) rfl ⟨_, rfl, rfl⟩ rfl rfl ?_
              refine op0 (sp_move rfl rfl) rfl ⟨_, rfl, rfl⟩ rfl rfl ?_
              rcases cond_cases h with ⟨h25, h⟩ | ⟨h25, h⟩
              · refine (boolLit 95 rfl h25).2 ?_
                refine op0 (sp_move rfl rfl) rfl ⟨_, rfl, rfl⟩ rfl rfl ?_
                refine op0 (sp_neq rfl rfl rfl) rfl ⟨_, rfl, rfl⟩ rfl rfl ?_
                refine op0 (sp_pickT rfl rfl rfl) rfl ⟨_, rfl, rfl⟩ rfl rfl ?_
                refine op0 (sp_pickF rfl rfl rfl) rfl trivial rfl rfl ?_
                refine op0 (sp_move rfl rfl) rfl trivial rfl rfl ?_
                rcases cond_cases h with ⟨h26, h⟩ | ⟨h26, h⟩
                · refine (boolLit 100 rfl h26).2 ?_
                  refine opSkip rfl ⟨_, rfl, .inl rfl⟩ rfl ?_
                  refine opSkip rfl ⟨_, rfl, .inl rfl⟩ rfl ?_
                  refine opSkip rfl ⟨_, rfl, .inl rfl⟩ rfl ?_
                  refine opSkip rfl ⟨_, rfl, .inl rfl⟩ rfl ?_
                  refine opSkip rfl ⟨_, rfl, .inl rfl⟩ rfl ?_
                  refine opSkip rfl ⟨_, rfl, .inr rfl⟩ rfl ?_
                  refine opSkip rfl ⟨_, rfl, .inr rfl⟩ rfl ?_
                  refine opSkip rfl ⟨_, rfl, .inr rfl⟩ rfl ?_
                  refine opSkip rfl ⟨_, rfl, .inl rfl⟩ rfl ?_
                  refine op0 (sp_pickT rfl rfl rfl) rfl trivial rfl rfl ?_
                  refine op0 (sp_move rfl rfl) rfl trivial rfl rfl ?_
                  refine opSkip rfl ⟨_, rfl, .inl rfl⟩ rfl ?_
                  refine opSkip rfl ⟨_, rfl, .inl rfl⟩ rfl ?_
                  refine opSkip rfl ⟨_, rfl, .inl rfl⟩ rfl ?_
                  refine opSkip rfl ⟨_, rfl, .inr rfl⟩ rfl ?_
                  refine opSkip rfl ⟨_, rfl, .inr rfl⟩ rfl ?_
                  refine opSkip rfl ⟨_, rfl, .inr rfl⟩ rfl ?_
                  refine opSkip rfl ⟨_, rfl, .inr rfl⟩ rfl ?_
                  refine opSkip rfl ⟨_, rfl, .inl rfl⟩ rfl ?_
                  refine opSkip rfl ⟨_, rfl, .inl rfl⟩ rfl ?_
                  refine opSkip rfl ⟨_, rfl, .inr rfl⟩ rfl ?_
                  refine opSkip rfl ⟨_, rfl, .inr rfl⟩ rfl ?_
                  refine opSkip rfl ⟨_, rfl, .inr rfl⟩ rfl ?_
                  refine opSkip rfl ⟨_, rfl, .inl rfl⟩ rfl ?_
                  refine opSkip rfl ⟨_, rfl, .inl rfl⟩ rfl ?_
                  refine opSkip rfl ⟨_, rfl, .inr rfl⟩ rfl ?_
                  refine opSkip rfl ⟨_, rfl, .inr rfl⟩ rfl ?_
                  refine opSkip rfl ⟨_, rfl, .inr rfl⟩ rfl ?_
                  refine opSkip rfl ⟨_, rfl, .inr rfl⟩ rfl ?_
                  refine opSkip rfl ⟨_, rfl, .inr rfl⟩ rfl ?_
                  refine opSkip rfl ⟨_, rfl, .inl rfl⟩ rfl ?_
                  refine op0 (sp_pickT rfl rfl rfl) rfl trivial rfl rfl ?_
                  refine TL.nil ?_
                  refine TC.condT rfl ?_
                  refine TC.seq ?_
                  refine TC.region ?_
                  refine op0 (sp_assign rfl rfl) rfl trivial rfl rfl ?_
                  refine TL.nil ?_
                  cases h
                  exact retJ [] (.tmp rfl .nil) rfl trivial rfl rfl
                · refine (boolLit 100 rfl h26).2 ?_
                  refine op1 1 rfl (sp_loadBA rfl isBlk rfl vt64 rfl rfl) rfl ⟨_, rfl, rfl⟩ rfl rfl ?_
                  refine op0 (sp_move rfl rfl) rfl ⟨_, rfl, rfl⟩ rfl rfl ?_
                  obtain ⟨r15, h27, h⟩ := bind_inv h
                  refine op0 (sp_call (avs := [.agg [.val (.bool w1), .val (.int .u8 w2), .val (.int .u8 w3)], .val (.int .i64 i10)]) (need := []) (v := .val (.bool r15)) (news := []) rfl rfl rfl Try.call37 (atJ [] [] (fc_law05_Wheel_silent h27) rfl rfl) (.inl (roAll rfl))) rfl ⟨_, rfl, rfl⟩ rfl rfl ?_
                  refine op0 (sp_not rfl rfl) rfl ⟨_, rfl, rfl⟩ rfl rfl ?_
                  refine op0 (sp_move rfl rfl) rfl ⟨_, rfl, rfl⟩ rfl rfl ?_
                  rcases cond_cases h with ⟨h28, h⟩ | ⟨h28, h⟩
                  · refine (boolLit 105 rfl h28).2 ?_
                    refine op0 (sp_move rfl rfl) rfl ⟨_, rfl, rfl⟩ rfl rfl ?_
                    refine op0 (sp_move rfl rfl) rfl ⟨_, rfl, rfl⟩ rfl rfl ?_
                    refine op0 (sp_neq rfl rfl rfl) rfl ⟨_, rfl, rfl⟩ rfl rfl ?_
                    refine op0 (sp_pickT rfl rfl rfl) rfl ⟨_, rfl, rfl⟩ rfl rfl ?_
                    refine op0 (sp_pickF rfl rfl rfl) rfl trivial rfl rfl ?_
                    refine op0 (sp_move rfl rfl) rfl trivial rfl rfl ?_
                    rcases cond_cases h with ⟨h29, h⟩ | ⟨h29, h⟩
                    · refine (boolLit 111 rfl h29).2 ?_
                      refine opSkip rfl ⟨_, rfl, .inl rfl⟩ rfl ?_
                      refine opSkip rfl ⟨_, rfl, .inl rfl⟩ rfl ?_
                      refine opSkip rfl ⟨_, rfl, .inl rfl⟩ rfl ?_
                      refine opSkip rfl ⟨_, rfl, .inr rfl⟩ rfl ?_
                      refine opSkip rfl ⟨_, rfl, .inr rfl⟩ rfl ?_
                      refine opSkip rfl ⟨_, rfl, .inr rfl⟩ rfl ?_
                      refine opSkip rfl ⟨_, rfl, .inr rfl⟩ rfl ?_
                      refine opSkip rfl ⟨_, rfl, .inl rfl⟩ rfl ?_
                      refine opSkip rfl ⟨_, rfl, .inl rfl⟩ rfl ?_
                      refine opSkip rfl ⟨_, rfl, .inr rfl⟩ rfl ?_
                      refine opSkip rfl ⟨_, rfl, .inr rfl⟩ rfl ?_
                      refine opSkip rfl ⟨_, rfl, .inr rfl⟩ rfl ?_
                      refine opSkip rfl ⟨_, rfl, .inl rfl⟩ rfl ?_
                      refine opSkip rfl ⟨_, rfl, .inl rfl⟩ rfl ?_
                      refine opSkip rfl ⟨_, rfl, .inr rfl⟩ rfl ?_
                      refine opSkip rfl ⟨_, rfl, .inr rfl⟩ rfl ?_
                      refine opSkip rfl ⟨_, rfl, .inr rfl⟩ rfl ?_
                      refine opSkip rfl ⟨_, rfl, .inr rfl⟩ rfl ?_
                      refine opSkip rfl ⟨_, rfl, .inr rfl⟩ rfl ?_
                      refine opSkip rfl ⟨_, rfl, .inl rfl⟩ rfl ?_
                      refine op0 (sp_pickT rfl rfl rfl) rfl trivial rfl rfl ?_
                      refine TL.nil ?_
                      refine TC.condT rfl ?_
                      refine TC.seq ?_
                      refine TC.region ?_
                      refine op0 (sp_assign rfl rfl) rfl trivial rfl rfl ?_
                      refine TL.nil ?_
                      cases h
                      exact retJ [] (.tmp rfl .nil) rfl trivial rfl rfl
                    · refine (boolLit 111 rfl h29).2 ?_
                      refine op0 (sp_move rfl rfl) rfl ⟨_, rfl, rfl⟩ rfl rfl ?_
                      refine op0 (sp_gtr rfl rfl rfl) rfl ⟨_, rfl, rfl⟩ rfl rfl ?_
                      refine op0 (sp_move rfl rfl) rfl ⟨_, rfl, rfl⟩ rfl rfl ?_
                      rcases cond_cases h with ⟨h30, h⟩ | ⟨h30, h⟩
                      · refine (boolLit 114 rfl h30).2 ?_
                        refine op0 (sp_move rfl rfl) rfl ⟨_, rfl, rfl⟩ rfl rfl ?_
                        refine op0 (sp_move rfl rfl) rfl ⟨_, rfl, rfl⟩ rfl rfl ?_
                        obtain ⟨h31, h⟩ := chk_inv h
                        refine op0 (sp_rem rfl rfl rfl h31) rfl ⟨_, rfl, rfl⟩ rfl rfl ?_
                        refine op0 (sp_gtr rfl rfl rfl) rfl ⟨_, rfl, rfl⟩ rfl rfl ?_
                        refine op0 (sp_pickT rfl rfl rfl) rfl ⟨_, rfl, rfl⟩ rfl rfl ?_
                        refine op0 (sp_move rfl rfl) rfl ⟨_, rfl, rfl⟩ rfl rfl ?_
                        rcases cond_cases h with ⟨h32, h⟩ | ⟨h32, h⟩
                        · refine (boolLit 120 rfl h32).2 ?_
                          refine op1 1 rfl (sp_fieldAddrB rfl isBlk rfl ft64_0 vt4 (by decide)) rfl ⟨_, rfl, rfl⟩ rfl rfl ?_
                          refine op1 1 rfl (sp_loadB rfl isBlk rfl vt4 rfl) rfl ⟨_, rfl, rfl⟩ rfl rfl ?_
                          refine op0 (sp_not rfl rfl) rfl ⟨_, rfl, rfl⟩ rfl rfl ?_
                          refine op0 (sp_pickT rfl rfl rfl) rfl ⟨_, rfl, rfl⟩ rfl rfl ?_
                          refine op0 (sp_move rfl rfl) rfl ⟨_, rfl, rfl⟩ rfl rfl ?_
                          rcases cond_cases h with ⟨h33, h⟩ | ⟨h33, h⟩
                          · refine (boolLit 125 rfl h33).2 ?_
                            refine op0 (sp_move rfl rfl) rfl ⟨_, rfl, rfl⟩ rfl rfl ?_
                            refine op0 (sp_move rfl rfl) rfl ⟨_, rfl, rfl⟩ rfl rfl ?_
                            refine op0 (sp_move rfl rfl) rfl ⟨_, rfl, rfl⟩ rfl rfl ?_
                            obtain ⟨h34, h⟩ := chk_inv h
                            refine op0 (sp_rem rfl rfl rfl h34) rfl ⟨_, rfl, rfl⟩ rfl rfl ?_
                            refine op0 (sp_neq rfl rfl rfl) rfl ⟨_, rfl, rfl⟩ rfl rfl ?_
                            refine op0 (sp_pickT rfl rfl rfl) rfl ⟨_, rfl, rfl⟩ rfl rfl ?_
                            refine op0 (sp_pickF rfl rfl rfl) rfl trivial rfl rfl ?_
                            refine TL.nil ?_
                            refine TC.cond (b := (r13.1 != (Int.tmod i10 r5))) rfl (fun h35 => ?_) (fun h35 => ?_)
                            · have h := cond_t h h35
                              refine TC.seq ?_
                              refine TC.region ?_
                              refine op0 (sp_assign rfl rfl) rfl trivial rfl rfl ?_
                              refine TL.nil ?_
                              cases h
                              exact retJ [] (.tmp rfl .nil) rfl trivial rfl rfl
                            · have h := cond_f h h35
                              refine TC.skip ?_
                              refine TC.region ?_
                              refine op0 (sp_move rfl rfl) rfl trivial rfl rfl ?_
                              refine op0 (sp_move rfl rfl) rfl trivial rfl rfl ?_
                              obtain ⟨h36, h⟩ := chk_inv h
                              refine op0 (sp_add rfl rfl rfl h36) rfl trivial rfl rfl ?_
                              refine op0 (sp_assign rfl rfl) rfl trivial rfl rfl ?_
                              refine TL.nil ?_
                              refine TC.inBlock ?_
                              refine TC.region ?_
                              refine op0 (sp_move rfl rfl) rfl trivial rfl rfl ?_
                              obtain ⟨h37, h⟩ := chk_inv h
                              refine op0 (sp_add rfl rfl rfl h37) rfl trivial rfl rfl ?_
                              refine op0 (sp_assign rfl rfl) rfl trivial rfl rfl ?_
                              refine TL.nil ?_
                              refine TC.inLoop ?_
                              refine TC.seq ?_
                              refine TC.seq ?_
                              refine subJ [] (ih _ _ h) ?_ ?_ ?_
                              · exact ⟨rfl, rfl, rfl, rfl, rfl, rfl, rfl, trivial⟩
                              · exact ⟨mem_at 1 rfl, mem_at 2 rfl, mem_at 3 rfl, trivial⟩
                              · rfl
                          · refine (boolLit 125 rfl h33).2 ?_
                            refine opSkip rfl ⟨_, rfl, .inl rfl⟩ rfl ?_
                            refine opSkip rfl ⟨_, rfl, .inl rfl⟩ rfl ?_
                            refine opSkip rfl ⟨_, rfl, .inl rfl⟩ rfl ?_
                            refine opSkip rfl ⟨_, rfl, .inl rfl⟩ rfl ?_
                            refine opSkip rfl ⟨_, rfl, .inl rfl⟩ rfl ?_
                            refine op0 (sp_pickF rfl rfl rfl) rfl ⟨_, rfl, rfl⟩ rfl rfl ?_
                            refine op0 (sp_pickF rfl rfl rfl) rfl trivial rfl rfl ?_
                            refine TL.nil ?_
                            refine TC.condF rfl ?_
                            refine TC.skip ?_
                            refine TC.region ?_
                            refine op0 (sp_move rfl rfl) rfl trivial rfl rfl ?_
                            refine op0 (sp_move rfl rfl) rfl trivial rfl rfl ?_
                            obtain ⟨h38, h⟩ := chk_inv h
                            refine op0 (sp_add rfl rfl rfl h38) rfl trivial rfl rfl ?_
                            refine op0 (sp_assign rfl rfl) rfl trivial rfl rfl ?_
                            refine TL.nil ?_
                            refine TC.inBlock ?_
                            refine TC.region ?_
                            refine op0 (sp_move rfl rfl) rfl trivial rfl rfl ?_
                            obtain ⟨h39, h⟩ := chk_inv h
                            refine op0 (sp_add rfl rfl rfl h39) rfl trivial rfl rfl ?_
                            refine op0 (sp_assign rfl rfl) rfl trivial rfl rfl ?_
                            refine TL.nil ?_
                            refine TC.inLoop ?_
                            refine TC.seq ?_
                            refine TC.seq ?_
                            refine subJ [] (ih _ _ h) ?_ ?_ ?_
                            · exact ⟨rfl, rfl, rfl, rfl, rfl, rfl, rfl, trivial⟩
                            · exact ⟨mem_at 1 rfl, mem_at 2 rfl, mem_at 3 rfl, trivial⟩
                            · rfl
                        · refine (boolLit 120 rfl h32).2 ?_
                          refine opSkip rfl ⟨_, rfl, .inl rfl⟩ rfl ?_
                          refine opSkip rfl ⟨_, rfl, .inl rfl⟩ rfl ?_
                          refine opSkip rfl ⟨_, rfl, .inl rfl⟩ rfl ?_
                          refine op0 (sp_pickF rfl rfl rfl) rfl ⟨_, rfl, rfl⟩ rfl rfl ?_
                          refine op0 (sp_move rfl rfl) rfl ⟨_, rfl, rfl⟩ rfl rfl ?_
                          refine opSkip rfl ⟨_, rfl, .inl rfl⟩ rfl ?_
                          refine opSkip rfl ⟨_, rfl, .inl rfl⟩ rfl ?_
                          refine opSkip rfl ⟨_, rfl, .inl rfl⟩ rfl ?_
                          refine opSkip rfl ⟨_, rfl, .inl rfl⟩ rfl ?_
                          refine opSkip rfl ⟨_, rfl, .inl rfl⟩ rfl ?_
                          refine op0 (sp_pickF rfl rfl rfl) rfl ⟨_, rfl, rfl⟩ rfl rfl ?_
                          refine op0 (sp_pickF rfl rfl rfl) rfl trivial rfl rfl ?_
                          refine TL.nil ?_
                          refine TC.condF rfl ?_
                          refine TC.skip ?_
                          refine TC.region ?_
                          refine op0 (sp_move rfl rfl) rfl trivial rfl rfl ?_
                          refine op0 (sp_move rfl rfl) rfl trivial rfl rfl ?_
                          obtain ⟨h40, h⟩ := chk_inv h
                          refine op0 (sp_add rfl rfl rfl h40) rfl trivial rfl rfl ?_
                          refine op0 (sp_assign rfl rfl) rfl trivial rfl rfl ?_
                          refine TL.nil ?_
                          refine TC.inBlock ?_
                          refine TC.region ?_
                          refine op0 (sp_move rfl rfl) rfl trivial rfl rfl ?_
                          obtain ⟨h41, h⟩ := chk_inv h
                          refine op0 (sp_add rfl rfl rfl h41) rfl trivial rfl rfl ?_
                          refine op0 (sp_assign rfl rfl) rfl trivial rfl rfl ?_
                          refine TL.nil ?_
                          refine TC.inLoop ?_
                          refine TC.seq ?_
                          refine TC.seq ?_
                          refine subJ [] (ih _ _ h) ?_ ?_ ?_
                          · exact ⟨rfl, rfl, rfl, rfl, rfl, rfl, rfl, trivial⟩
                          · exact ⟨mem_at 1 rfl, mem_at 2 rfl, mem_at 3 rfl, trivial⟩
                          · rfl
                      · refine (boolLit 114 rfl h30).2 ?_
                        refine opSkip rfl ⟨_, rfl, .inl rfl⟩ rfl ?_
                        refine opSkip rfl ⟨_, rfl, .inl rfl⟩ rfl ?_
                        refine opSkip rfl ⟨_, rfl, .inl rfl⟩ rfl ?_
                        refine opSkip rfl ⟨_, rfl, .inl rfl⟩ rfl ?_
                        refine op0 (sp_pickF rfl rfl rfl) rfl ⟨_, rfl, rfl⟩ rfl rfl ?_
                        refine op0 (sp_move rfl rfl) rfl ⟨_, rfl, rfl⟩ rfl rfl ?_
                        refine opSkip rfl ⟨_, rfl, .inl rfl⟩ rfl ?_
                        refine opSkip rfl ⟨_, rfl, .inl rfl⟩ rfl ?_
                        refine opSkip rfl ⟨_, rfl, .inl rfl⟩ rfl ?_
                        refine op0 (sp_pickF rfl rfl rfl) rfl ⟨_, rfl, rfl⟩ rfl rfl ?_
                        refine op0 (sp_move rfl rfl) rfl ⟨_, rfl, rfl⟩ rfl rfl ?_
                        refine opSkip rfl ⟨_, rfl, .inl rfl⟩ rfl ?_
                        refine opSkip rfl ⟨_, rfl, .inl rfl⟩ rfl ?_
                        refine opSkip rfl ⟨_, rfl, .inl rfl⟩ rfl ?_
                        refine opSkip rfl ⟨_, rfl, .inl rfl⟩ rfl ?_
                        refine opSkip rfl ⟨_, rfl, .inl rfl⟩ rfl ?_
                        refine op0 (sp_pickF rfl rfl rfl) rfl ⟨_, rfl, rfl⟩ rfl rfl ?_
                        refine op0 (sp_pickF rfl rfl rfl) rfl trivial rfl rfl ?_
                        refine TL.nil ?_
                        refine TC.condF rfl ?_
                        refine TC.skip ?_
                        refine TC.region ?_
                        refine op0 (sp_move rfl rfl) rfl trivial rfl rfl ?_
                        refine op0 (sp_move rfl rfl) rfl trivial rfl rfl ?_
                        obtain ⟨h42, h⟩ := chk_inv h
                        refine op0 (sp_add rfl rfl rfl h42) rfl trivial rfl rfl ?_
                        refine op0 (sp_assign rfl rfl) rfl trivial rfl rfl ?_
                        refine TL.nil ?_
                        refine TC.inBlock ?_
                        refine TC.region ?_
                        refine op0 (sp_move rfl rfl) rfl trivial rfl rfl ?_
                        obtain ⟨h43, h⟩ := chk_inv h
                        refine op0 (sp_add rfl rfl rfl h43) rfl trivial rfl rfl ?_
                        refine op0 (sp_assign rfl rfl) rfl trivial rfl rfl ?_
                        refine TL.nil ?_
                        refine TC.inLoop ?_
                        refine TC.seq ?_
                        refine TC.seq ?_
                        refine subJ [] (ih _ _ h) ?_ ?_ ?_
                        · exact ⟨rfl, rfl, rfl, rfl, rfl, rfl, rfl, trivial⟩
                        · exact ⟨mem_at 1 rfl, mem_at 2 rfl, mem_at 3 rfl, trivial⟩
                        · rfl
                  · refine (boolLit 105 rfl h28).2 ?_
                    refine opSkip rfl ⟨_, rfl, .inl rfl⟩ rfl ?_
                    refine opSkip rfl ⟨_, rfl, .inl rfl⟩ rfl ?_
                    refine opSkip rfl ⟨_, rfl, .inl rfl⟩ rfl ?_
                    refine op0 (sp_pickF rfl rfl rfl) rfl ⟨_, rfl, rfl⟩ rfl rfl ?_
                    refine op0 (sp_pickF rfl rfl rfl) rfl trivial rfl rfl ?_
                    refine op0 (sp_move rfl rfl) rfl trivial rfl rfl ?_
                    refine op0 (sp_move rfl rfl) rfl ⟨_, rfl, rfl⟩ rfl rfl ?_
                    refine op0 (sp_gtr rfl rfl rfl) rfl ⟨_, rfl, rfl⟩ rfl rfl ?_
                    refine op0 (sp_move rfl rfl) rfl ⟨_, rfl, rfl⟩ rfl rfl ?_
                    rcases cond_cases h with ⟨h44, h⟩ | ⟨h44, h⟩
                    · refine (boolLit 114 rfl h44).2 ?_
                      refine op0 (sp_move rfl rfl) rfl ⟨_, rfl, rfl⟩ rfl rfl ?_
                      refine op0 (sp_move rfl rfl) rfl ⟨_, rfl, rfl⟩ rfl rfl ?_
                      obtain ⟨h45, h⟩ := chk_inv h
                      refine op0 (sp_rem rfl rfl rfl h45) rfl ⟨_, rfl, rfl⟩ rfl rfl ?_
                      refine op0 (sp_gtr rfl rfl rfl) rfl ⟨_, rfl, rfl⟩ rfl rfl ?_
                      refine op0 (sp_pickT rfl rfl rfl) rfl ⟨_, rfl, rfl⟩ rfl rfl ?_
                      refine op0 (sp_move rfl rfl) rfl ⟨_, rfl, rfl⟩ rfl rfl ?_
                      rcases cond_cases h with ⟨h46, h⟩ | ⟨h46, h⟩
                      · refine (boolLit 120 rfl h46).2 ?_
                        refine op1 1 rfl (sp_fieldAddrB rfl isBlk rfl ft64_0 vt4 (by decide)) rfl ⟨_, rfl, rfl⟩ rfl rfl ?_
                        refine op1 1 rfl (sp_loadB rfl isBlk rfl vt4 rfl) rfl ⟨_, rfl, rfl⟩ rfl rfl ?_
                        refine op0 (sp_not rfl rfl) rfl ⟨_, rfl, rfl⟩ rfl rfl ?_
                        refine op0 (sp_pickT rfl rfl rfl) rfl ⟨_, rfl, rfl⟩ rfl rfl ?_
                        refine op0 (sp_move rfl rfl) rfl ⟨_, rfl, rfl⟩ rfl rfl ?_
                        rcases cond_cases h with ⟨h47, h⟩ | ⟨h47, h⟩
                        · refine (boolLit 125 rfl h47).2 ?_
                          refine op0 (sp_move rfl rfl) rfl ⟨_, rfl, rfl⟩ rfl rfl ?_
                          refine op0 (sp_move rfl rfl) rfl ⟨_, rfl, rfl⟩ rfl rfl ?_
                          refine op0 (sp_move rfl rfl) rfl ⟨_, rfl, rfl⟩ rfl rfl ?_
                          obtain ⟨h48, h⟩ := chk_inv h
                          refine op0 (sp_rem rfl rfl rfl h48) rfl ⟨_, rfl, rfl⟩ rfl rfl ?_
                          refine op0 (sp_neq rfl rfl rfl) rfl ⟨_, rfl, rfl⟩ rfl rfl ?_
                          refine op0 (sp_pickT rfl rfl rfl) rfl ⟨_, rfl, rfl⟩ rfl rfl ?_
                          refine op0 (sp_pickF rfl rfl rfl) rfl trivial rfl rfl ?_
                          refine TL.nil ?_
                          refine TC.cond (b := (r13.1 != (Int.tmod i10 r5))) rfl (fun h49 => ?_) (fun h49 => ?_)
                          · have h := cond_t h h49
                            refine TC.seq ?_
                            refine TC.region ?_
                            refine op0 (sp_assign rfl rfl) rfl trivial rfl rfl ?_
                            refine TL.nil ?_
                            cases h
                            exact retJ [] (.tmp rfl .nil) rfl trivial rfl rfl
                          · have h := cond_f h h49
                            refine TC.skip ?_
                            refine TC.region ?_
                            refine op0 (sp_move rfl rfl) rfl trivial rfl rfl ?_
                            refine op0 (sp_move rfl rfl) rfl trivial rfl rfl ?_
                            obtain ⟨h50, h⟩ := chk_inv h
                            refine op0 (sp_add rfl rfl rfl h50) rfl trivial rfl rfl ?_
                            refine op0 (sp_assign rfl rfl) rfl trivial rfl rfl ?_
                            refine TL.nil ?_
                            refine TC.inBlock ?_
                            refine TC.region ?_
                            refine op0 (sp_move rfl rfl) rfl trivial rfl rfl ?_
                            obtain ⟨h51, h⟩ := chk_inv h
                            refine op0 (sp_add rfl rfl rfl h51) rfl trivial rfl rfl ?_
                            refine op0 (sp_assign rfl rfl) rfl trivial rfl rfl ?_
                            refine TL.nil ?_
                            refine TC.inLoop ?_
                            refine TC.seq ?_
                            refine TC.seq ?_
                            refine subJ [] (ih _ _ h) ?_ ?_ ?_
                            · exact ⟨rfl, rfl, rfl, rfl, rfl, rfl, rfl, trivial⟩
                            · exact ⟨mem_at 1 rfl, mem_at 2 rfl, mem_at 3 rfl, trivial⟩
                            · rfl
                        · refine (boolLit 125 rfl h47).2 ?_
                          refine opSkip rfl ⟨_, rfl, .inl rfl⟩ rfl ?_
                          refine opSkip rfl ⟨_, rfl, .inl rfl⟩ rfl ?_
                          refine opSkip rfl ⟨_, rfl, .inl rfl⟩ rfl ?_
                          refine opSkip rfl ⟨_, rfl, .inl rfl⟩ rfl ?_
                          refine opSkip rfl ⟨_, rfl, .inl rfl⟩ rfl ?_
                          refine op0 (sp_pickF rfl rfl rfl) rfl ⟨_, rfl, rfl⟩ rfl rfl ?_
                          refine op0 (sp_pickF rfl rfl rfl) rfl trivial rfl rfl ?_
                          refine TL.nil ?_
                          refine TC.condF rfl ?_
                          refine TC.skip ?_
                          refine TC.region ?_
                          refine op0 (sp_move rfl rfl) rfl trivial rfl rfl ?_
                          refine op0 (sp_move rfl rfl) rfl trivial rfl rfl ?_
                          obtain ⟨h52, h⟩ := chk_inv h
                          refine op0 (sp_add rfl rfl rfl h52) rfl trivial rfl rfl ?_
                          refine op0 (sp_assign rfl rfl) rfl trivial rfl rfl ?_
                          refine TL.nil ?_
                          refine TC.inBlock ?_
                          refine TC.region ?_
                          refine op0 (sp_move rfl rfl) rfl trivial rfl rfl ?_
                          obtain ⟨h53, h⟩ := chk_inv h
                          refine op0 (sp_add rfl rfl rfl h53) rfl trivial rfl rfl ?_
                          refine op0 (sp_assign rfl rfl) rfl trivial rfl rfl ?_
                          refine TL.nil ?_
                          refine TC.inLoop ?_
                          refine TC.seq ?_
                          refine TC.seq ?_
                          refine subJ [] (ih _ _ h) ?_ ?_ ?_
                          · exact ⟨rfl, rfl, rfl, rfl, rfl, rfl, rfl, trivial⟩
                          · exact ⟨mem_at 1 rfl, mem_at 2 rfl, mem_at 3 rfl, trivial⟩
                          · rfl
                      · refine (boolLit 120 rfl h46).2 ?_
                        refine opSkip rfl ⟨_, rfl, .inl rfl⟩ rfl ?_
                        refine opSkip rfl ⟨_, rfl, .inl rfl⟩ rfl ?_
                        refine opSkip rfl ⟨_, rfl, .inl rfl⟩ rfl ?_
                        refine op0 (sp_pickF rfl rfl rfl) rfl ⟨_, rfl, rfl⟩ rfl rfl ?_
                        refine op0 (sp_move rfl rfl) rfl ⟨_, rfl, rfl⟩ rfl rfl ?_
                        refine opSkip rfl ⟨_, rfl, .inl rfl⟩ rfl ?_
                        refine opSkip rfl ⟨_, rfl, .inl rfl⟩ rfl ?_
                        refine opSkip rfl ⟨_, rfl, .inl rfl⟩ rfl ?_
                        refine opSkip rfl ⟨_, rfl, .inl rfl⟩ rfl ?_
                        refine opSkip rfl ⟨_, rfl, .inl rfl⟩ rfl ?_
                        refine op0 (sp_pickF rfl rfl rfl) rfl ⟨_, rfl, rfl⟩ rfl rfl ?_
                        refine op0 (sp_pickF rfl rfl rfl) rfl trivial rfl rfl ?_
                        refine TL.nil ?_
                        refine TC.condF rfl ?_
                        refine TC.skip ?_
                        refine TC.region ?_
                        refine op0 (sp_move rfl rfl) rfl trivial rfl rfl ?_
                        refine op0 (sp_move rfl rfl) rfl trivial rfl rfl ?_
                        obtain ⟨h54, h⟩ := chk_inv h
                        refine op0 (sp_add rfl rfl rfl h54) rfl trivial rfl rfl ?_
                        refine op0 (sp_assign rfl rfl) rfl trivial rfl rfl ?_
                        refine TL.nil ?_
                        refine TC.inBlock ?_
                        refine TC.region ?_
                        refine op0 (sp_move rfl rfl) rfl trivial rfl rfl ?_
                        obtain ⟨h55, h⟩ := chk_inv h
                        refine op0 (sp_add rfl rfl rfl h55) rfl trivial rfl rfl ?_
                        refine op0 (sp_assign rfl rfl) rfl trivial rfl rfl ?_
                        refine TL.nil ?_
                        refine TC.inLoop ?_
                        refine TC.seq ?_
                        refine TC.seq ?_
                        refine subJ [] (ih _ _ h) ?_ ?_ ?_
                        · exact ⟨rfl, rfl, rfl, rfl, rfl, rfl, rfl, trivial⟩
                        · exact ⟨mem_at 1 rfl, mem_at 2 rfl, mem_at 3 rfl, trivial⟩
                        · rfl
                    · refine (boolLit 114 rfl h44).2 ?_
                      refine opSkip rfl ⟨_, rfl, .inl rfl⟩ rfl ?_
                      refine opSkip rfl ⟨_, rfl, .inl rfl⟩ rfl ?_
                      refine opSkip rfl ⟨_, rfl, .inl rfl⟩ rfl ?_
                      refine opSkip rfl ⟨_, rfl, .inl rfl⟩ rfl ?_
                      refine op0 (sp_pickF rfl rfl rfl) rfl ⟨_, rfl, rfl⟩ rfl rfl ?_
                      refine op0 (sp_move rfl rfl) rfl ⟨_, rfl, rfl⟩ rfl rfl ?_
                      refine opSkip rfl ⟨_, rfl, .inl rfl⟩ rfl ?_
                      refine opSkip rfl ⟨_, rfl, .inl rfl⟩ rfl ?_
                      refine opSkip rfl ⟨_, rfl, .inl rfl⟩ rfl ?_
                      refine op0 (sp_pickF rfl rfl rfl) rfl ⟨_, rfl, rfl⟩ rfl rfl ?_
                      refine op0 (sp_move rfl rfl) rfl ⟨_, rfl, rfl⟩ rfl rfl ?_
                      refine opSkip rfl ⟨_, rfl, .inl rfl⟩ rfl ?_
                      refine opSkip rfl ⟨_, rfl, .inl rfl⟩ rfl ?_
                      refine opSkip rfl ⟨_, rfl, .inl rfl⟩ rfl ?_
                      refine opSkip rfl ⟨_, rfl, .inl rfl⟩ rfl ?_
                      refine opSkip rfl ⟨_, rfl, .inl rfl⟩ rfl ?_
                      refine op0 (sp_pickF rfl rfl rfl) rfl ⟨_, rfl, rfl⟩ rfl rfl ?_
                      refine op0 (sp_pickF rfl rfl rfl) rfl trivial rfl rfl ?_
                      refine TL.nil ?_
                      refine TC.condF rfl ?_
                      refine TC.skip ?_
                      refine TC.region ?_
                      refine op0 (sp_move rfl rfl) rfl trivial rfl rfl ?_
                      refine op0 (sp_move rfl rfl) rfl trivial rfl rfl ?_
                      obtain ⟨h56, h⟩ := chk_inv h
                      refine op0 (sp_add rfl rfl rfl h56) rfl trivial rfl rfl ?_
                      refine op0 (sp_assign rfl rfl) rfl trivial rfl rfl ?_
                      refine TL.nil ?_
                      refine TC.inBlock ?_
                      refine TC.region ?_
                      refine op0 (sp_move rfl rfl) rfl trivial rfl rfl ?_
                      obtain ⟨h57, h⟩ := chk_inv h
                      refine op0 (sp_add rfl rfl rfl h57) rfl trivial rfl rfl ?_
                      refine op0 (sp_assign rfl rfl) rfl trivial rfl rfl ?_
                      refine TL.nil ?_
                      refine TC.inLoop ?_
                      refine TC.seq ?_
                      refine TC.seq ?_
                      refine subJ [] (ih _ _ h) ?_ ?_ ?_
                      · exact ⟨rfl, rfl, rfl, rfl, rfl, rfl, rfl, trivial⟩
                      · exact ⟨mem_at 1 rfl, mem_at 2 rfl, mem_at 3 rfl, trivial⟩
                      · rfl
              · refine (boolLit 95 rfl h25).2 ?_
                refine opSkip rfl ⟨_, rfl, .inl rfl⟩ rfl ?_
                refine opSkip rfl ⟨_, rfl, .inl rfl⟩ rfl ?_
                refine op0 (sp_pickF rfl rfl rfl) rfl ⟨_, rfl, rfl⟩ rfl rfl ?_
                refine op0 (sp_pickF rfl rfl rfl) rfl trivial rfl rfl ?_
                refine op0 (sp_move rfl rfl) rfl trivial rfl rfl ?_
                refine op1 1 rfl (sp_loadBA rfl isBlk rfl vt64 rfl rfl) rfl ⟨_, rfl, rfl⟩ rfl rfl ?_
                refine op0 (sp_move rfl rfl) rfl ⟨_, rfl, rfl⟩ rfl rfl ?_
                obtain ⟨r16, h58, h⟩ := bind_inv h
                refine op0 (sp_call (avs := [.agg [.val (.bool w1), .val (.int .u8 w2), .val (.int .u8 w3)], .val (.int .i64 i10)]) (need := []) (v := .val (.bool r16)) (news := []) rfl rfl rfl Try.call37 (atJ [] [] (fc_law05_Wheel_silent h58) rfl rfl) (.inl (roAll rfl))) rfl ⟨_, rfl, rfl⟩ rfl rfl ?_
                refine op0 (sp_not rfl rfl) rfl ⟨_, rfl, rfl⟩ rfl rfl ?_
                refine op0 (sp_move rfl rfl) rfl ⟨_, rfl, rfl⟩ rfl rfl ?_
                rcases cond_cases h with ⟨h59, h⟩ | ⟨h59, h⟩
                · refine (boolLit 105 rfl h59).2 ?_
                  refine op0 (sp_move rfl rfl) rfl ⟨_, rfl, rfl⟩ rfl rfl ?_
                  refine op0 (sp_move rfl rfl) rfl ⟨_, rfl, rfl⟩ rfl rfl ?_
                  refine op0 (sp_neq rfl rfl rfl) rfl ⟨_, rfl, rfl⟩ rfl rfl ?_
                  refine op0 (sp_pickT rfl rfl rfl) rfl ⟨_, rfl, rfl⟩ rfl rfl ?_
                  refine op0 (sp_pickF rfl rfl rfl) rfl trivial rfl rfl ?_
                  refine op0 (sp_move rfl rfl) rfl trivial rfl rfl ?_
                  rcases cond_cases h with ⟨h60, h⟩ | ⟨h60, h⟩
                  · refine (boolLit 111 rfl h60).2 ?_
                    refine opSkip rfl ⟨_, rfl, .inl rfl⟩ rfl ?_
                    refine opSkip rfl ⟨_, rfl, .inl rfl⟩ rfl ?_
                    refine opSkip rfl ⟨_, rfl, .inl rfl⟩ rfl ?_
                    refine opSkip rfl ⟨_, rfl, .inr rfl⟩ rfl ?_
                    refine opSkip rfl ⟨_, rfl, .inr rfl⟩ rfl ?_
                    refine opSkip rfl ⟨_, rfl, .inr rfl⟩ rfl ?_
                    refine opSkip rfl ⟨_, rfl, .inr rfl⟩ rfl ?_
                    refine opSkip rfl ⟨_, rfl, .inl rfl⟩ rfl ?_
                    refine opSkip rfl ⟨_, rfl, .inl rfl⟩ rfl ?_
                    refine opSkip rfl ⟨_, rfl, .inr rfl⟩ rfl ?_
                    refine opSkip rfl ⟨_, rfl, .inr rfl⟩ rfl ?_
                    refine opSkip rfl ⟨_, rfl, .inr rfl⟩ rfl ?_
                    refine opSkip rfl ⟨_, rfl, .inl rfl⟩ rfl ?_
                    refine opSkip rfl ⟨_, rfl, .inl rfl⟩ rfl ?_
                    refine opSkip rfl ⟨_, rfl, .inr rfl⟩ rfl ?_
                    refine opSkip rfl ⟨_, rfl, .inr rfl⟩ rfl ?_
                    refine opSkip rfl ⟨_, rfl, .inr rfl⟩ rfl ?_
                    refine opSkip rfl ⟨_, rfl, .inr rfl⟩ rfl ?_
                    refine opSkip rfl ⟨_, rfl, .inr rfl⟩ rfl ?_
                    refine opSkip rfl ⟨_, rfl, .inl rfl⟩ rfl ?_
                    refine op0 (sp_pickT rfl rfl rfl) rfl trivial rfl rfl ?_
                    refine TL.nil ?_
                    refine TC.condT rfl ?_
                    refine TC.seq ?_
                    refine TC.region ?_
                    refine op0 (sp_assign rfl rfl) rfl trivial rfl rfl ?_
                    refine TL.nil ?_
                    cases h
                    exact retJ [] (.tmp rfl .nil) rfl trivial rfl rfl
                  · refine (boolLit 111 rfl h60).2 ?_
                    refine op0 (sp_move rfl rfl) rfl ⟨_, rfl, rfl⟩ rfl rfl ?_
                    refine op0 (sp_gtr rfl rfl rfl) rfl ⟨_, rfl, rfl⟩ rfl rfl ?_
                    refine op0 (sp_move rfl rfl) rfl ⟨_, rfl, rfl⟩ rfl rfl ?_
                    rcases cond_cases h with ⟨h61, h⟩ | ⟨h61, h⟩
                    · refine (boolLit 114 rfl h61).2 ?_
                      refine op0 (sp_move rfl rfl) rfl ⟨_, rfl, rfl⟩ rfl rfl ?_
                      refine op0 (sp_move rfl rfl) rfl ⟨_, rfl, rfl⟩ rfl rfl ?_
                      obtain ⟨h62, h⟩ := chk_inv h
                      refine op0 (sp_rem rfl rfl rfl h62) rfl ⟨_, rfl, rfl⟩ rfl rfl ?_
                      refine op0 (sp_gtr rfl rfl rfl) rfl ⟨_, rfl, rfl⟩ rfl rfl ?_
                      refine op0 (sp_pickT rfl rfl rfl) rfl ⟨_, rfl, rfl⟩ rfl rfl ?_
                      refine op0 (sp_move rfl rfl) rfl ⟨_, rfl, rfl⟩ rfl rfl ?_
                      rcases cond_cases h with ⟨h63, h⟩ | ⟨h63, h⟩
                      · refine (boolLit 120 rfl h63).2 ?_
                        refine op1 1 rfl (sp_fieldAddrB rfl isBlk rfl ft64_0 vt4 (by decide)) rfl ⟨_, rfl, rfl⟩ rfl rfl ?_
                        refine op1 1 rfl (sp_loadB rfl isBlk rfl vt4 rfl) rfl ⟨_, rfl, rfl⟩ rfl rfl ?_
                        refine op0 (sp_not rfl rfl) rfl ⟨_, rfl, rfl⟩ rfl rfl ?_
                        refine op0 (sp_pickT rfl rfl rfl) rfl ⟨_, rfl, rfl⟩ rfl rfl ?_
                        refine op0 (sp_move rfl rfl) rfl ⟨_, rfl, rfl⟩ rfl rfl ?_
                        rcases cond_cases h with ⟨h64, h⟩ | ⟨h64, h⟩
                        · refine (boolLit 125 rfl h64).2 ?_
                          refine op0 (sp_move rfl rfl) rfl ⟨_, rfl, rfl⟩ rfl rfl ?_
                          refine op0 (sp_move rfl rfl) rfl ⟨_, rfl, rfl⟩ rfl rfl ?_
                          refine op0 (sp_move rfl rfl) rfl ⟨_, rfl, rfl⟩ rfl rfl ?_
                          obtain ⟨h65, h⟩ := chk_inv h
                          refine op0 (sp_rem rfl rfl rfl h65) rfl ⟨_, rfl, rfl⟩ rfl rfl ?_
                          refine op0 (sp_neq rfl rfl rfl) rfl ⟨_, rfl, rfl⟩ rfl rfl ?_
                          refine op0 (sp_pickT rfl rfl rfl) rfl ⟨_, rfl, rfl⟩ rfl rfl ?_
                          refine op0 (sp_pickF rfl rfl rfl) rfl trivial rfl rfl ?_
                          refine TL.nil ?_
                          refine TC.cond (b := (r13.1 != (Int.tmod i10 r5))) rfl (fun h66 => ?_) (fun h66 => ?_)
                          · have h := cond_t h h66
                            refine TC.seq ?_
                            refine TC.region ?_
                            refine op0 (sp_assign rfl rfl) rfl trivial rfl rfl ?_
                            refine TL.nil ?_
                            cases h
                            exact retJ [] (.tmp rfl .nil) rfl trivial rfl rfl
                          · have h := cond_f h h66
                            refine TC.skip ?_
                            refine TC.region ?_
                            refine op0 (sp_move rfl rfl) rfl trivial rfl rfl ?_
                            refine op0 (sp_move rfl rfl) rfl trivial rfl rfl ?_
                            obtain ⟨h67, h⟩ := chk_inv h
                            refine op0 (sp_add rfl rfl rfl h67) rfl trivial rfl rfl ?_
                            refine op0 (sp_assign rfl rfl) rfl trivial rfl rfl ?_
                            refine TL.nil ?_
                            refine TC.inBlock ?_
                            refine TC.region ?_
                            refine op0 (sp_move rfl rfl) rfl trivial rfl rfl ?_
                            obtain ⟨h68, h⟩ := chk_inv h
                            refine op0 (sp_add rfl rfl rfl h68) rfl trivial rfl rfl ?_
                            refine op0 (sp_assign rfl rfl) rfl trivial rfl rfl ?_
                            refine TL.nil ?_
                            refine TC.inLoop ?_
                            refine TC.seq ?_
                            refine TC.seq ?_
                            refine subJ [] (ih _ _ h) ?_ ?_ ?_
                            · exact ⟨rfl, rfl, rfl, rfl, rfl, rfl, rfl, trivial⟩
                            · exact ⟨mem_at 1 rfl, mem_at 2 rfl, mem_at 3 rfl, trivial⟩
                            · rfl
                        · refine (boolLit 125 rfl h64).2 ?_
                          refine opSkip rfl ⟨_, rfl, .inl rfl⟩ rfl ?_
                          refine opSkip rfl ⟨_, rfl, .inl rfl⟩ rfl ?_
                          refine opSkip rfl ⟨_, rfl, .inl rfl⟩ rfl ?_
                          refine opSkip rfl ⟨_, rfl, .inl rfl⟩ rfl ?_
                          refine opSkip rfl ⟨_, rfl, .inl rfl⟩ rfl ?_
                          refine op0 (sp_pickF rfl rfl rfl) rfl ⟨_, rfl, rfl⟩ rfl rfl ?_
                          refine op0 (sp_pickF rfl rfl rfl) rfl trivial rfl rfl ?_
                          refine TL.nil ?_
                          refine TC.condF rfl ?_
                          refine TC.skip ?_
                          refine TC.region ?_
                          refine op0 (sp_move rfl rfl) rfl trivial rfl rfl ?_
                          refine op0 (sp_move rfl rfl) rfl trivial rfl rfl ?_
                          obtain ⟨h69, h⟩ := chk_inv h
                          refine op0 (sp_add rfl rfl rfl h69) rfl trivial rfl rfl ?_
                          refine op0 (sp_assign rfl rfl) rfl trivial rfl rfl ?_
                          refine TL.nil ?_
                          refine TC.inBlock ?_
                          refine TC.region ?_
                          refine op0 (sp_move rfl rfl) rfl trivial rfl rfl ?_
                          obtain ⟨h70, h⟩ := chk_inv h
                          refine op0 (sp_add rfl rfl rfl h70) rfl trivial rfl rfl ?_
                          refine op0 (sp_assign rfl rfl) rfl trivial rfl rfl ?_
                          refine TL.nil ?_
                          refine TC.inLoop ?_
                          refine TC.seq ?_
                          refine TC.seq ?_
                          refine subJ [] (ih _ _ h) ?_ ?_ ?_
                          · exact ⟨rfl, rfl, rfl, rfl, rfl, rfl, rfl, trivial⟩
                          · exact ⟨mem_at 1 rfl, mem_at 2 rfl, mem_at 3 rfl, trivial⟩
                          · rfl
                      · refine (boolLit 120 rfl h63).2 ?_
                        refine opSkip rfl ⟨_, rfl, .inl rfl⟩ rfl ?_
                        refine opSkip rfl ⟨_, rfl, .inl rfl⟩ rfl ?_
                        refine opSkip rfl ⟨_, rfl, .inl rfl⟩ rfl ?_
                        refine op0 (sp_pickF rfl rfl rfl) rfl ⟨_, rfl, rfl⟩ rfl rfl ?_
                        refine op0 (sp_move rfl rfl) rfl ⟨_, rfl, rfl⟩ rfl rfl ?_
                        refine opSkip rfl ⟨_, rfl, .inl rfl⟩ rfl ?_
                        refine opSkip rfl ⟨_, rfl, .inl rfl⟩ rfl ?_
                        refine opSkip rfl ⟨_, rfl, .inl rfl⟩ rfl ?_
                        refine opSkip rfl ⟨_, rfl, .inl rfl⟩ rfl ?_
                        refine opSkip rfl ⟨_, rfl, .inl rfl⟩ rfl ?_
                        refine op0 (sp_pickF rfl rfl rfl) rfl ⟨_, rfl, rfl⟩ rfl rfl ?_
                        refine op0 (sp_pickF rfl rfl rfl) rfl trivial rfl rfl ?_
                        refine TL.nil ?_
                        refine TC.condF rfl ?_
                        refine TC.skip ?_
                        refine TC.region ?_
                        refine op0 (sp_move rfl rfl) rfl trivial rfl rfl ?_
                        refine op0 (sp_move rfl rfl) rfl trivial rfl rfl ?_
                        obtain ⟨h71, h⟩ := chk_inv h
                        refine op0 (sp_add rfl rfl rfl h71) rfl trivial rfl rfl ?_
                        refine op0 (sp_assign rfl rfl) rfl trivial rfl rfl ?_
                        refine TL.nil ?_
                        refine TC.inBlock ?_
                        refine TC.region ?_
                        refine op0 (sp_move rfl rfl) rfl trivial rfl rfl ?_
                        obtain ⟨h72, h⟩ := chk_inv h
                        refine op0 (sp_add rfl rfl rfl h72) rfl trivial rfl rfl ?_
                        refine op0 (sp_assign rfl rfl) rfl trivial rfl rfl ?_
                        refine TL.nil ?_
                        refine TC.inLoop ?_
                        refine TC.seq ?_
                        refine TC.seq ?_
                        refine subJ [] (ih _ _ h) ?_ ?_ ?_
                        · exact ⟨rfl, rfl, rfl, rfl, rfl, rfl, rfl, trivial⟩
                        · exact ⟨mem_at 1 rfl, mem_at 2 rfl, mem_at 3 rfl, trivial⟩
                        · rfl
                    · refine (boolLit 114 rfl h61).2 ?_
                      refine opSkip rfl ⟨_, rfl, .inl rfl⟩ rfl ?_
                      refine opSkip rfl ⟨_, rfl, .inl rfl⟩ rfl ?_
                      refine opSkip rfl ⟨_, rfl, .inl rfl⟩ rfl ?_
                      refine opSkip rfl ⟨_, rfl, .inl rfl⟩ rfl ?_
                      refine op0 (sp_pickF rfl rfl rfl) rfl ⟨_, rfl, rfl⟩ rfl rfl ?_
                      refine op0 (sp_move rfl rfl) rfl ⟨_, rfl, rfl⟩ rfl rfl ?_
                      refine opSkip rfl ⟨_, rfl, .inl rfl⟩ rfl ?_
                      refine opSkip rfl ⟨_, rfl, .inl rfl⟩ rfl ?_
                      refine opSkip rfl ⟨_, rfl, .inl rfl⟩ rfl ?_
                      refine op0 (sp_pickF rfl rfl rfl) rfl ⟨_, rfl, rfl⟩ rfl rfl ?_
                      refine op0 (sp_move rfl rfl) rfl ⟨_, rfl, rfl⟩ rfl rfl ?_
                      refine opSkip rfl ⟨_, rfl, .inl rfl⟩ rfl ?_
                      refine opSkip rfl ⟨_, rfl, .inl rfl⟩ rfl ?_
                      refine opSkip rfl ⟨_, rfl, .inl rfl⟩ rfl ?_
                      refine opSkip rfl ⟨_, rfl, .inl rfl⟩ rfl ?_
                      refine opSkip rfl ⟨_, rfl, .inl rfl⟩ rfl ?_
                      refine op0 (sp_pickF rfl rfl rfl) rfl ⟨_, rfl, rfl⟩ rfl rfl ?_
                      refine op0 (sp_pickF rfl rfl rfl) rfl trivial rfl rfl ?_
                      refine TL.nil ?_
                      refine TC.condF rfl ?_
                      refine TC.skip ?_
                      refine TC.region ?_
                      refine op0 (sp_move rfl rfl) rfl trivial rfl rfl ?_
                      refine op0 (sp_move rfl rfl) rfl trivial rfl rfl ?_
                      obtain ⟨h73, h⟩ := chk_inv h
                      refine op0 (sp_add rfl rfl rfl h73) rfl trivial rfl rfl ?_
                      refine op0 (sp_assign rfl rfl) rfl trivial rfl rfl ?_
                      refine TL.nil ?_
                      refine TC.inBlock ?_
                      refine TC.region ?_
                      refine op0 (sp_move rfl rfl) rfl trivial rfl rfl ?_
                      obtain ⟨h74, h⟩ := chk_inv h
                      refine op0 (sp_add rfl rfl rfl h74) rfl trivial rfl rfl ?_
                      refine op0 (sp_assign rfl rfl) rfl trivial rfl rfl ?_
                      refine TL.nil ?_
                      refine TC.inLoop ?_
                      refine TC.seq ?_
                      refine TC.seq ?_
                      refine subJ [] (ih _ _ h) ?_ ?_ ?_
                      · exact ⟨rfl, rfl, rfl, rfl, rfl, rfl, rfl, trivial⟩
                      · exact ⟨mem_at 1 rfl, mem_at 2 rfl, mem_at 3 rfl, trivial⟩
                      · rfl
                · refine (boolLit 105 rfl h59).2 ?_
                  refine opSkip rfl ⟨_, rfl, .inl rfl⟩ rfl ?_
                  refine opSkip rfl ⟨_, rfl, .inl rfl⟩ rfl ?_
                  refine opSkip rfl ⟨_, rfl, .inl rfl⟩ rfl ?_
                  refine op0 (sp_pickF rfl rfl rfl) rfl ⟨_, rfl, rfl⟩ rfl rfl ?_
                  refine op0 (sp_pickF rfl rfl rfl) rfl trivial rfl rfl ?_
                  refine op0 (sp_move rfl rfl) rfl trivial rfl rfl ?_
                  refine op0 (sp_move rfl rfl) rfl ⟨_, rfl, rfl⟩ rfl rfl ?_
                  refine op0 (sp_gtr rfl rfl rfl) rfl ⟨_, rfl, rfl⟩ rfl rfl ?_
                  refine op0 (sp_move rfl rfl) rfl ⟨_, rfl, rfl⟩ rfl rfl ?_
                  rcases cond_cases h with ⟨h75, h⟩ | ⟨h75, h⟩
                  · refine (boolLit 114 rfl h75).2 ?_
                    refine op0 (sp_move rfl rfl) rfl ⟨_, rfl, rfl⟩ rfl rfl ?_
                    refine op0 (sp_move rfl rfl) rfl ⟨_, rfl, rfl⟩ rfl rfl ?_
                    obtain ⟨h76, h⟩ := chk_inv h
                    refine op0 (sp_rem rfl rfl rfl h76) rfl ⟨_, rfl, rfl⟩ rfl rfl ?_
                    refine op0 (sp_gtr rfl rfl rfl) rfl ⟨_, rfl, rfl⟩ rfl rfl ?_
                    refine op0 (sp_pickT rfl rfl rfl) rfl ⟨_, rfl, rfl⟩ rfl rfl ?_
                    refine op0 (sp_move rfl rfl) rfl ⟨_, rfl, rfl⟩ rfl rfl ?_
                    rcases cond_cases h with ⟨h77, h⟩ | ⟨h77, h⟩
                    · refine (boolLit 120 rfl h77).2 ?_
                      refine op1 1 rfl (sp_fieldAddrB rfl isBlk rfl ft64_0 vt4 (by decide)) rfl ⟨_, rfl, rfl⟩ rfl rfl ?_
                      refine op1 1 rfl (sp_loadB rfl isBlk rfl vt4 rfl) rfl ⟨_, rfl, rfl⟩ rfl rfl ?_
                      refine op0 (sp_not rfl rfl) rfl ⟨_, rfl, rfl⟩ rfl rfl ?_
                      refine op0 (sp_pickT rfl rfl rfl) rfl ⟨_, rfl, rfl⟩ rfl rfl ?_
                      refine op0 (sp_move rfl rfl) rfl ⟨_, rfl, rfl⟩ rfl rfl ?_
                      rcases cond_cases h with ⟨h78, h⟩ | ⟨h78, h⟩
                      · refine (boolLit 125 rfl h78).2 ?_
                        refine op0 (sp_move rfl rfl) rfl ⟨_, rfl, rfl⟩ rfl rfl ?_
                        refine op0 (sp_move rfl rfl) rfl ⟨_, rfl, rfl⟩ rfl rfl ?_
                        refine op0 (sp_move rfl rfl) rfl ⟨_, rfl, rfl⟩ rfl rfl ?_
                        obtain ⟨h79, h⟩ := chk_inv h
                        refine op0 (sp_rem rfl rfl rfl h79) rfl ⟨_, rfl, rfl⟩ rfl rfl ?_
                        refine op0 (sp_neq rfl rfl rfl) rfl ⟨_, rfl, rfl⟩ rfl rfl ?_
                        refine op0 (sp_pickT rfl rfl rfl) rfl ⟨_, rfl, rfl⟩ rfl rfl ?_
                        refine op0 (sp_pickF rfl rfl rfl) rfl trivial rfl rfl ?_
                        refine TL.nil ?_
                        refine TC.cond (b := (r13.1 != (Int.tmod i10 r5))) rfl (fun h80 => ?_) (fun h80 => ?_)
                        · have h := cond_t h h80
                          refine TC.seq ?_
                          refine TC.region ?_
                          refine op0 (sp_assign rfl rfl) rfl trivial rfl rfl ?_
                          refine TL.nil ?_
                          cases h
                          exact retJ [] (.tmp rfl .nil) rfl trivial rfl rfl
                        · have h := cond_f h h80
                          refine TC.skip ?_
                          refine TC.region ?_
                          refine op0 (sp_move rfl rfl) rfl trivial rfl rfl ?_
                          refine op0 (sp_move rfl rfl) rfl trivial rfl rfl ?_
                          obtain ⟨h81, h⟩ := chk_inv h
                          refine op0 (sp_add rfl rfl rfl h81) rfl trivial rfl rfl ?_
                          refine op0 (sp_assign rfl rfl) rfl trivial rfl rfl ?_
                          refine TL.nil ?_
                          refine TC.inBlock ?_
                          refine TC.region ?_
                          refine op0 (sp_move rfl rfl) rfl trivial rfl rfl ?_
                          obtain ⟨h82, h⟩ := chk_inv h
                          refine op0 (sp_add rfl rfl rfl h82) rfl trivial rfl rfl ?_
                          refine op0 (sp_assign rfl rfl) rfl trivial rfl rfl ?_
                          refine TL.nil ?_
                          refine TC.inLoop ?_
                          refine TC.seq ?_
                          refine TC.seq ?_
                          refine subJ [] (ih _ _ h) ?_ ?_ ?_
                          · exact ⟨rfl, rfl, rfl, rfl, rfl, rfl, rfl, trivial⟩
                          · exact ⟨mem_at 1 rfl, mem_at 2 rfl, mem_at 3 rfl, trivial⟩
                          · rfl
                      · refine (boolLit 125 rfl h78).2 ?_
                        refine opSkip rfl ⟨_, rfl, .inl rfl⟩ rfl ?_
                        refine opSkip rfl ⟨_, rfl, .inl rfl⟩ rfl ?_
                        refine opSkip rfl ⟨_, rfl, .inl rfl⟩ rfl ?_
                        refine opSkip rfl ⟨_, rfl, .inl rfl⟩ rfl ?_
                        refine opSkip rfl ⟨_, rfl, .inl rfl⟩ rfl ?_
                        refine op0 (sp_pickF rfl rfl rfl) rfl ⟨_, rfl, rfl⟩ rfl rfl ?_
                        refine op0 (sp_pickF rfl rfl rfl) rfl trivial rfl rfl ?_
                        refine TL.nil ?_
                        refine TC.condF rfl ?_
                        refine TC.skip ?_
                        refine TC.region ?_
                        refine op0 (sp_move rfl rfl) rfl trivial rfl rfl ?_
                        refine op0 (sp_move rfl rfl) rfl trivial rfl rfl ?_
                        obtain ⟨h83, h⟩ := chk_inv h
                        refine op0 (sp_add rfl rfl rfl h83) rfl trivial rfl rfl ?_
                        refine op0 (sp_assign rfl rfl) rfl trivial rfl rfl ?_
                        refine TL.nil ?_
                        refine TC.inBlock ?_
                        refine TC.region ?_
                        refine op0 (sp_move rfl rfl) rfl trivial rfl rfl ?_
                        obtain ⟨h84, h⟩ := chk_inv h
                        refine op0 (sp_add rfl rfl rfl h84) rfl trivial rfl rfl ?_
                        refine op0 (sp_assign rfl rfl) rfl trivial rfl rfl ?_
                        refine TL.nil ?_
                        refine TC.inLoop ?_
                        refine TC.seq ?_
                        refine TC.seq ?_
                        refine subJ [] (ih _ _ h) ?_ ?_ ?_
                        · exact ⟨rfl, rfl, rfl, rfl, rfl, rfl, rfl, trivial⟩
                        · exact ⟨mem_at 1 rfl, mem_at 2 rfl, mem_at 3 rfl, trivial⟩
                        · rfl
                    · refine (boolLit 120 rfl h77).2 ?_
                      refine opSkip rfl ⟨_, rfl, .inl rfl⟩ rfl ?_
                      refine opSkip rfl ⟨_, rfl, .inl rfl⟩ rfl ?_
                      refine opSkip rfl ⟨_, rfl, .inl rfl⟩ rfl ?_
                      refine op0 (sp_pickF rfl rfl rfl) rfl ⟨_, rfl, rfl⟩ rfl rfl ?_
                      refine op0 (sp_move rfl rfl) rfl ⟨_, rfl, rfl⟩ rfl rfl ?_
                      refine opSkip rfl ⟨_, rfl, .inl rfl⟩ rfl ?_
                      refine opSkip rfl ⟨_, rfl, .inl rfl⟩ rfl ?_
                      refine opSkip rfl ⟨_, rfl, .inl rfl⟩ rfl ?_
                      refine opSkip rfl ⟨_, rfl, .inl rfl⟩ rfl ?_
                      refine opSkip rfl ⟨_, rfl, .inl rfl⟩ rfl ?_
                      refine op0 (sp_pickF rfl rfl rfl) rfl ⟨_, rfl, rfl⟩ rfl rfl ?_
                      refine op0 (sp_pickF rfl rfl rfl) rfl trivial rfl rfl ?_
                      refine TL.nil ?_
                      refine TC.condF rfl ?_
                      refine TC.skip ?_
                      refine TC.region ?_
                      refine op0 (sp_move rfl rfl) rfl trivial rfl rfl ?_
                      refine op0 (sp_move rfl rfl) rfl trivial rfl rfl ?_
                      obtain ⟨h85, h⟩ := chk_inv h
                      refine op0 (sp_add rfl rfl rfl h85) rfl trivial rfl rfl ?_
                      refine op0 (sp_assign rfl rfl) rfl trivial rfl rfl ?_
                      refine TL.nil ?_
                      refine TC.inBlock ?_
                      refine TC.region ?_
                      refine op0 (sp_move rfl rfl) rfl trivial rfl rfl ?_
                      obtain ⟨h86, h⟩ := chk_inv h
                      refine op0 (sp_add rfl rfl rfl h86) rfl trivial rfl rfl ?_
                      refine op0 (sp_assign rfl rfl) rfl trivial rfl rfl ?_
                      refine TL.nil ?_
                      refine TC.inLoop ?_
                      refine TC.seq ?_
                      refine TC.seq ?_
                      refine subJ [] (ih _ _ h) ?_ ?_ ?_
                      · exact ⟨rfl, rfl, rfl, rfl, rfl, rfl, rfl, trivial⟩
                      · exact ⟨mem_at 1 rfl, mem_at 2 rfl, mem_at 3 rfl, trivial⟩
                      · rfl
                  · refine (boolLit 114 rfl h75).2 ?_
                    refine opSkip rfl ⟨_, rfl, .inl rfl⟩ rfl ?_
                    refine opSkip rfl ⟨_, rfl, .inl rfl⟩ rfl ?_
                    refine opSkip rfl ⟨_, rfl, .inl rfl⟩ rfl ?_
                    refine opSkip rfl ⟨_, rfl, .inl rfl⟩ rfl ?_
                    refine op0 (sp_pickF rfl rfl rfl) rfl ⟨_, rfl, rfl⟩ rfl rfl ?_
                    refine op0 (sp_move rfl rfl) rfl ⟨_, rfl, rfl⟩ rfl rfl ?_
                    refine opSkip rfl ⟨_, rfl, .inl rfl⟩ rfl ?_
                    refine opSkip rfl ⟨_, rfl, .inl rfl⟩ rfl ?_
                    refine opSkip rfl ⟨_, rfl, .inl rfl⟩ rfl ?_
                    refine op0 (sp_pickF rfl rfl rfl) rfl ⟨_, rfl, rfl⟩ rfl rfl ?_
                    refine op0 (sp_move rfl rfl) rfl ⟨_, rfl, rfl⟩ rfl rfl ?_
                    refine opSkip rfl ⟨_, rfl, .inl rfl⟩ rfl ?_
                    refine opSkip rfl ⟨_, rfl, .inl rfl⟩ rfl ?_
                    refine opSkip rfl ⟨_, rfl, .inl rfl⟩ rfl ?_
                    refine opSkip rfl ⟨_, rfl, .inl rfl⟩ rfl ?_
                    refine opSkip rfl ⟨_, rfl, .inl rfl⟩ rfl ?_
                    refine op0 (sp_pickF rfl rfl rfl) rfl ⟨_, rfl, rfl⟩ rfl rfl ?_
                    refine op0 (sp_pickF rfl rfl rfl) rfl trivial rfl rfl ?_
                    refine TL.nil ?_
                    refine TC.condF rfl ?_
                    refine TC.skip ?_
                    refine TC.region ?_
                    refine op0 (sp_move rfl rfl) rfl trivial rfl rfl ?_
                    refine op0 (sp_move rfl rfl) rfl trivial rfl rfl ?_
                    obtain ⟨h87, h⟩ := chk_inv h
                    refine op0 (sp_add rfl rfl rfl h87) rfl trivial rfl rfl ?_
                    refine op0 (sp_assign rfl rfl) rfl trivial rfl rfl ?_
                    refine TL.nil ?_
                    refine TC.inBlock ?_
                    refine TC.region ?_
                    refine op0 (sp_move rfl rfl) rfl trivial rfl rfl ?_
                    obtain ⟨h88, h⟩ := chk_inv h
                    refine op0 (sp_add rfl rfl rfl h88) rfl trivial rfl rfl ?_
                    refine op0 (sp_assign rfl rfl) rfl trivial rfl rfl ?_
                    refine TL.nil ?_
                    refine TC.inLoop ?_
                    refine TC.seq ?_
                    refine TC.seq ?_
                    refine subJ [] (ih _ _ h) ?_ ?_ ?_
                    · exact ⟨rfl, rfl, rfl, rfl, rfl, rfl, rfl, trivial⟩
                    · exact ⟨mem_at 1 rfl, mem_at 2 rfl, mem_at 3 rfl, trivial⟩
                    · rfl
    · have h := cond_f h h12
      refine TC.exit rfl ?_
      refine TC.seq ?_
      refine TC.region ?_
      refine op0 (sp_move rfl rfl) rfl trivial rfl rfl ?_
      refine op0 (sp_move rfl rfl) rfl trivial rfl rfl ?_
      refine op0 (sp_eql rfl rfl rfl) rfl trivial rfl rfl ?_
      refine op0 (sp_move rfl rfl) rfl trivial rfl rfl ?_
      rcases cond_cases h with ⟨h89, h⟩ | ⟨h89, h⟩
      · refine (boolLit 139 rfl h89).2 ?_
        obtain ⟨r17, h90, h⟩ := bind_inv h
        refine op0 (sp_call (avs := []) (need := []) (v := .val (.bool r17)) (news := []) rfl rfl rfl Try.call12 (atJ [] [] (fc_law05_known h90) rfl rfl) (.inl (roAll rfl))) rfl ⟨_, rfl, rfl⟩ rfl rfl ?_
        refine op0 (sp_pickT rfl rfl rfl) rfl trivial rfl rfl ?_
        refine op0 (sp_assign rfl rfl) rfl trivial rfl rfl ?_
        refine TL.nil ?_
        cases h
        exact retJ [] (.tmp rfl .nil) rfl trivial rfl rfl
      · refine (boolLit 139 rfl h89).2 ?_
        refine opSkip rfl ⟨_, rfl, .inl rfl⟩ rfl ?_
        refine op0 (sp_pickF rfl rfl rfl) rfl trivial rfl rfl ?_
        refine op0 (sp_assign rfl rfl) rfl trivial rfl rfl ?_
        refine TL.nil ?_
        cases h
        exact retJ [] (.tmp rfl .nil) rfl trivial rfl rfl
def ev_law05_StrikeDays_j0 (n : Nat) (r5 : Int) (day4 : Int) (r6 : Bool × Bool × (List (Int × Int))) (w1 : Bool) (w2 : Int) (w3 : Int) (r7 : Int × Int) : Option Bool :=
  ev_law05_StrikeDays_l1 n r5 day4 r6 w1 w2 w3 r7 n 0 0
set_option maxRecDepth 100000 in
set_option maxHeartbeats 2000000 in
theorem ok_law05_StrikeDays_j0 {n : Nat} {w0 : World} {R0 : Nat → Prop} {env0 : Env} {r : Bool} {day4 : Int} {r5 : Int} {r7 : Int × Int} {w1 : Bool} {w2 : Int} {w3 : Int} {r6 : Bool × Bool × (List (Int × Int))} (h : ev_law05_StrikeDays_j0 n r5 day4 r6 w1 w2 w3 r7 = some r) : TC Try.prog ⟨w0, fun _ => False, R0⟩ 142 (bodyPost Try.prog Try.f10 (Post ⟨w0, fun _ => False, R0⟩ env0 (.val (.bool r)) [])) [.code (sub (bodyOf Try.f10) [1, 1, 1, 1, 0, 1, 1]), .code (sub (bodyOf Try.f10) [1, 1, 1, 1, 1])] ([(1, .val (.int .u16 day4)), (2, .ptr 0 0), (5, .val (.int .i64 r5)), (6, .ptr 2 0), (7, .val (.int .i64 0)), (8, .val (.int .i64 r7.1))]) ([.blk 0 [.val (.bool w1), .val (.int .u8 w2), .val (.int .u8 w3)] 64, .blk 2 [.val (.bool r6.1), .val (.bool r6.2.1), .ref 1] 24, .row 1 81 2 (List.map en_api_Span r6.2.2)]) := by
  rw [ev_law05_StrikeDays_j0] at h
  refine TC.skip ?_
  refine TC.seq ?_
  refine TC.seq ?_
  refine TC.region ?_
  refine op0 (sp_assign rfl rfl) rfl trivial rfl rfl ?_
  refine TL.nil ?_
  refine TC.block ?_
  refine TC.loop ?_
  refine TC.seq ?_
  refine TC.seq ?_
  refine subJ [] (ok_law05_StrikeDays_l1 _ _ _ h) ?_ ?_ ?_
  · exact ⟨rfl, rfl, rfl, rfl, rfl, rfl, rfl, trivial⟩
  · exact ⟨mem_at 0 rfl, mem_at 1 rfl, mem_at 2 rfl, trivial⟩
  · rfl
def ev_law05_StrikeDays (n : Nat) (w1 : Bool) (w2 : Int) (w3 : Int) (day4 : Int) : Option Bool :=
  (ev_law05_Wheel_places n w1 w2 w3).bind fun r5 => (ev_law05_Wheel_rules n w1 w2 w3).bind fun r6 => (ev_strike_Day n r6.1 r6.2.1 r6.2.2).bind fun r7 => (ev_strike_Day n w1 false ([])).bind fun r8 => cond (r7.2 != 0) (some false) (cond (r8.2 != 0) (some false) (chk (in64 (Int.tdiv r5 24)) <| chk (in64 ((24 : Int) * (Int.tdiv r5 24))) <| chk (in64 ((156 : Int) + ((24 : Int) * (Int.tdiv r5 24)))) <| cond (r8.1 != ((156 : Int) + ((24 : Int) * (Int.tdiv r5 24)))) (some false) (ev_law05_StrikeDays_j0 n r5 day4 r6 w1 w2 w3 r7)))
set_option maxRecDepth 100000 in
set_option maxHeartbeats 2000000 in
theorem fc_law05_StrikeDays {n : Nat} {w1 : Bool} {w2 : Int} {w3 : Int} {day4 : Int} {r : Bool} (h : ev_law05_StrikeDays n w1 w2 w3 day4 = some r) : FC Try.prog 10 [.agg [.val (.bool w1), .val (.int .u8 w2), .val (.int .u8 w3)], .val (.int .u16 day4)] [] (.val (.bool r)) [] := by
  refine introJ (nz := 142) Try.func10 rfl rfl rfl (fun w0 R0 env0 => ?_)
  rw [ev_law05_StrikeDays] at h
  refine TC.seq ?_
  refine TC.region ?_
  refine op0 (sp_box 0 rfl rfl rfl rfl rfl) rfl trivial rfl rfl ?_
  refine op0 (sp_assign rfl rfl) rfl trivial rfl rfl ?_
  refine TL.nil ?_
  refine TC.seq ?_
  obtain ⟨r5, h1, h⟩ := bind_inv h
  obtain ⟨r6, h2, h⟩ := bind_inv h
  refine drawJ 5 [⟨.agg [.val (.bool w1), .val (.int .u8 w2), .val (.int .u8 w3)], [], [.blk 0 [.val (.bool w1), .val (.int .u8 w2), .val (.int .u8 w3)] 64], []⟩, ⟨.val (.int .i64 r5), [], [], []⟩, ⟨.agg [.val (.bool w1), .val (.int .u8 w2), .val (.int .u8 w3)], [], [.blk 0 [.val (.bool w1), .val (.int .u8 w2), .val (.int .u8 w3)] 64], []⟩, ⟨.agg [.val (.bool r6.1), .val (.bool r6.2.1), .ref 1], [.row 1 81 2 (List.map en_api_Span r6.2.2)], [], []⟩, ⟨.ptr 2 0, [.blk 2 [.val (.bool false), .val (.bool false), .val (.slice none 0 0)] 24], [], []⟩] rfl ?_ rfl ?_ rfl ?_ ?_
  · kernel_rfl
  · kernel_rfl
  · exact DAll.op' (sp_loadBA rfl isBlk rfl vt64 rfl rfl) trivial rfl (From.ok (ps := [(none, 0)]) ⟨⟨rfl, rfl⟩, trivial⟩) (DAll.op' (sp_call (avs := [.agg [.val (.bool w1), .val (.int .u8 w2), .val (.int .u8 w3)]]) (need := []) (v := .val (.int .i64 r5)) (news := []) rfl rfl rfl Try.call34 (atJ [] [] (fc_law05_Wheel_places h1) rfl rfl) (.inl (roAll rfl))) trivial rfl (From.ok (ps := []) trivial) (DAll.op' (sp_loadBA rfl isBlk rfl vt64 rfl rfl) trivial rfl (From.ok (ps := [(none, 0)]) ⟨⟨rfl, rfl⟩, trivial⟩) (DAll.op' (sp_call (avs := [.agg [.val (.bool w1), .val (.int .u8 w2), .val (.int .u8 w3)]]) (need := []) (v := .agg [.val (.bool r6.1), .val (.bool r6.2.1), .ref 1]) (news := [.row 1 81 2 (List.map en_api_Span r6.2.2)]) rfl rfl rfl Try.call38 (atJ [] [(0, 1)] (fc_law05_Wheel_rules h2) rfl rfl) (.inl (roAll rfl))) trivial rfl (From.ok (ps := []) trivial) (DAll.op' (sp_alloc 2 rfl Try.zeroValue24 rfl) trivial rfl (From.ok (ps := []) trivial) (.nil)))))
  refine op0 (sp_assign rfl rfl) rfl trivial rfl rfl ?_
  refine stoB 0 (cells' := [.val (.bool r6.1), .val (.bool r6.2.1), .ref 1]) rfl rfl trivial rfl rfl rfl rfl vt24 rfl rfl rfl ?_
  refine op0 (sp_assign rfl rfl) rfl trivial rfl rfl ?_
  refine TL.nil ?_
  refine TC.seq ?_
  refine TC.region ?_
  refine op1 0 rfl (sp_loadBA rfl isBlk rfl vt24 rfl rfl) rfl trivial rfl rfl ?_
  obtain ⟨r7, h3, h⟩ := bind_inv h
  refine op1 1 rfl (sp_call (avs := [.agg [.val (.bool r6.1), .val (.bool r6.2.1), .ref 1]]) (need := [.row 1 81 2 (List.map en_api_Span r6.2.2)]) (v := .tup [.val (.int .i64 r7.1), .val (.int .i64 r7.2)]) (news := []) rfl rfl rfl Try.call16 (atJ [(0, 1)] [] (fc_strike_Day h3) rfl rfl) (.inr (fun x hx => nomatch hx))) rfl trivial rfl rfl ?_
  refine op0 (sp_move rfl rfl) rfl trivial rfl rfl ?_
  refine op0 (sp_extract rfl rfl rfl) rfl trivial rfl rfl ?_
  refine op0 (sp_extract rfl rfl rfl) rfl trivial rfl rfl ?_
  refine op0 (sp_assign rfl rfl) rfl trivial rfl rfl ?_
  refine op0 (sp_assign rfl rfl) rfl trivial rfl rfl ?_
  refine TL.nil ?_
  refine TC.seq ?_
  refine TC.region ?_
  refine op1 2 rfl (sp_fieldAddrB rfl isBlk rfl ft64_0 vt4 (by decide)) rfl trivial rfl rfl ?_
  refine op1 2 rfl (sp_loadB rfl isBlk rfl vt4 rfl) rfl trivial rfl rfl ?_
  refine op0 (sp_build (qs := [(0, .val (.bool w1))]) rfl bt24 rfl rfl rfl rfl) rfl trivial rfl rfl ?_
  obtain ⟨r8, h4, h⟩ := bind_inv h
  refine op0 (sp_call (avs := [.agg [.val (.bool w1), .val (.bool false), .val (.slice none 0 0)]]) (need := []) (v := .tup [.val (.int .i64 r8.1), .val (.int .i64 r8.2)]) (news := []) rfl rfl rfl Try.call16 (FC.nil (args := [.agg [.val (.bool w1), .val (.bool false), .ref 3]]) 3 2 (atJ [(0, 3)] [] (fc_strike_Day h4) rfl rfl) rfl rfl rfl) (.inl (roAll rfl))) rfl trivial rfl rfl ?_
  refine op0 (sp_move rfl rfl) rfl trivial rfl rfl ?_
  refine op0 (sp_extract rfl rfl rfl) rfl trivial rfl rfl ?_
  refine op0 (sp_extract rfl rfl rfl) rfl trivial rfl rfl ?_
  refine op0 (sp_assign rfl rfl) rfl trivial rfl rfl ?_
  refine op0 (sp_assign rfl rfl) rfl trivial rfl rfl ?_
  refine TL.nil ?_
  refine TC.seq ?_
  refine TC.seq ?_
  refine TC.region ?_
  refine op0 (sp_move rfl rfl) rfl trivial rfl rfl ?_
  refine op0 (sp_neq rfl rfl rfl) rfl trivial rfl rfl ?_
  refine op0 (sp_move rfl rfl) rfl trivial rfl rfl ?_
  rcases cond_cases h with ⟨h5, h⟩ | ⟨h5, h⟩
  · refine (boolLit 36 rfl h5).2 ?_
    refine opSkip rfl ⟨_, rfl, .inl rfl⟩ rfl ?_
    refine opSkip rfl ⟨_, rfl, .inl rfl⟩ rfl ?_
    refine op0 (sp_pickT rfl rfl rfl) rfl trivial rfl rfl ?_
    refine op0 (sp_move rfl rfl) rfl trivial rfl rfl ?_
    refine opSkip rfl ⟨_, rfl, .inl rfl⟩ rfl ?_
    refine opSkip rfl ⟨_, rfl, .inl rfl⟩ rfl ?_
    refine opSkip rfl ⟨_, rfl, .inl rfl⟩ rfl ?_
    refine opSkip rfl ⟨_, rfl, .inl rfl⟩ rfl ?_
    refine opSkip rfl ⟨_, rfl, .inl rfl⟩ rfl ?_
    refine opSkip rfl ⟨_, rfl, .inl rfl⟩ rfl ?_
    refine op0 (sp_pickT rfl rfl rfl) rfl trivial rfl rfl ?_
    refine TL.nil ?_
    refine TC.condT rfl ?_
    refine TC.seq ?_
    refine TC.region ?_
    refine op0 (sp_assign rfl rfl) rfl trivial rfl rfl ?_
    refine TL.nil ?_
    cases h
    exact retJ [] (.tmp rfl .nil) rfl trivial rfl rfl
  · refine (boolLit 36 rfl h5).2 ?_
    refine op0 (sp_move rfl rfl) rfl ⟨_, rfl, rfl⟩ rfl rfl ?_
    refine op0 (sp_neq rfl rfl rfl) rfl ⟨_, rfl, rfl⟩ rfl rfl ?_
    refine op0 (sp_pickF rfl rfl rfl) rfl trivial rfl rfl ?_
    refine op0 (sp_move rfl rfl) rfl trivial rfl rfl ?_
    rcases cond_cases h with ⟨h6, h⟩ | ⟨h6, h⟩
    · refine (boolLit 40 rfl h6).2 ?_
      refine opSkip rfl ⟨_, rfl, .inl rfl⟩ rfl ?_
      refine opSkip rfl ⟨_, rfl, .inl rfl⟩ rfl ?_
      refine opSkip rfl ⟨_, rfl, .inl rfl⟩ rfl ?_
      refine opSkip rfl ⟨_, rfl, .inl rfl⟩ rfl ?_
      refine opSkip rfl ⟨_, rfl, .inl rfl⟩ rfl ?_
      refine opSkip rfl ⟨_, rfl, .inl rfl⟩ rfl ?_
      refine op0 (sp_pickT rfl rfl rfl) rfl trivial rfl rfl ?_
      refine TL.nil ?_
      refine TC.condT rfl ?_
      refine TC.seq ?_
      refine TC.region ?_
      refine op0 (sp_assign rfl rfl) rfl trivial rfl rfl ?_
      refine TL.nil ?_
      cases h
      exact retJ [] (.tmp rfl .nil) rfl trivial rfl rfl
    · refine (boolLit 40 rfl h6).2 ?_
      refine op0 (sp_move rfl rfl) rfl ⟨_, rfl, rfl⟩ rfl rfl ?_
      refine op0 (sp_move rfl rfl) rfl ⟨_, rfl, rfl⟩ rfl rfl ?_
      obtain ⟨h7, h⟩ := chk_inv h
      refine op0 (sp_quo rfl rfl rfl (by decide) h7) rfl ⟨_, rfl, rfl⟩ rfl rfl ?_
      obtain ⟨h8, h⟩ := chk_inv h
      refine op0 (sp_mul rfl rfl rfl h8) rfl ⟨_, rfl, rfl⟩ rfl rfl ?_
      obtain ⟨h9, h⟩ := chk_inv h
      refine op0 (sp_add rfl rfl rfl h9) rfl ⟨_, rfl, rfl⟩ rfl rfl ?_
      refine op0 (sp_neq rfl rfl rfl) rfl ⟨_, rfl, rfl⟩ rfl rfl ?_
      refine op0 (sp_pickF rfl rfl rfl) rfl trivial rfl rfl ?_
      refine TL.nil ?_
      refine TC.cond (b := (r8.1 != ((156 : Int) + ((24 : Int) * (Int.tdiv r5 24))))) rfl (fun h10 => ?_) (fun h10 => ?_)
      · have h := cond_t h h10
        refine TC.seq ?_
        refine TC.region ?_
        refine op0 (sp_assign rfl rfl) rfl trivial rfl rfl ?_
        refine TL.nil ?_
        cases h
        exact retJ [] (.tmp rfl .nil) rfl trivial rfl rfl
      · have h := cond_f h h10
        refine subJ [] (ok_law05_StrikeDays_j0 h) ?_ ?_ ?_
        · exact ⟨rfl, rfl, rfl, rfl, rfl, rfl, trivial⟩
        · exact ⟨mem_at 2 rfl, mem_at 0 rfl, mem_at 1 rfl, trivial⟩
        · rfl
end
end Go.Proofs.Ytglgkcfgjaoabaa.Sy
