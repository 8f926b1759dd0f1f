/- What functions of the program compute, and that they do: printed by symgen.py. -/
import Derived.Test.YtgkoldcmbcbbpaaGLib
import Derived.Test.YtgkoldcmbcbbpaaGDrop
import Derived.Test.YtgkoldcmbcbbpaaGStrike
set_option linter.unusedSimpArgs false
set_option linter.unusedVariables false
namespace Go.Proofs.Ytgkoldcmbcbbpaa.Sy
open Go.RowKit
noncomputable section

/- top_TopStrikeDrop -/
def ev_top_TopStrikeDrop_j3 (n : Nat) (line4 : Int) (r8 : Int × (List (Int × Int))) (per3 : Int) (r7 : Int × Int) : Option Bool :=
  chk (in64 line4) <| chk (in64 ((1 : Int) + (Int.tmod line4 10))) <| (ev_drop_Rig n 300 ((1 : Int) + (Int.tmod line4 10)) 1 8 r8.2).bind fun r13 => chk (in64 (((1 : Int) + (Int.tmod per3 9)) * r7.1)) <| chk (in64 ((((1 : Int) + (Int.tmod per3 9)) * r7.1) * ((1 : Int) + (Int.tmod line4 10)))) <| cond (decide ((2400 : Int) < ((((1 : Int) + (Int.tmod per3 9)) * r7.1) * ((1 : Int) + (Int.tmod line4 10))))) (cond (r13.2.2 == 7) (cond (r13.1 == 0) (cond (r13.2.1 == 0) ((ev_top_pubDrop n).bind fun r14 => cond r14 ((ev_top_pubStrike n).bind fun r15 => some r15) (some false)) (some false)) (some false)) (some false)) (cond (r13.2.2 == 0) (chk (in64 ((300 : Int) * r13.1)) <| cond (r13.2.1 == ((300 : Int) * r13.1)) (chk (in64 (((1 : Int) + (Int.tmod per3 9)) * r7.1)) <| chk (in64 ((((1 : Int) + (Int.tmod per3 9)) * r7.1) * ((1 : Int) + (Int.tmod line4 10)))) <| cond (decide (((((1 : Int) + (Int.tmod per3 9)) * r7.1) * ((1 : Int) + (Int.tmod line4 10))) ≤ r13.2.1)) (cond (r13.1 == 1) ((ev_top_pubDrop n).bind fun r16 => cond r16 ((ev_top_pubStrike n).bind fun r17 => some r17) (some false)) (chk (in64 (r13.2.1 - 300)) <| chk (in64 (((1 : Int) + (Int.tmod per3 9)) * r7.1)) <| chk (in64 ((((1 : Int) + (Int.tmod per3 9)) * r7.1) * ((1 : Int) + (Int.tmod line4 10)))) <| cond (decide ((r13.2.1 - 300) < ((((1 : Int) + (Int.tmod per3 9)) * r7.1) * ((1 : Int) + (Int.tmod line4 10))))) ((ev_top_pubDrop n).bind fun r18 => cond r18 ((ev_top_pubStrike n).bind fun r19 => some r19) (some false)) (some false))) (some false)) (some false)) (some false))
set_option maxRecDepth 100000 in
set_option maxHeartbeats 2000000 in
theorem ok_top_TopStrikeDrop_j3 {n : Nat} {w0 : World} {R0 : Nat → Prop} {env0 : Env} {r : Bool} {line4 : Int} {per3 : Int} {r7 : Int × Int} {r8 : Int × (List (Int × Int))} (h : ev_top_TopStrikeDrop_j3 n line4 r8 per3 r7 = some r) : TC Try.prog ⟨w0, fun _ => False, R0⟩ 184 (bodyPost Try.prog Try.f4 (Post ⟨w0, fun _ => False, R0⟩ env0 (.val (.bool r)) [])) [.code (sub (bodyOf Try.f4) [1, 1, 1, 1, 1, 1, 1, 1, 1, 1, 0, 1, 1]), .code (sub (bodyOf Try.f4) [1, 1, 1, 1, 1, 1, 1, 1, 1, 1, 1])] ([(2, .val (.int .u16 line4)), (8, .val (.int .i64 ((1 : Int) + (Int.tmod per3 9)))), (11, .val (.int .i64 r7.1)), (13, .ptr 5 0)]) ([.blk 5 [.val (.int .i64 r8.1), .ref 4] 42, .row 4 34 2 (List.map en_api_Span r8.2)]) := by
  rw [ev_top_TopStrikeDrop_j3] at h
  refine TC.skip ?_
  refine TC.seq ?_
  refine TC.region ?_
  refine op0 (sp_move rfl rfl) rfl trivial rfl rfl ?_
  obtain ⟨h29, h⟩ := chk_inv h
  refine op0 (sp_conv rfl Try.underlying46 Try.underlying3 rfl h29) rfl trivial rfl rfl ?_
  refine op0 (sp_rem rfl rfl rfl (by decide)) rfl trivial rfl rfl ?_
  obtain ⟨h30, h⟩ := chk_inv h
  refine op0 (sp_add rfl rfl rfl h30) rfl trivial rfl rfl ?_
  refine op0 (sp_assign rfl rfl) rfl trivial rfl rfl ?_
  refine TL.nil ?_
  refine TC.seq ?_
  refine TC.region ?_
  refine op0 (sp_move rfl rfl) rfl trivial rfl rfl ?_
  refine op1 0 rfl (sp_fieldAddrB rfl isBlk rfl ft42_1 vt39 (by decide)) rfl trivial rfl rfl ?_
  refine op1 0 rfl (sp_loadB rfl isBlk rfl vt39 rfl) rfl trivial rfl rfl ?_
  refine op0 (sp_build (qs := [(0, .val (.int .i64 300)), (1, .val (.int .i64 ((1 : Int) + (Int.tmod line4 10)))), (2, .val (.int .i64 1)), (3, .val (.int .i64 8)), (4, .ref 4)]) rfl bt58 rfl rfl rfl rfl) rfl trivial rfl rfl ?_
  obtain ⟨r13, h31, h⟩ := bind_inv h
  refine op1 1 rfl (sp_call (avs := [.agg [.val (.int .i64 300), .val (.int .i64 ((1 : Int) + (Int.tmod line4 10))), .val (.int .i64 1), .val (.int .i64 8), .ref 4]]) (need := [.row 4 34 2 (List.map en_api_Span r8.2)]) (v := .tup [.val (.int .i64 r13.1), .val (.int .i64 r13.2.1), .val (.int .i64 r13.2.2)]) (news := []) rfl rfl rfl Try.call30 (atJ [(0, 4)] [] (fc_drop_Rig h31) rfl rfl) (.inr (fun x hx => nomatch hx))) rfl trivial rfl rfl ?_
  refine op0 (sp_move rfl rfl) rfl trivial rfl rfl ?_
  refine op0 (sp_extract rfl rfl rfl) rfl trivial rfl rfl ?_
  refine op0 (sp_extract rfl rfl rfl) rfl trivial rfl rfl ?_
  refine op0 (sp_extract rfl rfl rfl) rfl trivial rfl rfl ?_
  refine op0 (sp_assign rfl rfl) rfl trivial rfl rfl ?_
  refine op0 (sp_assign rfl rfl) rfl trivial rfl rfl ?_
  refine op0 (sp_assign rfl rfl) rfl trivial rfl rfl ?_
  refine TL.nil ?_
  refine TC.seq ?_
  refine TC.seq ?_
  refine TC.region ?_
  refine op0 (sp_move rfl rfl) rfl trivial rfl rfl ?_
  refine op0 (sp_move rfl rfl) rfl trivial rfl rfl ?_
  obtain ⟨h32, h⟩ := chk_inv h
  refine op0 (sp_mul rfl rfl rfl h32) rfl trivial rfl rfl ?_
  refine op0 (sp_move rfl rfl) rfl trivial rfl rfl ?_
  obtain ⟨h33, h⟩ := chk_inv h
  refine op0 (sp_mul rfl rfl rfl h33) rfl trivial rfl rfl ?_
  refine op0 (sp_gtr rfl rfl rfl) rfl trivial rfl rfl ?_
  refine TL.nil ?_
  refine TC.cond (b := (decide ((2400 : Int) < ((((1 : Int) + (Int.tmod per3 9)) * r7.1) * ((1 : Int) + (Int.tmod line4 10)))))) rfl (fun h34 => ?_) (fun h34 => ?_)
  · have h := cond_t h h34
    refine TC.seq ?_
    refine TC.region ?_
    refine op0 (sp_move rfl rfl) rfl trivial rfl rfl ?_
    refine op0 (sp_eql rfl rfl rfl) rfl trivial rfl rfl ?_
    refine op0 (sp_move rfl rfl) rfl trivial rfl rfl ?_
    rcases cond_cases h with ⟨h35, h⟩ | ⟨h35, h⟩
    · refine (boolLit 133 rfl h35).2 ?_
      refine op0 (sp_move rfl rfl) rfl ⟨_, rfl, rfl⟩ rfl rfl ?_
      refine op0 (sp_eql rfl rfl rfl) rfl ⟨_, rfl, rfl⟩ rfl rfl ?_
      refine op0 (sp_pickT rfl rfl rfl) rfl trivial rfl rfl ?_
      refine op0 (sp_move rfl rfl) rfl trivial rfl rfl ?_
      rcases cond_cases h with ⟨h36, h⟩ | ⟨h36, h⟩
      · refine (boolLit 137 rfl h36).2 ?_
        refine op0 (sp_move rfl rfl) rfl ⟨_, rfl, rfl⟩ rfl rfl ?_
        refine op0 (sp_eql rfl rfl rfl) rfl ⟨_, rfl, rfl⟩ rfl rfl ?_
        refine op0 (sp_pickT rfl rfl rfl) rfl trivial rfl rfl ?_
        refine op0 (sp_move rfl rfl) rfl trivial rfl rfl ?_
        rcases cond_cases h with ⟨h37, h⟩ | ⟨h37, h⟩
        · refine (boolLit 141 rfl h37).2 ?_
          obtain ⟨r14, h38, h⟩ := bind_inv h
          refine op0 (sp_call (avs := []) (need := []) (v := .val (.bool r14)) (news := []) rfl rfl rfl Try.call19 (atJ [] [] (fc_top_pubDrop h38) rfl rfl) (.inl (roAll rfl))) rfl ⟨_, rfl, rfl⟩ rfl rfl ?_
          refine op0 (sp_pickT rfl rfl rfl) rfl trivial rfl rfl ?_
          refine op0 (sp_move rfl rfl) rfl trivial rfl rfl ?_
          rcases cond_cases h with ⟨h39, h⟩ | ⟨h39, h⟩
          · refine (boolLit 144 rfl h39).2 ?_
            obtain ⟨r15, h40, h⟩ := bind_inv h
            refine op0 (sp_call (avs := []) (need := []) (v := .val (.bool r15)) (news := []) rfl rfl rfl Try.call31 (atJ [] [] (fc_top_pubStrike h40) rfl rfl) (.inl (roAll rfl))) rfl ⟨_, rfl, rfl⟩ rfl rfl ?_
            refine op0 (sp_pickT rfl rfl rfl) rfl trivial rfl rfl ?_
            refine op0 (sp_assign rfl rfl) rfl trivial rfl rfl ?_
            refine TL.nil ?_
            cases h
            exact retJ [] (.tmp rfl .nil) rfl trivial rfl rfl
          · refine (boolLit 144 rfl h39).2 ?_
            refine opSkip rfl ⟨_, rfl, .inl rfl⟩ rfl ?_
            refine op0 (sp_pickF rfl rfl rfl) rfl trivial rfl rfl ?_
            refine op0 (sp_assign rfl rfl) rfl trivial rfl rfl ?_
            refine TL.nil ?_
            cases h
            exact retJ [] (.tmp rfl .nil) rfl trivial rfl rfl
        · refine (boolLit 141 rfl h37).2 ?_
          refine opSkip rfl ⟨_, rfl, .inl rfl⟩ rfl ?_
          refine op0 (sp_pickF rfl rfl rfl) rfl trivial rfl rfl ?_
          refine op0 (sp_move rfl rfl) rfl trivial rfl rfl ?_
          refine opSkip rfl ⟨_, rfl, .inl rfl⟩ rfl ?_
          refine op0 (sp_pickF rfl rfl rfl) rfl trivial rfl rfl ?_
          refine op0 (sp_assign rfl rfl) rfl trivial rfl rfl ?_
          refine TL.nil ?_
          cases h
          exact retJ [] (.tmp rfl .nil) rfl trivial rfl rfl
      · refine (boolLit 137 rfl h36).2 ?_
        refine opSkip rfl ⟨_, rfl, .inl rfl⟩ rfl ?_
        refine opSkip rfl ⟨_, rfl, .inl rfl⟩ rfl ?_
        refine op0 (sp_pickF rfl rfl rfl) rfl trivial rfl rfl ?_
        refine op0 (sp_move rfl rfl) rfl trivial rfl rfl ?_
        refine opSkip rfl ⟨_, rfl, .inl rfl⟩ rfl ?_
        refine op0 (sp_pickF rfl rfl rfl) rfl trivial rfl rfl ?_
        refine op0 (sp_move rfl rfl) rfl trivial rfl rfl ?_
        refine opSkip rfl ⟨_, rfl, .inl rfl⟩ rfl ?_
        refine op0 (sp_pickF rfl rfl rfl) rfl trivial rfl rfl ?_
        refine op0 (sp_assign rfl rfl) rfl trivial rfl rfl ?_
        refine TL.nil ?_
        cases h
        exact retJ [] (.tmp rfl .nil) rfl trivial rfl rfl
    · refine (boolLit 133 rfl h35).2 ?_
      refine opSkip rfl ⟨_, rfl, .inl rfl⟩ rfl ?_
      refine opSkip rfl ⟨_, rfl, .inl rfl⟩ rfl ?_
      refine op0 (sp_pickF rfl rfl rfl) rfl trivial rfl rfl ?_
      refine op0 (sp_move rfl rfl) rfl trivial rfl rfl ?_
      refine opSkip rfl ⟨_, rfl, .inl rfl⟩ rfl ?_
      refine opSkip rfl ⟨_, rfl, .inl rfl⟩ rfl ?_
      refine op0 (sp_pickF rfl rfl rfl) rfl trivial rfl rfl ?_
      refine op0 (sp_move rfl rfl) rfl trivial rfl rfl ?_
      refine opSkip rfl ⟨_, rfl, .inl rfl⟩ rfl ?_
      refine op0 (sp_pickF rfl rfl rfl) rfl trivial rfl rfl ?_
      refine op0 (sp_move rfl rfl) rfl trivial rfl rfl ?_
      refine opSkip rfl ⟨_, rfl, .inl rfl⟩ rfl ?_
      refine op0 (sp_pickF rfl rfl rfl) rfl trivial rfl rfl ?_
      refine op0 (sp_assign rfl rfl) rfl trivial rfl rfl ?_
      refine TL.nil ?_
      cases h
      exact retJ [] (.tmp rfl .nil) rfl trivial rfl rfl
  · have h := cond_f h h34
    refine TC.skip ?_
    refine TC.seq ?_
    refine TC.region ?_
    refine op0 (sp_move rfl rfl) rfl trivial rfl rfl ?_
    refine op0 (sp_eql rfl rfl rfl) rfl trivial rfl rfl ?_
    refine op0 (sp_move rfl rfl) rfl trivial rfl rfl ?_
    rcases cond_cases h with ⟨h41, h⟩ | ⟨h41, h⟩
    · refine (boolLit 149 rfl h41).2 ?_
      refine op0 (sp_move rfl rfl) rfl ⟨_, rfl, rfl⟩ rfl rfl ?_
      refine op0 (sp_move rfl rfl) rfl ⟨_, rfl, rfl⟩ rfl rfl ?_
      obtain ⟨h42, h⟩ := chk_inv h
      refine op0 (sp_mul rfl rfl rfl h42) rfl ⟨_, rfl, rfl⟩ rfl rfl ?_
      refine op0 (sp_eql rfl rfl rfl) rfl ⟨_, rfl, rfl⟩ rfl rfl ?_
      refine op0 (sp_pickT rfl rfl rfl) rfl trivial rfl rfl ?_
      refine op0 (sp_move rfl rfl) rfl trivial rfl rfl ?_
      rcases cond_cases h with ⟨h43, h⟩ | ⟨h43, h⟩
      · refine (boolLit 155 rfl h43).2 ?_
        refine op0 (sp_move rfl rfl) rfl ⟨_, rfl, rfl⟩ rfl rfl ?_
        refine op0 (sp_move rfl rfl) rfl ⟨_, rfl, rfl⟩ rfl rfl ?_
        refine op0 (sp_move rfl rfl) rfl ⟨_, rfl, rfl⟩ rfl rfl ?_
        obtain ⟨h44, h⟩ := chk_inv h
        refine op0 (sp_mul rfl rfl rfl h44) rfl ⟨_, rfl, rfl⟩ rfl rfl ?_
        refine op0 (sp_move rfl rfl) rfl ⟨_, rfl, rfl⟩ rfl rfl ?_
        obtain ⟨h45, h⟩ := chk_inv h
        refine op0 (sp_mul rfl rfl rfl h45) rfl ⟨_, rfl, rfl⟩ rfl rfl ?_
        refine op0 (sp_geq rfl rfl rfl) rfl ⟨_, rfl, rfl⟩ rfl rfl ?_
        refine op0 (sp_pickT rfl rfl rfl) rfl trivial rfl rfl ?_
        refine op0 (sp_move rfl rfl) rfl trivial rfl rfl ?_
        rcases cond_cases h with ⟨h46, h⟩ | ⟨h46, h⟩
        · refine (boolLit 164 rfl h46).2 ?_
          refine op0 (sp_move rfl rfl) rfl ⟨_, rfl, rfl⟩ rfl rfl ?_
          refine op0 (sp_eql rfl rfl rfl) rfl ⟨_, rfl, rfl⟩ rfl rfl ?_
          refine op0 (sp_move rfl rfl) rfl ⟨_, rfl, rfl⟩ rfl rfl ?_
          rcases cond_cases h with ⟨h47, h⟩ | ⟨h47, h⟩
          · refine (boolLit 167 rfl h47).2 ?_
            refine opSkip rfl ⟨_, rfl, .inl rfl⟩ rfl ?_
            refine opSkip rfl ⟨_, rfl, .inl rfl⟩ rfl ?_
            refine opSkip rfl ⟨_, rfl, .inl rfl⟩ rfl ?_
            refine opSkip rfl ⟨_, rfl, .inl rfl⟩ rfl ?_
            refine opSkip rfl ⟨_, rfl, .inl rfl⟩ rfl ?_
            refine opSkip rfl ⟨_, rfl, .inl rfl⟩ rfl ?_
            refine opSkip rfl ⟨_, rfl, .inl rfl⟩ rfl ?_
            refine opSkip rfl ⟨_, rfl, .inl rfl⟩ rfl ?_
            refine op0 (sp_pickT rfl rfl rfl) rfl ⟨_, rfl, rfl⟩ rfl rfl ?_
            refine op0 (sp_pickT rfl rfl rfl) rfl trivial rfl rfl ?_
            refine op0 (sp_move rfl rfl) rfl trivial rfl rfl ?_
            obtain ⟨r16, h48, h⟩ := bind_inv h
            refine op0 (sp_call (avs := []) (need := []) (v := .val (.bool r16)) (news := []) rfl rfl rfl Try.call19 (atJ [] [] (fc_top_pubDrop h48) rfl rfl) (.inl (roAll rfl))) rfl ⟨_, rfl, rfl⟩ rfl rfl ?_
            refine op0 (sp_pickT rfl rfl rfl) rfl trivial rfl rfl ?_
            refine op0 (sp_move rfl rfl) rfl trivial rfl rfl ?_
            rcases cond_cases h with ⟨h49, h⟩ | ⟨h49, h⟩
            · refine (boolLit 181 rfl h49).2 ?_
              obtain ⟨r17, h50, h⟩ := bind_inv h
              refine op0 (sp_call (avs := []) (need := []) (v := .val (.bool r17)) (news := []) rfl rfl rfl Try.call31 (atJ [] [] (fc_top_pubStrike h50) rfl rfl) (.inl (roAll rfl))) rfl ⟨_, rfl, rfl⟩ rfl rfl ?_
              refine op0 (sp_pickT rfl rfl rfl) rfl trivial rfl rfl ?_
              refine op0 (sp_assign rfl rfl) rfl trivial rfl rfl ?_
              refine TL.nil ?_
              cases h
              exact retJ [] (.tmp rfl .nil) rfl trivial rfl rfl
            · refine (boolLit 181 rfl h49).2 ?_
              refine opSkip rfl ⟨_, rfl, .inl rfl⟩ rfl ?_
              refine op0 (sp_pickF rfl rfl rfl) rfl trivial rfl rfl ?_
              refine op0 (sp_assign rfl rfl) rfl trivial rfl rfl ?_
              refine TL.nil ?_
              cases h
              exact retJ [] (.tmp rfl .nil) rfl trivial rfl rfl
          · refine (boolLit 167 rfl h47).2 ?_
            refine op0 (sp_move rfl rfl) rfl ⟨_, rfl, rfl⟩ rfl rfl ?_
            obtain ⟨h51, h⟩ := chk_inv h
            refine op0 (sp_sub rfl rfl rfl h51) rfl ⟨_, rfl, rfl⟩ rfl rfl ?_
            refine op0 (sp_move rfl rfl) rfl ⟨_, rfl, rfl⟩ rfl rfl ?_
            refine op0 (sp_move rfl rfl) rfl ⟨_, rfl, rfl⟩ rfl rfl ?_
            obtain ⟨h52, h⟩ := chk_inv h
            refine op0 (sp_mul rfl rfl rfl h52) rfl ⟨_, rfl, rfl⟩ rfl rfl ?_
            refine op0 (sp_move rfl rfl) rfl ⟨_, rfl, rfl⟩ rfl rfl ?_
            obtain ⟨h53, h⟩ := chk_inv h
            refine op0 (sp_mul rfl rfl rfl h53) rfl ⟨_, rfl, rfl⟩ rfl rfl ?_
            refine op0 (sp_lss rfl rfl rfl) rfl ⟨_, rfl, rfl⟩ rfl rfl ?_
            refine op0 (sp_pickF rfl rfl rfl) rfl ⟨_, rfl, rfl⟩ rfl rfl ?_
            refine op0 (sp_pickT rfl rfl rfl) rfl trivial rfl rfl ?_
            refine op0 (sp_move rfl rfl) rfl trivial rfl rfl ?_
            rcases cond_cases h with ⟨h54, h⟩ | ⟨h54, h⟩
            · refine (boolLit 178 rfl h54).2 ?_
              obtain ⟨r18, h55, h⟩ := bind_inv h
              refine op0 (sp_call (avs := []) (need := []) (v := .val (.bool r18)) (news := []) rfl rfl rfl Try.call19 (atJ [] [] (fc_top_pubDrop h55) rfl rfl) (.inl (roAll rfl))) rfl ⟨_, rfl, rfl⟩ rfl rfl ?_
              refine op0 (sp_pickT rfl rfl rfl) rfl trivial rfl rfl ?_
              refine op0 (sp_move rfl rfl) rfl trivial rfl rfl ?_
              rcases cond_cases h with ⟨h56, h⟩ | ⟨h56, h⟩
              · refine (boolLit 181 rfl h56).2 ?_
                obtain ⟨r19, h57, h⟩ := bind_inv h
                refine op0 (sp_call (avs := []) (need := []) (v := .val (.bool r19)) (news := []) rfl rfl rfl Try.call31 (atJ [] [] (fc_top_pubStrike h57) rfl rfl) (.inl (roAll rfl))) rfl ⟨_, rfl, rfl⟩ rfl rfl ?_
                refine op0 (sp_pickT rfl rfl rfl) rfl trivial rfl rfl ?_
                refine op0 (sp_assign rfl rfl) rfl trivial rfl rfl ?_
                refine TL.nil ?_
                cases h
                exact retJ [] (.tmp rfl .nil) rfl trivial rfl rfl
              · refine (boolLit 181 rfl h56).2 ?_
                refine opSkip rfl ⟨_, rfl, .inl rfl⟩ rfl ?_
                refine op0 (sp_pickF rfl rfl rfl) rfl trivial rfl rfl ?_
                refine op0 (sp_assign rfl rfl) rfl trivial rfl rfl ?_
                refine TL.nil ?_
                cases h
                exact retJ [] (.tmp rfl .nil) rfl trivial rfl rfl
            · refine (boolLit 178 rfl h54).2 ?_
              refine opSkip rfl ⟨_, rfl, .inl rfl⟩ rfl ?_
              refine op0 (sp_pickF rfl rfl rfl) rfl trivial rfl rfl ?_
              refine op0 (sp_move rfl rfl) rfl trivial rfl rfl ?_
              refine opSkip rfl ⟨_, rfl, .inl rfl⟩ rfl ?_
              refine op0 (sp_pickF rfl rfl rfl) rfl trivial rfl rfl ?_
              refine op0 (sp_assign rfl rfl) rfl trivial rfl rfl ?_
              refine TL.nil ?_
              cases h
              exact retJ [] (.tmp rfl .nil) rfl trivial rfl rfl
        · refine (boolLit 164 rfl h46).2 ?_
          refine opSkip rfl ⟨_, rfl, .inl rfl⟩ rfl ?_
          refine opSkip rfl ⟨_, rfl, .inl rfl⟩ rfl ?_
          refine opSkip rfl ⟨_, rfl, .inl rfl⟩ rfl ?_
          refine opSkip rfl ⟨_, rfl, .inr rfl⟩ rfl ?_
          refine opSkip rfl ⟨_, rfl, .inr rfl⟩ rfl ?_
          refine opSkip rfl ⟨_, rfl, .inr rfl⟩ rfl ?_
          refine opSkip rfl ⟨_, rfl, .inr rfl⟩ rfl ?_
          refine opSkip rfl ⟨_, rfl, .inr rfl⟩ rfl ?_
          refine opSkip rfl ⟨_, rfl, .inr rfl⟩ rfl ?_
          refine opSkip rfl ⟨_, rfl, .inr rfl⟩ rfl ?_
          refine opSkip rfl ⟨_, rfl, .inr rfl⟩ rfl ?_
          refine opSkip rfl ⟨_, rfl, .inl rfl⟩ rfl ?_
          refine op0 (sp_pickF rfl rfl rfl) rfl trivial rfl rfl ?_
          refine op0 (sp_move rfl rfl) rfl trivial rfl rfl ?_
          refine opSkip rfl ⟨_, rfl, .inl rfl⟩ rfl ?_
          refine op0 (sp_pickF rfl rfl rfl) rfl trivial rfl rfl ?_
          refine op0 (sp_move rfl rfl) rfl trivial rfl rfl ?_
          refine opSkip rfl ⟨_, rfl, .inl rfl⟩ rfl ?_
          refine op0 (sp_pickF rfl rfl rfl) rfl trivial rfl rfl ?_
          refine op0 (sp_assign rfl rfl) rfl trivial rfl rfl ?_
          refine TL.nil ?_
          cases h
          exact retJ [] (.tmp rfl .nil) rfl trivial rfl rfl
      · refine (boolLit 155 rfl h43).2 ?_
        refine opSkip rfl ⟨_, rfl, .inl rfl⟩ rfl ?_
        refine opSkip rfl ⟨_, rfl, .inl rfl⟩ rfl ?_
        refine opSkip rfl ⟨_, rfl, .inl rfl⟩ rfl ?_
        refine opSkip rfl ⟨_, rfl, .inl rfl⟩ rfl ?_
        refine opSkip rfl ⟨_, rfl, .inl rfl⟩ rfl ?_
        refine opSkip rfl ⟨_, rfl, .inl rfl⟩ rfl ?_
        refine opSkip rfl ⟨_, rfl, .inl rfl⟩ rfl ?_
        refine op0 (sp_pickF rfl rfl rfl) rfl trivial rfl rfl ?_
        refine op0 (sp_move rfl rfl) rfl trivial rfl rfl ?_
        refine opSkip rfl ⟨_, rfl, .inl rfl⟩ rfl ?_
        refine opSkip rfl ⟨_, rfl, .inl rfl⟩ rfl ?_
        refine opSkip rfl ⟨_, rfl, .inl rfl⟩ rfl ?_
        refine opSkip rfl ⟨_, rfl, .inr rfl⟩ rfl ?_
        refine opSkip rfl ⟨_, rfl, .inr rfl⟩ rfl ?_
        refine opSkip rfl ⟨_, rfl, .inr rfl⟩ rfl ?_
        refine opSkip rfl ⟨_, rfl, .inr rfl⟩ rfl ?_
        refine opSkip rfl ⟨_, rfl, .inr rfl⟩ rfl ?_
        refine opSkip rfl ⟨_, rfl, .inr rfl⟩ rfl ?_
        refine opSkip rfl ⟨_, rfl, .inr rfl⟩ rfl ?_
        refine opSkip rfl ⟨_, rfl, .inr rfl⟩ rfl ?_
        refine opSkip rfl ⟨_, rfl, .inl rfl⟩ rfl ?_
        refine op0 (sp_pickF rfl rfl rfl) rfl trivial rfl rfl ?_
        refine op0 (sp_move rfl rfl) rfl trivial rfl rfl ?_
        refine opSkip rfl ⟨_, rfl, .inl rfl⟩ rfl ?_
        refine op0 (sp_pickF rfl rfl rfl) rfl trivial rfl rfl ?_
        refine op0 (sp_move rfl rfl) rfl trivial rfl rfl ?_
        refine opSkip rfl ⟨_, rfl, .inl rfl⟩ rfl ?_
        refine op0 (sp_pickF rfl rfl rfl) rfl trivial rfl rfl ?_
        refine op0 (sp_assign rfl rfl) rfl trivial rfl rfl ?_
        refine TL.nil ?_
        cases h
        exact retJ [] (.tmp rfl .nil) rfl trivial rfl rfl
    · refine (boolLit 149 rfl h41).2 ?_
      refine opSkip rfl ⟨_, rfl, .inl rfl⟩ rfl ?_
      refine opSkip rfl ⟨_, rfl, .inl rfl⟩ rfl ?_
      refine opSkip rfl ⟨_, rfl, .inl rfl⟩ rfl ?_
      refine opSkip rfl ⟨_, rfl, .inl rfl⟩ rfl ?_
      refine op0 (sp_pickF rfl rfl rfl) rfl trivial rfl rfl ?_
      refine op0 (sp_move rfl rfl) rfl trivial rfl rfl ?_
      refine opSkip rfl ⟨_, rfl, .inl rfl⟩ rfl ?_
      refine opSkip rfl ⟨_, rfl, .inl rfl⟩ rfl ?_
      refine opSkip rfl ⟨_, rfl, .inl rfl⟩ rfl ?_
      refine opSkip rfl ⟨_, rfl, .inl rfl⟩ rfl ?_
      refine opSkip rfl ⟨_, rfl, .inl rfl⟩ rfl ?_
      refine opSkip rfl ⟨_, rfl, .inl rfl⟩ rfl ?_
      refine opSkip rfl ⟨_, rfl, .inl rfl⟩ rfl ?_
      refine op0 (sp_pickF rfl rfl rfl) rfl trivial rfl rfl ?_
      refine op0 (sp_move rfl rfl) rfl trivial rfl rfl ?_
      refine opSkip rfl ⟨_, rfl, .inl rfl⟩ rfl ?_
      refine opSkip rfl ⟨_, rfl, .inl rfl⟩ rfl ?_
      refine opSkip rfl ⟨_, rfl, .inl rfl⟩ rfl ?_
      refine opSkip rfl ⟨_, rfl, .inr rfl⟩ rfl ?_
      refine opSkip rfl ⟨_, rfl, .inr rfl⟩ rfl ?_
      refine opSkip rfl ⟨_, rfl, .inr rfl⟩ rfl ?_
      refine opSkip rfl ⟨_, rfl, .inr rfl⟩ rfl ?_
      refine opSkip rfl ⟨_, rfl, .inr rfl⟩ rfl ?_
      refine opSkip rfl ⟨_, rfl, .inr rfl⟩ rfl ?_
      refine opSkip rfl ⟨_, rfl, .inr rfl⟩ rfl ?_
      refine opSkip rfl ⟨_, rfl, .inr rfl⟩ rfl ?_
      refine opSkip rfl ⟨_, rfl, .inl rfl⟩ rfl ?_
      refine op0 (sp_pickF rfl rfl rfl) rfl trivial rfl rfl ?_
      refine op0 (sp_move rfl rfl) rfl trivial rfl rfl ?_
      refine opSkip rfl ⟨_, rfl, .inl rfl⟩ rfl ?_
      refine op0 (sp_pickF rfl rfl rfl) rfl trivial rfl rfl ?_
      refine op0 (sp_move rfl rfl) rfl trivial rfl rfl ?_
      refine opSkip rfl ⟨_, rfl, .inl rfl⟩ rfl ?_
      refine op0 (sp_pickF rfl rfl rfl) rfl trivial rfl rfl ?_
      refine op0 (sp_assign rfl rfl) rfl trivial rfl rfl ?_
      refine TL.nil ?_
      cases h
      exact retJ [] (.tmp rfl .nil) rfl trivial rfl rfl
def ev_top_TopStrikeDrop_l2 (n : Nat) (r6 : (List Int) × Bool) (per3 : Int) (r9 : Int × Int × Int) (r7 : Int × Int) (r8 : Int × (List (Int × Int))) (line4 : Int) : Nat → Int → Int → Option Bool
  | 0, _, _ => none
  | m + 1, i10, i11 => cond (decide (i11 < 2000)) (idx r6.1 (Int.tmod i11 24) fun x12 => chk (in64 (((1 : Int) + (Int.tmod per3 9)) * x12)) <| cond (decide ((((1 : Int) + (Int.tmod per3 9)) * x12) ≤ i10)) (chk (in64 (((1 : Int) + (Int.tmod per3 9)) * x12)) <| chk (in64 (i10 - (((1 : Int) + (Int.tmod per3 9)) * x12))) <| chk (in64 (i11 + 1)) <| ev_top_TopStrikeDrop_l2 n r6 per3 r9 r7 r8 line4 m (i10 - (((1 : Int) + (Int.tmod per3 9)) * x12)) (i11 + 1)) (cond (r9.1 != i11) (some false) (cond (decide (i11 < 2000)) (chk (in64 (Int.tdiv i11 24)) <| chk (in64 (((1 : Int) + (Int.tmod per3 9)) * r7.1)) <| chk ((((1 : Int) + (Int.tmod per3 9)) * r7.1) != 0) <| chk (in64 (Int.tdiv r8.1 (((1 : Int) + (Int.tmod per3 9)) * r7.1))) <| cond ((Int.tdiv i11 24) != (Int.tdiv r8.1 (((1 : Int) + (Int.tmod per3 9)) * r7.1))) (some false) (ev_top_TopStrikeDrop_j3 n line4 r8 per3 r7)) (ev_top_TopStrikeDrop_j3 n line4 r8 per3 r7)))) (cond (r9.1 != i11) (some false) (cond (decide (i11 < 2000)) (chk (in64 (Int.tdiv i11 24)) <| chk (in64 (((1 : Int) + (Int.tmod per3 9)) * r7.1)) <| chk ((((1 : Int) + (Int.tmod per3 9)) * r7.1) != 0) <| chk (in64 (Int.tdiv r8.1 (((1 : Int) + (Int.tmod per3 9)) * r7.1))) <| cond ((Int.tdiv i11 24) != (Int.tdiv r8.1 (((1 : Int) + (Int.tmod per3 9)) * r7.1))) (some false) (ev_top_TopStrikeDrop_j3 n line4 r8 per3 r7)) (ev_top_TopStrikeDrop_j3 n line4 r8 per3 r7)))
set_option maxRecDepth 100000 in
set_option maxHeartbeats 2000000 in
theorem ok_top_TopStrikeDrop_l2 {n : Nat} {w0 : World} {R0 : Nat → Prop} {env0 : Env} {r : Bool} {line4 : Int} {per3 : Int} {r7 : Int × Int} {r6 : (List Int) × Bool} {r8 : Int × (List (Int × Int))} {r9 : Int × Int × Int} : ∀ (m : Nat) (i10 : Int) (i11 : Int), ev_top_TopStrikeDrop_l2 n r6 per3 r9 r7 r8 line4 m i10 i11 = some r → TC Try.prog ⟨w0, fun _ => False, R0⟩ 184 (bodyPost Try.prog Try.f4 (Post ⟨w0, fun _ => False, R0⟩ env0 (.val (.bool r)) [])) [.code (sub (bodyOf Try.f4) [1, 1, 1, 1, 1, 1, 1, 1, 1, 0, 0, 0, 0, 0]), .code (sub (bodyOf Try.f4) [1, 1, 1, 1, 1, 1, 1, 1, 1, 0, 0, 0, 0, 1]), .code (sub (bodyOf Try.f4) [1, 1, 1, 1, 1, 1, 1, 1, 1, 0, 0, 0, 1]), .inLoop (sub (bodyOf Try.f4) [1, 1, 1, 1, 1, 1, 1, 1, 1, 0, 0, 0]), .inBlock 0, .code (sub (bodyOf Try.f4) [1, 1, 1, 1, 1, 1, 1, 1, 1, 1])] ([(2, .val (.int .u16 line4)), (8, .val (.int .i64 ((1 : Int) + (Int.tmod per3 9)))), (9, .ref 3), (11, .val (.int .i64 r7.1)), (13, .ptr 5 0), (14, .ptr 6 0), (16, .val (.int .i64 i10)), (17, .val (.int .i64 i11))]) ([.row 3 3 1 (List.map en_int r6.1), .blk 5 [.val (.int .i64 r8.1), .ref 4] 42, .blk 6 [.val (.int .i64 r9.1), .val (.int .i64 r9.2.1)] 34, .row 4 34 2 (List.map en_api_Span r8.2)]) := by
  intro m
  induction m with
  | zero => intro i10 i11 h; exact none_no h
  | succ m ih =>
    intro i10 i11 h
    rw [ev_top_TopStrikeDrop_l2] at h
    refine TC.region ?_
    refine op0 (sp_move rfl rfl) rfl trivial rfl rfl ?_
    refine op0 (sp_lss rfl rfl rfl) rfl trivial rfl rfl ?_
    refine op0 (sp_move rfl rfl) rfl trivial rfl rfl ?_
    rcases cond_cases h with ⟨h14, h⟩ | ⟨h14, h⟩
    · refine (boolLit 71 rfl h14).2 ?_
      refine op0 (sp_move rfl rfl) rfl ⟨_, rfl, rfl⟩ rfl rfl ?_
      refine op0 (sp_move rfl rfl) rfl ⟨_, rfl, rfl⟩ rfl rfl ?_
      refine op0 (sp_move rfl rfl) rfl ⟨_, rfl, rfl⟩ rfl rfl ?_
      refine op0 (sp_move rfl rfl) rfl ⟨_, rfl, rfl⟩ rfl rfl ?_
      refine op0 (sp_rem rfl rfl rfl (by decide)) rfl ⟨_, rfl, rfl⟩ rfl rfl ?_
      obtain ⟨x12, h15, h16, h⟩ := idx_inv h
      refine op1 0 rfl (sp_indexS rfl rfl rfl isOwn sl50 h15 (map_get _ h16)) rfl ⟨_, rfl, rfl⟩ rfl rfl ?_
      refine op1 0 rfl (sp_loadR (i := ((Int.tmod i11 24) : Int).toNat) (j := 0) rfl rfl isOwn vt3 rfl (map_get _ h16) rfl (.v (.nil)) (nodup_of_B rfl)) rfl ⟨_, rfl, rfl⟩ rfl rfl ?_
      obtain ⟨h17, h⟩ := chk_inv h
      refine op0 (sp_mul rfl rfl rfl h17) rfl ⟨_, rfl, rfl⟩ rfl rfl ?_
      refine op0 (sp_geq rfl rfl rfl) rfl ⟨_, rfl, rfl⟩ rfl rfl ?_
      refine op0 (sp_pickT rfl rfl rfl) rfl trivial rfl rfl ?_
      refine TL.nil ?_
      refine TC.cond (b := (decide ((((1 : Int) + (Int.tmod per3 9)) * x12) ≤ i10))) rfl (fun h18 => ?_) (fun h18 => ?_)
      · have h := cond_t h h18
        refine TC.skip ?_
        refine TC.block ?_
        refine TC.region ?_
        refine op0 (sp_move rfl rfl) rfl trivial rfl rfl ?_
        refine op0 (sp_move rfl rfl) rfl trivial rfl rfl ?_
        refine op0 (sp_move rfl rfl) rfl trivial rfl rfl ?_
        refine op0 (sp_move rfl rfl) rfl trivial rfl rfl ?_
        refine op0 (sp_rem rfl rfl rfl (by decide)) rfl trivial rfl rfl ?_
        refine op1 0 rfl (sp_indexS rfl rfl rfl isOwn sl50 h15 (map_get _ h16)) rfl trivial rfl rfl ?_
        refine op1 0 rfl (sp_loadR (i := ((Int.tmod i11 24) : Int).toNat) (j := 0) rfl rfl isOwn vt3 rfl (map_get _ h16) rfl (.v (.nil)) (nodup_of_B rfl)) rfl trivial rfl rfl ?_
        obtain ⟨h19, h⟩ := chk_inv h
        refine op0 (sp_mul rfl rfl rfl h19) rfl trivial rfl rfl ?_
        obtain ⟨h20, h⟩ := chk_inv h
        refine op0 (sp_sub rfl rfl rfl h20) rfl trivial rfl rfl ?_
        refine op0 (sp_move rfl rfl) rfl trivial rfl rfl ?_
        obtain ⟨h21, h⟩ := chk_inv h
        refine op0 (sp_add rfl rfl rfl h21) rfl trivial rfl rfl ?_
        refine op0 (sp_assign rfl rfl) rfl trivial rfl rfl ?_
        refine op0 (sp_assign rfl rfl) rfl trivial rfl rfl ?_
        refine TL.nil ?_
        refine TC.inBlock ?_
        refine TC.inLoop ?_
        refine TC.seq ?_
        refine TC.seq ?_
        refine subJ [] (ih _ _ h) ?_ ?_ ?_
        · exact ⟨rfl, rfl, rfl, rfl, rfl, rfl, rfl, rfl, trivial⟩
        · exact ⟨mem_at 0 rfl, mem_at 1 rfl, mem_at 2 rfl, mem_at 3 rfl, trivial⟩
        · rfl
      · have h := cond_f h h18
        refine TC.exit rfl ?_
        refine TC.seq ?_
        refine TC.seq ?_
        refine TC.region ?_
        refine op1 2 rfl (sp_fieldAddrB rfl isBlk rfl ft34_0 vt3 (by decide)) rfl trivial rfl rfl ?_
        refine op1 2 rfl (sp_loadB rfl isBlk rfl vt3 rfl) rfl trivial rfl rfl ?_
        refine op0 (sp_move rfl rfl) rfl trivial rfl rfl ?_
        refine op0 (sp_neq rfl rfl rfl) rfl trivial rfl rfl ?_
        refine op0 (sp_move rfl rfl) rfl trivial rfl rfl ?_
        rcases cond_cases h with ⟨h22, h⟩ | ⟨h22, h⟩
        · refine (boolLit 97 rfl h22).2 ?_
          refine opSkip rfl ⟨_, rfl, .inl rfl⟩ rfl ?_
          refine opSkip rfl ⟨_, rfl, .inl rfl⟩ rfl ?_
          refine opSkip rfl ⟨_, rfl, .inl rfl⟩ rfl ?_
          refine opSkip rfl ⟨_, rfl, .inr rfl⟩ rfl ?_
          refine opSkip rfl ⟨_, rfl, .inr rfl⟩ rfl ?_
          refine opSkip rfl ⟨_, rfl, .inr rfl⟩ rfl ?_
          refine opSkip rfl ⟨_, rfl, .inr rfl⟩ rfl ?_
          refine opSkip rfl ⟨_, rfl, .inr rfl⟩ rfl ?_
          refine opSkip rfl ⟨_, rfl, .inr rfl⟩ rfl ?_
          refine opSkip rfl ⟨_, rfl, .inr rfl⟩ rfl ?_
          refine opSkip rfl ⟨_, rfl, .inr rfl⟩ rfl ?_
          refine opSkip rfl ⟨_, rfl, .inr rfl⟩ rfl ?_
          refine opSkip rfl ⟨_, rfl, .inl rfl⟩ rfl ?_
          refine op0 (sp_pickT rfl rfl rfl) rfl trivial rfl rfl ?_
          refine TL.nil ?_
          refine TC.condT rfl ?_
          refine TC.seq ?_
          refine TC.region ?_
          refine op0 (sp_assign rfl rfl) rfl trivial rfl rfl ?_
          refine TL.nil ?_
          cases h
          exact retJ [] (.tmp rfl .nil) rfl trivial rfl rfl
        · refine (boolLit 97 rfl h22).2 ?_
          refine op0 (sp_move rfl rfl) rfl ⟨_, rfl, rfl⟩ rfl rfl ?_
          refine op0 (sp_lss rfl rfl rfl) rfl ⟨_, rfl, rfl⟩ rfl rfl ?_
          refine op0 (sp_move rfl rfl) rfl ⟨_, rfl, rfl⟩ rfl rfl ?_
          rcases cond_cases h with ⟨h23, h⟩ | ⟨h23, h⟩
          · refine (boolLit 100 rfl h23).2 ?_
            refine op0 (sp_move rfl rfl) rfl ⟨_, rfl, rfl⟩ rfl rfl ?_
            obtain ⟨h24, h⟩ := chk_inv h
            refine op0 (sp_quo rfl rfl rfl (by decide) h24) rfl ⟨_, rfl, rfl⟩ rfl rfl ?_
            refine op1 1 rfl (sp_fieldAddrB rfl isBlk rfl ft42_0 vt3 (by decide)) rfl ⟨_, rfl, rfl⟩ rfl rfl ?_
            refine op1 1 rfl (sp_loadB rfl isBlk rfl vt3 rfl) rfl ⟨_, rfl, rfl⟩ rfl rfl ?_
            refine op0 (sp_move rfl rfl) rfl ⟨_, rfl, rfl⟩ rfl rfl ?_
            refine op0 (sp_move rfl rfl) rfl ⟨_, rfl, rfl⟩ rfl rfl ?_
            obtain ⟨h25, h⟩ := chk_inv h
            refine op0 (sp_mul rfl rfl rfl h25) rfl ⟨_, rfl, rfl⟩ rfl rfl ?_
            obtain ⟨h26, h⟩ := chk_inv h
            obtain ⟨h27, h⟩ := chk_inv h
            refine op0 (sp_quo rfl rfl rfl h26 h27) rfl ⟨_, rfl, rfl⟩ rfl rfl ?_
            refine op0 (sp_neq rfl rfl rfl) rfl ⟨_, rfl, rfl⟩ rfl rfl ?_
            refine op0 (sp_pickT rfl rfl rfl) rfl ⟨_, rfl, rfl⟩ rfl rfl ?_
            refine op0 (sp_pickF rfl rfl rfl) rfl trivial rfl rfl ?_
            refine TL.nil ?_
            refine TC.cond (b := ((Int.tdiv i11 24) != (Int.tdiv r8.1 (((1 : Int) + (Int.tmod per3 9)) * r7.1)))) rfl (fun h28 => ?_) (fun h28 => ?_)
            · have h := cond_t h h28
              refine TC.seq ?_
              refine TC.region ?_
              refine op0 (sp_assign rfl rfl) rfl trivial rfl rfl ?_
              refine TL.nil ?_
              cases h
              exact retJ [] (.tmp rfl .nil) rfl trivial rfl rfl
            · have h := cond_f h h28
              refine subJ [] (ok_top_TopStrikeDrop_j3 h) ?_ ?_ ?_
              · exact ⟨rfl, rfl, rfl, rfl, trivial⟩
              · exact ⟨mem_at 1 rfl, mem_at 3 rfl, trivial⟩
              · rfl
          · refine (boolLit 100 rfl h23).2 ?_
            refine opSkip rfl ⟨_, rfl, .inl rfl⟩ rfl ?_
            refine opSkip rfl ⟨_, rfl, .inl rfl⟩ rfl ?_
            refine opSkip rfl ⟨_, rfl, .inl rfl⟩ rfl ?_
            refine opSkip rfl ⟨_, rfl, .inl rfl⟩ rfl ?_
            refine opSkip rfl ⟨_, rfl, .inl rfl⟩ rfl ?_
            refine opSkip rfl ⟨_, rfl, .inl rfl⟩ rfl ?_
            refine opSkip rfl ⟨_, rfl, .inl rfl⟩ rfl ?_
            refine opSkip rfl ⟨_, rfl, .inl rfl⟩ rfl ?_
            refine opSkip rfl ⟨_, rfl, .inl rfl⟩ rfl ?_
            refine op0 (sp_pickF rfl rfl rfl) rfl ⟨_, rfl, rfl⟩ rfl rfl ?_
            refine op0 (sp_pickF rfl rfl rfl) rfl trivial rfl rfl ?_
            refine TL.nil ?_
            refine TC.condF rfl ?_
            refine subJ [] (ok_top_TopStrikeDrop_j3 h) ?_ ?_ ?_
            · exact ⟨rfl, rfl, rfl, rfl, trivial⟩
            · exact ⟨mem_at 1 rfl, mem_at 3 rfl, trivial⟩
            · rfl
    · refine (boolLit 71 rfl h14).2 ?_
      refine opSkip rfl ⟨_, rfl, .inl rfl⟩ rfl ?_
      refine opSkip rfl ⟨_, rfl, .inl rfl⟩ rfl ?_
      refine opSkip rfl ⟨_, rfl, .inl rfl⟩ rfl ?_
      refine opSkip rfl ⟨_, rfl, .inl rfl⟩ rfl ?_
      refine opSkip rfl ⟨_, rfl, .inl rfl⟩ rfl ?_
      refine opSkip rfl ⟨_, rfl, .inl rfl⟩ rfl ?_
      refine opSkip rfl ⟨_, rfl, .inl rfl⟩ rfl ?_
      refine opSkip rfl ⟨_, rfl, .inl rfl⟩ rfl ?_
      refine opSkip rfl ⟨_, rfl, .inl rfl⟩ rfl ?_
      refine op0 (sp_pickF rfl rfl rfl) rfl trivial rfl rfl ?_
      refine TL.nil ?_
      refine TC.condF rfl ?_
      refine TC.exit rfl ?_
      refine TC.seq ?_
      refine TC.seq ?_
      refine TC.region ?_
      refine op1 2 rfl (sp_fieldAddrB rfl isBlk rfl ft34_0 vt3 (by decide)) rfl trivial rfl rfl ?_
      refine op1 2 rfl (sp_loadB rfl isBlk rfl vt3 rfl) rfl trivial rfl rfl ?_
      refine op0 (sp_move rfl rfl) rfl trivial rfl rfl ?_
      refine op0 (sp_neq rfl rfl rfl) rfl trivial rfl rfl ?_
      refine op0 (sp_move rfl rfl) rfl trivial rfl rfl ?_
      rcases cond_cases h with ⟨h58, h⟩ | ⟨h58, h⟩
      · refine (boolLit 97 rfl h58).2 ?_
        refine opSkip rfl ⟨_, rfl, .inl rfl⟩ rfl ?_
        refine opSkip rfl ⟨_, rfl, .inl rfl⟩ rfl ?_
        refine opSkip rfl ⟨_, rfl, .inl rfl⟩ rfl ?_
        refine opSkip rfl ⟨_, rfl, .inr rfl⟩ rfl ?_
        refine opSkip rfl ⟨_, rfl, .inr rfl⟩ rfl ?_
        refine opSkip rfl ⟨_, rfl, .inr rfl⟩ rfl ?_
        refine opSkip rfl ⟨_, rfl, .inr rfl⟩ rfl ?_
        refine opSkip rfl ⟨_, rfl, .inr rfl⟩ rfl ?_
        refine opSkip rfl ⟨_, rfl, .inr rfl⟩ rfl ?_
        refine opSkip rfl ⟨_, rfl, .inr rfl⟩ rfl ?_
        refine opSkip rfl ⟨_, rfl, .inr rfl⟩ rfl ?_
        refine opSkip rfl ⟨_, rfl, .inr rfl⟩ rfl ?_
        refine opSkip rfl ⟨_, rfl, .inl rfl⟩ rfl ?_
        refine op0 (sp_pickT rfl rfl rfl) rfl trivial rfl rfl ?_
        refine TL.nil ?_
        refine TC.condT rfl ?_
        refine TC.seq ?_
        refine TC.region ?_
        refine op0 (sp_assign rfl rfl) rfl trivial rfl rfl ?_
        refine TL.nil ?_
        cases h
        exact retJ [] (.tmp rfl .nil) rfl trivial rfl rfl
      · refine (boolLit 97 rfl h58).2 ?_
        refine op0 (sp_move rfl rfl) rfl ⟨_, rfl, rfl⟩ rfl rfl ?_
        refine op0 (sp_lss rfl rfl rfl) rfl ⟨_, rfl, rfl⟩ rfl rfl ?_
        refine op0 (sp_move rfl rfl) rfl ⟨_, rfl, rfl⟩ rfl rfl ?_
        rcases cond_cases h with ⟨h59, h⟩ | ⟨h59, h⟩
        · refine (boolLit 100 rfl h59).2 ?_
          refine op0 (sp_move rfl rfl) rfl ⟨_, rfl, rfl⟩ rfl rfl ?_
          obtain ⟨h60, h⟩ := chk_inv h
          refine op0 (sp_quo rfl rfl rfl (by decide) h60) rfl ⟨_, rfl, rfl⟩ rfl rfl ?_
          refine op1 1 rfl (sp_fieldAddrB rfl isBlk rfl ft42_0 vt3 (by decide)) rfl ⟨_, rfl, rfl⟩ rfl rfl ?_
          refine op1 1 rfl (sp_loadB rfl isBlk rfl vt3 rfl) rfl ⟨_, rfl, rfl⟩ rfl rfl ?_
          refine op0 (sp_move rfl rfl) rfl ⟨_, rfl, rfl⟩ rfl rfl ?_
          refine op0 (sp_move rfl rfl) rfl ⟨_, rfl, rfl⟩ rfl rfl ?_
          obtain ⟨h61, h⟩ := chk_inv h
          refine op0 (sp_mul rfl rfl rfl h61) rfl ⟨_, rfl, rfl⟩ rfl rfl ?_
          obtain ⟨h62, h⟩ := chk_inv h
          obtain ⟨h63, h⟩ := chk_inv h
          refine op0 (sp_quo rfl rfl rfl h62 h63) rfl ⟨_, rfl, rfl⟩ rfl rfl ?_
          refine op0 (sp_neq rfl rfl rfl) rfl ⟨_, rfl, rfl⟩ rfl rfl ?_
          refine op0 (sp_pickT rfl rfl rfl) rfl ⟨_, rfl, rfl⟩ rfl rfl ?_
          refine op0 (sp_pickF rfl rfl rfl) rfl trivial rfl rfl ?_
          refine TL.nil ?_
          refine TC.cond (b := ((Int.tdiv i11 24) != (Int.tdiv r8.1 (((1 : Int) + (Int.tmod per3 9)) * r7.1)))) rfl (fun h64 => ?_) (fun h64 => ?_)
          · have h := cond_t h h64
            refine TC.seq ?_
            refine TC.region ?_
            refine op0 (sp_assign rfl rfl) rfl trivial rfl rfl ?_
            refine TL.nil ?_
            cases h
            exact retJ [] (.tmp rfl .nil) rfl trivial rfl rfl
          · have h := cond_f h h64
            refine subJ [] (ok_top_TopStrikeDrop_j3 h) ?_ ?_ ?_
            · exact ⟨rfl, rfl, rfl, rfl, trivial⟩
            · exact ⟨mem_at 1 rfl, mem_at 3 rfl, trivial⟩
            · rfl
        · refine (boolLit 100 rfl h59).2 ?_
          refine opSkip rfl ⟨_, rfl, .inl rfl⟩ rfl ?_
          refine opSkip rfl ⟨_, rfl, .inl rfl⟩ rfl ?_
          refine opSkip rfl ⟨_, rfl, .inl rfl⟩ rfl ?_
          refine opSkip rfl ⟨_, rfl, .inl rfl⟩ rfl ?_
          refine opSkip rfl ⟨_, rfl, .inl rfl⟩ rfl ?_
          refine opSkip rfl ⟨_, rfl, .inl rfl⟩ rfl ?_
          refine opSkip rfl ⟨_, rfl, .inl rfl⟩ rfl ?_
          refine opSkip rfl ⟨_, rfl, .inl rfl⟩ rfl ?_
          refine opSkip rfl ⟨_, rfl, .inl rfl⟩ rfl ?_
          refine op0 (sp_pickF rfl rfl rfl) rfl ⟨_, rfl, rfl⟩ rfl rfl ?_
          refine op0 (sp_pickF rfl rfl rfl) rfl trivial rfl rfl ?_
          refine TL.nil ?_
          refine TC.condF rfl ?_
          refine subJ [] (ok_top_TopStrikeDrop_j3 h) ?_ ?_ ?_
          · exact ⟨rfl, rfl, rfl, rfl, trivial⟩
          · exact ⟨mem_at 1 rfl, mem_at 3 rfl, trivial⟩
          · rfl
def ev_top_TopStrikeDrop_j1 (n : Nat) (r6 : (List Int) × Bool) (per3 : Int) (r9 : Int × Int × Int) (r7 : Int × Int) (r8 : Int × (List (Int × Int))) (line4 : Int) : Option Bool :=
  ev_top_TopStrikeDrop_l2 n r6 per3 r9 r7 r8 line4 n r8.1 0
set_option maxRecDepth 100000 in
set_option maxHeartbeats 2000000 in
theorem ok_top_TopStrikeDrop_j1 {n : Nat} {w0 : World} {R0 : Nat → Prop} {env0 : Env} {r : Bool} {line4 : Int} {per3 : Int} {r7 : Int × Int} {r6 : (List Int) × Bool} {r8 : Int × (List (Int × Int))} {r9 : Int × Int × Int} (h : ev_top_TopStrikeDrop_j1 n r6 per3 r9 r7 r8 line4 = some r) : TC Try.prog ⟨w0, fun _ => False, R0⟩ 184 (bodyPost Try.prog Try.f4 (Post ⟨w0, fun _ => False, R0⟩ env0 (.val (.bool r)) [])) [.code (sub (bodyOf Try.f4) [1, 1, 1, 1, 1, 1, 1, 0, 1, 1]), .code (sub (bodyOf Try.f4) [1, 1, 1, 1, 1, 1, 1, 1])] ([(2, .val (.int .u16 line4)), (8, .val (.int .i64 ((1 : Int) + (Int.tmod per3 9)))), (9, .ref 3), (11, .val (.int .i64 r7.1)), (13, .ptr 5 0), (14, .ptr 6 0)]) ([.row 3 3 1 (List.map en_int r6.1), .blk 5 [.val (.int .i64 r8.1), .ref 4] 42, .blk 6 [.val (.int .i64 r9.1), .val (.int .i64 r9.2.1)] 34, .row 4 34 2 (List.map en_api_Span r8.2)]) := by
  rw [ev_top_TopStrikeDrop_j1] at h
  refine TC.skip ?_
  refine TC.seq ?_
  refine TC.region ?_
  refine op1 1 rfl (sp_fieldAddrB rfl isBlk rfl ft42_0 vt3 (by decide)) rfl trivial rfl rfl ?_
  refine op1 1 rfl (sp_loadB rfl isBlk rfl vt3 rfl) rfl trivial rfl rfl ?_
  refine op0 (sp_assign rfl rfl) rfl trivial rfl rfl ?_
  refine op0 (sp_assign rfl rfl) rfl trivial rfl rfl ?_
  refine TL.nil ?_
  refine TC.seq ?_
  refine TC.block ?_
  refine TC.loop ?_
  refine TC.seq ?_
  refine TC.seq ?_
  refine subJ [] (ok_top_TopStrikeDrop_l2 _ _ _ h) ?_ ?_ ?_
  · exact ⟨rfl, rfl, rfl, rfl, rfl, rfl, rfl, rfl, trivial⟩
  · exact ⟨mem_at 0 rfl, mem_at 1 rfl, mem_at 2 rfl, mem_at 3 rfl, trivial⟩
  · rfl
def ev_top_TopStrikeDrop_j0 (n : Nat) (line4 : Int) (r6 : (List Int) × Bool) (per3 : Int) (r7 : Int × Int) : Option Bool :=
  chk (in64 line4) <| chk (in64 ((1 : Int) + (Int.tmod line4 3000))) <| (ev_top_armStriking n r6.1 ((1 : Int) + (Int.tmod line4 3000)) ((1 : Int) + (Int.tmod per3 9))).bind fun r8 => (ev_drop_Goes n r8.1 r8.2 r8.1 0).bind fun r9 => cond (r9.2.2 != 0) (some false) (cond (r9.1 != r9.2.1) (some false) (ev_top_TopStrikeDrop_j1 n r6 per3 r9 r7 r8 line4))
set_option maxRecDepth 100000 in
set_option maxHeartbeats 2000000 in
theorem ok_top_TopStrikeDrop_j0 {n : Nat} {w0 : World} {R0 : Nat → Prop} {env0 : Env} {r : Bool} {line4 : Int} {per3 : Int} {r7 : Int × Int} {r6 : (List Int) × Bool} (h : ev_top_TopStrikeDrop_j0 n line4 r6 per3 r7 = some r) : TC Try.prog ⟨w0, fun _ => False, R0⟩ 184 (bodyPost Try.prog Try.f4 (Post ⟨w0, fun _ => False, R0⟩ env0 (.val (.bool r)) [])) [.code (sub (bodyOf Try.f4) [1, 1, 1, 1, 0, 1, 1]), .code (sub (bodyOf Try.f4) [1, 1, 1, 1, 1])] ([(2, .val (.int .u16 line4)), (8, .val (.int .i64 ((1 : Int) + (Int.tmod per3 9)))), (9, .ref 3), (11, .val (.int .i64 r7.1))]) ([.row 3 3 1 (List.map en_int r6.1)]) := by
  rw [ev_top_TopStrikeDrop_j0] at h
  refine TC.skip ?_
  refine TC.seq ?_
  refine TC.region ?_
  refine op0 (sp_move rfl rfl) rfl trivial rfl rfl ?_
  refine op0 (sp_move rfl rfl) rfl trivial rfl rfl ?_
  obtain ⟨h8, h⟩ := chk_inv h
  refine op0 (sp_conv rfl Try.underlying46 Try.underlying3 rfl h8) rfl trivial rfl rfl ?_
  refine op0 (sp_rem rfl rfl rfl (by decide)) rfl trivial rfl rfl ?_
  obtain ⟨h9, h⟩ := chk_inv h
  refine op0 (sp_add rfl rfl rfl h9) rfl trivial rfl rfl ?_
  refine op0 (sp_move rfl rfl) rfl trivial rfl rfl ?_
  obtain ⟨r8, h10, h⟩ := bind_inv h
  refine op1 0 rfl (sp_call (avs := [.ref 3, .val (.int .i64 ((1 : Int) + (Int.tmod line4 3000))), .val (.int .i64 ((1 : Int) + (Int.tmod per3 9)))]) (need := [.row 3 3 1 (List.map en_int r6.1)]) (v := .agg [.val (.int .i64 r8.1), .ref 4]) (news := [.row 4 34 2 (List.map en_api_Span r8.2)]) rfl rfl rfl Try.call29 (atJ [(0, 3)] [(0, 4)] (fc_top_armStriking h10) rfl rfl) (.inr (List.forall_mem_cons.2 ⟨indep_map en_api_Span_flat, (by simp)⟩))) rfl trivial rfl rfl ?_
  refine op0 (sp_alloc 5 rfl Try.zeroValue42 rfl) rfl trivial rfl rfl ?_
  refine stoB 0 (cells' := [.val (.int .i64 r8.1), .ref 4]) rfl rfl trivial rfl rfl rfl rfl vt42 rfl rfl rfl ?_
  refine TL.nil ?_
  refine TC.seq ?_
  refine TC.region ?_
  refine op1 0 rfl (sp_loadBA rfl isBlk rfl vt42 rfl rfl) rfl trivial rfl rfl ?_
  refine op1 0 rfl (sp_fieldAddrB rfl isBlk rfl ft42_0 vt3 (by decide)) rfl trivial rfl rfl ?_
  refine op1 0 rfl (sp_loadB rfl isBlk rfl vt3 rfl) rfl trivial rfl rfl ?_
  obtain ⟨r9, h11, h⟩ := bind_inv h
  refine op1 1 rfl (sp_call (avs := [.agg [.val (.int .i64 r8.1), .ref 4], .val (.int .i64 r8.1), .val (.int .i64 0)]) (need := [.row 4 34 2 (List.map en_api_Span r8.2)]) (v := .tup [.agg [.val (.int .i64 r9.1), .val (.int .i64 r9.2.1)], .val (.int .i64 r9.2.2)]) (news := []) rfl rfl rfl Try.call23 (atJ [(0, 4)] [] (fc_drop_Goes h11) rfl rfl) (.inr (fun x hx => nomatch hx))) rfl trivial rfl rfl ?_
  refine op0 (sp_move rfl rfl) rfl trivial rfl rfl ?_
  refine op0 (sp_extract rfl rfl rfl) rfl trivial rfl rfl ?_
  refine op0 (sp_extract rfl rfl rfl) rfl trivial rfl rfl ?_
  refine op0 (sp_alloc 6 rfl Try.zeroValue34 rfl) rfl trivial rfl rfl ?_
  refine stoB 0 (cells' := [.val (.int .i64 r9.1), .val (.int .i64 r9.2.1)]) rfl rfl trivial rfl rfl rfl rfl vt34 rfl rfl rfl ?_
  refine op0 (sp_assign rfl rfl) rfl trivial rfl rfl ?_
  refine TL.nil ?_
  refine TC.seq ?_
  refine TC.seq ?_
  refine TC.region ?_
  refine op0 (sp_move rfl rfl) rfl trivial rfl rfl ?_
  refine op0 (sp_neq rfl rfl rfl) rfl trivial rfl rfl ?_
  refine op0 (sp_move rfl rfl) rfl trivial rfl rfl ?_
  rcases cond_cases h with ⟨h12, h⟩ | ⟨h12, h⟩
  · refine (boolLit 60 rfl h12).2 ?_
    refine opSkip rfl ⟨_, rfl, .inl rfl⟩ rfl ?_
    refine opSkip rfl ⟨_, rfl, .inl rfl⟩ rfl ?_
    refine opSkip rfl ⟨_, rfl, .inl rfl⟩ rfl ?_
    refine opSkip rfl ⟨_, rfl, .inl rfl⟩ rfl ?_
    refine opSkip rfl ⟨_, rfl, .inl rfl⟩ rfl ?_
    refine op0 (sp_pickT rfl rfl rfl) rfl trivial rfl rfl ?_
    refine TL.nil ?_
    refine TC.condT rfl ?_
    refine TC.seq ?_
    refine TC.region ?_
    refine op0 (sp_assign rfl rfl) rfl trivial rfl rfl ?_
    refine TL.nil ?_
    cases h
    exact retJ [] (.tmp rfl .nil) rfl trivial rfl rfl
  · refine (boolLit 60 rfl h12).2 ?_
    refine op1 0 rfl (sp_fieldAddrB rfl isBlk rfl ft34_0 vt3 (by decide)) rfl ⟨_, rfl, rfl⟩ rfl rfl ?_
    refine op1 0 rfl (sp_loadB rfl isBlk rfl vt3 rfl) rfl ⟨_, rfl, rfl⟩ rfl rfl ?_
    refine op1 0 rfl (sp_fieldAddrB rfl isBlk rfl ft34_1 vt3 (by decide)) rfl ⟨_, rfl, rfl⟩ rfl rfl ?_
    refine op1 0 rfl (sp_loadB rfl isBlk rfl vt3 rfl) rfl ⟨_, rfl, rfl⟩ rfl rfl ?_
    refine op0 (sp_neq rfl rfl rfl) rfl ⟨_, rfl, rfl⟩ rfl rfl ?_
    refine op0 (sp_pickF rfl rfl rfl) rfl trivial rfl rfl ?_
    refine TL.nil ?_
    refine TC.cond (b := (r9.1 != r9.2.1)) rfl (fun h13 => ?_) (fun h13 => ?_)
    · have h := cond_t h h13
      refine TC.seq ?_
      refine TC.region ?_
      refine op0 (sp_assign rfl rfl) rfl trivial rfl rfl ?_
      refine TL.nil ?_
      cases h
      exact retJ [] (.tmp rfl .nil) rfl trivial rfl rfl
    · have h := cond_f h h13
      refine subJ [] (ok_top_TopStrikeDrop_j1 h) ?_ ?_ ?_
      · exact ⟨rfl, rfl, rfl, rfl, rfl, rfl, trivial⟩
      · exact ⟨mem_at 3 rfl, mem_at 1 rfl, mem_at 0 rfl, mem_at 2 rfl, trivial⟩
      · rfl
def ev_top_TopStrikeDrop (n : Nat) (quiet1 : Int) (quiet2 : Int) (per3 : Int) (line4 : Int) : Option Bool :=
  (ev_top_armQuiet n quiet1 quiet2).bind fun r5 => chk (in64 per3) <| chk (in64 ((1 : Int) + (Int.tmod per3 9))) <| (ev_top_armBlows n r5.1 r5.2.1 r5.2.2).bind fun r6 => (ev_strike_Day n r5.1 r5.2.1 r5.2.2).bind fun r7 => cond (!r6.2) (some false) (cond (r7.2 != 0) (some false) (ev_top_TopStrikeDrop_j0 n line4 r6 per3 r7))
set_option maxRecDepth 100000 in
set_option maxHeartbeats 2000000 in
theorem fc_top_TopStrikeDrop {n : Nat} {quiet1 : Int} {quiet2 : Int} {per3 : Int} {line4 : Int} {r : Bool} (h : ev_top_TopStrikeDrop n quiet1 quiet2 per3 line4 = some r) : FC Try.prog 4 [.agg [.val (.int .u8 quiet1), .val (.int .u8 quiet2)], .val (.int .u8 per3), .val (.int .u16 line4)] [] (.val (.bool r)) [] := by
  refine introJ (nz := 184) Try.func4 rfl rfl rfl (fun w0 R0 env0 => ?_)
  rw [ev_top_TopStrikeDrop] at h
  refine TC.seq ?_
  refine TC.region ?_
  refine op0 (sp_box 0 rfl rfl rfl rfl rfl) rfl trivial rfl rfl ?_
  refine op0 (sp_assign rfl rfl) rfl trivial rfl rfl ?_
  refine TL.nil ?_
  refine TC.seq ?_
  refine TC.region ?_
  refine op1 0 rfl (sp_loadBA rfl isBlk rfl vt45 rfl rfl) rfl trivial rfl rfl ?_
  obtain ⟨r5, h1, h⟩ := bind_inv h
  refine op0 (sp_call (avs := [.agg [.val (.int .u8 quiet1), .val (.int .u8 quiet2)]]) (need := []) (v := .agg [.val (.bool r5.1), .val (.bool r5.2.1), .ref 1]) (news := [.row 1 34 2 (List.map en_api_Span r5.2.2)]) rfl rfl rfl Try.call26 (atJ [] [(0, 1)] (fc_top_armQuiet h1) rfl rfl) (.inl (roAll rfl))) rfl trivial rfl rfl ?_
  refine op0 (sp_move rfl rfl) rfl trivial rfl rfl ?_
  obtain ⟨h2, h⟩ := chk_inv h
  refine op0 (sp_conv rfl Try.underlying5 Try.underlying3 rfl h2) rfl trivial rfl rfl ?_
  refine op0 (sp_rem rfl rfl rfl (by decide)) rfl trivial rfl rfl ?_
  obtain ⟨h3, h⟩ := chk_inv h
  refine op0 (sp_add rfl rfl rfl h3) rfl trivial rfl rfl ?_
  refine op0 (sp_alloc 2 rfl Try.zeroValue48 rfl) rfl trivial rfl rfl ?_
  refine stoB 0 (cells' := [.val (.bool r5.1), .val (.bool r5.2.1), .ref 1]) rfl rfl trivial rfl rfl rfl rfl vt48 rfl rfl rfl ?_
  refine op0 (sp_assign rfl rfl) rfl trivial rfl rfl ?_
  refine TL.nil ?_
  refine TC.seq ?_
  refine TC.region ?_
  refine op1 0 rfl (sp_loadBA rfl isBlk rfl vt48 rfl rfl) rfl trivial rfl rfl ?_
  obtain ⟨r6, h4, h⟩ := bind_inv h
  refine op1 1 rfl (sp_call (avs := [.agg [.val (.bool r5.1), .val (.bool r5.2.1), .ref 1]]) (need := [.row 1 34 2 (List.map en_api_Span r5.2.2)]) (v := .tup [.ref 3, .val (.bool r6.2)]) (news := [.row 3 3 1 (List.map en_int r6.1)]) rfl rfl rfl Try.call27 (atJ [(0, 1)] [(0, 3)] (fc_top_armBlows h4) rfl rfl) (.inr (List.forall_mem_cons.2 ⟨indep_map en_int_flat, (by simp)⟩))) rfl trivial rfl rfl ?_
  refine op0 (sp_move rfl rfl) rfl trivial rfl rfl ?_
  refine op0 (sp_extract rfl rfl rfl) rfl trivial rfl rfl ?_
  refine op0 (sp_extract rfl rfl rfl) rfl trivial rfl rfl ?_
  refine op0 (sp_assign rfl rfl) rfl trivial rfl rfl ?_
  refine op0 (sp_assign rfl rfl) rfl trivial rfl rfl ?_
  refine TL.nil ?_
  refine TC.seq ?_
  refine TC.region ?_
  refine op1 1 rfl (sp_loadBA rfl isBlk rfl vt48 rfl rfl) rfl trivial rfl rfl ?_
  obtain ⟨r7, h5, h⟩ := bind_inv h
  refine op1 2 rfl (sp_call (avs := [.agg [.val (.bool r5.1), .val (.bool r5.2.1), .ref 1]]) (need := [.row 1 34 2 (List.map en_api_Span r5.2.2)]) (v := .tup [.val (.int .i64 r7.1), .val (.int .i64 r7.2)]) (news := []) rfl rfl rfl Try.call28 (atJ [(0, 1)] [] (fc_strike_Day h5) rfl rfl) (.inr (fun x hx => nomatch hx))) rfl trivial rfl rfl ?_
  refine op0 (sp_move rfl rfl) rfl trivial rfl rfl ?_
  refine op0 (sp_extract rfl rfl rfl) rfl trivial rfl rfl ?_
  refine op0 (sp_extract rfl rfl rfl) rfl trivial rfl rfl ?_
  refine op0 (sp_assign rfl rfl) rfl trivial rfl rfl ?_
  refine op0 (sp_assign rfl rfl) rfl trivial rfl rfl ?_
  refine TL.nil ?_
  refine TC.seq ?_
  refine TC.seq ?_
  refine TC.region ?_
  refine op0 (sp_move rfl rfl) rfl trivial rfl rfl ?_
  refine op0 (sp_not rfl rfl) rfl trivial rfl rfl ?_
  refine op0 (sp_move rfl rfl) rfl trivial rfl rfl ?_
  rcases cond_cases h with ⟨h6, h⟩ | ⟨h6, h⟩
  · refine (boolLit 40 rfl h6).2 ?_
    refine opSkip rfl ⟨_, rfl, .inl rfl⟩ rfl ?_
    refine opSkip rfl ⟨_, rfl, .inl rfl⟩ rfl ?_
    refine op0 (sp_pickT rfl rfl rfl) rfl trivial rfl rfl ?_
    refine TL.nil ?_
    refine TC.condT rfl ?_
    refine TC.seq ?_
    refine TC.region ?_
    refine op0 (sp_assign rfl rfl) rfl trivial rfl rfl ?_
    refine TL.nil ?_
    cases h
    exact retJ [] (.tmp rfl .nil) rfl trivial rfl rfl
  · refine (boolLit 40 rfl h6).2 ?_
    refine op0 (sp_move rfl rfl) rfl ⟨_, rfl, rfl⟩ rfl rfl ?_
    refine op0 (sp_neq rfl rfl rfl) rfl ⟨_, rfl, rfl⟩ rfl rfl ?_
    refine op0 (sp_pickF rfl rfl rfl) rfl trivial rfl rfl ?_
    refine TL.nil ?_
    refine TC.cond (b := (r7.2 != 0)) rfl (fun h7 => ?_) (fun h7 => ?_)
    · have h := cond_t h h7
      refine TC.seq ?_
      refine TC.region ?_
      refine op0 (sp_assign rfl rfl) rfl trivial rfl rfl ?_
      refine TL.nil ?_
      cases h
      exact retJ [] (.tmp rfl .nil) rfl trivial rfl rfl
    · have h := cond_f h h7
      refine subJ [] (ok_top_TopStrikeDrop_j0 h) ?_ ?_ ?_
      · exact ⟨rfl, rfl, rfl, rfl, trivial⟩
      · exact ⟨mem_at 0 rfl, trivial⟩
      · rfl
end
end Go.Proofs.Ytgkoldcmbcbbpaa.Sy
