/- What functions of the program compute, and that they do: printed by symgen.py. -/
import Derived.Test.YtglgkcfgjaoabaaGLib
import Derived.Test.YtglgkcfgjaoabaaGturretlaw05
import Derived.Test.YtglgkcfgjaoabaaGStrike
import Derived.Test.YtglgkcfgjaoabaaGTurretref05
set_option linter.unusedSimpArgs false
set_option linter.unusedVariables false
namespace Go.Proofs.Ytglgkcfgjaoabaa.Sy
open Go.RowKit
noncomputable section

/- law05_StrikeBlows -/
def ev_law05_StrikeBlows_j0 (n : Nat) (r10 : Int) (r7 : Int) (r6 : Bool × Bool × (List (Int × Int))) (rr3 : List (Int × Int)) (r8 : Int × Int) (r9 : Int × Int) : Option Bool :=
  cond (r10 != 0) (cond (r7 == r10) ((ev_law05_quiet n r6.2.2 rr3).bind fun r12 => cond r12 (cond (r8.2 == r10) (cond (r9.2 == r10) (cond (r8.1 == 0) (cond (r9.1 == 0) ((ev_law05_known n).bind fun r13 => some r13) (some false)) (some false)) (some false)) (some false)) (some false)) (some false)) (some false)
set_option maxRecDepth 100000 in
set_option maxHeartbeats 2000000 in
theorem ok_law05_StrikeBlows_j0 {n : Nat} {w0 : World} {R0 : Nat → Prop} {env0 : Env} {r : Bool} {r7 : Int} {r8 : Int × Int} {r9 : Int × Int} {r10 : Int} {rr1 : Bool} {rr2 : Bool} {r6 : Bool × Bool × (List (Int × Int))} {rr3 : List (Int × Int)} (h : ev_law05_StrikeBlows_j0 n r10 r7 r6 rr3 r8 r9 = some r) : TC Try.prog ⟨w0, fun _ => False, R0⟩ 137 (bodyPost Try.prog Try.f3 (Post ⟨w0, fun _ => False, R0⟩ env0 (.val (.bool r)) [])) [.code (sub (bodyOf Try.f3) [1, 1, 1, 1, 1, 1, 0, 1, 1, 0, 0]), .code (sub (bodyOf Try.f3) [1, 1, 1, 1, 1, 1, 0, 1, 1, 0, 1]), .code (sub (bodyOf Try.f3) [1, 1, 1, 1, 1, 1, 1])] ([(2, .ptr 1 0), (5, .ptr 3 0), (6, .val (.int .i64 r7)), (7, .val (.int .i64 r8.1)), (8, .val (.int .i64 r8.2)), (9, .val (.int .i64 r9.1)), (10, .val (.int .i64 r9.2)), (11, .val (.int .i64 r10))]) ([.blk 1 [.val (.bool rr1), .val (.bool rr2), .ref 0] 24, .blk 3 [.val (.bool r6.1), .val (.bool r6.2.1), .ref 2] 24, .ro 0 2 (List.map en_api_Span rr3), .row 2 81 2 (List.map en_api_Span r6.2.2)]) := by
  rw [ev_law05_StrikeBlows_j0] at h
  refine TC.region ?_
  refine op0 (sp_move rfl rfl) rfl trivial rfl rfl ?_
  refine op0 (sp_neq rfl rfl rfl) rfl trivial rfl rfl ?_
  refine op0 (sp_move rfl rfl) rfl trivial rfl rfl ?_
  rcases cond_cases h with ⟨h10, h⟩ | ⟨h10, h⟩
  · refine (boolLit 53 rfl h10).2 ?_
    refine op0 (sp_move rfl rfl) rfl ⟨_, rfl, rfl⟩ rfl rfl ?_
    refine op0 (sp_move rfl rfl) rfl ⟨_, rfl, rfl⟩ rfl rfl ?_
    refine op0 (sp_eql rfl rfl rfl) rfl ⟨_, rfl, rfl⟩ rfl rfl ?_
    refine op0 (sp_pickT rfl rfl rfl) rfl trivial rfl rfl ?_
    refine op0 (sp_move rfl rfl) rfl trivial rfl rfl ?_
    rcases cond_cases h with ⟨h11, h⟩ | ⟨h11, h⟩
    · refine (boolLit 58 rfl h11).2 ?_
      refine op1 1 rfl (sp_fieldAddrB rfl isBlk rfl ft24_2 vt22 (by decide)) rfl ⟨_, rfl, rfl⟩ rfl rfl ?_
      refine op1 1 rfl (sp_loadB rfl isBlk rfl vt22 rfl) rfl ⟨_, rfl, rfl⟩ rfl rfl ?_
      refine op1 0 rfl (sp_fieldAddrB rfl isBlk rfl ft24_2 vt22 (by decide)) rfl ⟨_, rfl, rfl⟩ rfl rfl ?_
      refine op1 0 rfl (sp_loadB rfl isBlk rfl vt22 rfl) rfl ⟨_, rfl, rfl⟩ rfl rfl ?_
      obtain ⟨r12, h12, h⟩ := bind_inv h
      refine opN (need := [.row 2 81 2 (List.map en_api_Span r6.2.2), .ro 0 2 (List.map en_api_Span rr3)]) [3, 2] ⟨rfl, rfl, trivial⟩ (sp_call (avs := [.ref 2, .ref 0]) (need := [.row 2 81 2 (List.map en_api_Span r6.2.2), .ro 0 2 (List.map en_api_Span rr3)]) (v := .val (.bool r12)) (news := []) rfl rfl rfl Try.call18 (atJ [(0, 2), (1, 0)] [] (fc_law05_quiet h12) rfl rfl) (.inr (fun x hx => nomatch hx))) rfl ⟨_, rfl, rfl⟩ rfl rfl ?_
      refine op0 (sp_pickT rfl rfl rfl) rfl trivial rfl rfl ?_
      refine op0 (sp_move rfl rfl) rfl trivial rfl rfl ?_
      rcases cond_cases h with ⟨h13, h⟩ | ⟨h13, h⟩
      · refine (boolLit 65 rfl h13).2 ?_
        refine op0 (sp_move rfl rfl) rfl ⟨_, rfl, rfl⟩ rfl rfl ?_
        refine op0 (sp_move rfl rfl) rfl ⟨_, rfl, rfl⟩ rfl rfl ?_
        refine op0 (sp_eql rfl rfl rfl) rfl ⟨_, rfl, rfl⟩ rfl rfl ?_
        refine op0 (sp_pickT rfl rfl rfl) rfl trivial rfl rfl ?_
        refine op0 (sp_move rfl rfl) rfl trivial rfl rfl ?_
        rcases cond_cases h with ⟨h14, h⟩ | ⟨h14, h⟩
        · refine (boolLit 70 rfl h14).2 ?_
          refine op0 (sp_move rfl rfl) rfl ⟨_, rfl, rfl⟩ rfl rfl ?_
          refine op0 (sp_move rfl rfl) rfl ⟨_, rfl, rfl⟩ rfl rfl ?_
          refine op0 (sp_eql rfl rfl rfl) rfl ⟨_, rfl, rfl⟩ rfl rfl ?_
          refine op0 (sp_pickT rfl rfl rfl) rfl trivial rfl rfl ?_
          refine op0 (sp_move rfl rfl) rfl trivial rfl rfl ?_
          rcases cond_cases h with ⟨h15, h⟩ | ⟨h15, h⟩
          · refine (boolLit 75 rfl h15).2 ?_
            refine op0 (sp_move rfl rfl) rfl ⟨_, rfl, rfl⟩ rfl rfl ?_
            refine op0 (sp_eql rfl rfl rfl) rfl ⟨_, rfl, rfl⟩ rfl rfl ?_
            refine op0 (sp_pickT rfl rfl rfl) rfl trivial rfl rfl ?_
            refine op0 (sp_move rfl rfl) rfl trivial rfl rfl ?_
            rcases cond_cases h with ⟨h16, h⟩ | ⟨h16, h⟩
            · refine (boolLit 79 rfl h16).2 ?_
              refine op0 (sp_move rfl rfl) rfl ⟨_, rfl, rfl⟩ rfl rfl ?_
              refine op0 (sp_eql rfl rfl rfl) rfl ⟨_, rfl, rfl⟩ rfl rfl ?_
              refine op0 (sp_pickT rfl rfl rfl) rfl trivial rfl rfl ?_
              refine op0 (sp_move rfl rfl) rfl trivial rfl rfl ?_
              rcases cond_cases h with ⟨h17, h⟩ | ⟨h17, h⟩
              · refine (boolLit 83 rfl h17).2 ?_
                obtain ⟨r13, h18, h⟩ := bind_inv h
                refine op0 (sp_call (avs := []) (need := []) (v := .val (.bool r13)) (news := []) rfl rfl rfl Try.call12 (atJ [] [] (fc_law05_known h18) rfl rfl) (.inl (roAll rfl))) rfl ⟨_, rfl, rfl⟩ rfl rfl ?_
                refine op0 (sp_pickT rfl rfl rfl) rfl trivial rfl rfl ?_
                refine op0 (sp_assign rfl rfl) rfl trivial rfl rfl ?_
                refine TL.nil ?_
                cases h
                exact retJ [] (.tmp rfl .nil) rfl trivial rfl rfl
              · refine (boolLit 83 rfl h17).2 ?_
                refine opSkip rfl ⟨_, rfl, .inl rfl⟩ rfl ?_
                refine op0 (sp_pickF rfl rfl rfl) rfl trivial rfl rfl ?_
                refine op0 (sp_assign rfl rfl) rfl trivial rfl rfl ?_
                refine TL.nil ?_
                cases h
                exact retJ [] (.tmp rfl .nil) rfl trivial rfl rfl
            · refine (boolLit 79 rfl h16).2 ?_
              refine opSkip rfl ⟨_, rfl, .inl rfl⟩ rfl ?_
              refine opSkip rfl ⟨_, rfl, .inl rfl⟩ rfl ?_
              refine op0 (sp_pickF rfl rfl rfl) rfl trivial rfl rfl ?_
              refine op0 (sp_move rfl rfl) rfl trivial rfl rfl ?_
              refine opSkip rfl ⟨_, rfl, .inl rfl⟩ rfl ?_
              refine op0 (sp_pickF rfl rfl rfl) rfl trivial rfl rfl ?_
              refine op0 (sp_assign rfl rfl) rfl trivial rfl rfl ?_
              refine TL.nil ?_
              cases h
              exact retJ [] (.tmp rfl .nil) rfl trivial rfl rfl
          · refine (boolLit 75 rfl h15).2 ?_
            refine opSkip rfl ⟨_, rfl, .inl rfl⟩ rfl ?_
            refine opSkip rfl ⟨_, rfl, .inl rfl⟩ rfl ?_
            refine op0 (sp_pickF rfl rfl rfl) rfl trivial rfl rfl ?_
            refine op0 (sp_move rfl rfl) rfl trivial rfl rfl ?_
            refine opSkip rfl ⟨_, rfl, .inl rfl⟩ rfl ?_
            refine opSkip rfl ⟨_, rfl, .inl rfl⟩ rfl ?_
            refine op0 (sp_pickF rfl rfl rfl) rfl trivial rfl rfl ?_
            refine op0 (sp_move rfl rfl) rfl trivial rfl rfl ?_
            refine opSkip rfl ⟨_, rfl, .inl rfl⟩ rfl ?_
            refine op0 (sp_pickF rfl rfl rfl) rfl trivial rfl rfl ?_
            refine op0 (sp_assign rfl rfl) rfl trivial rfl rfl ?_
            refine TL.nil ?_
            cases h
            exact retJ [] (.tmp rfl .nil) rfl trivial rfl rfl
        · refine (boolLit 70 rfl h14).2 ?_
          refine opSkip rfl ⟨_, rfl, .inl rfl⟩ rfl ?_
          refine opSkip rfl ⟨_, rfl, .inl rfl⟩ rfl ?_
          refine opSkip rfl ⟨_, rfl, .inl rfl⟩ rfl ?_
          refine op0 (sp_pickF rfl rfl rfl) rfl trivial rfl rfl ?_
          refine op0 (sp_move rfl rfl) rfl trivial rfl rfl ?_
          refine opSkip rfl ⟨_, rfl, .inl rfl⟩ rfl ?_
          refine opSkip rfl ⟨_, rfl, .inl rfl⟩ rfl ?_
          refine op0 (sp_pickF rfl rfl rfl) rfl trivial rfl rfl ?_
          refine op0 (sp_move rfl rfl) rfl trivial rfl rfl ?_
          refine opSkip rfl ⟨_, rfl, .inl rfl⟩ rfl ?_
          refine opSkip rfl ⟨_, rfl, .inl rfl⟩ rfl ?_
          refine op0 (sp_pickF rfl rfl rfl) rfl trivial rfl rfl ?_
          refine op0 (sp_move rfl rfl) rfl trivial rfl rfl ?_
          refine opSkip rfl ⟨_, rfl, .inl rfl⟩ rfl ?_
          refine op0 (sp_pickF rfl rfl rfl) rfl trivial rfl rfl ?_
          refine op0 (sp_assign rfl rfl) rfl trivial rfl rfl ?_
          refine TL.nil ?_
          cases h
          exact retJ [] (.tmp rfl .nil) rfl trivial rfl rfl
      · refine (boolLit 65 rfl h13).2 ?_
        refine opSkip rfl ⟨_, rfl, .inl rfl⟩ rfl ?_
        refine opSkip rfl ⟨_, rfl, .inl rfl⟩ rfl ?_
        refine opSkip rfl ⟨_, rfl, .inl rfl⟩ rfl ?_
        refine op0 (sp_pickF rfl rfl rfl) rfl trivial rfl rfl ?_
        refine op0 (sp_move rfl rfl) rfl trivial rfl rfl ?_
        refine opSkip rfl ⟨_, rfl, .inl rfl⟩ rfl ?_
        refine opSkip rfl ⟨_, rfl, .inl rfl⟩ rfl ?_
        refine opSkip rfl ⟨_, rfl, .inl rfl⟩ rfl ?_
        refine op0 (sp_pickF rfl rfl rfl) rfl trivial rfl rfl ?_
        refine op0 (sp_move rfl rfl) rfl trivial rfl rfl ?_
        refine opSkip rfl ⟨_, rfl, .inl rfl⟩ rfl ?_
        refine opSkip rfl ⟨_, rfl, .inl rfl⟩ rfl ?_
        refine op0 (sp_pickF rfl rfl rfl) rfl trivial rfl rfl ?_
        refine op0 (sp_move rfl rfl) rfl trivial rfl rfl ?_
        refine opSkip rfl ⟨_, rfl, .inl rfl⟩ rfl ?_
        refine opSkip rfl ⟨_, rfl, .inl rfl⟩ rfl ?_
        refine op0 (sp_pickF rfl rfl rfl) rfl trivial rfl rfl ?_
        refine op0 (sp_move rfl rfl) rfl trivial rfl rfl ?_
        refine opSkip rfl ⟨_, rfl, .inl rfl⟩ rfl ?_
        refine op0 (sp_pickF rfl rfl rfl) rfl trivial rfl rfl ?_
        refine op0 (sp_assign rfl rfl) rfl trivial rfl rfl ?_
        refine TL.nil ?_
        cases h
        exact retJ [] (.tmp rfl .nil) rfl trivial rfl rfl
    · refine (boolLit 58 rfl h11).2 ?_
      refine opSkip rfl ⟨_, rfl, .inl rfl⟩ rfl ?_
      refine opSkip rfl ⟨_, rfl, .inl rfl⟩ rfl ?_
      refine opSkip rfl ⟨_, rfl, .inl rfl⟩ rfl ?_
      refine opSkip rfl ⟨_, rfl, .inl rfl⟩ rfl ?_
      refine opSkip rfl ⟨_, rfl, .inl rfl⟩ rfl ?_
      refine op0 (sp_pickF rfl rfl rfl) rfl trivial rfl rfl ?_
      refine op0 (sp_move rfl rfl) rfl trivial rfl rfl ?_
      refine opSkip rfl ⟨_, rfl, .inl rfl⟩ rfl ?_
      refine opSkip rfl ⟨_, rfl, .inl rfl⟩ rfl ?_
      refine opSkip rfl ⟨_, rfl, .inl rfl⟩ rfl ?_
      refine op0 (sp_pickF rfl rfl rfl) rfl trivial rfl rfl ?_
      refine op0 (sp_move rfl rfl) rfl trivial rfl rfl ?_
      refine opSkip rfl ⟨_, rfl, .inl rfl⟩ rfl ?_
      refine opSkip rfl ⟨_, rfl, .inl rfl⟩ rfl ?_
      refine opSkip rfl ⟨_, rfl, .inl rfl⟩ rfl ?_
      refine op0 (sp_pickF rfl rfl rfl) rfl trivial rfl rfl ?_
      refine op0 (sp_move rfl rfl) rfl trivial rfl rfl ?_
      refine opSkip rfl ⟨_, rfl, .inl rfl⟩ rfl ?_
      refine opSkip rfl ⟨_, rfl, .inl rfl⟩ rfl ?_
      refine op0 (sp_pickF rfl rfl rfl) rfl trivial rfl rfl ?_
      refine op0 (sp_move rfl rfl) rfl trivial rfl rfl ?_
      refine opSkip rfl ⟨_, rfl, .inl rfl⟩ rfl ?_
      refine opSkip rfl ⟨_, rfl, .inl rfl⟩ rfl ?_
      refine op0 (sp_pickF rfl rfl rfl) rfl trivial rfl rfl ?_
      refine op0 (sp_move rfl rfl) rfl trivial rfl rfl ?_
      refine opSkip rfl ⟨_, rfl, .inl rfl⟩ rfl ?_
      refine op0 (sp_pickF rfl rfl rfl) rfl trivial rfl rfl ?_
      refine op0 (sp_assign rfl rfl) rfl trivial rfl rfl ?_
      refine TL.nil ?_
      cases h
      exact retJ [] (.tmp rfl .nil) rfl trivial rfl rfl
  · refine (boolLit 53 rfl h10).2 ?_
    refine opSkip rfl ⟨_, rfl, .inl rfl⟩ rfl ?_
    refine opSkip rfl ⟨_, rfl, .inl rfl⟩ rfl ?_
    refine opSkip rfl ⟨_, rfl, .inl rfl⟩ rfl ?_
    refine op0 (sp_pickF rfl rfl rfl) rfl trivial rfl rfl ?_
    refine op0 (sp_move rfl rfl) rfl trivial rfl rfl ?_
    refine opSkip rfl ⟨_, rfl, .inl rfl⟩ rfl ?_
    refine opSkip rfl ⟨_, rfl, .inl rfl⟩ rfl ?_
    refine opSkip rfl ⟨_, rfl, .inl rfl⟩ rfl ?_
    refine opSkip rfl ⟨_, rfl, .inl rfl⟩ rfl ?_
    refine opSkip rfl ⟨_, rfl, .inl rfl⟩ rfl ?_
    refine op0 (sp_pickF rfl rfl rfl) rfl trivial rfl rfl ?_
    refine op0 (sp_move rfl rfl) rfl trivial rfl rfl ?_
    refine opSkip rfl ⟨_, rfl, .inl rfl⟩ rfl ?_
    refine opSkip rfl ⟨_, rfl, .inl rfl⟩ rfl ?_
    refine opSkip rfl ⟨_, rfl, .inl rfl⟩ rfl ?_
    refine op0 (sp_pickF rfl rfl rfl) rfl trivial rfl rfl ?_
    refine op0 (sp_move rfl rfl) rfl trivial rfl rfl ?_
    refine opSkip rfl ⟨_, rfl, .inl rfl⟩ rfl ?_
    refine opSkip rfl ⟨_, rfl, .inl rfl⟩ rfl ?_
    refine opSkip rfl ⟨_, rfl, .inl rfl⟩ rfl ?_
    refine op0 (sp_pickF rfl rfl rfl) rfl trivial rfl rfl ?_
    refine op0 (sp_move rfl rfl) rfl trivial rfl rfl ?_
    refine opSkip rfl ⟨_, rfl, .inl rfl⟩ rfl ?_
    refine opSkip rfl ⟨_, rfl, .inl rfl⟩ rfl ?_
    refine op0 (sp_pickF rfl rfl rfl) rfl trivial rfl rfl ?_
    refine op0 (sp_move rfl rfl) rfl trivial rfl rfl ?_
    refine opSkip rfl ⟨_, rfl, .inl rfl⟩ rfl ?_
    refine opSkip rfl ⟨_, rfl, .inl rfl⟩ rfl ?_
    refine op0 (sp_pickF rfl rfl rfl) rfl trivial rfl rfl ?_
    refine op0 (sp_move rfl rfl) rfl trivial rfl rfl ?_
    refine opSkip rfl ⟨_, rfl, .inl rfl⟩ rfl ?_
    refine op0 (sp_pickF rfl rfl rfl) rfl trivial rfl rfl ?_
    refine op0 (sp_assign rfl rfl) rfl trivial rfl rfl ?_
    refine TL.nil ?_
    cases h
    exact retJ [] (.tmp rfl .nil) rfl trivial rfl rfl
def ev_law05_StrikeBlows_j3 (n : Nat) (slot4 : Int) (r8 : Int × Int) (rr1 : Bool) (rr2 : Bool) (rr3 : List (Int × Int)) : Option Bool :=
  (ev_ref05_Slot n slot4).bind fun r19 => cond (!r19) (cond (r8.2 == 3) (cond (r8.1 == 0) ((ev_law05_known n).bind fun r20 => some r20) (some false)) (some false)) (cond (r8.2 == 0) ((ev_ref05_N n rr1 rr2 rr3).bind fun r21 => chk (r21 != 0) <| (ev_ref05_Blows n rr1 rr2 rr3 slot4 (Int.tmod slot4 r21)).bind fun r22 => cond (r8.1 == r22) ((ev_law05_known n).bind fun r23 => some r23) (some false)) (some false))
set_option maxRecDepth 100000 in
set_option maxHeartbeats 2000000 in
theorem ok_law05_StrikeBlows_j3 {n : Nat} {w0 : World} {R0 : Nat → Prop} {env0 : Env} {r : Bool} {slot4 : Int} {r8 : Int × Int} {rr1 : Bool} {rr2 : Bool} {rr3 : List (Int × Int)} (h : ev_law05_StrikeBlows_j3 n slot4 r8 rr1 rr2 rr3 = some r) : TC Try.prog ⟨w0, fun _ => False, R0⟩ 137 (bodyPost Try.prog Try.f3 (Post ⟨w0, fun _ => False, R0⟩ env0 (.val (.bool r)) [])) [.code (sub (bodyOf Try.f3) [1, 1, 1, 1, 1, 1, 1, 1, 1, 0, 1, 1]), .code (sub (bodyOf Try.f3) [1, 1, 1, 1, 1, 1, 1, 1, 1, 1])] ([(1, .val (.int .i64 slot4)), (2, .ptr 1 0), (7, .val (.int .i64 r8.1)), (8, .val (.int .i64 r8.2))]) ([.blk 1 [.val (.bool rr1), .val (.bool rr2), .ref 0] 24, .ro 0 2 (List.map en_api_Span rr3)]) := by
  rw [ev_law05_StrikeBlows_j3] at h
  refine TC.skip ?_
  refine TC.seq ?_
  refine TC.seq ?_
  refine TC.region ?_
  refine op0 (sp_move rfl rfl) rfl trivial rfl rfl ?_
  obtain ⟨r19, h31, h⟩ := bind_inv h
  refine op0 (sp_call (avs := [.val (.int .i64 slot4)]) (need := []) (v := .val (.bool r19)) (news := []) rfl rfl rfl Try.call21 (atJ [] [] (fc_ref05_Slot h31) rfl rfl) (.inl (roAll rfl))) rfl trivial rfl rfl ?_
  refine op0 (sp_not rfl rfl) rfl trivial rfl rfl ?_
  refine TL.nil ?_
  refine TC.cond (b := (!r19)) rfl (fun h32 => ?_) (fun h32 => ?_)
  · have h := cond_t h h32
    refine TC.seq ?_
    refine TC.region ?_
    refine op0 (sp_move rfl rfl) rfl trivial rfl rfl ?_
    refine op0 (sp_eql rfl rfl rfl) rfl trivial rfl rfl ?_
    refine op0 (sp_move rfl rfl) rfl trivial rfl rfl ?_
    rcases cond_cases h with ⟨h33, h⟩ | ⟨h33, h⟩
    · refine (boolLit 114 rfl h33).2 ?_
      refine op0 (sp_move rfl rfl) rfl ⟨_, rfl, rfl⟩ rfl rfl ?_
      refine op0 (sp_eql rfl rfl rfl) rfl ⟨_, rfl, rfl⟩ rfl rfl ?_
      refine op0 (sp_pickT rfl rfl rfl) rfl trivial rfl rfl ?_
      refine op0 (sp_move rfl rfl) rfl trivial rfl rfl ?_
      rcases cond_cases h with ⟨h34, h⟩ | ⟨h34, h⟩
      · refine (boolLit 118 rfl h34).2 ?_
        obtain ⟨r20, h35, h⟩ := bind_inv h
        refine op0 (sp_call (avs := []) (need := []) (v := .val (.bool r20)) (news := []) rfl rfl rfl Try.call12 (atJ [] [] (fc_law05_known h35) rfl rfl) (.inl (roAll rfl))) rfl ⟨_, rfl, rfl⟩ rfl rfl ?_
        refine op0 (sp_pickT rfl rfl rfl) rfl trivial rfl rfl ?_
        refine op0 (sp_assign rfl rfl) rfl trivial rfl rfl ?_
        refine TL.nil ?_
        cases h
        exact retJ [] (.tmp rfl .nil) rfl trivial rfl rfl
      · refine (boolLit 118 rfl h34).2 ?_
        refine opSkip rfl ⟨_, rfl, .inl rfl⟩ rfl ?_
        refine op0 (sp_pickF rfl rfl rfl) rfl trivial rfl rfl ?_
        refine op0 (sp_assign rfl rfl) rfl trivial rfl rfl ?_
        refine TL.nil ?_
        cases h
        exact retJ [] (.tmp rfl .nil) rfl trivial rfl rfl
    · refine (boolLit 114 rfl h33).2 ?_
      refine opSkip rfl ⟨_, rfl, .inl rfl⟩ rfl ?_
      refine opSkip rfl ⟨_, rfl, .inl rfl⟩ rfl ?_
      refine op0 (sp_pickF rfl rfl rfl) rfl trivial rfl rfl ?_
      refine op0 (sp_move rfl rfl) rfl trivial rfl rfl ?_
      refine opSkip rfl ⟨_, rfl, .inl rfl⟩ rfl ?_
      refine op0 (sp_pickF rfl rfl rfl) rfl trivial rfl rfl ?_
      refine op0 (sp_assign rfl rfl) rfl trivial rfl rfl ?_
      refine TL.nil ?_
      cases h
      exact retJ [] (.tmp rfl .nil) rfl trivial rfl rfl
  · have h := cond_f h h32
    refine TC.skip ?_
    refine TC.seq ?_
    rcases cond_cases h with ⟨h36, h⟩ | ⟨h36, h⟩
    · obtain ⟨r21, h37, h⟩ := bind_inv h
      obtain ⟨h38, h⟩ := chk_inv h
      obtain ⟨r22, h39, h⟩ := bind_inv h
      refine drawJ 11 [⟨.val (.int .i64 r8.2), [], [], []⟩, ⟨.val (.bool (r8.2 == 0)), [], [], []⟩, ⟨.val (.bool true), [], [], []⟩, ⟨.val (.int .i64 r8.1), [], [], []⟩, ⟨.agg [.val (.bool rr1), .val (.bool rr2), .ref 0], [], [.blk 1 [.val (.bool rr1), .val (.bool rr2), .ref 0] 24], []⟩, ⟨.val (.int .i64 slot4), [], [], []⟩, ⟨.val (.int .i64 slot4), [], [], []⟩, ⟨.agg [.val (.bool rr1), .val (.bool rr2), .ref 0], [], [.blk 1 [.val (.bool rr1), .val (.bool rr2), .ref 0] 24], []⟩, ⟨.val (.int .i64 r21), [], [.ro 0 2 (List.map en_api_Span rr3)], []⟩, ⟨.val (.int .i64 (Int.tmod slot4 r21)), [], [], []⟩, ⟨.val (.int .i64 r22), [], [.ro 0 2 (List.map en_api_Span rr3)], []⟩] rfl ?_ rfl ?_ rfl ?_ ?_
      · kernel_rfl
      · kernel_rfl
      · exact DAll.op' (sp_move rfl rfl) trivial rfl (From.ok (ps := []) trivial) (DAll.op' (sp_eql rfl rfl rfl) trivial rfl (From.ok (ps := []) trivial) (DAll.op' (sp_castB h36 (sp_move rfl rfl)) trivial rfl (From.ok (ps := []) trivial) (DAll.op' (sp_move rfl rfl) ⟨_, rfl, rfl⟩ rfl (From.ok (ps := []) trivial) (DAll.op' (sp_loadBA rfl isBlk rfl vt24 rfl rfl) ⟨_, rfl, rfl⟩ rfl (From.ok (ps := [(none, 0)]) ⟨⟨rfl, rfl⟩, trivial⟩) (DAll.op' (sp_move rfl rfl) ⟨_, rfl, rfl⟩ rfl (From.ok (ps := []) trivial) (DAll.op' (sp_move rfl rfl) ⟨_, rfl, rfl⟩ rfl (From.ok (ps := []) trivial) (DAll.op' (sp_loadBA rfl isBlk rfl vt24 rfl rfl) ⟨_, rfl, rfl⟩ rfl (From.ok (ps := [(none, 0)]) ⟨⟨rfl, rfl⟩, trivial⟩) (DAll.op' (sp_call (avs := [.agg [.val (.bool rr1), .val (.bool rr2), .ref 0]]) (need := [.ro 0 2 (List.map en_api_Span rr3)]) (v := .val (.int .i64 r21)) (news := []) rfl rfl rfl Try.call19 (atJ [] [] (fc_ref05_N h37) rfl rfl) (.inl (roAll rfl))) ⟨_, rfl, rfl⟩ rfl (From.ok (ps := [(none, 1)]) ⟨⟨rfl, rfl⟩, trivial⟩) (DAll.op' (sp_rem rfl rfl rfl h38) ⟨_, rfl, rfl⟩ rfl (From.ok (ps := []) trivial) (DAll.op' (sp_call (avs := [.agg [.val (.bool rr1), .val (.bool rr2), .ref 0], .val (.int .i64 slot4), .val (.int .i64 (Int.tmod slot4 r21))]) (need := [.ro 0 2 (List.map en_api_Span rr3)]) (v := .val (.int .i64 r22)) (news := []) rfl rfl rfl Try.call20 (atJ [] [] (fc_ref05_Blows h39) rfl rfl) (.inl (roAll rfl))) ⟨_, rfl, rfl⟩ rfl (From.ok (ps := [(none, 1)]) ⟨⟨rfl, rfl⟩, trivial⟩) (.nil)))))))))))
      refine op0 (sp_eql rfl rfl rfl) rfl ⟨_, rfl, rfl⟩ rfl rfl ?_
      refine op0 (sp_pickT rfl rfl rfl) rfl trivial rfl rfl ?_
      refine op0 (sp_move rfl rfl) rfl trivial rfl rfl ?_
      rcases cond_cases h with ⟨h40, h⟩ | ⟨h40, h⟩
      · refine (boolLit 134 rfl h40).2 ?_
        obtain ⟨r23, h41, h⟩ := bind_inv h
        refine op0 (sp_call (avs := []) (need := []) (v := .val (.bool r23)) (news := []) rfl rfl rfl Try.call12 (atJ [] [] (fc_law05_known h41) rfl rfl) (.inl (roAll rfl))) rfl ⟨_, rfl, rfl⟩ rfl rfl ?_
        refine op0 (sp_pickT rfl rfl rfl) rfl trivial rfl rfl ?_
        refine op0 (sp_assign rfl rfl) rfl trivial rfl rfl ?_
        refine TL.nil ?_
        cases h
        exact retJ [] (.tmp rfl .nil) rfl trivial rfl rfl
      · refine (boolLit 134 rfl h40).2 ?_
        refine opSkip rfl ⟨_, rfl, .inl rfl⟩ rfl ?_
        refine op0 (sp_pickF rfl rfl rfl) rfl trivial rfl rfl ?_
        refine op0 (sp_assign rfl rfl) rfl trivial rfl rfl ?_
        refine TL.nil ?_
        cases h
        exact retJ [] (.tmp rfl .nil) rfl trivial rfl rfl
    · refine drawJ 11 [⟨.val (.int .i64 r8.2), [], [], []⟩, ⟨.val (.bool (r8.2 == 0)), [], [], []⟩, ⟨.val (.bool false), [], [], []⟩, ⟨.val (undef), [], [], []⟩, ⟨.val (undef), [], [], []⟩, ⟨.val (undef), [], [], []⟩, ⟨.val (undef), [], [], []⟩, ⟨.val (undef), [], [], []⟩, ⟨.val (undef), [], [], []⟩, ⟨.val (undef), [], [], []⟩, ⟨.val (undef), [], [], []⟩] rfl ?_ rfl ?_ rfl ?_ ?_
      · kernel_rfl
      · kernel_rfl
      · exact DAll.op' (sp_move rfl rfl) trivial rfl (From.ok (ps := []) trivial) (DAll.op' (sp_eql rfl rfl rfl) trivial rfl (From.ok (ps := []) trivial) (DAll.op' (sp_castB h36 (sp_move rfl rfl)) trivial rfl (From.ok (ps := []) trivial) (.skip ⟨_, rfl, .inl rfl⟩ rfl rfl rfl (.skip ⟨_, rfl, .inl rfl⟩ rfl rfl rfl (.skip ⟨_, rfl, .inl rfl⟩ rfl rfl rfl (.skip ⟨_, rfl, .inl rfl⟩ rfl rfl rfl (.skip ⟨_, rfl, .inl rfl⟩ rfl rfl rfl (.skip ⟨_, rfl, .inl rfl⟩ rfl rfl rfl (.skip ⟨_, rfl, .inl rfl⟩ rfl rfl rfl (.skip ⟨_, rfl, .inl rfl⟩ rfl rfl rfl (.nil)))))))))))
      refine opSkip rfl ⟨_, rfl, .inl rfl⟩ rfl ?_
      refine op0 (sp_pickF rfl rfl rfl) rfl trivial rfl rfl ?_
      refine op0 (sp_move rfl rfl) rfl trivial rfl rfl ?_
      refine opSkip rfl ⟨_, rfl, .inl rfl⟩ rfl ?_
      refine op0 (sp_pickF rfl rfl rfl) rfl trivial rfl rfl ?_
      refine op0 (sp_assign rfl rfl) rfl trivial rfl rfl ?_
      refine TL.nil ?_
      cases h
      exact retJ [] (.tmp rfl .nil) rfl trivial rfl rfl
def ev_law05_StrikeBlows_l2 (n : Nat) (rr1 : Bool) (rr2 : Bool) (rr3 : List (Int × Int)) (r9 : Int × Int) (slot4 : Int) (r8 : Int × Int) : Nat → Int → Int → Option Bool
  | 0, _, _ => none
  | m + 1, i14, i15 => (ev_ref05_N n rr1 rr2 rr3).bind fun r16 => chk (in64 ((2 : Int) * r16)) <| cond (decide (i15 < ((2 : Int) * r16))) ((ev_ref05_N n rr1 rr2 rr3).bind fun r17 => chk (r17 != 0) <| (ev_ref05_Blows n rr1 rr2 rr3 i15 (Int.tmod i15 r17)).bind fun r18 => chk (in64 (i14 + r18)) <| chk (in64 (i15 + 1)) <| ev_law05_StrikeBlows_l2 n rr1 rr2 rr3 r9 slot4 r8 m (i14 + r18) (i15 + 1)) (cond (r9.2 != 0) (some false) (cond (r9.1 != i14) (some false) (ev_law05_StrikeBlows_j3 n slot4 r8 rr1 rr2 rr3)))
set_option maxRecDepth 100000 in
set_option maxHeartbeats 2000000 in
theorem ok_law05_StrikeBlows_l2 {n : Nat} {w0 : World} {R0 : Nat → Prop} {env0 : Env} {r : Bool} {slot4 : Int} {r8 : Int × Int} {r9 : Int × Int} {rr1 : Bool} {rr2 : Bool} {rr3 : List (Int × Int)} : ∀ (m : Nat) (i14 : Int) (i15 : Int), ev_law05_StrikeBlows_l2 n rr1 rr2 rr3 r9 slot4 r8 m i14 i15 = some r → TC Try.prog ⟨w0, fun _ => False, R0⟩ 137 (bodyPost Try.prog Try.f3 (Post ⟨w0, fun _ => False, R0⟩ env0 (.val (.bool r)) [])) [.code (sub (bodyOf Try.f3) [1, 1, 1, 1, 1, 1, 1, 1, 0, 1, 0, 0, 0, 0]), .code (sub (bodyOf Try.f3) [1, 1, 1, 1, 1, 1, 1, 1, 0, 1, 0, 0, 0, 1]), .code (sub (bodyOf Try.f3) [1, 1, 1, 1, 1, 1, 1, 1, 0, 1, 0, 0, 1]), .inLoop (sub (bodyOf Try.f3) [1, 1, 1, 1, 1, 1, 1, 1, 0, 1, 0, 0]), .inBlock 0, .code (sub (bodyOf Try.f3) [1, 1, 1, 1, 1, 1, 1, 1, 1])] ([(1, .val (.int .i64 slot4)), (2, .ptr 1 0), (7, .val (.int .i64 r8.1)), (8, .val (.int .i64 r8.2)), (9, .val (.int .i64 r9.1)), (10, .val (.int .i64 r9.2)), (12, .val (.int .i64 i14)), (13, .val (.int .i64 i15))]) ([.blk 1 [.val (.bool rr1), .val (.bool rr2), .ref 0] 24, .ro 0 2 (List.map en_api_Span rr3)]) := by
  intro m
  induction m with
  | zero => intro i14 i15 h; exact none_no h
  | succ m ih =>
    intro i14 i15 h
    rw [ev_law05_StrikeBlows_l2] at h
    refine TC.region ?_
    refine op0 (sp_move rfl rfl) rfl trivial rfl rfl ?_
    refine op1 0 rfl (sp_loadBA rfl isBlk rfl vt24 rfl rfl) rfl trivial rfl rfl ?_
    obtain ⟨r16, h21, h⟩ := bind_inv h
    refine op1 1 rfl (sp_call (avs := [.agg [.val (.bool rr1), .val (.bool rr2), .ref 0]]) (need := [.ro 0 2 (List.map en_api_Span rr3)]) (v := .val (.int .i64 r16)) (news := []) rfl rfl rfl Try.call19 (atJ [] [] (fc_ref05_N h21) rfl rfl) (.inl (roAll rfl))) rfl trivial rfl rfl ?_
    obtain ⟨h22, h⟩ := chk_inv h
    refine op0 (sp_mul rfl rfl rfl h22) rfl trivial rfl rfl ?_
    refine op0 (sp_lss rfl rfl rfl) rfl trivial rfl rfl ?_
    refine TL.nil ?_
    refine TC.cond (b := (decide (i15 < ((2 : Int) * r16)))) rfl (fun h23 => ?_) (fun h23 => ?_)
    · have h := cond_t h h23
      refine TC.skip ?_
      refine TC.seq ?_
      refine TC.block ?_
      obtain ⟨r17, h24, h⟩ := bind_inv h
      obtain ⟨h25, h⟩ := chk_inv h
      obtain ⟨r18, h26, h⟩ := bind_inv h
      refine drawJ 8 [⟨.val (.int .i64 i14), [], [], []⟩, ⟨.agg [.val (.bool rr1), .val (.bool rr2), .ref 0], [], [.blk 1 [.val (.bool rr1), .val (.bool rr2), .ref 0] 24], []⟩, ⟨.val (.int .i64 i15), [], [], []⟩, ⟨.val (.int .i64 i15), [], [], []⟩, ⟨.agg [.val (.bool rr1), .val (.bool rr2), .ref 0], [], [.blk 1 [.val (.bool rr1), .val (.bool rr2), .ref 0] 24], []⟩, ⟨.val (.int .i64 r17), [], [.ro 0 2 (List.map en_api_Span rr3)], []⟩, ⟨.val (.int .i64 (Int.tmod i15 r17)), [], [], []⟩, ⟨.val (.int .i64 r18), [], [.ro 0 2 (List.map en_api_Span rr3)], []⟩] rfl ?_ rfl ?_ rfl ?_ ?_
      · kernel_rfl
      · kernel_rfl
      · exact DAll.op' (sp_move rfl rfl) trivial rfl (From.ok (ps := []) trivial) (DAll.op' (sp_loadBA rfl isBlk rfl vt24 rfl rfl) trivial rfl (From.ok (ps := [(none, 0)]) ⟨⟨rfl, rfl⟩, trivial⟩) (DAll.op' (sp_move rfl rfl) trivial rfl (From.ok (ps := []) trivial) (DAll.op' (sp_move rfl rfl) trivial rfl (From.ok (ps := []) trivial) (DAll.op' (sp_loadBA rfl isBlk rfl vt24 rfl rfl) trivial rfl (From.ok (ps := [(none, 0)]) ⟨⟨rfl, rfl⟩, trivial⟩) (DAll.op' (sp_call (avs := [.agg [.val (.bool rr1), .val (.bool rr2), .ref 0]]) (need := [.ro 0 2 (List.map en_api_Span rr3)]) (v := .val (.int .i64 r17)) (news := []) rfl rfl rfl Try.call19 (atJ [] [] (fc_ref05_N h24) rfl rfl) (.inl (roAll rfl))) trivial rfl (From.ok (ps := [(none, 1)]) ⟨⟨rfl, rfl⟩, trivial⟩) (DAll.op' (sp_rem rfl rfl rfl h25) trivial rfl (From.ok (ps := []) trivial) (DAll.op' (sp_call (avs := [.agg [.val (.bool rr1), .val (.bool rr2), .ref 0], .val (.int .i64 i15), .val (.int .i64 (Int.tmod i15 r17))]) (need := [.ro 0 2 (List.map en_api_Span rr3)]) (v := .val (.int .i64 r18)) (news := []) rfl rfl rfl Try.call20 (atJ [] [] (fc_ref05_Blows h26) rfl rfl) (.inl (roAll rfl))) trivial rfl (From.ok (ps := [(none, 1)]) ⟨⟨rfl, rfl⟩, trivial⟩) (.nil))))))))
      obtain ⟨h27, h⟩ := chk_inv h
      refine op0 (sp_add rfl rfl rfl h27) rfl trivial rfl rfl ?_
      refine op0 (sp_assign rfl rfl) rfl trivial rfl rfl ?_
      refine TL.nil ?_
      refine TC.inBlock ?_
      refine TC.region ?_
      refine op0 (sp_move rfl rfl) rfl trivial rfl rfl ?_
      obtain ⟨h28, h⟩ := chk_inv h
      refine op0 (sp_add rfl rfl rfl h28) rfl trivial rfl rfl ?_
      refine op0 (sp_assign rfl rfl) rfl trivial rfl rfl ?_
      refine TL.nil ?_
      refine TC.inLoop ?_
      refine TC.seq ?_
      refine TC.seq ?_
      refine subJ [] (ih _ _ h) ?_ ?_ ?_
      · exact ⟨rfl, rfl, rfl, rfl, rfl, rfl, rfl, rfl, trivial⟩
      · exact ⟨mem_at 0 rfl, mem_at 1 rfl, trivial⟩
      · rfl
    · have h := cond_f h h23
      refine TC.exit rfl ?_
      refine TC.seq ?_
      refine TC.seq ?_
      refine TC.region ?_
      refine op0 (sp_move rfl rfl) rfl trivial rfl rfl ?_
      refine op0 (sp_neq rfl rfl rfl) rfl trivial rfl rfl ?_
      refine op0 (sp_move rfl rfl) rfl trivial rfl rfl ?_
      rcases cond_cases h with ⟨h29, h⟩ | ⟨h29, h⟩
      · refine (boolLit 104 rfl h29).2 ?_
        refine opSkip rfl ⟨_, rfl, .inl rfl⟩ rfl ?_
        refine opSkip rfl ⟨_, rfl, .inl rfl⟩ rfl ?_
        refine opSkip rfl ⟨_, rfl, .inl rfl⟩ rfl ?_
        refine op0 (sp_pickT rfl rfl rfl) rfl trivial rfl rfl ?_
        refine TL.nil ?_
        refine TC.condT rfl ?_
        refine TC.seq ?_
        refine TC.region ?_
        refine op0 (sp_assign rfl rfl) rfl trivial rfl rfl ?_
        refine TL.nil ?_
        cases h
        exact retJ [] (.tmp rfl .nil) rfl trivial rfl rfl
      · refine (boolLit 104 rfl h29).2 ?_
        refine op0 (sp_move rfl rfl) rfl ⟨_, rfl, rfl⟩ rfl rfl ?_
        refine op0 (sp_move rfl rfl) rfl ⟨_, rfl, rfl⟩ rfl rfl ?_
        refine op0 (sp_neq rfl rfl rfl) rfl ⟨_, rfl, rfl⟩ rfl rfl ?_
        refine op0 (sp_pickF rfl rfl rfl) rfl trivial rfl rfl ?_
        refine TL.nil ?_
        refine TC.cond (b := (r9.1 != i14)) rfl (fun h30 => ?_) (fun h30 => ?_)
        · have h := cond_t h h30
          refine TC.seq ?_
          refine TC.region ?_
          refine op0 (sp_assign rfl rfl) rfl trivial rfl rfl ?_
          refine TL.nil ?_
          cases h
          exact retJ [] (.tmp rfl .nil) rfl trivial rfl rfl
        · have h := cond_f h h30
          refine subJ [] (ok_law05_StrikeBlows_j3 h) ?_ ?_ ?_
          · exact ⟨rfl, rfl, rfl, rfl, trivial⟩
          · exact ⟨mem_at 0 rfl, mem_at 1 rfl, trivial⟩
          · rfl
def ev_law05_StrikeBlows_j1 (n : Nat) (rr1 : Bool) (rr2 : Bool) (rr3 : List (Int × Int)) (r9 : Int × Int) (slot4 : Int) (r8 : Int × Int) : Option Bool :=
  ev_law05_StrikeBlows_l2 n rr1 rr2 rr3 r9 slot4 r8 n 0 0
set_option maxRecDepth 100000 in
set_option maxHeartbeats 2000000 in
theorem ok_law05_StrikeBlows_j1 {n : Nat} {w0 : World} {R0 : Nat → Prop} {env0 : Env} {r : Bool} {slot4 : Int} {r8 : Int × Int} {r9 : Int × Int} {rr1 : Bool} {rr2 : Bool} {rr3 : List (Int × Int)} (h : ev_law05_StrikeBlows_j1 n rr1 rr2 rr3 r9 slot4 r8 = some r) : TC Try.prog ⟨w0, fun _ => False, R0⟩ 137 (bodyPost Try.prog Try.f3 (Post ⟨w0, fun _ => False, R0⟩ env0 (.val (.bool r)) [])) [.code (sub (bodyOf Try.f3) [1, 1, 1, 1, 1, 1, 0, 1, 1, 1]), .code (sub (bodyOf Try.f3) [1, 1, 1, 1, 1, 1, 1])] ([(1, .val (.int .i64 slot4)), (2, .ptr 1 0), (7, .val (.int .i64 r8.1)), (8, .val (.int .i64 r8.2)), (9, .val (.int .i64 r9.1)), (10, .val (.int .i64 r9.2))]) ([.blk 1 [.val (.bool rr1), .val (.bool rr2), .ref 0] 24, .ro 0 2 (List.map en_api_Span rr3)]) := by
  rw [ev_law05_StrikeBlows_j1] at h
  refine TC.skip ?_
  refine TC.seq ?_
  refine TC.region ?_
  refine op0 (sp_assign rfl rfl) rfl trivial rfl rfl ?_
  refine TL.nil ?_
  refine TC.seq ?_
  refine TC.seq ?_
  refine TC.region ?_
  refine op0 (sp_assign rfl rfl) rfl trivial rfl rfl ?_
  refine TL.nil ?_
  refine TC.block ?_
  refine TC.loop ?_
  refine TC.seq ?_
  refine TC.seq ?_
  refine subJ [] (ok_law05_StrikeBlows_l2 _ _ _ h) ?_ ?_ ?_
  · exact ⟨rfl, rfl, rfl, rfl, rfl, rfl, rfl, rfl, trivial⟩
  · exact ⟨mem_at 0 rfl, mem_at 1 rfl, trivial⟩
  · rfl
def ev_law05_StrikeBlows (n : Nat) (rr1 : Bool) (rr2 : Bool) (rr3 : List (Int × Int)) (slot4 : Int) : Option Bool :=
  cond (decide ((20 : Int) < (rr3.length : Int))) ((ev_law05_known n).bind fun r5 => some r5) ((ev_law05_copied n rr1 rr2 rr3).bind fun r6 => (ev_strike_Check n r6.1 r6.2.1 r6.2.2).bind fun r7 => (ev_strike_Blows n r6.1 r6.2.1 r6.2.2 slot4).bind fun r8 => (ev_strike_Day n r6.1 r6.2.1 r6.2.2).bind fun r9 => (ev_ref05_Check n rr1 rr2 rr3).bind fun r10 => (ev_law05_quiet n r6.2.2 rr3).bind fun r11 => cond (!r11) (ev_law05_StrikeBlows_j0 n r10 r7 r6 rr3 r8 r9) (cond (r7 != r10) (ev_law05_StrikeBlows_j0 n r10 r7 r6 rr3 r8 r9) (cond (r10 != 0) (ev_law05_StrikeBlows_j0 n r10 r7 r6 rr3 r8 r9) (ev_law05_StrikeBlows_j1 n rr1 rr2 rr3 r9 slot4 r8))))
set_option maxRecDepth 100000 in
set_option maxHeartbeats 2000000 in
theorem fc_law05_StrikeBlows {n : Nat} {rr1 : Bool} {rr2 : Bool} {rr3 : List (Int × Int)} {slot4 : Int} {r : Bool} (h : ev_law05_StrikeBlows n rr1 rr2 rr3 slot4 = some r) : FC Try.prog 3 [.agg [.val (.bool rr1), .val (.bool rr2), .ref 0], .val (.int .i64 slot4)] [.ro 0 2 (List.map en_api_Span rr3)] (.val (.bool r)) [] := by
  refine introJ (nz := 137) Try.func3 rfl rfl rfl (fun w0 R0 env0 => ?_)
  rw [ev_law05_StrikeBlows] at h
  refine TC.seq ?_
  refine TC.region ?_
  refine op0 (sp_box 1 rfl rfl rfl rfl rfl) rfl trivial rfl rfl ?_
  refine op0 (sp_assign rfl rfl) rfl trivial rfl rfl ?_
  refine TL.nil ?_
  refine TC.seq ?_
  refine TC.seq ?_
  refine TC.region ?_
  refine op1 0 rfl (sp_fieldAddrB rfl isBlk rfl ft24_2 vt22 (by decide)) rfl trivial rfl rfl ?_
  refine op1 0 rfl (sp_loadB rfl isBlk rfl vt22 rfl) rfl trivial rfl rfl ?_
  refine op1 1 rfl (sp_lenM (N := rr3.length) (len_map _ _) rfl rfl isRo Try.underlying22) rfl trivial rfl rfl ?_
  refine op0 (sp_gtr rfl rfl rfl) rfl trivial rfl rfl ?_
  refine TL.nil ?_
  refine TC.cond (b := (decide ((20 : Int) < (rr3.length : Int)))) rfl (fun h1 => ?_) (fun h1 => ?_)
  · have h := cond_t h h1
    refine TC.seq ?_
    refine TC.region ?_
    obtain ⟨r5, h2, h⟩ := bind_inv h
    refine op0 (sp_call (avs := []) (need := []) (v := .val (.bool r5)) (news := []) rfl rfl rfl Try.call12 (atJ [] [] (fc_law05_known h2) rfl rfl) (.inl (roAll rfl))) rfl trivial rfl rfl ?_
    refine op0 (sp_assign rfl rfl) rfl trivial rfl rfl ?_
    refine TL.nil ?_
    cases h
    exact retJ [] (.tmp rfl .nil) rfl trivial rfl rfl
  · have h := cond_f h h1
    refine TC.skip ?_
    refine TC.seq ?_
    refine TC.region ?_
    refine op1 0 rfl (sp_loadBA rfl isBlk rfl vt24 rfl rfl) rfl trivial rfl rfl ?_
    obtain ⟨r6, h3, h⟩ := bind_inv h
    refine op1 1 rfl (sp_call (avs := [.agg [.val (.bool rr1), .val (.bool rr2), .ref 0]]) (need := [.ro 0 2 (List.map en_api_Span rr3)]) (v := .agg [.val (.bool r6.1), .val (.bool r6.2.1), .ref 2]) (news := [.row 2 81 2 (List.map en_api_Span r6.2.2)]) rfl rfl rfl Try.call13 (atJ [] [(0, 2)] (fc_law05_copied h3) rfl rfl) (.inl (roAll rfl))) rfl trivial rfl rfl ?_
    refine op0 (sp_alloc 3 rfl Try.zeroValue24 rfl) rfl trivial rfl rfl ?_
    refine stoB 0 (cells' := [.val (.bool r6.1), .val (.bool r6.2.1), .ref 2]) rfl rfl trivial rfl rfl rfl rfl vt24 rfl rfl rfl ?_
    refine TL.nil ?_
    refine TC.seq ?_
    refine TC.region ?_
    refine op1 0 rfl (sp_loadBA rfl isBlk rfl vt24 rfl rfl) rfl trivial rfl rfl ?_
    obtain ⟨r7, h4, h⟩ := bind_inv h
    refine op1 1 rfl (sp_call (avs := [.agg [.val (.bool r6.1), .val (.bool r6.2.1), .ref 2]]) (need := [.row 2 81 2 (List.map en_api_Span r6.2.2)]) (v := .val (.int .i64 r7)) (news := []) rfl rfl rfl Try.call14 (atJ [(0, 2)] [] (fc_strike_Check h4) rfl rfl) (.inr (fun x hx => nomatch hx))) rfl trivial rfl rfl ?_
    refine op0 (sp_assign rfl rfl) rfl trivial rfl rfl ?_
    refine TL.nil ?_
    refine TC.seq ?_
    refine TC.region ?_
    refine op1 0 rfl (sp_loadBA rfl isBlk rfl vt24 rfl rfl) rfl trivial rfl rfl ?_
    refine op0 (sp_move rfl rfl) rfl trivial rfl rfl ?_
    obtain ⟨r8, h5, h⟩ := bind_inv h
    refine op1 1 rfl (sp_call (avs := [.agg [.val (.bool r6.1), .val (.bool r6.2.1), .ref 2], .val (.int .i64 slot4)]) (need := [.row 2 81 2 (List.map en_api_Span r6.2.2)]) (v := .tup [.val (.int .i64 r8.1), .val (.int .i64 r8.2)]) (news := []) rfl rfl rfl Try.call15 (atJ [(0, 2)] [] (fc_strike_Blows h5) rfl rfl) (.inr (fun x hx => nomatch hx))) rfl trivial rfl rfl ?_
    refine op0 (sp_move rfl rfl) rfl trivial rfl rfl ?_
    refine op0 (sp_extract rfl rfl rfl) rfl trivial rfl rfl ?_
    refine op0 (sp_extract rfl rfl rfl) rfl trivial rfl rfl ?_
    refine op0 (sp_assign rfl rfl) rfl trivial rfl rfl ?_
    refine op0 (sp_assign rfl rfl) rfl trivial rfl rfl ?_
    refine TL.nil ?_
    refine TC.seq ?_
    refine TC.region ?_
    refine op1 0 rfl (sp_loadBA rfl isBlk rfl vt24 rfl rfl) rfl trivial rfl rfl ?_
    obtain ⟨r9, h6, h⟩ := bind_inv h
    refine op1 1 rfl (sp_call (avs := [.agg [.val (.bool r6.1), .val (.bool r6.2.1), .ref 2]]) (need := [.row 2 81 2 (List.map en_api_Span r6.2.2)]) (v := .tup [.val (.int .i64 r9.1), .val (.int .i64 r9.2)]) (news := []) rfl rfl rfl Try.call16 (atJ [(0, 2)] [] (fc_strike_Day h6) rfl rfl) (.inr (fun x hx => nomatch hx))) rfl trivial rfl rfl ?_
    refine op0 (sp_move rfl rfl) rfl trivial rfl rfl ?_
    refine op0 (sp_extract rfl rfl rfl) rfl trivial rfl rfl ?_
    refine op0 (sp_extract rfl rfl rfl) rfl trivial rfl rfl ?_
    refine op0 (sp_assign rfl rfl) rfl trivial rfl rfl ?_
    refine op0 (sp_assign rfl rfl) rfl trivial rfl rfl ?_
    refine TL.nil ?_
    refine TC.seq ?_
    refine TC.seq ?_
    refine TC.region ?_
    refine op1 2 rfl (sp_loadBA rfl isBlk rfl vt24 rfl rfl) rfl trivial rfl rfl ?_
    obtain ⟨r10, h7, h⟩ := bind_inv h
    refine op1 3 rfl (sp_call (avs := [.agg [.val (.bool rr1), .val (.bool rr2), .ref 0]]) (need := [.ro 0 2 (List.map en_api_Span rr3)]) (v := .val (.int .i64 r10)) (news := []) rfl rfl rfl Try.call17 (atJ [] [] (fc_ref05_Check h7) rfl rfl) (.inl (roAll rfl))) rfl trivial rfl rfl ?_
    refine op0 (sp_assign rfl rfl) rfl trivial rfl rfl ?_
    refine TL.nil ?_
    refine TC.seq ?_
    refine TC.region ?_
    refine op1 0 rfl (sp_fieldAddrB rfl isBlk rfl ft24_2 vt22 (by decide)) rfl trivial rfl rfl ?_
    refine op1 0 rfl (sp_loadB rfl isBlk rfl vt22 rfl) rfl trivial rfl rfl ?_
    refine op1 2 rfl (sp_fieldAddrB rfl isBlk rfl ft24_2 vt22 (by decide)) rfl trivial rfl rfl ?_
    refine op1 2 rfl (sp_loadB rfl isBlk rfl vt22 rfl) rfl trivial rfl rfl ?_
    obtain ⟨r11, h8, h⟩ := bind_inv h
    refine opN (need := [.row 2 81 2 (List.map en_api_Span r6.2.2), .ro 0 2 (List.map en_api_Span rr3)]) [1, 3] ⟨rfl, rfl, trivial⟩ (sp_call (avs := [.ref 2, .ref 0]) (need := [.row 2 81 2 (List.map en_api_Span r6.2.2), .ro 0 2 (List.map en_api_Span rr3)]) (v := .val (.bool r11)) (news := []) rfl rfl rfl Try.call18 (atJ [(0, 2), (1, 0)] [] (fc_law05_quiet h8) rfl rfl) (.inr (fun x hx => nomatch hx))) rfl trivial rfl rfl ?_
    refine op0 (sp_not rfl rfl) rfl trivial rfl rfl ?_
    refine op0 (sp_move rfl rfl) rfl trivial rfl rfl ?_
    rcases cond_cases h with ⟨h9, h⟩ | ⟨h9, h⟩
    · refine (boolLit 42 rfl h9).2 ?_
      refine opSkip rfl ⟨_, rfl, .inl rfl⟩ rfl ?_
      refine opSkip rfl ⟨_, rfl, .inl rfl⟩ rfl ?_
      refine opSkip rfl ⟨_, rfl, .inl rfl⟩ rfl ?_
      refine op0 (sp_pickT rfl rfl rfl) rfl trivial rfl rfl ?_
      refine op0 (sp_move rfl rfl) rfl trivial rfl rfl ?_
      refine opSkip rfl ⟨_, rfl, .inl rfl⟩ rfl ?_
      refine opSkip rfl ⟨_, rfl, .inl rfl⟩ rfl ?_
      refine op0 (sp_pickT rfl rfl rfl) rfl trivial rfl rfl ?_
      refine TL.nil ?_
      refine TC.condT rfl ?_
      refine TC.seq ?_
      refine subJ [] (ok_law05_StrikeBlows_j0 (rr1 := rr1) (rr2 := rr2) h) ?_ ?_ ?_
      · exact ⟨rfl, rfl, rfl, rfl, rfl, rfl, rfl, rfl, trivial⟩
      · exact ⟨mem_at 2 rfl, mem_at 0 rfl, mem_at 3 rfl, mem_at 1 rfl, trivial⟩
      · rfl
    · refine (boolLit 42 rfl h9).2 ?_
      refine op0 (sp_move rfl rfl) rfl ⟨_, rfl, rfl⟩ rfl rfl ?_
      refine op0 (sp_move rfl rfl) rfl ⟨_, rfl, rfl⟩ rfl rfl ?_
      refine op0 (sp_neq rfl rfl rfl) rfl ⟨_, rfl, rfl⟩ rfl rfl ?_
      refine op0 (sp_pickF rfl rfl rfl) rfl trivial rfl rfl ?_
      refine op0 (sp_move rfl rfl) rfl trivial rfl rfl ?_
      rcases cond_cases h with ⟨h19, h⟩ | ⟨h19, h⟩
      · refine (boolLit 47 rfl h19).2 ?_
        refine opSkip rfl ⟨_, rfl, .inl rfl⟩ rfl ?_
        refine opSkip rfl ⟨_, rfl, .inl rfl⟩ rfl ?_
        refine op0 (sp_pickT rfl rfl rfl) rfl trivial rfl rfl ?_
        refine TL.nil ?_
        refine TC.condT rfl ?_
        refine TC.seq ?_
        refine subJ [] (ok_law05_StrikeBlows_j0 (rr1 := rr1) (rr2 := rr2) h) ?_ ?_ ?_
        · exact ⟨rfl, rfl, rfl, rfl, rfl, rfl, rfl, rfl, trivial⟩
        · exact ⟨mem_at 2 rfl, mem_at 0 rfl, mem_at 3 rfl, mem_at 1 rfl, trivial⟩
        · rfl
      · refine (boolLit 47 rfl h19).2 ?_
        refine op0 (sp_move rfl rfl) rfl ⟨_, rfl, rfl⟩ rfl rfl ?_
        refine op0 (sp_neq rfl rfl rfl) rfl ⟨_, rfl, rfl⟩ rfl rfl ?_
        refine op0 (sp_pickF rfl rfl rfl) rfl trivial rfl rfl ?_
        refine TL.nil ?_
        refine TC.cond (b := (r10 != 0)) rfl (fun h20 => ?_) (fun h20 => ?_)
        · have h := cond_t h h20
          refine TC.seq ?_
          refine subJ [] (ok_law05_StrikeBlows_j0 (rr1 := rr1) (rr2 := rr2) h) ?_ ?_ ?_
          · exact ⟨rfl, rfl, rfl, rfl, rfl, rfl, rfl, rfl, trivial⟩
          · exact ⟨mem_at 2 rfl, mem_at 0 rfl, mem_at 3 rfl, mem_at 1 rfl, trivial⟩
          · rfl
        · have h := cond_f h h20
          refine subJ [] (ok_law05_StrikeBlows_j1 h) ?_ ?_ ?_
          · exact ⟨rfl, rfl, rfl, rfl, rfl, rfl, trivial⟩
          · exact ⟨mem_at 2 rfl, mem_at 3 rfl, trivial⟩
          · rfl
end
end Go.Proofs.Ytglgkcfgjaoabaa.Sy
