/- What functions of the program compute, and that they do: printed by symgen.py. -/
import Derived.Test.YtglgkcfgjaoabaaGLib
import Derived.Test.YtglgkcfgjaoabaaGturretlaw05
import Derived.Test.YtglgkcfgjaoabaaGStrike
import Derived.Test.YtglgkcfgjaoabaaGTurretref05
set_option linter.unusedSimpArgs false
set_option linter.unusedVariables false
namespace Go.Proofs.Ytglgkcfgjaoabaa.Sy
open Go.RowKit
noncomputable section

/- law05_StrikeHears -/
def ev_law05_StrikeHears_j2 (n : Nat) (r9 : Int × (List Int) × Int) (rr1 : Bool) (rr2 : Bool) (rr3 : List (Int × Int)) (l4 : List (Int × Int)) (i15 : Int) : Option Bool :=
  cond (i15 != 0) (cond (r9.2.2 == i15) (cond (r9.1 == 0) (cond ((r9.2.1.length : Int) == 0) ((ev_law05_known n).bind fun r16 => some r16) (some false)) (some false)) (some false)) ((ev_ref05_Misses n rr1 rr2 rr3 l4).bind fun r17 => cond (!r17.2.2) (cond (r9.2.2 == 9) (cond (r9.1 == 0) (cond ((r9.2.1.length : Int) == 0) ((ev_law05_known n).bind fun r18 => some r18) (some false)) (some false)) (some false)) (cond (r9.2.2 == 0) (cond (r9.1 == r17.1) ((ev_ref05_Same n r9.2.1 r17.2.1).bind fun r19 => cond r19 ((ev_law05_known n).bind fun r20 => some r20) (some false)) (some false)) (some false)))
set_option maxRecDepth 100000 in
set_option maxHeartbeats 2000000 in
theorem ok_law05_StrikeHears_j2 {n : Nat} {w0 : World} {R0 : Nat → Prop} {env0 : Env} {r : Bool} {r9 : Int × (List Int) × Int} {l4 : List (Int × Int)} {rr1 : Bool} {rr2 : Bool} {rr3 : List (Int × Int)} {i15 : Int} (h : ev_law05_StrikeHears_j2 n r9 rr1 rr2 rr3 l4 i15 = some r) : TC Try.prog ⟨w0, fun _ => False, R0⟩ 110 (bodyPost Try.prog Try.f4 (Post ⟨w0, fun _ => False, R0⟩ env0 (.val (.bool r)) [])) [.code (sub (bodyOf Try.f4) [1, 1, 1, 1, 1, 1, 1, 0, 0]), .code (sub (bodyOf Try.f4) [1, 1, 1, 1, 1, 1, 1, 0, 1]), .code (sub (bodyOf Try.f4) [1, 1, 1, 1, 1, 1, 1, 1])] ([(1, .ref 1), (2, .ptr 2 0), (6, .val (.int .i64 r9.1)), (7, .ref 5), (8, .val (.int .i64 r9.2.2)), (10, .val (.int .i64 i15))]) ([.ro 1 2 (List.map en_api_StrikeHeard l4), .blk 2 [.val (.bool rr1), .val (.bool rr2), .ref 0] 24, .row 5 3 1 (List.map en_int r9.2.1), .ro 0 2 (List.map en_api_Span rr3)]) := by
  rw [ev_law05_StrikeHears_j2] at h
  refine TC.region ?_
  refine op0 (sp_move rfl rfl) rfl trivial rfl rfl ?_
  refine op0 (sp_neq rfl rfl rfl) rfl trivial rfl rfl ?_
  refine TL.nil ?_
  refine TC.cond (b := (i15 != 0)) rfl (fun h18 => ?_) (fun h18 => ?_)
  · have h := cond_t h h18
    refine TC.seq ?_
    refine TC.region ?_
    refine op0 (sp_move rfl rfl) rfl trivial rfl rfl ?_
    refine op0 (sp_move rfl rfl) rfl trivial rfl rfl ?_
    refine op0 (sp_eql rfl rfl rfl) rfl trivial rfl rfl ?_
    refine op0 (sp_move rfl rfl) rfl trivial rfl rfl ?_
    rcases cond_cases h with ⟨h19, h⟩ | ⟨h19, h⟩
    · refine (boolLit 60 rfl h19).2 ?_
      refine op0 (sp_move rfl rfl) rfl ⟨_, rfl, rfl⟩ rfl rfl ?_
      refine op0 (sp_eql rfl rfl rfl) rfl ⟨_, rfl, rfl⟩ rfl rfl ?_
      refine op0 (sp_pickT rfl rfl rfl) rfl trivial rfl rfl ?_
      refine op0 (sp_move rfl rfl) rfl trivial rfl rfl ?_
      rcases cond_cases h with ⟨h20, h⟩ | ⟨h20, h⟩
      · refine (boolLit 64 rfl h20).2 ?_
        refine op0 (sp_move rfl rfl) rfl ⟨_, rfl, rfl⟩ rfl rfl ?_
        refine op1 2 rfl (sp_lenM (N := r9.2.1.length) (len_map _ _) rfl rfl isOwn Try.underlying39) rfl ⟨_, rfl, rfl⟩ rfl rfl ?_
        refine op0 (sp_eql rfl rfl rfl) rfl ⟨_, rfl, rfl⟩ rfl rfl ?_
        refine op0 (sp_pickT rfl rfl rfl) rfl trivial rfl rfl ?_
        refine op0 (sp_move rfl rfl) rfl trivial rfl rfl ?_
        rcases cond_cases h with ⟨h21, h⟩ | ⟨h21, h⟩
        · refine (boolLit 69 rfl h21).2 ?_
          obtain ⟨r16, h22, h⟩ := bind_inv h
          refine op0 (sp_call (avs := []) (need := []) (v := .val (.bool r16)) (news := []) rfl rfl rfl Try.call12 (atJ [] [] (fc_law05_known h22) rfl rfl) (.inl (roAll rfl))) rfl ⟨_, rfl, rfl⟩ rfl rfl ?_
          refine op0 (sp_pickT rfl rfl rfl) rfl trivial rfl rfl ?_
          refine op0 (sp_assign rfl rfl) rfl trivial rfl rfl ?_
          refine TL.nil ?_
          cases h
          exact retJ [] (.tmp rfl .nil) rfl trivial rfl rfl
        · refine (boolLit 69 rfl h21).2 ?_
          refine opSkip rfl ⟨_, rfl, .inl rfl⟩ rfl ?_
          refine op0 (sp_pickF rfl rfl rfl) rfl trivial rfl rfl ?_
          refine op0 (sp_assign rfl rfl) rfl trivial rfl rfl ?_
          refine TL.nil ?_
          cases h
          exact retJ [] (.tmp rfl .nil) rfl trivial rfl rfl
      · refine (boolLit 64 rfl h20).2 ?_
        refine opSkip rfl ⟨_, rfl, .inl rfl⟩ rfl ?_
        refine opSkip rfl ⟨_, rfl, .inl rfl⟩ rfl ?_
        refine opSkip rfl ⟨_, rfl, .inl rfl⟩ rfl ?_
        refine op0 (sp_pickF rfl rfl rfl) rfl trivial rfl rfl ?_
        refine op0 (sp_move rfl rfl) rfl trivial rfl rfl ?_
        refine opSkip rfl ⟨_, rfl, .inl rfl⟩ rfl ?_
        refine op0 (sp_pickF rfl rfl rfl) rfl trivial rfl rfl ?_
        refine op0 (sp_assign rfl rfl) rfl trivial rfl rfl ?_
        refine TL.nil ?_
        cases h
        exact retJ [] (.tmp rfl .nil) rfl trivial rfl rfl
    · refine (boolLit 60 rfl h19).2 ?_
      refine opSkip rfl ⟨_, rfl, .inl rfl⟩ rfl ?_
      refine opSkip rfl ⟨_, rfl, .inl rfl⟩ rfl ?_
      refine op0 (sp_pickF rfl rfl rfl) rfl trivial rfl rfl ?_
      refine op0 (sp_move rfl rfl) rfl trivial rfl rfl ?_
      refine opSkip rfl ⟨_, rfl, .inl rfl⟩ rfl ?_
      refine opSkip rfl ⟨_, rfl, .inl rfl⟩ rfl ?_
      refine opSkip rfl ⟨_, rfl, .inl rfl⟩ rfl ?_
      refine op0 (sp_pickF rfl rfl rfl) rfl trivial rfl rfl ?_
      refine op0 (sp_move rfl rfl) rfl trivial rfl rfl ?_
      refine opSkip rfl ⟨_, rfl, .inl rfl⟩ rfl ?_
      refine op0 (sp_pickF rfl rfl rfl) rfl trivial rfl rfl ?_
      refine op0 (sp_assign rfl rfl) rfl trivial rfl rfl ?_
      refine TL.nil ?_
      cases h
      exact retJ [] (.tmp rfl .nil) rfl trivial rfl rfl
  · have h := cond_f h h18
    refine TC.skip ?_
    refine TC.seq ?_
    refine TC.region ?_
    refine op1 1 rfl (sp_loadBA rfl isBlk rfl vt24 rfl rfl) rfl trivial rfl rfl ?_
    refine op0 (sp_move rfl rfl) rfl trivial rfl rfl ?_
    obtain ⟨r17, h23, h⟩ := bind_inv h
    refine opN (need := [.ro 0 2 (List.map en_api_Span rr3), .ro 1 2 (List.map en_api_StrikeHeard l4)]) [3, 0] ⟨rfl, rfl, trivial⟩ (sp_call (avs := [.agg [.val (.bool rr1), .val (.bool rr2), .ref 0], .ref 1]) (need := [.ro 0 2 (List.map en_api_Span rr3), .ro 1 2 (List.map en_api_StrikeHeard l4)]) (v := .tup [.val (.int .i64 r17.1), .ref 6, .val (.bool r17.2.2)]) (news := [.row 6 3 1 (List.map en_int r17.2.1)]) rfl rfl rfl Try.call25 (atJ [] [(0, 6)] (fc_ref05_Misses h23) rfl rfl) (.inl (roAll rfl))) rfl trivial rfl rfl ?_
    refine op0 (sp_move rfl rfl) rfl trivial rfl rfl ?_
    refine op0 (sp_extract rfl rfl rfl) rfl trivial rfl rfl ?_
    refine op0 (sp_extract rfl rfl rfl) rfl trivial rfl rfl ?_
    refine op0 (sp_extract rfl rfl rfl) rfl trivial rfl rfl ?_
    refine op0 (sp_assign rfl rfl) rfl trivial rfl rfl ?_
    refine op0 (sp_assign rfl rfl) rfl trivial rfl rfl ?_
    refine op0 (sp_assign rfl rfl) rfl trivial rfl rfl ?_
    refine TL.nil ?_
    refine TC.seq ?_
    refine TC.seq ?_
    refine TC.region ?_
    refine op0 (sp_move rfl rfl) rfl trivial rfl rfl ?_
    refine op0 (sp_not rfl rfl) rfl trivial rfl rfl ?_
    refine TL.nil ?_
    refine TC.cond (b := (!r17.2.2)) rfl (fun h24 => ?_) (fun h24 => ?_)
    · have h := cond_t h h24
      refine TC.seq ?_
      refine TC.region ?_
      refine op0 (sp_move rfl rfl) rfl trivial rfl rfl ?_
      refine op0 (sp_eql rfl rfl rfl) rfl trivial rfl rfl ?_
      refine op0 (sp_move rfl rfl) rfl trivial rfl rfl ?_
      rcases cond_cases h with ⟨h25, h⟩ | ⟨h25, h⟩
      · refine (boolLit 83 rfl h25).2 ?_
        refine op0 (sp_move rfl rfl) rfl ⟨_, rfl, rfl⟩ rfl rfl ?_
        refine op0 (sp_eql rfl rfl rfl) rfl ⟨_, rfl, rfl⟩ rfl rfl ?_
        refine op0 (sp_pickT rfl rfl rfl) rfl trivial rfl rfl ?_
        refine op0 (sp_move rfl rfl) rfl trivial rfl rfl ?_
        rcases cond_cases h with ⟨h26, h⟩ | ⟨h26, h⟩
        · refine (boolLit 87 rfl h26).2 ?_
          refine op0 (sp_move rfl rfl) rfl ⟨_, rfl, rfl⟩ rfl rfl ?_
          refine op1 3 rfl (sp_lenM (N := r9.2.1.length) (len_map _ _) rfl rfl isOwn Try.underlying39) rfl ⟨_, rfl, rfl⟩ rfl rfl ?_
          refine op0 (sp_eql rfl rfl rfl) rfl ⟨_, rfl, rfl⟩ rfl rfl ?_
          refine op0 (sp_pickT rfl rfl rfl) rfl trivial rfl rfl ?_
          refine op0 (sp_move rfl rfl) rfl trivial rfl rfl ?_
          rcases cond_cases h with ⟨h27, h⟩ | ⟨h27, h⟩
          · refine (boolLit 92 rfl h27).2 ?_
            obtain ⟨r18, h28, h⟩ := bind_inv h
            refine op0 (sp_call (avs := []) (need := []) (v := .val (.bool r18)) (news := []) rfl rfl rfl Try.call12 (atJ [] [] (fc_law05_known h28) rfl rfl) (.inl (roAll rfl))) rfl ⟨_, rfl, rfl⟩ rfl rfl ?_
            refine op0 (sp_pickT rfl rfl rfl) rfl trivial rfl rfl ?_
            refine op0 (sp_assign rfl rfl) rfl trivial rfl rfl ?_
            refine TL.nil ?_
            cases h
            exact retJ [] (.tmp rfl .nil) rfl trivial rfl rfl
          · refine (boolLit 92 rfl h27).2 ?_
            refine opSkip rfl ⟨_, rfl, .inl rfl⟩ rfl ?_
            refine op0 (sp_pickF rfl rfl rfl) rfl trivial rfl rfl ?_
            refine op0 (sp_assign rfl rfl) rfl trivial rfl rfl ?_
            refine TL.nil ?_
            cases h
            exact retJ [] (.tmp rfl .nil) rfl trivial rfl rfl
        · refine (boolLit 87 rfl h26).2 ?_
          refine opSkip rfl ⟨_, rfl, .inl rfl⟩ rfl ?_
          refine opSkip rfl ⟨_, rfl, .inl rfl⟩ rfl ?_
          refine opSkip rfl ⟨_, rfl, .inl rfl⟩ rfl ?_
          refine op0 (sp_pickF rfl rfl rfl) rfl trivial rfl rfl ?_
          refine op0 (sp_move rfl rfl) rfl trivial rfl rfl ?_
          refine opSkip rfl ⟨_, rfl, .inl rfl⟩ rfl ?_
          refine op0 (sp_pickF rfl rfl rfl) rfl trivial rfl rfl ?_
          refine op0 (sp_assign rfl rfl) rfl trivial rfl rfl ?_
          refine TL.nil ?_
          cases h
          exact retJ [] (.tmp rfl .nil) rfl trivial rfl rfl
      · refine (boolLit 83 rfl h25).2 ?_
        refine opSkip rfl ⟨_, rfl, .inl rfl⟩ rfl ?_
        refine opSkip rfl ⟨_, rfl, .inl rfl⟩ rfl ?_
        refine op0 (sp_pickF rfl rfl rfl) rfl trivial rfl rfl ?_
        refine op0 (sp_move rfl rfl) rfl trivial rfl rfl ?_
        refine opSkip rfl ⟨_, rfl, .inl rfl⟩ rfl ?_
        refine opSkip rfl ⟨_, rfl, .inl rfl⟩ rfl ?_
        refine opSkip rfl ⟨_, rfl, .inl rfl⟩ rfl ?_
        refine op0 (sp_pickF rfl rfl rfl) rfl trivial rfl rfl ?_
        refine op0 (sp_move rfl rfl) rfl trivial rfl rfl ?_
        refine opSkip rfl ⟨_, rfl, .inl rfl⟩ rfl ?_
        refine op0 (sp_pickF rfl rfl rfl) rfl trivial rfl rfl ?_
        refine op0 (sp_assign rfl rfl) rfl trivial rfl rfl ?_
        refine TL.nil ?_
        cases h
        exact retJ [] (.tmp rfl .nil) rfl trivial rfl rfl
    · have h := cond_f h h24
      refine TC.skip ?_
      refine TC.seq ?_
      refine TC.region ?_
      refine op0 (sp_move rfl rfl) rfl trivial rfl rfl ?_
      refine op0 (sp_eql rfl rfl rfl) rfl trivial rfl rfl ?_
      refine op0 (sp_move rfl rfl) rfl trivial rfl rfl ?_
      rcases cond_cases h with ⟨h29, h⟩ | ⟨h29, h⟩
      · refine (boolLit 97 rfl h29).2 ?_
        refine op0 (sp_move rfl rfl) rfl ⟨_, rfl, rfl⟩ rfl rfl ?_
        refine op0 (sp_move rfl rfl) rfl ⟨_, rfl, rfl⟩ rfl rfl ?_
        refine op0 (sp_eql rfl rfl rfl) rfl ⟨_, rfl, rfl⟩ rfl rfl ?_
        refine op0 (sp_pickT rfl rfl rfl) rfl trivial rfl rfl ?_
        refine op0 (sp_move rfl rfl) rfl trivial rfl rfl ?_
        rcases cond_cases h with ⟨h30, h⟩ | ⟨h30, h⟩
        · refine (boolLit 102 rfl h30).2 ?_
          refine op0 (sp_move rfl rfl) rfl ⟨_, rfl, rfl⟩ rfl rfl ?_
          refine op0 (sp_move rfl rfl) rfl ⟨_, rfl, rfl⟩ rfl rfl ?_
          obtain ⟨r19, h31, h⟩ := bind_inv h
          refine opN (need := [.row 5 3 1 (List.map en_int r9.2.1), .row 6 3 1 (List.map en_int r17.2.1)]) [3, 0] ⟨rfl, rfl, trivial⟩ (sp_call (avs := [.ref 5, .ref 6]) (need := [.row 5 3 1 (List.map en_int r9.2.1), .row 6 3 1 (List.map en_int r17.2.1)]) (v := .val (.bool r19)) (news := []) rfl rfl rfl Try.call26 (atJ [(0, 5), (1, 6)] [] (fc_ref05_Same h31) rfl rfl) (.inr (fun x hx => nomatch hx))) rfl ⟨_, rfl, rfl⟩ rfl rfl ?_
          refine op0 (sp_pickT rfl rfl rfl) rfl trivial rfl rfl ?_
          refine op0 (sp_move rfl rfl) rfl trivial rfl rfl ?_
          rcases cond_cases h with ⟨h32, h⟩ | ⟨h32, h⟩
          · refine (boolLit 107 rfl h32).2 ?_
            obtain ⟨r20, h33, h⟩ := bind_inv h
            refine op0 (sp_call (avs := []) (need := []) (v := .val (.bool r20)) (news := []) rfl rfl rfl Try.call12 (atJ [] [] (fc_law05_known h33) rfl rfl) (.inl (roAll rfl))) rfl ⟨_, rfl, rfl⟩ rfl rfl ?_
            refine op0 (sp_pickT rfl rfl rfl) rfl trivial rfl rfl ?_
            refine op0 (sp_assign rfl rfl) rfl trivial rfl rfl ?_
            refine TL.nil ?_
            cases h
            exact retJ [] (.tmp rfl .nil) rfl trivial rfl rfl
          · refine (boolLit 107 rfl h32).2 ?_
            refine opSkip rfl ⟨_, rfl, .inl rfl⟩ rfl ?_
            refine op0 (sp_pickF rfl rfl rfl) rfl trivial rfl rfl ?_
            refine op0 (sp_assign rfl rfl) rfl trivial rfl rfl ?_
            refine TL.nil ?_
            cases h
            exact retJ [] (.tmp rfl .nil) rfl trivial rfl rfl
        · refine (boolLit 102 rfl h30).2 ?_
          refine opSkip rfl ⟨_, rfl, .inl rfl⟩ rfl ?_
          refine opSkip rfl ⟨_, rfl, .inl rfl⟩ rfl ?_
          refine opSkip rfl ⟨_, rfl, .inl rfl⟩ rfl ?_
          refine op0 (sp_pickF rfl rfl rfl) rfl trivial rfl rfl ?_
          refine op0 (sp_move rfl rfl) rfl trivial rfl rfl ?_
          refine opSkip rfl ⟨_, rfl, .inl rfl⟩ rfl ?_
          refine op0 (sp_pickF rfl rfl rfl) rfl trivial rfl rfl ?_
          refine op0 (sp_assign rfl rfl) rfl trivial rfl rfl ?_
          refine TL.nil ?_
          cases h
          exact retJ [] (.tmp rfl .nil) rfl trivial rfl rfl
      · refine (boolLit 97 rfl h29).2 ?_
        refine opSkip rfl ⟨_, rfl, .inl rfl⟩ rfl ?_
        refine opSkip rfl ⟨_, rfl, .inl rfl⟩ rfl ?_
        refine opSkip rfl ⟨_, rfl, .inl rfl⟩ rfl ?_
        refine op0 (sp_pickF rfl rfl rfl) rfl trivial rfl rfl ?_
        refine op0 (sp_move rfl rfl) rfl trivial rfl rfl ?_
        refine opSkip rfl ⟨_, rfl, .inl rfl⟩ rfl ?_
        refine opSkip rfl ⟨_, rfl, .inl rfl⟩ rfl ?_
        refine opSkip rfl ⟨_, rfl, .inl rfl⟩ rfl ?_
        refine op0 (sp_pickF rfl rfl rfl) rfl trivial rfl rfl ?_
        refine op0 (sp_move rfl rfl) rfl trivial rfl rfl ?_
        refine opSkip rfl ⟨_, rfl, .inl rfl⟩ rfl ?_
        refine op0 (sp_pickF rfl rfl rfl) rfl trivial rfl rfl ?_
        refine op0 (sp_assign rfl rfl) rfl trivial rfl rfl ?_
        refine TL.nil ?_
        cases h
        exact retJ [] (.tmp rfl .nil) rfl trivial rfl rfl
def ev_law05_StrikeHears_l1 (n : Nat) (l4 : List (Int × Int)) (r7 : (List (Int × Int))) (rr1 : Bool) (rr2 : Bool) (rr3 : List (Int × Int)) (r9 : Int × (List Int) × Int) : Nat → Int → Option Bool
  | 0, _ => none
  | m + 1, i10 => cond (decide (i10 < (l4.length : Int))) (idx r7 i10 fun x11 => idx l4 i10 fun x12 => cond (!((x11.1 == x12.1) && (x11.2 == x12.2))) (some false) (chk (in64 (i10 + 1)) <| ev_law05_StrikeHears_l1 n l4 r7 rr1 rr2 rr3 r9 m (i10 + 1))) ((ev_ref05_Check n rr1 rr2 rr3).bind fun r13 => cond (r13 == 0) ((ev_ref05_Heard n l4).bind fun r14 => ev_law05_StrikeHears_j2 n r9 rr1 rr2 rr3 l4 r14) (ev_law05_StrikeHears_j2 n r9 rr1 rr2 rr3 l4 r13))
set_option maxRecDepth 100000 in
set_option maxHeartbeats 2000000 in
theorem ok_law05_StrikeHears_l1 {n : Nat} {w0 : World} {R0 : Nat → Prop} {env0 : Env} {r : Bool} {r9 : Int × (List Int) × Int} {l4 : List (Int × Int)} {rr1 : Bool} {rr2 : Bool} {r7 : (List (Int × Int))} {rr3 : List (Int × Int)} : ∀ (m : Nat) (i10 : Int), ev_law05_StrikeHears_l1 n l4 r7 rr1 rr2 rr3 r9 m i10 = some r → TC Try.prog ⟨w0, fun _ => False, R0⟩ 110 (bodyPost Try.prog Try.f4 (Post ⟨w0, fun _ => False, R0⟩ env0 (.val (.bool r)) [])) [.code (sub (bodyOf Try.f4) [1, 1, 1, 1, 0, 1, 0, 0, 0, 0]), .code (sub (bodyOf Try.f4) [1, 1, 1, 1, 0, 1, 0, 0, 0, 1]), .code (sub (bodyOf Try.f4) [1, 1, 1, 1, 0, 1, 0, 0, 1]), .inLoop (sub (bodyOf Try.f4) [1, 1, 1, 1, 0, 1, 0, 0]), .inBlock 0, .code (sub (bodyOf Try.f4) [1, 1, 1, 1, 1])] ([(1, .ref 1), (2, .ptr 2 0), (5, .ref 3), (6, .val (.int .i64 r9.1)), (7, .ref 5), (8, .val (.int .i64 r9.2.2)), (9, .val (.int .i64 i10))]) ([.ro 1 2 (List.map en_api_StrikeHeard l4), .blk 2 [.val (.bool rr1), .val (.bool rr2), .ref 0] 24, .row 3 43 2 (List.map en_api_StrikeHeard r7), .row 5 3 1 (List.map en_int r9.2.1), .ro 0 2 (List.map en_api_Span rr3)]) := by
  intro m
  induction m with
  | zero => intro i10 h; exact none_no h
  | succ m ih =>
    intro i10 h
    rw [ev_law05_StrikeHears_l1] at h
    refine TC.region ?_
    refine op0 (sp_move rfl rfl) rfl trivial rfl rfl ?_
    refine op0 (sp_move rfl rfl) rfl trivial rfl rfl ?_
    refine op1 0 rfl (sp_lenM (N := l4.length) (len_map _ _) rfl rfl isRo Try.underlying37) rfl trivial rfl rfl ?_
    refine op0 (sp_lss rfl rfl rfl) rfl trivial rfl rfl ?_
    refine TL.nil ?_
    refine TC.cond (b := (decide (i10 < (l4.length : Int)))) rfl (fun h8 => ?_) (fun h8 => ?_)
    · have h := cond_t h h8
      refine TC.skip ?_
      refine TC.seq ?_
      refine TC.block ?_
      refine TC.seq ?_
      obtain ⟨x11, h9, h10, h⟩ := idx_inv h
      obtain ⟨x12, h11, h12, h⟩ := idx_inv h
      refine drawJ 8 [⟨.ref 3, [], [], []⟩, ⟨.val (.int .i64 i10), [], [], []⟩, ⟨.cell 3 ((i10 : Int).toNat * 2), [], [.row 3 43 2 (List.map en_api_StrikeHeard r7)], []⟩, ⟨.agg [.val (.int .i64 x11.1), .val (.int .i64 x11.2)], [], [.row 3 43 2 (List.map en_api_StrikeHeard r7)], []⟩, ⟨.ref 1, [], [], []⟩, ⟨.val (.int .i64 i10), [], [], []⟩, ⟨.cell 1 ((i10 : Int).toNat * 2), [], [.ro 1 2 (List.map en_api_StrikeHeard l4)], []⟩, ⟨.agg [.val (.int .i64 x12.1), .val (.int .i64 x12.2)], [], [.ro 1 2 (List.map en_api_StrikeHeard l4)], []⟩] rfl ?_ rfl ?_ rfl ?_ ?_
      · kernel_rfl
      · kernel_rfl
      · exact DAll.op' (sp_move rfl rfl) trivial rfl (From.ok (ps := []) trivial) (DAll.op' (sp_move rfl rfl) trivial rfl (From.ok (ps := []) trivial) (DAll.op' (sp_indexS rfl rfl rfl isOwn sl37 h9 (map_get _ h10)) trivial rfl (From.ok (ps := [(none, 2)]) ⟨⟨rfl, rfl⟩, trivial⟩) (DAll.op' (sp_loadRA (i := (i10 : Int).toNat) (j := 0) (as_ := [.val (.int .i64 x11.1), .val (.int .i64 x11.2)]) (ns := []) rfl rfl isOwn vt43 rfl (map_get _ h10) rfl rfl (by decide) (.v (.v (.nil))) (nodup_of_B rfl)) trivial rfl (From.ok (ps := [(none, 2)]) ⟨⟨rfl, rfl⟩, trivial⟩) (DAll.op' (sp_move rfl rfl) trivial rfl (From.ok (ps := []) trivial) (DAll.op' (sp_move rfl rfl) trivial rfl (From.ok (ps := []) trivial) (DAll.op' (sp_indexS rfl rfl rfl isRo sl37 h11 (map_get _ h12)) trivial rfl (From.ok (ps := [(none, 0)]) ⟨⟨rfl, rfl⟩, trivial⟩) (DAll.op' (sp_loadRA (i := (i10 : Int).toNat) (j := 0) (as_ := [.val (.int .i64 x12.1), .val (.int .i64 x12.2)]) (ns := []) rfl rfl isRo vt43 rfl (map_get _ h12) rfl rfl (by decide) (.v (.v (.nil))) (nodup_of_B rfl)) trivial rfl (From.ok (ps := [(none, 0)]) ⟨⟨rfl, rfl⟩, trivial⟩) (.nil))))))))
      refine op0 (sp_neqS rfl rfl rfl rfl rfl (eq43 _ _ _ _)) rfl trivial rfl rfl ?_
      refine TL.nil ?_
      refine TC.cond (b := (!((x11.1 == x12.1) && (x11.2 == x12.2)))) rfl (fun h13 => ?_) (fun h13 => ?_)
      · have h := cond_t h h13
        refine TC.seq ?_
        refine TC.region ?_
        refine op0 (sp_assign rfl rfl) rfl trivial rfl rfl ?_
        refine TL.nil ?_
        cases h
        exact retJ [] (.tmp rfl .nil) rfl trivial rfl rfl
      · have h := cond_f h h13
        refine TC.skip ?_
        refine TC.inBlock ?_
        refine TC.region ?_
        refine op0 (sp_move rfl rfl) rfl trivial rfl rfl ?_
        obtain ⟨h14, h⟩ := chk_inv h
        refine op0 (sp_add rfl rfl rfl h14) rfl trivial rfl rfl ?_
        refine op0 (sp_assign rfl rfl) rfl trivial rfl rfl ?_
        refine TL.nil ?_
        refine TC.inLoop ?_
        refine TC.seq ?_
        refine TC.seq ?_
        refine subJ [] (ih _ h) ?_ ?_ ?_
        · exact ⟨rfl, rfl, rfl, rfl, rfl, rfl, rfl, trivial⟩
        · exact ⟨mem_at 0 rfl, mem_at 1 rfl, mem_at 2 rfl, mem_at 3 rfl, mem_at 4 rfl, trivial⟩
        · rfl
    · have h := cond_f h h8
      refine TC.exit rfl ?_
      refine TC.seq ?_
      refine TC.region ?_
      refine op1 1 rfl (sp_loadBA rfl isBlk rfl vt24 rfl rfl) rfl trivial rfl rfl ?_
      obtain ⟨r13, h15, h⟩ := bind_inv h
      refine op1 4 rfl (sp_call (avs := [.agg [.val (.bool rr1), .val (.bool rr2), .ref 0]]) (need := [.ro 0 2 (List.map en_api_Span rr3)]) (v := .val (.int .i64 r13)) (news := []) rfl rfl rfl Try.call17 (atJ [] [] (fc_ref05_Check h15) rfl rfl) (.inl (roAll rfl))) rfl trivial rfl rfl ?_
      refine op0 (sp_assign rfl rfl) rfl trivial rfl rfl ?_
      refine TL.nil ?_
      refine TC.seq ?_
      refine TC.seq ?_
      refine TC.region ?_
      refine op0 (sp_move rfl rfl) rfl trivial rfl rfl ?_
      refine op0 (sp_eql rfl rfl rfl) rfl trivial rfl rfl ?_
      refine TL.nil ?_
      refine TC.cond (b := (r13 == 0)) rfl (fun h16 => ?_) (fun h16 => ?_)
      · have h := cond_t h h16
        refine TC.region ?_
        refine op0 (sp_move rfl rfl) rfl trivial rfl rfl ?_
        obtain ⟨r14, h17, h⟩ := bind_inv h
        refine op1 0 rfl (sp_call (avs := [.ref 1]) (need := [.ro 1 2 (List.map en_api_StrikeHeard l4)]) (v := .val (.int .i64 r14)) (news := []) rfl rfl rfl Try.call24 (atJ [(0, 1)] [] (fc_ref05_Heard h17) rfl rfl) (.inl (roAll rfl))) rfl trivial rfl rfl ?_
        refine op0 (sp_assign rfl rfl) rfl trivial rfl rfl ?_
        refine TL.nil ?_
        refine TC.seq ?_
        refine TC.seq ?_
        refine subJ [] (ok_law05_StrikeHears_j2 h) ?_ ?_ ?_
        · exact ⟨rfl, rfl, rfl, rfl, rfl, rfl, trivial⟩
        · exact ⟨mem_at 0 rfl, mem_at 1 rfl, mem_at 3 rfl, mem_at 4 rfl, trivial⟩
        · rfl
      · have h := cond_f h h16
        refine TC.skip ?_
        refine TC.seq ?_
        refine TC.seq ?_
        refine subJ [] (ok_law05_StrikeHears_j2 h) ?_ ?_ ?_
        · exact ⟨rfl, rfl, rfl, rfl, rfl, rfl, trivial⟩
        · exact ⟨mem_at 0 rfl, mem_at 1 rfl, mem_at 3 rfl, mem_at 4 rfl, trivial⟩
        · rfl
def ev_law05_StrikeHears_j0 (n : Nat) (l4 : List (Int × Int)) (rr1 : Bool) (rr2 : Bool) (rr3 : List (Int × Int)) : Option Bool :=
  (ev_law05_heard n l4).bind fun r7 => (ev_law05_copied n rr1 rr2 rr3).bind fun r8 => (ev_strike_Misses n r8.1 r8.2.1 r8.2.2 r7).bind fun r9 => ev_law05_StrikeHears_l1 n l4 r7 rr1 rr2 rr3 r9 n 0
set_option maxRecDepth 100000 in
set_option maxHeartbeats 2000000 in
theorem ok_law05_StrikeHears_j0 {n : Nat} {w0 : World} {R0 : Nat → Prop} {env0 : Env} {r : Bool} {l4 : List (Int × Int)} {rr1 : Bool} {rr2 : Bool} {rr3 : List (Int × Int)} (h : ev_law05_StrikeHears_j0 n l4 rr1 rr2 rr3 = some r) : TC Try.prog ⟨w0, fun _ => False, R0⟩ 110 (bodyPost Try.prog Try.f4 (Post ⟨w0, fun _ => False, R0⟩ env0 (.val (.bool r)) [])) [.code (sub (bodyOf Try.f4) [1, 0, 1, 1]), .code (sub (bodyOf Try.f4) [1, 1])] ([(1, .ref 1), (2, .ptr 2 0)]) ([.ro 1 2 (List.map en_api_StrikeHeard l4), .blk 2 [.val (.bool rr1), .val (.bool rr2), .ref 0] 24, .ro 0 2 (List.map en_api_Span rr3)]) := by
  rw [ev_law05_StrikeHears_j0] at h
  refine TC.skip ?_
  refine TC.seq ?_
  refine TC.region ?_
  refine op0 (sp_move rfl rfl) rfl trivial rfl rfl ?_
  obtain ⟨r7, h5, h⟩ := bind_inv h
  refine op1 0 rfl (sp_call (avs := [.ref 1]) (need := [.ro 1 2 (List.map en_api_StrikeHeard l4)]) (v := .ref 3) (news := [.row 3 43 2 (List.map en_api_StrikeHeard r7)]) rfl rfl rfl Try.call22 (atJ [(0, 1)] [(0, 3)] (fc_law05_heard h5) rfl rfl) (.inl (roAll rfl))) rfl trivial rfl rfl ?_
  refine op0 (sp_assign rfl rfl) rfl trivial rfl rfl ?_
  refine TL.nil ?_
  refine TC.seq ?_
  refine TC.region ?_
  refine op1 2 rfl (sp_loadBA rfl isBlk rfl vt24 rfl rfl) rfl trivial rfl rfl ?_
  obtain ⟨r8, h6, h⟩ := bind_inv h
  refine op1 3 rfl (sp_call (avs := [.agg [.val (.bool rr1), .val (.bool rr2), .ref 0]]) (need := [.ro 0 2 (List.map en_api_Span rr3)]) (v := .agg [.val (.bool r8.1), .val (.bool r8.2.1), .ref 4]) (news := [.row 4 81 2 (List.map en_api_Span r8.2.2)]) rfl rfl rfl Try.call13 (atJ [] [(0, 4)] (fc_law05_copied h6) rfl rfl) (.inl (roAll rfl))) rfl trivial rfl rfl ?_
  refine op0 (sp_move rfl rfl) rfl trivial rfl rfl ?_
  obtain ⟨r9, h7, h⟩ := bind_inv h
  refine opN (need := [.row 4 81 2 (List.map en_api_Span r8.2.2), .row 3 43 2 (List.map en_api_StrikeHeard r7)]) [0, 1] ⟨rfl, rfl, trivial⟩ (sp_call (avs := [.agg [.val (.bool r8.1), .val (.bool r8.2.1), .ref 4], .ref 3]) (need := [.row 4 81 2 (List.map en_api_Span r8.2.2), .row 3 43 2 (List.map en_api_StrikeHeard r7)]) (v := .tup [.val (.int .i64 r9.1), .ref 5, .val (.int .i64 r9.2.2)]) (news := [.row 5 3 1 (List.map en_int r9.2.1)]) rfl rfl rfl Try.call23 (atJ [(0, 4), (1, 3)] [(0, 5)] (fc_strike_Misses h7) rfl rfl) (.inr (List.forall_mem_cons.2 ⟨indep_map en_int_flat, (by simp)⟩))) rfl trivial rfl rfl ?_
  refine op0 (sp_move rfl rfl) rfl trivial rfl rfl ?_
  refine op0 (sp_extract rfl rfl rfl) rfl trivial rfl rfl ?_
  refine op0 (sp_extract rfl rfl rfl) rfl trivial rfl rfl ?_
  refine op0 (sp_extract rfl rfl rfl) rfl trivial rfl rfl ?_
  refine op0 (sp_assign rfl rfl) rfl trivial rfl rfl ?_
  refine op0 (sp_assign rfl rfl) rfl trivial rfl rfl ?_
  refine op0 (sp_assign rfl rfl) rfl trivial rfl rfl ?_
  refine TL.nil ?_
  refine TC.seq ?_
  refine TC.seq ?_
  refine TC.region ?_
  refine op0 (sp_assign rfl rfl) rfl trivial rfl rfl ?_
  refine TL.nil ?_
  refine TC.block ?_
  refine TC.loop ?_
  refine TC.seq ?_
  refine TC.seq ?_
  refine subJ [] (ok_law05_StrikeHears_l1 _ _ h) ?_ ?_ ?_
  · exact ⟨rfl, rfl, rfl, rfl, rfl, rfl, rfl, trivial⟩
  · exact ⟨mem_at 3 rfl, mem_at 4 rfl, mem_at 2 rfl, mem_at 0 rfl, mem_at 5 rfl, trivial⟩
  · rfl
def ev_law05_StrikeHears (n : Nat) (rr1 : Bool) (rr2 : Bool) (rr3 : List (Int × Int)) (l4 : List (Int × Int)) : Option Bool :=
  cond (decide ((20 : Int) < (rr3.length : Int))) ((ev_law05_known n).bind fun r5 => some r5) (cond (decide ((210 : Int) < (l4.length : Int))) ((ev_law05_known n).bind fun r6 => some r6) (ev_law05_StrikeHears_j0 n l4 rr1 rr2 rr3))
set_option maxRecDepth 100000 in
set_option maxHeartbeats 2000000 in
theorem fc_law05_StrikeHears {n : Nat} {rr1 : Bool} {rr2 : Bool} {rr3 : List (Int × Int)} {l4 : List (Int × Int)} {r : Bool} (h : ev_law05_StrikeHears n rr1 rr2 rr3 l4 = some r) : FC Try.prog 4 [.agg [.val (.bool rr1), .val (.bool rr2), .ref 0], .ref 1] [.ro 0 2 (List.map en_api_Span rr3), .ro 1 2 (List.map en_api_StrikeHeard l4)] (.val (.bool r)) [] := by
  refine introJ (nz := 110) Try.func4 rfl rfl rfl (fun w0 R0 env0 => ?_)
  rw [ev_law05_StrikeHears] at h
  refine TC.seq ?_
  refine TC.region ?_
  refine op0 (sp_box 2 rfl rfl rfl rfl rfl) rfl trivial rfl rfl ?_
  refine op0 (sp_assign rfl rfl) rfl trivial rfl rfl ?_
  refine TL.nil ?_
  refine TC.seq ?_
  refine TC.seq ?_
  refine TC.region ?_
  refine op1 0 rfl (sp_fieldAddrB rfl isBlk rfl ft24_2 vt22 (by decide)) rfl trivial rfl rfl ?_
  refine op1 0 rfl (sp_loadB rfl isBlk rfl vt22 rfl) rfl trivial rfl rfl ?_
  refine op1 1 rfl (sp_lenM (N := rr3.length) (len_map _ _) rfl rfl isRo Try.underlying22) rfl trivial rfl rfl ?_
  refine op0 (sp_gtr rfl rfl rfl) rfl trivial rfl rfl ?_
  refine op0 (sp_move rfl rfl) rfl trivial rfl rfl ?_
  rcases cond_cases h with ⟨h1, h⟩ | ⟨h1, h⟩
  · refine (boolLit 18 rfl h1).2 ?_
    refine opSkip rfl ⟨_, rfl, .inl rfl⟩ rfl ?_
    refine opSkip rfl ⟨_, rfl, .inl rfl⟩ rfl ?_
    refine opSkip rfl ⟨_, rfl, .inl rfl⟩ rfl ?_
    refine op0 (sp_pickT rfl rfl rfl) rfl trivial rfl rfl ?_
    refine TL.nil ?_
    refine TC.condT rfl ?_
    refine TC.seq ?_
    refine TC.region ?_
    obtain ⟨r5, h2, h⟩ := bind_inv h
    refine op0 (sp_call (avs := []) (need := []) (v := .val (.bool r5)) (news := []) rfl rfl rfl Try.call12 (atJ [] [] (fc_law05_known h2) rfl rfl) (.inl (roAll rfl))) rfl trivial rfl rfl ?_
    refine op0 (sp_assign rfl rfl) rfl trivial rfl rfl ?_
    refine TL.nil ?_
    cases h
    exact retJ [] (.tmp rfl .nil) rfl trivial rfl rfl
  · refine (boolLit 18 rfl h1).2 ?_
    refine op0 (sp_move rfl rfl) rfl ⟨_, rfl, rfl⟩ rfl rfl ?_
    refine op1 2 rfl (sp_lenM (N := l4.length) (len_map _ _) rfl rfl isRo Try.underlying37) rfl ⟨_, rfl, rfl⟩ rfl rfl ?_
    refine op0 (sp_gtr rfl rfl rfl) rfl ⟨_, rfl, rfl⟩ rfl rfl ?_
    refine op0 (sp_pickF rfl rfl rfl) rfl trivial rfl rfl ?_
    refine TL.nil ?_
    refine TC.cond (b := (decide ((210 : Int) < (l4.length : Int)))) rfl (fun h3 => ?_) (fun h3 => ?_)
    · have h := cond_t h h3
      refine TC.seq ?_
      refine TC.region ?_
      obtain ⟨r6, h4, h⟩ := bind_inv h
      refine op0 (sp_call (avs := []) (need := []) (v := .val (.bool r6)) (news := []) rfl rfl rfl Try.call12 (atJ [] [] (fc_law05_known h4) rfl rfl) (.inl (roAll rfl))) rfl trivial rfl rfl ?_
      refine op0 (sp_assign rfl rfl) rfl trivial rfl rfl ?_
      refine TL.nil ?_
      cases h
      exact retJ [] (.tmp rfl .nil) rfl trivial rfl rfl
    · have h := cond_f h h3
      refine subJ [] (ok_law05_StrikeHears_j0 h) ?_ ?_ ?_
      · exact ⟨rfl, rfl, trivial⟩
      · exact ⟨mem_at 2 rfl, mem_at 0 rfl, mem_at 1 rfl, trivial⟩
      · rfl
end
end Go.Proofs.Ytglgkcfgjaoabaa.Sy
