/- What functions of the program compute, and that they do: printed by symgen.py. -/
import Derived.Test.YtgkoldcmbcbbpaaGLib
set_option linter.unusedSimpArgs false
set_option linter.unusedVariables false
namespace Go.Proofs.Ytgkoldcmbcbbpaa.Sy
open Go.RowKit
noncomputable section

/- drop_within_1 -/
def ev_drop_within_1 (n : Nat) (nn1 : Int) (c2 : Int) (c3 : Int) : Option Bool :=
  cond (decide (nn1 < c2)) (some true) (some (decide (c3 < nn1)))
set_option maxRecDepth 100000 in
set_option maxHeartbeats 2000000 in
theorem fc_drop_within_1 {n : Nat} {nn1 : Int} {c2 : Int} {c3 : Int} {r : Bool} (h : ev_drop_within_1 n nn1 c2 c3 = some r) : FC Try.prog 143 [.val (.int .i64 nn1), .ptr 0 0, .ptr 1 0] [.rob 0 [.val (.int .i64 c2)] 3, .rob 1 [.val (.int .i64 c3)] 3] (.val (.bool r)) [] := by
  refine introJ (nz := 13) Try.func143 rfl rfl rfl (fun w0 R0 env0 => ?_)
  rw [ev_drop_within_1] at h
  refine TC.seq ?_
  refine TC.region ?_
  refine op0 (sp_assign rfl rfl) rfl trivial rfl rfl ?_
  refine TL.nil ?_
  refine TC.seq ?_
  refine TC.region ?_
  refine op0 (sp_move rfl rfl) rfl trivial rfl rfl ?_
  refine op1 0 rfl (sp_loadB rfl isRob rfl vt3 rfl) rfl trivial rfl rfl ?_
  refine op0 (sp_lss rfl rfl rfl) rfl trivial rfl rfl ?_
  refine op0 (sp_move rfl rfl) rfl trivial rfl rfl ?_
  rcases cond_cases h with ⟨h1, h⟩ | ⟨h1, h⟩
  · refine (boolLit 8 rfl h1).2 ?_
    refine opSkip rfl ⟨_, rfl, .inl rfl⟩ rfl ?_
    refine opSkip rfl ⟨_, rfl, .inl rfl⟩ rfl ?_
    refine opSkip rfl ⟨_, rfl, .inl rfl⟩ rfl ?_
    refine op0 (sp_pickT rfl rfl rfl) rfl trivial rfl rfl ?_
    refine op0 (sp_assign rfl rfl) rfl trivial rfl rfl ?_
    refine TL.nil ?_
    cases h
    exact retJ [] (.tmp rfl .nil) rfl trivial rfl rfl
  · refine (boolLit 8 rfl h1).2 ?_
    refine op0 (sp_move rfl rfl) rfl ⟨_, rfl, rfl⟩ rfl rfl ?_
    refine op1 1 rfl (sp_loadB rfl isRob rfl vt3 rfl) rfl ⟨_, rfl, rfl⟩ rfl rfl ?_
    refine op0 (sp_gtr rfl rfl rfl) rfl ⟨_, rfl, rfl⟩ rfl rfl ?_
    refine op0 (sp_pickF rfl rfl rfl) rfl trivial rfl rfl ?_
    refine op0 (sp_assign rfl rfl) rfl trivial rfl rfl ?_
    refine TL.nil ?_
    cases h
    exact retJ [] (.tmp rfl .nil) rfl trivial rfl rfl
/- drop_within -/
def ev_drop_within (n : Nat) (least1 : Int) (most2 : Int) (l3 : List Int) : Option Bool :=
  (ev_slices_ContainsFunc_Lint_int n l3 (fun a => ev_drop_within_1 n a least1 most2)).bind fun r4 => some (!r4)
set_option maxRecDepth 100000 in
set_option maxHeartbeats 2000000 in
theorem fc_drop_within {n : Nat} {least1 : Int} {most2 : Int} {l3 : List Int} {r : Bool} (h : ev_drop_within n least1 most2 l3 = some r) : FC Try.prog 65 [.val (.int .i64 least1), .val (.int .i64 most2), .ref 0] [.ro 0 1 (List.map en_int l3)] (.val (.bool r)) [] := by
  refine introJ (nz := 11) Try.func65 rfl rfl rfl (fun w0 R0 env0 => ?_)
  rw [ev_drop_within] at h
  refine TC.seq ?_
  refine TC.region ?_
  refine op0 (sp_box 1 rfl rfl rfl rfl rfl) rfl trivial rfl rfl ?_
  refine op0 (sp_box 2 rfl rfl rfl rfl rfl) rfl trivial rfl rfl ?_
  refine op0 (sp_assign rfl rfl) rfl trivial rfl rfl ?_
  refine TL.nil ?_
  refine TC.seq ?_
  refine TC.region ?_
  refine op0 (sp_move rfl rfl) rfl trivial rfl rfl ?_
  refine op0 (sp_makeFunc (fi := []) (ca := [.tmp 3, .tmp 4]) (fa := []) (cb := [.ptr 1 0, .ptr 2 0]) rfl rfl rfl) rfl trivial rfl rfl ?_
  obtain ⟨r4, h1, h⟩ := bind_inv h
  refine opN (need := [.ro 0 1 (List.map en_int l3), .blk 1 [.val (.int .i64 least1)] 3, .blk 2 [.val (.int .i64 most2)] 3]) [2, 1, 0] ⟨rfl, rfl, rfl, trivial⟩ (sp_call (avs := [.ref 0, .fn 143 [] [.ptr 1 0, .ptr 2 0]]) (need := [.ro 0 1 (List.map en_int l3), .blk 1 [.val (.int .i64 least1)] 3, .blk 2 [.val (.int .i64 most2)] 3]) (v := .val (.bool r4)) (news := []) rfl rfl rfl Try.call142 (FC.needJ (need := [.ro 0 1 (List.map en_int l3), .rob 1 [.val (.int .i64 least1)] 3, .rob 2 [.val (.int .i64 most2)] 3]) (need' := [.rob 1 [.val (.int .i64 least1)] 3, .rob 2 [.val (.int .i64 most2)] 3, .ro 0 1 (List.map en_int l3)]) [1, 2, 0] ⟨rfl, rfl, rfl, trivial⟩ (FC.fnArg (args := [.ref 0, .ref 3]) (needC := [.rob 1 [.val (.int .i64 least1)] 3, .rob 2 [.val (.int .i64 most2)] 3]) (need := [.ro 0 1 (List.map en_int l3)]) 1 (first := []) (caps := [.ptr 1 0, .ptr 2 0]) (FC.needJ (need := [.any 3 (D.fn Try.prog fe_funcint_bool fd_funcint_bool (fun a => ev_drop_within_1 n a least1 most2)), .ro 0 1 (List.map en_int l3)]) (need' := [.ro 0 1 (List.map en_int l3), .any 3 (D.fn Try.prog fe_funcint_bool fd_funcint_bool (fun a => ev_drop_within_1 n a least1 most2))]) [1, 0] ⟨rfl, rfl, trivial⟩ (atJ [(1, 3)] [] (fc_slices_ContainsFunc_Lint_int h1) rfl rfl)) rfl Try.call143 (fun a b hab => atJ [(0, 1), (1, 2)] [] (fc_drop_within_1 hab) rfl rfl) rfl (fun _ => rfl) (fun _ => rfl) rfl rfl rfl rfl rfl rfl rfl)) (.inr (fun x hx => nomatch hx))) rfl trivial rfl rfl ?_
  refine op0 (sp_not rfl rfl) rfl trivial rfl rfl ?_
  refine op0 (sp_assign rfl rfl) rfl trivial rfl rfl ?_
  refine TL.nil ?_
  cases h
  exact retJ [] (.tmp rfl .nil) rfl trivial rfl rfl
/- drop_isSpan -/
def ev_drop_isSpan (n : Nat) (s1 : Int) (s2 : Int) (most3 : Int) : Option Bool :=
  (ev_drop_within n 0 most3 ([s1, s2] : List Int)).bind fun r4 => cond r4 (some (decide (s1 ≤ s2))) (some false)
set_option maxRecDepth 100000 in
set_option maxHeartbeats 2000000 in
theorem fc_drop_isSpan {n : Nat} {s1 : Int} {s2 : Int} {most3 : Int} {r : Bool} (h : ev_drop_isSpan n s1 s2 most3 = some r) : FC Try.prog 152 [.agg [.val (.int .i64 s1), .val (.int .i64 s2)], .val (.int .i64 most3)] [] (.val (.bool r)) [] := by
  refine introJ (nz := 19) Try.func152 rfl rfl rfl (fun w0 R0 env0 => ?_)
  rw [ev_drop_isSpan] at h
  refine TC.seq ?_
  refine TC.region ?_
  refine op0 (sp_box 0 rfl rfl rfl rfl rfl) rfl trivial rfl rfl ?_
  refine op0 (sp_assign rfl rfl) rfl trivial rfl rfl ?_
  refine TL.nil ?_
  refine TC.seq ?_
  refine TC.region ?_
  refine op0 (sp_move rfl rfl) rfl trivial rfl rfl ?_
  refine op1 0 rfl (sp_fieldAddrB rfl isBlk rfl ft34_0 vt3 (by decide)) rfl trivial rfl rfl ?_
  refine op1 0 rfl (sp_loadB rfl isBlk rfl vt3 rfl) rfl trivial rfl rfl ?_
  refine op1 0 rfl (sp_fieldAddrB rfl isBlk rfl ft34_1 vt3 (by decide)) rfl trivial rfl rfl ?_
  refine op1 0 rfl (sp_loadB rfl isBlk rfl vt3 rfl) rfl trivial rfl rfl ?_
  refine op0 (sp_buildSlice (qs := [.val (.int .i64 s1), .val (.int .i64 s2)]) (need := []) (els := List.map en_int ([s1, s2] : List Int)) 1 rfl sl50 (by decide) (by decide) rfl rfl rfl (.v (.v (.nil))) (map_len fun _ => rfl) rfl rfl rfl) rfl trivial rfl rfl ?_
  obtain ⟨r4, h1, h⟩ := bind_inv h
  refine op1 0 rfl (sp_call (avs := [.val (.int .i64 0), .val (.int .i64 most3), .ref 1]) (need := [.row 1 3 1 (List.map en_int ([s1, s2] : List Int))]) (v := .val (.bool r4)) (news := []) rfl rfl rfl Try.call65 (atJ [(0, 1)] [] (fc_drop_within h1) rfl rfl) (.inr (fun x hx => nomatch hx))) rfl trivial rfl rfl ?_
  refine op0 (sp_move rfl rfl) rfl trivial rfl rfl ?_
  rcases cond_cases h with ⟨h2, h⟩ | ⟨h2, h⟩
  · refine (boolLit 12 rfl h2).2 ?_
    refine op1 1 rfl (sp_fieldAddrB rfl isBlk rfl ft34_0 vt3 (by decide)) rfl ⟨_, rfl, rfl⟩ rfl rfl ?_
    refine op1 1 rfl (sp_loadB rfl isBlk rfl vt3 rfl) rfl ⟨_, rfl, rfl⟩ rfl rfl ?_
    refine op1 1 rfl (sp_fieldAddrB rfl isBlk rfl ft34_1 vt3 (by decide)) rfl ⟨_, rfl, rfl⟩ rfl rfl ?_
    refine op1 1 rfl (sp_loadB rfl isBlk rfl vt3 rfl) rfl ⟨_, rfl, rfl⟩ rfl rfl ?_
    refine op0 (sp_leq rfl rfl rfl) rfl ⟨_, rfl, rfl⟩ rfl rfl ?_
    refine op0 (sp_pickT rfl rfl rfl) rfl trivial rfl rfl ?_
    refine op0 (sp_assign rfl rfl) rfl trivial rfl rfl ?_
    refine TL.nil ?_
    cases h
    exact retJ [] (.tmp rfl .nil) rfl trivial rfl rfl
  · refine (boolLit 12 rfl h2).2 ?_
    refine opSkip rfl ⟨_, rfl, .inl rfl⟩ rfl ?_
    refine opSkip rfl ⟨_, rfl, .inl rfl⟩ rfl ?_
    refine opSkip rfl ⟨_, rfl, .inl rfl⟩ rfl ?_
    refine opSkip rfl ⟨_, rfl, .inl rfl⟩ rfl ?_
    refine opSkip rfl ⟨_, rfl, .inl rfl⟩ rfl ?_
    refine op0 (sp_pickF rfl rfl rfl) rfl trivial rfl rfl ?_
    refine op0 (sp_assign rfl rfl) rfl trivial rfl rfl ?_
    refine TL.nil ?_
    cases h
    exact retJ [] (.tmp rfl .nil) rfl trivial rfl rfl
/- drop_areHours_1 -/
def ev_drop_areHours_1 (n : Nat) (s1 : Int) (s2 : Int) : Option Bool :=
  (ev_drop_isSpan n s1 s2 3000).bind fun r3 => some (!r3)
set_option maxRecDepth 100000 in
set_option maxHeartbeats 2000000 in
theorem fc_drop_areHours_1 {n : Nat} {s1 : Int} {s2 : Int} {r : Bool} (h : ev_drop_areHours_1 n s1 s2 = some r) : FC Try.prog 151 [.agg [.val (.int .i64 s1), .val (.int .i64 s2)]] [] (.val (.bool r)) [] := by
  refine introJ (nz := 6) Try.func151 rfl rfl rfl (fun w0 R0 env0 => ?_)
  rw [ev_drop_areHours_1] at h
  refine TC.seq ?_
  refine TC.region ?_
  refine op0 (sp_box 0 rfl rfl rfl rfl rfl) rfl trivial rfl rfl ?_
  refine op0 (sp_assign rfl rfl) rfl trivial rfl rfl ?_
  refine TL.nil ?_
  refine TC.seq ?_
  refine TC.region ?_
  refine op1 0 rfl (sp_loadBA rfl isBlk rfl vt34 rfl rfl) rfl trivial rfl rfl ?_
  obtain ⟨r3, h1, h⟩ := bind_inv h
  refine op0 (sp_call (avs := [.agg [.val (.int .i64 s1), .val (.int .i64 s2)], .val (.int .i64 3000)]) (need := []) (v := .val (.bool r3)) (news := []) rfl rfl rfl Try.call152 (atJ [] [] (fc_drop_isSpan h1) rfl rfl) (.inl (roAll rfl))) rfl trivial rfl rfl ?_
  refine op0 (sp_not rfl rfl) rfl trivial rfl rfl ?_
  refine op0 (sp_assign rfl rfl) rfl trivial rfl rfl ?_
  refine TL.nil ?_
  cases h
  exact retJ [] (.tmp rfl .nil) rfl trivial rfl rfl
/- drop_areHours -/
def ev_drop_areHours (n : Nat) (l1 : List (Int × Int)) : Option Bool :=
  cond ((l1.length : Int) == 24) ((ev_slices_ContainsFunc_Lapi_Span_api_Span n l1 (fun a => ev_drop_areHours_1 n a.1 a.2)).bind fun r2 => some (!r2)) (some false)
set_option maxRecDepth 100000 in
set_option maxHeartbeats 2000000 in
theorem fc_drop_areHours {n : Nat} {l1 : List (Int × Int)} {r : Bool} (h : ev_drop_areHours n l1 = some r) : FC Try.prog 72 [.ref 0] [.ro 0 2 (List.map en_api_Span l1)] (.val (.bool r)) [] := by
  refine introJ (nz := 11) Try.func72 rfl rfl rfl (fun w0 R0 env0 => ?_)
  rw [ev_drop_areHours] at h
  refine TC.seq ?_
  refine TC.region ?_
  refine op0 (sp_assign rfl rfl) rfl trivial rfl rfl ?_
  refine TL.nil ?_
  refine TC.seq ?_
  refine TC.region ?_
  refine op0 (sp_move rfl rfl) rfl trivial rfl rfl ?_
  refine op1 0 rfl (sp_lenM (N := l1.length) (len_map _ _) rfl rfl isRo Try.underlying39) rfl trivial rfl rfl ?_
  refine op0 (sp_eql rfl rfl rfl) rfl trivial rfl rfl ?_
  refine op0 (sp_move rfl rfl) rfl trivial rfl rfl ?_
  rcases cond_cases h with ⟨h1, h⟩ | ⟨h1, h⟩
  · refine (boolLit 6 rfl h1).2 ?_
    refine op0 (sp_move rfl rfl) rfl ⟨_, rfl, rfl⟩ rfl rfl ?_
    obtain ⟨r2, h2, h⟩ := bind_inv h
    refine op1 0 rfl (sp_call (avs := [.ref 0, .fn 151 [] []]) (need := [.ro 0 2 (List.map en_api_Span l1)]) (v := .val (.bool r2)) (news := []) rfl rfl rfl Try.call150 (FC.fnArg (args := [.ref 0, .ref 1]) (needC := []) (need := [.ro 0 2 (List.map en_api_Span l1)]) 1 (first := []) (caps := []) (FC.needJ (need := [.any 1 (D.fn Try.prog fe_funcapi_Span_bool fd_funcapi_Span_bool (fun a => ev_drop_areHours_1 n a.1 a.2)), .ro 0 2 (List.map en_api_Span l1)]) (need' := [.ro 0 2 (List.map en_api_Span l1), .any 1 (D.fn Try.prog fe_funcapi_Span_bool fd_funcapi_Span_bool (fun a => ev_drop_areHours_1 n a.1 a.2))]) [1, 0] ⟨rfl, rfl, trivial⟩ (atJ [] [] (fc_slices_ContainsFunc_Lapi_Span_api_Span h2) rfl rfl)) rfl Try.call151 (fun a b hab => atJ [] [] (fc_drop_areHours_1 hab) rfl rfl) rfl (fun _ => rfl) (fun _ => rfl) rfl rfl rfl rfl rfl rfl rfl) (.inl (roAll rfl))) rfl ⟨_, rfl, rfl⟩ rfl rfl ?_
    refine op0 (sp_not rfl rfl) rfl ⟨_, rfl, rfl⟩ rfl rfl ?_
    refine op0 (sp_pickT rfl rfl rfl) rfl trivial rfl rfl ?_
    refine op0 (sp_assign rfl rfl) rfl trivial rfl rfl ?_
    refine TL.nil ?_
    cases h
    exact retJ [] (.tmp rfl .nil) rfl trivial rfl rfl
  · refine (boolLit 6 rfl h1).2 ?_
    refine opSkip rfl ⟨_, rfl, .inl rfl⟩ rfl ?_
    refine opSkip rfl ⟨_, rfl, .inl rfl⟩ rfl ?_
    refine opSkip rfl ⟨_, rfl, .inl rfl⟩ rfl ?_
    refine op0 (sp_pickF rfl rfl rfl) rfl trivial rfl rfl ?_
    refine op0 (sp_assign rfl rfl) rfl trivial rfl rfl ?_
    refine TL.nil ?_
    cases h
    exact retJ [] (.tmp rfl .nil) rfl trivial rfl rfl
/- drop_Check -/
def ev_drop_Check (n : Nat) (c1 : Int) (c2 : List (Int × Int)) : Option Int :=
  (ev_drop_within n 1 3000 ([c1] : List Int)).bind fun r3 => cond (!r3) (some 2) ((ev_drop_areHours n c2).bind fun r4 => cond (!r4) (some 2) (some 0))
set_option maxRecDepth 100000 in
set_option maxHeartbeats 2000000 in
theorem fc_drop_Check {n : Nat} {c1 : Int} {c2 : List (Int × Int)} {r : Int} (h : ev_drop_Check n c1 c2 = some r) : FC Try.prog 64 [.agg [.val (.int .i64 c1), .ref 0]] [.ro 0 2 (List.map en_api_Span c2)] (.val (.int .i64 r)) [] := by
  refine introJ (nz := 14) Try.func64 rfl rfl rfl (fun w0 R0 env0 => ?_)
  rw [ev_drop_Check] at h
  refine TC.seq ?_
  refine TC.region ?_
  refine op0 (sp_box 1 rfl rfl rfl rfl rfl) rfl trivial rfl rfl ?_
  refine op0 (sp_assign rfl rfl) rfl trivial rfl rfl ?_
  refine TL.nil ?_
  refine TC.seq ?_
  refine TC.seq ?_
  refine TC.region ?_
  refine op1 0 rfl (sp_fieldAddrB rfl isBlk rfl ft42_0 vt3 (by decide)) rfl trivial rfl rfl ?_
  refine op1 0 rfl (sp_loadB rfl isBlk rfl vt3 rfl) rfl trivial rfl rfl ?_
  refine op0 (sp_buildSlice (qs := [.val (.int .i64 c1)]) (need := []) (els := List.map en_int ([c1] : List Int)) 2 rfl sl50 (by decide) (by decide) rfl rfl rfl (.v (.nil)) (map_len fun _ => rfl) rfl rfl rfl) rfl trivial rfl rfl ?_
  obtain ⟨r3, h1, h⟩ := bind_inv h
  refine op1 0 rfl (sp_call (avs := [.val (.int .i64 1), .val (.int .i64 3000), .ref 2]) (need := [.row 2 3 1 (List.map en_int ([c1] : List Int))]) (v := .val (.bool r3)) (news := []) rfl rfl rfl Try.call65 (atJ [(0, 2)] [] (fc_drop_within h1) rfl rfl) (.inr (fun x hx => nomatch hx))) rfl trivial rfl rfl ?_
  refine op0 (sp_not rfl rfl) rfl trivial rfl rfl ?_
  refine op0 (sp_move rfl rfl) rfl trivial rfl rfl ?_
  rcases cond_cases h with ⟨h2, h⟩ | ⟨h2, h⟩
  · refine (boolLit 8 rfl h2).2 ?_
    refine opSkip rfl ⟨_, rfl, .inl rfl⟩ rfl ?_
    refine opSkip rfl ⟨_, rfl, .inl rfl⟩ rfl ?_
    refine opSkip rfl ⟨_, rfl, .inl rfl⟩ rfl ?_
    refine opSkip rfl ⟨_, rfl, .inl rfl⟩ rfl ?_
    refine op0 (sp_pickT rfl rfl rfl) rfl trivial rfl rfl ?_
    refine TL.nil ?_
    refine TC.condT rfl ?_
    refine TC.seq ?_
    refine TC.region ?_
    refine op0 (sp_assign rfl rfl) rfl trivial rfl rfl ?_
    refine TL.nil ?_
    cases h
    exact retJ [] (.tmp rfl .nil) rfl trivial rfl rfl
  · refine (boolLit 8 rfl h2).2 ?_
    refine op1 1 rfl (sp_fieldAddrB rfl isBlk rfl ft42_1 vt39 (by decide)) rfl ⟨_, rfl, rfl⟩ rfl rfl ?_
    refine op1 1 rfl (sp_loadB rfl isBlk rfl vt39 rfl) rfl ⟨_, rfl, rfl⟩ rfl rfl ?_
    obtain ⟨r4, h3, h⟩ := bind_inv h
    refine op1 2 rfl (sp_call (avs := [.ref 0]) (need := [.ro 0 2 (List.map en_api_Span c2)]) (v := .val (.bool r4)) (news := []) rfl rfl rfl Try.call72 (atJ [] [] (fc_drop_areHours h3) rfl rfl) (.inl (roAll rfl))) rfl ⟨_, rfl, rfl⟩ rfl rfl ?_
    refine op0 (sp_not rfl rfl) rfl ⟨_, rfl, rfl⟩ rfl rfl ?_
    refine op0 (sp_pickF rfl rfl rfl) rfl trivial rfl rfl ?_
    refine TL.nil ?_
    refine TC.cond (b := (!r4)) rfl (fun h4 => ?_) (fun h4 => ?_)
    · have h := cond_t h h4
      refine TC.seq ?_
      refine TC.region ?_
      refine op0 (sp_assign rfl rfl) rfl trivial rfl rfl ?_
      refine TL.nil ?_
      cases h
      exact retJ [] (.tmp rfl .nil) rfl trivial rfl rfl
    · have h := cond_f h h4
      refine TC.skip ?_
      refine TC.seq ?_
      refine TC.region ?_
      refine op0 (sp_assign rfl rfl) rfl trivial rfl rfl ?_
      refine TL.nil ?_
      cases h
      exact retJ [] (.tmp rfl .nil) rfl trivial rfl rfl
/- drop_clock_use -/
def ev_drop_clock_use (n : Nat) (c1 : Int) (c2 : List (Int × Int)) (c3 : List (Int × Int × Int × Int)) (hour4 : Int) : Option (Int × Int) :=
  idx c2 (Int.tmod hour4 24) fun x5 => some (x5.1, x5.2)
set_option maxRecDepth 100000 in
set_option maxHeartbeats 2000000 in
theorem fc_drop_clock_use {n : Nat} {c1 : Int} {c2 : List (Int × Int)} {c3 : List (Int × Int × Int × Int)} {hour4 : Int} {r : Int × Int} (h : ev_drop_clock_use n c1 c2 c3 hour4 = some r) : FC Try.prog 144 [.agg [.val (.int .i64 c1), .ref 0, .ref 1], .val (.int .i64 hour4)] [.ro 0 2 (List.map en_api_Span c2), .ro 1 4 (List.map en_api_DropVisit c3)] (.agg [.val (.int .i64 r.1), .val (.int .i64 r.2)]) [] := by
  refine introJ (nz := 12) Try.func144 rfl rfl rfl (fun w0 R0 env0 => ?_)
  rw [ev_drop_clock_use] at h
  refine TC.seq ?_
  refine TC.region ?_
  refine op0 (sp_box 2 rfl rfl rfl rfl rfl) rfl trivial rfl rfl ?_
  refine op0 (sp_alloc 3 rfl Try.zeroValue34 rfl) rfl trivial rfl rfl ?_
  refine TL.nil ?_
  refine TC.seq ?_
  refine TC.region ?_
  refine op1 1 rfl (sp_fieldAddrB rfl isBlk rfl ft186_0 vt42 (by decide)) rfl trivial rfl rfl ?_
  refine op1 1 rfl (sp_fieldAddrB rfl isBlk rfl ft42_1 vt39 (by decide)) rfl trivial rfl rfl ?_
  refine op1 1 rfl (sp_loadB rfl isBlk rfl vt39 rfl) rfl trivial rfl rfl ?_
  refine op0 (sp_move rfl rfl) rfl trivial rfl rfl ?_
  refine op0 (sp_rem rfl rfl rfl (by decide)) rfl trivial rfl rfl ?_
  obtain ⟨x5, h1, h2, h⟩ := idx_inv h
  refine op1 2 rfl (sp_indexS rfl rfl rfl isRo sl39 h1 (map_get _ h2)) rfl trivial rfl rfl ?_
  refine op1 2 rfl (sp_loadRA (i := ((Int.tmod hour4 24) : Int).toNat) (j := 0) (as_ := [.val (.int .i64 x5.1), .val (.int .i64 x5.2)]) (ns := []) rfl rfl isRo vt34 rfl (map_get _ h2) rfl rfl (by decide) (.v (.v (.nil))) (nodup_of_B rfl)) rfl trivial rfl rfl ?_
  refine stoB 0 (cells' := [.val (.int .i64 x5.1), .val (.int .i64 x5.2)]) rfl rfl trivial rfl rfl rfl rfl vt34 rfl rfl rfl ?_
  refine TL.nil ?_
  cases h
  exact retJ [] (.cells rfl (mem_at 0 rfl) isBlk vt34 rfl rfl (.nil)) rfl trivial rfl rfl
/- drop_clock_goes -/
def ev_drop_clock_goes_j1 (n : Nat) (c1 : Int) (c2 : List (Int × Int)) (c3 : List (Int × Int × Int × Int)) (i8 : Int) (end_6 : (Int × Int) → Option Int) (i7 : Int) (k_drop_clock_goes_l0 : Int → Int → Option Int) : Option Int :=
  (ev_drop_clock_use n c1 c2 c3 i8).bind fun r11 => (end_6 (r11.1, r11.2)).bind fun r12 => chk (in64 (i7 - r12)) <| chk (in64 (i8 + 1)) <| k_drop_clock_goes_l0 (i7 - r12) (i8 + 1)
set_option maxRecDepth 100000 in
set_option maxHeartbeats 2000000 in
theorem ok_drop_clock_goes_j1 {n : Nat} {w0 : World} {R0 : Nat → Prop} {env0 : Env} {r : Int} {end_6 : (Int × Int) → Option Int} {c1 : Int} {c2 : List (Int × Int)} {c3 : List (Int × Int × Int × Int)} {i8 : Int} {i7 : Int} {k_drop_clock_goes_l0 : Int → Int → Option Int} (hk_drop_clock_goes_l0 : ∀ (i7 : Int) (i8 : Int), k_drop_clock_goes_l0 i7 i8 = some r → TC Try.prog ⟨w0, fun _ => False, R0⟩ 32 (bodyPost Try.prog Try.f66 (Post ⟨w0, fun _ => False, R0⟩ env0 (.val (.int .i64 r)) [])) [.code (sub (bodyOf Try.f66) [1, 1, 0, 0, 0, 0, 0]), .code (sub (bodyOf Try.f66) [1, 1, 0, 0, 0, 0, 1]), .code (sub (bodyOf Try.f66) [1, 1, 0, 0, 0, 1]), .inLoop (sub (bodyOf Try.f66) [1, 1, 0, 0, 0]), .inBlock 0, .code (sub (bodyOf Try.f66) [1, 1, 1])] ([(1, .val (.int .i64 i7)), (3, .ref 2), (4, .ptr 3 0), (9, .val (.int .i64 i8))]) ([.any 2 (D.fn Try.prog fe_funcapi_Span_int fd_funcapi_Span_int end_6), .blk 3 [.val (.int .i64 c1), .ref 0, .ref 1] 186, .ro 0 2 (List.map en_api_Span c2), .ro 1 4 (List.map en_api_DropVisit c3)])) (h : ev_drop_clock_goes_j1 n c1 c2 c3 i8 end_6 i7 k_drop_clock_goes_l0 = some r) : TC Try.prog ⟨w0, fun _ => False, R0⟩ 32 (bodyPost Try.prog Try.f66 (Post ⟨w0, fun _ => False, R0⟩ env0 (.val (.int .i64 r)) [])) [.code (sub (bodyOf Try.f66) [1, 1, 0, 0, 0, 0, 1, 0]), .code (sub (bodyOf Try.f66) [1, 1, 0, 0, 0, 1]), .inLoop (sub (bodyOf Try.f66) [1, 1, 0, 0, 0]), .inBlock 0, .code (sub (bodyOf Try.f66) [1, 1, 1])] ([(1, .val (.int .i64 i7)), (3, .ref 2), (4, .ptr 3 0), (9, .val (.int .i64 i8))]) ([.any 2 (D.fn Try.prog fe_funcapi_Span_int fd_funcapi_Span_int end_6), .blk 3 [.val (.int .i64 c1), .ref 0, .ref 1] 186, .ro 0 2 (List.map en_api_Span c2), .ro 1 4 (List.map en_api_DropVisit c3)]) := by
  rw [ev_drop_clock_goes_j1] at h
  refine TC.skip ?_
  refine TC.block ?_
  refine TC.seq ?_
  refine TC.region ?_
  refine op0 (sp_move rfl rfl) rfl trivial rfl rfl ?_
  refine op0 (sp_move rfl rfl) rfl trivial rfl rfl ?_
  refine op1 1 rfl (sp_loadBA rfl isBlk rfl vt186 rfl rfl) rfl trivial rfl rfl ?_
  refine op0 (sp_move rfl rfl) rfl trivial rfl rfl ?_
  obtain ⟨r11, h5, h⟩ := bind_inv h
  refine opN (need := [.ro 0 2 (List.map en_api_Span c2), .ro 1 4 (List.map en_api_DropVisit c3)]) [2, 3] ⟨rfl, rfl, trivial⟩ (sp_call (avs := [.agg [.val (.int .i64 c1), .ref 0, .ref 1], .val (.int .i64 i8)]) (need := [.ro 0 2 (List.map en_api_Span c2), .ro 1 4 (List.map en_api_DropVisit c3)]) (v := .agg [.val (.int .i64 r11.1), .val (.int .i64 r11.2)]) (news := []) rfl rfl rfl Try.call144 (atJ [] [] (fc_drop_clock_use h5) rfl rfl) (.inl (roAll rfl))) rfl trivial rfl rfl ?_
  obtain ⟨r12, h6, h⟩ := bind_inv h
  refine op1 0 rfl (sp_callF (avs := [.agg [.val (.int .i64 r11.1), .val (.int .i64 r11.2)]]) (v := .val (.int .i64 r12)) (r11.1, r11.2) rfl rfl rfl rfl rfl h6) rfl trivial rfl rfl ?_
  obtain ⟨h7, h⟩ := chk_inv h
  refine op0 (sp_sub rfl rfl rfl h7) rfl trivial rfl rfl ?_
  refine op0 (sp_assign rfl rfl) rfl trivial rfl rfl ?_
  refine TL.nil ?_
  refine TC.region ?_
  refine op0 (sp_move rfl rfl) rfl trivial rfl rfl ?_
  obtain ⟨h8, h⟩ := chk_inv h
  refine op0 (sp_add rfl rfl rfl h8) rfl trivial rfl rfl ?_
  refine op0 (sp_assign rfl rfl) rfl trivial rfl rfl ?_
  refine TL.nil ?_
  refine TC.inBlock ?_
  refine TC.inLoop ?_
  refine TC.seq ?_
  refine TC.seq ?_
  refine subJ [] (hk_drop_clock_goes_l0 _ _ h) ?_ ?_ ?_
  · exact ⟨rfl, rfl, rfl, rfl, trivial⟩
  · exact ⟨mem_at 0 rfl, mem_at 1 rfl, mem_at 2 rfl, mem_at 3 rfl, trivial⟩
  · rfl
def ev_drop_clock_goes_l0 (n : Nat) (c1 : Int) (c2 : List (Int × Int)) (c3 : List (Int × Int × Int × Int)) (end_6 : (Int × Int) → Option Int) : Nat → Int → Int → Option Int
  | 0, _, _ => none
  | m + 1, i7, i8 => cond (decide (i8 < 2000)) ((ev_drop_clock_use n c1 c2 c3 i8).bind fun r9 => (end_6 (r9.1, r9.2)).bind fun r10 => cond (decide (r10 ≤ i7)) (ev_drop_clock_goes_j1 n c1 c2 c3 i8 end_6 i7 (fun i7q i8q => ev_drop_clock_goes_l0 n c1 c2 c3 end_6 m i7q i8q)) (some i8)) (some i8)
set_option maxRecDepth 100000 in
set_option maxHeartbeats 2000000 in
theorem ok_drop_clock_goes_l0 {n : Nat} {w0 : World} {R0 : Nat → Prop} {env0 : Env} {r : Int} {end_6 : (Int × Int) → Option Int} {c1 : Int} {c2 : List (Int × Int)} {c3 : List (Int × Int × Int × Int)} : ∀ (m : Nat) (i7 : Int) (i8 : Int), ev_drop_clock_goes_l0 n c1 c2 c3 end_6 m i7 i8 = some r → TC Try.prog ⟨w0, fun _ => False, R0⟩ 32 (bodyPost Try.prog Try.f66 (Post ⟨w0, fun _ => False, R0⟩ env0 (.val (.int .i64 r)) [])) [.code (sub (bodyOf Try.f66) [1, 1, 0, 0, 0, 0, 0]), .code (sub (bodyOf Try.f66) [1, 1, 0, 0, 0, 0, 1]), .code (sub (bodyOf Try.f66) [1, 1, 0, 0, 0, 1]), .inLoop (sub (bodyOf Try.f66) [1, 1, 0, 0, 0]), .inBlock 0, .code (sub (bodyOf Try.f66) [1, 1, 1])] ([(1, .val (.int .i64 i7)), (3, .ref 2), (4, .ptr 3 0), (9, .val (.int .i64 i8))]) ([.any 2 (D.fn Try.prog fe_funcapi_Span_int fd_funcapi_Span_int end_6), .blk 3 [.val (.int .i64 c1), .ref 0, .ref 1] 186, .ro 0 2 (List.map en_api_Span c2), .ro 1 4 (List.map en_api_DropVisit c3)]) := by
  intro m
  induction m with
  | zero => intro i7 i8 h; exact none_no h
  | succ m ih =>
    intro i7 i8 h
    rw [ev_drop_clock_goes_l0] at h
    refine TC.region ?_
    refine op0 (sp_move rfl rfl) rfl trivial rfl rfl ?_
    refine op0 (sp_lss rfl rfl rfl) rfl trivial rfl rfl ?_
    refine op0 (sp_move rfl rfl) rfl trivial rfl rfl ?_
    rcases cond_cases h with ⟨h1, h⟩ | ⟨h1, h⟩
    · refine (boolLit 13 rfl h1).2 ?_
      refine op0 (sp_move rfl rfl) rfl ⟨_, rfl, rfl⟩ rfl rfl ?_
      refine op0 (sp_move rfl rfl) rfl ⟨_, rfl, rfl⟩ rfl rfl ?_
      refine op1 1 rfl (sp_loadBA rfl isBlk rfl vt186 rfl rfl) rfl ⟨_, rfl, rfl⟩ rfl rfl ?_
      refine op0 (sp_move rfl rfl) rfl ⟨_, rfl, rfl⟩ rfl rfl ?_
      obtain ⟨r9, h2, h⟩ := bind_inv h
      refine opN (need := [.ro 0 2 (List.map en_api_Span c2), .ro 1 4 (List.map en_api_DropVisit c3)]) [2, 3] ⟨rfl, rfl, trivial⟩ (sp_call (avs := [.agg [.val (.int .i64 c1), .ref 0, .ref 1], .val (.int .i64 i8)]) (need := [.ro 0 2 (List.map en_api_Span c2), .ro 1 4 (List.map en_api_DropVisit c3)]) (v := .agg [.val (.int .i64 r9.1), .val (.int .i64 r9.2)]) (news := []) rfl rfl rfl Try.call144 (atJ [] [] (fc_drop_clock_use h2) rfl rfl) (.inl (roAll rfl))) rfl ⟨_, rfl, rfl⟩ rfl rfl ?_
      obtain ⟨r10, h3, h⟩ := bind_inv h
      refine op1 0 rfl (sp_callF (avs := [.agg [.val (.int .i64 r9.1), .val (.int .i64 r9.2)]]) (v := .val (.int .i64 r10)) (r9.1, r9.2) rfl rfl rfl rfl rfl h3) rfl ⟨_, rfl, rfl⟩ rfl rfl ?_
      refine op0 (sp_geq rfl rfl rfl) rfl ⟨_, rfl, rfl⟩ rfl rfl ?_
      refine op0 (sp_pickT rfl rfl rfl) rfl trivial rfl rfl ?_
      refine TL.nil ?_
      refine TC.cond (b := (decide (r10 ≤ i7))) rfl (fun h4 => ?_) (fun h4 => ?_)
      · have h := cond_t h h4
        refine subJ [] (ok_drop_clock_goes_j1 ih h) ?_ ?_ ?_
        · exact ⟨rfl, rfl, rfl, rfl, trivial⟩
        · exact ⟨mem_at 0 rfl, mem_at 1 rfl, mem_at 2 rfl, mem_at 3 rfl, trivial⟩
        · rfl
      · have h := cond_f h h4
        refine TC.exit rfl ?_
        refine TC.seq ?_
        refine TC.region ?_
        refine op0 (sp_move rfl rfl) rfl trivial rfl rfl ?_
        refine op0 (sp_assign rfl rfl) rfl trivial rfl rfl ?_
        refine TL.nil ?_
        cases h
        exact retJ [] (.tmp rfl .nil) rfl trivial rfl rfl
    · refine (boolLit 13 rfl h1).2 ?_
      refine opSkip rfl ⟨_, rfl, .inl rfl⟩ rfl ?_
      refine opSkip rfl ⟨_, rfl, .inl rfl⟩ rfl ?_
      refine opSkip rfl ⟨_, rfl, .inl rfl⟩ rfl ?_
      refine opSkip rfl ⟨_, rfl, .inl rfl⟩ rfl ?_
      refine opSkip rfl ⟨_, rfl, .inl rfl⟩ rfl ?_
      refine opSkip rfl ⟨_, rfl, .inl rfl⟩ rfl ?_
      refine opSkip rfl ⟨_, rfl, .inl rfl⟩ rfl ?_
      refine op0 (sp_pickF rfl rfl rfl) rfl trivial rfl rfl ?_
      refine TL.nil ?_
      refine TC.condF rfl ?_
      refine TC.exit rfl ?_
      refine TC.seq ?_
      refine TC.region ?_
      refine op0 (sp_move rfl rfl) rfl trivial rfl rfl ?_
      refine op0 (sp_assign rfl rfl) rfl trivial rfl rfl ?_
      refine TL.nil ?_
      cases h
      exact retJ [] (.tmp rfl .nil) rfl trivial rfl rfl
def ev_drop_clock_goes (n : Nat) (c1 : Int) (c2 : List (Int × Int)) (c3 : List (Int × Int × Int × Int)) (left4 : Int) (from_5 : Int) (end_6 : (Int × Int) → Option Int) : Option Int :=
  ev_drop_clock_goes_l0 n c1 c2 c3 end_6 n left4 from_5
set_option maxRecDepth 100000 in
set_option maxHeartbeats 2000000 in
theorem fc_drop_clock_goes {n : Nat} {c1 : Int} {c2 : List (Int × Int)} {c3 : List (Int × Int × Int × Int)} {left4 : Int} {from_5 : Int} {end_6 : (Int × Int) → Option Int} {r : Int} (h : ev_drop_clock_goes n c1 c2 c3 left4 from_5 end_6 = some r) : FC Try.prog 66 [.agg [.val (.int .i64 c1), .ref 0, .ref 1], .val (.int .i64 left4), .val (.int .i64 from_5), .ref 2] [.ro 0 2 (List.map en_api_Span c2), .ro 1 4 (List.map en_api_DropVisit c3), .any 2 (D.fn Try.prog fe_funcapi_Span_int fd_funcapi_Span_int end_6)] (.val (.int .i64 r)) [] := by
  refine introJ (nz := 32) Try.func66 rfl rfl rfl (fun w0 R0 env0 => ?_)
  rw [ev_drop_clock_goes] at h
  refine TC.seq ?_
  refine TC.region ?_
  refine op0 (sp_box 3 rfl rfl rfl rfl rfl) rfl trivial rfl rfl ?_
  refine op0 (sp_assign rfl rfl) rfl trivial rfl rfl ?_
  refine TL.nil ?_
  refine TC.seq ?_
  refine TC.region ?_
  refine op0 (sp_move rfl rfl) rfl trivial rfl rfl ?_
  refine op0 (sp_assign rfl rfl) rfl trivial rfl rfl ?_
  refine TL.nil ?_
  refine TC.seq ?_
  refine TC.block ?_
  refine TC.loop ?_
  refine TC.seq ?_
  refine TC.seq ?_
  refine subJ [] (ok_drop_clock_goes_l0 _ _ _ h) ?_ ?_ ?_
  · exact ⟨rfl, rfl, rfl, rfl, trivial⟩
  · exact ⟨mem_at 3 rfl, mem_at 0 rfl, mem_at 1 rfl, mem_at 2 rfl, trivial⟩
  · rfl
/- drop_high -/
def ev_drop_high (n : Nat) (s1 : Int) (s2 : Int) : Option Int :=
  some s2
set_option maxRecDepth 100000 in
set_option maxHeartbeats 2000000 in
theorem fc_drop_high {n : Nat} {s1 : Int} {s2 : Int} {r : Int} (h : ev_drop_high n s1 s2 = some r) : FC Try.prog 67 [.agg [.val (.int .i64 s1), .val (.int .i64 s2)]] [] (.val (.int .i64 r)) [] := by
  refine introJ (nz := 5) Try.func67 rfl rfl rfl (fun w0 R0 env0 => ?_)
  rw [ev_drop_high] at h
  refine TC.seq ?_
  refine TC.region ?_
  refine op0 (sp_box 0 rfl rfl rfl rfl rfl) rfl trivial rfl rfl ?_
  refine op0 (sp_assign rfl rfl) rfl trivial rfl rfl ?_
  refine TL.nil ?_
  refine TC.seq ?_
  refine TC.region ?_
  refine op1 0 rfl (sp_fieldAddrB rfl isBlk rfl ft34_1 vt3 (by decide)) rfl trivial rfl rfl ?_
  refine op1 0 rfl (sp_loadB rfl isBlk rfl vt3 rfl) rfl trivial rfl rfl ?_
  refine op0 (sp_assign rfl rfl) rfl trivial rfl rfl ?_
  refine TL.nil ?_
  cases h
  exact retJ [] (.tmp rfl .nil) rfl trivial rfl rfl
/- drop_low -/
def ev_drop_low (n : Nat) (s1 : Int) (s2 : Int) : Option Int :=
  some s1
set_option maxRecDepth 100000 in
set_option maxHeartbeats 2000000 in
theorem fc_drop_low {n : Nat} {s1 : Int} {s2 : Int} {r : Int} (h : ev_drop_low n s1 s2 = some r) : FC Try.prog 68 [.agg [.val (.int .i64 s1), .val (.int .i64 s2)]] [] (.val (.int .i64 r)) [] := by
  refine introJ (nz := 5) Try.func68 rfl rfl rfl (fun w0 R0 env0 => ?_)
  rw [ev_drop_low] at h
  refine TC.seq ?_
  refine TC.region ?_
  refine op0 (sp_box 0 rfl rfl rfl rfl rfl) rfl trivial rfl rfl ?_
  refine op0 (sp_assign rfl rfl) rfl trivial rfl rfl ?_
  refine TL.nil ?_
  refine TC.seq ?_
  refine TC.region ?_
  refine op1 0 rfl (sp_fieldAddrB rfl isBlk rfl ft34_0 vt3 (by decide)) rfl trivial rfl rfl ?_
  refine op1 0 rfl (sp_loadB rfl isBlk rfl vt3 rfl) rfl trivial rfl rfl ?_
  refine op0 (sp_assign rfl rfl) rfl trivial rfl rfl ?_
  refine TL.nil ?_
  cases h
  exact retJ [] (.tmp rfl .nil) rfl trivial rfl rfl
/- drop_Goes -/
def ev_drop_Goes_j0 (n : Nat) (c1 : Int) (c2 : List (Int × Int)) (start3 : Int) (from_4 : Int) (b7 : Bool) : Option (Int × Int × Int) :=
  cond b7 (some (0, 0, 3)) ((ev_drop_clock_goes n c1 c2 ([]) start3 from_4 (fun a => ev_drop_high n a.1 a.2)).bind fun r8 => (ev_drop_clock_goes n c1 c2 ([]) start3 from_4 (fun a => ev_drop_low n a.1 a.2)).bind fun r9 => some (r8, r9, 0))
set_option maxRecDepth 100000 in
set_option maxHeartbeats 2000000 in
theorem ok_drop_Goes_j0 {n : Nat} {w0 : World} {R0 : Nat → Prop} {env0 : Env} {r : Int × Int × Int} {start3 : Int} {from_4 : Int} {c1 : Int} {c2 : List (Int × Int)} {b7 : Bool} (h : ev_drop_Goes_j0 n c1 c2 start3 from_4 b7 = some r) : TC Try.prog ⟨w0, fun _ => False, R0⟩ 37 (bodyPost Try.prog Try.f23 (Post ⟨w0, fun _ => False, R0⟩ env0 (.tup [.agg [.val (.int .i64 r.1), .val (.int .i64 r.2.1)], .val (.int .i64 r.2.2)]) [])) [.code (sub (bodyOf Try.f23) [1, 0, 0, 1, 1, 1]), .inBlock 0, .code (sub (bodyOf Try.f23) [1, 1])] ([(1, .val (.int .i64 start3)), (2, .val (.int .i64 from_4)), (3, .ptr 1 0), (6, .ptr 2 0), (14, .val (.bool b7))]) ([.blk 1 [.val (.int .i64 c1), .ref 0] 42, .blk 2 [.val (.int .i64 0), .val (.int .i64 0)] 34, .ro 0 2 (List.map en_api_Span c2)]) := by
  rw [ev_drop_Goes_j0] at h
  refine TC.cond (b := b7) rfl (fun h5 => ?_) (fun h5 => ?_)
  · have h := cond_t h h5
    refine TC.seq ?_
    refine TC.region ?_
    refine op1 1 rfl (sp_loadBA rfl isBlk rfl vt34 rfl rfl) rfl trivial rfl rfl ?_
    refine stoB 1 (cells' := [.val (.int .i64 0), .val (.int .i64 0)]) rfl rfl trivial rfl rfl rfl rfl vt34 rfl rfl rfl ?_
    refine op0 (sp_assign rfl rfl) rfl trivial rfl rfl ?_
    refine TL.nil ?_
    cases h
    exact retJ [] (.cells rfl (mem_at 1 rfl) isBlk vt34 rfl rfl (.tmp rfl .nil)) rfl trivial rfl rfl
  · have h := cond_f h h5
    refine TC.skip ?_
    refine TC.inBlock ?_
    refine TC.seq ?_
    refine TC.region ?_
    refine op1 0 rfl (sp_loadBA rfl isBlk rfl vt42 rfl rfl) rfl trivial rfl rfl ?_
    refine op0 (sp_build (qs := [(0, .agg [.val (.int .i64 c1), .ref 0])]) rfl bt186 rfl rfl rfl rfl) rfl trivial rfl rfl ?_
    refine op0 (sp_alloc 4 rfl Try.zeroValue186 rfl) rfl trivial rfl rfl ?_
    refine stoB 0 (cells' := [.val (.int .i64 c1), .ref 0, .val (.slice none 0 0)]) rfl rfl trivial rfl rfl rfl rfl vt186 rfl rfl rfl ?_
    refine TL.nil ?_
    refine TC.seq ?_
    obtain ⟨r8, h6, h⟩ := bind_inv h
    refine drawJ 7 [⟨.agg [.val (.int .i64 c1), .ref 0, .val (.slice none 0 0)], [], [.blk 4 [.val (.int .i64 c1), .ref 0, .val (.slice none 0 0)] 186], []⟩, ⟨.val (.int .i64 start3), [], [], []⟩, ⟨.val (.int .i64 from_4), [], [], []⟩, ⟨.val (.int .i64 r8), [], [.ro 0 2 (List.map en_api_Span c2)], []⟩, ⟨.agg [.val (.int .i64 c1), .ref 0, .val (.slice none 0 0)], [], [.blk 4 [.val (.int .i64 c1), .ref 0, .val (.slice none 0 0)] 186], []⟩, ⟨.val (.int .i64 start3), [], [], []⟩, ⟨.val (.int .i64 from_4), [], [], []⟩] rfl ?_ rfl ?_ rfl ?_ ?_
    · kernel_rfl
    · kernel_rfl
    · exact DAll.op' (sp_loadBA rfl isBlk rfl vt186 rfl rfl) trivial rfl (From.ok (ps := [(none, 0)]) ⟨⟨rfl, rfl⟩, trivial⟩) (DAll.op' (sp_move rfl rfl) trivial rfl (From.ok (ps := []) trivial) (DAll.op' (sp_move rfl rfl) trivial rfl (From.ok (ps := []) trivial) (DAll.op' (sp_call (avs := [.agg [.val (.int .i64 c1), .ref 0, .val (.slice none 0 0)], .val (.int .i64 start3), .val (.int .i64 from_4), .fn 67 [] []]) (need := [.ro 0 2 (List.map en_api_Span c2)]) (v := .val (.int .i64 r8)) (news := []) rfl rfl rfl Try.call66 (FC.fnArg (args := [.agg [.val (.int .i64 c1), .ref 0, .val (.slice none 0 0)], .val (.int .i64 start3), .val (.int .i64 from_4), .ref 6]) (needC := []) (need := [.ro 0 2 (List.map en_api_Span c2)]) 3 (first := []) (caps := []) (FC.needJ (need := [.any 6 (D.fn Try.prog fe_funcapi_Span_int fd_funcapi_Span_int (fun a => ev_drop_high n a.1 a.2)), .ro 0 2 (List.map en_api_Span c2)]) (need' := [.ro 0 2 (List.map en_api_Span c2), .any 6 (D.fn Try.prog fe_funcapi_Span_int fd_funcapi_Span_int (fun a => ev_drop_high n a.1 a.2))]) [1, 0] ⟨rfl, rfl, trivial⟩ (FC.nil (args := [.agg [.val (.int .i64 c1), .ref 0, .ref 5], .val (.int .i64 start3), .val (.int .i64 from_4), .ref 6]) 5 4 (FC.needJ (need := [.ro 5 4 (List.map en_api_DropVisit ([])), .ro 0 2 (List.map en_api_Span c2), .any 6 (D.fn Try.prog fe_funcapi_Span_int fd_funcapi_Span_int (fun a => ev_drop_high n a.1 a.2))]) (need' := [.ro 0 2 (List.map en_api_Span c2), .ro 5 4 (List.map en_api_DropVisit ([])), .any 6 (D.fn Try.prog fe_funcapi_Span_int fd_funcapi_Span_int (fun a => ev_drop_high n a.1 a.2))]) [1, 0, 2] ⟨rfl, rfl, rfl, trivial⟩ (atJ [(1, 5), (2, 6)] [] (fc_drop_clock_goes h6) rfl rfl)) rfl rfl rfl)) rfl Try.call67 (fun a b hab => atJ [] [] (fc_drop_high hab) rfl rfl) rfl (fun _ => rfl) (fun _ => rfl) rfl rfl rfl rfl rfl rfl rfl) (.inl (roAll rfl))) trivial rfl (From.ok (ps := [(none, 3)]) ⟨⟨rfl, rfl⟩, trivial⟩) (DAll.op' (sp_loadBA rfl isBlk rfl vt186 rfl rfl) trivial rfl (From.ok (ps := [(none, 0)]) ⟨⟨rfl, rfl⟩, trivial⟩) (DAll.op' (sp_move rfl rfl) trivial rfl (From.ok (ps := []) trivial) (DAll.op' (sp_move rfl rfl) trivial rfl (From.ok (ps := []) trivial) (.nil)))))))
    obtain ⟨r9, h7, h⟩ := bind_inv h
    refine op1 3 rfl (sp_call (avs := [.agg [.val (.int .i64 c1), .ref 0, .val (.slice none 0 0)], .val (.int .i64 start3), .val (.int .i64 from_4), .fn 68 [] []]) (need := [.ro 0 2 (List.map en_api_Span c2)]) (v := .val (.int .i64 r9)) (news := []) rfl rfl rfl Try.call66 (FC.fnArg (args := [.agg [.val (.int .i64 c1), .ref 0, .val (.slice none 0 0)], .val (.int .i64 start3), .val (.int .i64 from_4), .ref 8]) (needC := []) (need := [.ro 0 2 (List.map en_api_Span c2)]) 3 (first := []) (caps := []) (FC.needJ (need := [.any 8 (D.fn Try.prog fe_funcapi_Span_int fd_funcapi_Span_int (fun a => ev_drop_low n a.1 a.2)), .ro 0 2 (List.map en_api_Span c2)]) (need' := [.ro 0 2 (List.map en_api_Span c2), .any 8 (D.fn Try.prog fe_funcapi_Span_int fd_funcapi_Span_int (fun a => ev_drop_low n a.1 a.2))]) [1, 0] ⟨rfl, rfl, trivial⟩ (FC.nil (args := [.agg [.val (.int .i64 c1), .ref 0, .ref 7], .val (.int .i64 start3), .val (.int .i64 from_4), .ref 8]) 7 4 (FC.needJ (need := [.ro 7 4 (List.map en_api_DropVisit ([])), .ro 0 2 (List.map en_api_Span c2), .any 8 (D.fn Try.prog fe_funcapi_Span_int fd_funcapi_Span_int (fun a => ev_drop_low n a.1 a.2))]) (need' := [.ro 0 2 (List.map en_api_Span c2), .ro 7 4 (List.map en_api_DropVisit ([])), .any 8 (D.fn Try.prog fe_funcapi_Span_int fd_funcapi_Span_int (fun a => ev_drop_low n a.1 a.2))]) [1, 0, 2] ⟨rfl, rfl, rfl, trivial⟩ (atJ [(1, 7), (2, 8)] [] (fc_drop_clock_goes h7) rfl rfl)) rfl rfl rfl)) rfl Try.call68 (fun a b hab => atJ [] [] (fc_drop_low hab) rfl rfl) rfl (fun _ => rfl) (fun _ => rfl) rfl rfl rfl rfl rfl rfl rfl) (.inl (roAll rfl))) rfl trivial rfl rfl ?_
    refine op0 (sp_build (qs := [(0, .val (.int .i64 r8)), (1, .val (.int .i64 r9))]) rfl bt34 rfl rfl rfl rfl) rfl trivial rfl rfl ?_
    refine stoB 2 (cells' := [.val (.int .i64 r8), .val (.int .i64 r9)]) rfl rfl trivial rfl rfl rfl rfl vt34 rfl rfl rfl ?_
    refine op0 (sp_assign rfl rfl) rfl trivial rfl rfl ?_
    refine TL.nil ?_
    cases h
    exact retJ [] (.cells rfl (mem_at 2 rfl) isBlk vt34 rfl rfl (.tmp rfl .nil)) rfl trivial rfl rfl
def ev_drop_Goes (n : Nat) (c1 : Int) (c2 : List (Int × Int)) (start3 : Int) (from_4 : Int) : Option (Int × Int × Int) :=
  (ev_drop_Check n c1 c2).bind fun r5 => cond (r5 != 0) (some (0, 0, 2)) ((ev_drop_within n 0 c1 ([start3] : List Int)).bind fun r6 => cond (!r6) (ev_drop_Goes_j0 n c1 c2 start3 from_4 (!r6)) ((ev_drop_within n 0 2000 ([from_4] : List Int)).bind fun r10 => ev_drop_Goes_j0 n c1 c2 start3 from_4 (!r10)))
set_option maxRecDepth 100000 in
set_option maxHeartbeats 2000000 in
theorem fc_drop_Goes {n : Nat} {c1 : Int} {c2 : List (Int × Int)} {start3 : Int} {from_4 : Int} {r : Int × Int × Int} (h : ev_drop_Goes n c1 c2 start3 from_4 = some r) : FC Try.prog 23 [.agg [.val (.int .i64 c1), .ref 0], .val (.int .i64 start3), .val (.int .i64 from_4)] [.ro 0 2 (List.map en_api_Span c2)] (.tup [.agg [.val (.int .i64 r.1), .val (.int .i64 r.2.1)], .val (.int .i64 r.2.2)]) [] := by
  refine introJ (nz := 37) Try.func23 rfl rfl rfl (fun w0 R0 env0 => ?_)
  rw [ev_drop_Goes] at h
  refine TC.seq ?_
  refine TC.region ?_
  refine op0 (sp_box 1 rfl rfl rfl rfl rfl) rfl trivial rfl rfl ?_
  refine op0 (sp_alloc 2 rfl Try.zeroValue34 rfl) rfl trivial rfl rfl ?_
  refine op0 (sp_assign rfl rfl) rfl trivial rfl rfl ?_
  refine TL.nil ?_
  refine TC.seq ?_
  refine TC.block ?_
  refine TC.seq ?_
  refine TC.region ?_
  refine op1 1 rfl (sp_loadBA rfl isBlk rfl vt42 rfl rfl) rfl trivial rfl rfl ?_
  obtain ⟨r5, h1, h⟩ := bind_inv h
  refine op1 2 rfl (sp_call (avs := [.agg [.val (.int .i64 c1), .ref 0]]) (need := [.ro 0 2 (List.map en_api_Span c2)]) (v := .val (.int .i64 r5)) (news := []) rfl rfl rfl Try.call64 (atJ [] [] (fc_drop_Check h1) rfl rfl) (.inl (roAll rfl))) rfl trivial rfl rfl ?_
  refine op0 (sp_neq rfl rfl rfl) rfl trivial rfl rfl ?_
  refine op0 (sp_assign rfl rfl) rfl trivial rfl rfl ?_
  refine TL.nil ?_
  refine TC.cond (b := (r5 != 0)) rfl (fun h2 => ?_) (fun h2 => ?_)
  · have h := cond_t h h2
    refine TC.seq ?_
    refine TC.region ?_
    refine op1 0 rfl (sp_loadBA rfl isBlk rfl vt34 rfl rfl) rfl trivial rfl rfl ?_
    refine stoB 0 (cells' := [.val (.int .i64 0), .val (.int .i64 0)]) rfl rfl trivial rfl rfl rfl rfl vt34 rfl rfl rfl ?_
    refine op0 (sp_assign rfl rfl) rfl trivial rfl rfl ?_
    refine TL.nil ?_
    cases h
    exact retJ [] (.cells rfl (mem_at 0 rfl) isBlk vt34 rfl rfl (.tmp rfl .nil)) rfl trivial rfl rfl
  · have h := cond_f h h2
    refine TC.seq ?_
    refine TC.seq ?_
    refine TC.region ?_
    refine op1 1 rfl (sp_fieldAddrB rfl isBlk rfl ft42_0 vt3 (by decide)) rfl trivial rfl rfl ?_
    refine op1 1 rfl (sp_loadB rfl isBlk rfl vt3 rfl) rfl trivial rfl rfl ?_
    refine op0 (sp_move rfl rfl) rfl trivial rfl rfl ?_
    refine op0 (sp_buildSlice (qs := [.val (.int .i64 start3)]) (need := []) (els := List.map en_int ([start3] : List Int)) 3 rfl sl50 (by decide) (by decide) rfl rfl rfl (.v (.nil)) (map_len fun _ => rfl) rfl rfl rfl) rfl trivial rfl rfl ?_
    obtain ⟨r6, h3, h⟩ := bind_inv h
    refine op1 0 rfl (sp_call (avs := [.val (.int .i64 0), .val (.int .i64 c1), .ref 3]) (need := [.row 3 3 1 (List.map en_int ([start3] : List Int))]) (v := .val (.bool r6)) (news := []) rfl rfl rfl Try.call65 (atJ [(0, 3)] [] (fc_drop_within h3) rfl rfl) (.inr (fun x hx => nomatch hx))) rfl trivial rfl rfl ?_
    refine op0 (sp_not rfl rfl) rfl trivial rfl rfl ?_
    refine op0 (sp_assign rfl rfl) rfl trivial rfl rfl ?_
    refine TL.nil ?_
    refine TC.cond (b := (!r6)) rfl (fun h4 => ?_) (fun h4 => ?_)
    · have h := cond_t h h4
      refine TC.skip ?_
      refine subJ [] (ok_drop_Goes_j0 h) ?_ ?_ ?_
      · exact ⟨rfl, rfl, rfl, rfl, rfl, trivial⟩
      · exact ⟨mem_at 2 rfl, mem_at 1 rfl, mem_at 3 rfl, trivial⟩
      · rfl
    · have h := cond_f h h4
      refine TC.region ?_
      refine op0 (sp_move rfl rfl) rfl trivial rfl rfl ?_
      refine op0 (sp_buildSlice (qs := [.val (.int .i64 from_4)]) (need := []) (els := List.map en_int ([from_4] : List Int)) 9 rfl sl50 (by decide) (by decide) rfl rfl rfl (.v (.nil)) (map_len fun _ => rfl) rfl rfl rfl) rfl trivial rfl rfl ?_
      obtain ⟨r10, h8, h⟩ := bind_inv h
      refine op1 0 rfl (sp_call (avs := [.val (.int .i64 0), .val (.int .i64 2000), .ref 9]) (need := [.row 9 3 1 (List.map en_int ([from_4] : List Int))]) (v := .val (.bool r10)) (news := []) rfl rfl rfl Try.call65 (atJ [(0, 9)] [] (fc_drop_within h8) rfl rfl) (.inr (fun x hx => nomatch hx))) rfl trivial rfl rfl ?_
      refine op0 (sp_not rfl rfl) rfl trivial rfl rfl ?_
      refine op0 (sp_assign rfl rfl) rfl trivial rfl rfl ?_
      refine TL.nil ?_
      refine subJ [] (ok_drop_Goes_j0 h) ?_ ?_ ?_
      · exact ⟨rfl, rfl, rfl, rfl, rfl, trivial⟩
      · exact ⟨mem_at 3 rfl, mem_at 2 rfl, mem_at 4 rfl, trivial⟩
      · rfl
/- top_pubDrop -/
def ev_top_pubDrop (n : Nat) : Option Bool :=
  (ev_top_pubSpan n 2 2).bind fun r1 => (ev_top_pubHours n r1.1 r1.2).bind fun r2 => idx r2 0 fun x3 => (ev_drop_Goes n 100 (List.set r2 (0 : Int).toNat (x3.1, 3)) 10 0).bind fun r4 => cond (r4.2.2 == 0) ((ev_top_pubSpan n 4 5).bind fun r5 => some ((r4.1 == r5.1) && (r4.2.1 == r5.2))) (some false)
set_option maxRecDepth 100000 in
set_option maxHeartbeats 2000000 in
theorem fc_top_pubDrop {n : Nat}  {r : Bool} (h : ev_top_pubDrop n = some r) : FC Try.prog 19 [] [] (.val (.bool r)) [] := by
  refine introJ (nz := 23) Try.func19 rfl rfl rfl (fun w0 R0 env0 => ?_)
  rw [ev_top_pubDrop] at h
  refine TC.seq ?_
  refine TC.region ?_
  refine op0 (sp_assign rfl rfl) rfl trivial rfl rfl ?_
  refine TL.nil ?_
  refine TC.seq ?_
  refine TC.region ?_
  obtain ⟨r1, h1, h⟩ := bind_inv h
  refine op0 (sp_call (avs := [.val (.int .i64 2), .val (.int .i64 2)]) (need := []) (v := .agg [.val (.int .i64 r1.1), .val (.int .i64 r1.2)]) (news := []) rfl rfl rfl Try.call20 (atJ [] [] (fc_top_pubSpan h1) rfl rfl) (.inl (roAll rfl))) rfl trivial rfl rfl ?_
  obtain ⟨r2, h2, h⟩ := bind_inv h
  refine op0 (sp_call (avs := [.agg [.val (.int .i64 r1.1), .val (.int .i64 r1.2)]]) (need := []) (v := .ref 0) (news := [.row 0 34 2 (List.map en_api_Span r2)]) rfl rfl rfl Try.call24 (atJ [] [] (fc_top_pubHours h2) rfl rfl) (.inl (roAll rfl))) rfl trivial rfl rfl ?_
  refine op0 (sp_build (qs := [(0, .val (.int .i64 100)), (1, .ref 0)]) rfl bt42 rfl rfl rfl rfl) rfl trivial rfl rfl ?_
  refine op0 (sp_alloc 1 rfl Try.zeroValue42 rfl) rfl trivial rfl rfl ?_
  refine stoB 0 (cells' := [.val (.int .i64 100), .ref 0]) rfl rfl trivial rfl rfl rfl rfl vt42 rfl rfl rfl ?_
  refine TL.nil ?_
  refine TC.seq ?_
  refine TC.region ?_
  refine op1 0 rfl (sp_fieldAddrB rfl isBlk rfl ft42_1 vt39 (by decide)) rfl trivial rfl rfl ?_
  refine op1 0 rfl (sp_loadB rfl isBlk rfl vt39 rfl) rfl trivial rfl rfl ?_
  obtain ⟨x3, h3, h4, h⟩ := idx_inv h
  refine op1 1 rfl (sp_indexS rfl rfl rfl isOwn sl39 h3 (map_get _ h4)) rfl trivial rfl rfl ?_
  refine op1 1 rfl (sp_fieldAddrR (i := (0 : Int).toNat) rfl rfl isOwn ft34_1 vt3 (by decide) (map_get _ h4) (fun h => nomatch h)) rfl trivial rfl rfl ?_
  refine stoR 1 ((0 : Int).toNat) 1 (need := []) [] rfl rfl trivial rfl rfl rfl rfl vt3 rfl rfl (map_get _ h4) rfl rfl trivial (.v (.nil)) (map_set r2 en_api_Span ((0 : Int).toNat) (x3.1, 3)) ?_
  refine TL.nil ?_
  refine TC.seq ?_
  refine TC.region ?_
  refine op1 0 rfl (sp_loadBA rfl isBlk rfl vt42 rfl rfl) rfl trivial rfl rfl ?_
  obtain ⟨r4, h5, h⟩ := bind_inv h
  refine op1 1 rfl (sp_call (avs := [.agg [.val (.int .i64 100), .ref 0], .val (.int .i64 10), .val (.int .i64 0)]) (need := [.row 0 34 2 (List.map en_api_Span (List.set r2 (0 : Int).toNat (x3.1, 3)))]) (v := .tup [.agg [.val (.int .i64 r4.1), .val (.int .i64 r4.2.1)], .val (.int .i64 r4.2.2)]) (news := []) rfl rfl rfl Try.call23 (atJ [] [] (fc_drop_Goes h5) rfl rfl) (.inr (fun x hx => nomatch hx))) rfl trivial rfl rfl ?_
  refine op0 (sp_move rfl rfl) rfl trivial rfl rfl ?_
  refine op0 (sp_extract rfl rfl rfl) rfl trivial rfl rfl ?_
  refine op0 (sp_extract rfl rfl rfl) rfl trivial rfl rfl ?_
  refine op0 (sp_alloc 2 rfl Try.zeroValue34 rfl) rfl trivial rfl rfl ?_
  refine stoB 0 (cells' := [.val (.int .i64 r4.1), .val (.int .i64 r4.2.1)]) rfl rfl trivial rfl rfl rfl rfl vt34 rfl rfl rfl ?_
  refine op0 (sp_assign rfl rfl) rfl trivial rfl rfl ?_
  refine TL.nil ?_
  refine TC.seq ?_
  rcases cond_cases h with ⟨h6, h⟩ | ⟨h6, h⟩
  · obtain ⟨r5, h7, h⟩ := bind_inv h
    refine drawJ 5 [⟨.val (.int .i64 r4.2.2), [], [], []⟩, ⟨.val (.bool (r4.2.2 == 0)), [], [], []⟩, ⟨.val (.bool true), [], [], []⟩, ⟨.agg [.val (.int .i64 r4.1), .val (.int .i64 r4.2.1)], [], [.blk 2 [.val (.int .i64 r4.1), .val (.int .i64 r4.2.1)] 34], []⟩, ⟨.agg [.val (.int .i64 r5.1), .val (.int .i64 r5.2)], [], [], []⟩] rfl ?_ rfl ?_ rfl ?_ ?_
    · kernel_rfl
    · kernel_rfl
    · exact DAll.op' (sp_move rfl rfl) trivial rfl (From.ok (ps := []) trivial) (DAll.op' (sp_eql rfl rfl rfl) trivial rfl (From.ok (ps := []) trivial) (DAll.op' (sp_castB h6 (sp_move rfl rfl)) trivial rfl (From.ok (ps := []) trivial) (DAll.op' (sp_loadBA rfl isBlk rfl vt34 rfl rfl) ⟨_, rfl, rfl⟩ rfl (From.ok (ps := [(none, 0)]) ⟨⟨rfl, rfl⟩, trivial⟩) (DAll.op' (sp_call (avs := [.val (.int .i64 4), .val (.int .i64 5)]) (need := []) (v := .agg [.val (.int .i64 r5.1), .val (.int .i64 r5.2)]) (news := []) rfl rfl rfl Try.call20 (atJ [] [] (fc_top_pubSpan h7) rfl rfl) (.inl (roAll rfl))) ⟨_, rfl, rfl⟩ rfl (From.ok (ps := []) trivial) (.nil)))))
    refine op0 (sp_eqlS rfl rfl rfl rfl rfl (eq34 _ _ _ _)) rfl ⟨_, rfl, rfl⟩ rfl rfl ?_
    refine op0 (sp_pickT rfl rfl rfl) rfl trivial rfl rfl ?_
    refine op0 (sp_assign rfl rfl) rfl trivial rfl rfl ?_
    refine TL.nil ?_
    cases h
    exact retJ [] (.tmp rfl .nil) rfl trivial rfl rfl
  · refine drawJ 5 [⟨.val (.int .i64 r4.2.2), [], [], []⟩, ⟨.val (.bool (r4.2.2 == 0)), [], [], []⟩, ⟨.val (.bool false), [], [], []⟩, ⟨.val (undef), [], [], []⟩, ⟨.val (undef), [], [], []⟩] rfl ?_ rfl ?_ rfl ?_ ?_
    · kernel_rfl
    · kernel_rfl
    · exact DAll.op' (sp_move rfl rfl) trivial rfl (From.ok (ps := []) trivial) (DAll.op' (sp_eql rfl rfl rfl) trivial rfl (From.ok (ps := []) trivial) (DAll.op' (sp_castB h6 (sp_move rfl rfl)) trivial rfl (From.ok (ps := []) trivial) (.skip ⟨_, rfl, .inl rfl⟩ rfl rfl rfl (.skip ⟨_, rfl, .inl rfl⟩ rfl rfl rfl (.nil)))))
    refine opSkip rfl ⟨_, rfl, .inl rfl⟩ rfl ?_
    refine op0 (sp_pickF rfl rfl rfl) rfl trivial rfl rfl ?_
    refine op0 (sp_assign rfl rfl) rfl trivial rfl rfl ?_
    refine TL.nil ?_
    cases h
    exact retJ [] (.tmp rfl .nil) rfl trivial rfl rfl
/- drop_Rig -/
def ev_drop_Rig_l2 (n : Nat) (i10 : Int) (i8 : Int) (i12 : Int) (i13 : Int) : Nat → Int → Option (Int × Int × Int)
  | 0, _ => none
  | m + 1, i16 => cond (decide (i16 < 8)) (chk (in64 (i16 + 1)) <| chk (in64 (i16 + 1)) <| chk (in64 ((i16 + 1) * i10)) <| cond (decide (i8 ≤ ((i16 + 1) * i10))) (cond (decide (((i16 + 1) * i10) ≤ 3000)) (chk (in64 ((i16 + 1) * i12)) <| cond (decide (((i16 + 1) * i12) ≤ i13)) (some ((i16 + 1), ((i16 + 1) * i10), 0)) (chk (in64 (i16 + 1)) <| ev_drop_Rig_l2 n i10 i8 i12 i13 m (i16 + 1))) (chk (in64 (i16 + 1)) <| ev_drop_Rig_l2 n i10 i8 i12 i13 m (i16 + 1))) (chk (in64 (i16 + 1)) <| ev_drop_Rig_l2 n i10 i8 i12 i13 m (i16 + 1))) (some (0, 0, 7))
set_option maxRecDepth 100000 in
set_option maxHeartbeats 2000000 in
theorem ok_drop_Rig_l2 {n : Nat} {w0 : World} {R0 : Nat → Prop} {env0 : Env} {r : Int × Int × Int} {i8 : Int} {i10 : Int} {i11 : Int} {i12 : Int} {i13 : Int} {l14 : List (Int × Int)} : ∀ (m : Nat) (i16 : Int), ev_drop_Rig_l2 n i10 i8 i12 i13 m i16 = some r → TC Try.prog ⟨w0, fun _ => False, R0⟩ 70 (bodyPost Try.prog Try.f30 (Post ⟨w0, fun _ => False, R0⟩ env0 (.tup [.val (.int .i64 r.1), .val (.int .i64 r.2.1), .val (.int .i64 r.2.2)]) [])) [.code (sub (bodyOf Try.f30) [1, 1, 1, 1, 0, 1, 0, 0, 0]), .code (sub (bodyOf Try.f30) [1, 1, 1, 1, 0, 1, 0, 0, 1]), .inLoop (sub (bodyOf Try.f30) [1, 1, 1, 1, 0, 1, 0, 0]), .inBlock 2, .code (sub (bodyOf Try.f30) [1, 1, 1, 1, 1])] ([(1, .ptr 1 0), (5, .val (.int .i64 i8)), (41, .val (.int .i64 i16))]) ([.blk 1 [.val (.int .i64 i10), .val (.int .i64 i11), .val (.int .i64 i12), .val (.int .i64 i13), .ref 0] 58, .ro 0 2 (List.map en_api_Span l14)]) := by
  intro m
  induction m with
  | zero => intro i16 h; exact none_no h
  | succ m ih =>
    intro i16 h
    rw [ev_drop_Rig_l2] at h
    refine TC.region ?_
    refine op0 (sp_lss rfl rfl rfl) rfl trivial rfl rfl ?_
    refine TL.nil ?_
    refine TC.seq ?_
    refine TC.cond (b := (decide (i16 < 8))) rfl (fun h11 => ?_) (fun h11 => ?_)
    · have h := cond_t h h11
      refine TC.skip ?_
      refine TC.seq ?_
      refine TC.block ?_
      refine TC.seq ?_
      refine TC.region ?_
      refine op0 (sp_move rfl rfl) rfl trivial rfl rfl ?_
      refine op0 (sp_assign rfl rfl) rfl trivial rfl rfl ?_
      refine TL.nil ?_
      refine TC.seq ?_
      obtain ⟨h12, h⟩ := chk_inv h
      obtain ⟨h13, h⟩ := chk_inv h
      obtain ⟨h14, h⟩ := chk_inv h
      refine drawJ 8 [⟨.val (.int .i64 i16), [], [], []⟩, ⟨.val (.int .i64 (i16 + 1)), [], [], []⟩, ⟨.val (.int .i64 i16), [], [], []⟩, ⟨.val (.int .i64 (i16 + 1)), [], [], []⟩, ⟨.ptr 1 0, [], [.blk 1 [.val (.int .i64 i10), .val (.int .i64 i11), .val (.int .i64 i12), .val (.int .i64 i13), .ref 0] 58], []⟩, ⟨.val (.int .i64 i10), [], [.blk 1 [.val (.int .i64 i10), .val (.int .i64 i11), .val (.int .i64 i12), .val (.int .i64 i13), .ref 0] 58], []⟩, ⟨.val (.int .i64 ((i16 + 1) * i10)), [], [], []⟩, ⟨.val (.int .i64 (i16 + 1)), [], [], []⟩] rfl ?_ rfl ?_ rfl ?_ ?_
      · kernel_rfl
      · kernel_rfl
      · exact DAll.op' (sp_move rfl rfl) trivial rfl (From.ok (ps := []) trivial) (DAll.op' (sp_add rfl rfl rfl h12) trivial rfl (From.ok (ps := []) trivial) (DAll.op' (sp_move rfl rfl) trivial rfl (From.ok (ps := []) trivial) (DAll.op' (sp_add rfl rfl rfl h13) trivial rfl (From.ok (ps := []) trivial) (DAll.op' (sp_fieldAddrB rfl isBlk rfl ft58_0 vt3 (by decide)) trivial rfl (From.ok (ps := [(none, 0)]) ⟨⟨rfl, rfl⟩, trivial⟩) (DAll.op' (sp_loadB rfl isBlk rfl vt3 rfl) trivial rfl (From.ok (ps := [(none, 0)]) ⟨⟨rfl, rfl⟩, trivial⟩) (DAll.op' (sp_mul rfl rfl rfl h14) trivial rfl (From.ok (ps := []) trivial) (DAll.op' (sp_assign rfl rfl) trivial rfl (From.ok (ps := []) trivial) (.nil))))))))
      refine op0 (sp_assign rfl rfl) rfl trivial rfl rfl ?_
      refine TL.nil ?_
      refine TC.seq ?_
      refine TC.region ?_
      refine op0 (sp_move rfl rfl) rfl trivial rfl rfl ?_
      refine op0 (sp_move rfl rfl) rfl trivial rfl rfl ?_
      refine op0 (sp_geq rfl rfl rfl) rfl trivial rfl rfl ?_
      refine op0 (sp_move rfl rfl) rfl trivial rfl rfl ?_
      rcases cond_cases h with ⟨h15, h⟩ | ⟨h15, h⟩
      · refine (boolLit 54 rfl h15).2 ?_
        refine op0 (sp_move rfl rfl) rfl ⟨_, rfl, rfl⟩ rfl rfl ?_
        refine op0 (sp_leq rfl rfl rfl) rfl ⟨_, rfl, rfl⟩ rfl rfl ?_
        refine op0 (sp_pickT rfl rfl rfl) rfl trivial rfl rfl ?_
        refine op0 (sp_move rfl rfl) rfl trivial rfl rfl ?_
        rcases cond_cases h with ⟨h16, h⟩ | ⟨h16, h⟩
        · refine (boolLit 58 rfl h16).2 ?_
          refine op0 (sp_move rfl rfl) rfl ⟨_, rfl, rfl⟩ rfl rfl ?_
          refine op1 0 rfl (sp_fieldAddrB rfl isBlk rfl ft58_2 vt3 (by decide)) rfl ⟨_, rfl, rfl⟩ rfl rfl ?_
          refine op1 0 rfl (sp_loadB rfl isBlk rfl vt3 rfl) rfl ⟨_, rfl, rfl⟩ rfl rfl ?_
          obtain ⟨h17, h⟩ := chk_inv h
          refine op0 (sp_mul rfl rfl rfl h17) rfl ⟨_, rfl, rfl⟩ rfl rfl ?_
          refine op1 0 rfl (sp_fieldAddrB rfl isBlk rfl ft58_3 vt3 (by decide)) rfl ⟨_, rfl, rfl⟩ rfl rfl ?_
          refine op1 0 rfl (sp_loadB rfl isBlk rfl vt3 rfl) rfl ⟨_, rfl, rfl⟩ rfl rfl ?_
          refine op0 (sp_leq rfl rfl rfl) rfl ⟨_, rfl, rfl⟩ rfl rfl ?_
          refine op0 (sp_pickT rfl rfl rfl) rfl trivial rfl rfl ?_
          refine TL.nil ?_
          refine TC.cond (b := (decide (((i16 + 1) * i12) ≤ i13))) rfl (fun h18 => ?_) (fun h18 => ?_)
          · have h := cond_t h h18
            refine TC.seq ?_
            refine TC.region ?_
            refine op0 (sp_move rfl rfl) rfl trivial rfl rfl ?_
            refine op0 (sp_move rfl rfl) rfl trivial rfl rfl ?_
            refine op0 (sp_assign rfl rfl) rfl trivial rfl rfl ?_
            refine op0 (sp_assign rfl rfl) rfl trivial rfl rfl ?_
            refine op0 (sp_assign rfl rfl) rfl trivial rfl rfl ?_
            refine TL.nil ?_
            cases h
            exact retJ [] (.tmp rfl (.tmp rfl (.tmp rfl .nil))) rfl trivial rfl rfl
          · have h := cond_f h h18
            refine TC.skip ?_
            refine TC.inBlock ?_
            refine TC.region ?_
            obtain ⟨h19, h⟩ := chk_inv h
            refine op0 (sp_add rfl rfl rfl h19) rfl trivial rfl rfl ?_
            refine op0 (sp_move rfl rfl) rfl trivial rfl rfl ?_
            refine TL.nil ?_
            refine TC.inLoop ?_
            refine TC.seq ?_
            refine subJ [] (ih _ h) ?_ ?_ ?_
            · exact ⟨rfl, rfl, rfl, trivial⟩
            · exact ⟨mem_at 0 rfl, mem_at 1 rfl, trivial⟩
            · rfl
        · refine (boolLit 58 rfl h16).2 ?_
          refine opSkip rfl ⟨_, rfl, .inl rfl⟩ rfl ?_
          refine opSkip rfl ⟨_, rfl, .inl rfl⟩ rfl ?_
          refine opSkip rfl ⟨_, rfl, .inl rfl⟩ rfl ?_
          refine opSkip rfl ⟨_, rfl, .inl rfl⟩ rfl ?_
          refine opSkip rfl ⟨_, rfl, .inl rfl⟩ rfl ?_
          refine opSkip rfl ⟨_, rfl, .inl rfl⟩ rfl ?_
          refine opSkip rfl ⟨_, rfl, .inl rfl⟩ rfl ?_
          refine op0 (sp_pickF rfl rfl rfl) rfl trivial rfl rfl ?_
          refine TL.nil ?_
          refine TC.condF rfl ?_
          refine TC.skip ?_
          refine TC.inBlock ?_
          refine TC.region ?_
          obtain ⟨h20, h⟩ := chk_inv h
          refine op0 (sp_add rfl rfl rfl h20) rfl trivial rfl rfl ?_
          refine op0 (sp_move rfl rfl) rfl trivial rfl rfl ?_
          refine TL.nil ?_
          refine TC.inLoop ?_
          refine TC.seq ?_
          refine subJ [] (ih _ h) ?_ ?_ ?_
          · exact ⟨rfl, rfl, rfl, trivial⟩
          · exact ⟨mem_at 0 rfl, mem_at 1 rfl, trivial⟩
          · rfl
      · refine (boolLit 54 rfl h15).2 ?_
        refine opSkip rfl ⟨_, rfl, .inl rfl⟩ rfl ?_
        refine opSkip rfl ⟨_, rfl, .inl rfl⟩ rfl ?_
        refine op0 (sp_pickF rfl rfl rfl) rfl trivial rfl rfl ?_
        refine op0 (sp_move rfl rfl) rfl trivial rfl rfl ?_
        refine opSkip rfl ⟨_, rfl, .inl rfl⟩ rfl ?_
        refine opSkip rfl ⟨_, rfl, .inl rfl⟩ rfl ?_
        refine opSkip rfl ⟨_, rfl, .inl rfl⟩ rfl ?_
        refine opSkip rfl ⟨_, rfl, .inl rfl⟩ rfl ?_
        refine opSkip rfl ⟨_, rfl, .inl rfl⟩ rfl ?_
        refine opSkip rfl ⟨_, rfl, .inl rfl⟩ rfl ?_
        refine opSkip rfl ⟨_, rfl, .inl rfl⟩ rfl ?_
        refine op0 (sp_pickF rfl rfl rfl) rfl trivial rfl rfl ?_
        refine TL.nil ?_
        refine TC.condF rfl ?_
        refine TC.skip ?_
        refine TC.inBlock ?_
        refine TC.region ?_
        obtain ⟨h21, h⟩ := chk_inv h
        refine op0 (sp_add rfl rfl rfl h21) rfl trivial rfl rfl ?_
        refine op0 (sp_move rfl rfl) rfl trivial rfl rfl ?_
        refine TL.nil ?_
        refine TC.inLoop ?_
        refine TC.seq ?_
        refine subJ [] (ih _ h) ?_ ?_ ?_
        · exact ⟨rfl, rfl, rfl, trivial⟩
        · exact ⟨mem_at 0 rfl, mem_at 1 rfl, trivial⟩
        · rfl
    · have h := cond_f h h11
      refine TC.exit rfl ?_
      refine TC.seq ?_
      refine TC.region ?_
      refine op0 (sp_assign rfl rfl) rfl trivial rfl rfl ?_
      refine op0 (sp_assign rfl rfl) rfl trivial rfl rfl ?_
      refine op0 (sp_assign rfl rfl) rfl trivial rfl rfl ?_
      refine TL.nil ?_
      cases h
      exact retJ [] (.tmp rfl (.tmp rfl (.tmp rfl .nil))) rfl trivial rfl rfl
def ev_drop_Rig_l1 (n : Nat) (rr5 : List (Int × Int)) : Nat → Int → Int → Int → Int → Int → Int → (List (Int × Int)) → Option (Int × Int × Int)
  | 0, _, _, _, _, _, _, _ => none
  | m + 1, i8, i9, i10, i11, i12, i13, l14 => cond (decide (i9 < (rr5.length : Int))) (idx l14 i9 fun x15 => chk (in64 (i11 * x15.2)) <| chk (in64 (i8 + (i11 * x15.2))) <| chk (in64 (i9 + 1)) <| ev_drop_Rig_l1 n rr5 m (i8 + (i11 * x15.2)) (i9 + 1) i10 i11 i12 i13 l14) (ev_drop_Rig_l2 n i10 i8 i12 i13 n 0)
set_option maxRecDepth 100000 in
set_option maxHeartbeats 2000000 in
theorem ok_drop_Rig_l1 {n : Nat} {w0 : World} {R0 : Nat → Prop} {env0 : Env} {r : Int × Int × Int} {rr5 : List (Int × Int)} : ∀ (m : Nat) (i8 : Int) (i9 : Int) (i10 : Int) (i11 : Int) (i12 : Int) (i13 : Int) (l14 : List (Int × Int)), ev_drop_Rig_l1 n rr5 m i8 i9 i10 i11 i12 i13 l14 = some r → TC Try.prog ⟨w0, fun _ => False, R0⟩ 70 (bodyPost Try.prog Try.f30 (Post ⟨w0, fun _ => False, R0⟩ env0 (.tup [.val (.int .i64 r.1), .val (.int .i64 r.2.1), .val (.int .i64 r.2.2)]) [])) [.code (sub (bodyOf Try.f30) [1, 1, 1, 0, 1, 0, 0, 0]), .code (sub (bodyOf Try.f30) [1, 1, 1, 0, 1, 0, 0, 1]), .inLoop (sub (bodyOf Try.f30) [1, 1, 1, 0, 1, 0, 0]), .inBlock 0, .code (sub (bodyOf Try.f30) [1, 1, 1, 1])] ([(1, .ptr 1 0), (5, .val (.int .i64 i8)), (27, .ref 0), (28, .val (.int .i64 (rr5.length : Int))), (29, .val (.int .i64 i9))]) ([.blk 1 [.val (.int .i64 i10), .val (.int .i64 i11), .val (.int .i64 i12), .val (.int .i64 i13), .ref 0] 58, .ro 0 2 (List.map en_api_Span l14)]) := by
  intro m
  induction m with
  | zero => intro i8 i9 i10 i11 i12 i13 l14 h; exact none_no h
  | succ m ih =>
    intro i8 i9 i10 i11 i12 i13 l14 h
    rw [ev_drop_Rig_l1] at h
    refine TC.region ?_
    refine op0 (sp_lss rfl rfl rfl) rfl trivial rfl rfl ?_
    refine TL.nil ?_
    refine TC.seq ?_
    refine TC.cond (b := (decide (i9 < (rr5.length : Int)))) rfl (fun h5 => ?_) (fun h5 => ?_)
    · have h := cond_t h h5
      refine TC.skip ?_
      refine TC.seq ?_
      refine TC.block ?_
      refine TC.seq ?_
      refine TC.region ?_
      obtain ⟨x15, h6, h7, h⟩ := idx_inv h
      refine op1 1 rfl (sp_indexS rfl rfl rfl isRo sl39 h6 (map_get _ h7)) rfl trivial rfl rfl ?_
      refine op1 1 rfl (sp_loadRA (i := (i9 : Int).toNat) (j := 0) (as_ := [.val (.int .i64 x15.1), .val (.int .i64 x15.2)]) (ns := []) rfl rfl isRo vt34 rfl (map_get _ h7) rfl rfl (by decide) (.v (.v (.nil))) (nodup_of_B rfl)) rfl trivial rfl rfl ?_
      refine op0 (sp_alloc 3 rfl Try.zeroValue34 rfl) rfl trivial rfl rfl ?_
      refine stoB 0 (cells' := [.val (.int .i64 x15.1), .val (.int .i64 x15.2)]) rfl rfl trivial rfl rfl rfl rfl vt34 rfl rfl rfl ?_
      refine TL.nil ?_
      refine TC.region ?_
      refine op0 (sp_move rfl rfl) rfl trivial rfl rfl ?_
      refine op1 1 rfl (sp_fieldAddrB rfl isBlk rfl ft58_1 vt3 (by decide)) rfl trivial rfl rfl ?_
      refine op1 1 rfl (sp_loadB rfl isBlk rfl vt3 rfl) rfl trivial rfl rfl ?_
      refine op1 0 rfl (sp_fieldAddrB rfl isBlk rfl ft34_1 vt3 (by decide)) rfl trivial rfl rfl ?_
      refine op1 0 rfl (sp_loadB rfl isBlk rfl vt3 rfl) rfl trivial rfl rfl ?_
      obtain ⟨h8, h⟩ := chk_inv h
      refine op0 (sp_mul rfl rfl rfl h8) rfl trivial rfl rfl ?_
      obtain ⟨h9, h⟩ := chk_inv h
      refine op0 (sp_add rfl rfl rfl h9) rfl trivial rfl rfl ?_
      refine op0 (sp_assign rfl rfl) rfl trivial rfl rfl ?_
      refine TL.nil ?_
      refine TC.inBlock ?_
      refine TC.region ?_
      obtain ⟨h10, h⟩ := chk_inv h
      refine op0 (sp_add rfl rfl rfl h10) rfl trivial rfl rfl ?_
      refine op0 (sp_move rfl rfl) rfl trivial rfl rfl ?_
      refine TL.nil ?_
      refine TC.inLoop ?_
      refine TC.seq ?_
      refine subJ [] (ih _ _ _ _ _ _ _ h) ?_ ?_ ?_
      · exact ⟨rfl, rfl, rfl, rfl, rfl, trivial⟩
      · exact ⟨mem_at 1 rfl, mem_at 2 rfl, trivial⟩
      · rfl
    · have h := cond_f h h5
      refine TC.exit rfl ?_
      refine TC.seq ?_
      refine TC.seq ?_
      refine TC.region ?_
      refine op0 (sp_move rfl rfl) rfl trivial rfl rfl ?_
      refine TL.nil ?_
      refine TC.block ?_
      refine TC.loop ?_
      refine TC.seq ?_
      refine subJ [] (ok_drop_Rig_l2 (i11 := i11) (l14 := l14) _ _ h) ?_ ?_ ?_
      · exact ⟨rfl, rfl, rfl, trivial⟩
      · exact ⟨mem_at 0 rfl, mem_at 1 rfl, trivial⟩
      · rfl
def ev_drop_Rig_j0 (n : Nat) (rr5 : List (Int × Int)) (rr1 : Int) (rr2 : Int) (rr3 : Int) (rr4 : Int) : Option (Int × Int × Int) :=
  ev_drop_Rig_l1 n rr5 n 0 0 rr1 rr2 rr3 rr4 rr5
set_option maxRecDepth 100000 in
set_option maxHeartbeats 2000000 in
theorem ok_drop_Rig_j0 {n : Nat} {w0 : World} {R0 : Nat → Prop} {env0 : Env} {r : Int × Int × Int} {rr1 : Int} {rr2 : Int} {rr3 : Int} {rr4 : Int} {rr5 : List (Int × Int)} (h : ev_drop_Rig_j0 n rr5 rr1 rr2 rr3 rr4 = some r) : TC Try.prog ⟨w0, fun _ => False, R0⟩ 70 (bodyPost Try.prog Try.f30 (Post ⟨w0, fun _ => False, R0⟩ env0 (.tup [.val (.int .i64 r.1), .val (.int .i64 r.2.1), .val (.int .i64 r.2.2)]) [])) [.code (sub (bodyOf Try.f30) [1, 0, 1, 1]), .code (sub (bodyOf Try.f30) [1, 1])] ([(1, .ptr 1 0)]) ([.blk 1 [.val (.int .i64 rr1), .val (.int .i64 rr2), .val (.int .i64 rr3), .val (.int .i64 rr4), .ref 0] 58, .ro 0 2 (List.map en_api_Span rr5)]) := by
  rw [ev_drop_Rig_j0] at h
  refine TC.skip ?_
  refine TC.seq ?_
  refine TC.region ?_
  refine op0 (sp_assign rfl rfl) rfl trivial rfl rfl ?_
  refine TL.nil ?_
  refine TC.seq ?_
  refine TC.seq ?_
  refine TC.region ?_
  refine op1 0 rfl (sp_fieldAddrB rfl isBlk rfl ft58_4 vt39 (by decide)) rfl trivial rfl rfl ?_
  refine op1 0 rfl (sp_loadB rfl isBlk rfl vt39 rfl) rfl trivial rfl rfl ?_
  refine op1 1 rfl (sp_lenM (N := rr5.length) (len_map _ _) rfl rfl isRo Try.underlying39) rfl trivial rfl rfl ?_
  refine op0 (sp_move rfl rfl) rfl trivial rfl rfl ?_
  refine TL.nil ?_
  refine TC.block ?_
  refine TC.loop ?_
  refine TC.seq ?_
  refine subJ [] (ok_drop_Rig_l1 _ _ _ _ _ _ _ _ h) ?_ ?_ ?_
  · exact ⟨rfl, rfl, rfl, rfl, rfl, trivial⟩
  · exact ⟨mem_at 0 rfl, mem_at 1 rfl, trivial⟩
  · rfl
def ev_drop_Rig (n : Nat) (rr1 : Int) (rr2 : Int) (rr3 : Int) (rr4 : Int) (rr5 : List (Int × Int)) : Option (Int × Int × Int) :=
  (ev_drop_within n 1 3000 ([rr1, rr2, rr3, rr4] : List Int)).bind fun r6 => cond (!r6) (some (0, 0, 2)) ((ev_drop_areHours n rr5).bind fun r7 => cond (!r7) (some (0, 0, 2)) (ev_drop_Rig_j0 n rr5 rr1 rr2 rr3 rr4))
set_option maxRecDepth 100000 in
set_option maxHeartbeats 2000000 in
theorem fc_drop_Rig {n : Nat} {rr1 : Int} {rr2 : Int} {rr3 : Int} {rr4 : Int} {rr5 : List (Int × Int)} {r : Int × Int × Int} (h : ev_drop_Rig n rr1 rr2 rr3 rr4 rr5 = some r) : FC Try.prog 30 [.agg [.val (.int .i64 rr1), .val (.int .i64 rr2), .val (.int .i64 rr3), .val (.int .i64 rr4), .ref 0]] [.ro 0 2 (List.map en_api_Span rr5)] (.tup [.val (.int .i64 r.1), .val (.int .i64 r.2.1), .val (.int .i64 r.2.2)]) [] := by
  refine introJ (nz := 70) Try.func30 rfl rfl rfl (fun w0 R0 env0 => ?_)
  rw [ev_drop_Rig] at h
  refine TC.seq ?_
  refine TC.region ?_
  refine op0 (sp_box 1 rfl rfl rfl rfl rfl) rfl trivial rfl rfl ?_
  refine op0 (sp_assign rfl rfl) rfl trivial rfl rfl ?_
  refine op0 (sp_assign rfl rfl) rfl trivial rfl rfl ?_
  refine op0 (sp_assign rfl rfl) rfl trivial rfl rfl ?_
  refine TL.nil ?_
  refine TC.seq ?_
  refine TC.seq ?_
  refine TC.region ?_
  refine op1 0 rfl (sp_fieldAddrB rfl isBlk rfl ft58_0 vt3 (by decide)) rfl trivial rfl rfl ?_
  refine op1 0 rfl (sp_loadB rfl isBlk rfl vt3 rfl) rfl trivial rfl rfl ?_
  refine op1 0 rfl (sp_fieldAddrB rfl isBlk rfl ft58_1 vt3 (by decide)) rfl trivial rfl rfl ?_
  refine op1 0 rfl (sp_loadB rfl isBlk rfl vt3 rfl) rfl trivial rfl rfl ?_
  refine op1 0 rfl (sp_fieldAddrB rfl isBlk rfl ft58_2 vt3 (by decide)) rfl trivial rfl rfl ?_
  refine op1 0 rfl (sp_loadB rfl isBlk rfl vt3 rfl) rfl trivial rfl rfl ?_
  refine op1 0 rfl (sp_fieldAddrB rfl isBlk rfl ft58_3 vt3 (by decide)) rfl trivial rfl rfl ?_
  refine op1 0 rfl (sp_loadB rfl isBlk rfl vt3 rfl) rfl trivial rfl rfl ?_
  refine op0 (sp_buildSlice (qs := [.val (.int .i64 rr1), .val (.int .i64 rr2), .val (.int .i64 rr3), .val (.int .i64 rr4)]) (need := []) (els := List.map en_int ([rr1, rr2, rr3, rr4] : List Int)) 2 rfl sl50 (by decide) (by decide) rfl rfl rfl (.v (.v (.v (.v (.nil))))) (map_len fun _ => rfl) rfl rfl rfl) rfl trivial rfl rfl ?_
  obtain ⟨r6, h1, h⟩ := bind_inv h
  refine op1 0 rfl (sp_call (avs := [.val (.int .i64 1), .val (.int .i64 3000), .ref 2]) (need := [.row 2 3 1 (List.map en_int ([rr1, rr2, rr3, rr4] : List Int))]) (v := .val (.bool r6)) (news := []) rfl rfl rfl Try.call65 (atJ [(0, 2)] [] (fc_drop_within h1) rfl rfl) (.inr (fun x hx => nomatch hx))) rfl trivial rfl rfl ?_
  refine op0 (sp_not rfl rfl) rfl trivial rfl rfl ?_
  refine op0 (sp_move rfl rfl) rfl trivial rfl rfl ?_
  rcases cond_cases h with ⟨h2, h⟩ | ⟨h2, h⟩
  · refine (boolLit 20 rfl h2).2 ?_
    refine opSkip rfl ⟨_, rfl, .inl rfl⟩ rfl ?_
    refine opSkip rfl ⟨_, rfl, .inl rfl⟩ rfl ?_
    refine opSkip rfl ⟨_, rfl, .inl rfl⟩ rfl ?_
    refine opSkip rfl ⟨_, rfl, .inl rfl⟩ rfl ?_
    refine op0 (sp_pickT rfl rfl rfl) rfl trivial rfl rfl ?_
    refine TL.nil ?_
    refine TC.condT rfl ?_
    refine TC.seq ?_
    refine TC.region ?_
    refine op0 (sp_assign rfl rfl) rfl trivial rfl rfl ?_
    refine op0 (sp_assign rfl rfl) rfl trivial rfl rfl ?_
    refine op0 (sp_assign rfl rfl) rfl trivial rfl rfl ?_
    refine TL.nil ?_
    cases h
    exact retJ [] (.tmp rfl (.tmp rfl (.tmp rfl .nil))) rfl trivial rfl rfl
  · refine (boolLit 20 rfl h2).2 ?_
    refine op1 1 rfl (sp_fieldAddrB rfl isBlk rfl ft58_4 vt39 (by decide)) rfl ⟨_, rfl, rfl⟩ rfl rfl ?_
    refine op1 1 rfl (sp_loadB rfl isBlk rfl vt39 rfl) rfl ⟨_, rfl, rfl⟩ rfl rfl ?_
    obtain ⟨r7, h3, h⟩ := bind_inv h
    refine op1 2 rfl (sp_call (avs := [.ref 0]) (need := [.ro 0 2 (List.map en_api_Span rr5)]) (v := .val (.bool r7)) (news := []) rfl rfl rfl Try.call72 (atJ [] [] (fc_drop_areHours h3) rfl rfl) (.inl (roAll rfl))) rfl ⟨_, rfl, rfl⟩ rfl rfl ?_
    refine op0 (sp_not rfl rfl) rfl ⟨_, rfl, rfl⟩ rfl rfl ?_
    refine op0 (sp_pickF rfl rfl rfl) rfl trivial rfl rfl ?_
    refine TL.nil ?_
    refine TC.cond (b := (!r7)) rfl (fun h4 => ?_) (fun h4 => ?_)
    · have h := cond_t h h4
      refine TC.seq ?_
      refine TC.region ?_
      refine op0 (sp_assign rfl rfl) rfl trivial rfl rfl ?_
      refine op0 (sp_assign rfl rfl) rfl trivial rfl rfl ?_
      refine op0 (sp_assign rfl rfl) rfl trivial rfl rfl ?_
      refine TL.nil ?_
      cases h
      exact retJ [] (.tmp rfl (.tmp rfl (.tmp rfl .nil))) rfl trivial rfl rfl
    · have h := cond_f h h4
      refine subJ [] (ok_drop_Rig_j0 h) ?_ ?_ ?_
      · exact ⟨rfl, trivial⟩
      · exact ⟨mem_at 1 rfl, mem_at 2 rfl, trivial⟩
      · rfl
end
end Go.Proofs.Ytgkoldcmbcbbpaa.Sy
