/- What functions of the program compute, and that they do: printed by symgen.py. -/
import Derived.Test.YtmgcinejodpopaaGLib
set_option linter.unusedSimpArgs false
set_option linter.unusedVariables false
namespace Go.Proofs.Ytmgcinejodpopaa.Sy
open Go.RowKit
noncomputable section

/- part_within_1 -/
def ev_part_within_1 (n : Nat) (nn1 : Int) (c2 : Int) (c3 : Int) : Option Bool :=
  cond (decide (nn1 < c2)) (some true) (some (decide (c3 < nn1)))
set_option maxRecDepth 100000 in
set_option maxHeartbeats 2000000 in
theorem fc_part_within_1 {n : Nat} {nn1 : Int} {c2 : Int} {c3 : Int} {r : Bool} (h : ev_part_within_1 n nn1 c2 c3 = some r) : FC Try.prog 233 [.val (.int .i64 nn1), .ptr 0 0, .ptr 1 0] [.rob 0 [.val (.int .i64 c2)] 3, .rob 1 [.val (.int .i64 c3)] 3] (.val (.bool r)) [] := by
  refine introJ (nz := 13) Try.func233 rfl rfl rfl (fun w0 R0 env0 => ?_)
  rw [ev_part_within_1] at h
  refine TC.seq ?_
  refine TC.region ?_
  refine op0 (sp_assign rfl rfl) rfl trivial rfl rfl ?_
  refine TL.nil ?_
  refine TC.seq ?_
  refine TC.region ?_
  refine op0 (sp_move rfl rfl) rfl trivial rfl rfl ?_
  refine op1 0 rfl (sp_loadB rfl isRob rfl vt3 rfl) rfl trivial rfl rfl ?_
  refine op0 (sp_lss rfl rfl rfl) rfl trivial rfl rfl ?_
  refine op0 (sp_move rfl rfl) rfl trivial rfl rfl ?_
  rcases cond_cases h with ⟨h1, h⟩ | ⟨h1, h⟩
  · refine (boolLit 8 rfl h1).2 ?_
    refine opSkip rfl ⟨_, rfl, .inl rfl⟩ rfl ?_
    refine opSkip rfl ⟨_, rfl, .inl rfl⟩ rfl ?_
    refine opSkip rfl ⟨_, rfl, .inl rfl⟩ rfl ?_
    refine op0 (sp_pickT rfl rfl rfl) rfl trivial rfl rfl ?_
    refine op0 (sp_assign rfl rfl) rfl trivial rfl rfl ?_
    refine TL.nil ?_
    cases h
    exact retJ [] (.tmp rfl .nil) rfl trivial rfl rfl
  · refine (boolLit 8 rfl h1).2 ?_
    refine op0 (sp_move rfl rfl) rfl ⟨_, rfl, rfl⟩ rfl rfl ?_
    refine op1 1 rfl (sp_loadB rfl isRob rfl vt3 rfl) rfl ⟨_, rfl, rfl⟩ rfl rfl ?_
    refine op0 (sp_gtr rfl rfl rfl) rfl ⟨_, rfl, rfl⟩ rfl rfl ?_
    refine op0 (sp_pickF rfl rfl rfl) rfl trivial rfl rfl ?_
    refine op0 (sp_assign rfl rfl) rfl trivial rfl rfl ?_
    refine TL.nil ?_
    cases h
    exact retJ [] (.tmp rfl .nil) rfl trivial rfl rfl
/- part_within -/
def ev_part_within (n : Nat) (least1 : Int) (most2 : Int) (l3 : List Int) : Option Bool :=
  (ev_slices_ContainsFunc_Lint_int n l3 (fun a => ev_part_within_1 n a least1 most2)).bind fun r4 => some (!r4)
set_option maxRecDepth 100000 in
set_option maxHeartbeats 2000000 in
theorem fc_part_within {n : Nat} {least1 : Int} {most2 : Int} {l3 : List Int} {r : Bool} (h : ev_part_within n least1 most2 l3 = some r) : FC Try.prog 142 [.val (.int .i64 least1), .val (.int .i64 most2), .ref 0] [.ro 0 1 (List.map en_int l3)] (.val (.bool r)) [] := by
  refine introJ (nz := 11) Try.func142 rfl rfl rfl (fun w0 R0 env0 => ?_)
  rw [ev_part_within] at h
  refine TC.seq ?_
  refine TC.region ?_
  refine op0 (sp_box 1 rfl rfl rfl rfl rfl) rfl trivial rfl rfl ?_
  refine op0 (sp_box 2 rfl rfl rfl rfl rfl) rfl trivial rfl rfl ?_
  refine op0 (sp_assign rfl rfl) rfl trivial rfl rfl ?_
  refine TL.nil ?_
  refine TC.seq ?_
  refine TC.region ?_
  refine op0 (sp_move rfl rfl) rfl trivial rfl rfl ?_
  refine op0 (sp_makeFunc (fi := []) (ca := [.tmp 3, .tmp 4]) (fa := []) (cb := [.ptr 1 0, .ptr 2 0]) rfl rfl rfl) rfl trivial rfl rfl ?_
  obtain ⟨r4, h1, h⟩ := bind_inv h
  refine opN (need := [.ro 0 1 (List.map en_int l3), .blk 1 [.val (.int .i64 least1)] 3, .blk 2 [.val (.int .i64 most2)] 3]) [2, 1, 0] ⟨rfl, rfl, rfl, trivial⟩ (sp_call (avs := [.ref 0, .fn 233 [] [.ptr 1 0, .ptr 2 0]]) (need := [.ro 0 1 (List.map en_int l3), .blk 1 [.val (.int .i64 least1)] 3, .blk 2 [.val (.int .i64 most2)] 3]) (v := .val (.bool r4)) (news := []) rfl rfl rfl Try.call133 (FC.needJ (need := [.ro 0 1 (List.map en_int l3), .rob 1 [.val (.int .i64 least1)] 3, .rob 2 [.val (.int .i64 most2)] 3]) (need' := [.rob 1 [.val (.int .i64 least1)] 3, .rob 2 [.val (.int .i64 most2)] 3, .ro 0 1 (List.map en_int l3)]) [1, 2, 0] ⟨rfl, rfl, rfl, trivial⟩ (FC.fnArg (args := [.ref 0, .ref 3]) (needC := [.rob 1 [.val (.int .i64 least1)] 3, .rob 2 [.val (.int .i64 most2)] 3]) (need := [.ro 0 1 (List.map en_int l3)]) 1 (first := []) (caps := [.ptr 1 0, .ptr 2 0]) (FC.needJ (need := [.any 3 (D.fn Try.prog fe_funcint_bool fd_funcint_bool (fun a => ev_part_within_1 n a least1 most2)), .ro 0 1 (List.map en_int l3)]) (need' := [.ro 0 1 (List.map en_int l3), .any 3 (D.fn Try.prog fe_funcint_bool fd_funcint_bool (fun a => ev_part_within_1 n a least1 most2))]) [1, 0] ⟨rfl, rfl, trivial⟩ (atJ [(1, 3)] [] (fc_slices_ContainsFunc_Lint_int h1) rfl rfl)) rfl Try.call233 (fun a b hab => atJ [(0, 1), (1, 2)] [] (fc_part_within_1 hab) rfl rfl) rfl (fun _ => rfl) (fun _ => rfl) rfl rfl rfl rfl rfl rfl rfl)) (.inr (fun x hx => nomatch hx))) rfl trivial rfl rfl ?_
  refine op0 (sp_not rfl rfl) rfl trivial rfl rfl ?_
  refine op0 (sp_assign rfl rfl) rfl trivial rfl rfl ?_
  refine TL.nil ?_
  cases h
  exact retJ [] (.tmp rfl .nil) rfl trivial rfl rfl
/- part_isSpan -/
def ev_part_isSpan (n : Nat) (s1 : Int) (s2 : Int) (least3 : Int) (most4 : Int) : Option Bool :=
  (ev_part_within n least3 most4 ([s1, s2] : List Int)).bind fun r5 => cond r5 (some (decide (s1 ≤ s2))) (some false)
set_option maxRecDepth 100000 in
set_option maxHeartbeats 2000000 in
theorem fc_part_isSpan {n : Nat} {s1 : Int} {s2 : Int} {least3 : Int} {most4 : Int} {r : Bool} (h : ev_part_isSpan n s1 s2 least3 most4 = some r) : FC Try.prog 67 [.agg [.val (.int .i64 s1), .val (.int .i64 s2)], .val (.int .i64 least3), .val (.int .i64 most4)] [] (.val (.bool r)) [] := by
  refine introJ (nz := 22) Try.func67 rfl rfl rfl (fun w0 R0 env0 => ?_)
  rw [ev_part_isSpan] at h
  refine TC.seq ?_
  refine TC.region ?_
  refine op0 (sp_box 0 rfl rfl rfl rfl rfl) rfl trivial rfl rfl ?_
  refine op0 (sp_assign rfl rfl) rfl trivial rfl rfl ?_
  refine TL.nil ?_
  refine TC.seq ?_
  refine TC.region ?_
  refine op0 (sp_move rfl rfl) rfl trivial rfl rfl ?_
  refine op0 (sp_move rfl rfl) rfl trivial rfl rfl ?_
  refine op1 0 rfl (sp_fieldAddrB rfl isBlk rfl ft26_0 vt3 (by decide)) rfl trivial rfl rfl ?_
  refine op1 0 rfl (sp_loadB rfl isBlk rfl vt3 rfl) rfl trivial rfl rfl ?_
  refine op1 0 rfl (sp_fieldAddrB rfl isBlk rfl ft26_1 vt3 (by decide)) rfl trivial rfl rfl ?_
  refine op1 0 rfl (sp_loadB rfl isBlk rfl vt3 rfl) rfl trivial rfl rfl ?_
  refine op0 (sp_buildSlice (qs := [.val (.int .i64 s1), .val (.int .i64 s2)]) (need := []) (els := List.map en_int ([s1, s2] : List Int)) 1 rfl sl37 (by decide) (by decide) rfl rfl rfl (.v (.v (.nil))) (map_len fun _ => rfl) rfl rfl rfl) rfl trivial rfl rfl ?_
  obtain ⟨r5, h1, h⟩ := bind_inv h
  refine op1 0 rfl (sp_call (avs := [.val (.int .i64 least3), .val (.int .i64 most4), .ref 1]) (need := [.row 1 3 1 (List.map en_int ([s1, s2] : List Int))]) (v := .val (.bool r5)) (news := []) rfl rfl rfl Try.call142 (atJ [(0, 1)] [] (fc_part_within h1) rfl rfl) (.inr (fun x hx => nomatch hx))) rfl trivial rfl rfl ?_
  refine op0 (sp_move rfl rfl) rfl trivial rfl rfl ?_
  rcases cond_cases h with ⟨h2, h⟩ | ⟨h2, h⟩
  · refine (boolLit 15 rfl h2).2 ?_
    refine op1 1 rfl (sp_fieldAddrB rfl isBlk rfl ft26_0 vt3 (by decide)) rfl ⟨_, rfl, rfl⟩ rfl rfl ?_
    refine op1 1 rfl (sp_loadB rfl isBlk rfl vt3 rfl) rfl ⟨_, rfl, rfl⟩ rfl rfl ?_
    refine op1 1 rfl (sp_fieldAddrB rfl isBlk rfl ft26_1 vt3 (by decide)) rfl ⟨_, rfl, rfl⟩ rfl rfl ?_
    refine op1 1 rfl (sp_loadB rfl isBlk rfl vt3 rfl) rfl ⟨_, rfl, rfl⟩ rfl rfl ?_
    refine op0 (sp_leq rfl rfl rfl) rfl ⟨_, rfl, rfl⟩ rfl rfl ?_
    refine op0 (sp_pickT rfl rfl rfl) rfl trivial rfl rfl ?_
    refine op0 (sp_assign rfl rfl) rfl trivial rfl rfl ?_
    refine TL.nil ?_
    cases h
    exact retJ [] (.tmp rfl .nil) rfl trivial rfl rfl
  · refine (boolLit 15 rfl h2).2 ?_
    refine opSkip rfl ⟨_, rfl, .inl rfl⟩ rfl ?_
    refine opSkip rfl ⟨_, rfl, .inl rfl⟩ rfl ?_
    refine opSkip rfl ⟨_, rfl, .inl rfl⟩ rfl ?_
    refine opSkip rfl ⟨_, rfl, .inl rfl⟩ rfl ?_
    refine opSkip rfl ⟨_, rfl, .inl rfl⟩ rfl ?_
    refine op0 (sp_pickF rfl rfl rfl) rfl trivial rfl rfl ?_
    refine op0 (sp_assign rfl rfl) rfl trivial rfl rfl ?_
    refine TL.nil ?_
    cases h
    exact retJ [] (.tmp rfl .nil) rfl trivial rfl rfl
/- part_contract_isValid -/
def ev_part_contract_isValid (n : Nat) (c1 : Int) (c2 : Int) (c3 : Int) : Option Bool :=
  (ev_part_within n 0 1000 ([c1] : List Int)).bind fun r4 => cond r4 ((ev_part_within n 0 200 ([c2, c3] : List Int)).bind fun r5 => cond r5 (some (decide (c2 ≤ c3))) (some false)) (some false)
set_option maxRecDepth 100000 in
set_option maxHeartbeats 2000000 in
theorem fc_part_contract_isValid {n : Nat} {c1 : Int} {c2 : Int} {c3 : Int} {r : Bool} (h : ev_part_contract_isValid n c1 c2 c3 = some r) : FC Try.prog 70 [.agg [.val (.int .i64 c1), .val (.int .i64 c2), .val (.int .i64 c3)]] [] (.val (.bool r)) [] := by
  refine introJ (nz := 27) Try.func70 rfl rfl rfl (fun w0 R0 env0 => ?_)
  rw [ev_part_contract_isValid] at h
  refine TC.seq ?_
  refine TC.region ?_
  refine op0 (sp_box 0 rfl rfl rfl rfl rfl) rfl trivial rfl rfl ?_
  refine op0 (sp_assign rfl rfl) rfl trivial rfl rfl ?_
  refine TL.nil ?_
  refine TC.seq ?_
  refine TC.region ?_
  refine op1 0 rfl (sp_fieldAddrB rfl isBlk rfl ft179_0 vt48 (by decide)) rfl trivial rfl rfl ?_
  refine op1 0 rfl (sp_fieldAddrB rfl isBlk rfl ft48_0 vt3 (by decide)) rfl trivial rfl rfl ?_
  refine op1 0 rfl (sp_loadB rfl isBlk rfl vt3 rfl) rfl trivial rfl rfl ?_
  refine op0 (sp_buildSlice (qs := [.val (.int .i64 c1)]) (need := []) (els := List.map en_int ([c1] : List Int)) 1 rfl sl37 (by decide) (by decide) rfl rfl rfl (.v (.nil)) (map_len fun _ => rfl) rfl rfl rfl) rfl trivial rfl rfl ?_
  obtain ⟨r4, h1, h⟩ := bind_inv h
  refine op1 0 rfl (sp_call (avs := [.val (.int .i64 0), .val (.int .i64 1000), .ref 1]) (need := [.row 1 3 1 (List.map en_int ([c1] : List Int))]) (v := .val (.bool r4)) (news := []) rfl rfl rfl Try.call142 (atJ [(0, 1)] [] (fc_part_within h1) rfl rfl) (.inr (fun x hx => nomatch hx))) rfl trivial rfl rfl ?_
  refine op0 (sp_move rfl rfl) rfl trivial rfl rfl ?_
  rcases cond_cases h with ⟨h2, h⟩ | ⟨h2, h⟩
  · refine (boolLit 8 rfl h2).2 ?_
    refine op1 1 rfl (sp_fieldAddrB rfl isBlk rfl ft179_0 vt48 (by decide)) rfl ⟨_, rfl, rfl⟩ rfl rfl ?_
    refine op1 1 rfl (sp_fieldAddrB rfl isBlk rfl ft48_1 vt3 (by decide)) rfl ⟨_, rfl, rfl⟩ rfl rfl ?_
    refine op1 1 rfl (sp_loadB rfl isBlk rfl vt3 rfl) rfl ⟨_, rfl, rfl⟩ rfl rfl ?_
    refine op1 1 rfl (sp_fieldAddrB rfl isBlk rfl ft179_0 vt48 (by decide)) rfl ⟨_, rfl, rfl⟩ rfl rfl ?_
    refine op1 1 rfl (sp_fieldAddrB rfl isBlk rfl ft48_2 vt3 (by decide)) rfl ⟨_, rfl, rfl⟩ rfl rfl ?_
    refine op1 1 rfl (sp_loadB rfl isBlk rfl vt3 rfl) rfl ⟨_, rfl, rfl⟩ rfl rfl ?_
    refine op0 (sp_buildSlice (qs := [.val (.int .i64 c2), .val (.int .i64 c3)]) (need := []) (els := List.map en_int ([c2, c3] : List Int)) 2 rfl sl37 (by decide) (by decide) rfl rfl rfl (.v (.v (.nil))) (map_len fun _ => rfl) rfl rfl rfl) rfl ⟨_, rfl, rfl⟩ rfl rfl ?_
    obtain ⟨r5, h3, h⟩ := bind_inv h
    refine op1 0 rfl (sp_call (avs := [.val (.int .i64 0), .val (.int .i64 200), .ref 2]) (need := [.row 2 3 1 (List.map en_int ([c2, c3] : List Int))]) (v := .val (.bool r5)) (news := []) rfl rfl rfl Try.call142 (atJ [(0, 2)] [] (fc_part_within h3) rfl rfl) (.inr (fun x hx => nomatch hx))) rfl ⟨_, rfl, rfl⟩ rfl rfl ?_
    refine op0 (sp_pickT rfl rfl rfl) rfl trivial rfl rfl ?_
    refine op0 (sp_move rfl rfl) rfl trivial rfl rfl ?_
    rcases cond_cases h with ⟨h4, h⟩ | ⟨h4, h⟩
    · refine (boolLit 18 rfl h4).2 ?_
      refine op1 2 rfl (sp_fieldAddrB rfl isBlk rfl ft179_0 vt48 (by decide)) rfl ⟨_, rfl, rfl⟩ rfl rfl ?_
      refine op1 2 rfl (sp_fieldAddrB rfl isBlk rfl ft48_1 vt3 (by decide)) rfl ⟨_, rfl, rfl⟩ rfl rfl ?_
      refine op1 2 rfl (sp_loadB rfl isBlk rfl vt3 rfl) rfl ⟨_, rfl, rfl⟩ rfl rfl ?_
      refine op1 2 rfl (sp_fieldAddrB rfl isBlk rfl ft179_0 vt48 (by decide)) rfl ⟨_, rfl, rfl⟩ rfl rfl ?_
      refine op1 2 rfl (sp_fieldAddrB rfl isBlk rfl ft48_2 vt3 (by decide)) rfl ⟨_, rfl, rfl⟩ rfl rfl ?_
      refine op1 2 rfl (sp_loadB rfl isBlk rfl vt3 rfl) rfl ⟨_, rfl, rfl⟩ rfl rfl ?_
      refine op0 (sp_leq rfl rfl rfl) rfl ⟨_, rfl, rfl⟩ rfl rfl ?_
      refine op0 (sp_pickT rfl rfl rfl) rfl trivial rfl rfl ?_
      refine op0 (sp_assign rfl rfl) rfl trivial rfl rfl ?_
      refine TL.nil ?_
      cases h
      exact retJ [] (.tmp rfl .nil) rfl trivial rfl rfl
    · refine (boolLit 18 rfl h4).2 ?_
      refine opSkip rfl ⟨_, rfl, .inl rfl⟩ rfl ?_
      refine opSkip rfl ⟨_, rfl, .inl rfl⟩ rfl ?_
      refine opSkip rfl ⟨_, rfl, .inl rfl⟩ rfl ?_
      refine opSkip rfl ⟨_, rfl, .inl rfl⟩ rfl ?_
      refine opSkip rfl ⟨_, rfl, .inl rfl⟩ rfl ?_
      refine opSkip rfl ⟨_, rfl, .inl rfl⟩ rfl ?_
      refine opSkip rfl ⟨_, rfl, .inl rfl⟩ rfl ?_
      refine op0 (sp_pickF rfl rfl rfl) rfl trivial rfl rfl ?_
      refine op0 (sp_assign rfl rfl) rfl trivial rfl rfl ?_
      refine TL.nil ?_
      cases h
      exact retJ [] (.tmp rfl .nil) rfl trivial rfl rfl
  · refine (boolLit 8 rfl h2).2 ?_
    refine opSkip rfl ⟨_, rfl, .inl rfl⟩ rfl ?_
    refine opSkip rfl ⟨_, rfl, .inl rfl⟩ rfl ?_
    refine opSkip rfl ⟨_, rfl, .inl rfl⟩ rfl ?_
    refine opSkip rfl ⟨_, rfl, .inl rfl⟩ rfl ?_
    refine opSkip rfl ⟨_, rfl, .inl rfl⟩ rfl ?_
    refine opSkip rfl ⟨_, rfl, .inl rfl⟩ rfl ?_
    refine opSkip rfl ⟨_, rfl, .inl rfl⟩ rfl ?_
    refine opSkip rfl ⟨_, rfl, .inl rfl⟩ rfl ?_
    refine op0 (sp_pickF rfl rfl rfl) rfl trivial rfl rfl ?_
    refine op0 (sp_move rfl rfl) rfl trivial rfl rfl ?_
    refine opSkip rfl ⟨_, rfl, .inl rfl⟩ rfl ?_
    refine opSkip rfl ⟨_, rfl, .inl rfl⟩ rfl ?_
    refine opSkip rfl ⟨_, rfl, .inl rfl⟩ rfl ?_
    refine opSkip rfl ⟨_, rfl, .inl rfl⟩ rfl ?_
    refine opSkip rfl ⟨_, rfl, .inl rfl⟩ rfl ?_
    refine opSkip rfl ⟨_, rfl, .inl rfl⟩ rfl ?_
    refine opSkip rfl ⟨_, rfl, .inl rfl⟩ rfl ?_
    refine op0 (sp_pickF rfl rfl rfl) rfl trivial rfl rfl ?_
    refine op0 (sp_assign rfl rfl) rfl trivial rfl rfl ?_
    refine TL.nil ?_
    cases h
    exact retJ [] (.tmp rfl .nil) rfl trivial rfl rfl
/- part_Spares_1 -/
def ev_part_Spares_1 (n : Nat) (c1 : Int) (c2 : Int) (c3 : Int) : Option Bool :=
  (ev_part_contract_isValid n c1 c2 c3).bind fun r4 => some (!r4)
set_option maxRecDepth 100000 in
set_option maxHeartbeats 2000000 in
theorem fc_part_Spares_1 {n : Nat} {c1 : Int} {c2 : Int} {c3 : Int} {r : Bool} (h : ev_part_Spares_1 n c1 c2 c3 = some r) : FC Try.prog 69 [.agg [.val (.int .i64 c1), .val (.int .i64 c2), .val (.int .i64 c3)]] [] (.val (.bool r)) [] := by
  refine introJ (nz := 7) Try.func69 rfl rfl rfl (fun w0 R0 env0 => ?_)
  rw [ev_part_Spares_1] at h
  refine TC.seq ?_
  refine TC.region ?_
  refine op0 (sp_box 0 rfl rfl rfl rfl rfl) rfl trivial rfl rfl ?_
  refine op0 (sp_assign rfl rfl) rfl trivial rfl rfl ?_
  refine TL.nil ?_
  refine TC.seq ?_
  refine TC.region ?_
  refine op1 0 rfl (sp_loadBA rfl isBlk rfl vt48 rfl rfl) rfl trivial rfl rfl ?_
  refine op0 (sp_build (qs := [(0, .agg [.val (.int .i64 c1), .val (.int .i64 c2), .val (.int .i64 c3)])]) rfl bt179 rfl rfl rfl rfl) rfl trivial rfl rfl ?_
  obtain ⟨r4, h1, h⟩ := bind_inv h
  refine op0 (sp_call (avs := [.agg [.val (.int .i64 c1), .val (.int .i64 c2), .val (.int .i64 c3)]]) (need := []) (v := .val (.bool r4)) (news := []) rfl rfl rfl Try.call70 (atJ [] [] (fc_part_contract_isValid h1) rfl rfl) (.inl (roAll rfl))) rfl trivial rfl rfl ?_
  refine op0 (sp_not rfl rfl) rfl trivial rfl rfl ?_
  refine op0 (sp_assign rfl rfl) rfl trivial rfl rfl ?_
  refine TL.nil ?_
  cases h
  exact retJ [] (.tmp rfl .nil) rfl trivial rfl rfl
/- part_areOrders -/
def ev_part_areOrders_l0 (n : Nat) (l1 : List Int) : Nat → Int → Option Bool
  | 0, _ => none
  | m + 1, i2 => cond (decide (i2 < (l1.length : Int))) (idx l1 i2 fun x3 => cond (decide ((0 : Int) < i2)) (chk (in64 (i2 - 1)) <| idx l1 (i2 - 1) fun x4 => cond (decide (x3 ≤ x4)) (some false) (chk (in64 (i2 + 1)) <| ev_part_areOrders_l0 n l1 m (i2 + 1))) (chk (in64 (i2 + 1)) <| ev_part_areOrders_l0 n l1 m (i2 + 1))) (cond (decide ((0 : Int) < (l1.length : Int))) ((ev_part_within n 0 200 l1).bind fun r5 => some r5) (some false))
set_option maxRecDepth 100000 in
set_option maxHeartbeats 2000000 in
theorem ok_part_areOrders_l0 {n : Nat} {w0 : World} {R0 : Nat → Prop} {env0 : Env} {r : Bool} {l1 : List Int} : ∀ (m : Nat) (i2 : Int), ev_part_areOrders_l0 n l1 m i2 = some r → TC Try.prog ⟨w0, fun _ => False, R0⟩ 31 (bodyPost Try.prog Try.f71 (Post ⟨w0, fun _ => False, R0⟩ env0 (.val (.bool r)) [])) [.code (sub (bodyOf Try.f71) [1, 0, 1, 0, 0, 0]), .code (sub (bodyOf Try.f71) [1, 0, 1, 0, 0, 1]), .inLoop (sub (bodyOf Try.f71) [1, 0, 1, 0, 0]), .inBlock 0, .code (sub (bodyOf Try.f71) [1, 1])] ([(0, .ref 0), (5, .ref 0), (6, .val (.int .i64 (l1.length : Int))), (7, .val (.int .i64 i2))]) ([.ro 0 1 (List.map en_int l1)]) := by
  intro m
  induction m with
  | zero => intro i2 h; exact none_no h
  | succ m ih =>
    intro i2 h
    rw [ev_part_areOrders_l0] at h
    refine TC.region ?_
    refine op0 (sp_lss rfl rfl rfl) rfl trivial rfl rfl ?_
    refine TL.nil ?_
    refine TC.seq ?_
    refine TC.cond (b := (decide (i2 < (l1.length : Int)))) rfl (fun h1 => ?_) (fun h1 => ?_)
    · have h := cond_t h h1
      refine TC.skip ?_
      refine TC.seq ?_
      refine TC.block ?_
      refine TC.seq ?_
      refine TC.region ?_
      refine op0 (sp_move rfl rfl) rfl trivial rfl rfl ?_
      obtain ⟨x3, h2, h3, h⟩ := idx_inv h
      refine op1 0 rfl (sp_indexS rfl rfl rfl isRo sl37 h2 (map_get _ h3)) rfl trivial rfl rfl ?_
      refine op1 0 rfl (sp_loadR (i := (i2 : Int).toNat) (j := 0) rfl rfl isRo vt3 rfl (map_get _ h3) rfl (.v (.nil)) (nodup_of_B rfl)) rfl trivial rfl rfl ?_
      refine op0 (sp_assign rfl rfl) rfl trivial rfl rfl ?_
      refine op0 (sp_assign rfl rfl) rfl trivial rfl rfl ?_
      refine TL.nil ?_
      refine TC.seq ?_
      refine TC.region ?_
      refine op0 (sp_move rfl rfl) rfl trivial rfl rfl ?_
      refine op0 (sp_gtr rfl rfl rfl) rfl trivial rfl rfl ?_
      refine op0 (sp_move rfl rfl) rfl trivial rfl rfl ?_
      rcases cond_cases h with ⟨h4, h⟩ | ⟨h4, h⟩
      · refine (boolLit 14 rfl h4).2 ?_
        refine op0 (sp_move rfl rfl) rfl ⟨_, rfl, rfl⟩ rfl rfl ?_
        refine op0 (sp_move rfl rfl) rfl ⟨_, rfl, rfl⟩ rfl rfl ?_
        refine op0 (sp_move rfl rfl) rfl ⟨_, rfl, rfl⟩ rfl rfl ?_
        obtain ⟨h5, h⟩ := chk_inv h
        refine op0 (sp_sub rfl rfl rfl h5) rfl ⟨_, rfl, rfl⟩ rfl rfl ?_
        obtain ⟨x4, h6, h7, h⟩ := idx_inv h
        refine op1 0 rfl (sp_indexS rfl rfl rfl isRo sl37 h6 (map_get _ h7)) rfl ⟨_, rfl, rfl⟩ rfl rfl ?_
        refine op1 0 rfl (sp_loadR (i := ((i2 - 1) : Int).toNat) (j := 0) rfl rfl isRo vt3 rfl (map_get _ h7) rfl (.v (.nil)) (nodup_of_B rfl)) rfl ⟨_, rfl, rfl⟩ rfl rfl ?_
        refine op0 (sp_leq rfl rfl rfl) rfl ⟨_, rfl, rfl⟩ rfl rfl ?_
        refine op0 (sp_pickT rfl rfl rfl) rfl trivial rfl rfl ?_
        refine TL.nil ?_
        refine TC.cond (b := (decide (x3 ≤ x4))) rfl (fun h8 => ?_) (fun h8 => ?_)
        · have h := cond_t h h8
          refine TC.seq ?_
          refine TC.region ?_
          refine op0 (sp_assign rfl rfl) rfl trivial rfl rfl ?_
          refine TL.nil ?_
          cases h
          exact retJ [] (.tmp rfl .nil) rfl trivial rfl rfl
        · have h := cond_f h h8
          refine TC.skip ?_
          refine TC.inBlock ?_
          refine TC.region ?_
          obtain ⟨h9, h⟩ := chk_inv h
          refine op0 (sp_add rfl rfl rfl h9) rfl trivial rfl rfl ?_
          refine op0 (sp_move rfl rfl) rfl trivial rfl rfl ?_
          refine TL.nil ?_
          refine TC.inLoop ?_
          refine TC.seq ?_
          refine subJ [] (ih _ h) ?_ ?_ ?_
          · exact ⟨rfl, rfl, rfl, rfl, trivial⟩
          · exact ⟨mem_at 0 rfl, trivial⟩
          · rfl
      · refine (boolLit 14 rfl h4).2 ?_
        refine opSkip rfl ⟨_, rfl, .inl rfl⟩ rfl ?_
        refine opSkip rfl ⟨_, rfl, .inl rfl⟩ rfl ?_
        refine opSkip rfl ⟨_, rfl, .inl rfl⟩ rfl ?_
        refine opSkip rfl ⟨_, rfl, .inl rfl⟩ rfl ?_
        refine opSkip rfl ⟨_, rfl, .inl rfl⟩ rfl ?_
        refine opSkip rfl ⟨_, rfl, .inl rfl⟩ rfl ?_
        refine opSkip rfl ⟨_, rfl, .inl rfl⟩ rfl ?_
        refine op0 (sp_pickF rfl rfl rfl) rfl trivial rfl rfl ?_
        refine TL.nil ?_
        refine TC.condF rfl ?_
        refine TC.skip ?_
        refine TC.inBlock ?_
        refine TC.region ?_
        obtain ⟨h10, h⟩ := chk_inv h
        refine op0 (sp_add rfl rfl rfl h10) rfl trivial rfl rfl ?_
        refine op0 (sp_move rfl rfl) rfl trivial rfl rfl ?_
        refine TL.nil ?_
        refine TC.inLoop ?_
        refine TC.seq ?_
        refine subJ [] (ih _ h) ?_ ?_ ?_
        · exact ⟨rfl, rfl, rfl, rfl, trivial⟩
        · exact ⟨mem_at 0 rfl, trivial⟩
        · rfl
    · have h := cond_f h h1
      refine TC.exit rfl ?_
      refine TC.seq ?_
      refine TC.region ?_
      refine op0 (sp_move rfl rfl) rfl trivial rfl rfl ?_
      refine op1 0 rfl (sp_lenM (N := l1.length) (len_map _ _) rfl rfl isRo Try.underlying37) rfl trivial rfl rfl ?_
      refine op0 (sp_gtr rfl rfl rfl) rfl trivial rfl rfl ?_
      refine op0 (sp_move rfl rfl) rfl trivial rfl rfl ?_
      rcases cond_cases h with ⟨h11, h⟩ | ⟨h11, h⟩
      · refine (boolLit 27 rfl h11).2 ?_
        refine op0 (sp_move rfl rfl) rfl ⟨_, rfl, rfl⟩ rfl rfl ?_
        obtain ⟨r5, h12, h⟩ := bind_inv h
        refine op1 0 rfl (sp_call (avs := [.val (.int .i64 0), .val (.int .i64 200), .ref 0]) (need := [.ro 0 1 (List.map en_int l1)]) (v := .val (.bool r5)) (news := []) rfl rfl rfl Try.call142 (atJ [] [] (fc_part_within h12) rfl rfl) (.inl (roAll rfl))) rfl ⟨_, rfl, rfl⟩ rfl rfl ?_
        refine op0 (sp_pickT rfl rfl rfl) rfl trivial rfl rfl ?_
        refine op0 (sp_assign rfl rfl) rfl trivial rfl rfl ?_
        refine TL.nil ?_
        cases h
        exact retJ [] (.tmp rfl .nil) rfl trivial rfl rfl
      · refine (boolLit 27 rfl h11).2 ?_
        refine opSkip rfl ⟨_, rfl, .inl rfl⟩ rfl ?_
        refine opSkip rfl ⟨_, rfl, .inl rfl⟩ rfl ?_
        refine op0 (sp_pickF rfl rfl rfl) rfl trivial rfl rfl ?_
        refine op0 (sp_assign rfl rfl) rfl trivial rfl rfl ?_
        refine TL.nil ?_
        cases h
        exact retJ [] (.tmp rfl .nil) rfl trivial rfl rfl
def ev_part_areOrders (n : Nat) (l1 : List Int) : Option Bool :=
  ev_part_areOrders_l0 n l1 n 0
set_option maxRecDepth 100000 in
set_option maxHeartbeats 2000000 in
theorem fc_part_areOrders {n : Nat} {l1 : List Int} {r : Bool} (h : ev_part_areOrders n l1 = some r) : FC Try.prog 71 [.ref 0] [.ro 0 1 (List.map en_int l1)] (.val (.bool r)) [] := by
  refine introJ (nz := 31) Try.func71 rfl rfl rfl (fun w0 R0 env0 => ?_)
  rw [ev_part_areOrders] at h
  refine TC.seq ?_
  refine TC.region ?_
  refine op0 (sp_assign rfl rfl) rfl trivial rfl rfl ?_
  refine TL.nil ?_
  refine TC.seq ?_
  refine TC.seq ?_
  refine TC.region ?_
  refine op0 (sp_move rfl rfl) rfl trivial rfl rfl ?_
  refine op1 0 rfl (sp_lenM (N := l1.length) (len_map _ _) rfl rfl isRo Try.underlying37) rfl trivial rfl rfl ?_
  refine op0 (sp_move rfl rfl) rfl trivial rfl rfl ?_
  refine TL.nil ?_
  refine TC.block ?_
  refine TC.loop ?_
  refine TC.seq ?_
  refine subJ [] (ok_part_areOrders_l0 _ _ h) ?_ ?_ ?_
  · exact ⟨rfl, rfl, rfl, rfl, trivial⟩
  · exact ⟨mem_at 0 rfl, trivial⟩
  · rfl
/- part_contract_most -/
def ev_part_contract_most (n : Nat) (c1 : Int) (c2 : Int) (c3 : Int) (year4 : Int) (life5 : Int) : Option Int :=
  chk (in64 ((min year4 c3) - 1)) <| chk (in64 (((min year4 c3) - 1) - c2)) <| chk (life5 != 0) <| chk (in64 (Int.tdiv (((min year4 c3) - 1) - c2) life5)) <| chk (in64 (c1 * (max (0 : Int) (Int.tdiv (((min year4 c3) - 1) - c2) life5)))) <| some (c1 * (max (0 : Int) (Int.tdiv (((min year4 c3) - 1) - c2) life5)))
set_option maxRecDepth 100000 in
set_option maxHeartbeats 2000000 in
theorem fc_part_contract_most {n : Nat} {c1 : Int} {c2 : Int} {c3 : Int} {year4 : Int} {life5 : Int} {r : Int} (h : ev_part_contract_most n c1 c2 c3 year4 life5 = some r) : FC Try.prog 73 [.agg [.val (.int .i64 c1), .val (.int .i64 c2), .val (.int .i64 c3)], .val (.int .i64 year4), .val (.int .i64 life5)] [] (.val (.int .i64 r)) [] := by
  refine introJ (nz := 24) Try.func73 rfl rfl rfl (fun w0 R0 env0 => ?_)
  rw [ev_part_contract_most] at h
  refine TC.seq ?_
  refine TC.region ?_
  refine op0 (sp_box 0 rfl rfl rfl rfl rfl) rfl trivial rfl rfl ?_
  refine op0 (sp_assign rfl rfl) rfl trivial rfl rfl ?_
  refine TL.nil ?_
  refine TC.seq ?_
  obtain ⟨h1, h⟩ := chk_inv h
  obtain ⟨h2, h⟩ := chk_inv h
  obtain ⟨h3, h⟩ := chk_inv h
  obtain ⟨h4, h⟩ := chk_inv h
  refine drawJ 16 [⟨.ptr 0 0, [], [.blk 0 [.val (.int .i64 c1), .val (.int .i64 c2), .val (.int .i64 c3)] 179], []⟩, ⟨.ptr 0 0, [], [.blk 0 [.val (.int .i64 c1), .val (.int .i64 c2), .val (.int .i64 c3)] 179], []⟩, ⟨.val (.int .i64 c1), [], [.blk 0 [.val (.int .i64 c1), .val (.int .i64 c2), .val (.int .i64 c3)] 179], []⟩, ⟨.val (.int .i64 year4), [], [], []⟩, ⟨.ptr 0 0, [], [.blk 0 [.val (.int .i64 c1), .val (.int .i64 c2), .val (.int .i64 c3)] 179], []⟩, ⟨.ptr 0 2, [], [.blk 0 [.val (.int .i64 c1), .val (.int .i64 c2), .val (.int .i64 c3)] 179], []⟩, ⟨.val (.int .i64 c3), [], [.blk 0 [.val (.int .i64 c1), .val (.int .i64 c2), .val (.int .i64 c3)] 179], []⟩, ⟨.val (.int .i64 (min year4 c3)), [], [], []⟩, ⟨.val (.int .i64 ((min year4 c3) - 1)), [], [], []⟩, ⟨.ptr 0 0, [], [.blk 0 [.val (.int .i64 c1), .val (.int .i64 c2), .val (.int .i64 c3)] 179], []⟩, ⟨.ptr 0 1, [], [.blk 0 [.val (.int .i64 c1), .val (.int .i64 c2), .val (.int .i64 c3)] 179], []⟩, ⟨.val (.int .i64 c2), [], [.blk 0 [.val (.int .i64 c1), .val (.int .i64 c2), .val (.int .i64 c3)] 179], []⟩, ⟨.val (.int .i64 (((min year4 c3) - 1) - c2)), [], [], []⟩, ⟨.val (.int .i64 life5), [], [], []⟩, ⟨.val (.int .i64 (Int.tdiv (((min year4 c3) - 1) - c2) life5)), [], [], []⟩, ⟨.val (.int .i64 (max (0 : Int) (Int.tdiv (((min year4 c3) - 1) - c2) life5))), [], [], []⟩] rfl ?_ rfl ?_ rfl ?_ ?_
  · kernel_rfl
  · kernel_rfl
  · exact DAll.op' (sp_fieldAddrB rfl isBlk rfl ft179_0 vt48 (by decide)) trivial rfl (From.ok (ps := [(none, 0)]) ⟨⟨rfl, rfl⟩, trivial⟩) (DAll.op' (sp_fieldAddrB rfl isBlk rfl ft48_0 vt3 (by decide)) trivial rfl (From.ok (ps := [(none, 0)]) ⟨⟨rfl, rfl⟩, trivial⟩) (DAll.op' (sp_loadB rfl isBlk rfl vt3 rfl) trivial rfl (From.ok (ps := [(none, 0)]) ⟨⟨rfl, rfl⟩, trivial⟩) (DAll.op' (sp_move rfl rfl) trivial rfl (From.ok (ps := []) trivial) (DAll.op' (sp_fieldAddrB rfl isBlk rfl ft179_0 vt48 (by decide)) trivial rfl (From.ok (ps := [(none, 0)]) ⟨⟨rfl, rfl⟩, trivial⟩) (DAll.op' (sp_fieldAddrB rfl isBlk rfl ft48_2 vt3 (by decide)) trivial rfl (From.ok (ps := [(none, 0)]) ⟨⟨rfl, rfl⟩, trivial⟩) (DAll.op' (sp_loadB rfl isBlk rfl vt3 rfl) trivial rfl (From.ok (ps := [(none, 0)]) ⟨⟨rfl, rfl⟩, trivial⟩) (DAll.op' (sp_min rfl rfl rfl) trivial rfl (From.ok (ps := []) trivial) (DAll.op' (sp_sub rfl rfl rfl h1) trivial rfl (From.ok (ps := []) trivial) (DAll.op' (sp_fieldAddrB rfl isBlk rfl ft179_0 vt48 (by decide)) trivial rfl (From.ok (ps := [(none, 0)]) ⟨⟨rfl, rfl⟩, trivial⟩) (DAll.op' (sp_fieldAddrB rfl isBlk rfl ft48_1 vt3 (by decide)) trivial rfl (From.ok (ps := [(none, 0)]) ⟨⟨rfl, rfl⟩, trivial⟩) (DAll.op' (sp_loadB rfl isBlk rfl vt3 rfl) trivial rfl (From.ok (ps := [(none, 0)]) ⟨⟨rfl, rfl⟩, trivial⟩) (DAll.op' (sp_sub rfl rfl rfl h2) trivial rfl (From.ok (ps := []) trivial) (DAll.op' (sp_move rfl rfl) trivial rfl (From.ok (ps := []) trivial) (DAll.op' (sp_quo rfl rfl rfl h3 h4) trivial rfl (From.ok (ps := []) trivial) (DAll.op' (sp_max rfl rfl rfl) trivial rfl (From.ok (ps := []) trivial) (.nil))))))))))))))))
  obtain ⟨h5, h⟩ := chk_inv h
  refine op0 (sp_mul rfl rfl rfl h5) rfl trivial rfl rfl ?_
  refine op0 (sp_assign rfl rfl) rfl trivial rfl rfl ?_
  refine TL.nil ?_
  cases h
  exact retJ [] (.tmp rfl .nil) rfl trivial rfl rfl
/- part_Spares_2 -/
def ev_part_Spares_2_l0 (n : Nat) (c2 : List (Int × Int × Int)) (year1 : Int) : Nat → Int → Int → Int → Int → (List (Int × Int × Int)) → Option Int
  | 0, _, _, _, _, _ => none
  | m + 1, i5, i6, i7, i8, l9 => cond (decide (i6 < (c2.length : Int))) (idx l9 i6 fun x10 => (ev_part_contract_most n x10.1 x10.2.1 x10.2.2 year1 i7).bind fun r11 => chk (in64 (i5 + r11)) <| chk (in64 (i6 + 1)) <| ev_part_Spares_2_l0 n c2 year1 m (i5 + r11) (i6 + 1) i7 i8 l9) (some i5)
set_option maxRecDepth 100000 in
set_option maxHeartbeats 2000000 in
theorem ok_part_Spares_2_l0 {n : Nat} {w0 : World} {R0 : Nat → Prop} {env0 : Env} {r : Int} {year1 : Int} {c2 : List (Int × Int × Int)} : ∀ (m : Nat) (i5 : Int) (i6 : Int) (i7 : Int) (i8 : Int) (l9 : List (Int × Int × Int)), ev_part_Spares_2_l0 n c2 year1 m i5 i6 i7 i8 l9 = some r → TC Try.prog ⟨w0, fun _ => False, R0⟩ 23 (bodyPost Try.prog Try.f72 (Post ⟨w0, fun _ => False, R0⟩ env0 (.val (.int .i64 r)) [])) [.code (sub (bodyOf Try.f72) [1, 0, 1, 0, 0, 0]), .code (sub (bodyOf Try.f72) [1, 0, 1, 0, 0, 1]), .inLoop (sub (bodyOf Try.f72) [1, 0, 1, 0, 0]), .inBlock 0, .code (sub (bodyOf Try.f72) [1, 1])] ([(0, .val (.int .i64 year1)), (2, .ptr 2 0), (4, .val (.int .i64 i5)), (7, .ref 1), (8, .val (.int .i64 (c2.length : Int))), (9, .val (.int .i64 i6))]) ([.rob 2 [.val (.int .i64 i7), .val (.int .i64 i8)] 26, .ro 1 3 (List.map en_api_PartContract l9)]) := by
  intro m
  induction m with
  | zero => intro i5 i6 i7 i8 l9 h; exact none_no h
  | succ m ih =>
    intro i5 i6 i7 i8 l9 h
    rw [ev_part_Spares_2_l0] at h
    refine TC.region ?_
    refine op0 (sp_lss rfl rfl rfl) rfl trivial rfl rfl ?_
    refine TL.nil ?_
    refine TC.seq ?_
    refine TC.cond (b := (decide (i6 < (c2.length : Int)))) rfl (fun h1 => ?_) (fun h1 => ?_)
    · have h := cond_t h h1
      refine TC.skip ?_
      refine TC.seq ?_
      refine TC.block ?_
      refine TC.seq ?_
      refine TC.region ?_
      obtain ⟨x10, h2, h3, h⟩ := idx_inv h
      refine op1 1 rfl (sp_indexS rfl rfl rfl isRo sl46 h2 (map_get _ h3)) rfl trivial rfl rfl ?_
      refine op1 1 rfl (sp_loadRA (i := (i6 : Int).toNat) (j := 0) rfl rfl isRo vt48 rfl (map_get _ h3) rfl rfl (by decide) (.v (.v (.v (.nil)))) (nodup_of_B rfl)) rfl trivial rfl rfl ?_
      refine op0 (sp_alloc 3 rfl Try.zeroValue48 rfl) rfl trivial rfl rfl ?_
      refine stoB 0 (cells' := [.val (.int .i64 x10.1), .val (.int .i64 x10.2.1), .val (.int .i64 x10.2.2)]) rfl rfl trivial rfl rfl rfl rfl vt48 rfl rfl rfl ?_
      refine TL.nil ?_
      refine TC.region ?_
      refine op0 (sp_move rfl rfl) rfl trivial rfl rfl ?_
      refine op1 0 rfl (sp_loadBA rfl isBlk rfl vt48 rfl rfl) rfl trivial rfl rfl ?_
      refine op0 (sp_build (qs := [(0, .agg [.val (.int .i64 x10.1), .val (.int .i64 x10.2.1), .val (.int .i64 x10.2.2)])]) rfl bt179 rfl rfl rfl rfl) rfl trivial rfl rfl ?_
      refine op0 (sp_move rfl rfl) rfl trivial rfl rfl ?_
      refine op1 1 rfl (sp_fieldAddrB rfl isRob rfl ft26_0 vt3 (by decide)) rfl trivial rfl rfl ?_
      refine op1 1 rfl (sp_loadB rfl isRob rfl vt3 rfl) rfl trivial rfl rfl ?_
      obtain ⟨r11, h4, h⟩ := bind_inv h
      refine op0 (sp_call (avs := [.agg [.val (.int .i64 x10.1), .val (.int .i64 x10.2.1), .val (.int .i64 x10.2.2)], .val (.int .i64 year1), .val (.int .i64 i7)]) (need := []) (v := .val (.int .i64 r11)) (news := []) rfl rfl rfl Try.call73 (atJ [] [] (fc_part_contract_most h4) rfl rfl) (.inl (roAll rfl))) rfl trivial rfl rfl ?_
      obtain ⟨h5, h⟩ := chk_inv h
      refine op0 (sp_add rfl rfl rfl h5) rfl trivial rfl rfl ?_
      refine op0 (sp_assign rfl rfl) rfl trivial rfl rfl ?_
      refine TL.nil ?_
      refine TC.inBlock ?_
      refine TC.region ?_
      obtain ⟨h6, h⟩ := chk_inv h
      refine op0 (sp_add rfl rfl rfl h6) rfl trivial rfl rfl ?_
      refine op0 (sp_move rfl rfl) rfl trivial rfl rfl ?_
      refine TL.nil ?_
      refine TC.inLoop ?_
      refine TC.seq ?_
      refine subJ [] (ih _ _ _ _ _ h) ?_ ?_ ?_
      · exact ⟨rfl, rfl, rfl, rfl, rfl, rfl, trivial⟩
      · exact ⟨mem_at 1 rfl, mem_at 2 rfl, trivial⟩
      · rfl
    · have h := cond_f h h1
      refine TC.exit rfl ?_
      refine TC.seq ?_
      refine TC.region ?_
      refine op0 (sp_move rfl rfl) rfl trivial rfl rfl ?_
      refine op0 (sp_assign rfl rfl) rfl trivial rfl rfl ?_
      refine TL.nil ?_
      cases h
      exact retJ [] (.tmp rfl .nil) rfl trivial rfl rfl
def ev_part_Spares_2 (n : Nat) (year1 : Int) (c2 : List (Int × Int × Int)) (c3 : Int) (c4 : Int) : Option Int :=
  ev_part_Spares_2_l0 n c2 year1 n 0 0 c3 c4 c2
set_option maxRecDepth 100000 in
set_option maxHeartbeats 2000000 in
theorem fc_part_Spares_2 {n : Nat} {year1 : Int} {c2 : List (Int × Int × Int)} {c3 : Int} {c4 : Int} {r : Int} (h : ev_part_Spares_2 n year1 c2 c3 c4 = some r) : FC Try.prog 72 [.val (.int .i64 year1), .ptr 0 0, .ptr 2 0] [.rob 0 [.ref 1] 46, .ro 1 3 (List.map en_api_PartContract c2), .rob 2 [.val (.int .i64 c3), .val (.int .i64 c4)] 26] (.val (.int .i64 r)) [] := by
  refine introJ (nz := 23) Try.func72 rfl rfl rfl (fun w0 R0 env0 => ?_)
  rw [ev_part_Spares_2] at h
  refine TC.seq ?_
  refine TC.region ?_
  refine op0 (sp_assign rfl rfl) rfl trivial rfl rfl ?_
  refine TL.nil ?_
  refine TC.seq ?_
  refine TC.seq ?_
  refine TC.region ?_
  refine op1 0 rfl (sp_loadB rfl isRob rfl vt46 rfl) rfl trivial rfl rfl ?_
  refine op1 1 rfl (sp_lenM (N := c2.length) (len_map _ _) rfl rfl isRo Try.underlying46) rfl trivial rfl rfl ?_
  refine op0 (sp_move rfl rfl) rfl trivial rfl rfl ?_
  refine TL.nil ?_
  refine TC.block ?_
  refine TC.loop ?_
  refine TC.seq ?_
  refine subJ [] (ok_part_Spares_2_l0 _ _ _ _ _ _ h) ?_ ?_ ?_
  · exact ⟨rfl, rfl, rfl, rfl, rfl, rfl, trivial⟩
  · exact ⟨mem_at 2 rfl, mem_at 1 rfl, trivial⟩
  · rfl
/- part_Spares -/
def ev_part_Spares_l1 (n : Nat) (r11 : (List Int)) : Nat → (List Int) → Int → Int → Int → Int → (List Int) → (List (Int × Int × Int)) → Option ((List Int) × Int)
  | 0, _, _, _, _, _, _, _ => none
  | m + 1, l12, i13, i14, i15, i16, l17, l18 => cond (decide (i14 < ((r11 ++ ([201] : List Int)).length : Int))) (idx l17 i14 fun x19 => (ev_part_Spares_2 n x19 l18 i15 i16).bind fun r20 => chk (in64 (r20 - i13)) <| chk (room 8 (l12.length + ([(r20 - i13)] : List Int).length)) <| chk (in64 (i14 + 1)) <| ev_part_Spares_l1 n r11 m (l12 ++ ([(r20 - i13)] : List Int)) r20 (i14 + 1) i15 i16 l17 l18) (some (l12, 0))
set_option maxRecDepth 100000 in
set_option maxHeartbeats 2000000 in
theorem ok_part_Spares_l1 {n : Nat} {w0 : World} {R0 : Nat → Prop} {env0 : Env} {r : (List Int) × Int} {r11 : (List Int)} : ∀ (m : Nat) (l12 : List Int) (i13 : Int) (i14 : Int) (i15 : Int) (i16 : Int) (l17 : List Int) (l18 : List (Int × Int × Int)), ev_part_Spares_l1 n r11 m l12 i13 i14 i15 i16 l17 l18 = some r → TC Try.prog ⟨w0, fun _ => False, R0⟩ 60 (bodyPost Try.prog Try.f19 (Post ⟨w0, fun _ => False, R0⟩ env0 (.tup [.ref 0, .val (.int .i64 r.2)]) [.row 0 3 1 (List.map en_int r.1)])) [.code (sub (bodyOf Try.f19) [1, 1, 1, 1, 1, 0, 1, 0, 0, 0]), .code (sub (bodyOf Try.f19) [1, 1, 1, 1, 1, 0, 1, 0, 0, 1]), .inLoop (sub (bodyOf Try.f19) [1, 1, 1, 1, 1, 0, 1, 0, 0]), .inBlock 1, .code (sub (bodyOf Try.f19) [1, 1, 1, 1, 1, 1])] ([(6, .ref 14), (8, .fn 72 [] [.ptr 3 0, .ptr 2 0]), (9, .val (.int .i64 i13)), (42, .ref 13), (43, .val (.int .i64 ((r11 ++ ([201] : List Int)).length : Int))), (44, .val (.int .i64 i14))]) ([.row 14 3 1 (List.map en_int l12), .blk 3 [.ref 0] 46, .blk 2 [.val (.int .i64 i15), .val (.int .i64 i16)] 26, .row 13 3 1 (List.map en_int l17), .ro 0 3 (List.map en_api_PartContract l18)]) := by
  intro m
  induction m with
  | zero => intro l12 i13 i14 i15 i16 l17 l18 h; exact none_no h
  | succ m ih =>
    intro l12 i13 i14 i15 i16 l17 l18 h
    rw [ev_part_Spares_l1] at h
    refine TC.region ?_
    refine op0 (sp_lss rfl rfl rfl) rfl trivial rfl rfl ?_
    refine TL.nil ?_
    refine TC.seq ?_
    refine TC.cond (b := (decide (i14 < ((r11 ++ ([201] : List Int)).length : Int)))) rfl (fun h16 => ?_) (fun h16 => ?_)
    · have h := cond_t h h16
      refine TC.skip ?_
      refine TC.seq ?_
      refine TC.block ?_
      refine TC.seq ?_
      refine TC.region ?_
      obtain ⟨x19, h17, h18, h⟩ := idx_inv h
      refine op1 3 rfl (sp_indexS rfl rfl rfl isOwn sl37 h17 (map_get _ h18)) rfl trivial rfl rfl ?_
      refine op1 3 rfl (sp_loadR (i := (i14 : Int).toNat) (j := 0) rfl rfl isOwn vt3 rfl (map_get _ h18) rfl (.v (.nil)) (nodup_of_B rfl)) rfl trivial rfl rfl ?_
      refine op0 (sp_assign rfl rfl) rfl trivial rfl rfl ?_
      refine TL.nil ?_
      refine TC.seq ?_
      refine TC.region ?_
      refine op0 (sp_move rfl rfl) rfl trivial rfl rfl ?_
      refine op0 (sp_move rfl rfl) rfl trivial rfl rfl ?_
      obtain ⟨r20, h19, h⟩ := bind_inv h
      refine opN (need := [.blk 3 [.ref 0] 46, .ro 0 3 (List.map en_api_PartContract l18), .blk 2 [.val (.int .i64 i15), .val (.int .i64 i16)] 26]) [1, 4, 2] ⟨rfl, rfl, rfl, trivial⟩ (sp_call (avs := [.val (.int .i64 x19)]) (need := [.blk 3 [.ref 0] 46, .ro 0 3 (List.map en_api_PartContract l18), .blk 2 [.val (.int .i64 i15), .val (.int .i64 i16)] 26]) (v := .val (.int .i64 r20)) (news := []) rfl rfl rfl Try.call72 (atJ [(0, 3), (1, 0)] [] (fc_part_Spares_2 h19) rfl rfl) (.inr (fun x hx => nomatch hx))) rfl trivial rfl rfl ?_
      refine op0 (sp_assign rfl rfl) rfl trivial rfl rfl ?_
      refine TL.nil ?_
      refine TC.seq ?_
      refine TC.region ?_
      refine op0 (sp_move rfl rfl) rfl trivial rfl rfl ?_
      refine op0 (sp_move rfl rfl) rfl trivial rfl rfl ?_
      refine op0 (sp_move rfl rfl) rfl trivial rfl rfl ?_
      obtain ⟨h20, h⟩ := chk_inv h
      refine op0 (sp_sub rfl rfl rfl h20) rfl trivial rfl rfl ?_
      refine op0 (sp_buildSlice (qs := [.val (.int .i64 (r20 - i13))]) (need := []) (els := List.map en_int ([(r20 - i13)] : List Int)) 15 rfl sl37 (by decide) (by decide) rfl rfl rfl (.v (.nil)) (map_len fun _ => rfl) rfl rfl rfl) rfl trivial rfl rfl ?_
      obtain ⟨h21, h⟩ := chk_inv h
      refine appM 1 0 (N := l12.length) (N2 := ([(r20 - i13)] : List Int).length) 16 rfl rfl trivial rfl rfl rfl rfl rfl isOwn rfl sl37 (len_map _ _) (len_map _ _) h21 (map_app _ _ _) rfl ?_
      refine op0 (sp_assign rfl rfl) rfl trivial rfl rfl ?_
      refine TL.nil ?_
      refine TC.region ?_
      refine op0 (sp_move rfl rfl) rfl trivial rfl rfl ?_
      refine op0 (sp_assign rfl rfl) rfl trivial rfl rfl ?_
      refine TL.nil ?_
      refine TC.inBlock ?_
      refine TC.region ?_
      obtain ⟨h22, h⟩ := chk_inv h
      refine op0 (sp_add rfl rfl rfl h22) rfl trivial rfl rfl ?_
      refine op0 (sp_move rfl rfl) rfl trivial rfl rfl ?_
      refine TL.nil ?_
      refine TC.inLoop ?_
      refine TC.seq ?_
      refine subJ [(14, 16)] (ih _ _ _ _ _ _ _ h) ?_ ?_ ?_
      · exact ⟨rfl, rfl, rfl, rfl, rfl, rfl, trivial⟩
      · exact ⟨mem_at 0 rfl, mem_at 2 rfl, mem_at 3 rfl, mem_at 4 rfl, mem_at 5 rfl, trivial⟩
      · rfl
    · have h := cond_f h h16
      refine TC.exit rfl ?_
      refine TC.seq ?_
      refine TC.region ?_
      refine op0 (sp_move rfl rfl) rfl trivial rfl rfl ?_
      refine op0 (sp_assign rfl rfl) rfl trivial rfl rfl ?_
      refine op0 (sp_assign rfl rfl) rfl trivial rfl rfl ?_
      refine TL.nil ?_
      cases h
      exact retJ [(0, 14)] (.tmp rfl (.tmp rfl .nil)) rfl ⟨mem_at 0 rfl, trivial⟩ rfl rfl
def ev_part_Spares_j0 (n : Nat) (l3 : List (Int × Int × Int)) (orders4 : List Int) (life1 : Int) (life2 : Int) (b6 : Bool) : Option ((List Int) × Int) :=
  cond b6 (some (([] : List Int), 5)) ((ev_slices_ContainsFunc_Lapi_PartContract_api_PartContract n l3 (fun a => ev_part_Spares_1 n a.1 a.2.1 a.2.2)).bind fun r7 => cond r7 (some (([] : List Int), 2)) ((ev_part_areOrders n orders4).bind fun r8 => cond (!r8) (some (([] : List Int), 4)) (idx orders4 0 fun x9 => (ev_part_Spares_2 n x9 l3 life1 life2).bind fun r10 => cond (decide ((0 : Int) < r10)) (some (([] : List Int), 9)) (chk (decide (0 ≤ (1 : Int)) && (decide ((1 : Int) ≤ (orders4.length : Int)) && decide ((orders4.length : Int) ≤ (orders4.length : Int)))) <| (ev_slices_Clone_Lint_int n (List.drop (1 : Int).toNat (List.take ((orders4.length : Int) : Int).toNat orders4))).bind fun r11 => chk (room 8 (r11.length + ([201] : List Int).length)) <| ev_part_Spares_l1 n r11 n ([] : List Int) 0 0 life1 life2 (r11 ++ ([201] : List Int)) l3))))
set_option maxRecDepth 100000 in
set_option maxHeartbeats 2000000 in
theorem ok_part_Spares_j0 {n : Nat} {w0 : World} {R0 : Nat → Prop} {env0 : Env} {r : (List Int) × Int} {orders4 : List Int} {life1 : Int} {life2 : Int} {l3 : List (Int × Int × Int)} {b6 : Bool} (h : ev_part_Spares_j0 n l3 orders4 life1 life2 b6 = some r) : TC Try.prog ⟨w0, fun _ => False, R0⟩ 60 (bodyPost Try.prog Try.f19 (Post ⟨w0, fun _ => False, R0⟩ env0 (.tup [.ref 0, .val (.int .i64 r.2)]) [.row 0 3 1 (List.map en_int r.1)])) [.code (sub (bodyOf Try.f19) [1, 0, 0, 1, 1, 1]), .inBlock 0, .code (sub (bodyOf Try.f19) [1, 1])] ([(2, .ref 1), (3, .ptr 2 0), (4, .ptr 3 0), (6, .val (.slice none 0 0)), (17, .val (.bool b6))]) ([.ro 1 1 (List.map en_int orders4), .blk 2 [.val (.int .i64 life1), .val (.int .i64 life2)] 26, .blk 3 [.ref 0] 46, .ro 0 3 (List.map en_api_PartContract l3)]) := by
  rw [ev_part_Spares_j0] at h
  refine TC.cond (b := b6) rfl (fun h4 => ?_) (fun h4 => ?_)
  · have h := cond_t h h4
    refine TC.seq ?_
    refine TC.region ?_
    refine op0 (sp_assign rfl rfl) rfl trivial rfl rfl ?_
    refine op0 (sp_assign rfl rfl) rfl trivial rfl rfl ?_
    refine TL.nil ?_
    refine nilRowC 6 5 3 1 (List.map en_int []) rfl rfl rfl ?_
    cases h
    exact retJ [(0, 5)] (.tmp rfl (.tmp rfl .nil)) rfl ⟨mem_at 0 rfl, trivial⟩ rfl rfl
  · have h := cond_f h h4
    refine TC.seq ?_
    refine TC.region ?_
    refine op1 2 rfl (sp_loadB rfl isBlk rfl vt46 rfl) rfl trivial rfl rfl ?_
    obtain ⟨r7, h5, h⟩ := bind_inv h
    refine op1 3 rfl (sp_call (avs := [.ref 0, .fn 69 [] []]) (need := [.ro 0 3 (List.map en_api_PartContract l3)]) (v := .val (.bool r7)) (news := []) rfl rfl rfl Try.call68 (FC.fnArg (args := [.ref 0, .ref 6]) (needC := []) (need := [.ro 0 3 (List.map en_api_PartContract l3)]) 1 (first := []) (caps := []) (FC.needJ (need := [.any 6 (D.fn Try.prog fe_funcapi_PartContract_bool fd_funcapi_PartContract_bool (fun a => ev_part_Spares_1 n a.1 a.2.1 a.2.2)), .ro 0 3 (List.map en_api_PartContract l3)]) (need' := [.ro 0 3 (List.map en_api_PartContract l3), .any 6 (D.fn Try.prog fe_funcapi_PartContract_bool fd_funcapi_PartContract_bool (fun a => ev_part_Spares_1 n a.1 a.2.1 a.2.2))]) [1, 0] ⟨rfl, rfl, trivial⟩ (atJ [(1, 6)] [] (fc_slices_ContainsFunc_Lapi_PartContract_api_PartContract h5) rfl rfl)) rfl Try.call69 (fun a b hab => atJ [] [] (fc_part_Spares_1 hab) rfl rfl) rfl (fun _ => rfl) (fun _ => rfl) rfl rfl rfl rfl rfl rfl rfl) (.inl (roAll rfl))) rfl trivial rfl rfl ?_
    refine op0 (sp_assign rfl rfl) rfl trivial rfl rfl ?_
    refine TL.nil ?_
    refine TC.cond (b := r7) rfl (fun h6 => ?_) (fun h6 => ?_)
    · have h := cond_t h h6
      refine TC.seq ?_
      refine TC.region ?_
      refine op0 (sp_assign rfl rfl) rfl trivial rfl rfl ?_
      refine op0 (sp_assign rfl rfl) rfl trivial rfl rfl ?_
      refine TL.nil ?_
      refine nilRowC 6 7 3 1 (List.map en_int []) rfl rfl rfl ?_
      cases h
      exact retJ [(0, 7)] (.tmp rfl (.tmp rfl .nil)) rfl ⟨mem_at 0 rfl, trivial⟩ rfl rfl
    · have h := cond_f h h6
      refine TC.seq ?_
      refine TC.region ?_
      refine op0 (sp_move rfl rfl) rfl trivial rfl rfl ?_
      obtain ⟨r8, h7, h⟩ := bind_inv h
      refine op1 0 rfl (sp_call (avs := [.ref 1]) (need := [.ro 1 1 (List.map en_int orders4)]) (v := .val (.bool r8)) (news := []) rfl rfl rfl Try.call71 (atJ [(0, 1)] [] (fc_part_areOrders h7) rfl rfl) (.inl (roAll rfl))) rfl trivial rfl rfl ?_
      refine op0 (sp_not rfl rfl) rfl trivial rfl rfl ?_
      refine op0 (sp_assign rfl rfl) rfl trivial rfl rfl ?_
      refine TL.nil ?_
      refine TC.cond (b := (!r8)) rfl (fun h8 => ?_) (fun h8 => ?_)
      · have h := cond_t h h8
        refine TC.seq ?_
        refine TC.region ?_
        refine op0 (sp_assign rfl rfl) rfl trivial rfl rfl ?_
        refine op0 (sp_assign rfl rfl) rfl trivial rfl rfl ?_
        refine TL.nil ?_
        refine nilRowC 6 8 3 1 (List.map en_int []) rfl rfl rfl ?_
        cases h
        exact retJ [(0, 8)] (.tmp rfl (.tmp rfl .nil)) rfl ⟨mem_at 0 rfl, trivial⟩ rfl rfl
      · have h := cond_f h h8
        refine TC.skip ?_
        refine TC.inBlock ?_
        refine TC.seq ?_
        refine TC.region ?_
        refine op0 (sp_makeFunc (fi := []) (ca := [.tmp 4, .tmp 3]) (fa := []) (cb := [.ptr 3 0, .ptr 2 0]) rfl rfl rfl) rfl trivial rfl rfl ?_
        refine op0 (sp_assign rfl rfl) rfl trivial rfl rfl ?_
        refine TL.nil ?_
        refine TC.seq ?_
        refine TC.seq ?_
        refine TC.region ?_
        refine op0 (sp_move rfl rfl) rfl trivial rfl rfl ?_
        refine op0 (sp_move rfl rfl) rfl trivial rfl rfl ?_
        obtain ⟨x9, h9, h10, h⟩ := idx_inv h
        refine op1 0 rfl (sp_indexS rfl rfl rfl isRo sl37 h9 (map_get _ h10)) rfl trivial rfl rfl ?_
        refine op1 0 rfl (sp_loadR (i := (0 : Int).toNat) (j := 0) rfl rfl isRo vt3 rfl (map_get _ h10) rfl (.v (.nil)) (nodup_of_B rfl)) rfl trivial rfl rfl ?_
        obtain ⟨r10, h11, h⟩ := bind_inv h
        refine opN (need := [.blk 3 [.ref 0] 46, .ro 0 3 (List.map en_api_PartContract l3), .blk 2 [.val (.int .i64 life1), .val (.int .i64 life2)] 26]) [2, 3, 1] ⟨rfl, rfl, rfl, trivial⟩ (sp_call (avs := [.val (.int .i64 x9)]) (need := [.blk 3 [.ref 0] 46, .ro 0 3 (List.map en_api_PartContract l3), .blk 2 [.val (.int .i64 life1), .val (.int .i64 life2)] 26]) (v := .val (.int .i64 r10)) (news := []) rfl rfl rfl Try.call72 (atJ [(0, 3), (1, 0)] [] (fc_part_Spares_2 h11) rfl rfl) (.inr (fun x hx => nomatch hx))) rfl trivial rfl rfl ?_
        refine op0 (sp_gtr rfl rfl rfl) rfl trivial rfl rfl ?_
        refine TL.nil ?_
        refine TC.cond (b := (decide ((0 : Int) < r10))) rfl (fun h12 => ?_) (fun h12 => ?_)
        · have h := cond_t h h12
          refine TC.seq ?_
          refine TC.region ?_
          refine op0 (sp_assign rfl rfl) rfl trivial rfl rfl ?_
          refine op0 (sp_assign rfl rfl) rfl trivial rfl rfl ?_
          refine TL.nil ?_
          refine nilRowC 6 9 3 1 (List.map en_int []) rfl rfl rfl ?_
          cases h
          exact retJ [(0, 9)] (.tmp rfl (.tmp rfl .nil)) rfl ⟨mem_at 0 rfl, trivial⟩ rfl rfl
        · have h := cond_f h h12
          refine TC.skip ?_
          refine TC.seq ?_
          refine TC.region ?_
          refine op0 (sp_assign rfl rfl) rfl trivial rfl rfl ?_
          refine TL.nil ?_
          refine TC.seq ?_
          refine TC.seq ?_
          refine TC.region ?_
          refine op0 (sp_move rfl rfl) rfl trivial rfl rfl ?_
          obtain ⟨h13, h⟩ := chk_inv h
          refine op1 0 rfl (sp_sliceM (l := 1) (h := (orders4.length : Int)) 10 (len_map _ _) rfl rfl sl37 (cut_some rfl) cut_none h13 (map_cut _ _ _ _)) rfl trivial rfl rfl ?_
          obtain ⟨r11, h14, h⟩ := bind_inv h
          refine op1 0 rfl (sp_call (avs := [.ref 10]) (need := [.ro 10 1 (List.map en_int (List.drop (1 : Int).toNat (List.take ((orders4.length : Int) : Int).toNat orders4)))]) (v := .ref 11) (news := [.row 11 3 1 (List.map en_int r11)]) rfl rfl rfl Try.call74 (atJ [(0, 10)] [(0, 11)] (fc_slices_Clone_Lint_int h14) rfl rfl) (.inl (roAll rfl))) rfl trivial rfl rfl ?_
          refine op0 (sp_buildSlice (qs := [.val (.int .i64 201)]) (need := []) (els := List.map en_int ([201] : List Int)) 12 rfl sl37 (by decide) (by decide) rfl rfl rfl (.v (.nil)) (map_len fun _ => rfl) rfl rfl rfl) rfl trivial rfl rfl ?_
          obtain ⟨h15, h⟩ := chk_inv h
          refine appM 1 0 (N := r11.length) (N2 := ([201] : List Int).length) 13 rfl rfl trivial rfl rfl rfl rfl rfl isOwn rfl sl37 (len_map _ _) (len_map _ _) h15 (map_app _ _ _) rfl ?_
          refine op1 0 rfl (sp_lenM (N := (r11 ++ ([201] : List Int)).length) (len_map _ _) rfl rfl isOwn Try.underlying37) rfl trivial rfl rfl ?_
          refine op0 (sp_move rfl rfl) rfl trivial rfl rfl ?_
          refine TL.nil ?_
          refine TC.block ?_
          refine TC.loop ?_
          refine TC.seq ?_
          refine nilRowC 6 17 3 1 (List.map en_int []) rfl rfl rfl ?_
          refine subJ [(14, 17)] (ok_part_Spares_l1 _ _ _ _ _ _ _ _ h) ?_ ?_ ?_
          · exact ⟨rfl, rfl, rfl, rfl, rfl, rfl, trivial⟩
          · exact ⟨mem_at 0 rfl, mem_at 6 rfl, mem_at 5 rfl, mem_at 1 rfl, mem_at 7 rfl, trivial⟩
          · rfl
def ev_part_Spares (n : Nat) (life1 : Int) (life2 : Int) (l3 : List (Int × Int × Int)) (orders4 : List Int) : Option ((List Int) × Int) :=
  (ev_part_isSpan n life1 life2 1 200).bind fun r5 => cond (!r5) (some (([] : List Int), 3)) (cond (decide ((50 : Int) < (l3.length : Int))) (ev_part_Spares_j0 n l3 orders4 life1 life2 (decide ((50 : Int) < (l3.length : Int)))) (ev_part_Spares_j0 n l3 orders4 life1 life2 (decide ((50 : Int) < (orders4.length : Int)))))
set_option maxRecDepth 100000 in
set_option maxHeartbeats 2000000 in
theorem fc_part_Spares {n : Nat} {life1 : Int} {life2 : Int} {l3 : List (Int × Int × Int)} {orders4 : List Int} {r : (List Int) × Int} (h : ev_part_Spares n life1 life2 l3 orders4 = some r) : FC Try.prog 19 [.agg [.val (.int .i64 life1), .val (.int .i64 life2)], .ref 0, .ref 1] [.ro 0 3 (List.map en_api_PartContract l3), .ro 1 1 (List.map en_int orders4)] (.tup [.ref 0, .val (.int .i64 r.2)]) [.row 0 3 1 (List.map en_int r.1)] := by
  refine introJ (nz := 60) Try.func19 rfl rfl rfl (fun w0 R0 env0 => ?_)
  rw [ev_part_Spares] at h
  refine TC.seq ?_
  refine TC.region ?_
  refine op0 (sp_box 2 rfl rfl rfl rfl rfl) rfl trivial rfl rfl ?_
  refine op0 (sp_box 3 rfl rfl rfl rfl rfl) rfl trivial rfl rfl ?_
  refine op0 (sp_assign rfl rfl) rfl trivial rfl rfl ?_
  refine op0 (sp_assign rfl rfl) rfl trivial rfl rfl ?_
  refine TL.nil ?_
  refine TC.seq ?_
  refine TC.block ?_
  refine TC.seq ?_
  refine TC.region ?_
  refine op1 1 rfl (sp_loadBA rfl isBlk rfl vt26 rfl rfl) rfl trivial rfl rfl ?_
  obtain ⟨r5, h1, h⟩ := bind_inv h
  refine op0 (sp_call (avs := [.agg [.val (.int .i64 life1), .val (.int .i64 life2)], .val (.int .i64 1), .val (.int .i64 200)]) (need := []) (v := .val (.bool r5)) (news := []) rfl rfl rfl Try.call67 (atJ [] [] (fc_part_isSpan h1) rfl rfl) (.inl (roAll rfl))) rfl trivial rfl rfl ?_
  refine op0 (sp_not rfl rfl) rfl trivial rfl rfl ?_
  refine op0 (sp_assign rfl rfl) rfl trivial rfl rfl ?_
  refine TL.nil ?_
  refine TC.cond (b := (!r5)) rfl (fun h2 => ?_) (fun h2 => ?_)
  · have h := cond_t h h2
    refine TC.seq ?_
    refine TC.region ?_
    refine op0 (sp_assign rfl rfl) rfl trivial rfl rfl ?_
    refine op0 (sp_assign rfl rfl) rfl trivial rfl rfl ?_
    refine TL.nil ?_
    refine nilRowC 6 4 3 1 (List.map en_int []) rfl rfl rfl ?_
    cases h
    exact retJ [(0, 4)] (.tmp rfl (.tmp rfl .nil)) rfl ⟨mem_at 0 rfl, trivial⟩ rfl rfl
  · have h := cond_f h h2
    refine TC.seq ?_
    refine TC.seq ?_
    refine TC.region ?_
    refine op1 0 rfl (sp_loadB rfl isBlk rfl vt46 rfl) rfl trivial rfl rfl ?_
    refine op1 2 rfl (sp_lenM (N := l3.length) (len_map _ _) rfl rfl isRo Try.underlying46) rfl trivial rfl rfl ?_
    refine op0 (sp_gtr rfl rfl rfl) rfl trivial rfl rfl ?_
    refine op0 (sp_assign rfl rfl) rfl trivial rfl rfl ?_
    refine TL.nil ?_
    refine TC.cond (b := (decide ((50 : Int) < (l3.length : Int)))) rfl (fun h3 => ?_) (fun h3 => ?_)
    · have h := cond_t h h3
      refine TC.skip ?_
      refine subJ [] (ok_part_Spares_j0 h) ?_ ?_ ?_
      · exact ⟨rfl, rfl, rfl, rfl, rfl, trivial⟩
      · exact ⟨mem_at 3 rfl, mem_at 1 rfl, mem_at 0 rfl, mem_at 2 rfl, trivial⟩
      · rfl
    · have h := cond_f h h3
      refine TC.region ?_
      refine op0 (sp_move rfl rfl) rfl trivial rfl rfl ?_
      refine op1 3 rfl (sp_lenM (N := orders4.length) (len_map _ _) rfl rfl isRo Try.underlying37) rfl trivial rfl rfl ?_
      refine op0 (sp_gtr rfl rfl rfl) rfl trivial rfl rfl ?_
      refine op0 (sp_assign rfl rfl) rfl trivial rfl rfl ?_
      refine TL.nil ?_
      refine subJ [] (ok_part_Spares_j0 h) ?_ ?_ ?_
      · exact ⟨rfl, rfl, rfl, rfl, rfl, trivial⟩
      · exact ⟨mem_at 3 rfl, mem_at 1 rfl, mem_at 0 rfl, mem_at 2 rfl, trivial⟩
      · rfl
/- top_pubParts -/
def ev_top_pubParts (n : Nat) : Option Bool :=
  (ev_top_pubSpan n 5 9).bind fun r1 => (ev_part_Spares n r1.1 r1.2 ([(10, 0, 20)] : List (Int × Int × Int)) ([3, 12] : List Int)).bind fun r2 => cond (r2.2 == 0) (cond ((r2.1.length : Int) == 2) (idx r2.1 0 fun x3 => cond (x3 == 20) (idx r2.1 1 fun x4 => some (x4 == 10)) (some false)) (some false)) (some false)
set_option maxRecDepth 100000 in
set_option maxHeartbeats 2000000 in
theorem fc_top_pubParts {n : Nat}  {r : Bool} (h : ev_top_pubParts n = some r) : FC Try.prog 21 [] [] (.val (.bool r)) [] := by
  refine introJ (nz := 30) Try.func21 rfl rfl rfl (fun w0 R0 env0 => ?_)
  rw [ev_top_pubParts] at h
  refine TC.seq ?_
  refine TC.region ?_
  refine op0 (sp_assign rfl rfl) rfl trivial rfl rfl ?_
  refine TL.nil ?_
  refine TC.seq ?_
  refine TC.region ?_
  obtain ⟨r1, h1, h⟩ := bind_inv h
  refine op0 (sp_call (avs := [.val (.int .i64 5), .val (.int .i64 9)]) (need := []) (v := .agg [.val (.int .i64 r1.1), .val (.int .i64 r1.2)]) (news := []) rfl rfl rfl Try.call14 (atJ [] [] (fc_top_pubSpan h1) rfl rfl) (.inl (roAll rfl))) rfl trivial rfl rfl ?_
  refine op0 (sp_build (qs := [(0, .val (.int .i64 10)), (2, .val (.int .i64 20))]) rfl bt48 rfl rfl rfl rfl) rfl trivial rfl rfl ?_
  refine op0 (sp_buildSlice (qs := [.agg [.val (.int .i64 10), .val (.int .i64 0), .val (.int .i64 20)]]) (need := []) (els := List.map en_api_PartContract ([(10, 0, 20)] : List (Int × Int × Int))) 0 rfl sl46 (by decide) (by decide) rfl rfl rfl (.v (.v (.v (.nil)))) (map_len fun _ => rfl) rfl rfl rfl) rfl trivial rfl rfl ?_
  refine op0 (sp_buildSlice (qs := [.val (.int .i64 3), .val (.int .i64 12)]) (need := []) (els := List.map en_int ([3, 12] : List Int)) 1 rfl sl37 (by decide) (by decide) rfl rfl rfl (.v (.v (.nil))) (map_len fun _ => rfl) rfl rfl rfl) rfl trivial rfl rfl ?_
  obtain ⟨r2, h2, h⟩ := bind_inv h
  refine opN (need := [.row 0 48 3 (List.map en_api_PartContract ([(10, 0, 20)] : List (Int × Int × Int))), .row 1 3 1 (List.map en_int ([3, 12] : List Int))]) [1, 0] ⟨rfl, rfl, trivial⟩ (sp_call (avs := [.agg [.val (.int .i64 r1.1), .val (.int .i64 r1.2)], .ref 0, .ref 1]) (need := [.row 0 48 3 (List.map en_api_PartContract ([(10, 0, 20)] : List (Int × Int × Int))), .row 1 3 1 (List.map en_int ([3, 12] : List Int))]) (v := .tup [.ref 2, .val (.int .i64 r2.2)]) (news := [.row 2 3 1 (List.map en_int r2.1)]) rfl rfl rfl Try.call19 (atJ [] [(0, 2)] (fc_part_Spares h2) rfl rfl) (.inr (List.forall_mem_cons.2 ⟨indep_map en_int_flat, (by simp)⟩))) rfl trivial rfl rfl ?_
  refine op0 (sp_move rfl rfl) rfl trivial rfl rfl ?_
  refine op0 (sp_extract rfl rfl rfl) rfl trivial rfl rfl ?_
  refine op0 (sp_extract rfl rfl rfl) rfl trivial rfl rfl ?_
  refine op0 (sp_assign rfl rfl) rfl trivial rfl rfl ?_
  refine op0 (sp_assign rfl rfl) rfl trivial rfl rfl ?_
  refine TL.nil ?_
  refine TC.seq ?_
  refine TC.region ?_
  refine op0 (sp_move rfl rfl) rfl trivial rfl rfl ?_
  refine op0 (sp_eql rfl rfl rfl) rfl trivial rfl rfl ?_
  refine op0 (sp_move rfl rfl) rfl trivial rfl rfl ?_
  rcases cond_cases h with ⟨h3, h⟩ | ⟨h3, h⟩
  · refine (boolLit 13 rfl h3).2 ?_
    refine op0 (sp_move rfl rfl) rfl ⟨_, rfl, rfl⟩ rfl rfl ?_
    refine op1 0 rfl (sp_lenM (N := r2.1.length) (len_map _ _) rfl rfl isOwn Try.underlying37) rfl ⟨_, rfl, rfl⟩ rfl rfl ?_
    refine op0 (sp_eql rfl rfl rfl) rfl ⟨_, rfl, rfl⟩ rfl rfl ?_
    refine op0 (sp_pickT rfl rfl rfl) rfl trivial rfl rfl ?_
    refine op0 (sp_move rfl rfl) rfl trivial rfl rfl ?_
    rcases cond_cases h with ⟨h4, h⟩ | ⟨h4, h⟩
    · refine (boolLit 18 rfl h4).2 ?_
      refine op0 (sp_move rfl rfl) rfl ⟨_, rfl, rfl⟩ rfl rfl ?_
      obtain ⟨x3, h5, h6, h⟩ := idx_inv h
      refine op1 0 rfl (sp_indexS rfl rfl rfl isOwn sl37 h5 (map_get _ h6)) rfl ⟨_, rfl, rfl⟩ rfl rfl ?_
      refine op1 0 rfl (sp_loadR (i := (0 : Int).toNat) (j := 0) rfl rfl isOwn vt3 rfl (map_get _ h6) rfl (.v (.nil)) (nodup_of_B rfl)) rfl ⟨_, rfl, rfl⟩ rfl rfl ?_
      refine op0 (sp_eql rfl rfl rfl) rfl ⟨_, rfl, rfl⟩ rfl rfl ?_
      refine op0 (sp_pickT rfl rfl rfl) rfl trivial rfl rfl ?_
      refine op0 (sp_move rfl rfl) rfl trivial rfl rfl ?_
      rcases cond_cases h with ⟨h7, h⟩ | ⟨h7, h⟩
      · refine (boolLit 24 rfl h7).2 ?_
        refine op0 (sp_move rfl rfl) rfl ⟨_, rfl, rfl⟩ rfl rfl ?_
        obtain ⟨x4, h8, h9, h⟩ := idx_inv h
        refine op1 0 rfl (sp_indexS rfl rfl rfl isOwn sl37 h8 (map_get _ h9)) rfl ⟨_, rfl, rfl⟩ rfl rfl ?_
        refine op1 0 rfl (sp_loadR (i := (1 : Int).toNat) (j := 0) rfl rfl isOwn vt3 rfl (map_get _ h9) rfl (.v (.nil)) (nodup_of_B rfl)) rfl ⟨_, rfl, rfl⟩ rfl rfl ?_
        refine op0 (sp_eql rfl rfl rfl) rfl ⟨_, rfl, rfl⟩ rfl rfl ?_
        refine op0 (sp_pickT rfl rfl rfl) rfl trivial rfl rfl ?_
        refine op0 (sp_assign rfl rfl) rfl trivial rfl rfl ?_
        refine TL.nil ?_
        cases h
        exact retJ [] (.tmp rfl .nil) rfl trivial rfl rfl
      · refine (boolLit 24 rfl h7).2 ?_
        refine opSkip rfl ⟨_, rfl, .inl rfl⟩ rfl ?_
        refine opSkip rfl ⟨_, rfl, .inl rfl⟩ rfl ?_
        refine opSkip rfl ⟨_, rfl, .inl rfl⟩ rfl ?_
        refine opSkip rfl ⟨_, rfl, .inl rfl⟩ rfl ?_
        refine op0 (sp_pickF rfl rfl rfl) rfl trivial rfl rfl ?_
        refine op0 (sp_assign rfl rfl) rfl trivial rfl rfl ?_
        refine TL.nil ?_
        cases h
        exact retJ [] (.tmp rfl .nil) rfl trivial rfl rfl
    · refine (boolLit 18 rfl h4).2 ?_
      refine opSkip rfl ⟨_, rfl, .inl rfl⟩ rfl ?_
      refine opSkip rfl ⟨_, rfl, .inl rfl⟩ rfl ?_
      refine opSkip rfl ⟨_, rfl, .inl rfl⟩ rfl ?_
      refine opSkip rfl ⟨_, rfl, .inl rfl⟩ rfl ?_
      refine op0 (sp_pickF rfl rfl rfl) rfl trivial rfl rfl ?_
      refine op0 (sp_move rfl rfl) rfl trivial rfl rfl ?_
      refine opSkip rfl ⟨_, rfl, .inl rfl⟩ rfl ?_
      refine opSkip rfl ⟨_, rfl, .inl rfl⟩ rfl ?_
      refine opSkip rfl ⟨_, rfl, .inl rfl⟩ rfl ?_
      refine opSkip rfl ⟨_, rfl, .inl rfl⟩ rfl ?_
      refine op0 (sp_pickF rfl rfl rfl) rfl trivial rfl rfl ?_
      refine op0 (sp_assign rfl rfl) rfl trivial rfl rfl ?_
      refine TL.nil ?_
      cases h
      exact retJ [] (.tmp rfl .nil) rfl trivial rfl rfl
  · refine (boolLit 13 rfl h3).2 ?_
    refine opSkip rfl ⟨_, rfl, .inl rfl⟩ rfl ?_
    refine opSkip rfl ⟨_, rfl, .inl rfl⟩ rfl ?_
    refine opSkip rfl ⟨_, rfl, .inl rfl⟩ rfl ?_
    refine op0 (sp_pickF rfl rfl rfl) rfl trivial rfl rfl ?_
    refine op0 (sp_move rfl rfl) rfl trivial rfl rfl ?_
    refine opSkip rfl ⟨_, rfl, .inl rfl⟩ rfl ?_
    refine opSkip rfl ⟨_, rfl, .inl rfl⟩ rfl ?_
    refine opSkip rfl ⟨_, rfl, .inl rfl⟩ rfl ?_
    refine opSkip rfl ⟨_, rfl, .inl rfl⟩ rfl ?_
    refine op0 (sp_pickF rfl rfl rfl) rfl trivial rfl rfl ?_
    refine op0 (sp_move rfl rfl) rfl trivial rfl rfl ?_
    refine opSkip rfl ⟨_, rfl, .inl rfl⟩ rfl ?_
    refine opSkip rfl ⟨_, rfl, .inl rfl⟩ rfl ?_
    refine opSkip rfl ⟨_, rfl, .inl rfl⟩ rfl ?_
    refine opSkip rfl ⟨_, rfl, .inl rfl⟩ rfl ?_
    refine op0 (sp_pickF rfl rfl rfl) rfl trivial rfl rfl ?_
    refine op0 (sp_assign rfl rfl) rfl trivial rfl rfl ?_
    refine TL.nil ?_
    cases h
    exact retJ [] (.tmp rfl .nil) rfl trivial rfl rfl
end
end Go.Proofs.Ytmgcinejodpopaa.Sy
