/- What functions of the program compute, and that they do: printed by symgen.py. -/
import Derived.Test.YtgkoldcmbcbbpaaGLib
set_option linter.unusedSimpArgs false
set_option linter.unusedVariables false
namespace Go.Proofs.Ytgkoldcmbcbbpaa.Sy
open Go.RowKit
noncomputable section

/- pulse_within_1 -/
def ev_pulse_within_1 (n : Nat) (nn1 : Int) (c2 : Int) (c3 : Int) : Option Bool :=
  cond (decide (nn1 < c2)) (some true) (some (decide (c3 < nn1)))
set_option maxRecDepth 100000 in
set_option maxHeartbeats 2000000 in
theorem fc_pulse_within_1 {n : Nat} {nn1 : Int} {c2 : Int} {c3 : Int} {r : Bool} (h : ev_pulse_within_1 n nn1 c2 c3 = some r) : FC Try.prog 215 [.val (.int .i64 nn1), .ptr 0 0, .ptr 1 0] [.rob 0 [.val (.int .i64 c2)] 3, .rob 1 [.val (.int .i64 c3)] 3] (.val (.bool r)) [] := by
  refine introJ (nz := 13) Try.func215 rfl rfl rfl (fun w0 R0 env0 => ?_)
  rw [ev_pulse_within_1] at h
  refine TC.seq ?_
  refine TC.region ?_
  refine op0 (sp_assign rfl rfl) rfl trivial rfl rfl ?_
  refine TL.nil ?_
  refine TC.seq ?_
  refine TC.region ?_
  refine op0 (sp_move rfl rfl) rfl trivial rfl rfl ?_
  refine op1 0 rfl (sp_loadB rfl isRob rfl vt3 rfl) rfl trivial rfl rfl ?_
  refine op0 (sp_lss rfl rfl rfl) rfl trivial rfl rfl ?_
  refine op0 (sp_move rfl rfl) rfl trivial rfl rfl ?_
  rcases cond_cases h with ⟨h1, h⟩ | ⟨h1, h⟩
  · refine (boolLit 8 rfl h1).2 ?_
    refine opSkip rfl ⟨_, rfl, .inl rfl⟩ rfl ?_
    refine opSkip rfl ⟨_, rfl, .inl rfl⟩ rfl ?_
    refine opSkip rfl ⟨_, rfl, .inl rfl⟩ rfl ?_
    refine op0 (sp_pickT rfl rfl rfl) rfl trivial rfl rfl ?_
    refine op0 (sp_assign rfl rfl) rfl trivial rfl rfl ?_
    refine TL.nil ?_
    cases h
    exact retJ [] (.tmp rfl .nil) rfl trivial rfl rfl
  · refine (boolLit 8 rfl h1).2 ?_
    refine op0 (sp_move rfl rfl) rfl ⟨_, rfl, rfl⟩ rfl rfl ?_
    refine op1 1 rfl (sp_loadB rfl isRob rfl vt3 rfl) rfl ⟨_, rfl, rfl⟩ rfl rfl ?_
    refine op0 (sp_gtr rfl rfl rfl) rfl ⟨_, rfl, rfl⟩ rfl rfl ?_
    refine op0 (sp_pickF rfl rfl rfl) rfl trivial rfl rfl ?_
    refine op0 (sp_assign rfl rfl) rfl trivial rfl rfl ?_
    refine TL.nil ?_
    cases h
    exact retJ [] (.tmp rfl .nil) rfl trivial rfl rfl
/- pulse_within -/
def ev_pulse_within (n : Nat) (least1 : Int) (most2 : Int) (l3 : List Int) : Option Bool :=
  (ev_slices_ContainsFunc_Lint_int n l3 (fun a => ev_pulse_within_1 n a least1 most2)).bind fun r4 => some (!r4)
set_option maxRecDepth 100000 in
set_option maxHeartbeats 2000000 in
theorem fc_pulse_within {n : Nat} {least1 : Int} {most2 : Int} {l3 : List Int} {r : Bool} (h : ev_pulse_within n least1 most2 l3 = some r) : FC Try.prog 113 [.val (.int .i64 least1), .val (.int .i64 most2), .ref 0] [.ro 0 1 (List.map en_int l3)] (.val (.bool r)) [] := by
  refine introJ (nz := 11) Try.func113 rfl rfl rfl (fun w0 R0 env0 => ?_)
  rw [ev_pulse_within] at h
  refine TC.seq ?_
  refine TC.region ?_
  refine op0 (sp_box 1 rfl rfl rfl rfl rfl) rfl trivial rfl rfl ?_
  refine op0 (sp_box 2 rfl rfl rfl rfl rfl) rfl trivial rfl rfl ?_
  refine op0 (sp_assign rfl rfl) rfl trivial rfl rfl ?_
  refine TL.nil ?_
  refine TC.seq ?_
  refine TC.region ?_
  refine op0 (sp_move rfl rfl) rfl trivial rfl rfl ?_
  refine op0 (sp_makeFunc (fi := []) (ca := [.tmp 3, .tmp 4]) (fa := []) (cb := [.ptr 1 0, .ptr 2 0]) rfl rfl rfl) rfl trivial rfl rfl ?_
  obtain ⟨r4, h1, h⟩ := bind_inv h
  refine opN (need := [.ro 0 1 (List.map en_int l3), .blk 1 [.val (.int .i64 least1)] 3, .blk 2 [.val (.int .i64 most2)] 3]) [2, 1, 0] ⟨rfl, rfl, rfl, trivial⟩ (sp_call (avs := [.ref 0, .fn 215 [] [.ptr 1 0, .ptr 2 0]]) (need := [.ro 0 1 (List.map en_int l3), .blk 1 [.val (.int .i64 least1)] 3, .blk 2 [.val (.int .i64 most2)] 3]) (v := .val (.bool r4)) (news := []) rfl rfl rfl Try.call142 (FC.needJ (need := [.ro 0 1 (List.map en_int l3), .rob 1 [.val (.int .i64 least1)] 3, .rob 2 [.val (.int .i64 most2)] 3]) (need' := [.rob 1 [.val (.int .i64 least1)] 3, .rob 2 [.val (.int .i64 most2)] 3, .ro 0 1 (List.map en_int l3)]) [1, 2, 0] ⟨rfl, rfl, rfl, trivial⟩ (FC.fnArg (args := [.ref 0, .ref 3]) (needC := [.rob 1 [.val (.int .i64 least1)] 3, .rob 2 [.val (.int .i64 most2)] 3]) (need := [.ro 0 1 (List.map en_int l3)]) 1 (first := []) (caps := [.ptr 1 0, .ptr 2 0]) (FC.needJ (need := [.any 3 (D.fn Try.prog fe_funcint_bool fd_funcint_bool (fun a => ev_pulse_within_1 n a least1 most2)), .ro 0 1 (List.map en_int l3)]) (need' := [.ro 0 1 (List.map en_int l3), .any 3 (D.fn Try.prog fe_funcint_bool fd_funcint_bool (fun a => ev_pulse_within_1 n a least1 most2))]) [1, 0] ⟨rfl, rfl, trivial⟩ (atJ [(1, 3)] [] (fc_slices_ContainsFunc_Lint_int h1) rfl rfl)) rfl Try.call215 (fun a b hab => atJ [(0, 1), (1, 2)] [] (fc_pulse_within_1 hab) rfl rfl) rfl (fun _ => rfl) (fun _ => rfl) rfl rfl rfl rfl rfl rfl rfl)) (.inr (fun x hx => nomatch hx))) rfl trivial rfl rfl ?_
  refine op0 (sp_not rfl rfl) rfl trivial rfl rfl ?_
  refine op0 (sp_assign rfl rfl) rfl trivial rfl rfl ?_
  refine TL.nil ?_
  cases h
  exact retJ [] (.tmp rfl .nil) rfl trivial rfl rfl
/- pulse_Check -/
def ev_pulse_Check_j0 (n : Nat) (l2 : Int) (l3 : Int) (b4 : Bool) : Option Int :=
  cond b4 ((ev_pulse_within n 2 360 ([l2] : List Int)).bind fun r5 => cond (!r5) (some 2) (chk (l2 != 0) <| cond (decide ((0 : Int) < (Int.tmod (720 : Int) l2))) (some 2) (chk (in64 (l2 - 1)) <| chk (in64 (Int.tdiv (l2 - 1) 2)) <| (ev_pulse_within n 0 (Int.tdiv (l2 - 1) 2) ([l3] : List Int)).bind fun r6 => cond (!r6) (some 2) (some 0)))) (some 2)
set_option maxRecDepth 100000 in
set_option maxHeartbeats 2000000 in
theorem ok_pulse_Check_j0 {n : Nat} {w0 : World} {R0 : Nat → Prop} {env0 : Env} {r : Int} {l1 : Int} {l2 : Int} {l3 : Int} {b4 : Bool} (h : ev_pulse_Check_j0 n l2 l3 b4 = some r) : TC Try.prog ⟨w0, fun _ => False, R0⟩ 36 (bodyPost Try.prog Try.f214 (Post ⟨w0, fun _ => False, R0⟩ env0 (.val (.int .i64 r)) [])) [.code (sub (bodyOf Try.f214) [1, 0, 1, 0, 1, 1, 1]), .inBlock 0, .code (sub (bodyOf Try.f214) [1, 1])] ([(1, .ptr 0 0), (10, .val (.bool b4))]) ([.blk 0 [.val (.int .i64 l1), .val (.int .i64 l2), .val (.int .i64 l3)] 148]) := by
  rw [ev_pulse_Check_j0] at h
  refine TC.cond (b := b4) rfl (fun h4 => ?_) (fun h4 => ?_)
  · have h := cond_t h h4
    refine TC.seq ?_
    refine TC.region ?_
    refine op1 0 rfl (sp_fieldAddrB rfl isBlk rfl ft148_1 vt3 (by decide)) rfl trivial rfl rfl ?_
    refine op1 0 rfl (sp_loadB rfl isBlk rfl vt3 rfl) rfl trivial rfl rfl ?_
    refine op0 (sp_buildSlice (qs := [.val (.int .i64 l2)]) (need := []) (els := List.map en_int ([l2] : List Int)) 1 rfl sl50 (by decide) (by decide) rfl rfl rfl (.v (.nil)) (map_len fun _ => rfl) rfl rfl rfl) rfl trivial rfl rfl ?_
    obtain ⟨r5, h5, h⟩ := bind_inv h
    refine op1 0 rfl (sp_call (avs := [.val (.int .i64 2), .val (.int .i64 360), .ref 1]) (need := [.row 1 3 1 (List.map en_int ([l2] : List Int))]) (v := .val (.bool r5)) (news := []) rfl rfl rfl Try.call113 (atJ [(0, 1)] [] (fc_pulse_within h5) rfl rfl) (.inr (fun x hx => nomatch hx))) rfl trivial rfl rfl ?_
    refine op0 (sp_not rfl rfl) rfl trivial rfl rfl ?_
    refine op0 (sp_move rfl rfl) rfl trivial rfl rfl ?_
    rcases cond_cases h with ⟨h6, h⟩ | ⟨h6, h⟩
    · refine (boolLit 19 rfl h6).2 ?_
      refine opSkip rfl ⟨_, rfl, .inl rfl⟩ rfl ?_
      refine opSkip rfl ⟨_, rfl, .inl rfl⟩ rfl ?_
      refine opSkip rfl ⟨_, rfl, .inl rfl⟩ rfl ?_
      refine opSkip rfl ⟨_, rfl, .inl rfl⟩ rfl ?_
      refine op0 (sp_pickT rfl rfl rfl) rfl trivial rfl rfl ?_
      refine op0 (sp_move rfl rfl) rfl trivial rfl rfl ?_
      refine opSkip rfl ⟨_, rfl, .inl rfl⟩ rfl ?_
      refine opSkip rfl ⟨_, rfl, .inl rfl⟩ rfl ?_
      refine opSkip rfl ⟨_, rfl, .inl rfl⟩ rfl ?_
      refine opSkip rfl ⟨_, rfl, .inl rfl⟩ rfl ?_
      refine opSkip rfl ⟨_, rfl, .inl rfl⟩ rfl ?_
      refine opSkip rfl ⟨_, rfl, .inl rfl⟩ rfl ?_
      refine opSkip rfl ⟨_, rfl, .inl rfl⟩ rfl ?_
      refine opSkip rfl ⟨_, rfl, .inl rfl⟩ rfl ?_
      refine opSkip rfl ⟨_, rfl, .inl rfl⟩ rfl ?_
      refine op0 (sp_pickT rfl rfl rfl) rfl trivial rfl rfl ?_
      refine TL.nil ?_
      refine TC.condT rfl ?_
      refine TC.seq ?_
      refine TC.region ?_
      refine op0 (sp_assign rfl rfl) rfl trivial rfl rfl ?_
      refine TL.nil ?_
      cases h
      exact retJ [] (.tmp rfl .nil) rfl trivial rfl rfl
    · refine (boolLit 19 rfl h6).2 ?_
      refine op1 1 rfl (sp_fieldAddrB rfl isBlk rfl ft148_1 vt3 (by decide)) rfl ⟨_, rfl, rfl⟩ rfl rfl ?_
      refine op1 1 rfl (sp_loadB rfl isBlk rfl vt3 rfl) rfl ⟨_, rfl, rfl⟩ rfl rfl ?_
      obtain ⟨h7, h⟩ := chk_inv h
      refine op0 (sp_rem rfl rfl rfl h7) rfl ⟨_, rfl, rfl⟩ rfl rfl ?_
      refine op0 (sp_gtr rfl rfl rfl) rfl ⟨_, rfl, rfl⟩ rfl rfl ?_
      refine op0 (sp_pickF rfl rfl rfl) rfl trivial rfl rfl ?_
      refine op0 (sp_move rfl rfl) rfl trivial rfl rfl ?_
      rcases cond_cases h with ⟨h8, h⟩ | ⟨h8, h⟩
      · refine (boolLit 25 rfl h8).2 ?_
        refine opSkip rfl ⟨_, rfl, .inl rfl⟩ rfl ?_
        refine opSkip rfl ⟨_, rfl, .inl rfl⟩ rfl ?_
        refine opSkip rfl ⟨_, rfl, .inl rfl⟩ rfl ?_
        refine opSkip rfl ⟨_, rfl, .inl rfl⟩ rfl ?_
        refine opSkip rfl ⟨_, rfl, .inl rfl⟩ rfl ?_
        refine opSkip rfl ⟨_, rfl, .inl rfl⟩ rfl ?_
        refine opSkip rfl ⟨_, rfl, .inl rfl⟩ rfl ?_
        refine opSkip rfl ⟨_, rfl, .inl rfl⟩ rfl ?_
        refine opSkip rfl ⟨_, rfl, .inl rfl⟩ rfl ?_
        refine op0 (sp_pickT rfl rfl rfl) rfl trivial rfl rfl ?_
        refine TL.nil ?_
        refine TC.condT rfl ?_
        refine TC.seq ?_
        refine TC.region ?_
        refine op0 (sp_assign rfl rfl) rfl trivial rfl rfl ?_
        refine TL.nil ?_
        cases h
        exact retJ [] (.tmp rfl .nil) rfl trivial rfl rfl
      · refine (boolLit 25 rfl h8).2 ?_
        refine op1 1 rfl (sp_fieldAddrB rfl isBlk rfl ft148_1 vt3 (by decide)) rfl ⟨_, rfl, rfl⟩ rfl rfl ?_
        refine op1 1 rfl (sp_loadB rfl isBlk rfl vt3 rfl) rfl ⟨_, rfl, rfl⟩ rfl rfl ?_
        obtain ⟨h9, h⟩ := chk_inv h
        refine op0 (sp_sub rfl rfl rfl h9) rfl ⟨_, rfl, rfl⟩ rfl rfl ?_
        obtain ⟨h10, h⟩ := chk_inv h
        refine op0 (sp_quo rfl rfl rfl (by decide) h10) rfl ⟨_, rfl, rfl⟩ rfl rfl ?_
        refine op1 1 rfl (sp_fieldAddrB rfl isBlk rfl ft148_2 vt3 (by decide)) rfl ⟨_, rfl, rfl⟩ rfl rfl ?_
        refine op1 1 rfl (sp_loadB rfl isBlk rfl vt3 rfl) rfl ⟨_, rfl, rfl⟩ rfl rfl ?_
        refine op0 (sp_buildSlice (qs := [.val (.int .i64 l3)]) (need := []) (els := List.map en_int ([l3] : List Int)) 2 rfl sl50 (by decide) (by decide) rfl rfl rfl (.v (.nil)) (map_len fun _ => rfl) rfl rfl rfl) rfl ⟨_, rfl, rfl⟩ rfl rfl ?_
        obtain ⟨r6, h11, h⟩ := bind_inv h
        refine op1 0 rfl (sp_call (avs := [.val (.int .i64 0), .val (.int .i64 (Int.tdiv (l2 - 1) 2)), .ref 2]) (need := [.row 2 3 1 (List.map en_int ([l3] : List Int))]) (v := .val (.bool r6)) (news := []) rfl rfl rfl Try.call113 (atJ [(0, 2)] [] (fc_pulse_within h11) rfl rfl) (.inr (fun x hx => nomatch hx))) rfl ⟨_, rfl, rfl⟩ rfl rfl ?_
        refine op0 (sp_not rfl rfl) rfl ⟨_, rfl, rfl⟩ rfl rfl ?_
        refine op0 (sp_pickF rfl rfl rfl) rfl trivial rfl rfl ?_
        refine TL.nil ?_
        refine TC.cond (b := (!r6)) rfl (fun h12 => ?_) (fun h12 => ?_)
        · have h := cond_t h h12
          refine TC.seq ?_
          refine TC.region ?_
          refine op0 (sp_assign rfl rfl) rfl trivial rfl rfl ?_
          refine TL.nil ?_
          cases h
          exact retJ [] (.tmp rfl .nil) rfl trivial rfl rfl
        · have h := cond_f h h12
          refine TC.skip ?_
          refine TC.inBlock ?_
          refine TC.seq ?_
          refine TC.region ?_
          refine op0 (sp_assign rfl rfl) rfl trivial rfl rfl ?_
          refine TL.nil ?_
          cases h
          exact retJ [] (.tmp rfl .nil) rfl trivial rfl rfl
  · have h := cond_f h h4
    refine TC.seq ?_
    refine TC.region ?_
    refine op0 (sp_assign rfl rfl) rfl trivial rfl rfl ?_
    refine TL.nil ?_
    cases h
    exact retJ [] (.tmp rfl .nil) rfl trivial rfl rfl
def ev_pulse_Check (n : Nat) (l1 : Int) (l2 : Int) (l3 : Int) : Option Int :=
  cond (l1 == 0) (cond (!((l1 == 0) && ((l2 == 0) && (l3 == 0)))) (some 2) (some 0)) (cond (l1 == 1) (ev_pulse_Check_j0 n l2 l3 (l1 == 1)) (cond (l1 == 2) (ev_pulse_Check_j0 n l2 l3 (l1 == 2)) (ev_pulse_Check_j0 n l2 l3 (l1 == 3))))
set_option maxRecDepth 100000 in
set_option maxHeartbeats 2000000 in
theorem fc_pulse_Check {n : Nat} {l1 : Int} {l2 : Int} {l3 : Int} {r : Int} (h : ev_pulse_Check n l1 l2 l3 = some r) : FC Try.prog 214 [.agg [.val (.int .i64 l1), .val (.int .i64 l2), .val (.int .i64 l3)]] [] (.val (.int .i64 r)) [] := by
  refine introJ (nz := 36) Try.func214 rfl rfl rfl (fun w0 R0 env0 => ?_)
  rw [ev_pulse_Check] at h
  refine TC.seq ?_
  refine TC.region ?_
  refine op0 (sp_box 0 rfl rfl rfl rfl rfl) rfl trivial rfl rfl ?_
  refine op0 (sp_assign rfl rfl) rfl trivial rfl rfl ?_
  refine TL.nil ?_
  refine TC.seq ?_
  refine TC.seq ?_
  refine TC.region ?_
  refine op1 0 rfl (sp_fieldAddrB rfl isBlk rfl ft148_0 vt146 (by decide)) rfl trivial rfl rfl ?_
  refine op1 0 rfl (sp_loadB rfl isBlk rfl vt146 rfl) rfl trivial rfl rfl ?_
  refine TL.nil ?_
  refine TC.block ?_
  refine TC.seq ?_
  refine TC.region ?_
  refine op0 (sp_eql rfl rfl rfl) rfl trivial rfl rfl ?_
  refine op0 (sp_assign rfl rfl) rfl trivial rfl rfl ?_
  refine TL.nil ?_
  refine TC.cond (b := (l1 == 0)) rfl (fun h1 => ?_) (fun h1 => ?_)
  · have h := cond_t h h1
    refine TC.seq ?_
    refine TC.region ?_
    refine op1 0 rfl (sp_loadBA rfl isBlk rfl vt148 rfl rfl) rfl trivial rfl rfl ?_
    refine op0 (sp_build (qs := []) rfl bt148 rfl rfl rfl rfl) rfl trivial rfl rfl ?_
    refine op0 (sp_neqS rfl rfl rfl rfl rfl (eq148 _ _ _ _ _ _)) rfl trivial rfl rfl ?_
    refine TL.nil ?_
    refine TC.cond (b := (!((l1 == 0) && ((l2 == 0) && (l3 == 0))))) rfl (fun h2 => ?_) (fun h2 => ?_)
    · have h := cond_t h h2
      refine TC.seq ?_
      refine TC.region ?_
      refine op0 (sp_assign rfl rfl) rfl trivial rfl rfl ?_
      refine TL.nil ?_
      cases h
      exact retJ [] (.tmp rfl .nil) rfl trivial rfl rfl
    · have h := cond_f h h2
      refine TC.skip ?_
      refine TC.inBlock ?_
      refine TC.seq ?_
      refine TC.region ?_
      refine op0 (sp_assign rfl rfl) rfl trivial rfl rfl ?_
      refine TL.nil ?_
      cases h
      exact retJ [] (.tmp rfl .nil) rfl trivial rfl rfl
  · have h := cond_f h h1
    refine TC.seq ?_
    refine TC.seq ?_
    refine TC.region ?_
    refine op0 (sp_eql rfl rfl rfl) rfl trivial rfl rfl ?_
    refine op0 (sp_assign rfl rfl) rfl trivial rfl rfl ?_
    refine TL.nil ?_
    refine TC.cond (b := (l1 == 1)) rfl (fun h3 => ?_) (fun h3 => ?_)
    · have h := cond_t h h3
      refine TC.skip ?_
      refine subJ [] (ok_pulse_Check_j0 (l1 := l1) h) ?_ ?_ ?_
      · exact ⟨rfl, rfl, trivial⟩
      · exact ⟨mem_at 0 rfl, trivial⟩
      · rfl
    · have h := cond_f h h3
      refine TC.seq ?_
      refine TC.region ?_
      refine op0 (sp_eql rfl rfl rfl) rfl trivial rfl rfl ?_
      refine op0 (sp_assign rfl rfl) rfl trivial rfl rfl ?_
      refine TL.nil ?_
      refine TC.cond (b := (l1 == 2)) rfl (fun h13 => ?_) (fun h13 => ?_)
      · have h := cond_t h h13
        refine TC.skip ?_
        refine subJ [] (ok_pulse_Check_j0 (l1 := l1) h) ?_ ?_ ?_
        · exact ⟨rfl, rfl, trivial⟩
        · exact ⟨mem_at 0 rfl, trivial⟩
        · rfl
      · have h := cond_f h h13
        refine TC.region ?_
        refine op0 (sp_eql rfl rfl rfl) rfl trivial rfl rfl ?_
        refine op0 (sp_assign rfl rfl) rfl trivial rfl rfl ?_
        refine TL.nil ?_
        refine subJ [] (ok_pulse_Check_j0 (l1 := l1) h) ?_ ?_ ?_
        · exact ⟨rfl, rfl, trivial⟩
        · exact ⟨mem_at 0 rfl, trivial⟩
        · rfl
/- pulse_open -/
def ev_pulse_open (n : Nat) (l1 : Int) (l2 : Int) (l3 : Int) : Option (Int × Int × Int × Int) :=
  (ev_pulse_Check n l1 l2 l3).bind fun r4 => some (l1, l2, l3, r4)
set_option maxRecDepth 100000 in
set_option maxHeartbeats 2000000 in
theorem fc_pulse_open {n : Nat} {l1 : Int} {l2 : Int} {l3 : Int} {r : Int × Int × Int × Int} (h : ev_pulse_open n l1 l2 l3 = some r) : FC Try.prog 110 [.agg [.val (.int .i64 l1), .val (.int .i64 l2), .val (.int .i64 l3)]] [] (.tup [.agg [.val (.int .i64 r.1), .val (.int .i64 r.2.1), .val (.int .i64 r.2.2.1)], .val (.int .i64 r.2.2.2)]) [] := by
  refine introJ (nz := 8) Try.func110 rfl rfl rfl (fun w0 R0 env0 => ?_)
  rw [ev_pulse_open] at h
  refine TC.seq ?_
  refine TC.region ?_
  refine op0 (sp_box 0 rfl rfl rfl rfl rfl) rfl trivial rfl rfl ?_
  refine op0 (sp_alloc 1 rfl Try.zeroValue278 rfl) rfl trivial rfl rfl ?_
  refine op0 (sp_assign rfl rfl) rfl trivial rfl rfl ?_
  refine TL.nil ?_
  refine TC.seq ?_
  obtain ⟨r4, h1, h⟩ := bind_inv h
  refine drawJ 4 [⟨.agg [.val (.int .i64 l1), .val (.int .i64 l2), .val (.int .i64 l3)], [], [.blk 0 [.val (.int .i64 l1), .val (.int .i64 l2), .val (.int .i64 l3)] 148], []⟩, ⟨.agg [.val (.int .i64 l1), .val (.int .i64 l2), .val (.int .i64 l3)], [], [], []⟩, ⟨.agg [.val (.int .i64 l1), .val (.int .i64 l2), .val (.int .i64 l3)], [], [.blk 0 [.val (.int .i64 l1), .val (.int .i64 l2), .val (.int .i64 l3)] 148], []⟩, ⟨.val (.int .i64 r4), [], [], []⟩] rfl ?_ rfl ?_ rfl ?_ ?_
  · kernel_rfl
  · kernel_rfl
  · exact DAll.op' (sp_loadBA rfl isBlk rfl vt148 rfl rfl) trivial rfl (From.ok (ps := [(none, 1)]) ⟨⟨rfl, rfl⟩, trivial⟩) (DAll.op' (sp_build (qs := [(0, .agg [.val (.int .i64 l1), .val (.int .i64 l2), .val (.int .i64 l3)])]) rfl bt278 rfl rfl rfl rfl) trivial rfl (From.ok (ps := []) trivial) (DAll.op' (sp_loadBA rfl isBlk rfl vt148 rfl rfl) trivial rfl (From.ok (ps := [(none, 1)]) ⟨⟨rfl, rfl⟩, trivial⟩) (DAll.op' (sp_call (avs := [.agg [.val (.int .i64 l1), .val (.int .i64 l2), .val (.int .i64 l3)]]) (need := []) (v := .val (.int .i64 r4)) (news := []) rfl rfl rfl Try.call214 (atJ [] [] (fc_pulse_Check h1) rfl rfl) (.inl (roAll rfl))) trivial rfl (From.ok (ps := []) trivial) (.nil))))
  refine stoB 0 (cells' := [.val (.int .i64 l1), .val (.int .i64 l2), .val (.int .i64 l3)]) rfl rfl trivial rfl rfl rfl rfl vt278 rfl rfl rfl ?_
  refine op0 (sp_assign rfl rfl) rfl trivial rfl rfl ?_
  refine TL.nil ?_
  cases h
  exact retJ [] (.cells rfl (mem_at 0 rfl) isBlk vt278 rfl rfl (.tmp rfl .nil)) rfl trivial rfl rfl
/- pulse_isMinute -/
def ev_pulse_isMinute (n : Nat) (t1 : Int) : Option Bool :=
  (ev_pulse_within n 0 100000 ([t1] : List Int)).bind fun r2 => some r2
set_option maxRecDepth 100000 in
set_option maxHeartbeats 2000000 in
theorem fc_pulse_isMinute {n : Nat} {t1 : Int} {r : Bool} (h : ev_pulse_isMinute n t1 = some r) : FC Try.prog 111 [.val (.int .i64 t1)] [] (.val (.bool r)) [] := by
  refine introJ (nz := 6) Try.func111 rfl rfl rfl (fun w0 R0 env0 => ?_)
  rw [ev_pulse_isMinute] at h
  refine TC.seq ?_
  refine TC.region ?_
  refine op0 (sp_assign rfl rfl) rfl trivial rfl rfl ?_
  refine TL.nil ?_
  refine TC.seq ?_
  refine TC.region ?_
  refine op0 (sp_move rfl rfl) rfl trivial rfl rfl ?_
  refine op0 (sp_buildSlice (qs := [.val (.int .i64 t1)]) (need := []) (els := List.map en_int ([t1] : List Int)) 0 rfl sl50 (by decide) (by decide) rfl rfl rfl (.v (.nil)) (map_len fun _ => rfl) rfl rfl rfl) rfl trivial rfl rfl ?_
  obtain ⟨r2, h1, h⟩ := bind_inv h
  refine op1 0 rfl (sp_call (avs := [.val (.int .i64 0), .val (.int .i64 100000), .ref 0]) (need := [.row 0 3 1 (List.map en_int ([t1] : List Int))]) (v := .val (.bool r2)) (news := []) rfl rfl rfl Try.call113 (atJ [] [] (fc_pulse_within h1) rfl rfl) (.inr (fun x hx => nomatch hx))) rfl trivial rfl rfl ?_
  refine op0 (sp_assign rfl rfl) rfl trivial rfl rfl ?_
  refine TL.nil ?_
  cases h
  exact retJ [] (.tmp rfl .nil) rfl trivial rfl rfl
/- pulse_isShown -/
def ev_pulse_isShown (n : Nat) (nn1 : Int) : Option Bool :=
  (ev_pulse_within n 0 719 ([nn1] : List Int)).bind fun r2 => some r2
set_option maxRecDepth 100000 in
set_option maxHeartbeats 2000000 in
theorem fc_pulse_isShown {n : Nat} {nn1 : Int} {r : Bool} (h : ev_pulse_isShown n nn1 = some r) : FC Try.prog 112 [.val (.int .i64 nn1)] [] (.val (.bool r)) [] := by
  refine introJ (nz := 6) Try.func112 rfl rfl rfl (fun w0 R0 env0 => ?_)
  rw [ev_pulse_isShown] at h
  refine TC.seq ?_
  refine TC.region ?_
  refine op0 (sp_assign rfl rfl) rfl trivial rfl rfl ?_
  refine TL.nil ?_
  refine TC.seq ?_
  refine TC.region ?_
  refine op0 (sp_move rfl rfl) rfl trivial rfl rfl ?_
  refine op0 (sp_buildSlice (qs := [.val (.int .i64 nn1)]) (need := []) (els := List.map en_int ([nn1] : List Int)) 0 rfl sl50 (by decide) (by decide) rfl rfl rfl (.v (.nil)) (map_len fun _ => rfl) rfl rfl rfl) rfl trivial rfl rfl ?_
  obtain ⟨r2, h1, h⟩ := bind_inv h
  refine op1 0 rfl (sp_call (avs := [.val (.int .i64 0), .val (.int .i64 719), .ref 0]) (need := [.row 0 3 1 (List.map en_int ([nn1] : List Int))]) (v := .val (.bool r2)) (news := []) rfl rfl rfl Try.call113 (atJ [] [] (fc_pulse_within h1) rfl rfl) (.inr (fun x hx => nomatch hx))) rfl trivial rfl rfl ?_
  refine op0 (sp_assign rfl rfl) rfl trivial rfl rfl ?_
  refine TL.nil ?_
  cases h
  exact retJ [] (.tmp rfl .nil) rfl trivial rfl rfl
/- pulse_line_isLong -/
def ev_pulse_line_isLong (n : Nat) (l1 : Int) (l2 : Int) (l3 : Int) (minute4 : Int) : Option Bool :=
  cond (l1 != 0) (chk (l2 != 0) <| some ((Int.tmod minute4 l2) == 0)) (some false)
set_option maxRecDepth 100000 in
set_option maxHeartbeats 2000000 in
theorem fc_pulse_line_isLong {n : Nat} {l1 : Int} {l2 : Int} {l3 : Int} {minute4 : Int} {r : Bool} (h : ev_pulse_line_isLong n l1 l2 l3 minute4 = some r) : FC Try.prog 216 [.agg [.val (.int .i64 l1), .val (.int .i64 l2), .val (.int .i64 l3)], .val (.int .i64 minute4)] [] (.val (.bool r)) [] := by
  refine introJ (nz := 17) Try.func216 rfl rfl rfl (fun w0 R0 env0 => ?_)
  rw [ev_pulse_line_isLong] at h
  refine TC.seq ?_
  refine TC.region ?_
  refine op0 (sp_box 0 rfl rfl rfl rfl rfl) rfl trivial rfl rfl ?_
  refine op0 (sp_assign rfl rfl) rfl trivial rfl rfl ?_
  refine TL.nil ?_
  refine TC.seq ?_
  refine TC.region ?_
  refine op1 0 rfl (sp_fieldAddrB rfl isBlk rfl ft278_0 vt148 (by decide)) rfl trivial rfl rfl ?_
  refine op1 0 rfl (sp_fieldAddrB rfl isBlk rfl ft148_0 vt146 (by decide)) rfl trivial rfl rfl ?_
  refine op1 0 rfl (sp_loadB rfl isBlk rfl vt146 rfl) rfl trivial rfl rfl ?_
  refine op0 (sp_neq rfl rfl rfl) rfl trivial rfl rfl ?_
  refine op0 (sp_move rfl rfl) rfl trivial rfl rfl ?_
  rcases cond_cases h with ⟨h1, h⟩ | ⟨h1, h⟩
  · refine (boolLit 9 rfl h1).2 ?_
    refine op0 (sp_move rfl rfl) rfl ⟨_, rfl, rfl⟩ rfl rfl ?_
    refine op1 0 rfl (sp_fieldAddrB rfl isBlk rfl ft278_0 vt148 (by decide)) rfl ⟨_, rfl, rfl⟩ rfl rfl ?_
    refine op1 0 rfl (sp_fieldAddrB rfl isBlk rfl ft148_1 vt3 (by decide)) rfl ⟨_, rfl, rfl⟩ rfl rfl ?_
    refine op1 0 rfl (sp_loadB rfl isBlk rfl vt3 rfl) rfl ⟨_, rfl, rfl⟩ rfl rfl ?_
    obtain ⟨h2, h⟩ := chk_inv h
    refine op0 (sp_rem rfl rfl rfl h2) rfl ⟨_, rfl, rfl⟩ rfl rfl ?_
    refine op0 (sp_eql rfl rfl rfl) rfl ⟨_, rfl, rfl⟩ rfl rfl ?_
    refine op0 (sp_pickT rfl rfl rfl) rfl trivial rfl rfl ?_
    refine op0 (sp_assign rfl rfl) rfl trivial rfl rfl ?_
    refine TL.nil ?_
    cases h
    exact retJ [] (.tmp rfl .nil) rfl trivial rfl rfl
  · refine (boolLit 9 rfl h1).2 ?_
    refine opSkip rfl ⟨_, rfl, .inl rfl⟩ rfl ?_
    refine opSkip rfl ⟨_, rfl, .inl rfl⟩ rfl ?_
    refine opSkip rfl ⟨_, rfl, .inl rfl⟩ rfl ?_
    refine opSkip rfl ⟨_, rfl, .inl rfl⟩ rfl ?_
    refine opSkip rfl ⟨_, rfl, .inl rfl⟩ rfl ?_
    refine opSkip rfl ⟨_, rfl, .inl rfl⟩ rfl ?_
    refine op0 (sp_pickF rfl rfl rfl) rfl trivial rfl rfl ?_
    refine op0 (sp_assign rfl rfl) rfl trivial rfl rfl ?_
    refine TL.nil ?_
    cases h
    exact retJ [] (.tmp rfl .nil) rfl trivial rfl rfl
/- pulse_line_check -/
def ev_pulse_line_check_l0 (n : Nat) (f4 : List (Int × Int)) (until6 : Int) : Nat → Int → Int → Int → Int → Int → (List (Int × Int)) → Option Int
  | 0, _, _, _, _, _, _ => none
  | m + 1, i7, i8, i9, i10, i11, l12 => cond (decide (i8 < (f4.length : Int))) (idx l12 i8 fun x13 => chk (in64 (i7 + 1)) <| (ev_pulse_within n (i7 + 1) until6 ([x13.1] : List Int)).bind fun r14 => cond (!r14) (some 2) (cond (x13.2 != 1) (cond (x13.2 != 2) (some 2) ((ev_pulse_line_isLong n i9 i10 i11 x13.1).bind fun r15 => cond r15 (some 2) (chk (in64 (i8 + 1)) <| ev_pulse_line_check_l0 n f4 until6 m x13.1 (i8 + 1) i9 i10 i11 l12))) ((ev_pulse_line_isLong n i9 i10 i11 x13.1).bind fun r16 => cond r16 (some 2) (chk (in64 (i8 + 1)) <| ev_pulse_line_check_l0 n f4 until6 m x13.1 (i8 + 1) i9 i10 i11 l12)))) (some 0)
set_option maxRecDepth 100000 in
set_option maxHeartbeats 2000000 in
theorem ok_pulse_line_check_l0 {n : Nat} {w0 : World} {R0 : Nat → Prop} {env0 : Env} {r : Int} {until6 : Int} {f4 : List (Int × Int)} : ∀ (m : Nat) (i7 : Int) (i8 : Int) (i9 : Int) (i10 : Int) (i11 : Int) (l12 : List (Int × Int)), ev_pulse_line_check_l0 n f4 until6 m i7 i8 i9 i10 i11 l12 = some r → TC Try.prog ⟨w0, fun _ => False, R0⟩ 47 (bodyPost Try.prog Try.f114 (Post ⟨w0, fun _ => False, R0⟩ env0 (.val (.int .i64 r)) [])) [.code (sub (bodyOf Try.f114) [1, 1, 0, 1, 0, 0, 0]), .code (sub (bodyOf Try.f114) [1, 1, 0, 1, 0, 0, 1]), .inLoop (sub (bodyOf Try.f114) [1, 1, 0, 1, 0, 0]), .inBlock 0, .code (sub (bodyOf Try.f114) [1, 1, 1])] ([(2, .val (.int .i64 i7)), (3, .val (.int .i64 until6)), (4, .ptr 1 0), (14, .ref 0), (15, .val (.int .i64 (f4.length : Int))), (16, .val (.int .i64 i8))]) ([.blk 1 [.val (.int .i64 i9), .val (.int .i64 i10), .val (.int .i64 i11)] 278, .ro 0 2 (List.map en_api_PulseFault l12)]) := by
  intro m
  induction m with
  | zero => intro i7 i8 i9 i10 i11 l12 h; exact none_no h
  | succ m ih =>
    intro i7 i8 i9 i10 i11 l12 h
    rw [ev_pulse_line_check_l0] at h
    refine TC.region ?_
    refine op0 (sp_lss rfl rfl rfl) rfl trivial rfl rfl ?_
    refine TL.nil ?_
    refine TC.seq ?_
    refine TC.cond (b := (decide (i8 < (f4.length : Int)))) rfl (fun h2 => ?_) (fun h2 => ?_)
    · have h := cond_t h h2
      refine TC.skip ?_
      refine TC.seq ?_
      refine TC.block ?_
      refine TC.seq ?_
      refine TC.region ?_
      obtain ⟨x13, h3, h4, h⟩ := idx_inv h
      refine op1 1 rfl (sp_indexS rfl rfl rfl isRo sl407 h3 (map_get _ h4)) rfl trivial rfl rfl ?_
      refine op1 1 rfl (sp_loadRA (i := (i8 : Int).toNat) (j := 0) (as_ := [.val (.int .i64 x13.1), .val (.int .i64 x13.2)]) (ns := []) rfl rfl isRo vt155 rfl (map_get _ h4) rfl rfl (by decide) (.v (.v (.nil))) (nodup_of_B rfl)) rfl trivial rfl rfl ?_
      refine op0 (sp_alloc 2 rfl Try.zeroValue155 rfl) rfl trivial rfl rfl ?_
      refine stoB 0 (cells' := [.val (.int .i64 x13.1), .val (.int .i64 x13.2)]) rfl rfl trivial rfl rfl rfl rfl vt155 rfl rfl rfl ?_
      refine TL.nil ?_
      refine TC.seq ?_
      refine TC.seq ?_
      refine TC.region ?_
      refine op0 (sp_move rfl rfl) rfl trivial rfl rfl ?_
      obtain ⟨h5, h⟩ := chk_inv h
      refine op0 (sp_add rfl rfl rfl h5) rfl trivial rfl rfl ?_
      refine op0 (sp_move rfl rfl) rfl trivial rfl rfl ?_
      refine op1 0 rfl (sp_fieldAddrB rfl isBlk rfl ft155_0 vt3 (by decide)) rfl trivial rfl rfl ?_
      refine op1 0 rfl (sp_loadB rfl isBlk rfl vt3 rfl) rfl trivial rfl rfl ?_
      refine op0 (sp_buildSlice (qs := [.val (.int .i64 x13.1)]) (need := []) (els := List.map en_int ([x13.1] : List Int)) 3 rfl sl50 (by decide) (by decide) rfl rfl rfl (.v (.nil)) (map_len fun _ => rfl) rfl rfl rfl) rfl trivial rfl rfl ?_
      obtain ⟨r14, h6, h⟩ := bind_inv h
      refine op1 0 rfl (sp_call (avs := [.val (.int .i64 (i7 + 1)), .val (.int .i64 until6), .ref 3]) (need := [.row 3 3 1 (List.map en_int ([x13.1] : List Int))]) (v := .val (.bool r14)) (news := []) rfl rfl rfl Try.call113 (atJ [(0, 3)] [] (fc_pulse_within h6) rfl rfl) (.inr (fun x hx => nomatch hx))) rfl trivial rfl rfl ?_
      refine op0 (sp_not rfl rfl) rfl trivial rfl rfl ?_
      refine op0 (sp_move rfl rfl) rfl trivial rfl rfl ?_
      rcases cond_cases h with ⟨h7, h⟩ | ⟨h7, h⟩
      · refine (boolLit 28 rfl h7).2 ?_
        refine opSkip rfl ⟨_, rfl, .inl rfl⟩ rfl ?_
        refine opSkip rfl ⟨_, rfl, .inl rfl⟩ rfl ?_
        refine opSkip rfl ⟨_, rfl, .inl rfl⟩ rfl ?_
        refine opSkip rfl ⟨_, rfl, .inl rfl⟩ rfl ?_
        refine opSkip rfl ⟨_, rfl, .inr rfl⟩ rfl ?_
        refine opSkip rfl ⟨_, rfl, .inr rfl⟩ rfl ?_
        refine opSkip rfl ⟨_, rfl, .inr rfl⟩ rfl ?_
        refine opSkip rfl ⟨_, rfl, .inl rfl⟩ rfl ?_
        refine op0 (sp_pickT rfl rfl rfl) rfl trivial rfl rfl ?_
        refine op0 (sp_move rfl rfl) rfl trivial rfl rfl ?_
        refine opSkip rfl ⟨_, rfl, .inl rfl⟩ rfl ?_
        refine opSkip rfl ⟨_, rfl, .inl rfl⟩ rfl ?_
        refine opSkip rfl ⟨_, rfl, .inl rfl⟩ rfl ?_
        refine opSkip rfl ⟨_, rfl, .inl rfl⟩ rfl ?_
        refine op0 (sp_pickT rfl rfl rfl) rfl trivial rfl rfl ?_
        refine TL.nil ?_
        refine TC.condT rfl ?_
        refine TC.seq ?_
        refine TC.region ?_
        refine op0 (sp_assign rfl rfl) rfl trivial rfl rfl ?_
        refine TL.nil ?_
        cases h
        exact retJ [] (.tmp rfl .nil) rfl trivial rfl rfl
      · refine (boolLit 28 rfl h7).2 ?_
        refine op1 1 rfl (sp_fieldAddrB rfl isBlk rfl ft155_1 vt153 (by decide)) rfl ⟨_, rfl, rfl⟩ rfl rfl ?_
        refine op1 1 rfl (sp_loadB rfl isBlk rfl vt153 rfl) rfl ⟨_, rfl, rfl⟩ rfl rfl ?_
        refine op0 (sp_neq rfl rfl rfl) rfl ⟨_, rfl, rfl⟩ rfl rfl ?_
        refine op0 (sp_move rfl rfl) rfl ⟨_, rfl, rfl⟩ rfl rfl ?_
        rcases cond_cases h with ⟨h8, h⟩ | ⟨h8, h⟩
        · refine (boolLit 32 rfl h8).2 ?_
          refine op1 1 rfl (sp_fieldAddrB rfl isBlk rfl ft155_1 vt153 (by decide)) rfl ⟨_, rfl, rfl⟩ rfl rfl ?_
          refine op1 1 rfl (sp_loadB rfl isBlk rfl vt153 rfl) rfl ⟨_, rfl, rfl⟩ rfl rfl ?_
          refine op0 (sp_neq rfl rfl rfl) rfl ⟨_, rfl, rfl⟩ rfl rfl ?_
          refine op0 (sp_pickT rfl rfl rfl) rfl ⟨_, rfl, rfl⟩ rfl rfl ?_
          refine op0 (sp_pickF rfl rfl rfl) rfl trivial rfl rfl ?_
          refine op0 (sp_move rfl rfl) rfl trivial rfl rfl ?_
          rcases cond_cases h with ⟨h9, h⟩ | ⟨h9, h⟩
          · refine (boolLit 38 rfl h9).2 ?_
            refine opSkip rfl ⟨_, rfl, .inl rfl⟩ rfl ?_
            refine opSkip rfl ⟨_, rfl, .inl rfl⟩ rfl ?_
            refine opSkip rfl ⟨_, rfl, .inl rfl⟩ rfl ?_
            refine opSkip rfl ⟨_, rfl, .inl rfl⟩ rfl ?_
            refine op0 (sp_pickT rfl rfl rfl) rfl trivial rfl rfl ?_
            refine TL.nil ?_
            refine TC.condT rfl ?_
            refine TC.seq ?_
            refine TC.region ?_
            refine op0 (sp_assign rfl rfl) rfl trivial rfl rfl ?_
            refine TL.nil ?_
            cases h
            exact retJ [] (.tmp rfl .nil) rfl trivial rfl rfl
          · refine (boolLit 38 rfl h9).2 ?_
            refine op1 2 rfl (sp_loadBA rfl isBlk rfl vt278 rfl rfl) rfl ⟨_, rfl, rfl⟩ rfl rfl ?_
            refine op1 1 rfl (sp_fieldAddrB rfl isBlk rfl ft155_0 vt3 (by decide)) rfl ⟨_, rfl, rfl⟩ rfl rfl ?_
            refine op1 1 rfl (sp_loadB rfl isBlk rfl vt3 rfl) rfl ⟨_, rfl, rfl⟩ rfl rfl ?_
            obtain ⟨r15, h10, h⟩ := bind_inv h
            refine op0 (sp_call (avs := [.agg [.val (.int .i64 i9), .val (.int .i64 i10), .val (.int .i64 i11)], .val (.int .i64 x13.1)]) (need := []) (v := .val (.bool r15)) (news := []) rfl rfl rfl Try.call216 (atJ [] [] (fc_pulse_line_isLong h10) rfl rfl) (.inl (roAll rfl))) rfl ⟨_, rfl, rfl⟩ rfl rfl ?_
            refine op0 (sp_pickF rfl rfl rfl) rfl trivial rfl rfl ?_
            refine TL.nil ?_
            refine TC.cond (b := r15) rfl (fun h11 => ?_) (fun h11 => ?_)
            · have h := cond_t h h11
              refine TC.seq ?_
              refine TC.region ?_
              refine op0 (sp_assign rfl rfl) rfl trivial rfl rfl ?_
              refine TL.nil ?_
              cases h
              exact retJ [] (.tmp rfl .nil) rfl trivial rfl rfl
            · have h := cond_f h h11
              refine TC.skip ?_
              refine TC.region ?_
              refine op1 1 rfl (sp_fieldAddrB rfl isBlk rfl ft155_0 vt3 (by decide)) rfl trivial rfl rfl ?_
              refine op1 1 rfl (sp_loadB rfl isBlk rfl vt3 rfl) rfl trivial rfl rfl ?_
              refine op0 (sp_assign rfl rfl) rfl trivial rfl rfl ?_
              refine TL.nil ?_
              refine TC.inBlock ?_
              refine TC.region ?_
              obtain ⟨h12, h⟩ := chk_inv h
              refine op0 (sp_add rfl rfl rfl h12) rfl trivial rfl rfl ?_
              refine op0 (sp_move rfl rfl) rfl trivial rfl rfl ?_
              refine TL.nil ?_
              refine TC.inLoop ?_
              refine TC.seq ?_
              refine subJ [] (ih _ _ _ _ _ _ h) ?_ ?_ ?_
              · exact ⟨rfl, rfl, rfl, rfl, rfl, rfl, trivial⟩
              · exact ⟨mem_at 2 rfl, mem_at 3 rfl, trivial⟩
              · rfl
        · refine (boolLit 32 rfl h8).2 ?_
          refine opSkip rfl ⟨_, rfl, .inl rfl⟩ rfl ?_
          refine opSkip rfl ⟨_, rfl, .inl rfl⟩ rfl ?_
          refine opSkip rfl ⟨_, rfl, .inl rfl⟩ rfl ?_
          refine op0 (sp_pickF rfl rfl rfl) rfl ⟨_, rfl, rfl⟩ rfl rfl ?_
          refine op0 (sp_pickF rfl rfl rfl) rfl trivial rfl rfl ?_
          refine op0 (sp_move rfl rfl) rfl trivial rfl rfl ?_
          refine op1 2 rfl (sp_loadBA rfl isBlk rfl vt278 rfl rfl) rfl ⟨_, rfl, rfl⟩ rfl rfl ?_
          refine op1 1 rfl (sp_fieldAddrB rfl isBlk rfl ft155_0 vt3 (by decide)) rfl ⟨_, rfl, rfl⟩ rfl rfl ?_
          refine op1 1 rfl (sp_loadB rfl isBlk rfl vt3 rfl) rfl ⟨_, rfl, rfl⟩ rfl rfl ?_
          obtain ⟨r16, h13, h⟩ := bind_inv h
          refine op0 (sp_call (avs := [.agg [.val (.int .i64 i9), .val (.int .i64 i10), .val (.int .i64 i11)], .val (.int .i64 x13.1)]) (need := []) (v := .val (.bool r16)) (news := []) rfl rfl rfl Try.call216 (atJ [] [] (fc_pulse_line_isLong h13) rfl rfl) (.inl (roAll rfl))) rfl ⟨_, rfl, rfl⟩ rfl rfl ?_
          refine op0 (sp_pickF rfl rfl rfl) rfl trivial rfl rfl ?_
          refine TL.nil ?_
          refine TC.cond (b := r16) rfl (fun h14 => ?_) (fun h14 => ?_)
          · have h := cond_t h h14
            refine TC.seq ?_
            refine TC.region ?_
            refine op0 (sp_assign rfl rfl) rfl trivial rfl rfl ?_
            refine TL.nil ?_
            cases h
            exact retJ [] (.tmp rfl .nil) rfl trivial rfl rfl
          · have h := cond_f h h14
            refine TC.skip ?_
            refine TC.region ?_
            refine op1 1 rfl (sp_fieldAddrB rfl isBlk rfl ft155_0 vt3 (by decide)) rfl trivial rfl rfl ?_
            refine op1 1 rfl (sp_loadB rfl isBlk rfl vt3 rfl) rfl trivial rfl rfl ?_
            refine op0 (sp_assign rfl rfl) rfl trivial rfl rfl ?_
            refine TL.nil ?_
            refine TC.inBlock ?_
            refine TC.region ?_
            obtain ⟨h15, h⟩ := chk_inv h
            refine op0 (sp_add rfl rfl rfl h15) rfl trivial rfl rfl ?_
            refine op0 (sp_move rfl rfl) rfl trivial rfl rfl ?_
            refine TL.nil ?_
            refine TC.inLoop ?_
            refine TC.seq ?_
            refine subJ [] (ih _ _ _ _ _ _ h) ?_ ?_ ?_
            · exact ⟨rfl, rfl, rfl, rfl, rfl, rfl, trivial⟩
            · exact ⟨mem_at 2 rfl, mem_at 3 rfl, trivial⟩
            · rfl
    · have h := cond_f h h2
      refine TC.exit rfl ?_
      refine TC.seq ?_
      refine TC.region ?_
      refine op0 (sp_assign rfl rfl) rfl trivial rfl rfl ?_
      refine TL.nil ?_
      cases h
      exact retJ [] (.tmp rfl .nil) rfl trivial rfl rfl
def ev_pulse_line_check (n : Nat) (l1 : Int) (l2 : Int) (l3 : Int) (f4 : List (Int × Int)) (from_5 : Int) (until6 : Int) : Option Int :=
  cond (decide ((20 : Int) < (f4.length : Int))) (some 5) (ev_pulse_line_check_l0 n f4 until6 n from_5 0 l1 l2 l3 f4)
set_option maxRecDepth 100000 in
set_option maxHeartbeats 2000000 in
theorem fc_pulse_line_check {n : Nat} {l1 : Int} {l2 : Int} {l3 : Int} {f4 : List (Int × Int)} {from_5 : Int} {until6 : Int} {r : Int} (h : ev_pulse_line_check n l1 l2 l3 f4 from_5 until6 = some r) : FC Try.prog 114 [.agg [.val (.int .i64 l1), .val (.int .i64 l2), .val (.int .i64 l3)], .ref 0, .val (.int .i64 from_5), .val (.int .i64 until6)] [.ro 0 2 (List.map en_api_PulseFault f4)] (.val (.int .i64 r)) [] := by
  refine introJ (nz := 47) Try.func114 rfl rfl rfl (fun w0 R0 env0 => ?_)
  rw [ev_pulse_line_check] at h
  refine TC.seq ?_
  refine TC.region ?_
  refine op0 (sp_box 1 rfl rfl rfl rfl rfl) rfl trivial rfl rfl ?_
  refine op0 (sp_assign rfl rfl) rfl trivial rfl rfl ?_
  refine TL.nil ?_
  refine TC.seq ?_
  refine TC.seq ?_
  refine TC.region ?_
  refine op0 (sp_move rfl rfl) rfl trivial rfl rfl ?_
  refine op1 1 rfl (sp_lenM (N := f4.length) (len_map _ _) rfl rfl isRo Try.underlying407) rfl trivial rfl rfl ?_
  refine op0 (sp_gtr rfl rfl rfl) rfl trivial rfl rfl ?_
  refine TL.nil ?_
  refine TC.cond (b := (decide ((20 : Int) < (f4.length : Int)))) rfl (fun h1 => ?_) (fun h1 => ?_)
  · have h := cond_t h h1
    refine TC.seq ?_
    refine TC.region ?_
    refine op0 (sp_assign rfl rfl) rfl trivial rfl rfl ?_
    refine TL.nil ?_
    cases h
    exact retJ [] (.tmp rfl .nil) rfl trivial rfl rfl
  · have h := cond_f h h1
    refine TC.skip ?_
    refine TC.seq ?_
    refine TC.seq ?_
    refine TC.region ?_
    refine op0 (sp_move rfl rfl) rfl trivial rfl rfl ?_
    refine op1 1 rfl (sp_lenM (N := f4.length) (len_map _ _) rfl rfl isRo Try.underlying407) rfl trivial rfl rfl ?_
    refine op0 (sp_move rfl rfl) rfl trivial rfl rfl ?_
    refine TL.nil ?_
    refine TC.block ?_
    refine TC.loop ?_
    refine TC.seq ?_
    refine subJ [] (ok_pulse_line_check_l0 _ _ _ _ _ _ _ h) ?_ ?_ ?_
    · exact ⟨rfl, rfl, rfl, rfl, rfl, rfl, trivial⟩
    · exact ⟨mem_at 0 rfl, mem_at 1 rfl, trivial⟩
    · rfl
/- pulse_line_start -/
def ev_pulse_line_start (n : Nat) (l1 : Int) (l2 : Int) (l3 : Int) (shown4 : Int) (from_5 : Int) : Option (Int × Int) :=
  cond (l1 == 0) (some (shown4, 0)) (chk (l2 != 0) <| some (shown4, (Int.tmod from_5 l2)))
set_option maxRecDepth 100000 in
set_option maxHeartbeats 2000000 in
theorem fc_pulse_line_start {n : Nat} {l1 : Int} {l2 : Int} {l3 : Int} {shown4 : Int} {from_5 : Int} {r : Int × Int} (h : ev_pulse_line_start n l1 l2 l3 shown4 from_5 = some r) : FC Try.prog 116 [.agg [.val (.int .i64 l1), .val (.int .i64 l2), .val (.int .i64 l3)], .val (.int .i64 shown4), .val (.int .i64 from_5)] [] (.agg [.val (.int .i64 r.1), .val (.int .i64 r.2)]) [] := by
  refine introJ (nz := 20) Try.func116 rfl rfl rfl (fun w0 R0 env0 => ?_)
  rw [ev_pulse_line_start] at h
  refine TC.seq ?_
  refine TC.region ?_
  refine op0 (sp_box 0 rfl rfl rfl rfl rfl) rfl trivial rfl rfl ?_
  refine op0 (sp_alloc 1 rfl Try.zeroValue285 rfl) rfl trivial rfl rfl ?_
  refine TL.nil ?_
  refine TC.seq ?_
  refine TC.seq ?_
  refine TC.region ?_
  refine op1 1 rfl (sp_fieldAddrB rfl isBlk rfl ft278_0 vt148 (by decide)) rfl trivial rfl rfl ?_
  refine op1 1 rfl (sp_fieldAddrB rfl isBlk rfl ft148_0 vt146 (by decide)) rfl trivial rfl rfl ?_
  refine op1 1 rfl (sp_loadB rfl isBlk rfl vt146 rfl) rfl trivial rfl rfl ?_
  refine op0 (sp_eql rfl rfl rfl) rfl trivial rfl rfl ?_
  refine TL.nil ?_
  refine TC.cond (b := (l1 == 0)) rfl (fun h1 => ?_) (fun h1 => ?_)
  · have h := cond_t h h1
    refine TC.seq ?_
    refine TC.region ?_
    refine op0 (sp_move rfl rfl) rfl trivial rfl rfl ?_
    refine op0 (sp_build (qs := [(0, .val (.int .i64 shown4))]) rfl bt285 rfl rfl rfl rfl) rfl trivial rfl rfl ?_
    refine stoB 0 (cells' := [.val (.int .i64 shown4), .val (.int .i64 0)]) rfl rfl trivial rfl rfl rfl rfl vt285 rfl rfl rfl ?_
    refine TL.nil ?_
    cases h
    exact retJ [] (.cells rfl (mem_at 0 rfl) isBlk vt285 rfl rfl (.nil)) rfl trivial rfl rfl
  · have h := cond_f h h1
    refine TC.skip ?_
    refine TC.seq ?_
    refine TC.region ?_
    refine op0 (sp_move rfl rfl) rfl trivial rfl rfl ?_
    refine op0 (sp_move rfl rfl) rfl trivial rfl rfl ?_
    refine op1 1 rfl (sp_fieldAddrB rfl isBlk rfl ft278_0 vt148 (by decide)) rfl trivial rfl rfl ?_
    refine op1 1 rfl (sp_fieldAddrB rfl isBlk rfl ft148_1 vt3 (by decide)) rfl trivial rfl rfl ?_
    refine op1 1 rfl (sp_loadB rfl isBlk rfl vt3 rfl) rfl trivial rfl rfl ?_
    obtain ⟨h2, h⟩ := chk_inv h
    refine op0 (sp_rem rfl rfl rfl h2) rfl trivial rfl rfl ?_
    refine op0 (sp_build (qs := [(0, .val (.int .i64 shown4)), (1, .val (.int .i64 (Int.tmod from_5 l2)))]) rfl bt285 rfl rfl rfl rfl) rfl trivial rfl rfl ?_
    refine stoB 0 (cells' := [.val (.int .i64 shown4), .val (.int .i64 (Int.tmod from_5 l2))]) rfl rfl trivial rfl rfl rfl rfl vt285 rfl rfl rfl ?_
    refine TL.nil ?_
    cases h
    exact retJ [] (.cells rfl (mem_at 0 rfl) isBlk vt285 rfl rfl (.nil)) rfl trivial rfl rfl
/- pulse_line_follow -/
def ev_pulse_line_follow (n : Nat) (l1 : Int) (l2 : Int) (l3 : Int) (d4 : Int) (d5 : Int) (from_6 : Int) (f7 : List (Int × Int)) (until8 : Int) : Option ((List (Int × Int)) × Int × Int × Int × Int × Int × Int × Int) :=
  some (f7, from_6, until8, l1, l2, l3, d4, d5)
set_option maxRecDepth 100000 in
set_option maxHeartbeats 2000000 in
theorem fc_pulse_line_follow {n : Nat} {l1 : Int} {l2 : Int} {l3 : Int} {d4 : Int} {d5 : Int} {from_6 : Int} {f7 : List (Int × Int)} {until8 : Int} {r : (List (Int × Int)) × Int × Int × Int × Int × Int × Int × Int} (h : ev_pulse_line_follow n l1 l2 l3 d4 d5 from_6 f7 until8 = some r) : FC Try.prog 115 [.agg [.val (.int .i64 l1), .val (.int .i64 l2), .val (.int .i64 l3)], .agg [.val (.int .i64 d4), .val (.int .i64 d5)], .val (.int .i64 from_6), .ref 0, .val (.int .i64 until8)] [.ro 0 2 (List.map en_api_PulseFault f7)] (.fn 217 [] [.ptr 0 0, .ptr 2 0, .ptr 3 0, .ptr 4 0, .ptr 5 0]) [.blk 0 [.ref 1] 407, .ro 1 2 (List.map en_api_PulseFault r.1), .blk 2 [.val (.int .i64 r.2.1)] 3, .blk 3 [.val (.int .i64 r.2.2.1)] 3, .blk 4 [.val (.int .i64 r.2.2.2.1), .val (.int .i64 r.2.2.2.2.1), .val (.int .i64 r.2.2.2.2.2.1)] 278, .blk 5 [.val (.int .i64 r.2.2.2.2.2.2.1), .val (.int .i64 r.2.2.2.2.2.2.2)] 285] := by
  refine introJ (nz := 12) Try.func115 rfl rfl rfl (fun w0 R0 env0 => ?_)
  rw [ev_pulse_line_follow] at h
  refine TC.seq ?_
  refine TC.region ?_
  refine op0 (sp_box 1 rfl rfl rfl rfl rfl) rfl trivial rfl rfl ?_
  refine op0 (sp_box 2 rfl rfl rfl rfl rfl) rfl trivial rfl rfl ?_
  refine op0 (sp_box 3 rfl rfl rfl rfl rfl) rfl trivial rfl rfl ?_
  refine op0 (sp_box 4 rfl rfl rfl rfl rfl) rfl trivial rfl rfl ?_
  refine op0 (sp_box 5 rfl rfl rfl rfl rfl) rfl trivial rfl rfl ?_
  refine op0 (sp_assign rfl rfl) rfl trivial rfl rfl ?_
  refine TL.nil ?_
  refine TC.seq ?_
  refine TC.region ?_
  refine op0 (sp_makeFunc (fi := []) (ca := [.tmp 8, .tmp 7, .tmp 9, .tmp 5, .tmp 6]) (fa := []) (cb := [.ptr 4 0, .ptr 3 0, .ptr 5 0, .ptr 1 0, .ptr 2 0]) rfl rfl rfl) rfl trivial rfl rfl ?_
  refine op0 (sp_assign rfl rfl) rfl trivial rfl rfl ?_
  refine TL.nil ?_
  cases h
  exact retJ [(0, 4), (1, 0), (2, 3), (3, 5), (4, 1), (5, 2)] (.tmp rfl .nil) rfl ⟨mem_at 1 rfl, mem_at 5 rfl, mem_at 2 rfl, mem_at 0 rfl, mem_at 4 rfl, mem_at 3 rfl, trivial⟩ rfl rfl
/- p_pulse_faults_moves -/
def ev_p_pulse_faults_moves (n : Nat) (f1 : List (Int × Int)) (minute2 : Int) : Option (Int × (List (Int × Int))) :=
  cond ((f1.length : Int) == 0) (some (1, f1)) (idx f1 0 fun x3 => cond (x3.1 != minute2) (some (1, f1)) (chk (decide (0 ≤ (1 : Int)) && (decide ((1 : Int) ≤ (f1.length : Int)) && decide ((f1.length : Int) ≤ (f1.length : Int)))) <| chk (decide (0 ≤ x3.2) && decide (x3.2 < 3)) <| idx ([0, 0, 2] : List Int) x3.2 fun x4 => some (x4, (List.drop (1 : Int).toNat (List.take ((f1.length : Int) : Int).toNat f1)))))
set_option maxRecDepth 100000 in
set_option maxHeartbeats 2000000 in
theorem ft_p_pulse_faults_moves {n : Nat} {f1 : List (Int × Int)} {minute2 : Int} {r : Int × (List (Int × Int))} (h : ev_p_pulse_faults_moves n f1 minute2 = some r) : FT Try.prog 219 [.ptr 0 0, .val (.int .i64 minute2)] [.blk 0 [.ref 1] 407] [.ro 1 2 (List.map en_api_PulseFault f1)] (.val (.int .i64 r.1)) [.ro 500 2 (List.map en_api_PulseFault r.2), .blk 0 [.ref 500] 407] := by
  refine introM (nz := 30) 2 [(3, 0)] Try.func219 rfl rfl rfl rfl (fun w0 M0 R0 env0 => ?_)
  rw [ev_p_pulse_faults_moves] at h
  refine TC.seq ?_
  refine TC.region ?_
  refine op0 (sp_assign rfl rfl) rfl trivial rfl rfl ?_
  refine TL.nil ?_
  refine TC.seq ?_
  refine TC.region ?_
  refine op0 (sp_move rfl rfl) rfl trivial rfl rfl ?_
  refine op1 2 rfl (sp_nilCheck rfl isBlk rfl) rfl trivial rfl rfl ?_
  refine op1 2 rfl (sp_loadB rfl isBlk rfl vt407 rfl) rfl trivial rfl rfl ?_
  refine op0 (sp_assign rfl rfl) rfl trivial rfl rfl ?_
  refine TL.nil ?_
  refine TC.seq ?_
  refine TC.seq ?_
  refine TC.region ?_
  refine op0 (sp_move rfl rfl) rfl trivial rfl rfl ?_
  refine op1 3 rfl (sp_lenM (N := f1.length) (len_map _ _) rfl rfl isRo Try.underlying407) rfl trivial rfl rfl ?_
  refine op0 (sp_eql rfl rfl rfl) rfl trivial rfl rfl ?_
  refine op0 (sp_move rfl rfl) rfl trivial rfl rfl ?_
  rcases cond_cases h with ⟨h1, h⟩ | ⟨h1, h⟩
  · refine (boolLit 12 rfl h1).2 ?_
    refine opSkip rfl ⟨_, rfl, .inl rfl⟩ rfl ?_
    refine opSkip rfl ⟨_, rfl, .inl rfl⟩ rfl ?_
    refine opSkip rfl ⟨_, rfl, .inl rfl⟩ rfl ?_
    refine opSkip rfl ⟨_, rfl, .inl rfl⟩ rfl ?_
    refine opSkip rfl ⟨_, rfl, .inl rfl⟩ rfl ?_
    refine opSkip rfl ⟨_, rfl, .inl rfl⟩ rfl ?_
    refine op0 (sp_pickT rfl rfl rfl) rfl trivial rfl rfl ?_
    refine TL.nil ?_
    refine TC.condT rfl ?_
    refine TC.seq ?_
    refine TC.region ?_
    refine op0 (sp_assign rfl rfl) rfl trivial rfl rfl ?_
    refine TL.nil ?_
    cases h
    exact retM [(500, 1)] 0 2 [0] rfl (.tmp rfl .nil) rfl ⟨mem_at 2 rfl, mem_at 1 rfl, trivial⟩ rfl rfl ⟨⟨_, mem_at 0 rfl⟩, trivial⟩ rfl
  · refine (boolLit 12 rfl h1).2 ?_
    refine op0 (sp_move rfl rfl) rfl ⟨_, rfl, rfl⟩ rfl rfl ?_
    obtain ⟨x3, h2, h3, h⟩ := idx_inv h
    refine op1 3 rfl (sp_indexS rfl rfl rfl isRo sl407 h2 (map_get _ h3)) rfl ⟨_, rfl, rfl⟩ rfl rfl ?_
    refine op1 3 rfl (sp_fieldAddrR (i := (0 : Int).toNat) rfl rfl isRo ft155_0 vt3 (by decide) (map_get _ h3) (fun h => nomatch h)) rfl ⟨_, rfl, rfl⟩ rfl rfl ?_
    refine op1 3 rfl (sp_loadR (i := (0 : Int).toNat) (j := 0) rfl rfl isRo vt3 rfl (map_get _ h3) rfl (.v (.nil)) (nodup_of_B rfl)) rfl ⟨_, rfl, rfl⟩ rfl rfl ?_
    refine op0 (sp_move rfl rfl) rfl ⟨_, rfl, rfl⟩ rfl rfl ?_
    refine op0 (sp_neq rfl rfl rfl) rfl ⟨_, rfl, rfl⟩ rfl rfl ?_
    refine op0 (sp_pickF rfl rfl rfl) rfl trivial rfl rfl ?_
    refine TL.nil ?_
    refine TC.cond (b := (x3.1 != minute2)) rfl (fun h4 => ?_) (fun h4 => ?_)
    · have h := cond_t h h4
      refine TC.seq ?_
      refine TC.region ?_
      refine op0 (sp_assign rfl rfl) rfl trivial rfl rfl ?_
      refine TL.nil ?_
      cases h
      exact retM [(500, 1)] 0 2 [0] rfl (.tmp rfl .nil) rfl ⟨mem_at 2 rfl, mem_at 1 rfl, trivial⟩ rfl rfl ⟨⟨_, mem_at 0 rfl⟩, trivial⟩ rfl
    · have h := cond_f h h4
      refine TC.skip ?_
      refine TC.seq ?_
      refine TC.region ?_
      refine op0 (sp_move rfl rfl) rfl trivial rfl rfl ?_
      refine op0 (sp_move rfl rfl) rfl trivial rfl rfl ?_
      obtain ⟨h5, h⟩ := chk_inv h
      refine op1 3 rfl (sp_sliceM (l := 1) (h := (f1.length : Int)) 4 (len_map _ _) rfl rfl sl407 (cut_some rfl) cut_none h5 (map_cut _ _ _ _)) rfl trivial rfl rfl ?_
      refine op1 3 rfl (sp_nilCheck rfl isBlk rfl) rfl trivial rfl rfl ?_
      refine stoB 3 (cells' := [.ref 4]) rfl rfl trivial rfl rfl rfl rfl vt407 rfl rfl rfl ?_
      refine TL.nil ?_
      refine TC.seq ?_
      refine TC.region ?_
      refine op0 (sp_build (qs := [(1, .val (.int .i64 0)), (2, .val (.int .i64 2))]) rfl bt125 rfl rfl rfl rfl) rfl trivial rfl rfl ?_
      refine op0 (sp_move rfl rfl) rfl trivial rfl rfl ?_
      refine op1 4 rfl (sp_indexS rfl rfl rfl isRo sl407 h2 (map_get _ h3)) rfl trivial rfl rfl ?_
      refine op1 4 rfl (sp_fieldAddrR (i := (0 : Int).toNat) rfl rfl isRo ft155_1 vt153 (by decide) (map_get _ h3) (fun h => nomatch h)) rfl trivial rfl rfl ?_
      refine op1 4 rfl (sp_loadR (i := (0 : Int).toNat) (j := 1) rfl rfl isRo vt153 rfl (map_get _ h3) rfl (.v (.nil)) (nodup_of_B rfl)) rfl trivial rfl rfl ?_
      obtain ⟨h8, h⟩ := chk_inv h
      obtain ⟨x4, h6, h7, h⟩ := idx_inv h
      refine op0 (sp_index rfl rfl rfl Try.underlying125 vt3 h8 (map_get (fun z => AV.val (.int .i64 z)) h7)) rfl trivial rfl rfl ?_
      refine op0 (sp_assign rfl rfl) rfl trivial rfl rfl ?_
      refine TL.nil ?_
      cases h
      exact retM [(500, 4)] 1 2 [0] rfl (.tmp rfl .nil) rfl ⟨mem_at 0 rfl, mem_at 2 rfl, trivial⟩ rfl rfl ⟨⟨_, mem_at 1 rfl⟩, trivial⟩ rfl
/- pulse_dial_on -/
def ev_pulse_dial_on (n : Nat) (d1 : Int) (d2 : Int) (by_3 : Int) : Option (Int × Int) :=
  chk (in64 (d1 + by_3)) <| chk (in64 ((d1 + by_3) + 720)) <| some ((Int.tmod ((d1 + by_3) + 720) 720), d2)
set_option maxRecDepth 100000 in
set_option maxHeartbeats 2000000 in
theorem fc_pulse_dial_on {n : Nat} {d1 : Int} {d2 : Int} {by_3 : Int} {r : Int × Int} (h : ev_pulse_dial_on n d1 d2 by_3 = some r) : FC Try.prog 345 [.agg [.val (.int .i64 d1), .val (.int .i64 d2)], .val (.int .i64 by_3)] [] (.agg [.val (.int .i64 r.1), .val (.int .i64 r.2)]) [] := by
  refine introJ (nz := 13) Try.func345 rfl rfl rfl (fun w0 R0 env0 => ?_)
  rw [ev_pulse_dial_on] at h
  refine TC.seq ?_
  refine TC.region ?_
  refine op0 (sp_box 0 rfl rfl rfl rfl rfl) rfl trivial rfl rfl ?_
  refine op0 (sp_alloc 1 rfl Try.zeroValue285 rfl) rfl trivial rfl rfl ?_
  refine TL.nil ?_
  refine TC.seq ?_
  refine TC.region ?_
  refine op1 1 rfl (sp_fieldAddrB rfl isBlk rfl ft285_0 vt3 (by decide)) rfl trivial rfl rfl ?_
  refine op1 1 rfl (sp_loadB rfl isBlk rfl vt3 rfl) rfl trivial rfl rfl ?_
  refine op0 (sp_move rfl rfl) rfl trivial rfl rfl ?_
  obtain ⟨h1, h⟩ := chk_inv h
  refine op0 (sp_add rfl rfl rfl h1) rfl trivial rfl rfl ?_
  obtain ⟨h2, h⟩ := chk_inv h
  refine op0 (sp_add rfl rfl rfl h2) rfl trivial rfl rfl ?_
  refine op0 (sp_rem rfl rfl rfl (by decide)) rfl trivial rfl rfl ?_
  refine op1 1 rfl (sp_fieldAddrB rfl isBlk rfl ft285_0 vt3 (by decide)) rfl trivial rfl rfl ?_
  refine stoB 1 (cells' := [.val (.int .i64 (Int.tmod ((d1 + by_3) + 720) 720)), .val (.int .i64 d2)]) rfl rfl trivial rfl rfl rfl rfl vt3 rfl rfl rfl ?_
  refine TL.nil ?_
  refine TC.seq ?_
  refine TC.region ?_
  refine op1 1 rfl (sp_loadBA rfl isBlk rfl vt285 rfl rfl) rfl trivial rfl rfl ?_
  refine stoB 0 (cells' := [.val (.int .i64 (Int.tmod ((d1 + by_3) + 720) 720)), .val (.int .i64 d2)]) rfl rfl trivial rfl rfl rfl rfl vt285 rfl rfl rfl ?_
  refine TL.nil ?_
  cases h
  exact retJ [] (.cells rfl (mem_at 0 rfl) isBlk vt285 rfl rfl (.nil)) rfl trivial rfl rfl
/- pulse_line_move -/
def ev_pulse_line_move_j0 (n : Nat) (d5 : Int) (d4 : Int) : Option (Int × Int) :=
  chk (in64 (d5 + 1)) <| (ev_pulse_dial_on n d4 (d5 + 1) 1).bind fun r7 => some (r7.1, r7.2)
set_option maxRecDepth 100000 in
set_option maxHeartbeats 2000000 in
theorem ok_pulse_line_move_j0 {n : Nat} {w0 : World} {R0 : Nat → Prop} {env0 : Env} {r : Int × Int} {d4 : Int} {d5 : Int} (h : ev_pulse_line_move_j0 n d5 d4 = some r) : TC Try.prog ⟨w0, fun _ => False, R0⟩ 35 (bodyPost Try.prog Try.f301 (Post ⟨w0, fun _ => False, R0⟩ env0 (.agg [.val (.int .i64 r.1), .val (.int .i64 r.2)]) [])) [.code (sub (bodyOf Try.f301) [1, 0, 1, 1]), .code (sub (bodyOf Try.f301) [1, 1])] ([(4, .ptr 1 0), (6, .ptr 2 0)]) ([.blk 1 [.val (.int .i64 d4), .val (.int .i64 d5)] 285, .blk 2 [.val (.int .i64 0), .val (.int .i64 0)] 285]) := by
  rw [ev_pulse_line_move_j0] at h
  refine TC.skip ?_
  refine TC.seq ?_
  refine TC.region ?_
  refine op1 0 rfl (sp_fieldAddrB rfl isBlk rfl ft285_1 vt3 (by decide)) rfl trivial rfl rfl ?_
  refine op1 0 rfl (sp_loadB rfl isBlk rfl vt3 rfl) rfl trivial rfl rfl ?_
  obtain ⟨h6, h⟩ := chk_inv h
  refine op0 (sp_add rfl rfl rfl h6) rfl trivial rfl rfl ?_
  refine op1 0 rfl (sp_fieldAddrB rfl isBlk rfl ft285_1 vt3 (by decide)) rfl trivial rfl rfl ?_
  refine stoB 0 (cells' := [.val (.int .i64 d4), .val (.int .i64 (d5 + 1))]) rfl rfl trivial rfl rfl rfl rfl vt3 rfl rfl rfl ?_
  refine TL.nil ?_
  refine TC.seq ?_
  refine TC.region ?_
  refine op1 0 rfl (sp_loadBA rfl isBlk rfl vt285 rfl rfl) rfl trivial rfl rfl ?_
  obtain ⟨r7, h7, h⟩ := bind_inv h
  refine op0 (sp_call (avs := [.agg [.val (.int .i64 d4), .val (.int .i64 (d5 + 1))], .val (.int .i64 1)]) (need := []) (v := .agg [.val (.int .i64 r7.1), .val (.int .i64 r7.2)]) (news := []) rfl rfl rfl Try.call345 (atJ [] [] (fc_pulse_dial_on h7) rfl rfl) (.inl (roAll rfl))) rfl trivial rfl rfl ?_
  refine stoB 1 (cells' := [.val (.int .i64 r7.1), .val (.int .i64 r7.2)]) rfl rfl trivial rfl rfl rfl rfl vt285 rfl rfl rfl ?_
  refine TL.nil ?_
  cases h
  exact retJ [] (.cells rfl (mem_at 1 rfl) isBlk vt285 rfl rfl (.nil)) rfl trivial rfl rfl
def ev_pulse_line_move (n : Nat) (l1 : Int) (l2 : Int) (l3 : Int) (d4 : Int) (d5 : Int) (long6 : Bool) : Option (Int × Int) :=
  cond (l1 == 2) (cond (!long6) (chk (l2 != 0) <| chk (in64 (l2 - 1)) <| cond ((Int.tmod d4 l2) == (l2 - 1)) (some (d4, d5)) (ev_pulse_line_move_j0 n d5 d4)) (ev_pulse_line_move_j0 n d5 d4)) (ev_pulse_line_move_j0 n d5 d4)
set_option maxRecDepth 100000 in
set_option maxHeartbeats 2000000 in
theorem fc_pulse_line_move {n : Nat} {l1 : Int} {l2 : Int} {l3 : Int} {d4 : Int} {d5 : Int} {long6 : Bool} {r : Int × Int} (h : ev_pulse_line_move n l1 l2 l3 d4 d5 long6 = some r) : FC Try.prog 301 [.agg [.val (.int .i64 l1), .val (.int .i64 l2), .val (.int .i64 l3)], .agg [.val (.int .i64 d4), .val (.int .i64 d5)], .val (.bool long6)] [] (.agg [.val (.int .i64 r.1), .val (.int .i64 r.2)]) [] := by
  refine introJ (nz := 35) Try.func301 rfl rfl rfl (fun w0 R0 env0 => ?_)
  rw [ev_pulse_line_move] at h
  refine TC.seq ?_
  refine TC.region ?_
  refine op0 (sp_box 0 rfl rfl rfl rfl rfl) rfl trivial rfl rfl ?_
  refine op0 (sp_box 1 rfl rfl rfl rfl rfl) rfl trivial rfl rfl ?_
  refine op0 (sp_alloc 2 rfl Try.zeroValue285 rfl) rfl trivial rfl rfl ?_
  refine TL.nil ?_
  refine TC.seq ?_
  refine TC.seq ?_
  rcases cond_cases h with ⟨h1, h⟩ | ⟨h1, h⟩
  · rcases cond_cases h with ⟨h2, h⟩ | ⟨h2, h⟩
    · obtain ⟨h3, h⟩ := chk_inv h
      obtain ⟨h4, h⟩ := chk_inv h
      refine drawJ 19 [⟨.ptr 0 0, [], [.blk 0 [.val (.int .i64 l1), .val (.int .i64 l2), .val (.int .i64 l3)] 278], []⟩, ⟨.ptr 0 0, [], [.blk 0 [.val (.int .i64 l1), .val (.int .i64 l2), .val (.int .i64 l3)] 278], []⟩, ⟨.val (.int .i64 l1), [], [.blk 0 [.val (.int .i64 l1), .val (.int .i64 l2), .val (.int .i64 l3)] 278], []⟩, ⟨.val (.bool (l1 == 2)), [], [], []⟩, ⟨.val (.bool true), [], [], []⟩, ⟨.val (.bool long6), [], [], []⟩, ⟨.val (.bool (!long6)), [], [], []⟩, ⟨.val (.bool (!long6)), [], [], []⟩, ⟨.val (.bool true), [], [], []⟩, ⟨.ptr 1 0, [], [.blk 1 [.val (.int .i64 d4), .val (.int .i64 d5)] 285], []⟩, ⟨.val (.int .i64 d4), [], [.blk 1 [.val (.int .i64 d4), .val (.int .i64 d5)] 285], []⟩, ⟨.ptr 0 0, [], [.blk 0 [.val (.int .i64 l1), .val (.int .i64 l2), .val (.int .i64 l3)] 278], []⟩, ⟨.ptr 0 1, [], [.blk 0 [.val (.int .i64 l1), .val (.int .i64 l2), .val (.int .i64 l3)] 278], []⟩, ⟨.val (.int .i64 l2), [], [.blk 0 [.val (.int .i64 l1), .val (.int .i64 l2), .val (.int .i64 l3)] 278], []⟩, ⟨.val (.int .i64 (Int.tmod d4 l2)), [], [], []⟩, ⟨.ptr 0 0, [], [.blk 0 [.val (.int .i64 l1), .val (.int .i64 l2), .val (.int .i64 l3)] 278], []⟩, ⟨.ptr 0 1, [], [.blk 0 [.val (.int .i64 l1), .val (.int .i64 l2), .val (.int .i64 l3)] 278], []⟩, ⟨.val (.int .i64 l2), [], [.blk 0 [.val (.int .i64 l1), .val (.int .i64 l2), .val (.int .i64 l3)] 278], []⟩, ⟨.val (.int .i64 (l2 - 1)), [], [], []⟩] rfl ?_ rfl ?_ rfl ?_ ?_
      · kernel_rfl
      · kernel_rfl
      · exact DAll.op' (sp_fieldAddrB rfl isBlk rfl ft278_0 vt148 (by decide)) trivial rfl (From.ok (ps := [(none, 2)]) ⟨⟨rfl, rfl⟩, trivial⟩) (DAll.op' (sp_fieldAddrB rfl isBlk rfl ft148_0 vt146 (by decide)) trivial rfl (From.ok (ps := [(none, 2)]) ⟨⟨rfl, rfl⟩, trivial⟩) (DAll.op' (sp_loadB rfl isBlk rfl vt146 rfl) trivial rfl (From.ok (ps := [(none, 2)]) ⟨⟨rfl, rfl⟩, trivial⟩) (DAll.op' (sp_eql rfl rfl rfl) trivial rfl (From.ok (ps := []) trivial) (DAll.op' (sp_castB h1 (sp_move rfl rfl)) trivial rfl (From.ok (ps := []) trivial) (DAll.op' (sp_move rfl rfl) ⟨_, rfl, rfl⟩ rfl (From.ok (ps := []) trivial) (DAll.op' (sp_not rfl rfl) ⟨_, rfl, rfl⟩ rfl (From.ok (ps := []) trivial) (DAll.op' (sp_pickT rfl rfl rfl) trivial rfl (From.ok (ps := []) trivial) (DAll.op' (sp_castB h2 (sp_move rfl rfl)) trivial rfl (From.ok (ps := []) trivial) (DAll.op' (sp_fieldAddrB rfl isBlk rfl ft285_0 vt3 (by decide)) ⟨_, rfl, rfl⟩ rfl (From.ok (ps := [(none, 1)]) ⟨⟨rfl, rfl⟩, trivial⟩) (DAll.op' (sp_loadB rfl isBlk rfl vt3 rfl) ⟨_, rfl, rfl⟩ rfl (From.ok (ps := [(none, 1)]) ⟨⟨rfl, rfl⟩, trivial⟩) (DAll.op' (sp_fieldAddrB rfl isBlk rfl ft278_0 vt148 (by decide)) ⟨_, rfl, rfl⟩ rfl (From.ok (ps := [(none, 2)]) ⟨⟨rfl, rfl⟩, trivial⟩) (DAll.op' (sp_fieldAddrB rfl isBlk rfl ft148_1 vt3 (by decide)) ⟨_, rfl, rfl⟩ rfl (From.ok (ps := [(none, 2)]) ⟨⟨rfl, rfl⟩, trivial⟩) (DAll.op' (sp_loadB rfl isBlk rfl vt3 rfl) ⟨_, rfl, rfl⟩ rfl (From.ok (ps := [(none, 2)]) ⟨⟨rfl, rfl⟩, trivial⟩) (DAll.op' (sp_rem rfl rfl rfl h3) ⟨_, rfl, rfl⟩ rfl (From.ok (ps := []) trivial) (DAll.op' (sp_fieldAddrB rfl isBlk rfl ft278_0 vt148 (by decide)) ⟨_, rfl, rfl⟩ rfl (From.ok (ps := [(none, 2)]) ⟨⟨rfl, rfl⟩, trivial⟩) (DAll.op' (sp_fieldAddrB rfl isBlk rfl ft148_1 vt3 (by decide)) ⟨_, rfl, rfl⟩ rfl (From.ok (ps := [(none, 2)]) ⟨⟨rfl, rfl⟩, trivial⟩) (DAll.op' (sp_loadB rfl isBlk rfl vt3 rfl) ⟨_, rfl, rfl⟩ rfl (From.ok (ps := [(none, 2)]) ⟨⟨rfl, rfl⟩, trivial⟩) (DAll.op' (sp_sub rfl rfl rfl h4) ⟨_, rfl, rfl⟩ rfl (From.ok (ps := []) trivial) (.nil)))))))))))))))))))
      refine op0 (sp_eql rfl rfl rfl) rfl ⟨_, rfl, rfl⟩ rfl rfl ?_
      refine op0 (sp_pickT rfl rfl rfl) rfl trivial rfl rfl ?_
      refine TL.nil ?_
      refine TC.cond (b := ((Int.tmod d4 l2) == (l2 - 1))) rfl (fun h5 => ?_) (fun h5 => ?_)
      · have h := cond_t h h5
        refine TC.seq ?_
        refine TC.region ?_
        refine op1 1 rfl (sp_loadBA rfl isBlk rfl vt285 rfl rfl) rfl trivial rfl rfl ?_
        refine stoB 0 (cells' := [.val (.int .i64 d4), .val (.int .i64 d5)]) rfl rfl trivial rfl rfl rfl rfl vt285 rfl rfl rfl ?_
        refine TL.nil ?_
        cases h
        exact retJ [] (.cells rfl (mem_at 0 rfl) isBlk vt285 rfl rfl (.nil)) rfl trivial rfl rfl
      · have h := cond_f h h5
        refine subJ [] (ok_pulse_line_move_j0 h) ?_ ?_ ?_
        · exact ⟨rfl, rfl, trivial⟩
        · exact ⟨mem_at 1 rfl, mem_at 0 rfl, trivial⟩
        · rfl
    · refine drawJ 19 [⟨.ptr 0 0, [], [.blk 0 [.val (.int .i64 l1), .val (.int .i64 l2), .val (.int .i64 l3)] 278], []⟩, ⟨.ptr 0 0, [], [.blk 0 [.val (.int .i64 l1), .val (.int .i64 l2), .val (.int .i64 l3)] 278], []⟩, ⟨.val (.int .i64 l1), [], [.blk 0 [.val (.int .i64 l1), .val (.int .i64 l2), .val (.int .i64 l3)] 278], []⟩, ⟨.val (.bool (l1 == 2)), [], [], []⟩, ⟨.val (.bool true), [], [], []⟩, ⟨.val (.bool long6), [], [], []⟩, ⟨.val (.bool (!long6)), [], [], []⟩, ⟨.val (.bool (!long6)), [], [], []⟩, ⟨.val (.bool false), [], [], []⟩, ⟨.val (undef), [], [], []⟩, ⟨.val (undef), [], [], []⟩, ⟨.val (undef), [], [], []⟩, ⟨.val (undef), [], [], []⟩, ⟨.val (undef), [], [], []⟩, ⟨.val (undef), [], [], []⟩, ⟨.val (undef), [], [], []⟩, ⟨.val (undef), [], [], []⟩, ⟨.val (undef), [], [], []⟩, ⟨.val (undef), [], [], []⟩] rfl ?_ rfl ?_ rfl ?_ ?_
      · kernel_rfl
      · kernel_rfl
      · exact DAll.op' (sp_fieldAddrB rfl isBlk rfl ft278_0 vt148 (by decide)) trivial rfl (From.ok (ps := [(none, 2)]) ⟨⟨rfl, rfl⟩, trivial⟩) (DAll.op' (sp_fieldAddrB rfl isBlk rfl ft148_0 vt146 (by decide)) trivial rfl (From.ok (ps := [(none, 2)]) ⟨⟨rfl, rfl⟩, trivial⟩) (DAll.op' (sp_loadB rfl isBlk rfl vt146 rfl) trivial rfl (From.ok (ps := [(none, 2)]) ⟨⟨rfl, rfl⟩, trivial⟩) (DAll.op' (sp_eql rfl rfl rfl) trivial rfl (From.ok (ps := []) trivial) (DAll.op' (sp_castB h1 (sp_move rfl rfl)) trivial rfl (From.ok (ps := []) trivial) (DAll.op' (sp_move rfl rfl) ⟨_, rfl, rfl⟩ rfl (From.ok (ps := []) trivial) (DAll.op' (sp_not rfl rfl) ⟨_, rfl, rfl⟩ rfl (From.ok (ps := []) trivial) (DAll.op' (sp_pickT rfl rfl rfl) trivial rfl (From.ok (ps := []) trivial) (DAll.op' (sp_castB h2 (sp_move rfl rfl)) trivial rfl (From.ok (ps := []) trivial) (.skip ⟨_, rfl, .inl rfl⟩ rfl rfl rfl (.skip ⟨_, rfl, .inl rfl⟩ rfl rfl rfl (.skip ⟨_, rfl, .inl rfl⟩ rfl rfl rfl (.skip ⟨_, rfl, .inl rfl⟩ rfl rfl rfl (.skip ⟨_, rfl, .inl rfl⟩ rfl rfl rfl (.skip ⟨_, rfl, .inl rfl⟩ rfl rfl rfl (.skip ⟨_, rfl, .inl rfl⟩ rfl rfl rfl (.skip ⟨_, rfl, .inl rfl⟩ rfl rfl rfl (.skip ⟨_, rfl, .inl rfl⟩ rfl rfl rfl (.skip ⟨_, rfl, .inl rfl⟩ rfl rfl rfl (.nil)))))))))))))))))))
      refine opSkip rfl ⟨_, rfl, .inl rfl⟩ rfl ?_
      refine op0 (sp_pickF rfl rfl rfl) rfl trivial rfl rfl ?_
      refine TL.nil ?_
      refine TC.condF rfl ?_
      refine subJ [] (ok_pulse_line_move_j0 h) ?_ ?_ ?_
      · exact ⟨rfl, rfl, trivial⟩
      · exact ⟨mem_at 1 rfl, mem_at 0 rfl, trivial⟩
      · rfl
  · refine drawJ 19 [⟨.ptr 0 0, [], [.blk 0 [.val (.int .i64 l1), .val (.int .i64 l2), .val (.int .i64 l3)] 278], []⟩, ⟨.ptr 0 0, [], [.blk 0 [.val (.int .i64 l1), .val (.int .i64 l2), .val (.int .i64 l3)] 278], []⟩, ⟨.val (.int .i64 l1), [], [.blk 0 [.val (.int .i64 l1), .val (.int .i64 l2), .val (.int .i64 l3)] 278], []⟩, ⟨.val (.bool (l1 == 2)), [], [], []⟩, ⟨.val (.bool false), [], [], []⟩, ⟨.val (undef), [], [], []⟩, ⟨.val (undef), [], [], []⟩, ⟨.val (.bool false), [], [], []⟩, ⟨.val (.bool false), [], [], []⟩, ⟨.val (undef), [], [], []⟩, ⟨.val (undef), [], [], []⟩, ⟨.val (undef), [], [], []⟩, ⟨.val (undef), [], [], []⟩, ⟨.val (undef), [], [], []⟩, ⟨.val (undef), [], [], []⟩, ⟨.val (undef), [], [], []⟩, ⟨.val (undef), [], [], []⟩, ⟨.val (undef), [], [], []⟩, ⟨.val (undef), [], [], []⟩] rfl ?_ rfl ?_ rfl ?_ ?_
    · kernel_rfl
    · kernel_rfl
    · exact DAll.op' (sp_fieldAddrB rfl isBlk rfl ft278_0 vt148 (by decide)) trivial rfl (From.ok (ps := [(none, 2)]) ⟨⟨rfl, rfl⟩, trivial⟩) (DAll.op' (sp_fieldAddrB rfl isBlk rfl ft148_0 vt146 (by decide)) trivial rfl (From.ok (ps := [(none, 2)]) ⟨⟨rfl, rfl⟩, trivial⟩) (DAll.op' (sp_loadB rfl isBlk rfl vt146 rfl) trivial rfl (From.ok (ps := [(none, 2)]) ⟨⟨rfl, rfl⟩, trivial⟩) (DAll.op' (sp_eql rfl rfl rfl) trivial rfl (From.ok (ps := []) trivial) (DAll.op' (sp_castB h1 (sp_move rfl rfl)) trivial rfl (From.ok (ps := []) trivial) (.skip ⟨_, rfl, .inl rfl⟩ rfl rfl rfl (.skip ⟨_, rfl, .inl rfl⟩ rfl rfl rfl (DAll.op' (sp_pickF rfl rfl rfl) trivial rfl (From.ok (ps := []) trivial) (DAll.op' (sp_move rfl rfl) trivial rfl (From.ok (ps := []) trivial) (.skip ⟨_, rfl, .inl rfl⟩ rfl rfl rfl (.skip ⟨_, rfl, .inl rfl⟩ rfl rfl rfl (.skip ⟨_, rfl, .inl rfl⟩ rfl rfl rfl (.skip ⟨_, rfl, .inl rfl⟩ rfl rfl rfl (.skip ⟨_, rfl, .inl rfl⟩ rfl rfl rfl (.skip ⟨_, rfl, .inl rfl⟩ rfl rfl rfl (.skip ⟨_, rfl, .inl rfl⟩ rfl rfl rfl (.skip ⟨_, rfl, .inl rfl⟩ rfl rfl rfl (.skip ⟨_, rfl, .inl rfl⟩ rfl rfl rfl (.skip ⟨_, rfl, .inl rfl⟩ rfl rfl rfl (.nil)))))))))))))))))))
    refine opSkip rfl ⟨_, rfl, .inl rfl⟩ rfl ?_
    refine op0 (sp_pickF rfl rfl rfl) rfl trivial rfl rfl ?_
    refine TL.nil ?_
    refine TC.condF rfl ?_
    refine subJ [] (ok_pulse_line_move_j0 h) ?_ ?_ ?_
    · exact ⟨rfl, rfl, trivial⟩
    · exact ⟨mem_at 1 rfl, mem_at 0 rfl, trivial⟩
    · rfl
/- pulse_line_corrected -/
def ev_pulse_line_corrected_j0 (n : Nat) (l3 : Int) (d4 : Int) (i6 : Int) : Option (Int × Int) :=
  chk (in64 (0 - l3)) <| (ev_pulse_within n (0 - l3) l3 ([i6] : List Int)).bind fun r7 => cond (!r7) (some (d4, 0)) ((ev_pulse_dial_on n d4 0 i6).bind fun r8 => some (r8.1, r8.2))
set_option maxRecDepth 100000 in
set_option maxHeartbeats 2000000 in
theorem ok_pulse_line_corrected_j0 {n : Nat} {w0 : World} {R0 : Nat → Prop} {env0 : Env} {r : Int × Int} {l1 : Int} {l2 : Int} {l3 : Int} {d4 : Int} {d5 : Int} {i6 : Int} (h : ev_pulse_line_corrected_j0 n l3 d4 i6 = some r) : TC Try.prog ⟨w0, fun _ => False, R0⟩ 65 (bodyPost Try.prog Try.f302 (Post ⟨w0, fun _ => False, R0⟩ env0 (.agg [.val (.int .i64 r.1), .val (.int .i64 r.2)]) [])) [.inBlock 0, .code (sub (bodyOf Try.f302) [1, 1, 1, 1])] ([(2, .ptr 0 0), (3, .ptr 1 0), (4, .ptr 2 0), (6, .val (.int .i64 i6))]) ([.blk 0 [.val (.int .i64 l1), .val (.int .i64 l2), .val (.int .i64 l3)] 278, .blk 1 [.val (.int .i64 d4), .val (.int .i64 d5)] 285, .blk 2 [.val (.int .i64 0), .val (.int .i64 0)] 285]) := by
  rw [ev_pulse_line_corrected_j0] at h
  refine TC.inBlock ?_
  refine TC.seq ?_
  refine TC.region ?_
  refine op1 1 rfl (sp_fieldAddrB rfl isBlk rfl ft285_1 vt3 (by decide)) rfl trivial rfl rfl ?_
  refine stoB 1 (cells' := [.val (.int .i64 d4), .val (.int .i64 0)]) rfl rfl trivial rfl rfl rfl rfl vt3 rfl rfl rfl ?_
  refine TL.nil ?_
  refine TC.seq ?_
  refine TC.seq ?_
  refine TC.region ?_
  refine op1 0 rfl (sp_fieldAddrB rfl isBlk rfl ft278_0 vt148 (by decide)) rfl trivial rfl rfl ?_
  refine op1 0 rfl (sp_fieldAddrB rfl isBlk rfl ft148_2 vt3 (by decide)) rfl trivial rfl rfl ?_
  refine op1 0 rfl (sp_loadB rfl isBlk rfl vt3 rfl) rfl trivial rfl rfl ?_
  obtain ⟨h6, h⟩ := chk_inv h
  refine op0 (sp_neg rfl rfl h6) rfl trivial rfl rfl ?_
  refine op1 0 rfl (sp_fieldAddrB rfl isBlk rfl ft278_0 vt148 (by decide)) rfl trivial rfl rfl ?_
  refine op1 0 rfl (sp_fieldAddrB rfl isBlk rfl ft148_2 vt3 (by decide)) rfl trivial rfl rfl ?_
  refine op1 0 rfl (sp_loadB rfl isBlk rfl vt3 rfl) rfl trivial rfl rfl ?_
  refine op0 (sp_move rfl rfl) rfl trivial rfl rfl ?_
  refine op0 (sp_buildSlice (qs := [.val (.int .i64 i6)]) (need := []) (els := List.map en_int ([i6] : List Int)) 3 rfl sl50 (by decide) (by decide) rfl rfl rfl (.v (.nil)) (map_len fun _ => rfl) rfl rfl rfl) rfl trivial rfl rfl ?_
  obtain ⟨r7, h7, h⟩ := bind_inv h
  refine op1 0 rfl (sp_call (avs := [.val (.int .i64 (0 - l3)), .val (.int .i64 l3), .ref 3]) (need := [.row 3 3 1 (List.map en_int ([i6] : List Int))]) (v := .val (.bool r7)) (news := []) rfl rfl rfl Try.call113 (atJ [(0, 3)] [] (fc_pulse_within h7) rfl rfl) (.inr (fun x hx => nomatch hx))) rfl trivial rfl rfl ?_
  refine op0 (sp_not rfl rfl) rfl trivial rfl rfl ?_
  refine TL.nil ?_
  refine TC.cond (b := (!r7)) rfl (fun h8 => ?_) (fun h8 => ?_)
  · have h := cond_t h h8
    refine TC.seq ?_
    refine TC.region ?_
    refine op1 2 rfl (sp_loadBA rfl isBlk rfl vt285 rfl rfl) rfl trivial rfl rfl ?_
    refine stoB 3 (cells' := [.val (.int .i64 d4), .val (.int .i64 0)]) rfl rfl trivial rfl rfl rfl rfl vt285 rfl rfl rfl ?_
    refine TL.nil ?_
    cases h
    exact retJ [] (.cells rfl (mem_at 3 rfl) isBlk vt285 rfl rfl (.nil)) rfl trivial rfl rfl
  · have h := cond_f h h8
    refine TC.skip ?_
    refine TC.seq ?_
    refine TC.region ?_
    refine op1 2 rfl (sp_loadBA rfl isBlk rfl vt285 rfl rfl) rfl trivial rfl rfl ?_
    refine op0 (sp_move rfl rfl) rfl trivial rfl rfl ?_
    obtain ⟨r8, h9, h⟩ := bind_inv h
    refine op0 (sp_call (avs := [.agg [.val (.int .i64 d4), .val (.int .i64 0)], .val (.int .i64 i6)]) (need := []) (v := .agg [.val (.int .i64 r8.1), .val (.int .i64 r8.2)]) (news := []) rfl rfl rfl Try.call345 (atJ [] [] (fc_pulse_dial_on h9) rfl rfl) (.inl (roAll rfl))) rfl trivial rfl rfl ?_
    refine stoB 3 (cells' := [.val (.int .i64 r8.1), .val (.int .i64 r8.2)]) rfl rfl trivial rfl rfl rfl rfl vt285 rfl rfl rfl ?_
    refine TL.nil ?_
    cases h
    exact retJ [] (.cells rfl (mem_at 3 rfl) isBlk vt285 rfl rfl (.nil)) rfl trivial rfl rfl
def ev_pulse_line_corrected (n : Nat) (l1 : Int) (l2 : Int) (l3 : Int) (d4 : Int) (d5 : Int) : Option (Int × Int) :=
  chk (l2 != 0) <| cond (l1 == 1) (chk (in64 (l2 - (Int.tmod d4 l2))) <| cond (decide ((Int.tmod d4 l2) ≤ l3)) (chk (in64 (0 - (Int.tmod d4 l2))) <| ev_pulse_line_corrected_j0 n l3 d4 (0 - (Int.tmod d4 l2))) (ev_pulse_line_corrected_j0 n l3 d4 (l2 - (Int.tmod d4 l2)))) (cond (l1 == 2) (chk (in64 (l2 - (Int.tmod d4 l2))) <| chk (l2 != 0) <| ev_pulse_line_corrected_j0 n l3 d4 (Int.tmod (l2 - (Int.tmod d4 l2)) l2)) (cond (l1 == 3) (chk (in64 (l2 - d5)) <| ev_pulse_line_corrected_j0 n l3 d4 (l2 - d5)) (ev_pulse_line_corrected_j0 n l3 d4 0)))
set_option maxRecDepth 100000 in
set_option maxHeartbeats 2000000 in
theorem fc_pulse_line_corrected {n : Nat} {l1 : Int} {l2 : Int} {l3 : Int} {d4 : Int} {d5 : Int} {r : Int × Int} (h : ev_pulse_line_corrected n l1 l2 l3 d4 d5 = some r) : FC Try.prog 302 [.agg [.val (.int .i64 l1), .val (.int .i64 l2), .val (.int .i64 l3)], .agg [.val (.int .i64 d4), .val (.int .i64 d5)]] [] (.agg [.val (.int .i64 r.1), .val (.int .i64 r.2)]) [] := by
  refine introJ (nz := 65) Try.func302 rfl rfl rfl (fun w0 R0 env0 => ?_)
  rw [ev_pulse_line_corrected] at h
  refine TC.seq ?_
  refine TC.region ?_
  refine op0 (sp_box 0 rfl rfl rfl rfl rfl) rfl trivial rfl rfl ?_
  refine op0 (sp_box 1 rfl rfl rfl rfl rfl) rfl trivial rfl rfl ?_
  refine op0 (sp_alloc 2 rfl Try.zeroValue285 rfl) rfl trivial rfl rfl ?_
  refine TL.nil ?_
  refine TC.seq ?_
  refine TC.region ?_
  refine op1 1 rfl (sp_fieldAddrB rfl isBlk rfl ft285_0 vt3 (by decide)) rfl trivial rfl rfl ?_
  refine op1 1 rfl (sp_loadB rfl isBlk rfl vt3 rfl) rfl trivial rfl rfl ?_
  refine op1 2 rfl (sp_fieldAddrB rfl isBlk rfl ft278_0 vt148 (by decide)) rfl trivial rfl rfl ?_
  refine op1 2 rfl (sp_fieldAddrB rfl isBlk rfl ft148_1 vt3 (by decide)) rfl trivial rfl rfl ?_
  refine op1 2 rfl (sp_loadB rfl isBlk rfl vt3 rfl) rfl trivial rfl rfl ?_
  obtain ⟨h1, h⟩ := chk_inv h
  refine op0 (sp_rem rfl rfl rfl h1) rfl trivial rfl rfl ?_
  refine op0 (sp_assign rfl rfl) rfl trivial rfl rfl ?_
  refine TL.nil ?_
  refine TC.seq ?_
  refine TC.region ?_
  refine op0 (sp_assign rfl rfl) rfl trivial rfl rfl ?_
  refine TL.nil ?_
  refine TC.seq ?_
  refine TC.seq ?_
  refine TC.region ?_
  refine op1 2 rfl (sp_fieldAddrB rfl isBlk rfl ft278_0 vt148 (by decide)) rfl trivial rfl rfl ?_
  refine op1 2 rfl (sp_fieldAddrB rfl isBlk rfl ft148_0 vt146 (by decide)) rfl trivial rfl rfl ?_
  refine op1 2 rfl (sp_loadB rfl isBlk rfl vt146 rfl) rfl trivial rfl rfl ?_
  refine TL.nil ?_
  refine TC.block ?_
  refine TC.seq ?_
  refine TC.region ?_
  refine op0 (sp_eql rfl rfl rfl) rfl trivial rfl rfl ?_
  refine op0 (sp_assign rfl rfl) rfl trivial rfl rfl ?_
  refine TL.nil ?_
  refine TC.cond (b := (l1 == 1)) rfl (fun h2 => ?_) (fun h2 => ?_)
  · have h := cond_t h h2
    refine TC.seq ?_
    refine TC.region ?_
    refine op1 2 rfl (sp_fieldAddrB rfl isBlk rfl ft278_0 vt148 (by decide)) rfl trivial rfl rfl ?_
    refine op1 2 rfl (sp_fieldAddrB rfl isBlk rfl ft148_1 vt3 (by decide)) rfl trivial rfl rfl ?_
    refine op1 2 rfl (sp_loadB rfl isBlk rfl vt3 rfl) rfl trivial rfl rfl ?_
    refine op0 (sp_move rfl rfl) rfl trivial rfl rfl ?_
    obtain ⟨h3, h⟩ := chk_inv h
    refine op0 (sp_sub rfl rfl rfl h3) rfl trivial rfl rfl ?_
    refine op0 (sp_assign rfl rfl) rfl trivial rfl rfl ?_
    refine TL.nil ?_
    refine TC.seq ?_
    refine TC.region ?_
    refine op0 (sp_move rfl rfl) rfl trivial rfl rfl ?_
    refine op1 2 rfl (sp_fieldAddrB rfl isBlk rfl ft278_0 vt148 (by decide)) rfl trivial rfl rfl ?_
    refine op1 2 rfl (sp_fieldAddrB rfl isBlk rfl ft148_2 vt3 (by decide)) rfl trivial rfl rfl ?_
    refine op1 2 rfl (sp_loadB rfl isBlk rfl vt3 rfl) rfl trivial rfl rfl ?_
    refine op0 (sp_leq rfl rfl rfl) rfl trivial rfl rfl ?_
    refine TL.nil ?_
    refine TC.cond (b := (decide ((Int.tmod d4 l2) ≤ l3))) rfl (fun h4 => ?_) (fun h4 => ?_)
    · have h := cond_t h h4
      refine TC.region ?_
      refine op0 (sp_move rfl rfl) rfl trivial rfl rfl ?_
      obtain ⟨h5, h⟩ := chk_inv h
      refine op0 (sp_neg rfl rfl h5) rfl trivial rfl rfl ?_
      refine op0 (sp_assign rfl rfl) rfl trivial rfl rfl ?_
      refine TL.nil ?_
      refine subJ [] (ok_pulse_line_corrected_j0 (l1 := l1) (l2 := l2) (d5 := d5) h) ?_ ?_ ?_
      · exact ⟨rfl, rfl, rfl, rfl, trivial⟩
      · exact ⟨mem_at 2 rfl, mem_at 1 rfl, mem_at 0 rfl, trivial⟩
      · rfl
    · have h := cond_f h h4
      refine TC.skip ?_
      refine subJ [] (ok_pulse_line_corrected_j0 (l1 := l1) (l2 := l2) (d5 := d5) h) ?_ ?_ ?_
      · exact ⟨rfl, rfl, rfl, rfl, trivial⟩
      · exact ⟨mem_at 2 rfl, mem_at 1 rfl, mem_at 0 rfl, trivial⟩
      · rfl
  · have h := cond_f h h2
    refine TC.seq ?_
    refine TC.region ?_
    refine op0 (sp_eql rfl rfl rfl) rfl trivial rfl rfl ?_
    refine op0 (sp_assign rfl rfl) rfl trivial rfl rfl ?_
    refine TL.nil ?_
    refine TC.cond (b := (l1 == 2)) rfl (fun h10 => ?_) (fun h10 => ?_)
    · have h := cond_t h h10
      refine TC.region ?_
      refine op1 2 rfl (sp_fieldAddrB rfl isBlk rfl ft278_0 vt148 (by decide)) rfl trivial rfl rfl ?_
      refine op1 2 rfl (sp_fieldAddrB rfl isBlk rfl ft148_1 vt3 (by decide)) rfl trivial rfl rfl ?_
      refine op1 2 rfl (sp_loadB rfl isBlk rfl vt3 rfl) rfl trivial rfl rfl ?_
      refine op0 (sp_move rfl rfl) rfl trivial rfl rfl ?_
      obtain ⟨h11, h⟩ := chk_inv h
      refine op0 (sp_sub rfl rfl rfl h11) rfl trivial rfl rfl ?_
      refine op1 2 rfl (sp_fieldAddrB rfl isBlk rfl ft278_0 vt148 (by decide)) rfl trivial rfl rfl ?_
      refine op1 2 rfl (sp_fieldAddrB rfl isBlk rfl ft148_1 vt3 (by decide)) rfl trivial rfl rfl ?_
      refine op1 2 rfl (sp_loadB rfl isBlk rfl vt3 rfl) rfl trivial rfl rfl ?_
      obtain ⟨h12, h⟩ := chk_inv h
      refine op0 (sp_rem rfl rfl rfl h12) rfl trivial rfl rfl ?_
      refine op0 (sp_assign rfl rfl) rfl trivial rfl rfl ?_
      refine TL.nil ?_
      refine subJ [] (ok_pulse_line_corrected_j0 (l1 := l1) (l2 := l2) (d5 := d5) h) ?_ ?_ ?_
      · exact ⟨rfl, rfl, rfl, rfl, trivial⟩
      · exact ⟨mem_at 2 rfl, mem_at 1 rfl, mem_at 0 rfl, trivial⟩
      · rfl
    · have h := cond_f h h10
      refine TC.seq ?_
      refine TC.region ?_
      refine op0 (sp_eql rfl rfl rfl) rfl trivial rfl rfl ?_
      refine op0 (sp_assign rfl rfl) rfl trivial rfl rfl ?_
      refine TL.nil ?_
      refine TC.cond (b := (l1 == 3)) rfl (fun h13 => ?_) (fun h13 => ?_)
      · have h := cond_t h h13
        refine TC.region ?_
        refine op1 2 rfl (sp_fieldAddrB rfl isBlk rfl ft278_0 vt148 (by decide)) rfl trivial rfl rfl ?_
        refine op1 2 rfl (sp_fieldAddrB rfl isBlk rfl ft148_1 vt3 (by decide)) rfl trivial rfl rfl ?_
        refine op1 2 rfl (sp_loadB rfl isBlk rfl vt3 rfl) rfl trivial rfl rfl ?_
        refine op1 1 rfl (sp_fieldAddrB rfl isBlk rfl ft285_1 vt3 (by decide)) rfl trivial rfl rfl ?_
        refine op1 1 rfl (sp_loadB rfl isBlk rfl vt3 rfl) rfl trivial rfl rfl ?_
        obtain ⟨h14, h⟩ := chk_inv h
        refine op0 (sp_sub rfl rfl rfl h14) rfl trivial rfl rfl ?_
        refine op0 (sp_assign rfl rfl) rfl trivial rfl rfl ?_
        refine TL.nil ?_
        refine subJ [] (ok_pulse_line_corrected_j0 (l1 := l1) (l2 := l2) (d5 := d5) h) ?_ ?_ ?_
        · exact ⟨rfl, rfl, rfl, rfl, trivial⟩
        · exact ⟨mem_at 2 rfl, mem_at 1 rfl, mem_at 0 rfl, trivial⟩
        · rfl
      · have h := cond_f h h13
        refine TC.skip ?_
        refine subJ [] (ok_pulse_line_corrected_j0 (l1 := l1) (l2 := l2) (d5 := d5) h) ?_ ?_ ?_
        · exact ⟨rfl, rfl, rfl, rfl, trivial⟩
        · exact ⟨mem_at 2 rfl, mem_at 1 rfl, mem_at 0 rfl, trivial⟩
        · rfl
/- pulse_line_impulse -/
def ev_pulse_line_impulse_l0 (n : Nat) (moves7 : Int) (r8 : Bool) : Nat → Int → Int → Int → Int → Int → Int → Int → Int → Option (Int × Int)
  | 0, _, _, _, _, _, _, _, _ => none
  | m + 1, i9, i10, i11, i12, i13, i14, i15, i16 => cond (decide (i9 < moves7)) ((ev_pulse_line_move n i10 i11 i12 i13 i14 r8).bind fun r17 => chk (in64 (i9 + 1)) <| ev_pulse_line_impulse_l0 n moves7 r8 m (i9 + 1) i10 i11 i12 r17.1 r17.2 i15 i16) (cond r8 ((ev_pulse_line_corrected n i10 i11 i12 i13 i14).bind fun r18 => some (r18.1, r18.2)) (some (i13, i14)))
set_option maxRecDepth 100000 in
set_option maxHeartbeats 2000000 in
theorem ok_pulse_line_impulse_l0 {n : Nat} {w0 : World} {R0 : Nat → Prop} {env0 : Env} {r : Int × Int} {r8 : Bool} {moves7 : Int} : ∀ (m : Nat) (i9 : Int) (i10 : Int) (i11 : Int) (i12 : Int) (i13 : Int) (i14 : Int) (i15 : Int) (i16 : Int), ev_pulse_line_impulse_l0 n moves7 r8 m i9 i10 i11 i12 i13 i14 i15 i16 = some r → TC Try.prog ⟨w0, fun _ => False, R0⟩ 26 (bodyPost Try.prog Try.f218 (Post ⟨w0, fun _ => False, R0⟩ env0 (.agg [.val (.int .i64 r.1), .val (.int .i64 r.2)]) [])) [.code (sub (bodyOf Try.f218) [1, 1, 0, 1, 0, 0, 0]), .code (sub (bodyOf Try.f218) [1, 1, 0, 1, 0, 0, 1]), .inLoop (sub (bodyOf Try.f218) [1, 1, 0, 1, 0, 0]), .inBlock 0, .code (sub (bodyOf Try.f218) [1, 1, 1])] ([(4, .ptr 0 0), (5, .ptr 1 0), (8, .ptr 2 0), (9, .val (.bool r8)), (13, .val (.int .i64 moves7)), (14, .val (.int .i64 i9))]) ([.blk 0 [.val (.int .i64 i10), .val (.int .i64 i11), .val (.int .i64 i12)] 278, .blk 1 [.val (.int .i64 i13), .val (.int .i64 i14)] 285, .blk 2 [.val (.int .i64 i15), .val (.int .i64 i16)] 285]) := by
  intro m
  induction m with
  | zero => intro i9 i10 i11 i12 i13 i14 i15 i16 h; exact none_no h
  | succ m ih =>
    intro i9 i10 i11 i12 i13 i14 i15 i16 h
    rw [ev_pulse_line_impulse_l0] at h
    refine TC.region ?_
    refine op0 (sp_lss rfl rfl rfl) rfl trivial rfl rfl ?_
    refine TL.nil ?_
    refine TC.seq ?_
    refine TC.cond (b := (decide (i9 < moves7))) rfl (fun h2 => ?_) (fun h2 => ?_)
    · have h := cond_t h h2
      refine TC.skip ?_
      refine TC.seq ?_
      refine TC.block ?_
      refine TC.region ?_
      refine op1 0 rfl (sp_loadBA rfl isBlk rfl vt278 rfl rfl) rfl trivial rfl rfl ?_
      refine op1 1 rfl (sp_loadBA rfl isBlk rfl vt285 rfl rfl) rfl trivial rfl rfl ?_
      refine op0 (sp_move rfl rfl) rfl trivial rfl rfl ?_
      obtain ⟨r17, h3, h⟩ := bind_inv h
      refine op0 (sp_call (avs := [.agg [.val (.int .i64 i10), .val (.int .i64 i11), .val (.int .i64 i12)], .agg [.val (.int .i64 i13), .val (.int .i64 i14)], .val (.bool r8)]) (need := []) (v := .agg [.val (.int .i64 r17.1), .val (.int .i64 r17.2)]) (news := []) rfl rfl rfl Try.call301 (atJ [] [] (fc_pulse_line_move h3) rfl rfl) (.inl (roAll rfl))) rfl trivial rfl rfl ?_
      refine stoB 1 (cells' := [.val (.int .i64 r17.1), .val (.int .i64 r17.2)]) rfl rfl trivial rfl rfl rfl rfl vt285 rfl rfl rfl ?_
      refine TL.nil ?_
      refine TC.inBlock ?_
      refine TC.region ?_
      obtain ⟨h4, h⟩ := chk_inv h
      refine op0 (sp_add rfl rfl rfl h4) rfl trivial rfl rfl ?_
      refine op0 (sp_move rfl rfl) rfl trivial rfl rfl ?_
      refine TL.nil ?_
      refine TC.inLoop ?_
      refine TC.seq ?_
      refine subJ [] (ih _ _ _ _ _ _ _ _ h) ?_ ?_ ?_
      · exact ⟨rfl, rfl, rfl, rfl, rfl, rfl, trivial⟩
      · exact ⟨mem_at 0 rfl, mem_at 1 rfl, mem_at 2 rfl, trivial⟩
      · rfl
    · have h := cond_f h h2
      refine TC.exit rfl ?_
      refine TC.seq ?_
      refine TC.seq ?_
      refine TC.region ?_
      refine op0 (sp_move rfl rfl) rfl trivial rfl rfl ?_
      refine TL.nil ?_
      refine TC.cond (b := r8) rfl (fun h5 => ?_) (fun h5 => ?_)
      · have h := cond_t h h5
        refine TC.seq ?_
        refine TC.region ?_
        refine op1 0 rfl (sp_loadBA rfl isBlk rfl vt278 rfl rfl) rfl trivial rfl rfl ?_
        refine op1 1 rfl (sp_loadBA rfl isBlk rfl vt285 rfl rfl) rfl trivial rfl rfl ?_
        obtain ⟨r18, h6, h⟩ := bind_inv h
        refine op0 (sp_call (avs := [.agg [.val (.int .i64 i10), .val (.int .i64 i11), .val (.int .i64 i12)], .agg [.val (.int .i64 i13), .val (.int .i64 i14)]]) (need := []) (v := .agg [.val (.int .i64 r18.1), .val (.int .i64 r18.2)]) (news := []) rfl rfl rfl Try.call302 (atJ [] [] (fc_pulse_line_corrected h6) rfl rfl) (.inl (roAll rfl))) rfl trivial rfl rfl ?_
        refine stoB 2 (cells' := [.val (.int .i64 r18.1), .val (.int .i64 r18.2)]) rfl rfl trivial rfl rfl rfl rfl vt285 rfl rfl rfl ?_
        refine TL.nil ?_
        cases h
        exact retJ [] (.cells rfl (mem_at 2 rfl) isBlk vt285 rfl rfl (.nil)) rfl trivial rfl rfl
      · have h := cond_f h h5
        refine TC.skip ?_
        refine TC.seq ?_
        refine TC.region ?_
        refine op1 1 rfl (sp_loadBA rfl isBlk rfl vt285 rfl rfl) rfl trivial rfl rfl ?_
        refine stoB 2 (cells' := [.val (.int .i64 i13), .val (.int .i64 i14)]) rfl rfl trivial rfl rfl rfl rfl vt285 rfl rfl rfl ?_
        refine TL.nil ?_
        cases h
        exact retJ [] (.cells rfl (mem_at 2 rfl) isBlk vt285 rfl rfl (.nil)) rfl trivial rfl rfl
def ev_pulse_line_impulse (n : Nat) (l1 : Int) (l2 : Int) (l3 : Int) (d4 : Int) (d5 : Int) (minute6 : Int) (moves7 : Int) : Option (Int × Int) :=
  (ev_pulse_line_isLong n l1 l2 l3 minute6).bind fun r8 => ev_pulse_line_impulse_l0 n moves7 r8 n 0 l1 l2 l3 d4 d5 0 0
set_option maxRecDepth 100000 in
set_option maxHeartbeats 2000000 in
theorem fc_pulse_line_impulse {n : Nat} {l1 : Int} {l2 : Int} {l3 : Int} {d4 : Int} {d5 : Int} {minute6 : Int} {moves7 : Int} {r : Int × Int} (h : ev_pulse_line_impulse n l1 l2 l3 d4 d5 minute6 moves7 = some r) : FC Try.prog 218 [.agg [.val (.int .i64 l1), .val (.int .i64 l2), .val (.int .i64 l3)], .agg [.val (.int .i64 d4), .val (.int .i64 d5)], .val (.int .i64 minute6), .val (.int .i64 moves7)] [] (.agg [.val (.int .i64 r.1), .val (.int .i64 r.2)]) [] := by
  refine introJ (nz := 26) Try.func218 rfl rfl rfl (fun w0 R0 env0 => ?_)
  rw [ev_pulse_line_impulse] at h
  refine TC.seq ?_
  refine TC.region ?_
  refine op0 (sp_box 0 rfl rfl rfl rfl rfl) rfl trivial rfl rfl ?_
  refine op0 (sp_box 1 rfl rfl rfl rfl rfl) rfl trivial rfl rfl ?_
  refine op0 (sp_alloc 2 rfl Try.zeroValue285 rfl) rfl trivial rfl rfl ?_
  refine TL.nil ?_
  refine TC.seq ?_
  refine TC.region ?_
  refine op1 2 rfl (sp_loadBA rfl isBlk rfl vt278 rfl rfl) rfl trivial rfl rfl ?_
  refine op0 (sp_move rfl rfl) rfl trivial rfl rfl ?_
  obtain ⟨r8, h1, h⟩ := bind_inv h
  refine op0 (sp_call (avs := [.agg [.val (.int .i64 l1), .val (.int .i64 l2), .val (.int .i64 l3)], .val (.int .i64 minute6)]) (need := []) (v := .val (.bool r8)) (news := []) rfl rfl rfl Try.call216 (atJ [] [] (fc_pulse_line_isLong h1) rfl rfl) (.inl (roAll rfl))) rfl trivial rfl rfl ?_
  refine op0 (sp_assign rfl rfl) rfl trivial rfl rfl ?_
  refine TL.nil ?_
  refine TC.seq ?_
  refine TC.seq ?_
  refine TC.region ?_
  refine op0 (sp_move rfl rfl) rfl trivial rfl rfl ?_
  refine op0 (sp_move rfl rfl) rfl trivial rfl rfl ?_
  refine TL.nil ?_
  refine TC.block ?_
  refine TC.loop ?_
  refine TC.seq ?_
  refine subJ [] (ok_pulse_line_impulse_l0 _ _ _ _ _ _ _ _ _ h) ?_ ?_ ?_
  · exact ⟨rfl, rfl, rfl, rfl, rfl, rfl, trivial⟩
  · exact ⟨mem_at 2 rfl, mem_at 1 rfl, mem_at 0 rfl, trivial⟩
  · rfl
/- pulse_line_follow_1 -/
def ev_pulse_line_follow_1_l0 {σ1 : Type} (yb1 : (Int × Int × Int) → σ1 → Option (Bool × σ1)) (n : Nat) : Nat → Int → Int → Int → Int → Int → Int → Int → (List (Int × Int)) → σ1 → Option (σ1 × Int × Int)
  | 0, _, _, _, _, _, _, _, _, _ => none
  | m + 1, i10, i11, i12, i13, i14, i15, i16, l17, y18 => cond (decide (i10 ≤ i11)) ((ev_p_pulse_faults_moves n l17 i10).bind fun r19 => (ev_pulse_line_impulse n i12 i13 i14 i15 i16 i10 r19.1).bind fun r20 => (yb1 (i10, r20.1, r20.2) y18).bind fun r21 => cond (!r21.1) (some (r21.2, r20.1, r20.2)) (chk (in64 (i10 + 1)) <| ev_pulse_line_follow_1_l0 yb1 n m (i10 + 1) i11 i12 i13 i14 r20.1 r20.2 r19.2 r21.2)) (some (y18, i15, i16))
set_option maxRecDepth 100000 in
set_option maxHeartbeats 2000000 in
theorem ok_pulse_line_follow_1_l0 {σ1 : Type} {yb1 : (Int × Int × Int) → σ1 → Option (Bool × σ1)} {I1 : σ1 → Inv} (hI1 : Yields Try.prog ye_funcint_pulse_dial_bool yn_funcint_pulse_dial_bool yb1 I1) {n : Nat} {w0 : World} {M0 R0 : Nat → Prop} {env0 : Env} {df : List Deferred} {r : σ1 × Int × Int} : ∀ (m : Nat) (i10 : Int) (i11 : Int) (i12 : Int) (i13 : Int) (i14 : Int) (i15 : Int) (i16 : Int) (l17 : List (Int × Int)) (y18 : σ1), ev_pulse_line_follow_1_l0 yb1 n m i10 i11 i12 i13 i14 i15 i16 l17 y18 = some r → TC Try.prog ⟨w0, M0, R0⟩ ⟨28, none, df⟩ (bodyPostM Fence.wide 0 Try.prog Try.f217 (PostT ⟨w0, M0, R0⟩ env0 [0, 6] (.tup []) [.inv 0 (I1 r.1), .blk 6 [.val (.int .i64 r.2.1), .val (.int .i64 r.2.2)] 285])) [.code (sub (bodyOf Try.f217) [1, 1, 0, 0, 0, 0]), .code (sub (bodyOf Try.f217) [1, 1, 0, 0, 0, 1]), .code (sub (bodyOf Try.f217) [1, 1, 0, 0, 1]), .inLoop (sub (bodyOf Try.f217) [1, 1, 0, 0]), .inBlock 0] ([(0, .ref 0), (3, .ptr 4 0), (4, .ptr 5 0), (5, .ptr 6 0), (7, .ptr 10 0), (8, .val (.int .i64 i10))]) ([.rob 4 [.val (.int .i64 i11)] 3, .rob 5 [.val (.int .i64 i12), .val (.int .i64 i13), .val (.int .i64 i14)] 278, .blk 6 [.val (.int .i64 i15), .val (.int .i64 i16)] 285, .blk 10 [.ref 2] 407, .ro 2 2 (List.map en_api_PulseFault l17), .inv 7 (marksI df), .pin 8 0 (env0 0), .pin 9 6 (env0 6), .inv 0 (I1 y18)]) := by
  intro m
  induction m with
  | zero => intro i10 i11 i12 i13 i14 i15 i16 l17 y18 h; exact none_no h
  | succ m ih =>
    intro i10 i11 i12 i13 i14 i15 i16 l17 y18 h
    rw [ev_pulse_line_follow_1_l0] at h
    refine TC.region ?_
    refine op0 (sp_move rfl rfl) rfl trivial rfl rfl ?_
    refine op1 0 rfl (sp_loadB rfl isRob rfl vt3 rfl) rfl trivial rfl rfl ?_
    refine op0 (sp_leq rfl rfl rfl) rfl trivial rfl rfl ?_
    refine TL.nil ?_
    refine TC.cond (b := (decide (i10 ≤ i11))) rfl (fun h2 => ?_) (fun h2 => ?_)
    · have h := cond_t h h2
      refine TC.skip ?_
      refine TC.seq ?_
      refine TC.block ?_
      refine TC.seq ?_
      obtain ⟨r19, h3, h⟩ := bind_inv h
      refine drawJ 5 [⟨.agg [.val (.int .i64 i12), .val (.int .i64 i13), .val (.int .i64 i14)], [], [.rob 5 [.val (.int .i64 i12), .val (.int .i64 i13), .val (.int .i64 i14)] 278], []⟩, ⟨.agg [.val (.int .i64 i15), .val (.int .i64 i16)], [], [.blk 6 [.val (.int .i64 i15), .val (.int .i64 i16)] 285], []⟩, ⟨.val (.int .i64 i10), [], [], []⟩, ⟨.val (.int .i64 i10), [], [], []⟩, ⟨.val (.int .i64 r19.1), [.ro 11 2 (List.map en_api_PulseFault r19.2), .blk 10 [.ref 11] 407], [.ro 2 2 (List.map en_api_PulseFault l17)], [.blk 10 [.ref 2] 407]⟩] rfl ?_ rfl ?_ rfl ?_ ?_
      · kernel_rfl
      · kernel_rfl
      · exact DAll.op' (sp_loadBA rfl isRob rfl vt278 rfl rfl) trivial rfl (From.ok (ps := [(none, 1)]) ⟨⟨rfl, by kernel_rfl⟩, trivial⟩) (DAll.op' (sp_loadBA rfl isBlk rfl vt285 rfl rfl) trivial rfl (From.ok (ps := [(none, 2)]) ⟨⟨rfl, by kernel_rfl⟩, trivial⟩) (DAll.op' (sp_move rfl rfl) trivial rfl (From.ok (ps := []) trivial) (DAll.op' (sp_move rfl rfl) trivial rfl (From.ok (ps := []) trivial) (DAll.opT (ts_call (avs := [.ptr 10 0, .val (.int .i64 i10)]) (take := [.blk 10 [.ref 2] 407]) (need := [.ro 2 2 (List.map en_api_PulseFault l17)]) (v := .val (.int .i64 r19.1)) (news := [.ro 11 2 (List.map en_api_PulseFault r19.2), .blk 10 [.ref 11] 407]) rfl rfl rfl Try.call219 (atT [(0, 10), (1, 2)] [(500, 11), (0, 10)] (ft_p_pulse_faults_moves h3) rfl rfl rfl) rfl rfl) trivial (From.ok (ps := [(none, 3)]) ⟨⟨rfl, by kernel_rfl⟩, trivial⟩) (From.ok (ps := [(none, 4)]) ⟨⟨rfl, by kernel_rfl⟩, trivial⟩) (.nil)))))
      obtain ⟨r20, h4, h⟩ := bind_inv h
      refine op0 (sp_call (avs := [.agg [.val (.int .i64 i12), .val (.int .i64 i13), .val (.int .i64 i14)], .agg [.val (.int .i64 i15), .val (.int .i64 i16)], .val (.int .i64 i10), .val (.int .i64 r19.1)]) (need := []) (v := .agg [.val (.int .i64 r20.1), .val (.int .i64 r20.2)]) (news := []) rfl rfl rfl Try.call218 (atJ [] [] (fc_pulse_line_impulse h4) rfl rfl) (.inl (roAll rfl))) rfl trivial rfl rfl ?_
      refine stoB 4 (cells' := [.val (.int .i64 r20.1), .val (.int .i64 r20.2)]) rfl rfl trivial rfl rfl rfl rfl vt285 rfl rfl rfl ?_
      refine TL.nil ?_
      refine TC.seq ?_
      refine TC.region ?_
      refine op0 (sp_move rfl rfl) rfl trivial rfl rfl ?_
      refine op0 (sp_move rfl rfl) rfl trivial rfl rfl ?_
      refine op1 4 rfl (sp_loadBA rfl isBlk rfl vt285 rfl rfl) rfl trivial rfl rfl ?_
      obtain ⟨r21, h5, h⟩ := bind_inv h
      refine opT (take := [.inv 0 (I1 y18)]) (need := []) (V' := [.inv 0 (I1 r21.2), .ro 11 2 (List.map en_api_PulseFault r19.2), .blk 10 [.ref 11] 407, .rob 4 [.val (.int .i64 i11)] 3, .rob 5 [.val (.int .i64 i12), .val (.int .i64 i13), .val (.int .i64 i14)] 278, .blk 6 [.val (.int .i64 r20.1), .val (.int .i64 r20.2)] 285, .ro 2 2 (List.map en_api_PulseFault l17), .inv 7 (marksI df), .pin 8 0 (env0 0), .pin 9 6 (env0 6)]) [9] [] (ts_yield hI1 (x := (i10, r20.1, r20.2)) (b := r21.1) (avs := [.val (.int .i64 i10), .agg [.val (.int .i64 r20.1), .val (.int .i64 r20.2)]]) (need := []) [] h5 rfl rfl rfl rfl rfl rfl) trivial rfl ⟨rfl, trivial⟩ trivial rfl rfl ?_
      refine op0 (sp_not rfl rfl) rfl trivial rfl rfl ?_
      refine TL.nil ?_
      refine TC.cond (b := (!r21.1)) rfl (fun h6 => ?_) (fun h6 => ?_)
      · have h := cond_t h h6
        cases h
        exact retM [] 7 7 [0, 6] rfl (.nil) rfl ⟨mem_at 0 rfl, mem_at 5 rfl, trivial⟩ rfl rfl ⟨⟨_, mem_at 7 rfl⟩, ⟨_, mem_at 8 rfl⟩, trivial⟩ rfl
      · have h := cond_f h h6
        refine TC.skip ?_
        refine TC.inBlock ?_
        refine TC.region ?_
        refine op0 (sp_move rfl rfl) rfl trivial rfl rfl ?_
        obtain ⟨h7, h⟩ := chk_inv h
        refine op0 (sp_add rfl rfl rfl h7) rfl trivial rfl rfl ?_
        refine op0 (sp_assign rfl rfl) rfl trivial rfl rfl ?_
        refine TL.nil ?_
        refine TC.inLoop ?_
        refine TC.seq ?_
        refine TC.seq ?_
        refine subJ [(2, 11)] (ih _ _ _ _ _ _ _ _ _ h) ?_ ?_ ?_
        · exact ⟨rfl, rfl, rfl, rfl, rfl, rfl, trivial⟩
        · exact ⟨mem_at 3 rfl, mem_at 4 rfl, mem_at 5 rfl, mem_at 2 rfl, mem_at 1 rfl, mem_at 7 rfl, mem_at 8 rfl, mem_at 9 rfl, mem_at 0 rfl, trivial⟩
        · rfl
    · have h := cond_f h h2
      refine TC.exit rfl ?_
      cases h
      exact endM [] 5 7 [0, 6] rfl (.nil) rfl ⟨mem_at 7 rfl, mem_at 2 rfl, trivial⟩ rfl rfl ⟨⟨_, mem_at 5 rfl⟩, ⟨_, mem_at 6 rfl⟩, trivial⟩ rfl
def ev_pulse_line_follow_1 {σ1 : Type} (yb1 : (Int × Int × Int) → σ1 → Option (Bool × σ1)) (n : Nat) (y1 : σ1) (c2 : List (Int × Int)) (c3 : Int) (c4 : Int) (c5 : Int) (c6 : Int) (c7 : Int) (c8 : Int) (c9 : Int) : Option (σ1 × Int × Int) :=
  chk (in64 (c3 + 1)) <| ev_pulse_line_follow_1_l0 yb1 n n (c3 + 1) c4 c5 c6 c7 c8 c9 c2 y1
set_option maxRecDepth 100000 in
set_option maxHeartbeats 2000000 in
theorem ft_pulse_line_follow_1 {σ1 : Type} {yb1 : (Int × Int × Int) → σ1 → Option (Bool × σ1)} {I1 : σ1 → Inv} (hI1 : Yields Try.prog ye_funcint_pulse_dial_bool yn_funcint_pulse_dial_bool yb1 I1) {n : Nat} {y1 : σ1} {c2 : List (Int × Int)} {c3 : Int} {c4 : Int} {c5 : Int} {c6 : Int} {c7 : Int} {c8 : Int} {c9 : Int} {r : σ1 × Int × Int} (h : ev_pulse_line_follow_1 yb1 n y1 c2 c3 c4 c5 c6 c7 c8 c9 = some r) : FT Try.prog 217 [.ref 0, .ptr 1 0, .ptr 3 0, .ptr 4 0, .ptr 5 0, .ptr 6 0] [.inv 0 (I1 y1), .blk 6 [.val (.int .i64 c8), .val (.int .i64 c9)] 285] [.rob 1 [.ref 2] 407, .ro 2 2 (List.map en_api_PulseFault c2), .rob 3 [.val (.int .i64 c3)] 3, .rob 4 [.val (.int .i64 c4)] 3, .rob 5 [.val (.int .i64 c5), .val (.int .i64 c6), .val (.int .i64 c7)] 278] (.tup []) [.inv 0 (I1 r.1), .blk 6 [.val (.int .i64 r.2.1), .val (.int .i64 r.2.2)] 285] := by
  refine introM (nz := 28) 7 [(8, 0), (9, 6)] Try.func217 rfl rfl rfl rfl (fun w0 M0 R0 env0 => ?_)
  rw [ev_pulse_line_follow_1] at h
  refine TC.seq ?_
  refine TC.region ?_
  refine op1 5 rfl (sp_loadB rfl isRob rfl vt407 rfl) rfl trivial rfl rfl ?_
  refine op0 (sp_alloc 10 rfl Try.zeroValue407 rfl) rfl trivial rfl rfl ?_
  refine stoB 0 (cells' := [.ref 2]) rfl rfl trivial rfl rfl rfl rfl vt407 rfl rfl rfl ?_
  refine TL.nil ?_
  refine TC.seq ?_
  refine TC.region ?_
  refine op1 8 rfl (sp_loadB rfl isRob rfl vt3 rfl) rfl trivial rfl rfl ?_
  obtain ⟨h1, h⟩ := chk_inv h
  refine op0 (sp_add rfl rfl rfl h1) rfl trivial rfl rfl ?_
  refine op0 (sp_assign rfl rfl) rfl trivial rfl rfl ?_
  refine TL.nil ?_
  refine TC.block ?_
  refine TC.loop ?_
  refine TC.seq ?_
  refine TC.seq ?_
  refine subJ [] (ok_pulse_line_follow_1_l0 hI1 _ _ _ _ _ _ _ _ _ _ h) ?_ ?_ ?_
  · exact ⟨rfl, rfl, rfl, rfl, rfl, rfl, trivial⟩
  · exact ⟨mem_at 9 rfl, mem_at 10 rfl, mem_at 5 rfl, mem_at 0 rfl, mem_at 7 rfl, mem_at 1 rfl, mem_at 2 rfl, mem_at 3 rfl, mem_at 4 rfl, trivial⟩
  · rfl
/- pulse_Run -/
def ev_pulse_Run_r0 (n : Nat) (x16 : Int × Int × Int) (y17 : Int) : Option (Nat × Int) :=
  some (0, x16.2.1)
set_option maxRecDepth 100000 in
set_option maxHeartbeats 2000000 in
theorem ok_pulse_Run_r0 {n : Nat} {u15 : Value} {x16 : Int × Int × Int} {y17 : Int} {r : Nat × Int} (h : ev_pulse_Run_r0 n x16 y17 = some r) (l0 : Nat) (rec : Loop) (hrd : rec.state = .ready) (w0 : World) (M0 R0 : Nat → Prop) : TC Try.prog ⟨w0, M0, R0⟩ ⟨64, some l0, []⟩ (RoundQ ⟨w0, M0, R0⟩ (.inv 14 (recI l0 (busyR rec)) :: [.pin 13 3 u15, .blk 3 [.val (.int .i64 r.2)] 3]) [] r.1) [.code (sub (bodyOf Try.f51) [1, 1, 1, 1, 0, 1, 0, 0]), .beginRound, .code (sub (bodyOf Try.f51) [1, 1, 1, 1, 0, 1, 0, 1])] (pSlots [59, 60] (ye_funcint_pulse_dial_bool x16) [(6, .ptr 3 0)]) (.inv 14 (recI l0 rec) :: yn_funcint_pulse_dial_bool x16 ++ (fun y17 : Int => [.pin 13 3 u15, .blk 3 [.val (.int .i64 y17)] 3]) y17) := by
  rw [ev_pulse_Run_r0] at h
  refine subJ (s' := [(6, .ptr 3 0), (59, .val (.int .i64 x16.1)), (60, .agg [.val (.int .i64 x16.2.1), .val (.int .i64 x16.2.2)])]) (V' := [.inv 14 (recI l0 rec), .pin 13 3 u15, .blk 3 [.val (.int .i64 y17)] 3]) [] ?_ ⟨rfl, rfl, rfl, trivial⟩ ⟨mem_at 0 rfl, mem_at 1 rfl, mem_at 2 rfl, trivial⟩ rfl
  refine TC.region ?_
  refine op0 (sp_alloc 15 rfl Try.zeroValue285 rfl) rfl trivial rfl rfl ?_
  refine stoB 0 (cells' := [.val (.int .i64 x16.2.1), .val (.int .i64 x16.2.2)]) rfl rfl trivial rfl rfl rfl rfl vt285 rfl rfl rfl ?_
  refine TL.nil ?_
  refine TC.beginRound 1 rfl hrd ?_
  refine TC.block ?_
  refine TC.region ?_
  refine op1 0 rfl (sp_fieldAddrB rfl isBlk rfl ft285_0 vt3 (by decide)) rfl trivial rfl rfl ?_
  refine op1 0 rfl (sp_loadB rfl isBlk rfl vt3 rfl) rfl trivial rfl rfl ?_
  refine stoB 3 (cells' := [.val (.int .i64 x16.2.1)]) rfl rfl trivial rfl rfl rfl rfl vt3 rfl rfl rfl ?_
  refine TL.nil ?_
  refine TC.inBlock ?_
  cases h
  exact bodyEnd [] ⟨mem_at 1 rfl, mem_at 2 rfl, mem_at 3 rfl, trivial⟩ rfl
def ev_pulse_Run (n : Nat) (p1 : Int) (p2 : Int) (p3 : Int) (shown4 : Int) (from_5 : Int) (list6 : List (Int × Int)) (until7 : Int) : Option (Int × Int) :=
  (ev_pulse_open n p1 p2 p3).bind fun r8 => cond (r8.2.2.2 != 0) (some (0, r8.2.2.2)) ((ev_pulse_isMinute n from_5).bind fun r9 => cond (!r9) (some (0, 3)) ((ev_pulse_isShown n shown4).bind fun r10 => cond (!r10) (some (0, 2)) (chk (in64 (from_5 + 5000)) <| (ev_pulse_within n from_5 (from_5 + 5000) ([until7] : List Int)).bind fun r11 => cond (!r11) (some (0, 3)) ((ev_pulse_line_check n r8.1 r8.2.1 r8.2.2.1 list6 from_5 until7).bind fun r12 => cond (r12 != 0) (some (0, r12)) ((ev_pulse_line_start n r8.1 r8.2.1 r8.2.2.1 shown4 from_5).bind fun r13 => (ev_pulse_line_follow n r8.1 r8.2.1 r8.2.2.1 r13.1 r13.2 from_5 list6 until7).bind fun r14 => (ev_pulse_line_follow_1 (loopStep (ev_pulse_Run_r0 n)) n (shown4, 0) r14.1 r14.2.1 r14.2.2.1 r14.2.2.2.1 r14.2.2.2.2.1 r14.2.2.2.2.2.1 r14.2.2.2.2.2.2.1 r14.2.2.2.2.2.2.2).bind fun q18 => cond (q18.1.2 == 0) (some (q18.1.1, 0)) (none))))))
set_option maxRecDepth 100000 in
set_option maxHeartbeats 2000000 in
theorem ft_pulse_Run {n : Nat} {p1 : Int} {p2 : Int} {p3 : Int} {shown4 : Int} {from_5 : Int} {list6 : List (Int × Int)} {until7 : Int} {r : Int × Int} (h : ev_pulse_Run n p1 p2 p3 shown4 from_5 list6 until7 = some r) : FT Try.prog 51 [.agg [.val (.int .i64 p1), .val (.int .i64 p2), .val (.int .i64 p3)], .val (.int .i64 shown4), .val (.int .i64 from_5), .ref 0, .val (.int .i64 until7)] [] [.ro 0 2 (List.map en_api_PulseFault list6)] (.tup [.val (.int .i64 r.1), .val (.int .i64 r.2)]) [] := by
  refine introM (nz := 64) 1 [] Try.func51 rfl rfl rfl rfl (fun w0 M0 R0 env0 => ?_)
  rw [ev_pulse_Run] at h
  refine TC.seq ?_
  refine TC.region ?_
  refine op0 (sp_box 2 rfl rfl rfl rfl rfl) rfl trivial rfl rfl ?_
  refine op0 (sp_box 3 rfl rfl rfl rfl rfl) rfl trivial rfl rfl ?_
  refine op0 (sp_assign rfl rfl) rfl trivial rfl rfl ?_
  refine op0 (sp_assign rfl rfl) rfl trivial rfl rfl ?_
  refine TL.nil ?_
  refine TC.seq ?_
  refine TC.region ?_
  refine op1 1 rfl (sp_loadBA rfl isBlk rfl vt148 rfl rfl) rfl trivial rfl rfl ?_
  obtain ⟨r8, h1, h⟩ := bind_inv h
  refine op0 (sp_call (avs := [.agg [.val (.int .i64 p1), .val (.int .i64 p2), .val (.int .i64 p3)]]) (need := []) (v := .tup [.agg [.val (.int .i64 r8.1), .val (.int .i64 r8.2.1), .val (.int .i64 r8.2.2.1)], .val (.int .i64 r8.2.2.2)]) (news := []) rfl rfl rfl Try.call110 (atJ [] [] (fc_pulse_open h1) rfl rfl) (.inl (roAll rfl))) rfl trivial rfl rfl ?_
  refine op0 (sp_move rfl rfl) rfl trivial rfl rfl ?_
  refine op0 (sp_extract rfl rfl rfl) rfl trivial rfl rfl ?_
  refine op0 (sp_extract rfl rfl rfl) rfl trivial rfl rfl ?_
  refine op0 (sp_alloc 4 rfl Try.zeroValue278 rfl) rfl trivial rfl rfl ?_
  refine stoB 0 (cells' := [.val (.int .i64 r8.1), .val (.int .i64 r8.2.1), .val (.int .i64 r8.2.2.1)]) rfl rfl trivial rfl rfl rfl rfl vt278 rfl rfl rfl ?_
  refine op0 (sp_assign rfl rfl) rfl trivial rfl rfl ?_
  refine TL.nil ?_
  refine TC.seq ?_
  refine TC.block ?_
  refine TC.seq ?_
  refine TC.region ?_
  refine op0 (sp_move rfl rfl) rfl trivial rfl rfl ?_
  refine op0 (sp_neq rfl rfl rfl) rfl trivial rfl rfl ?_
  refine op0 (sp_assign rfl rfl) rfl trivial rfl rfl ?_
  refine TL.nil ?_
  refine TC.cond (b := (r8.2.2.2 != 0)) rfl (fun h2 => ?_) (fun h2 => ?_)
  · have h := cond_t h h2
    refine TC.seq ?_
    refine TC.region ?_
    refine op0 (sp_move rfl rfl) rfl trivial rfl rfl ?_
    refine op0 (sp_assign rfl rfl) rfl trivial rfl rfl ?_
    refine op0 (sp_assign rfl rfl) rfl trivial rfl rfl ?_
    refine TL.nil ?_
    cases h
    exact retM [] 3 1 [] rfl (.tmp rfl (.tmp rfl .nil)) rfl trivial rfl rfl trivial rfl
  · have h := cond_f h h2
    refine TC.seq ?_
    refine TC.region ?_
    refine op0 (sp_move rfl rfl) rfl trivial rfl rfl ?_
    obtain ⟨r9, h3, h⟩ := bind_inv h
    refine op0 (sp_call (avs := [.val (.int .i64 from_5)]) (need := []) (v := .val (.bool r9)) (news := []) rfl rfl rfl Try.call111 (atJ [] [] (fc_pulse_isMinute h3) rfl rfl) (.inl (roAll rfl))) rfl trivial rfl rfl ?_
    refine op0 (sp_not rfl rfl) rfl trivial rfl rfl ?_
    refine op0 (sp_assign rfl rfl) rfl trivial rfl rfl ?_
    refine TL.nil ?_
    refine TC.cond (b := (!r9)) rfl (fun h4 => ?_) (fun h4 => ?_)
    · have h := cond_t h h4
      refine TC.seq ?_
      refine TC.region ?_
      refine op0 (sp_assign rfl rfl) rfl trivial rfl rfl ?_
      refine op0 (sp_assign rfl rfl) rfl trivial rfl rfl ?_
      refine TL.nil ?_
      cases h
      exact retM [] 3 1 [] rfl (.tmp rfl (.tmp rfl .nil)) rfl trivial rfl rfl trivial rfl
    · have h := cond_f h h4
      refine TC.seq ?_
      refine TC.region ?_
      refine op1 1 rfl (sp_loadB rfl isBlk rfl vt3 rfl) rfl trivial rfl rfl ?_
      obtain ⟨r10, h5, h⟩ := bind_inv h
      refine op0 (sp_call (avs := [.val (.int .i64 shown4)]) (need := []) (v := .val (.bool r10)) (news := []) rfl rfl rfl Try.call112 (atJ [] [] (fc_pulse_isShown h5) rfl rfl) (.inl (roAll rfl))) rfl trivial rfl rfl ?_
      refine op0 (sp_not rfl rfl) rfl trivial rfl rfl ?_
      refine op0 (sp_assign rfl rfl) rfl trivial rfl rfl ?_
      refine TL.nil ?_
      refine TC.cond (b := (!r10)) rfl (fun h6 => ?_) (fun h6 => ?_)
      · have h := cond_t h h6
        refine TC.seq ?_
        refine TC.region ?_
        refine op0 (sp_assign rfl rfl) rfl trivial rfl rfl ?_
        refine op0 (sp_assign rfl rfl) rfl trivial rfl rfl ?_
        refine TL.nil ?_
        cases h
        exact retM [] 3 1 [] rfl (.tmp rfl (.tmp rfl .nil)) rfl trivial rfl rfl trivial rfl
      · have h := cond_f h h6
        refine TC.seq ?_
        refine TC.region ?_
        refine op0 (sp_move rfl rfl) rfl trivial rfl rfl ?_
        refine op0 (sp_move rfl rfl) rfl trivial rfl rfl ?_
        obtain ⟨h7, h⟩ := chk_inv h
        refine op0 (sp_add rfl rfl rfl h7) rfl trivial rfl rfl ?_
        refine op0 (sp_move rfl rfl) rfl trivial rfl rfl ?_
        refine op0 (sp_buildSlice (qs := [.val (.int .i64 until7)]) (need := []) (els := List.map en_int ([until7] : List Int)) 5 rfl sl50 (by decide) (by decide) rfl rfl rfl (.v (.nil)) (map_len fun _ => rfl) rfl rfl rfl) rfl trivial rfl rfl ?_
        obtain ⟨r11, h8, h⟩ := bind_inv h
        refine op1 0 rfl (sp_call (avs := [.val (.int .i64 from_5), .val (.int .i64 (from_5 + 5000)), .ref 5]) (need := [.row 5 3 1 (List.map en_int ([until7] : List Int))]) (v := .val (.bool r11)) (news := []) rfl rfl rfl Try.call113 (atJ [(0, 5)] [] (fc_pulse_within h8) rfl rfl) (.inr (fun x hx => nomatch hx))) rfl trivial rfl rfl ?_
        refine op0 (sp_not rfl rfl) rfl trivial rfl rfl ?_
        refine op0 (sp_assign rfl rfl) rfl trivial rfl rfl ?_
        refine TL.nil ?_
        refine TC.cond (b := (!r11)) rfl (fun h9 => ?_) (fun h9 => ?_)
        · have h := cond_t h h9
          refine TC.seq ?_
          refine TC.region ?_
          refine op0 (sp_assign rfl rfl) rfl trivial rfl rfl ?_
          refine op0 (sp_assign rfl rfl) rfl trivial rfl rfl ?_
          refine TL.nil ?_
          cases h
          exact retM [] 4 1 [] rfl (.tmp rfl (.tmp rfl .nil)) rfl trivial rfl rfl trivial rfl
        · have h := cond_f h h9
          refine TC.skip ?_
          refine TC.inBlock ?_
          refine TC.seq ?_
          refine TC.seq ?_
          refine TC.region ?_
          refine op1 1 rfl (sp_loadBA rfl isBlk rfl vt278 rfl rfl) rfl trivial rfl rfl ?_
          refine op0 (sp_move rfl rfl) rfl trivial rfl rfl ?_
          refine op0 (sp_move rfl rfl) rfl trivial rfl rfl ?_
          refine op0 (sp_move rfl rfl) rfl trivial rfl rfl ?_
          obtain ⟨r12, h10, h⟩ := bind_inv h
          refine op1 5 rfl (sp_call (avs := [.agg [.val (.int .i64 r8.1), .val (.int .i64 r8.2.1), .val (.int .i64 r8.2.2.1)], .ref 0, .val (.int .i64 from_5), .val (.int .i64 until7)]) (need := [.ro 0 2 (List.map en_api_PulseFault list6)]) (v := .val (.int .i64 r12)) (news := []) rfl rfl rfl Try.call114 (atJ [] [] (fc_pulse_line_check h10) rfl rfl) (.inl (roAll rfl))) rfl trivial rfl rfl ?_
          refine op0 (sp_assign rfl rfl) rfl trivial rfl rfl ?_
          refine TL.nil ?_
          refine TC.seq ?_
          refine TC.region ?_
          refine op0 (sp_move rfl rfl) rfl trivial rfl rfl ?_
          refine op0 (sp_neq rfl rfl rfl) rfl trivial rfl rfl ?_
          refine TL.nil ?_
          refine TC.cond (b := (r12 != 0)) rfl (fun h11 => ?_) (fun h11 => ?_)
          · have h := cond_t h h11
            refine TC.seq ?_
            refine TC.region ?_
            refine op0 (sp_move rfl rfl) rfl trivial rfl rfl ?_
            refine op0 (sp_assign rfl rfl) rfl trivial rfl rfl ?_
            refine op0 (sp_assign rfl rfl) rfl trivial rfl rfl ?_
            refine TL.nil ?_
            cases h
            exact retM [] 4 1 [] rfl (.tmp rfl (.tmp rfl .nil)) rfl trivial rfl rfl trivial rfl
          · have h := cond_f h h11
            refine TC.skip ?_
            refine TC.seq ?_
            refine TC.seq ?_
            obtain ⟨r13, h12, h⟩ := bind_inv h
            refine drawJ 8 [⟨.agg [.val (.int .i64 r8.1), .val (.int .i64 r8.2.1), .val (.int .i64 r8.2.2.1)], [], [.blk 4 [.val (.int .i64 r8.1), .val (.int .i64 r8.2.1), .val (.int .i64 r8.2.2.1)] 278], []⟩, ⟨.agg [.val (.int .i64 r8.1), .val (.int .i64 r8.2.1), .val (.int .i64 r8.2.2.1)], [], [.blk 4 [.val (.int .i64 r8.1), .val (.int .i64 r8.2.1), .val (.int .i64 r8.2.2.1)] 278], []⟩, ⟨.val (.int .i64 shown4), [], [.blk 3 [.val (.int .i64 shown4)] 3], []⟩, ⟨.val (.int .i64 from_5), [], [], []⟩, ⟨.agg [.val (.int .i64 r13.1), .val (.int .i64 r13.2)], [], [], []⟩, ⟨.val (.int .i64 from_5), [], [], []⟩, ⟨.ref 0, [], [], []⟩, ⟨.val (.int .i64 until7), [], [], []⟩] rfl ?_ rfl ?_ rfl ?_ ?_
            · kernel_rfl
            · kernel_rfl
            · exact DAll.op' (sp_loadBA rfl isBlk rfl vt278 rfl rfl) trivial rfl (From.ok (ps := [(none, 1)]) ⟨⟨rfl, rfl⟩, trivial⟩) (DAll.op' (sp_loadBA rfl isBlk rfl vt278 rfl rfl) trivial rfl (From.ok (ps := [(none, 1)]) ⟨⟨rfl, rfl⟩, trivial⟩) (DAll.op' (sp_loadB rfl isBlk rfl vt3 rfl) trivial rfl (From.ok (ps := [(none, 2)]) ⟨⟨rfl, rfl⟩, trivial⟩) (DAll.op' (sp_move rfl rfl) trivial rfl (From.ok (ps := []) trivial) (DAll.op' (sp_call (avs := [.agg [.val (.int .i64 r8.1), .val (.int .i64 r8.2.1), .val (.int .i64 r8.2.2.1)], .val (.int .i64 shown4), .val (.int .i64 from_5)]) (need := []) (v := .agg [.val (.int .i64 r13.1), .val (.int .i64 r13.2)]) (news := []) rfl rfl rfl Try.call116 (atJ [] [] (fc_pulse_line_start h12) rfl rfl) (.inl (roAll rfl))) trivial rfl (From.ok (ps := []) trivial) (DAll.op' (sp_move rfl rfl) trivial rfl (From.ok (ps := []) trivial) (DAll.op' (sp_move rfl rfl) trivial rfl (From.ok (ps := []) trivial) (DAll.op' (sp_move rfl rfl) trivial rfl (From.ok (ps := []) trivial) (.nil))))))))
            obtain ⟨r14, h13, h⟩ := bind_inv h
            refine op1 5 rfl (sp_call (avs := [.agg [.val (.int .i64 r8.1), .val (.int .i64 r8.2.1), .val (.int .i64 r8.2.2.1)], .agg [.val (.int .i64 r13.1), .val (.int .i64 r13.2)], .val (.int .i64 from_5), .ref 0, .val (.int .i64 until7)]) (need := [.ro 0 2 (List.map en_api_PulseFault list6)]) (v := .fn 217 [] [.ptr 6 0, .ptr 8 0, .ptr 9 0, .ptr 10 0, .ptr 11 0]) (news := [.blk 6 [.ref 7] 407, .ro 7 2 (List.map en_api_PulseFault r14.1), .blk 8 [.val (.int .i64 r14.2.1)] 3, .blk 9 [.val (.int .i64 r14.2.2.1)] 3, .blk 10 [.val (.int .i64 r14.2.2.2.1), .val (.int .i64 r14.2.2.2.2.1), .val (.int .i64 r14.2.2.2.2.2.1)] 278, .blk 11 [.val (.int .i64 r14.2.2.2.2.2.2.1), .val (.int .i64 r14.2.2.2.2.2.2.2)] 285]) rfl rfl rfl Try.call115 (atJ [] [(0, 6), (1, 7), (2, 8), (3, 9), (4, 10), (5, 11)] (fc_pulse_line_follow h13) rfl rfl) (.inl (roAll rfl))) rfl trivial rfl rfl ?_
            refine TL.nil ?_
            refine TC.block ?_
            refine TC.freeze 0 rfl ?_
            refine TC.freeze 2 rfl ?_
            refine TC.freeze 3 rfl ?_
            refine TC.freeze 4 rfl ?_
            refine TC.pin 13 3 rfl rfl fun u15 => ?_
            obtain ⟨q18, h14, h⟩ := bind_inv h
            refine rangeO (T := [.blk 11 [.val (.int .i64 r14.2.2.2.2.2.2.1), .val (.int .i64 r14.2.2.2.2.2.2.2)] 285]) (T' := [.blk 11 [.val (.int .i64 q18.2.1), .val (.int .i64 q18.2.2)] 285]) (k := 12) (gm := 1) (grec := 14) (S := [(6, .ptr 3 0)]) (V0 := (fun y17 : Int => [.pin 13 3 u15, .blk 3 [.val (.int .i64 y17)] 3])) (needI := [.rob 6 [.ref 7] 407, .ro 7 2 (List.map en_api_PulseFault r14.1), .rob 8 [.val (.int .i64 r14.2.1)] 3, .rob 9 [.val (.int .i64 r14.2.2.1)] 3, .rob 10 [.val (.int .i64 r14.2.2.2.1), .val (.int .i64 r14.2.2.2.2.1), .val (.int .i64 r14.2.2.2.2.2.1)] 278]) (ps := [59, 60]) (jl := []) (ea := ye_funcint_pulse_dial_bool) (en := yn_funcint_pulse_dial_bool) (f := (ev_pulse_Run_r0 n)) (s0 := (shown4, 0)) (yf := q18.1) (v := .tup []) (fi := []) (caps := [.ptr 6 0, .ptr 8 0, .ptr 9 0, .ptr 10 0, .ptr 11 0])
              ⟨fun x y r hr l rec hrd w0 M0 R0 => ok_pulse_Run_r0 (u15 := u15) hr l rec hrd w0 M0 R0, ⟨rfl, trivial⟩, At.mem (is := [0, 9]) ⟨rfl, rfl, trivial⟩, At.mem (is := [1, 2, 3, 4, 5]) ⟨rfl, rfl, rfl, rfl, rfl, trivial⟩, rfl, pinsIn [3] [0] ⟨⟨_, _, fun _ => rfl⟩, trivial⟩ rfl, rfl, fun _ => rfl, fun _ _ => rfl, fun _ => rfl, fun _ _ => rfl, fun _ => rfl, fun _ => rfl, fun _ => rfl, rfl, rfl, fun _ => rfl, rfl⟩
              rfl rfl Try.call217 ⟨At.mem (is := [6]) ⟨rfl, trivial⟩, rfl, rfl, rfl⟩ 11 rfl (fun I hI => atT [(0, 12), (1, 6), (2, 7), (3, 8), (4, 9), (5, 10), (6, 11)] [(0, 12), (6, 11)] (ft_pulse_line_follow_1 hI h14) rfl rfl rfl) (fun d => ?_)
            rcases cond_cases h with ⟨h15, h⟩ | ⟨h15, h⟩
            · refine done0 h15 ?_
              refine TC.inBlock ?_
              refine TC.seq ?_
              refine TC.region ?_
              refine op1 2 rfl (sp_loadB rfl isBlk rfl vt3 rfl) rfl trivial rfl rfl ?_
              refine op0 (sp_assign rfl rfl) rfl trivial rfl rfl ?_
              refine op0 (sp_assign rfl rfl) rfl trivial rfl rfl ?_
              refine TL.nil ?_
              cases h
              exact retM [] 0 1 [] rfl (.tmp rfl (.tmp rfl .nil)) rfl trivial rfl rfl trivial rfl
            · exact none_no h
theorem fc_pulse_Run {n : Nat} {p1 : Int} {p2 : Int} {p3 : Int} {shown4 : Int} {from_5 : Int} {list6 : List (Int × Int)} {until7 : Int} {r : Int × Int} (h : ev_pulse_Run n p1 p2 p3 shown4 from_5 list6 until7 = some r) : FC Try.prog 51 [.agg [.val (.int .i64 p1), .val (.int .i64 p2), .val (.int .i64 p3)], .val (.int .i64 shown4), .val (.int .i64 from_5), .ref 0, .val (.int .i64 until7)] [.ro 0 2 (List.map en_api_PulseFault list6)] (.tup [.val (.int .i64 r.1), .val (.int .i64 r.2)]) [] := (ft_pulse_Run h).toFC rfl
/- pulse_dial_isRight -/
def ev_pulse_dial_isRight (n : Nat) (d1 : Int) (d2 : Int) (minute3 : Int) : Option Bool :=
  some (d1 == (Int.tmod minute3 720))
set_option maxRecDepth 100000 in
set_option maxHeartbeats 2000000 in
theorem fc_pulse_dial_isRight {n : Nat} {d1 : Int} {d2 : Int} {minute3 : Int} {r : Bool} (h : ev_pulse_dial_isRight n d1 d2 minute3 = some r) : FC Try.prog 220 [.agg [.val (.int .i64 d1), .val (.int .i64 d2)], .val (.int .i64 minute3)] [] (.val (.bool r)) [] := by
  refine introJ (nz := 10) Try.func220 rfl rfl rfl (fun w0 R0 env0 => ?_)
  rw [ev_pulse_dial_isRight] at h
  refine TC.seq ?_
  refine TC.region ?_
  refine op0 (sp_box 0 rfl rfl rfl rfl rfl) rfl trivial rfl rfl ?_
  refine op0 (sp_assign rfl rfl) rfl trivial rfl rfl ?_
  refine TL.nil ?_
  refine TC.seq ?_
  refine TC.region ?_
  refine op1 0 rfl (sp_fieldAddrB rfl isBlk rfl ft285_0 vt3 (by decide)) rfl trivial rfl rfl ?_
  refine op1 0 rfl (sp_loadB rfl isBlk rfl vt3 rfl) rfl trivial rfl rfl ?_
  refine op0 (sp_move rfl rfl) rfl trivial rfl rfl ?_
  refine op0 (sp_rem rfl rfl rfl (by decide)) rfl trivial rfl rfl ?_
  refine op0 (sp_eql rfl rfl rfl) rfl trivial rfl rfl ?_
  refine op0 (sp_assign rfl rfl) rfl trivial rfl rfl ?_
  refine TL.nil ?_
  cases h
  exact retJ [] (.tmp rfl .nil) rfl trivial rfl rfl
/- pulse_Back -/
def ev_pulse_Back_r1 (n : Nat) (i15 : Int) (x20 : Int × Int × Int) (y21 : Int) : Option (Nat × Int) :=
  cond (decide (i15 ≤ x20.1)) ((ev_pulse_dial_isRight n x20.2.1 x20.2.2 x20.1).bind fun r22 => cond (!r22) (chk (in64 (x20.1 + 1)) <| some (0, (x20.1 + 1))) (some (0, y21))) (some (0, y21))
set_option maxRecDepth 100000 in
set_option maxHeartbeats 2000000 in
theorem ok_pulse_Back_r1 {n : Nat} {u19 : Value} {u18 : Value} {i15 : Int} {i13 : Int} {x20 : Int × Int × Int} {y21 : Int} {r : Nat × Int} (h : ev_pulse_Back_r1 n i15 x20 y21 = some r) (l0 : Nat) (rec : Loop) (hrd : rec.state = .ready) (w0 : World) (M0 R0 : Nat → Prop) : TC Try.prog ⟨w0, M0, R0⟩ ⟨82, some l0, []⟩ (RoundQ ⟨w0, M0, R0⟩ (.inv 15 (recI l0 (busyR rec)) :: [.pin 14 5 u19, .pin 13 3 u18, .blk 3 [.val (.int .i64 r.2)] 3, .blk 5 [.val (.int .i64 i15)] 3]) [] r.1) [.code (sub (bodyOf Try.f117) [1, 1, 1, 1, 1, 1, 1, 0, 1, 0, 0]), .beginRound, .code (sub (bodyOf Try.f117) [1, 1, 1, 1, 1, 1, 1, 0, 1, 0, 1])] (pSlots [65, 66] (ye_funcint_pulse_dial_bool x20) [(6, .ptr 3 0), (10, .ptr 5 0), (12, .val (.int .i64 (i15 + ((3 : Int) * i13))))]) (.inv 15 (recI l0 rec) :: yn_funcint_pulse_dial_bool x20 ++ (fun y21 : Int => [.pin 14 5 u19, .pin 13 3 u18, .blk 3 [.val (.int .i64 y21)] 3, .blk 5 [.val (.int .i64 i15)] 3]) y21) := by
  rw [ev_pulse_Back_r1] at h
  refine subJ (s' := [(6, .ptr 3 0), (10, .ptr 5 0), (12, .val (.int .i64 (i15 + ((3 : Int) * i13)))), (65, .val (.int .i64 x20.1)), (66, .agg [.val (.int .i64 x20.2.1), .val (.int .i64 x20.2.2)])]) (V' := [.inv 15 (recI l0 rec), .pin 14 5 u19, .pin 13 3 u18, .blk 3 [.val (.int .i64 y21)] 3, .blk 5 [.val (.int .i64 i15)] 3]) [] ?_ ⟨rfl, rfl, rfl, rfl, rfl, trivial⟩ ⟨mem_at 0 rfl, mem_at 1 rfl, mem_at 2 rfl, mem_at 3 rfl, mem_at 4 rfl, trivial⟩ rfl
  refine TC.seq ?_
  refine TC.region ?_
  refine op0 (sp_assign rfl rfl) rfl trivial rfl rfl ?_
  refine TL.nil ?_
  refine TC.region ?_
  refine op0 (sp_alloc 16 rfl Try.zeroValue285 rfl) rfl trivial rfl rfl ?_
  refine stoB 0 (cells' := [.val (.int .i64 x20.2.1), .val (.int .i64 x20.2.2)]) rfl rfl trivial rfl rfl rfl rfl vt285 rfl rfl rfl ?_
  refine TL.nil ?_
  refine TC.beginRound 1 rfl hrd ?_
  refine TC.block ?_
  refine TC.seq ?_
  refine TC.region ?_
  refine op0 (sp_move rfl rfl) rfl trivial rfl rfl ?_
  refine op1 5 rfl (sp_loadB rfl isBlk rfl vt3 rfl) rfl trivial rfl rfl ?_
  refine op0 (sp_geq rfl rfl rfl) rfl trivial rfl rfl ?_
  refine op0 (sp_move rfl rfl) rfl trivial rfl rfl ?_
  rcases cond_cases h with ⟨h16, h⟩ | ⟨h16, h⟩
  · refine (boolLit 70 rfl h16).2 ?_
    refine op1 0 rfl (sp_loadBA rfl isBlk rfl vt285 rfl rfl) rfl ⟨_, rfl, rfl⟩ rfl rfl ?_
    refine op0 (sp_move rfl rfl) rfl ⟨_, rfl, rfl⟩ rfl rfl ?_
    obtain ⟨r22, h17, h⟩ := bind_inv h
    refine op0 (sp_call (avs := [.agg [.val (.int .i64 x20.2.1), .val (.int .i64 x20.2.2)], .val (.int .i64 x20.1)]) (need := []) (v := .val (.bool r22)) (news := []) rfl rfl rfl Try.call220 (atJ [] [] (fc_pulse_dial_isRight h17) rfl rfl) (.inl (roAll rfl))) rfl ⟨_, rfl, rfl⟩ rfl rfl ?_
    refine op0 (sp_not rfl rfl) rfl ⟨_, rfl, rfl⟩ rfl rfl ?_
    refine op0 (sp_pickT rfl rfl rfl) rfl trivial rfl rfl ?_
    refine TL.nil ?_
    refine TC.cond (b := (!r22)) rfl (fun h18 => ?_) (fun h18 => ?_)
    · have h := cond_t h h18
      refine TC.region ?_
      refine op0 (sp_move rfl rfl) rfl trivial rfl rfl ?_
      obtain ⟨h19, h⟩ := chk_inv h
      refine op0 (sp_add rfl rfl rfl h19) rfl trivial rfl rfl ?_
      refine stoB 4 (cells' := [.val (.int .i64 (x20.1 + 1))]) rfl rfl trivial rfl rfl rfl rfl vt3 rfl rfl rfl ?_
      refine TL.nil ?_
      refine TC.inBlock ?_
      cases h
      exact bodyEnd [] ⟨mem_at 1 rfl, mem_at 2 rfl, mem_at 3 rfl, mem_at 4 rfl, mem_at 5 rfl, trivial⟩ rfl
    · have h := cond_f h h18
      refine TC.skip ?_
      refine TC.inBlock ?_
      cases h
      exact bodyEnd [] ⟨mem_at 1 rfl, mem_at 2 rfl, mem_at 3 rfl, mem_at 4 rfl, mem_at 5 rfl, trivial⟩ rfl
  · refine (boolLit 70 rfl h16).2 ?_
    refine opSkip rfl ⟨_, rfl, .inl rfl⟩ rfl ?_
    refine opSkip rfl ⟨_, rfl, .inl rfl⟩ rfl ?_
    refine opSkip rfl ⟨_, rfl, .inl rfl⟩ rfl ?_
    refine opSkip rfl ⟨_, rfl, .inl rfl⟩ rfl ?_
    refine op0 (sp_pickF rfl rfl rfl) rfl trivial rfl rfl ?_
    refine TL.nil ?_
    refine TC.condF rfl ?_
    refine TC.skip ?_
    refine TC.inBlock ?_
    cases h
    exact bodyEnd [] ⟨mem_at 1 rfl, mem_at 2 rfl, mem_at 3 rfl, mem_at 4 rfl, mem_at 5 rfl, trivial⟩ rfl
def ev_pulse_Back_j0 (n : Nat) (from_4 : Int) (l10 : List (Int × Int)) (i11 : Int) (i12 : Int) (i13 : Int) (i14 : Int) (i15 : Int) : Option (Int × Int) :=
  chk (in64 ((3 : Int) * i13)) <| chk (in64 (i15 + ((3 : Int) * i13))) <| (ev_pulse_line_start n i12 i13 i14 (Int.tmod from_4 720) from_4).bind fun r16 => (ev_pulse_line_follow n i12 i13 i14 r16.1 r16.2 from_4 l10 (i15 + ((3 : Int) * i13))).bind fun r17 => (ev_pulse_line_follow_1 (loopStep (ev_pulse_Back_r1 n i15)) n (i15, 0) r17.1 r17.2.1 r17.2.2.1 r17.2.2.2.1 r17.2.2.2.2.1 r17.2.2.2.2.2.1 r17.2.2.2.2.2.2.1 r17.2.2.2.2.2.2.2).bind fun q23 => cond (q23.1.2 == 0) (cond (decide ((i15 + ((3 : Int) * i13)) < q23.1.1)) (some (0, 7)) (some (q23.1.1, 0))) (none)
set_option maxRecDepth 100000 in
set_option maxHeartbeats 2000000 in
theorem ok_pulse_Back_j0 {n : Nat} {w0 : World} {M0 R0 : Nat → Prop} {env0 : Env} {df : List Deferred} {r : Int × Int} {from_4 : Int} {l10 : List (Int × Int)} {i11 : Int} {i12 : Int} {i13 : Int} {i14 : Int} {i15 : Int} (h : ev_pulse_Back_j0 n from_4 l10 i11 i12 i13 i14 i15 = some r) : TC Try.prog ⟨w0, M0, R0⟩ ⟨82, none, df⟩ (bodyPostM Fence.wide 0 Try.prog Try.f117 (PostT ⟨w0, M0, R0⟩ env0 [] (.tup [.val (.int .i64 r.1), .val (.int .i64 r.2)]) [])) [.code (sub (bodyOf Try.f117) [1, 1, 1, 1, 1, 1, 0]), .code (sub (bodyOf Try.f117) [1, 1, 1, 1, 1, 1, 1])] ([(1, .val (.int .i64 from_4)), (2, .ref 0), (6, .ptr 3 0), (8, .ptr 4 0), (10, .ptr 5 0)]) ([.ro 0 2 (List.map en_api_PulseFault l10), .blk 3 [.val (.int .i64 i11)] 3, .blk 4 [.val (.int .i64 i12), .val (.int .i64 i13), .val (.int .i64 i14)] 278, .blk 5 [.val (.int .i64 i15)] 3, .inv 1 (marksI df)]) := by
  rw [ev_pulse_Back_j0] at h
  obtain ⟨h12, h⟩ := chk_inv h
  obtain ⟨h13, h⟩ := chk_inv h
  refine drawJ 8 [⟨.val (.int .i64 i15), [], [.blk 5 [.val (.int .i64 i15)] 3], []⟩, ⟨.val (.int .i64 i15), [], [.blk 5 [.val (.int .i64 i15)] 3], []⟩, ⟨.ptr 4 0, [], [.blk 4 [.val (.int .i64 i12), .val (.int .i64 i13), .val (.int .i64 i14)] 278], []⟩, ⟨.ptr 4 1, [], [.blk 4 [.val (.int .i64 i12), .val (.int .i64 i13), .val (.int .i64 i14)] 278], []⟩, ⟨.val (.int .i64 i13), [], [.blk 4 [.val (.int .i64 i12), .val (.int .i64 i13), .val (.int .i64 i14)] 278], []⟩, ⟨.val (.int .i64 ((3 : Int) * i13)), [], [], []⟩, ⟨.val (.int .i64 (i15 + ((3 : Int) * i13))), [], [], []⟩, ⟨.val (undef), [.blk 3 [.val (.int .i64 i15)] 3], [], [.blk 3 [.val (.int .i64 i11)] 3]⟩] rfl ?_ rfl ?_ rfl ?_ ?_
  · kernel_rfl
  · kernel_rfl
  · exact DAll.op' (sp_loadB rfl isBlk rfl vt3 rfl) trivial rfl (From.ok (ps := [(none, 3)]) ⟨⟨rfl, by kernel_rfl⟩, trivial⟩) (DAll.op' (sp_loadB rfl isBlk rfl vt3 rfl) trivial rfl (From.ok (ps := [(none, 3)]) ⟨⟨rfl, by kernel_rfl⟩, trivial⟩) (DAll.op' (sp_fieldAddrB rfl isBlk rfl ft278_0 vt148 (by decide)) trivial rfl (From.ok (ps := [(none, 2)]) ⟨⟨rfl, by kernel_rfl⟩, trivial⟩) (DAll.op' (sp_fieldAddrB rfl isBlk rfl ft148_1 vt3 (by decide)) trivial rfl (From.ok (ps := [(none, 2)]) ⟨⟨rfl, by kernel_rfl⟩, trivial⟩) (DAll.op' (sp_loadB rfl isBlk rfl vt3 rfl) trivial rfl (From.ok (ps := [(none, 2)]) ⟨⟨rfl, by kernel_rfl⟩, trivial⟩) (DAll.op' (sp_mul rfl rfl rfl h12) trivial rfl (From.ok (ps := []) trivial) (DAll.op' (sp_add rfl rfl rfl h13) trivial rfl (From.ok (ps := []) trivial) (DAll.opT (ts_storeB (off := 0) (cells' := [.val (.int .i64 i15)]) rfl rfl rfl rfl vt3 rfl rfl rfl) trivial (From.ok (ps := [(none, 1)]) ⟨⟨rfl, by kernel_rfl⟩, trivial⟩) (From.ok (ps := []) trivial) (.nil))))))))
  refine op0 (sp_assign rfl rfl) rfl trivial rfl rfl ?_
  refine TL.nil ?_
  refine TC.seq ?_
  refine TC.seq ?_
  obtain ⟨r16, h14, h⟩ := bind_inv h
  refine drawJ 9 [⟨.agg [.val (.int .i64 i12), .val (.int .i64 i13), .val (.int .i64 i14)], [], [.blk 4 [.val (.int .i64 i12), .val (.int .i64 i13), .val (.int .i64 i14)] 278], []⟩, ⟨.agg [.val (.int .i64 i12), .val (.int .i64 i13), .val (.int .i64 i14)], [], [.blk 4 [.val (.int .i64 i12), .val (.int .i64 i13), .val (.int .i64 i14)] 278], []⟩, ⟨.val (.int .i64 from_4), [], [], []⟩, ⟨.val (.int .i64 (Int.tmod from_4 720)), [], [], []⟩, ⟨.val (.int .i64 from_4), [], [], []⟩, ⟨.agg [.val (.int .i64 r16.1), .val (.int .i64 r16.2)], [], [], []⟩, ⟨.val (.int .i64 from_4), [], [], []⟩, ⟨.ref 0, [], [], []⟩, ⟨.val (.int .i64 (i15 + ((3 : Int) * i13))), [], [], []⟩] rfl ?_ rfl ?_ rfl ?_ ?_
  · kernel_rfl
  · kernel_rfl
  · exact DAll.op' (sp_loadBA rfl isBlk rfl vt278 rfl rfl) trivial rfl (From.ok (ps := [(none, 2)]) ⟨⟨rfl, rfl⟩, trivial⟩) (DAll.op' (sp_loadBA rfl isBlk rfl vt278 rfl rfl) trivial rfl (From.ok (ps := [(none, 2)]) ⟨⟨rfl, rfl⟩, trivial⟩) (DAll.op' (sp_move rfl rfl) trivial rfl (From.ok (ps := []) trivial) (DAll.op' (sp_rem rfl rfl rfl (by decide)) trivial rfl (From.ok (ps := []) trivial) (DAll.op' (sp_move rfl rfl) trivial rfl (From.ok (ps := []) trivial) (DAll.op' (sp_call (avs := [.agg [.val (.int .i64 i12), .val (.int .i64 i13), .val (.int .i64 i14)], .val (.int .i64 (Int.tmod from_4 720)), .val (.int .i64 from_4)]) (need := []) (v := .agg [.val (.int .i64 r16.1), .val (.int .i64 r16.2)]) (news := []) rfl rfl rfl Try.call116 (atJ [] [] (fc_pulse_line_start h14) rfl rfl) (.inl (roAll rfl))) trivial rfl (From.ok (ps := []) trivial) (DAll.op' (sp_move rfl rfl) trivial rfl (From.ok (ps := []) trivial) (DAll.op' (sp_move rfl rfl) trivial rfl (From.ok (ps := []) trivial) (DAll.op' (sp_move rfl rfl) trivial rfl (From.ok (ps := []) trivial) (.nil)))))))))
  obtain ⟨r17, h15, h⟩ := bind_inv h
  refine op1 1 rfl (sp_call (avs := [.agg [.val (.int .i64 i12), .val (.int .i64 i13), .val (.int .i64 i14)], .agg [.val (.int .i64 r16.1), .val (.int .i64 r16.2)], .val (.int .i64 from_4), .ref 0, .val (.int .i64 (i15 + ((3 : Int) * i13)))]) (need := [.ro 0 2 (List.map en_api_PulseFault l10)]) (v := .fn 217 [] [.ptr 6 0, .ptr 8 0, .ptr 9 0, .ptr 10 0, .ptr 11 0]) (news := [.blk 6 [.ref 7] 407, .ro 7 2 (List.map en_api_PulseFault r17.1), .blk 8 [.val (.int .i64 r17.2.1)] 3, .blk 9 [.val (.int .i64 r17.2.2.1)] 3, .blk 10 [.val (.int .i64 r17.2.2.2.1), .val (.int .i64 r17.2.2.2.2.1), .val (.int .i64 r17.2.2.2.2.2.1)] 278, .blk 11 [.val (.int .i64 r17.2.2.2.2.2.2.1), .val (.int .i64 r17.2.2.2.2.2.2.2)] 285]) rfl rfl rfl Try.call115 (atJ [] [(0, 6), (1, 7), (2, 8), (3, 9), (4, 10), (5, 11)] (fc_pulse_line_follow h15) rfl rfl) (.inl (roAll rfl))) rfl trivial rfl rfl ?_
  refine TL.nil ?_
  refine TC.block ?_
  refine TC.freeze 0 rfl ?_
  refine TC.freeze 2 rfl ?_
  refine TC.freeze 3 rfl ?_
  refine TC.freeze 4 rfl ?_
  refine TC.pin 13 3 rfl rfl fun u18 => ?_
  refine TC.pin 14 5 rfl rfl fun u19 => ?_
  obtain ⟨q23, h20, h⟩ := bind_inv h
  refine rangeO (T := [.blk 11 [.val (.int .i64 r17.2.2.2.2.2.2.1), .val (.int .i64 r17.2.2.2.2.2.2.2)] 285]) (T' := [.blk 11 [.val (.int .i64 q23.2.1), .val (.int .i64 q23.2.2)] 285]) (k := 12) (gm := 1) (grec := 15) (S := [(6, .ptr 3 0), (10, .ptr 5 0), (12, .val (.int .i64 (i15 + ((3 : Int) * i13))))]) (V0 := (fun y21 : Int => [.pin 14 5 u19, .pin 13 3 u18, .blk 3 [.val (.int .i64 y21)] 3, .blk 5 [.val (.int .i64 i15)] 3])) (needI := [.rob 6 [.ref 7] 407, .ro 7 2 (List.map en_api_PulseFault r17.1), .rob 8 [.val (.int .i64 r17.2.1)] 3, .rob 9 [.val (.int .i64 r17.2.2.1)] 3, .rob 10 [.val (.int .i64 r17.2.2.2.1), .val (.int .i64 r17.2.2.2.2.1), .val (.int .i64 r17.2.2.2.2.2.1)] 278]) (ps := [65, 66]) (jl := []) (ea := ye_funcint_pulse_dial_bool) (en := yn_funcint_pulse_dial_bool) (f := (ev_pulse_Back_r1 n i15)) (s0 := (i15, 0)) (yf := q23.1) (v := .tup []) (fi := []) (caps := [.ptr 6 0, .ptr 8 0, .ptr 9 0, .ptr 10 0, .ptr 11 0])
    ⟨fun x y r hr l rec hrd w0 M0 R0 => ok_pulse_Back_r1 (u19 := u19) (u18 := u18) (i13 := i13) hr l rec hrd w0 M0 R0, ⟨rfl, rfl, rfl, trivial⟩, At.mem (is := [0, 1, 8, 11]) ⟨rfl, rfl, rfl, rfl, trivial⟩, At.mem (is := [2, 3, 4, 5, 6]) ⟨rfl, rfl, rfl, rfl, rfl, trivial⟩, rfl, pinsIn [3, 5] [1, 0] ⟨⟨_, _, fun _ => rfl⟩, ⟨_, _, fun _ => rfl⟩, trivial⟩ rfl, rfl, fun _ => rfl, fun _ _ => rfl, fun _ => rfl, fun _ _ => rfl, fun _ => rfl, fun _ => rfl, fun _ => rfl, rfl, rfl, fun _ => rfl, rfl⟩
    rfl rfl Try.call217 ⟨At.mem (is := [7]) ⟨rfl, trivial⟩, rfl, rfl, rfl⟩ 12 rfl (fun I hI => atT [(0, 12), (1, 6), (2, 7), (3, 8), (4, 9), (5, 10), (6, 11)] [(0, 12), (6, 11)] (ft_pulse_line_follow_1 hI h20) rfl rfl rfl) (fun d => ?_)
  rcases cond_cases h with ⟨h21, h⟩ | ⟨h21, h⟩
  · refine done0 h21 ?_
    refine TC.inBlock ?_
    refine TC.seq ?_
    refine TC.seq ?_
    refine TC.region ?_
    refine op1 3 rfl (sp_loadB rfl isBlk rfl vt3 rfl) rfl trivial rfl rfl ?_
    refine op0 (sp_move rfl rfl) rfl trivial rfl rfl ?_
    refine op0 (sp_gtr rfl rfl rfl) rfl trivial rfl rfl ?_
    refine TL.nil ?_
    refine TC.cond (b := (decide ((i15 + ((3 : Int) * i13)) < q23.1.1))) rfl (fun h22 => ?_) (fun h22 => ?_)
    · have h := cond_t h h22
      refine TC.seq ?_
      refine TC.region ?_
      refine stoB 3 (cells' := [.val (.int .i64 0)]) rfl rfl trivial rfl rfl rfl rfl vt3 rfl rfl rfl ?_
      refine op0 (sp_assign rfl rfl) rfl trivial rfl rfl ?_
      refine TL.nil ?_
      cases h
      exact retM [] 0 1 [] rfl (.cell rfl (mem_at 2 rfl) isBlk vt3 rfl (.tmp rfl .nil)) rfl trivial rfl rfl trivial rfl
    · have h := cond_f h h22
      refine TC.skip ?_
      refine TC.seq ?_
      refine TC.region ?_
      refine op1 3 rfl (sp_loadB rfl isBlk rfl vt3 rfl) rfl trivial rfl rfl ?_
      refine stoB 3 (cells' := [.val (.int .i64 q23.1.1)]) rfl rfl trivial rfl rfl rfl rfl vt3 rfl rfl rfl ?_
      refine op0 (sp_assign rfl rfl) rfl trivial rfl rfl ?_
      refine TL.nil ?_
      cases h
      exact retM [] 0 1 [] rfl (.cell rfl (mem_at 2 rfl) isBlk vt3 rfl (.tmp rfl .nil)) rfl trivial rfl rfl trivial rfl
  · exact none_no h
def ev_pulse_Back (n : Nat) (p1 : Int) (p2 : Int) (p3 : Int) (from_4 : Int) (list5 : List (Int × Int)) : Option (Int × Int) :=
  (ev_pulse_open n p1 p2 p3).bind fun r6 => cond (r6.2.2.2 != 0) (some (0, r6.2.2.2)) ((ev_pulse_isMinute n from_4).bind fun r7 => cond (!r7) (some (0, 3)) (chk (in64 (from_4 + 5000)) <| (ev_pulse_line_check n r6.1 r6.2.1 r6.2.2.1 list5 from_4 (from_4 + 5000)).bind fun r8 => cond (r8 != 0) (some (0, r8)) (cond (decide ((0 : Int) < (list5.length : Int))) (chk (in64 ((list5.length : Int) - 1)) <| idx list5 ((list5.length : Int) - 1) fun x9 => ev_pulse_Back_j0 n from_4 list5 0 r6.1 r6.2.1 r6.2.2.1 x9.1) (ev_pulse_Back_j0 n from_4 list5 0 r6.1 r6.2.1 r6.2.2.1 from_4))))
set_option maxRecDepth 100000 in
set_option maxHeartbeats 2000000 in
theorem ft_pulse_Back {n : Nat} {p1 : Int} {p2 : Int} {p3 : Int} {from_4 : Int} {list5 : List (Int × Int)} {r : Int × Int} (h : ev_pulse_Back n p1 p2 p3 from_4 list5 = some r) : FT Try.prog 117 [.agg [.val (.int .i64 p1), .val (.int .i64 p2), .val (.int .i64 p3)], .val (.int .i64 from_4), .ref 0] [] [.ro 0 2 (List.map en_api_PulseFault list5)] (.tup [.val (.int .i64 r.1), .val (.int .i64 r.2)]) [] := by
  refine introM (nz := 82) 1 [] Try.func117 rfl rfl rfl rfl (fun w0 M0 R0 env0 => ?_)
  rw [ev_pulse_Back] at h
  refine TC.seq ?_
  refine TC.region ?_
  refine op0 (sp_box 2 rfl rfl rfl rfl rfl) rfl trivial rfl rfl ?_
  refine op0 (sp_alloc 3 rfl Try.zeroValue3 rfl) rfl trivial rfl rfl ?_
  refine op0 (sp_assign rfl rfl) rfl trivial rfl rfl ?_
  refine TL.nil ?_
  refine TC.seq ?_
  refine TC.region ?_
  refine op1 1 rfl (sp_loadBA rfl isBlk rfl vt148 rfl rfl) rfl trivial rfl rfl ?_
  obtain ⟨r6, h1, h⟩ := bind_inv h
  refine op0 (sp_call (avs := [.agg [.val (.int .i64 p1), .val (.int .i64 p2), .val (.int .i64 p3)]]) (need := []) (v := .tup [.agg [.val (.int .i64 r6.1), .val (.int .i64 r6.2.1), .val (.int .i64 r6.2.2.1)], .val (.int .i64 r6.2.2.2)]) (news := []) rfl rfl rfl Try.call110 (atJ [] [] (fc_pulse_open h1) rfl rfl) (.inl (roAll rfl))) rfl trivial rfl rfl ?_
  refine op0 (sp_move rfl rfl) rfl trivial rfl rfl ?_
  refine op0 (sp_extract rfl rfl rfl) rfl trivial rfl rfl ?_
  refine op0 (sp_extract rfl rfl rfl) rfl trivial rfl rfl ?_
  refine op0 (sp_alloc 4 rfl Try.zeroValue278 rfl) rfl trivial rfl rfl ?_
  refine stoB 0 (cells' := [.val (.int .i64 r6.1), .val (.int .i64 r6.2.1), .val (.int .i64 r6.2.2.1)]) rfl rfl trivial rfl rfl rfl rfl vt278 rfl rfl rfl ?_
  refine op0 (sp_assign rfl rfl) rfl trivial rfl rfl ?_
  refine TL.nil ?_
  refine TC.seq ?_
  refine TC.block ?_
  refine TC.seq ?_
  refine TC.region ?_
  refine op0 (sp_move rfl rfl) rfl trivial rfl rfl ?_
  refine op0 (sp_neq rfl rfl rfl) rfl trivial rfl rfl ?_
  refine op0 (sp_assign rfl rfl) rfl trivial rfl rfl ?_
  refine TL.nil ?_
  refine TC.cond (b := (r6.2.2.2 != 0)) rfl (fun h2 => ?_) (fun h2 => ?_)
  · have h := cond_t h h2
    refine TC.seq ?_
    refine TC.region ?_
    refine op0 (sp_move rfl rfl) rfl trivial rfl rfl ?_
    refine stoB 1 (cells' := [.val (.int .i64 0)]) rfl rfl trivial rfl rfl rfl rfl vt3 rfl rfl rfl ?_
    refine op0 (sp_assign rfl rfl) rfl trivial rfl rfl ?_
    refine TL.nil ?_
    cases h
    exact retM [] 3 1 [] rfl (.cell rfl (mem_at 1 rfl) isBlk vt3 rfl (.tmp rfl .nil)) rfl trivial rfl rfl trivial rfl
  · have h := cond_f h h2
    refine TC.seq ?_
    refine TC.region ?_
    refine op0 (sp_move rfl rfl) rfl trivial rfl rfl ?_
    obtain ⟨r7, h3, h⟩ := bind_inv h
    refine op0 (sp_call (avs := [.val (.int .i64 from_4)]) (need := []) (v := .val (.bool r7)) (news := []) rfl rfl rfl Try.call111 (atJ [] [] (fc_pulse_isMinute h3) rfl rfl) (.inl (roAll rfl))) rfl trivial rfl rfl ?_
    refine op0 (sp_not rfl rfl) rfl trivial rfl rfl ?_
    refine op0 (sp_assign rfl rfl) rfl trivial rfl rfl ?_
    refine TL.nil ?_
    refine TC.cond (b := (!r7)) rfl (fun h4 => ?_) (fun h4 => ?_)
    · have h := cond_t h h4
      refine TC.seq ?_
      refine TC.region ?_
      refine stoB 1 (cells' := [.val (.int .i64 0)]) rfl rfl trivial rfl rfl rfl rfl vt3 rfl rfl rfl ?_
      refine op0 (sp_assign rfl rfl) rfl trivial rfl rfl ?_
      refine TL.nil ?_
      cases h
      exact retM [] 3 1 [] rfl (.cell rfl (mem_at 1 rfl) isBlk vt3 rfl (.tmp rfl .nil)) rfl trivial rfl rfl trivial rfl
    · have h := cond_f h h4
      refine TC.skip ?_
      refine TC.inBlock ?_
      refine TC.seq ?_
      refine TC.seq ?_
      refine TC.region ?_
      refine op1 0 rfl (sp_loadBA rfl isBlk rfl vt278 rfl rfl) rfl trivial rfl rfl ?_
      refine op0 (sp_move rfl rfl) rfl trivial rfl rfl ?_
      refine op0 (sp_move rfl rfl) rfl trivial rfl rfl ?_
      refine op0 (sp_move rfl rfl) rfl trivial rfl rfl ?_
      obtain ⟨h5, h⟩ := chk_inv h
      refine op0 (sp_add rfl rfl rfl h5) rfl trivial rfl rfl ?_
      obtain ⟨r8, h6, h⟩ := bind_inv h
      refine op1 4 rfl (sp_call (avs := [.agg [.val (.int .i64 r6.1), .val (.int .i64 r6.2.1), .val (.int .i64 r6.2.2.1)], .ref 0, .val (.int .i64 from_4), .val (.int .i64 (from_4 + 5000))]) (need := [.ro 0 2 (List.map en_api_PulseFault list5)]) (v := .val (.int .i64 r8)) (news := []) rfl rfl rfl Try.call114 (atJ [] [] (fc_pulse_line_check h6) rfl rfl) (.inl (roAll rfl))) rfl trivial rfl rfl ?_
      refine op0 (sp_assign rfl rfl) rfl trivial rfl rfl ?_
      refine TL.nil ?_
      refine TC.seq ?_
      refine TC.region ?_
      refine op0 (sp_move rfl rfl) rfl trivial rfl rfl ?_
      refine op0 (sp_neq rfl rfl rfl) rfl trivial rfl rfl ?_
      refine TL.nil ?_
      refine TC.cond (b := (r8 != 0)) rfl (fun h7 => ?_) (fun h7 => ?_)
      · have h := cond_t h h7
        refine TC.seq ?_
        refine TC.region ?_
        refine op0 (sp_move rfl rfl) rfl trivial rfl rfl ?_
        refine stoB 1 (cells' := [.val (.int .i64 0)]) rfl rfl trivial rfl rfl rfl rfl vt3 rfl rfl rfl ?_
        refine op0 (sp_assign rfl rfl) rfl trivial rfl rfl ?_
        refine TL.nil ?_
        cases h
        exact retM [] 3 1 [] rfl (.cell rfl (mem_at 1 rfl) isBlk vt3 rfl (.tmp rfl .nil)) rfl trivial rfl rfl trivial rfl
      · have h := cond_f h h7
        refine TC.skip ?_
        refine TC.seq ?_
        refine TC.region ?_
        refine op0 (sp_move rfl rfl) rfl trivial rfl rfl ?_
        refine op0 (sp_alloc 5 rfl Try.zeroValue3 rfl) rfl trivial rfl rfl ?_
        refine stoB 0 (cells' := [.val (.int .i64 from_4)]) rfl rfl trivial rfl rfl rfl rfl vt3 rfl rfl rfl ?_
        refine TL.nil ?_
        refine TC.seq ?_
        refine TC.seq ?_
        refine TC.region ?_
        refine op0 (sp_move rfl rfl) rfl trivial rfl rfl ?_
        refine op1 5 rfl (sp_lenM (N := list5.length) (len_map _ _) rfl rfl isRo Try.underlying142) rfl trivial rfl rfl ?_
        refine op0 (sp_assign rfl rfl) rfl trivial rfl rfl ?_
        refine TL.nil ?_
        refine TC.seq ?_
        refine TC.region ?_
        refine op0 (sp_move rfl rfl) rfl trivial rfl rfl ?_
        refine op0 (sp_gtr rfl rfl rfl) rfl trivial rfl rfl ?_
        refine TL.nil ?_
        refine TC.cond (b := (decide ((0 : Int) < (list5.length : Int)))) rfl (fun h8 => ?_) (fun h8 => ?_)
        · have h := cond_t h h8
          refine TC.region ?_
          refine op0 (sp_move rfl rfl) rfl trivial rfl rfl ?_
          refine op0 (sp_move rfl rfl) rfl trivial rfl rfl ?_
          obtain ⟨h9, h⟩ := chk_inv h
          refine op0 (sp_sub rfl rfl rfl h9) rfl trivial rfl rfl ?_
          obtain ⟨x9, h10, h11, h⟩ := idx_inv h
          refine op1 5 rfl (sp_indexS rfl rfl rfl isRo sl142 h10 (map_get _ h11)) rfl trivial rfl rfl ?_
          refine op1 5 rfl (sp_fieldAddrR (i := (((list5.length : Int) - 1) : Int).toNat) rfl rfl isRo ft155_0 vt3 (by decide) (map_get _ h11) (fun h => nomatch h)) rfl trivial rfl rfl ?_
          refine op1 5 rfl (sp_loadR (i := (((list5.length : Int) - 1) : Int).toNat) (j := 0) rfl rfl isRo vt3 rfl (map_get _ h11) rfl (.v (.nil)) (nodup_of_B rfl)) rfl trivial rfl rfl ?_
          refine stoB 0 (cells' := [.val (.int .i64 x9.1)]) rfl rfl trivial rfl rfl rfl rfl vt3 rfl rfl rfl ?_
          refine TL.nil ?_
          refine TC.seq ?_
          refine subJ [] (ok_pulse_Back_j0 h) ?_ ?_ ?_
          · exact ⟨rfl, rfl, rfl, rfl, rfl, trivial⟩
          · exact ⟨mem_at 5 rfl, mem_at 2 rfl, mem_at 1 rfl, mem_at 0 rfl, mem_at 4 rfl, trivial⟩
          · rfl
        · have h := cond_f h h8
          refine TC.skip ?_
          refine TC.seq ?_
          refine subJ [] (ok_pulse_Back_j0 h) ?_ ?_ ?_
          · exact ⟨rfl, rfl, rfl, rfl, rfl, trivial⟩
          · exact ⟨mem_at 5 rfl, mem_at 2 rfl, mem_at 1 rfl, mem_at 0 rfl, mem_at 4 rfl, trivial⟩
          · rfl
theorem fc_pulse_Back {n : Nat} {p1 : Int} {p2 : Int} {p3 : Int} {from_4 : Int} {list5 : List (Int × Int)} {r : Int × Int} (h : ev_pulse_Back n p1 p2 p3 from_4 list5 = some r) : FC Try.prog 117 [.agg [.val (.int .i64 p1), .val (.int .i64 p2), .val (.int .i64 p3)], .val (.int .i64 from_4), .ref 0] [.ro 0 2 (List.map en_api_PulseFault list5)] (.tup [.val (.int .i64 r.1), .val (.int .i64 r.2)]) [] := (ft_pulse_Back h).toFC rfl
/- top_pubPulse -/
def ev_top_pubPulse (n : Nat) : Option Bool :=
  chk (room 16 (([] : List (Int × Int)).length + ([(10, 1), (11, 1), (30, 1)] : List (Int × Int)).length)) <| (ev_pulse_Run n 1 60 15 0 0 (([] : List (Int × Int)) ++ ([(10, 1), (11, 1), (30, 1)] : List (Int × Int))) 59).bind fun r1 => (ev_pulse_Back n 1 60 15 0 ([(10, 1), (11, 1), (30, 1)] : List (Int × Int))).bind fun r2 => cond (r1.2 == 0) (cond (r2.2 == 0) (cond (r1.1 == 56) (some (r2.1 == 60)) (some false)) (some false)) (some false)
set_option maxRecDepth 100000 in
set_option maxHeartbeats 2000000 in
theorem fc_top_pubPulse {n : Nat}  {r : Bool} (h : ev_top_pubPulse n = some r) : FC Try.prog 52 [] [] (.val (.bool r)) [] := by
  refine introJ (nz := 40) Try.func52 rfl rfl rfl (fun w0 R0 env0 => ?_)
  rw [ev_top_pubPulse] at h
  refine TC.seq ?_
  refine TC.region ?_
  refine op0 (sp_assign rfl rfl) rfl trivial rfl rfl ?_
  refine TL.nil ?_
  refine TC.seq ?_
  refine TC.region ?_
  refine op0 (sp_build (qs := [(0, .val (.int .i64 1)), (1, .val (.int .i64 60)), (2, .val (.int .i64 15))]) rfl bt148 rfl rfl rfl rfl) rfl trivial rfl rfl ?_
  refine op0 (sp_alloc 0 rfl Try.zeroValue148 rfl) rfl trivial rfl rfl ?_
  refine stoB 0 (cells' := [.val (.int .i64 1), .val (.int .i64 60), .val (.int .i64 15)]) rfl rfl trivial rfl rfl rfl rfl vt148 rfl rfl rfl ?_
  refine TL.nil ?_
  refine TC.seq ?_
  refine TC.region ?_
  refine op0 (sp_build (qs := [(0, .val (.int .i64 10)), (1, .val (.int .i64 1))]) rfl bt155 rfl rfl rfl rfl) rfl trivial rfl rfl ?_
  refine op0 (sp_build (qs := [(0, .val (.int .i64 11)), (1, .val (.int .i64 1))]) rfl bt155 rfl rfl rfl rfl) rfl trivial rfl rfl ?_
  refine op0 (sp_build (qs := [(0, .val (.int .i64 30)), (1, .val (.int .i64 1))]) rfl bt155 rfl rfl rfl rfl) rfl trivial rfl rfl ?_
  refine op0 (sp_buildSlice (qs := [.agg [.val (.int .i64 10), .val (.int .i64 1)], .agg [.val (.int .i64 11), .val (.int .i64 1)], .agg [.val (.int .i64 30), .val (.int .i64 1)]]) (need := []) (els := List.map en_api_PulseFault ([(10, 1), (11, 1), (30, 1)] : List (Int × Int))) 1 rfl sl142 (by decide) (by decide) rfl rfl rfl (.v (.v (.v (.v (.v (.v (.nil))))))) (map_len fun _ => rfl) rfl rfl rfl) rfl trivial rfl rfl ?_
  refine op0 (sp_assign rfl rfl) rfl trivial rfl rfl ?_
  refine TL.nil ?_
  refine TC.seq ?_
  obtain ⟨h1, h⟩ := chk_inv h
  obtain ⟨r1, h2, h⟩ := bind_inv h
  refine drawJ 9 [⟨.agg [.val (.int .i64 1), .val (.int .i64 60), .val (.int .i64 15)], [], [.blk 0 [.val (.int .i64 1), .val (.int .i64 60), .val (.int .i64 15)] 148], []⟩, ⟨.ref 2, [.row 2 155 2 (List.map en_api_PulseFault ([] : List (Int × Int)))], [], []⟩, ⟨.ref 1, [], [], []⟩, ⟨.ref 3, [.row 3 155 2 (List.map en_api_PulseFault (([] : List (Int × Int)) ++ ([(10, 1), (11, 1), (30, 1)] : List (Int × Int))))], [.row 1 155 2 (List.map en_api_PulseFault ([(10, 1), (11, 1), (30, 1)] : List (Int × Int)))], [.row 2 155 2 (List.map en_api_PulseFault ([] : List (Int × Int)))]⟩, ⟨.tup [.val (.int .i64 r1.1), .val (.int .i64 r1.2)], [], [.row 3 155 2 (List.map en_api_PulseFault (([] : List (Int × Int)) ++ ([(10, 1), (11, 1), (30, 1)] : List (Int × Int))))], []⟩, ⟨.tup [.val (.int .i64 r1.1), .val (.int .i64 r1.2)], [], [], []⟩, ⟨.val (.int .i64 r1.1), [], [], []⟩, ⟨.val (.int .i64 r1.2), [], [], []⟩, ⟨.val (.int .i64 r1.1), [], [], []⟩] rfl ?_ rfl ?_ rfl ?_ ?_
  · kernel_rfl
  · kernel_rfl
  · exact DAll.op' (sp_loadBA rfl isBlk rfl vt148 rfl rfl) trivial rfl (From.ok (ps := [(none, 1)]) ⟨⟨rfl, by kernel_rfl⟩, trivial⟩) (DAll.op' (sp_emptyM 2 (List.map en_api_PulseFault []) rfl rfl sl142) trivial rfl (From.ok (ps := []) trivial) (DAll.op' (sp_move rfl rfl) trivial rfl (From.ok (ps := []) trivial) (DAll.opT (ts_append (N := ([] : List (Int × Int)).length) (N2 := ([(10, 1), (11, 1), (30, 1)] : List (Int × Int)).length) 3 rfl rfl rfl isOwn rfl sl142 (len_map _ _) (len_map _ _) h1 (map_app _ _ _) rfl) trivial (From.ok (ps := [(some 1, 0)]) ⟨⟨_, rfl, by kernel_rfl, rfl, by kernel_rfl⟩, trivial⟩) (From.ok (ps := [(none, 0)]) ⟨⟨rfl, by kernel_rfl⟩, trivial⟩) (DAll.op' (sp_call (avs := [.agg [.val (.int .i64 1), .val (.int .i64 60), .val (.int .i64 15)], .val (.int .i64 0), .val (.int .i64 0), .ref 3, .val (.int .i64 59)]) (need := [.row 3 155 2 (List.map en_api_PulseFault (([] : List (Int × Int)) ++ ([(10, 1), (11, 1), (30, 1)] : List (Int × Int))))]) (v := .tup [.val (.int .i64 r1.1), .val (.int .i64 r1.2)]) (news := []) rfl rfl rfl Try.call51 (atJ [(0, 3)] [] (fc_pulse_Run h2) rfl rfl) (.inr (fun x hx => nomatch hx))) trivial rfl (From.ok (ps := [(some 3, 0)]) ⟨⟨_, rfl, by kernel_rfl, rfl, by kernel_rfl⟩, trivial⟩) (DAll.op' (sp_move rfl rfl) trivial rfl (From.ok (ps := []) trivial) (DAll.op' (sp_extract rfl rfl rfl) trivial rfl (From.ok (ps := []) trivial) (DAll.op' (sp_extract rfl rfl rfl) trivial rfl (From.ok (ps := []) trivial) (DAll.op' (sp_assign rfl rfl) trivial rfl (From.ok (ps := []) trivial) (.nil)))))))))
  refine op0 (sp_assign rfl rfl) rfl trivial rfl rfl ?_
  refine TL.nil ?_
  refine TC.seq ?_
  refine TC.region ?_
  refine op1 2 rfl (sp_loadBA rfl isBlk rfl vt148 rfl rfl) rfl trivial rfl rfl ?_
  refine op0 (sp_move rfl rfl) rfl trivial rfl rfl ?_
  obtain ⟨r2, h3, h⟩ := bind_inv h
  refine op1 1 rfl (sp_call (avs := [.agg [.val (.int .i64 1), .val (.int .i64 60), .val (.int .i64 15)], .val (.int .i64 0), .ref 1]) (need := [.row 1 155 2 (List.map en_api_PulseFault ([(10, 1), (11, 1), (30, 1)] : List (Int × Int)))]) (v := .tup [.val (.int .i64 r2.1), .val (.int .i64 r2.2)]) (news := []) rfl rfl rfl Try.call117 (atJ [(0, 1)] [] (fc_pulse_Back h3) rfl rfl) (.inr (fun x hx => nomatch hx))) rfl trivial rfl rfl ?_
  refine op0 (sp_move rfl rfl) rfl trivial rfl rfl ?_
  refine op0 (sp_extract rfl rfl rfl) rfl trivial rfl rfl ?_
  refine op0 (sp_extract rfl rfl rfl) rfl trivial rfl rfl ?_
  refine op0 (sp_assign rfl rfl) rfl trivial rfl rfl ?_
  refine op0 (sp_assign rfl rfl) rfl trivial rfl rfl ?_
  refine TL.nil ?_
  refine TC.seq ?_
  refine TC.region ?_
  refine op0 (sp_move rfl rfl) rfl trivial rfl rfl ?_
  refine op0 (sp_eql rfl rfl rfl) rfl trivial rfl rfl ?_
  refine op0 (sp_move rfl rfl) rfl trivial rfl rfl ?_
  rcases cond_cases h with ⟨h4, h⟩ | ⟨h4, h⟩
  · refine (boolLit 28 rfl h4).2 ?_
    refine op0 (sp_move rfl rfl) rfl ⟨_, rfl, rfl⟩ rfl rfl ?_
    refine op0 (sp_eql rfl rfl rfl) rfl ⟨_, rfl, rfl⟩ rfl rfl ?_
    refine op0 (sp_pickT rfl rfl rfl) rfl trivial rfl rfl ?_
    refine op0 (sp_move rfl rfl) rfl trivial rfl rfl ?_
    rcases cond_cases h with ⟨h5, h⟩ | ⟨h5, h⟩
    · refine (boolLit 32 rfl h5).2 ?_
      refine op0 (sp_move rfl rfl) rfl ⟨_, rfl, rfl⟩ rfl rfl ?_
      refine op0 (sp_eql rfl rfl rfl) rfl ⟨_, rfl, rfl⟩ rfl rfl ?_
      refine op0 (sp_pickT rfl rfl rfl) rfl trivial rfl rfl ?_
      refine op0 (sp_move rfl rfl) rfl trivial rfl rfl ?_
      rcases cond_cases h with ⟨h6, h⟩ | ⟨h6, h⟩
      · refine (boolLit 36 rfl h6).2 ?_
        refine op0 (sp_move rfl rfl) rfl ⟨_, rfl, rfl⟩ rfl rfl ?_
        refine op0 (sp_eql rfl rfl rfl) rfl ⟨_, rfl, rfl⟩ rfl rfl ?_
        refine op0 (sp_pickT rfl rfl rfl) rfl trivial rfl rfl ?_
        refine op0 (sp_assign rfl rfl) rfl trivial rfl rfl ?_
        refine TL.nil ?_
        cases h
        exact retJ [] (.tmp rfl .nil) rfl trivial rfl rfl
      · refine (boolLit 36 rfl h6).2 ?_
        refine opSkip rfl ⟨_, rfl, .inl rfl⟩ rfl ?_
        refine opSkip rfl ⟨_, rfl, .inl rfl⟩ rfl ?_
        refine op0 (sp_pickF rfl rfl rfl) rfl trivial rfl rfl ?_
        refine op0 (sp_assign rfl rfl) rfl trivial rfl rfl ?_
        refine TL.nil ?_
        cases h
        exact retJ [] (.tmp rfl .nil) rfl trivial rfl rfl
    · refine (boolLit 32 rfl h5).2 ?_
      refine opSkip rfl ⟨_, rfl, .inl rfl⟩ rfl ?_
      refine opSkip rfl ⟨_, rfl, .inl rfl⟩ rfl ?_
      refine op0 (sp_pickF rfl rfl rfl) rfl trivial rfl rfl ?_
      refine op0 (sp_move rfl rfl) rfl trivial rfl rfl ?_
      refine opSkip rfl ⟨_, rfl, .inl rfl⟩ rfl ?_
      refine opSkip rfl ⟨_, rfl, .inl rfl⟩ rfl ?_
      refine op0 (sp_pickF rfl rfl rfl) rfl trivial rfl rfl ?_
      refine op0 (sp_assign rfl rfl) rfl trivial rfl rfl ?_
      refine TL.nil ?_
      cases h
      exact retJ [] (.tmp rfl .nil) rfl trivial rfl rfl
  · refine (boolLit 28 rfl h4).2 ?_
    refine opSkip rfl ⟨_, rfl, .inl rfl⟩ rfl ?_
    refine opSkip rfl ⟨_, rfl, .inl rfl⟩ rfl ?_
    refine op0 (sp_pickF rfl rfl rfl) rfl trivial rfl rfl ?_
    refine op0 (sp_move rfl rfl) rfl trivial rfl rfl ?_
    refine opSkip rfl ⟨_, rfl, .inl rfl⟩ rfl ?_
    refine opSkip rfl ⟨_, rfl, .inl rfl⟩ rfl ?_
    refine op0 (sp_pickF rfl rfl rfl) rfl trivial rfl rfl ?_
    refine op0 (sp_move rfl rfl) rfl trivial rfl rfl ?_
    refine opSkip rfl ⟨_, rfl, .inl rfl⟩ rfl ?_
    refine opSkip rfl ⟨_, rfl, .inl rfl⟩ rfl ?_
    refine op0 (sp_pickF rfl rfl rfl) rfl trivial rfl rfl ?_
    refine op0 (sp_assign rfl rfl) rfl trivial rfl rfl ?_
    refine TL.nil ?_
    cases h
    exact retJ [] (.tmp rfl .nil) rfl trivial rfl rfl
end
end Go.Proofs.Ytgkoldcmbcbbpaa.Sy
