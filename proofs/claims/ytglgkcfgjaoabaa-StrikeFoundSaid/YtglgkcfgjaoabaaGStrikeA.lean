/- What functions of the program compute, and that they do: printed by symgen.py. -/
import Derived.Test.YtglgkcfgjaoabaaGLib
set_option linter.unusedSimpArgs false
set_option linter.unusedVariables false
namespace Go.Proofs.Ytglgkcfgjaoabaa.Sy
open Go.RowKit
noncomputable section

/- strike_places -/
def ev_strike_places (n : Nat) (rr1 : Bool) (rr2 : Bool) (rr3 : List (Int × Int)) : Option Int :=
  cond rr1 (some 24) (some 12)
set_option maxRecDepth 100000 in
set_option maxHeartbeats 2000000 in
theorem fc_strike_places {n : Nat} {rr1 : Bool} {rr2 : Bool} {rr3 : List (Int × Int)} {r : Int} (h : ev_strike_places n rr1 rr2 rr3 = some r) : FC Try.prog 41 [.agg [.val (.bool rr1), .val (.bool rr2), .ref 0]] [.ro 0 2 (List.map en_api_Span rr3)] (.val (.int .i64 r)) [] := by
  refine introJ (nz := 5) Try.func41 rfl rfl rfl (fun w0 R0 env0 => ?_)
  rw [ev_strike_places] at h
  refine TC.seq ?_
  refine TC.region ?_
  refine op0 (sp_box 1 rfl rfl rfl rfl rfl) rfl trivial rfl rfl ?_
  refine op0 (sp_assign rfl rfl) rfl trivial rfl rfl ?_
  refine TL.nil ?_
  refine TC.seq ?_
  refine TC.seq ?_
  refine TC.region ?_
  refine op1 0 rfl (sp_fieldAddrB rfl isBlk rfl ft24_0 vt4 (by decide)) rfl trivial rfl rfl ?_
  refine op1 0 rfl (sp_loadB rfl isBlk rfl vt4 rfl) rfl trivial rfl rfl ?_
  refine TL.nil ?_
  refine TC.cond (b := rr1) rfl (fun h1 => ?_) (fun h1 => ?_)
  · have h := cond_t h h1
    refine TC.seq ?_
    refine TC.region ?_
    refine op0 (sp_assign rfl rfl) rfl trivial rfl rfl ?_
    refine TL.nil ?_
    cases h
    exact retJ [] (.tmp rfl .nil) rfl trivial rfl rfl
  · have h := cond_f h h1
    refine TC.skip ?_
    refine TC.seq ?_
    refine TC.region ?_
    refine op0 (sp_assign rfl rfl) rfl trivial rfl rfl ?_
    refine TL.nil ?_
    cases h
    exact retJ [] (.tmp rfl .nil) rfl trivial rfl rfl
/- strike_within_1 -/
def ev_strike_within_1 (n : Nat) (nn1 : Int) (c2 : Int) (c3 : Int) : Option Bool :=
  cond (decide (nn1 < c2)) (some true) (some (decide (c3 < nn1)))
set_option maxRecDepth 100000 in
set_option maxHeartbeats 2000000 in
theorem fc_strike_within_1 {n : Nat} {nn1 : Int} {c2 : Int} {c3 : Int} {r : Bool} (h : ev_strike_within_1 n nn1 c2 c3 = some r) : FC Try.prog 58 [.val (.int .i64 nn1), .ptr 0 0, .ptr 1 0] [.rob 0 [.val (.int .i64 c2)] 3, .rob 1 [.val (.int .i64 c3)] 3] (.val (.bool r)) [] := by
  refine introJ (nz := 13) Try.func58 rfl rfl rfl (fun w0 R0 env0 => ?_)
  rw [ev_strike_within_1] at h
  refine TC.seq ?_
  refine TC.region ?_
  refine op0 (sp_assign rfl rfl) rfl trivial rfl rfl ?_
  refine TL.nil ?_
  refine TC.seq ?_
  refine TC.region ?_
  refine op0 (sp_move rfl rfl) rfl trivial rfl rfl ?_
  refine op1 0 rfl (sp_loadB rfl isRob rfl vt3 rfl) rfl trivial rfl rfl ?_
  refine op0 (sp_lss rfl rfl rfl) rfl trivial rfl rfl ?_
  refine op0 (sp_move rfl rfl) rfl trivial rfl rfl ?_
  rcases cond_cases h with ⟨h1, h⟩ | ⟨h1, h⟩
  · refine (boolLit 8 rfl h1).2 ?_
    refine opSkip rfl ⟨_, rfl, .inl rfl⟩ rfl ?_
    refine opSkip rfl ⟨_, rfl, .inl rfl⟩ rfl ?_
    refine opSkip rfl ⟨_, rfl, .inl rfl⟩ rfl ?_
    refine op0 (sp_pickT rfl rfl rfl) rfl trivial rfl rfl ?_
    refine op0 (sp_assign rfl rfl) rfl trivial rfl rfl ?_
    refine TL.nil ?_
    cases h
    exact retJ [] (.tmp rfl .nil) rfl trivial rfl rfl
  · refine (boolLit 8 rfl h1).2 ?_
    refine op0 (sp_move rfl rfl) rfl ⟨_, rfl, rfl⟩ rfl rfl ?_
    refine op1 1 rfl (sp_loadB rfl isRob rfl vt3 rfl) rfl ⟨_, rfl, rfl⟩ rfl rfl ?_
    refine op0 (sp_gtr rfl rfl rfl) rfl ⟨_, rfl, rfl⟩ rfl rfl ?_
    refine op0 (sp_pickF rfl rfl rfl) rfl trivial rfl rfl ?_
    refine op0 (sp_assign rfl rfl) rfl trivial rfl rfl ?_
    refine TL.nil ?_
    cases h
    exact retJ [] (.tmp rfl .nil) rfl trivial rfl rfl
/- strike_within -/
def ev_strike_within (n : Nat) (least1 : Int) (most2 : Int) (l3 : List Int) : Option Bool :=
  (ev_slices_ContainsFunc_Lint_int n l3 (fun a => ev_strike_within_1 n a least1 most2)).bind fun r4 => some (!r4)
set_option maxRecDepth 100000 in
set_option maxHeartbeats 2000000 in
theorem fc_strike_within {n : Nat} {least1 : Int} {most2 : Int} {l3 : List Int} {r : Bool} (h : ev_strike_within n least1 most2 l3 = some r) : FC Try.prog 40 [.val (.int .i64 least1), .val (.int .i64 most2), .ref 0] [.ro 0 1 (List.map en_int l3)] (.val (.bool r)) [] := by
  refine introJ (nz := 11) Try.func40 rfl rfl rfl (fun w0 R0 env0 => ?_)
  rw [ev_strike_within] at h
  refine TC.seq ?_
  refine TC.region ?_
  refine op0 (sp_box 1 rfl rfl rfl rfl rfl) rfl trivial rfl rfl ?_
  refine op0 (sp_box 2 rfl rfl rfl rfl rfl) rfl trivial rfl rfl ?_
  refine op0 (sp_assign rfl rfl) rfl trivial rfl rfl ?_
  refine TL.nil ?_
  refine TC.seq ?_
  refine TC.region ?_
  refine op0 (sp_move rfl rfl) rfl trivial rfl rfl ?_
  refine op0 (sp_makeFunc (fi := []) (ca := [.tmp 3, .tmp 4]) (fa := []) (cb := [.ptr 1 0, .ptr 2 0]) rfl rfl rfl) rfl trivial rfl rfl ?_
  obtain ⟨r4, h1, h⟩ := bind_inv h
  refine opN (need := [.ro 0 1 (List.map en_int l3), .blk 1 [.val (.int .i64 least1)] 3, .blk 2 [.val (.int .i64 most2)] 3]) [2, 1, 0] ⟨rfl, rfl, rfl, trivial⟩ (sp_call (avs := [.ref 0, .fn 58 [] [.ptr 1 0, .ptr 2 0]]) (need := [.ro 0 1 (List.map en_int l3), .blk 1 [.val (.int .i64 least1)] 3, .blk 2 [.val (.int .i64 most2)] 3]) (v := .val (.bool r4)) (news := []) rfl rfl rfl Try.call57 (FC.needJ (need := [.ro 0 1 (List.map en_int l3), .rob 1 [.val (.int .i64 least1)] 3, .rob 2 [.val (.int .i64 most2)] 3]) (need' := [.rob 1 [.val (.int .i64 least1)] 3, .rob 2 [.val (.int .i64 most2)] 3, .ro 0 1 (List.map en_int l3)]) [1, 2, 0] ⟨rfl, rfl, rfl, trivial⟩ (FC.fnArg (args := [.ref 0, .ref 3]) (needC := [.rob 1 [.val (.int .i64 least1)] 3, .rob 2 [.val (.int .i64 most2)] 3]) (need := [.ro 0 1 (List.map en_int l3)]) 1 (first := []) (caps := [.ptr 1 0, .ptr 2 0]) (FC.needJ (need := [.any 3 (D.fn Try.prog fe_funcint_bool fd_funcint_bool (fun a => ev_strike_within_1 n a least1 most2)), .ro 0 1 (List.map en_int l3)]) (need' := [.ro 0 1 (List.map en_int l3), .any 3 (D.fn Try.prog fe_funcint_bool fd_funcint_bool (fun a => ev_strike_within_1 n a least1 most2))]) [1, 0] ⟨rfl, rfl, trivial⟩ (atJ [(1, 3)] [] (fc_slices_ContainsFunc_Lint_int h1) rfl rfl)) rfl Try.call58 (fun a b hab => atJ [(0, 1), (1, 2)] [] (fc_strike_within_1 hab) rfl rfl) rfl (fun _ => rfl) (fun _ => rfl) rfl rfl rfl rfl rfl rfl rfl)) (.inr (fun x hx => nomatch hx))) rfl trivial rfl rfl ?_
  refine op0 (sp_not rfl rfl) rfl trivial rfl rfl ?_
  refine op0 (sp_assign rfl rfl) rfl trivial rfl rfl ?_
  refine TL.nil ?_
  cases h
  exact retJ [] (.tmp rfl .nil) rfl trivial rfl rfl
/- strike_Check -/
def ev_strike_Check_l0 (n : Nat) (rr3 : List (Int × Int)) : Nat → Int → Int → Bool → Bool → (List (Int × Int)) → Option Int
  | 0, _, _, _, _, _ => none
  | m + 1, i4, i5, b6, b7, l8 => cond (decide (i5 < (rr3.length : Int))) (idx l8 i5 fun x9 => cond (decide (x9.2 < x9.1)) (some 2) ((ev_strike_places n b6 b7 l8).bind fun r10 => chk (in64 ((2 : Int) * r10)) <| chk (in64 (((2 : Int) * r10) - 1)) <| (ev_strike_within n i4 (((2 : Int) * r10) - 1) ([x9.1, x9.2] : List Int)).bind fun r11 => cond (!r11) (some 2) (chk (in64 (x9.2 + 1)) <| chk (in64 (i5 + 1)) <| ev_strike_Check_l0 n rr3 m (x9.2 + 1) (i5 + 1) b6 b7 l8))) (some 0)
set_option maxRecDepth 100000 in
set_option maxHeartbeats 2000000 in
theorem ok_strike_Check_l0 {n : Nat} {w0 : World} {R0 : Nat → Prop} {env0 : Env} {r : Int} {rr3 : List (Int × Int)} : ∀ (m : Nat) (i4 : Int) (i5 : Int) (b6 : Bool) (b7 : Bool) (l8 : List (Int × Int)), ev_strike_Check_l0 n rr3 m i4 i5 b6 b7 l8 = some r → TC Try.prog ⟨w0, fun _ => False, R0⟩ 40 (bodyPost Try.prog Try.f14 (Post ⟨w0, fun _ => False, R0⟩ env0 (.val (.int .i64 r)) [])) [.code (sub (bodyOf Try.f14) [1, 1, 1, 0, 1, 0, 0, 0]), .code (sub (bodyOf Try.f14) [1, 1, 1, 0, 1, 0, 0, 1]), .inLoop (sub (bodyOf Try.f14) [1, 1, 1, 0, 1, 0, 0]), .inBlock 0, .code (sub (bodyOf Try.f14) [1, 1, 1, 1])] ([(1, .ptr 1 0), (3, .val (.int .i64 i4)), (11, .ref 0), (12, .val (.int .i64 (rr3.length : Int))), (13, .val (.int .i64 i5))]) ([.blk 1 [.val (.bool b6), .val (.bool b7), .ref 0] 24, .ro 0 2 (List.map en_api_Span l8)]) := by
  intro m
  induction m with
  | zero => intro i4 i5 b6 b7 l8 h; exact none_no h
  | succ m ih =>
    intro i4 i5 b6 b7 l8 h
    rw [ev_strike_Check_l0] at h
    refine TC.region ?_
    refine op0 (sp_lss rfl rfl rfl) rfl trivial rfl rfl ?_
    refine TL.nil ?_
    refine TC.seq ?_
    refine TC.cond (b := (decide (i5 < (rr3.length : Int)))) rfl (fun h2 => ?_) (fun h2 => ?_)
    · have h := cond_t h h2
      refine TC.skip ?_
      refine TC.seq ?_
      refine TC.block ?_
      refine TC.seq ?_
      refine TC.region ?_
      obtain ⟨x9, h3, h4, h⟩ := idx_inv h
      refine op1 1 rfl (sp_indexS rfl rfl rfl isRo sl22 h3 (map_get _ h4)) rfl trivial rfl rfl ?_
      refine op1 1 rfl (sp_loadRA (i := (i5 : Int).toNat) (j := 0) (as_ := [.val (.int .i64 x9.1), .val (.int .i64 x9.2)]) (ns := []) rfl rfl isRo vt81 rfl (map_get _ h4) rfl rfl (by decide) (.v (.v (.nil))) (nodup_of_B rfl)) rfl trivial rfl rfl ?_
      refine op0 (sp_alloc 2 rfl Try.zeroValue81 rfl) rfl trivial rfl rfl ?_
      refine stoB 0 (cells' := [.val (.int .i64 x9.1), .val (.int .i64 x9.2)]) rfl rfl trivial rfl rfl rfl rfl vt81 rfl rfl rfl ?_
      refine TL.nil ?_
      refine TC.seq ?_
      refine TC.seq ?_
      rcases cond_cases h with ⟨h5, h⟩ | ⟨h5, h⟩
      · refine drawJ 16 [⟨.ptr 2 0, [], [.blk 2 [.val (.int .i64 x9.1), .val (.int .i64 x9.2)] 81], []⟩, ⟨.val (.int .i64 x9.1), [], [.blk 2 [.val (.int .i64 x9.1), .val (.int .i64 x9.2)] 81], []⟩, ⟨.ptr 2 1, [], [.blk 2 [.val (.int .i64 x9.1), .val (.int .i64 x9.2)] 81], []⟩, ⟨.val (.int .i64 x9.2), [], [.blk 2 [.val (.int .i64 x9.1), .val (.int .i64 x9.2)] 81], []⟩, ⟨.val (.bool (decide (x9.2 < x9.1))), [], [], []⟩, ⟨.val (.bool true), [], [], []⟩, ⟨.val (undef), [], [], []⟩, ⟨.val (undef), [], [], []⟩, ⟨.val (undef), [], [], []⟩, ⟨.val (undef), [], [], []⟩, ⟨.val (undef), [], [], []⟩, ⟨.val (undef), [], [], []⟩, ⟨.val (undef), [], [], []⟩, ⟨.val (undef), [], [], []⟩, ⟨.val (undef), [], [], []⟩, ⟨.val (undef), [], [], []⟩] rfl ?_ rfl ?_ rfl ?_ ?_
        · kernel_rfl
        · kernel_rfl
        · exact DAll.op' (sp_fieldAddrB rfl isBlk rfl ft81_0 vt3 (by decide)) trivial rfl (From.ok (ps := [(none, 0)]) ⟨⟨rfl, rfl⟩, trivial⟩) (DAll.op' (sp_loadB rfl isBlk rfl vt3 rfl) trivial rfl (From.ok (ps := [(none, 0)]) ⟨⟨rfl, rfl⟩, trivial⟩) (DAll.op' (sp_fieldAddrB rfl isBlk rfl ft81_1 vt3 (by decide)) trivial rfl (From.ok (ps := [(none, 0)]) ⟨⟨rfl, rfl⟩, trivial⟩) (DAll.op' (sp_loadB rfl isBlk rfl vt3 rfl) trivial rfl (From.ok (ps := [(none, 0)]) ⟨⟨rfl, rfl⟩, trivial⟩) (DAll.op' (sp_gtr rfl rfl rfl) trivial rfl (From.ok (ps := []) trivial) (DAll.op' (sp_castB h5 (sp_move rfl rfl)) trivial rfl (From.ok (ps := []) trivial) (.skip ⟨_, rfl, .inl rfl⟩ rfl rfl rfl (.skip ⟨_, rfl, .inl rfl⟩ rfl rfl rfl (.skip ⟨_, rfl, .inl rfl⟩ rfl rfl rfl (.skip ⟨_, rfl, .inl rfl⟩ rfl rfl rfl (.skip ⟨_, rfl, .inl rfl⟩ rfl rfl rfl (.skip ⟨_, rfl, .inl rfl⟩ rfl rfl rfl (.skip ⟨_, rfl, .inl rfl⟩ rfl rfl rfl (.skip ⟨_, rfl, .inl rfl⟩ rfl rfl rfl (.skip ⟨_, rfl, .inl rfl⟩ rfl rfl rfl (.skip ⟨_, rfl, .inl rfl⟩ rfl rfl rfl (.nil))))))))))))))))
        refine opSkip rfl ⟨_, rfl, .inl rfl⟩ rfl ?_
        refine opSkip rfl ⟨_, rfl, .inl rfl⟩ rfl ?_
        refine op0 (sp_pickT rfl rfl rfl) rfl trivial rfl rfl ?_
        refine TL.nil ?_
        refine TC.condT rfl ?_
        refine TC.seq ?_
        refine TC.region ?_
        refine op0 (sp_assign rfl rfl) rfl trivial rfl rfl ?_
        refine TL.nil ?_
        cases h
        exact retJ [] (.tmp rfl .nil) rfl trivial rfl rfl
      · obtain ⟨r10, h6, h⟩ := bind_inv h
        obtain ⟨h7, h⟩ := chk_inv h
        obtain ⟨h8, h⟩ := chk_inv h
        refine drawJ 16 [⟨.ptr 2 0, [], [.blk 2 [.val (.int .i64 x9.1), .val (.int .i64 x9.2)] 81], []⟩, ⟨.val (.int .i64 x9.1), [], [.blk 2 [.val (.int .i64 x9.1), .val (.int .i64 x9.2)] 81], []⟩, ⟨.ptr 2 1, [], [.blk 2 [.val (.int .i64 x9.1), .val (.int .i64 x9.2)] 81], []⟩, ⟨.val (.int .i64 x9.2), [], [.blk 2 [.val (.int .i64 x9.1), .val (.int .i64 x9.2)] 81], []⟩, ⟨.val (.bool (decide (x9.2 < x9.1))), [], [], []⟩, ⟨.val (.bool false), [], [], []⟩, ⟨.val (.int .i64 i4), [], [], []⟩, ⟨.agg [.val (.bool b6), .val (.bool b7), .ref 0], [], [.blk 1 [.val (.bool b6), .val (.bool b7), .ref 0] 24], []⟩, ⟨.val (.int .i64 r10), [], [.ro 0 2 (List.map en_api_Span l8)], []⟩, ⟨.val (.int .i64 ((2 : Int) * r10)), [], [], []⟩, ⟨.val (.int .i64 (((2 : Int) * r10) - 1)), [], [], []⟩, ⟨.ptr 2 0, [], [.blk 2 [.val (.int .i64 x9.1), .val (.int .i64 x9.2)] 81], []⟩, ⟨.val (.int .i64 x9.1), [], [.blk 2 [.val (.int .i64 x9.1), .val (.int .i64 x9.2)] 81], []⟩, ⟨.ptr 2 1, [], [.blk 2 [.val (.int .i64 x9.1), .val (.int .i64 x9.2)] 81], []⟩, ⟨.val (.int .i64 x9.2), [], [.blk 2 [.val (.int .i64 x9.1), .val (.int .i64 x9.2)] 81], []⟩, ⟨.ref 3, [.row 3 3 1 (List.map en_int ([x9.1, x9.2] : List Int))], [], []⟩] rfl ?_ rfl ?_ rfl ?_ ?_
        · kernel_rfl
        · kernel_rfl
        · exact DAll.op' (sp_fieldAddrB rfl isBlk rfl ft81_0 vt3 (by decide)) trivial rfl (From.ok (ps := [(none, 0)]) ⟨⟨rfl, rfl⟩, trivial⟩) (DAll.op' (sp_loadB rfl isBlk rfl vt3 rfl) trivial rfl (From.ok (ps := [(none, 0)]) ⟨⟨rfl, rfl⟩, trivial⟩) (DAll.op' (sp_fieldAddrB rfl isBlk rfl ft81_1 vt3 (by decide)) trivial rfl (From.ok (ps := [(none, 0)]) ⟨⟨rfl, rfl⟩, trivial⟩) (DAll.op' (sp_loadB rfl isBlk rfl vt3 rfl) trivial rfl (From.ok (ps := [(none, 0)]) ⟨⟨rfl, rfl⟩, trivial⟩) (DAll.op' (sp_gtr rfl rfl rfl) trivial rfl (From.ok (ps := []) trivial) (DAll.op' (sp_castB h5 (sp_move rfl rfl)) trivial rfl (From.ok (ps := []) trivial) (DAll.op' (sp_move rfl rfl) ⟨_, rfl, rfl⟩ rfl (From.ok (ps := []) trivial) (DAll.op' (sp_loadBA rfl isBlk rfl vt24 rfl rfl) ⟨_, rfl, rfl⟩ rfl (From.ok (ps := [(none, 1)]) ⟨⟨rfl, rfl⟩, trivial⟩) (DAll.op' (sp_call (avs := [.agg [.val (.bool b6), .val (.bool b7), .ref 0]]) (need := [.ro 0 2 (List.map en_api_Span l8)]) (v := .val (.int .i64 r10)) (news := []) rfl rfl rfl Try.call41 (atJ [] [] (fc_strike_places h6) rfl rfl) (.inl (roAll rfl))) ⟨_, rfl, rfl⟩ rfl (From.ok (ps := [(none, 2)]) ⟨⟨rfl, rfl⟩, trivial⟩) (DAll.op' (sp_mul rfl rfl rfl h7) ⟨_, rfl, rfl⟩ rfl (From.ok (ps := []) trivial) (DAll.op' (sp_sub rfl rfl rfl h8) ⟨_, rfl, rfl⟩ rfl (From.ok (ps := []) trivial) (DAll.op' (sp_fieldAddrB rfl isBlk rfl ft81_0 vt3 (by decide)) ⟨_, rfl, rfl⟩ rfl (From.ok (ps := [(none, 0)]) ⟨⟨rfl, rfl⟩, trivial⟩) (DAll.op' (sp_loadB rfl isBlk rfl vt3 rfl) ⟨_, rfl, rfl⟩ rfl (From.ok (ps := [(none, 0)]) ⟨⟨rfl, rfl⟩, trivial⟩) (DAll.op' (sp_fieldAddrB rfl isBlk rfl ft81_1 vt3 (by decide)) ⟨_, rfl, rfl⟩ rfl (From.ok (ps := [(none, 0)]) ⟨⟨rfl, rfl⟩, trivial⟩) (DAll.op' (sp_loadB rfl isBlk rfl vt3 rfl) ⟨_, rfl, rfl⟩ rfl (From.ok (ps := [(none, 0)]) ⟨⟨rfl, rfl⟩, trivial⟩) (DAll.op' (sp_buildSlice (qs := [.val (.int .i64 x9.1), .val (.int .i64 x9.2)]) (need := []) (els := List.map en_int ([x9.1, x9.2] : List Int)) 3 rfl sl39 (by decide) (by decide) rfl rfl rfl (.v (.v (.nil))) (map_len fun _ => rfl) rfl rfl rfl) ⟨_, rfl, rfl⟩ rfl (From.ok (ps := []) trivial) (.nil))))))))))))))))
        obtain ⟨r11, h9, h⟩ := bind_inv h
        refine op1 0 rfl (sp_call (avs := [.val (.int .i64 i4), .val (.int .i64 (((2 : Int) * r10) - 1)), .ref 3]) (need := [.row 3 3 1 (List.map en_int ([x9.1, x9.2] : List Int))]) (v := .val (.bool r11)) (news := []) rfl rfl rfl Try.call40 (atJ [(0, 3)] [] (fc_strike_within h9) rfl rfl) (.inr (fun x hx => nomatch hx))) rfl ⟨_, rfl, rfl⟩ rfl rfl ?_
        refine op0 (sp_not rfl rfl) rfl ⟨_, rfl, rfl⟩ rfl rfl ?_
        refine op0 (sp_pickF rfl rfl rfl) rfl trivial rfl rfl ?_
        refine TL.nil ?_
        refine TC.cond (b := (!r11)) rfl (fun h10 => ?_) (fun h10 => ?_)
        · have h := cond_t h h10
          refine TC.seq ?_
          refine TC.region ?_
          refine op0 (sp_assign rfl rfl) rfl trivial rfl rfl ?_
          refine TL.nil ?_
          cases h
          exact retJ [] (.tmp rfl .nil) rfl trivial rfl rfl
        · have h := cond_f h h10
          refine TC.skip ?_
          refine TC.region ?_
          refine op1 1 rfl (sp_fieldAddrB rfl isBlk rfl ft81_1 vt3 (by decide)) rfl trivial rfl rfl ?_
          refine op1 1 rfl (sp_loadB rfl isBlk rfl vt3 rfl) rfl trivial rfl rfl ?_
          obtain ⟨h11, h⟩ := chk_inv h
          refine op0 (sp_add rfl rfl rfl h11) rfl trivial rfl rfl ?_
          refine op0 (sp_assign rfl rfl) rfl trivial rfl rfl ?_
          refine TL.nil ?_
          refine TC.inBlock ?_
          refine TC.region ?_
          obtain ⟨h12, h⟩ := chk_inv h
          refine op0 (sp_add rfl rfl rfl h12) rfl trivial rfl rfl ?_
          refine op0 (sp_move rfl rfl) rfl trivial rfl rfl ?_
          refine TL.nil ?_
          refine TC.inLoop ?_
          refine TC.seq ?_
          refine subJ [] (ih _ _ _ _ _ h) ?_ ?_ ?_
          · exact ⟨rfl, rfl, rfl, rfl, rfl, trivial⟩
          · exact ⟨mem_at 2 rfl, mem_at 3 rfl, trivial⟩
          · rfl
    · have h := cond_f h h2
      refine TC.exit rfl ?_
      refine TC.seq ?_
      refine TC.region ?_
      refine op0 (sp_assign rfl rfl) rfl trivial rfl rfl ?_
      refine TL.nil ?_
      cases h
      exact retJ [] (.tmp rfl .nil) rfl trivial rfl rfl
def ev_strike_Check (n : Nat) (rr1 : Bool) (rr2 : Bool) (rr3 : List (Int × Int)) : Option Int :=
  cond (decide ((8 : Int) < (rr3.length : Int))) (some 5) (ev_strike_Check_l0 n rr3 n 0 0 rr1 rr2 rr3)
set_option maxRecDepth 100000 in
set_option maxHeartbeats 2000000 in
theorem fc_strike_Check {n : Nat} {rr1 : Bool} {rr2 : Bool} {rr3 : List (Int × Int)} {r : Int} (h : ev_strike_Check n rr1 rr2 rr3 = some r) : FC Try.prog 14 [.agg [.val (.bool rr1), .val (.bool rr2), .ref 0]] [.ro 0 2 (List.map en_api_Span rr3)] (.val (.int .i64 r)) [] := by
  refine introJ (nz := 40) Try.func14 rfl rfl rfl (fun w0 R0 env0 => ?_)
  rw [ev_strike_Check] at h
  refine TC.seq ?_
  refine TC.region ?_
  refine op0 (sp_box 1 rfl rfl rfl rfl rfl) rfl trivial rfl rfl ?_
  refine op0 (sp_assign rfl rfl) rfl trivial rfl rfl ?_
  refine TL.nil ?_
  refine TC.seq ?_
  refine TC.seq ?_
  refine TC.region ?_
  refine op1 0 rfl (sp_fieldAddrB rfl isBlk rfl ft24_2 vt22 (by decide)) rfl trivial rfl rfl ?_
  refine op1 0 rfl (sp_loadB rfl isBlk rfl vt22 rfl) rfl trivial rfl rfl ?_
  refine op1 1 rfl (sp_lenM (N := rr3.length) (len_map _ _) rfl rfl isRo Try.underlying22) rfl trivial rfl rfl ?_
  refine op0 (sp_gtr rfl rfl rfl) rfl trivial rfl rfl ?_
  refine TL.nil ?_
  refine TC.cond (b := (decide ((8 : Int) < (rr3.length : Int)))) rfl (fun h1 => ?_) (fun h1 => ?_)
  · have h := cond_t h h1
    refine TC.seq ?_
    refine TC.region ?_
    refine op0 (sp_assign rfl rfl) rfl trivial rfl rfl ?_
    refine TL.nil ?_
    cases h
    exact retJ [] (.tmp rfl .nil) rfl trivial rfl rfl
  · have h := cond_f h h1
    refine TC.skip ?_
    refine TC.seq ?_
    refine TC.region ?_
    refine op0 (sp_assign rfl rfl) rfl trivial rfl rfl ?_
    refine TL.nil ?_
    refine TC.seq ?_
    refine TC.seq ?_
    refine TC.region ?_
    refine op1 0 rfl (sp_fieldAddrB rfl isBlk rfl ft24_2 vt22 (by decide)) rfl trivial rfl rfl ?_
    refine op1 0 rfl (sp_loadB rfl isBlk rfl vt22 rfl) rfl trivial rfl rfl ?_
    refine op1 1 rfl (sp_lenM (N := rr3.length) (len_map _ _) rfl rfl isRo Try.underlying22) rfl trivial rfl rfl ?_
    refine op0 (sp_move rfl rfl) rfl trivial rfl rfl ?_
    refine TL.nil ?_
    refine TC.block ?_
    refine TC.loop ?_
    refine TC.seq ?_
    refine subJ [] (ok_strike_Check_l0 _ _ _ _ _ _ h) ?_ ?_ ?_
    · exact ⟨rfl, rfl, rfl, rfl, rfl, trivial⟩
    · exact ⟨mem_at 0 rfl, mem_at 1 rfl, trivial⟩
    · rfl
/- strike_open -/
def ev_strike_open (n : Nat) (rr1 : Bool) (rr2 : Bool) (rr3 : List (Int × Int)) : Option (Bool × Bool × (List (Int × Int)) × Int × Int) :=
  (ev_strike_places n rr1 rr2 rr3).bind fun r4 => (ev_strike_Check n rr1 rr2 rr3).bind fun r5 => some (rr1, rr2, rr3, r4, r5)
set_option maxRecDepth 100000 in
set_option maxHeartbeats 2000000 in
theorem fc_strike_open {n : Nat} {rr1 : Bool} {rr2 : Bool} {rr3 : List (Int × Int)} {r : Bool × Bool × (List (Int × Int)) × Int × Int} (h : ev_strike_open n rr1 rr2 rr3 = some r) : FC Try.prog 42 [.agg [.val (.bool rr1), .val (.bool rr2), .ref 0]] [.ro 0 2 (List.map en_api_Span rr3)] (.tup [.agg [.val (.bool r.1), .val (.bool r.2.1), .ref 0, .val (.int .i64 r.2.2.2.1)], .val (.int .i64 r.2.2.2.2)]) [.ro 0 2 (List.map en_api_Span r.2.2.1)] := by
  refine introJ (nz := 10) Try.func42 rfl rfl rfl (fun w0 R0 env0 => ?_)
  rw [ev_strike_open] at h
  refine TC.seq ?_
  refine TC.region ?_
  refine op0 (sp_box 1 rfl rfl rfl rfl rfl) rfl trivial rfl rfl ?_
  refine op0 (sp_alloc 2 rfl Try.zeroValue84 rfl) rfl trivial rfl rfl ?_
  refine op0 (sp_assign rfl rfl) rfl trivial rfl rfl ?_
  refine TL.nil ?_
  refine TC.seq ?_
  obtain ⟨r4, h1, h⟩ := bind_inv h
  obtain ⟨r5, h2, h⟩ := bind_inv h
  refine drawJ 6 [⟨.agg [.val (.bool rr1), .val (.bool rr2), .ref 0], [], [.blk 1 [.val (.bool rr1), .val (.bool rr2), .ref 0] 24], []⟩, ⟨.agg [.val (.bool rr1), .val (.bool rr2), .ref 0], [], [.blk 1 [.val (.bool rr1), .val (.bool rr2), .ref 0] 24], []⟩, ⟨.val (.int .i64 r4), [], [.ro 0 2 (List.map en_api_Span rr3)], []⟩, ⟨.agg [.val (.bool rr1), .val (.bool rr2), .ref 0, .val (.int .i64 r4)], [], [], []⟩, ⟨.agg [.val (.bool rr1), .val (.bool rr2), .ref 0], [], [.blk 1 [.val (.bool rr1), .val (.bool rr2), .ref 0] 24], []⟩, ⟨.val (.int .i64 r5), [], [.ro 0 2 (List.map en_api_Span rr3)], []⟩] rfl ?_ rfl ?_ rfl ?_ ?_
  · kernel_rfl
  · kernel_rfl
  · exact DAll.op' (sp_loadBA rfl isBlk rfl vt24 rfl rfl) trivial rfl (From.ok (ps := [(none, 1)]) ⟨⟨rfl, rfl⟩, trivial⟩) (DAll.op' (sp_loadBA rfl isBlk rfl vt24 rfl rfl) trivial rfl (From.ok (ps := [(none, 1)]) ⟨⟨rfl, rfl⟩, trivial⟩) (DAll.op' (sp_call (avs := [.agg [.val (.bool rr1), .val (.bool rr2), .ref 0]]) (need := [.ro 0 2 (List.map en_api_Span rr3)]) (v := .val (.int .i64 r4)) (news := []) rfl rfl rfl Try.call41 (atJ [] [] (fc_strike_places h1) rfl rfl) (.inl (roAll rfl))) trivial rfl (From.ok (ps := [(none, 2)]) ⟨⟨rfl, rfl⟩, trivial⟩) (DAll.op' (sp_build (qs := [(0, .agg [.val (.bool rr1), .val (.bool rr2), .ref 0]), (1, .val (.int .i64 r4))]) rfl bt84 rfl rfl rfl rfl) trivial rfl (From.ok (ps := []) trivial) (DAll.op' (sp_loadBA rfl isBlk rfl vt24 rfl rfl) trivial rfl (From.ok (ps := [(none, 1)]) ⟨⟨rfl, rfl⟩, trivial⟩) (DAll.op' (sp_call (avs := [.agg [.val (.bool rr1), .val (.bool rr2), .ref 0]]) (need := [.ro 0 2 (List.map en_api_Span rr3)]) (v := .val (.int .i64 r5)) (news := []) rfl rfl rfl Try.call14 (atJ [] [] (fc_strike_Check h2) rfl rfl) (.inl (roAll rfl))) trivial rfl (From.ok (ps := [(none, 2)]) ⟨⟨rfl, rfl⟩, trivial⟩) (.nil))))))
  refine stoB 0 (cells' := [.val (.bool rr1), .val (.bool rr2), .ref 0, .val (.int .i64 r4)]) rfl rfl trivial rfl rfl rfl rfl vt84 rfl rfl rfl ?_
  refine op0 (sp_assign rfl rfl) rfl trivial rfl rfl ?_
  refine TL.nil ?_
  cases h
  exact retJ [] (.cells rfl (mem_at 0 rfl) isBlk vt84 rfl rfl (.tmp rfl .nil)) rfl ⟨mem_at 2 rfl, trivial⟩ rfl rfl
/- strike_train_isSilent_1 -/
def ev_strike_train_isSilent_1 (n : Nat) (s1 : Int) (s2 : Int) (c3 : Int) : Option Bool :=
  (ev_strike_within n s1 s2 ([c3] : List Int)).bind fun r4 => some r4
set_option maxRecDepth 100000 in
set_option maxHeartbeats 2000000 in
theorem fc_strike_train_isSilent_1 {n : Nat} {s1 : Int} {s2 : Int} {c3 : Int} {r : Bool} (h : ev_strike_train_isSilent_1 n s1 s2 c3 = some r) : FC Try.prog 70 [.agg [.val (.int .i64 s1), .val (.int .i64 s2)], .ptr 0 0] [.rob 0 [.val (.int .i64 c3)] 3] (.val (.bool r)) [] := by
  refine introJ (nz := 11) Try.func70 rfl rfl rfl (fun w0 R0 env0 => ?_)
  rw [ev_strike_train_isSilent_1] at h
  refine TC.seq ?_
  refine TC.region ?_
  refine op0 (sp_box 1 rfl rfl rfl rfl rfl) rfl trivial rfl rfl ?_
  refine op0 (sp_assign rfl rfl) rfl trivial rfl rfl ?_
  refine TL.nil ?_
  refine TC.seq ?_
  refine TC.region ?_
  refine op1 0 rfl (sp_fieldAddrB rfl isBlk rfl ft81_0 vt3 (by decide)) rfl trivial rfl rfl ?_
  refine op1 0 rfl (sp_loadB rfl isBlk rfl vt3 rfl) rfl trivial rfl rfl ?_
  refine op1 0 rfl (sp_fieldAddrB rfl isBlk rfl ft81_1 vt3 (by decide)) rfl trivial rfl rfl ?_
  refine op1 0 rfl (sp_loadB rfl isBlk rfl vt3 rfl) rfl trivial rfl rfl ?_
  refine op1 1 rfl (sp_loadB rfl isRob rfl vt3 rfl) rfl trivial rfl rfl ?_
  refine op0 (sp_buildSlice (qs := [.val (.int .i64 c3)]) (need := []) (els := List.map en_int ([c3] : List Int)) 2 rfl sl39 (by decide) (by decide) rfl rfl rfl (.v (.nil)) (map_len fun _ => rfl) rfl rfl rfl) rfl trivial rfl rfl ?_
  obtain ⟨r4, h1, h⟩ := bind_inv h
  refine op1 0 rfl (sp_call (avs := [.val (.int .i64 s1), .val (.int .i64 s2), .ref 2]) (need := [.row 2 3 1 (List.map en_int ([c3] : List Int))]) (v := .val (.bool r4)) (news := []) rfl rfl rfl Try.call40 (atJ [(0, 2)] [] (fc_strike_within h1) rfl rfl) (.inr (fun x hx => nomatch hx))) rfl trivial rfl rfl ?_
  refine op0 (sp_assign rfl rfl) rfl trivial rfl rfl ?_
  refine TL.nil ?_
  cases h
  exact retJ [] (.tmp rfl .nil) rfl trivial rfl rfl
/- strike_train_isSilent -/
def ev_strike_train_isSilent (n : Nat) (t1 : Bool) (t2 : Bool) (t3 : List (Int × Int)) (t4 : Int) (slot5 : Int) : Option Bool :=
  chk (in64 ((2 : Int) * t4)) <| chk (((2 : Int) * t4) != 0) <| (ev_slices_ContainsFunc_Lapi_Span_api_Span n t3 (fun a => ev_strike_train_isSilent_1 n a.1 a.2 (Int.tmod slot5 ((2 : Int) * t4)))).bind fun r6 => some r6
set_option maxRecDepth 100000 in
set_option maxHeartbeats 2000000 in
theorem fc_strike_train_isSilent {n : Nat} {t1 : Bool} {t2 : Bool} {t3 : List (Int × Int)} {t4 : Int} {slot5 : Int} {r : Bool} (h : ev_strike_train_isSilent n t1 t2 t3 t4 slot5 = some r) : FC Try.prog 59 [.agg [.val (.bool t1), .val (.bool t2), .ref 0, .val (.int .i64 t4)], .val (.int .i64 slot5)] [.ro 0 2 (List.map en_api_Span t3)] (.val (.bool r)) [] := by
  refine introJ (nz := 16) Try.func59 rfl rfl rfl (fun w0 R0 env0 => ?_)
  rw [ev_strike_train_isSilent] at h
  refine TC.seq ?_
  refine TC.region ?_
  refine op0 (sp_box 1 rfl rfl rfl rfl rfl) rfl trivial rfl rfl ?_
  refine op0 (sp_assign rfl rfl) rfl trivial rfl rfl ?_
  refine TL.nil ?_
  refine TC.seq ?_
  refine TC.region ?_
  refine op0 (sp_move rfl rfl) rfl trivial rfl rfl ?_
  refine op1 0 rfl (sp_fieldAddrB rfl isBlk rfl ft84_1 vt3 (by decide)) rfl trivial rfl rfl ?_
  refine op1 0 rfl (sp_loadB rfl isBlk rfl vt3 rfl) rfl trivial rfl rfl ?_
  obtain ⟨h1, h⟩ := chk_inv h
  refine op0 (sp_mul rfl rfl rfl h1) rfl trivial rfl rfl ?_
  obtain ⟨h2, h⟩ := chk_inv h
  refine op0 (sp_rem rfl rfl rfl h2) rfl trivial rfl rfl ?_
  refine op0 (sp_alloc 2 rfl Try.zeroValue3 rfl) rfl trivial rfl rfl ?_
  refine stoB 0 (cells' := [.val (.int .i64 (Int.tmod slot5 ((2 : Int) * t4)))]) rfl rfl trivial rfl rfl rfl rfl vt3 rfl rfl rfl ?_
  refine TL.nil ?_
  refine TC.seq ?_
  refine TC.region ?_
  refine op1 1 rfl (sp_fieldAddrB rfl isBlk rfl ft84_0 vt24 (by decide)) rfl trivial rfl rfl ?_
  refine op1 1 rfl (sp_fieldAddrB rfl isBlk rfl ft24_2 vt22 (by decide)) rfl trivial rfl rfl ?_
  refine op1 1 rfl (sp_loadB rfl isBlk rfl vt22 rfl) rfl trivial rfl rfl ?_
  refine op0 (sp_makeFunc (fi := []) (ca := [.tmp 5]) (fa := []) (cb := [.ptr 2 0]) rfl rfl rfl) rfl trivial rfl rfl ?_
  obtain ⟨r6, h3, h⟩ := bind_inv h
  refine opN (need := [.ro 0 2 (List.map en_api_Span t3), .blk 2 [.val (.int .i64 (Int.tmod slot5 ((2 : Int) * t4)))] 3]) [2, 0] ⟨rfl, rfl, trivial⟩ (sp_call (avs := [.ref 0, .fn 70 [] [.ptr 2 0]]) (need := [.ro 0 2 (List.map en_api_Span t3), .blk 2 [.val (.int .i64 (Int.tmod slot5 ((2 : Int) * t4)))] 3]) (v := .val (.bool r6)) (news := []) rfl rfl rfl Try.call69 (FC.needJ (need := [.ro 0 2 (List.map en_api_Span t3), .rob 2 [.val (.int .i64 (Int.tmod slot5 ((2 : Int) * t4)))] 3]) (need' := [.rob 2 [.val (.int .i64 (Int.tmod slot5 ((2 : Int) * t4)))] 3, .ro 0 2 (List.map en_api_Span t3)]) [1, 0] ⟨rfl, rfl, trivial⟩ (FC.fnArg (args := [.ref 0, .ref 3]) (needC := [.rob 2 [.val (.int .i64 (Int.tmod slot5 ((2 : Int) * t4)))] 3]) (need := [.ro 0 2 (List.map en_api_Span t3)]) 1 (first := []) (caps := [.ptr 2 0]) (FC.needJ (need := [.any 3 (D.fn Try.prog fe_funcapi_Span_bool fd_funcapi_Span_bool (fun a => ev_strike_train_isSilent_1 n a.1 a.2 (Int.tmod slot5 ((2 : Int) * t4)))), .ro 0 2 (List.map en_api_Span t3)]) (need' := [.ro 0 2 (List.map en_api_Span t3), .any 3 (D.fn Try.prog fe_funcapi_Span_bool fd_funcapi_Span_bool (fun a => ev_strike_train_isSilent_1 n a.1 a.2 (Int.tmod slot5 ((2 : Int) * t4))))]) [1, 0] ⟨rfl, rfl, trivial⟩ (atJ [(1, 3)] [] (fc_slices_ContainsFunc_Lapi_Span_api_Span h3) rfl rfl)) rfl Try.call70 (fun a b hab => atJ [(0, 2)] [] (fc_strike_train_isSilent_1 hab) rfl rfl) rfl (fun _ => rfl) (fun _ => rfl) rfl rfl rfl rfl rfl rfl rfl)) (.inr (fun x hx => nomatch hx))) rfl trivial rfl rfl ?_
  refine op0 (sp_assign rfl rfl) rfl trivial rfl rfl ?_
  refine TL.nil ?_
  cases h
  exact retJ [] (.tmp rfl .nil) rfl trivial rfl rfl
/- strike_train_at -/
def ev_strike_train_at (n : Nat) (t1 : Bool) (t2 : Bool) (t3 : List (Int × Int)) (t4 : Int) (place5 : Int) : Option Int :=
  cond t1 (cond ((Int.tmod place5 2) == 1) (some 1) (chk (in64 (Int.tdiv place5 2)) <| cond ((Int.tdiv place5 2) == 0) (some 12) (some (Int.tdiv place5 2)))) (cond (place5 == 0) (some 12) (some place5))
set_option maxRecDepth 100000 in
set_option maxHeartbeats 2000000 in
theorem fc_strike_train_at {n : Nat} {t1 : Bool} {t2 : Bool} {t3 : List (Int × Int)} {t4 : Int} {place5 : Int} {r : Int} (h : ev_strike_train_at n t1 t2 t3 t4 place5 = some r) : FC Try.prog 60 [.agg [.val (.bool t1), .val (.bool t2), .ref 0, .val (.int .i64 t4)], .val (.int .i64 place5)] [.ro 0 2 (List.map en_api_Span t3)] (.val (.int .i64 r)) [] := by
  refine introJ (nz := 18) Try.func60 rfl rfl rfl (fun w0 R0 env0 => ?_)
  rw [ev_strike_train_at] at h
  refine TC.seq ?_
  refine TC.region ?_
  refine op0 (sp_box 1 rfl rfl rfl rfl rfl) rfl trivial rfl rfl ?_
  refine op0 (sp_assign rfl rfl) rfl trivial rfl rfl ?_
  refine TL.nil ?_
  refine TC.seq ?_
  refine TC.region ?_
  refine op0 (sp_move rfl rfl) rfl trivial rfl rfl ?_
  refine op0 (sp_assign rfl rfl) rfl trivial rfl rfl ?_
  refine TL.nil ?_
  refine TC.seq ?_
  refine TC.seq ?_
  refine TC.region ?_
  refine op1 0 rfl (sp_fieldAddrB rfl isBlk rfl ft84_0 vt24 (by decide)) rfl trivial rfl rfl ?_
  refine op1 0 rfl (sp_fieldAddrB rfl isBlk rfl ft24_0 vt4 (by decide)) rfl trivial rfl rfl ?_
  refine op1 0 rfl (sp_loadB rfl isBlk rfl vt4 rfl) rfl trivial rfl rfl ?_
  refine TL.nil ?_
  refine TC.cond (b := t1) rfl (fun h1 => ?_) (fun h1 => ?_)
  · have h := cond_t h h1
    refine TC.seq ?_
    refine TC.seq ?_
    refine TC.region ?_
    refine op0 (sp_move rfl rfl) rfl trivial rfl rfl ?_
    refine op0 (sp_rem rfl rfl rfl (by decide)) rfl trivial rfl rfl ?_
    refine op0 (sp_eql rfl rfl rfl) rfl trivial rfl rfl ?_
    refine TL.nil ?_
    refine TC.cond (b := ((Int.tmod place5 2) == 1)) rfl (fun h2 => ?_) (fun h2 => ?_)
    · have h := cond_t h h2
      refine TC.seq ?_
      refine TC.region ?_
      refine op0 (sp_assign rfl rfl) rfl trivial rfl rfl ?_
      refine TL.nil ?_
      cases h
      exact retJ [] (.tmp rfl .nil) rfl trivial rfl rfl
    · have h := cond_f h h2
      refine TC.skip ?_
      refine TC.region ?_
      refine op0 (sp_move rfl rfl) rfl trivial rfl rfl ?_
      obtain ⟨h3, h⟩ := chk_inv h
      refine op0 (sp_quo rfl rfl rfl (by decide) h3) rfl trivial rfl rfl ?_
      refine op0 (sp_assign rfl rfl) rfl trivial rfl rfl ?_
      refine TL.nil ?_
      refine TC.seq ?_
      refine TC.seq ?_
      refine TC.region ?_
      refine op0 (sp_move rfl rfl) rfl trivial rfl rfl ?_
      refine op0 (sp_eql rfl rfl rfl) rfl trivial rfl rfl ?_
      refine TL.nil ?_
      refine TC.cond (b := ((Int.tdiv place5 2) == 0)) rfl (fun h4 => ?_) (fun h4 => ?_)
      · have h := cond_t h h4
        refine TC.seq ?_
        refine TC.region ?_
        refine op0 (sp_assign rfl rfl) rfl trivial rfl rfl ?_
        refine TL.nil ?_
        cases h
        exact retJ [] (.tmp rfl .nil) rfl trivial rfl rfl
      · have h := cond_f h h4
        refine TC.skip ?_
        refine TC.seq ?_
        refine TC.region ?_
        refine op0 (sp_move rfl rfl) rfl trivial rfl rfl ?_
        refine op0 (sp_assign rfl rfl) rfl trivial rfl rfl ?_
        refine TL.nil ?_
        cases h
        exact retJ [] (.tmp rfl .nil) rfl trivial rfl rfl
  · have h := cond_f h h1
    refine TC.skip ?_
    refine TC.seq ?_
    refine TC.seq ?_
    refine TC.region ?_
    refine op0 (sp_move rfl rfl) rfl trivial rfl rfl ?_
    refine op0 (sp_eql rfl rfl rfl) rfl trivial rfl rfl ?_
    refine TL.nil ?_
    refine TC.cond (b := (place5 == 0)) rfl (fun h5 => ?_) (fun h5 => ?_)
    · have h := cond_t h h5
      refine TC.seq ?_
      refine TC.region ?_
      refine op0 (sp_assign rfl rfl) rfl trivial rfl rfl ?_
      refine TL.nil ?_
      cases h
      exact retJ [] (.tmp rfl .nil) rfl trivial rfl rfl
    · have h := cond_f h h5
      refine TC.skip ?_
      refine TC.seq ?_
      refine TC.region ?_
      refine op0 (sp_move rfl rfl) rfl trivial rfl rfl ?_
      refine op0 (sp_assign rfl rfl) rfl trivial rfl rfl ?_
      refine TL.nil ?_
      cases h
      exact retJ [] (.tmp rfl .nil) rfl trivial rfl rfl
/- strike_train_blows -/
def ev_strike_train_blows (n : Nat) (t1 : Bool) (t2 : Bool) (t3 : List (Int × Int)) (t4 : Int) (slot5 : Int) (place6 : Int) : Option Int :=
  (ev_strike_train_isSilent n t1 t2 t3 t4 slot5).bind fun r7 => cond r7 (some 0) ((ev_strike_train_at n t1 t2 t3 t4 place6).bind fun r8 => some r8)
set_option maxRecDepth 100000 in
set_option maxHeartbeats 2000000 in
theorem fc_strike_train_blows {n : Nat} {t1 : Bool} {t2 : Bool} {t3 : List (Int × Int)} {t4 : Int} {slot5 : Int} {place6 : Int} {r : Int} (h : ev_strike_train_blows n t1 t2 t3 t4 slot5 place6 = some r) : FC Try.prog 44 [.agg [.val (.bool t1), .val (.bool t2), .ref 0, .val (.int .i64 t4)], .val (.int .i64 slot5), .val (.int .i64 place6)] [.ro 0 2 (List.map en_api_Span t3)] (.val (.int .i64 r)) [] := by
  refine introJ (nz := 13) Try.func44 rfl rfl rfl (fun w0 R0 env0 => ?_)
  rw [ev_strike_train_blows] at h
  refine TC.seq ?_
  refine TC.region ?_
  refine op0 (sp_box 1 rfl rfl rfl rfl rfl) rfl trivial rfl rfl ?_
  refine op0 (sp_assign rfl rfl) rfl trivial rfl rfl ?_
  refine TL.nil ?_
  refine TC.seq ?_
  refine TC.seq ?_
  refine TC.region ?_
  refine op1 0 rfl (sp_loadBA rfl isBlk rfl vt84 rfl rfl) rfl trivial rfl rfl ?_
  refine op0 (sp_move rfl rfl) rfl trivial rfl rfl ?_
  obtain ⟨r7, h1, h⟩ := bind_inv h
  refine op1 1 rfl (sp_call (avs := [.agg [.val (.bool t1), .val (.bool t2), .ref 0, .val (.int .i64 t4)], .val (.int .i64 slot5)]) (need := [.ro 0 2 (List.map en_api_Span t3)]) (v := .val (.bool r7)) (news := []) rfl rfl rfl Try.call59 (atJ [] [] (fc_strike_train_isSilent h1) rfl rfl) (.inl (roAll rfl))) rfl trivial rfl rfl ?_
  refine TL.nil ?_
  refine TC.cond (b := r7) rfl (fun h2 => ?_) (fun h2 => ?_)
  · have h := cond_t h h2
    refine TC.seq ?_
    refine TC.region ?_
    refine op0 (sp_assign rfl rfl) rfl trivial rfl rfl ?_
    refine TL.nil ?_
    cases h
    exact retJ [] (.tmp rfl .nil) rfl trivial rfl rfl
  · have h := cond_f h h2
    refine TC.skip ?_
    refine TC.seq ?_
    refine TC.region ?_
    refine op1 0 rfl (sp_loadBA rfl isBlk rfl vt84 rfl rfl) rfl trivial rfl rfl ?_
    refine op0 (sp_move rfl rfl) rfl trivial rfl rfl ?_
    obtain ⟨r8, h3, h⟩ := bind_inv h
    refine op1 1 rfl (sp_call (avs := [.agg [.val (.bool t1), .val (.bool t2), .ref 0, .val (.int .i64 t4)], .val (.int .i64 place6)]) (need := [.ro 0 2 (List.map en_api_Span t3)]) (v := .val (.int .i64 r8)) (news := []) rfl rfl rfl Try.call60 (atJ [] [] (fc_strike_train_at h3) rfl rfl) (.inl (roAll rfl))) rfl trivial rfl rfl ?_
    refine op0 (sp_assign rfl rfl) rfl trivial rfl rfl ?_
    refine TL.nil ?_
    cases h
    exact retJ [] (.tmp rfl .nil) rfl trivial rfl rfl
/- strike_Day -/
def ev_strike_Day_l0 (n : Nat) (r4 : Bool × Bool × (List (Int × Int)) × Int × Int) : Nat → Int → Int → Option (Int × Int)
  | 0, _, _ => none
  | m + 1, i5, i6 => cond (decide (i6 < ((2 : Int) * r4.2.2.2.1))) (chk (r4.2.2.2.1 != 0) <| (ev_strike_train_blows n r4.1 r4.2.1 r4.2.2.1 r4.2.2.2.1 i6 (Int.tmod i6 r4.2.2.2.1)).bind fun r7 => chk (in64 (i5 + r7)) <| chk (in64 (i6 + 1)) <| ev_strike_Day_l0 n r4 m (i5 + r7) (i6 + 1)) (some (i5, 0))
set_option maxRecDepth 100000 in
set_option maxHeartbeats 2000000 in
theorem ok_strike_Day_l0 {n : Nat} {w0 : World} {R0 : Nat → Prop} {env0 : Env} {r : Int × Int} {r4 : Bool × Bool × (List (Int × Int)) × Int × Int} : ∀ (m : Nat) (i5 : Int) (i6 : Int), ev_strike_Day_l0 n r4 m i5 i6 = some r → TC Try.prog ⟨w0, fun _ => False, R0⟩ 31 (bodyPost Try.prog Try.f16 (Post ⟨w0, fun _ => False, R0⟩ env0 (.tup [.val (.int .i64 r.1), .val (.int .i64 r.2)]) [])) [.code (sub (bodyOf Try.f16) [1, 1, 1, 0, 1, 0, 0, 0]), .code (sub (bodyOf Try.f16) [1, 1, 1, 0, 1, 0, 0, 1]), .inLoop (sub (bodyOf Try.f16) [1, 1, 1, 0, 1, 0, 0]), .inBlock 0, .code (sub (bodyOf Try.f16) [1, 1, 1, 1])] ([(2, .val (.int .i64 i5)), (4, .ptr 3 0), (16, .val (.int .i64 ((2 : Int) * r4.2.2.2.1))), (17, .val (.int .i64 i6))]) ([.blk 3 [.val (.bool r4.1), .val (.bool r4.2.1), .ref 2, .val (.int .i64 r4.2.2.2.1)] 84, .ro 2 2 (List.map en_api_Span r4.2.2.1)]) := by
  intro m
  induction m with
  | zero => intro i5 i6 h; exact none_no h
  | succ m ih =>
    intro i5 i6 h
    rw [ev_strike_Day_l0] at h
    refine TC.region ?_
    refine op0 (sp_lss rfl rfl rfl) rfl trivial rfl rfl ?_
    refine TL.nil ?_
    refine TC.seq ?_
    refine TC.cond (b := (decide (i6 < ((2 : Int) * r4.2.2.2.1)))) rfl (fun h4 => ?_) (fun h4 => ?_)
    · have h := cond_t h h4
      refine TC.skip ?_
      refine TC.seq ?_
      refine TC.block ?_
      refine TC.seq ?_
      refine TC.region ?_
      refine op0 (sp_move rfl rfl) rfl trivial rfl rfl ?_
      refine op0 (sp_assign rfl rfl) rfl trivial rfl rfl ?_
      refine TL.nil ?_
      obtain ⟨h5, h⟩ := chk_inv h
      obtain ⟨r7, h6, h⟩ := bind_inv h
      refine drawJ 8 [⟨.val (.int .i64 i5), [], [], []⟩, ⟨.agg [.val (.bool r4.1), .val (.bool r4.2.1), .ref 2, .val (.int .i64 r4.2.2.2.1)], [], [.blk 3 [.val (.bool r4.1), .val (.bool r4.2.1), .ref 2, .val (.int .i64 r4.2.2.2.1)] 84], []⟩, ⟨.val (.int .i64 i6), [], [], []⟩, ⟨.val (.int .i64 i6), [], [], []⟩, ⟨.ptr 3 3, [], [.blk 3 [.val (.bool r4.1), .val (.bool r4.2.1), .ref 2, .val (.int .i64 r4.2.2.2.1)] 84], []⟩, ⟨.val (.int .i64 r4.2.2.2.1), [], [.blk 3 [.val (.bool r4.1), .val (.bool r4.2.1), .ref 2, .val (.int .i64 r4.2.2.2.1)] 84], []⟩, ⟨.val (.int .i64 (Int.tmod i6 r4.2.2.2.1)), [], [], []⟩, ⟨.val (.int .i64 r7), [], [.ro 2 2 (List.map en_api_Span r4.2.2.1)], []⟩] rfl ?_ rfl ?_ rfl ?_ ?_
      · kernel_rfl
      · kernel_rfl
      · exact DAll.op' (sp_move rfl rfl) trivial rfl (From.ok (ps := []) trivial) (DAll.op' (sp_loadBA rfl isBlk rfl vt84 rfl rfl) trivial rfl (From.ok (ps := [(none, 0)]) ⟨⟨rfl, rfl⟩, trivial⟩) (DAll.op' (sp_move rfl rfl) trivial rfl (From.ok (ps := []) trivial) (DAll.op' (sp_move rfl rfl) trivial rfl (From.ok (ps := []) trivial) (DAll.op' (sp_fieldAddrB rfl isBlk rfl ft84_1 vt3 (by decide)) trivial rfl (From.ok (ps := [(none, 0)]) ⟨⟨rfl, rfl⟩, trivial⟩) (DAll.op' (sp_loadB rfl isBlk rfl vt3 rfl) trivial rfl (From.ok (ps := [(none, 0)]) ⟨⟨rfl, rfl⟩, trivial⟩) (DAll.op' (sp_rem rfl rfl rfl h5) trivial rfl (From.ok (ps := []) trivial) (DAll.op' (sp_call (avs := [.agg [.val (.bool r4.1), .val (.bool r4.2.1), .ref 2, .val (.int .i64 r4.2.2.2.1)], .val (.int .i64 i6), .val (.int .i64 (Int.tmod i6 r4.2.2.2.1))]) (need := [.ro 2 2 (List.map en_api_Span r4.2.2.1)]) (v := .val (.int .i64 r7)) (news := []) rfl rfl rfl Try.call44 (atJ [(0, 2)] [] (fc_strike_train_blows h6) rfl rfl) (.inl (roAll rfl))) trivial rfl (From.ok (ps := [(none, 1)]) ⟨⟨rfl, rfl⟩, trivial⟩) (.nil))))))))
      obtain ⟨h7, h⟩ := chk_inv h
      refine op0 (sp_add rfl rfl rfl h7) rfl trivial rfl rfl ?_
      refine op0 (sp_assign rfl rfl) rfl trivial rfl rfl ?_
      refine TL.nil ?_
      refine TC.inBlock ?_
      refine TC.region ?_
      obtain ⟨h8, h⟩ := chk_inv h
      refine op0 (sp_add rfl rfl rfl h8) rfl trivial rfl rfl ?_
      refine op0 (sp_move rfl rfl) rfl trivial rfl rfl ?_
      refine TL.nil ?_
      refine TC.inLoop ?_
      refine TC.seq ?_
      refine subJ [] (ih _ _ h) ?_ ?_ ?_
      · exact ⟨rfl, rfl, rfl, rfl, trivial⟩
      · exact ⟨mem_at 0 rfl, mem_at 1 rfl, trivial⟩
      · rfl
    · have h := cond_f h h4
      refine TC.exit rfl ?_
      refine TC.seq ?_
      refine TC.region ?_
      refine op0 (sp_move rfl rfl) rfl trivial rfl rfl ?_
      refine op0 (sp_assign rfl rfl) rfl trivial rfl rfl ?_
      refine op0 (sp_assign rfl rfl) rfl trivial rfl rfl ?_
      refine TL.nil ?_
      cases h
      exact retJ [] (.tmp rfl (.tmp rfl .nil)) rfl trivial rfl rfl
def ev_strike_Day (n : Nat) (rr1 : Bool) (rr2 : Bool) (rr3 : List (Int × Int)) : Option (Int × Int) :=
  (ev_strike_open n rr1 rr2 rr3).bind fun r4 => cond (r4.2.2.2.2 != 0) (some (0, r4.2.2.2.2)) (chk (in64 ((2 : Int) * r4.2.2.2.1)) <| ev_strike_Day_l0 n r4 n 0 0)
set_option maxRecDepth 100000 in
set_option maxHeartbeats 2000000 in
theorem fc_strike_Day {n : Nat} {rr1 : Bool} {rr2 : Bool} {rr3 : List (Int × Int)} {r : Int × Int} (h : ev_strike_Day n rr1 rr2 rr3 = some r) : FC Try.prog 16 [.agg [.val (.bool rr1), .val (.bool rr2), .ref 0]] [.ro 0 2 (List.map en_api_Span rr3)] (.tup [.val (.int .i64 r.1), .val (.int .i64 r.2)]) [] := by
  refine introJ (nz := 31) Try.func16 rfl rfl rfl (fun w0 R0 env0 => ?_)
  rw [ev_strike_Day] at h
  refine TC.seq ?_
  refine TC.region ?_
  refine op0 (sp_box 1 rfl rfl rfl rfl rfl) rfl trivial rfl rfl ?_
  refine op0 (sp_assign rfl rfl) rfl trivial rfl rfl ?_
  refine op0 (sp_assign rfl rfl) rfl trivial rfl rfl ?_
  refine TL.nil ?_
  refine TC.seq ?_
  refine TC.region ?_
  refine op1 0 rfl (sp_loadBA rfl isBlk rfl vt24 rfl rfl) rfl trivial rfl rfl ?_
  obtain ⟨r4, h1, h⟩ := bind_inv h
  refine op1 1 rfl (sp_call (avs := [.agg [.val (.bool rr1), .val (.bool rr2), .ref 0]]) (need := [.ro 0 2 (List.map en_api_Span rr3)]) (v := .tup [.agg [.val (.bool r4.1), .val (.bool r4.2.1), .ref 2, .val (.int .i64 r4.2.2.2.1)], .val (.int .i64 r4.2.2.2.2)]) (news := [.ro 2 2 (List.map en_api_Span r4.2.2.1)]) rfl rfl rfl Try.call42 (atJ [] [(0, 2)] (fc_strike_open h1) rfl rfl) (.inl (roAll rfl))) rfl trivial rfl rfl ?_
  refine op0 (sp_move rfl rfl) rfl trivial rfl rfl ?_
  refine op0 (sp_extract rfl rfl rfl) rfl trivial rfl rfl ?_
  refine op0 (sp_extract rfl rfl rfl) rfl trivial rfl rfl ?_
  refine op0 (sp_alloc 3 rfl Try.zeroValue84 rfl) rfl trivial rfl rfl ?_
  refine stoB 0 (cells' := [.val (.bool r4.1), .val (.bool r4.2.1), .ref 2, .val (.int .i64 r4.2.2.2.1)]) rfl rfl trivial rfl rfl rfl rfl vt84 rfl rfl rfl ?_
  refine op0 (sp_assign rfl rfl) rfl trivial rfl rfl ?_
  refine TL.nil ?_
  refine TC.seq ?_
  refine TC.seq ?_
  refine TC.region ?_
  refine op0 (sp_move rfl rfl) rfl trivial rfl rfl ?_
  refine op0 (sp_neq rfl rfl rfl) rfl trivial rfl rfl ?_
  refine TL.nil ?_
  refine TC.cond (b := (r4.2.2.2.2 != 0)) rfl (fun h2 => ?_) (fun h2 => ?_)
  · have h := cond_t h h2
    refine TC.seq ?_
    refine TC.region ?_
    refine op0 (sp_move rfl rfl) rfl trivial rfl rfl ?_
    refine op0 (sp_assign rfl rfl) rfl trivial rfl rfl ?_
    refine op0 (sp_assign rfl rfl) rfl trivial rfl rfl ?_
    refine TL.nil ?_
    cases h
    exact retJ [] (.tmp rfl (.tmp rfl .nil)) rfl trivial rfl rfl
  · have h := cond_f h h2
    refine TC.skip ?_
    refine TC.seq ?_
    refine TC.seq ?_
    refine TC.region ?_
    refine op1 0 rfl (sp_fieldAddrB rfl isBlk rfl ft84_1 vt3 (by decide)) rfl trivial rfl rfl ?_
    refine op1 0 rfl (sp_loadB rfl isBlk rfl vt3 rfl) rfl trivial rfl rfl ?_
    obtain ⟨h3, h⟩ := chk_inv h
    refine op0 (sp_mul rfl rfl rfl h3) rfl trivial rfl rfl ?_
    refine op0 (sp_move rfl rfl) rfl trivial rfl rfl ?_
    refine TL.nil ?_
    refine TC.block ?_
    refine TC.loop ?_
    refine TC.seq ?_
    refine subJ [] (ok_strike_Day_l0 _ _ _ h) ?_ ?_ ?_
    · exact ⟨rfl, rfl, rfl, rfl, trivial⟩
    · exact ⟨mem_at 0 rfl, mem_at 1 rfl, trivial⟩
    · rfl
/- strike_isSlot -/
def ev_strike_isSlot (n : Nat) (nn1 : Int) : Option Bool :=
  (ev_strike_within n 0 2000000 ([nn1] : List Int)).bind fun r2 => some r2
set_option maxRecDepth 100000 in
set_option maxHeartbeats 2000000 in
theorem fc_strike_isSlot {n : Nat} {nn1 : Int} {r : Bool} (h : ev_strike_isSlot n nn1 = some r) : FC Try.prog 43 [.val (.int .i64 nn1)] [] (.val (.bool r)) [] := by
  refine introJ (nz := 6) Try.func43 rfl rfl rfl (fun w0 R0 env0 => ?_)
  rw [ev_strike_isSlot] at h
  refine TC.seq ?_
  refine TC.region ?_
  refine op0 (sp_assign rfl rfl) rfl trivial rfl rfl ?_
  refine TL.nil ?_
  refine TC.seq ?_
  refine TC.region ?_
  refine op0 (sp_move rfl rfl) rfl trivial rfl rfl ?_
  refine op0 (sp_buildSlice (qs := [.val (.int .i64 nn1)]) (need := []) (els := List.map en_int ([nn1] : List Int)) 0 rfl sl39 (by decide) (by decide) rfl rfl rfl (.v (.nil)) (map_len fun _ => rfl) rfl rfl rfl) rfl trivial rfl rfl ?_
  obtain ⟨r2, h1, h⟩ := bind_inv h
  refine op1 0 rfl (sp_call (avs := [.val (.int .i64 0), .val (.int .i64 2000000), .ref 0]) (need := [.row 0 3 1 (List.map en_int ([nn1] : List Int))]) (v := .val (.bool r2)) (news := []) rfl rfl rfl Try.call40 (atJ [] [] (fc_strike_within h1) rfl rfl) (.inr (fun x hx => nomatch hx))) rfl trivial rfl rfl ?_
  refine op0 (sp_assign rfl rfl) rfl trivial rfl rfl ?_
  refine TL.nil ?_
  cases h
  exact retJ [] (.tmp rfl .nil) rfl trivial rfl rfl
/- strike_Blows -/
def ev_strike_Blows (n : Nat) (rr1 : Bool) (rr2 : Bool) (rr3 : List (Int × Int)) (slot4 : Int) : Option (Int × Int) :=
  (ev_strike_open n rr1 rr2 rr3).bind fun r5 => cond (r5.2.2.2.2 != 0) (some (0, r5.2.2.2.2)) ((ev_strike_isSlot n slot4).bind fun r6 => cond (!r6) (some (0, 3)) (chk (r5.2.2.2.1 != 0) <| (ev_strike_train_blows n r5.1 r5.2.1 r5.2.2.1 r5.2.2.2.1 slot4 (Int.tmod slot4 r5.2.2.2.1)).bind fun r7 => some (r7, 0)))
set_option maxRecDepth 100000 in
set_option maxHeartbeats 2000000 in
theorem fc_strike_Blows {n : Nat} {rr1 : Bool} {rr2 : Bool} {rr3 : List (Int × Int)} {slot4 : Int} {r : Int × Int} (h : ev_strike_Blows n rr1 rr2 rr3 slot4 = some r) : FC Try.prog 15 [.agg [.val (.bool rr1), .val (.bool rr2), .ref 0], .val (.int .i64 slot4)] [.ro 0 2 (List.map en_api_Span rr3)] (.tup [.val (.int .i64 r.1), .val (.int .i64 r.2)]) [] := by
  refine introJ (nz := 28) Try.func15 rfl rfl rfl (fun w0 R0 env0 => ?_)
  rw [ev_strike_Blows] at h
  refine TC.seq ?_
  refine TC.region ?_
  refine op0 (sp_box 1 rfl rfl rfl rfl rfl) rfl trivial rfl rfl ?_
  refine op0 (sp_assign rfl rfl) rfl trivial rfl rfl ?_
  refine op0 (sp_assign rfl rfl) rfl trivial rfl rfl ?_
  refine TL.nil ?_
  refine TC.seq ?_
  refine TC.region ?_
  refine op1 0 rfl (sp_loadBA rfl isBlk rfl vt24 rfl rfl) rfl trivial rfl rfl ?_
  obtain ⟨r5, h1, h⟩ := bind_inv h
  refine op1 1 rfl (sp_call (avs := [.agg [.val (.bool rr1), .val (.bool rr2), .ref 0]]) (need := [.ro 0 2 (List.map en_api_Span rr3)]) (v := .tup [.agg [.val (.bool r5.1), .val (.bool r5.2.1), .ref 2, .val (.int .i64 r5.2.2.2.1)], .val (.int .i64 r5.2.2.2.2)]) (news := [.ro 2 2 (List.map en_api_Span r5.2.2.1)]) rfl rfl rfl Try.call42 (atJ [] [(0, 2)] (fc_strike_open h1) rfl rfl) (.inl (roAll rfl))) rfl trivial rfl rfl ?_
  refine op0 (sp_move rfl rfl) rfl trivial rfl rfl ?_
  refine op0 (sp_extract rfl rfl rfl) rfl trivial rfl rfl ?_
  refine op0 (sp_extract rfl rfl rfl) rfl trivial rfl rfl ?_
  refine op0 (sp_alloc 3 rfl Try.zeroValue84 rfl) rfl trivial rfl rfl ?_
  refine stoB 0 (cells' := [.val (.bool r5.1), .val (.bool r5.2.1), .ref 2, .val (.int .i64 r5.2.2.2.1)]) rfl rfl trivial rfl rfl rfl rfl vt84 rfl rfl rfl ?_
  refine op0 (sp_assign rfl rfl) rfl trivial rfl rfl ?_
  refine TL.nil ?_
  refine TC.seq ?_
  refine TC.block ?_
  refine TC.seq ?_
  refine TC.region ?_
  refine op0 (sp_move rfl rfl) rfl trivial rfl rfl ?_
  refine op0 (sp_neq rfl rfl rfl) rfl trivial rfl rfl ?_
  refine op0 (sp_assign rfl rfl) rfl trivial rfl rfl ?_
  refine TL.nil ?_
  refine TC.cond (b := (r5.2.2.2.2 != 0)) rfl (fun h2 => ?_) (fun h2 => ?_)
  · have h := cond_t h h2
    refine TC.seq ?_
    refine TC.region ?_
    refine op0 (sp_move rfl rfl) rfl trivial rfl rfl ?_
    refine op0 (sp_assign rfl rfl) rfl trivial rfl rfl ?_
    refine op0 (sp_assign rfl rfl) rfl trivial rfl rfl ?_
    refine TL.nil ?_
    cases h
    exact retJ [] (.tmp rfl (.tmp rfl .nil)) rfl trivial rfl rfl
  · have h := cond_f h h2
    refine TC.seq ?_
    refine TC.region ?_
    refine op0 (sp_move rfl rfl) rfl trivial rfl rfl ?_
    obtain ⟨r6, h3, h⟩ := bind_inv h
    refine op0 (sp_call (avs := [.val (.int .i64 slot4)]) (need := []) (v := .val (.bool r6)) (news := []) rfl rfl rfl Try.call43 (atJ [] [] (fc_strike_isSlot h3) rfl rfl) (.inl (roAll rfl))) rfl trivial rfl rfl ?_
    refine op0 (sp_not rfl rfl) rfl trivial rfl rfl ?_
    refine op0 (sp_assign rfl rfl) rfl trivial rfl rfl ?_
    refine TL.nil ?_
    refine TC.cond (b := (!r6)) rfl (fun h4 => ?_) (fun h4 => ?_)
    · have h := cond_t h h4
      refine TC.seq ?_
      refine TC.region ?_
      refine op0 (sp_assign rfl rfl) rfl trivial rfl rfl ?_
      refine op0 (sp_assign rfl rfl) rfl trivial rfl rfl ?_
      refine TL.nil ?_
      cases h
      exact retJ [] (.tmp rfl (.tmp rfl .nil)) rfl trivial rfl rfl
    · have h := cond_f h h4
      refine TC.skip ?_
      refine TC.inBlock ?_
      refine TC.seq ?_
      obtain ⟨h5, h⟩ := chk_inv h
      refine drawJ 6 [⟨.agg [.val (.bool r5.1), .val (.bool r5.2.1), .ref 2, .val (.int .i64 r5.2.2.2.1)], [], [.blk 3 [.val (.bool r5.1), .val (.bool r5.2.1), .ref 2, .val (.int .i64 r5.2.2.2.1)] 84], []⟩, ⟨.val (.int .i64 slot4), [], [], []⟩, ⟨.val (.int .i64 slot4), [], [], []⟩, ⟨.ptr 3 3, [], [.blk 3 [.val (.bool r5.1), .val (.bool r5.2.1), .ref 2, .val (.int .i64 r5.2.2.2.1)] 84], []⟩, ⟨.val (.int .i64 r5.2.2.2.1), [], [.blk 3 [.val (.bool r5.1), .val (.bool r5.2.1), .ref 2, .val (.int .i64 r5.2.2.2.1)] 84], []⟩, ⟨.val (.int .i64 (Int.tmod slot4 r5.2.2.2.1)), [], [], []⟩] rfl ?_ rfl ?_ rfl ?_ ?_
      · kernel_rfl
      · kernel_rfl
      · exact DAll.op' (sp_loadBA rfl isBlk rfl vt84 rfl rfl) trivial rfl (From.ok (ps := [(none, 0)]) ⟨⟨rfl, rfl⟩, trivial⟩) (DAll.op' (sp_move rfl rfl) trivial rfl (From.ok (ps := []) trivial) (DAll.op' (sp_move rfl rfl) trivial rfl (From.ok (ps := []) trivial) (DAll.op' (sp_fieldAddrB rfl isBlk rfl ft84_1 vt3 (by decide)) trivial rfl (From.ok (ps := [(none, 0)]) ⟨⟨rfl, rfl⟩, trivial⟩) (DAll.op' (sp_loadB rfl isBlk rfl vt3 rfl) trivial rfl (From.ok (ps := [(none, 0)]) ⟨⟨rfl, rfl⟩, trivial⟩) (DAll.op' (sp_rem rfl rfl rfl h5) trivial rfl (From.ok (ps := []) trivial) (.nil))))))
      obtain ⟨r7, h6, h⟩ := bind_inv h
      refine op1 1 rfl (sp_call (avs := [.agg [.val (.bool r5.1), .val (.bool r5.2.1), .ref 2, .val (.int .i64 r5.2.2.2.1)], .val (.int .i64 slot4), .val (.int .i64 (Int.tmod slot4 r5.2.2.2.1))]) (need := [.ro 2 2 (List.map en_api_Span r5.2.2.1)]) (v := .val (.int .i64 r7)) (news := []) rfl rfl rfl Try.call44 (atJ [(0, 2)] [] (fc_strike_train_blows h6) rfl rfl) (.inl (roAll rfl))) rfl trivial rfl rfl ?_
      refine op0 (sp_assign rfl rfl) rfl trivial rfl rfl ?_
      refine op0 (sp_assign rfl rfl) rfl trivial rfl rfl ?_
      refine TL.nil ?_
      cases h
      exact retJ [] (.tmp rfl (.tmp rfl .nil)) rfl trivial rfl rfl
/- strike_checkHeard -/
def ev_strike_checkHeard_l0 (n : Nat) (l1 : List (Int × Int)) : Nat → Int → (List (Int × Int)) → Option Int
  | 0, _, _ => none
  | m + 1, i2, l3 => cond (decide (i2 < (l1.length : Int))) (idx l3 i2 fun x4 => (ev_strike_isSlot n x4.1).bind fun r5 => cond (!r5) (some 2) ((ev_strike_within n 0 12 ([x4.2] : List Int)).bind fun r6 => cond (!r6) (some 2) (cond (decide ((0 : Int) < i2)) (chk (in64 (i2 - 1)) <| idx l3 (i2 - 1) fun x7 => cond (decide (x4.1 ≤ x7.1)) (some 2) (chk (in64 (i2 + 1)) <| ev_strike_checkHeard_l0 n l1 m (i2 + 1) l3)) (chk (in64 (i2 + 1)) <| ev_strike_checkHeard_l0 n l1 m (i2 + 1) l3)))) (chk (in64 ((l3.length : Int) - 1)) <| idx l3 ((l3.length : Int) - 1) fun x8 => idx l3 0 fun x9 => chk (in64 (x8.1 - x9.1)) <| cond (decide ((2000 : Int) ≤ (x8.1 - x9.1))) (some 5) (some 0))
set_option maxRecDepth 100000 in
set_option maxHeartbeats 2000000 in
theorem ok_strike_checkHeard_l0 {n : Nat} {w0 : World} {R0 : Nat → Prop} {env0 : Env} {r : Int} {l1 : List (Int × Int)} : ∀ (m : Nat) (i2 : Int) (l3 : List (Int × Int)), ev_strike_checkHeard_l0 n l1 m i2 l3 = some r → TC Try.prog ⟨w0, fun _ => False, R0⟩ 60 (bodyPost Try.prog Try.f47 (Post ⟨w0, fun _ => False, R0⟩ env0 (.val (.int .i64 r)) [])) [.code (sub (bodyOf Try.f47) [1, 1, 0, 1, 0, 0, 0]), .code (sub (bodyOf Try.f47) [1, 1, 0, 1, 0, 0, 1]), .inLoop (sub (bodyOf Try.f47) [1, 1, 0, 1, 0, 0]), .inBlock 1, .code (sub (bodyOf Try.f47) [1, 1, 1])] ([(0, .ref 0), (13, .ref 0), (14, .val (.int .i64 (l1.length : Int))), (15, .val (.int .i64 i2))]) ([.ro 0 2 (List.map en_api_StrikeHeard l3)]) := by
  intro m
  induction m with
  | zero => intro i2 l3 h; exact none_no h
  | succ m ih =>
    intro i2 l3 h
    rw [ev_strike_checkHeard_l0] at h
    refine TC.region ?_
    refine op0 (sp_lss rfl rfl rfl) rfl trivial rfl rfl ?_
    refine TL.nil ?_
    refine TC.seq ?_
    refine TC.cond (b := (decide (i2 < (l1.length : Int)))) rfl (fun h3 => ?_) (fun h3 => ?_)
    · have h := cond_t h h3
      refine TC.skip ?_
      refine TC.seq ?_
      refine TC.block ?_
      refine TC.seq ?_
      refine TC.region ?_
      refine op0 (sp_move rfl rfl) rfl trivial rfl rfl ?_
      obtain ⟨x4, h4, h5, h⟩ := idx_inv h
      refine op1 0 rfl (sp_indexS rfl rfl rfl isRo sl37 h4 (map_get _ h5)) rfl trivial rfl rfl ?_
      refine op1 0 rfl (sp_loadRA (i := (i2 : Int).toNat) (j := 0) (as_ := [.val (.int .i64 x4.1), .val (.int .i64 x4.2)]) (ns := []) rfl rfl isRo vt43 rfl (map_get _ h5) rfl rfl (by decide) (.v (.v (.nil))) (nodup_of_B rfl)) rfl trivial rfl rfl ?_
      refine op0 (sp_alloc 1 rfl Try.zeroValue43 rfl) rfl trivial rfl rfl ?_
      refine op0 (sp_assign rfl rfl) rfl trivial rfl rfl ?_
      refine stoB 0 (cells' := [.val (.int .i64 x4.1), .val (.int .i64 x4.2)]) rfl rfl trivial rfl rfl rfl rfl vt43 rfl rfl rfl ?_
      refine TL.nil ?_
      refine TC.seq ?_
      obtain ⟨r5, h6, h⟩ := bind_inv h
      rcases cond_cases h with ⟨h7, h⟩ | ⟨h7, h⟩
      · refine drawJ 23 [⟨.ptr 1 0, [], [.blk 1 [.val (.int .i64 x4.1), .val (.int .i64 x4.2)] 43], []⟩, ⟨.val (.int .i64 x4.1), [], [.blk 1 [.val (.int .i64 x4.1), .val (.int .i64 x4.2)] 43], []⟩, ⟨.val (.bool r5), [], [], []⟩, ⟨.val (.bool (!r5)), [], [], []⟩, ⟨.val (.bool true), [], [], []⟩, ⟨.val (undef), [], [], []⟩, ⟨.val (undef), [], [], []⟩, ⟨.val (undef), [], [], []⟩, ⟨.val (undef), [], [], []⟩, ⟨.val (undef), [], [], []⟩, ⟨.val (.bool true), [], [], []⟩, ⟨.val (.bool true), [], [], []⟩, ⟨.val (undef), [], [], []⟩, ⟨.val (undef), [], [], []⟩, ⟨.val (undef), [], [], []⟩, ⟨.val (undef), [], [], []⟩, ⟨.val (undef), [], [], []⟩, ⟨.val (undef), [], [], []⟩, ⟨.val (undef), [], [], []⟩, ⟨.val (undef), [], [], []⟩, ⟨.val (undef), [], [], []⟩, ⟨.val (undef), [], [], []⟩, ⟨.val (undef), [], [], []⟩] rfl ?_ rfl ?_ rfl ?_ ?_
        · kernel_rfl
        · kernel_rfl
        · exact DAll.op' (sp_fieldAddrB rfl isBlk rfl ft43_0 vt3 (by decide)) trivial rfl (From.ok (ps := [(none, 0)]) ⟨⟨rfl, by kernel_rfl⟩, trivial⟩) (DAll.op' (sp_loadB rfl isBlk rfl vt3 rfl) trivial rfl (From.ok (ps := [(none, 0)]) ⟨⟨rfl, by kernel_rfl⟩, trivial⟩) (DAll.op' (sp_call (avs := [.val (.int .i64 x4.1)]) (need := []) (v := .val (.bool r5)) (news := []) rfl rfl rfl Try.call43 (atJ [] [] (fc_strike_isSlot h6) rfl rfl) (.inl (roAll rfl))) trivial rfl (From.ok (ps := []) trivial) (DAll.op' (sp_not rfl rfl) trivial rfl (From.ok (ps := []) trivial) (DAll.op' (sp_castB h7 (sp_move rfl rfl)) trivial rfl (From.ok (ps := []) trivial) (.skip ⟨_, rfl, .inl rfl⟩ rfl rfl rfl (.skip ⟨_, rfl, .inl rfl⟩ rfl rfl rfl (.skip ⟨_, rfl, .inl rfl⟩ rfl rfl rfl (.skip ⟨_, rfl, .inl rfl⟩ rfl rfl rfl (.skip ⟨_, rfl, .inl rfl⟩ rfl rfl rfl (DAll.op' (sp_pickT rfl rfl rfl) trivial rfl (From.ok (ps := []) trivial) (DAll.op' (sp_move rfl rfl) trivial rfl (From.ok (ps := []) trivial) (.skip ⟨_, rfl, .inl rfl⟩ rfl rfl rfl (.skip ⟨_, rfl, .inl rfl⟩ rfl rfl rfl (.skip ⟨_, rfl, .inl rfl⟩ rfl rfl rfl (.skip ⟨_, rfl, .inr rfl⟩ rfl rfl rfl (.skip ⟨_, rfl, .inr rfl⟩ rfl rfl rfl (.skip ⟨_, rfl, .inr rfl⟩ rfl rfl rfl (.skip ⟨_, rfl, .inr rfl⟩ rfl rfl rfl (.skip ⟨_, rfl, .inr rfl⟩ rfl rfl rfl (.skip ⟨_, rfl, .inr rfl⟩ rfl rfl rfl (.skip ⟨_, rfl, .inr rfl⟩ rfl rfl rfl (.skip ⟨_, rfl, .inr rfl⟩ rfl rfl rfl (.nil)))))))))))))))))))))))
        refine opSkip rfl ⟨_, rfl, .inr rfl⟩ rfl ?_
        refine opSkip rfl ⟨_, rfl, .inl rfl⟩ rfl ?_
        refine op0 (sp_pickT rfl rfl rfl) rfl trivial rfl rfl ?_
        refine TL.nil ?_
        refine TC.condT rfl ?_
        refine TC.seq ?_
        refine TC.region ?_
        refine op0 (sp_assign rfl rfl) rfl trivial rfl rfl ?_
        refine TL.nil ?_
        cases h
        exact retJ [] (.tmp rfl .nil) rfl trivial rfl rfl
      · obtain ⟨r6, h8, h⟩ := bind_inv h
        rcases cond_cases h with ⟨h9, h⟩ | ⟨h9, h⟩
        · refine drawJ 23 [⟨.ptr 1 0, [], [.blk 1 [.val (.int .i64 x4.1), .val (.int .i64 x4.2)] 43], []⟩, ⟨.val (.int .i64 x4.1), [], [.blk 1 [.val (.int .i64 x4.1), .val (.int .i64 x4.2)] 43], []⟩, ⟨.val (.bool r5), [], [], []⟩, ⟨.val (.bool (!r5)), [], [], []⟩, ⟨.val (.bool false), [], [], []⟩, ⟨.ptr 1 1, [], [.blk 1 [.val (.int .i64 x4.1), .val (.int .i64 x4.2)] 43], []⟩, ⟨.val (.int .i64 x4.2), [], [.blk 1 [.val (.int .i64 x4.1), .val (.int .i64 x4.2)] 43], []⟩, ⟨.ref 2, [.row 2 3 1 (List.map en_int ([x4.2] : List Int))], [], []⟩, ⟨.val (.bool r6), [], [.row 2 3 1 (List.map en_int ([x4.2] : List Int))], []⟩, ⟨.val (.bool (!r6)), [], [], []⟩, ⟨.val (.bool (!r6)), [], [], []⟩, ⟨.val (.bool true), [], [], []⟩, ⟨.val (undef), [], [], []⟩, ⟨.val (undef), [], [], []⟩, ⟨.val (undef), [], [], []⟩, ⟨.val (undef), [], [], []⟩, ⟨.val (undef), [], [], []⟩, ⟨.val (undef), [], [], []⟩, ⟨.val (undef), [], [], []⟩, ⟨.val (undef), [], [], []⟩, ⟨.val (undef), [], [], []⟩, ⟨.val (undef), [], [], []⟩, ⟨.val (undef), [], [], []⟩] rfl ?_ rfl ?_ rfl ?_ ?_
          · kernel_rfl
          · kernel_rfl
          · exact DAll.op' (sp_fieldAddrB rfl isBlk rfl ft43_0 vt3 (by decide)) trivial rfl (From.ok (ps := [(none, 0)]) ⟨⟨rfl, by kernel_rfl⟩, trivial⟩) (DAll.op' (sp_loadB rfl isBlk rfl vt3 rfl) trivial rfl (From.ok (ps := [(none, 0)]) ⟨⟨rfl, by kernel_rfl⟩, trivial⟩) (DAll.op' (sp_call (avs := [.val (.int .i64 x4.1)]) (need := []) (v := .val (.bool r5)) (news := []) rfl rfl rfl Try.call43 (atJ [] [] (fc_strike_isSlot h6) rfl rfl) (.inl (roAll rfl))) trivial rfl (From.ok (ps := []) trivial) (DAll.op' (sp_not rfl rfl) trivial rfl (From.ok (ps := []) trivial) (DAll.op' (sp_castB h7 (sp_move rfl rfl)) trivial rfl (From.ok (ps := []) trivial) (DAll.op' (sp_fieldAddrB rfl isBlk rfl ft43_1 vt3 (by decide)) ⟨_, rfl, rfl⟩ rfl (From.ok (ps := [(none, 0)]) ⟨⟨rfl, by kernel_rfl⟩, trivial⟩) (DAll.op' (sp_loadB rfl isBlk rfl vt3 rfl) ⟨_, rfl, rfl⟩ rfl (From.ok (ps := [(none, 0)]) ⟨⟨rfl, by kernel_rfl⟩, trivial⟩) (DAll.op' (sp_buildSlice (qs := [.val (.int .i64 x4.2)]) (need := []) (els := List.map en_int ([x4.2] : List Int)) 2 rfl sl39 (by decide) (by decide) rfl rfl rfl (.v (.nil)) (map_len fun _ => rfl) rfl rfl rfl) ⟨_, rfl, rfl⟩ rfl (From.ok (ps := []) trivial) (DAll.op' (sp_call (avs := [.val (.int .i64 0), .val (.int .i64 12), .ref 2]) (need := [.row 2 3 1 (List.map en_int ([x4.2] : List Int))]) (v := .val (.bool r6)) (news := []) rfl rfl rfl Try.call40 (atJ [(0, 2)] [] (fc_strike_within h8) rfl rfl) (.inr (fun x hx => nomatch hx))) ⟨_, rfl, rfl⟩ rfl (From.ok (ps := [(some 7, 0)]) ⟨⟨_, rfl, by kernel_rfl, rfl, by kernel_rfl⟩, trivial⟩) (DAll.op' (sp_not rfl rfl) ⟨_, rfl, rfl⟩ rfl (From.ok (ps := []) trivial) (DAll.op' (sp_pickF rfl rfl rfl) trivial rfl (From.ok (ps := []) trivial) (DAll.op' (sp_castB h9 (sp_move rfl rfl)) trivial rfl (From.ok (ps := []) trivial) (.skip ⟨_, rfl, .inl rfl⟩ rfl rfl rfl (.skip ⟨_, rfl, .inl rfl⟩ rfl rfl rfl (.skip ⟨_, rfl, .inl rfl⟩ rfl rfl rfl (.skip ⟨_, rfl, .inr rfl⟩ rfl rfl rfl (.skip ⟨_, rfl, .inr rfl⟩ rfl rfl rfl (.skip ⟨_, rfl, .inr rfl⟩ rfl rfl rfl (.skip ⟨_, rfl, .inr rfl⟩ rfl rfl rfl (.skip ⟨_, rfl, .inr rfl⟩ rfl rfl rfl (.skip ⟨_, rfl, .inr rfl⟩ rfl rfl rfl (.skip ⟨_, rfl, .inr rfl⟩ rfl rfl rfl (.skip ⟨_, rfl, .inr rfl⟩ rfl rfl rfl (.nil)))))))))))))))))))))))
          refine opSkip rfl ⟨_, rfl, .inr rfl⟩ rfl ?_
          refine opSkip rfl ⟨_, rfl, .inl rfl⟩ rfl ?_
          refine op0 (sp_pickT rfl rfl rfl) rfl trivial rfl rfl ?_
          refine TL.nil ?_
          refine TC.condT rfl ?_
          refine TC.seq ?_
          refine TC.region ?_
          refine op0 (sp_assign rfl rfl) rfl trivial rfl rfl ?_
          refine TL.nil ?_
          cases h
          exact retJ [] (.tmp rfl .nil) rfl trivial rfl rfl
        · rcases cond_cases h with ⟨h10, h⟩ | ⟨h10, h⟩
          · obtain ⟨h11, h⟩ := chk_inv h
            obtain ⟨x7, h12, h13, h⟩ := idx_inv h
            refine drawJ 23 [⟨.ptr 1 0, [], [.blk 1 [.val (.int .i64 x4.1), .val (.int .i64 x4.2)] 43], []⟩, ⟨.val (.int .i64 x4.1), [], [.blk 1 [.val (.int .i64 x4.1), .val (.int .i64 x4.2)] 43], []⟩, ⟨.val (.bool r5), [], [], []⟩, ⟨.val (.bool (!r5)), [], [], []⟩, ⟨.val (.bool false), [], [], []⟩, ⟨.ptr 1 1, [], [.blk 1 [.val (.int .i64 x4.1), .val (.int .i64 x4.2)] 43], []⟩, ⟨.val (.int .i64 x4.2), [], [.blk 1 [.val (.int .i64 x4.1), .val (.int .i64 x4.2)] 43], []⟩, ⟨.ref 2, [.row 2 3 1 (List.map en_int ([x4.2] : List Int))], [], []⟩, ⟨.val (.bool r6), [], [.row 2 3 1 (List.map en_int ([x4.2] : List Int))], []⟩, ⟨.val (.bool (!r6)), [], [], []⟩, ⟨.val (.bool (!r6)), [], [], []⟩, ⟨.val (.bool false), [], [], []⟩, ⟨.val (.int .i64 i2), [], [], []⟩, ⟨.val (.bool (decide ((0 : Int) < i2))), [], [], []⟩, ⟨.val (.bool true), [], [], []⟩, ⟨.ptr 1 0, [], [.blk 1 [.val (.int .i64 x4.1), .val (.int .i64 x4.2)] 43], []⟩, ⟨.val (.int .i64 x4.1), [], [.blk 1 [.val (.int .i64 x4.1), .val (.int .i64 x4.2)] 43], []⟩, ⟨.ref 0, [], [], []⟩, ⟨.val (.int .i64 i2), [], [], []⟩, ⟨.val (.int .i64 (i2 - 1)), [], [], []⟩, ⟨.cell 0 (((i2 - 1) : Int).toNat * 2), [], [.ro 0 2 (List.map en_api_StrikeHeard l3)], []⟩, ⟨.cell 0 (((i2 - 1) : Int).toNat * 2 + 0), [], [.ro 0 2 (List.map en_api_StrikeHeard l3)], []⟩, ⟨.val (.int .i64 x7.1), [], [.ro 0 2 (List.map en_api_StrikeHeard l3)], []⟩] rfl ?_ rfl ?_ rfl ?_ ?_
            · kernel_rfl
            · kernel_rfl
            · exact DAll.op' (sp_fieldAddrB rfl isBlk rfl ft43_0 vt3 (by decide)) trivial rfl (From.ok (ps := [(none, 0)]) ⟨⟨rfl, by kernel_rfl⟩, trivial⟩) (DAll.op' (sp_loadB rfl isBlk rfl vt3 rfl) trivial rfl (From.ok (ps := [(none, 0)]) ⟨⟨rfl, by kernel_rfl⟩, trivial⟩) (DAll.op' (sp_call (avs := [.val (.int .i64 x4.1)]) (need := []) (v := .val (.bool r5)) (news := []) rfl rfl rfl Try.call43 (atJ [] [] (fc_strike_isSlot h6) rfl rfl) (.inl (roAll rfl))) trivial rfl (From.ok (ps := []) trivial) (DAll.op' (sp_not rfl rfl) trivial rfl (From.ok (ps := []) trivial) (DAll.op' (sp_castB h7 (sp_move rfl rfl)) trivial rfl (From.ok (ps := []) trivial) (DAll.op' (sp_fieldAddrB rfl isBlk rfl ft43_1 vt3 (by decide)) ⟨_, rfl, rfl⟩ rfl (From.ok (ps := [(none, 0)]) ⟨⟨rfl, by kernel_rfl⟩, trivial⟩) (DAll.op' (sp_loadB rfl isBlk rfl vt3 rfl) ⟨_, rfl, rfl⟩ rfl (From.ok (ps := [(none, 0)]) ⟨⟨rfl, by kernel_rfl⟩, trivial⟩) (DAll.op' (sp_buildSlice (qs := [.val (.int .i64 x4.2)]) (need := []) (els := List.map en_int ([x4.2] : List Int)) 2 rfl sl39 (by decide) (by decide) rfl rfl rfl (.v (.nil)) (map_len fun _ => rfl) rfl rfl rfl) ⟨_, rfl, rfl⟩ rfl (From.ok (ps := []) trivial) (DAll.op' (sp_call (avs := [.val (.int .i64 0), .val (.int .i64 12), .ref 2]) (need := [.row 2 3 1 (List.map en_int ([x4.2] : List Int))]) (v := .val (.bool r6)) (news := []) rfl rfl rfl Try.call40 (atJ [(0, 2)] [] (fc_strike_within h8) rfl rfl) (.inr (fun x hx => nomatch hx))) ⟨_, rfl, rfl⟩ rfl (From.ok (ps := [(some 7, 0)]) ⟨⟨_, rfl, by kernel_rfl, rfl, by kernel_rfl⟩, trivial⟩) (DAll.op' (sp_not rfl rfl) ⟨_, rfl, rfl⟩ rfl (From.ok (ps := []) trivial) (DAll.op' (sp_pickF rfl rfl rfl) trivial rfl (From.ok (ps := []) trivial) (DAll.op' (sp_castB h9 (sp_move rfl rfl)) trivial rfl (From.ok (ps := []) trivial) (DAll.op' (sp_move rfl rfl) ⟨_, rfl, rfl⟩ rfl (From.ok (ps := []) trivial) (DAll.op' (sp_gtr rfl rfl rfl) ⟨_, rfl, rfl⟩ rfl (From.ok (ps := []) trivial) (DAll.op' (sp_castB h10 (sp_move rfl rfl)) ⟨_, rfl, rfl⟩ rfl (From.ok (ps := []) trivial) (DAll.op' (sp_fieldAddrB rfl isBlk rfl ft43_0 vt3 (by decide)) ⟨_, rfl, rfl⟩ rfl (From.ok (ps := [(none, 0)]) ⟨⟨rfl, by kernel_rfl⟩, trivial⟩) (DAll.op' (sp_loadB rfl isBlk rfl vt3 rfl) ⟨_, rfl, rfl⟩ rfl (From.ok (ps := [(none, 0)]) ⟨⟨rfl, by kernel_rfl⟩, trivial⟩) (DAll.op' (sp_move rfl rfl) ⟨_, rfl, rfl⟩ rfl (From.ok (ps := []) trivial) (DAll.op' (sp_move rfl rfl) ⟨_, rfl, rfl⟩ rfl (From.ok (ps := []) trivial) (DAll.op' (sp_sub rfl rfl rfl h11) ⟨_, rfl, rfl⟩ rfl (From.ok (ps := []) trivial) (DAll.op' (sp_indexS rfl rfl rfl isRo sl37 h12 (map_get _ h13)) ⟨_, rfl, rfl⟩ rfl (From.ok (ps := [(none, 1)]) ⟨⟨rfl, by kernel_rfl⟩, trivial⟩) (DAll.op' (sp_fieldAddrR (i := ((i2 - 1) : Int).toNat) rfl rfl isRo ft43_0 vt3 (by decide) (map_get _ h13) (fun h => nomatch h)) ⟨_, rfl, rfl⟩ rfl (From.ok (ps := [(none, 1)]) ⟨⟨rfl, by kernel_rfl⟩, trivial⟩) (DAll.op' (sp_loadR (i := ((i2 - 1) : Int).toNat) (j := 0) rfl rfl isRo vt3 rfl (map_get _ h13) rfl (.v (.nil)) (nodup_of_B rfl)) ⟨_, rfl, rfl⟩ rfl (From.ok (ps := [(none, 1)]) ⟨⟨rfl, by kernel_rfl⟩, trivial⟩) (.nil)))))))))))))))))))))))
            refine op0 (sp_leq rfl rfl rfl) rfl ⟨_, rfl, rfl⟩ rfl rfl ?_
            refine op0 (sp_pickT rfl rfl rfl) rfl ⟨_, rfl, rfl⟩ rfl rfl ?_
            refine op0 (sp_pickF rfl rfl rfl) rfl trivial rfl rfl ?_
            refine TL.nil ?_
            refine TC.cond (b := (decide (x4.1 ≤ x7.1))) rfl (fun h14 => ?_) (fun h14 => ?_)
            · have h := cond_t h h14
              refine TC.seq ?_
              refine TC.region ?_
              refine op0 (sp_assign rfl rfl) rfl trivial rfl rfl ?_
              refine TL.nil ?_
              cases h
              exact retJ [] (.tmp rfl .nil) rfl trivial rfl rfl
            · have h := cond_f h h14
              refine TC.skip ?_
              refine TC.inBlock ?_
              refine TC.region ?_
              obtain ⟨h15, h⟩ := chk_inv h
              refine op0 (sp_add rfl rfl rfl h15) rfl trivial rfl rfl ?_
              refine op0 (sp_move rfl rfl) rfl trivial rfl rfl ?_
              refine TL.nil ?_
              refine TC.inLoop ?_
              refine TC.seq ?_
              refine subJ [] (ih _ _ h) ?_ ?_ ?_
              · exact ⟨rfl, rfl, rfl, rfl, trivial⟩
              · exact ⟨mem_at 2 rfl, trivial⟩
              · rfl
          · refine drawJ 23 [⟨.ptr 1 0, [], [.blk 1 [.val (.int .i64 x4.1), .val (.int .i64 x4.2)] 43], []⟩, ⟨.val (.int .i64 x4.1), [], [.blk 1 [.val (.int .i64 x4.1), .val (.int .i64 x4.2)] 43], []⟩, ⟨.val (.bool r5), [], [], []⟩, ⟨.val (.bool (!r5)), [], [], []⟩, ⟨.val (.bool false), [], [], []⟩, ⟨.ptr 1 1, [], [.blk 1 [.val (.int .i64 x4.1), .val (.int .i64 x4.2)] 43], []⟩, ⟨.val (.int .i64 x4.2), [], [.blk 1 [.val (.int .i64 x4.1), .val (.int .i64 x4.2)] 43], []⟩, ⟨.ref 2, [.row 2 3 1 (List.map en_int ([x4.2] : List Int))], [], []⟩, ⟨.val (.bool r6), [], [.row 2 3 1 (List.map en_int ([x4.2] : List Int))], []⟩, ⟨.val (.bool (!r6)), [], [], []⟩, ⟨.val (.bool (!r6)), [], [], []⟩, ⟨.val (.bool false), [], [], []⟩, ⟨.val (.int .i64 i2), [], [], []⟩, ⟨.val (.bool (decide ((0 : Int) < i2))), [], [], []⟩, ⟨.val (.bool false), [], [], []⟩, ⟨.val (undef), [], [], []⟩, ⟨.val (undef), [], [], []⟩, ⟨.val (undef), [], [], []⟩, ⟨.val (undef), [], [], []⟩, ⟨.val (undef), [], [], []⟩, ⟨.val (undef), [], [], []⟩, ⟨.val (undef), [], [], []⟩, ⟨.val (undef), [], [], []⟩] rfl ?_ rfl ?_ rfl ?_ ?_
            · kernel_rfl
            · kernel_rfl
            · exact DAll.op' (sp_fieldAddrB rfl isBlk rfl ft43_0 vt3 (by decide)) trivial rfl (From.ok (ps := [(none, 0)]) ⟨⟨rfl, by kernel_rfl⟩, trivial⟩) (DAll.op' (sp_loadB rfl isBlk rfl vt3 rfl) trivial rfl (From.ok (ps := [(none, 0)]) ⟨⟨rfl, by kernel_rfl⟩, trivial⟩) (DAll.op' (sp_call (avs := [.val (.int .i64 x4.1)]) (need := []) (v := .val (.bool r5)) (news := []) rfl rfl rfl Try.call43 (atJ [] [] (fc_strike_isSlot h6) rfl rfl) (.inl (roAll rfl))) trivial rfl (From.ok (ps := []) trivial) (DAll.op' (sp_not rfl rfl) trivial rfl (From.ok (ps := []) trivial) (DAll.op' (sp_castB h7 (sp_move rfl rfl)) trivial rfl (From.ok (ps := []) trivial) (DAll.op' (sp_fieldAddrB rfl isBlk rfl ft43_1 vt3 (by decide)) ⟨_, rfl, rfl⟩ rfl (From.ok (ps := [(none, 0)]) ⟨⟨rfl, by kernel_rfl⟩, trivial⟩) (DAll.op' (sp_loadB rfl isBlk rfl vt3 rfl) ⟨_, rfl, rfl⟩ rfl (From.ok (ps := [(none, 0)]) ⟨⟨rfl, by kernel_rfl⟩, trivial⟩) (DAll.op' (sp_buildSlice (qs := [.val (.int .i64 x4.2)]) (need := []) (els := List.map en_int ([x4.2] : List Int)) 2 rfl sl39 (by decide) (by decide) rfl rfl rfl (.v (.nil)) (map_len fun _ => rfl) rfl rfl rfl) ⟨_, rfl, rfl⟩ rfl (From.ok (ps := []) trivial) (DAll.op' (sp_call (avs := [.val (.int .i64 0), .val (.int .i64 12), .ref 2]) (need := [.row 2 3 1 (List.map en_int ([x4.2] : List Int))]) (v := .val (.bool r6)) (news := []) rfl rfl rfl Try.call40 (atJ [(0, 2)] [] (fc_strike_within h8) rfl rfl) (.inr (fun x hx => nomatch hx))) ⟨_, rfl, rfl⟩ rfl (From.ok (ps := [(some 7, 0)]) ⟨⟨_, rfl, by kernel_rfl, rfl, by kernel_rfl⟩, trivial⟩) (DAll.op' (sp_not rfl rfl) ⟨_, rfl, rfl⟩ rfl (From.ok (ps := []) trivial) (DAll.op' (sp_pickF rfl rfl rfl) trivial rfl (From.ok (ps := []) trivial) (DAll.op' (sp_castB h9 (sp_move rfl rfl)) trivial rfl (From.ok (ps := []) trivial) (DAll.op' (sp_move rfl rfl) ⟨_, rfl, rfl⟩ rfl (From.ok (ps := []) trivial) (DAll.op' (sp_gtr rfl rfl rfl) ⟨_, rfl, rfl⟩ rfl (From.ok (ps := []) trivial) (DAll.op' (sp_castB h10 (sp_move rfl rfl)) ⟨_, rfl, rfl⟩ rfl (From.ok (ps := []) trivial) (.skip ⟨_, rfl, .inl rfl⟩ rfl rfl rfl (.skip ⟨_, rfl, .inl rfl⟩ rfl rfl rfl (.skip ⟨_, rfl, .inl rfl⟩ rfl rfl rfl (.skip ⟨_, rfl, .inl rfl⟩ rfl rfl rfl (.skip ⟨_, rfl, .inl rfl⟩ rfl rfl rfl (.skip ⟨_, rfl, .inl rfl⟩ rfl rfl rfl (.skip ⟨_, rfl, .inl rfl⟩ rfl rfl rfl (.skip ⟨_, rfl, .inl rfl⟩ rfl rfl rfl (.nil)))))))))))))))))))))))
            refine opSkip rfl ⟨_, rfl, .inl rfl⟩ rfl ?_
            refine op0 (sp_pickF rfl rfl rfl) rfl ⟨_, rfl, rfl⟩ rfl rfl ?_
            refine op0 (sp_pickF rfl rfl rfl) rfl trivial rfl rfl ?_
            refine TL.nil ?_
            refine TC.condF rfl ?_
            refine TC.skip ?_
            refine TC.inBlock ?_
            refine TC.region ?_
            obtain ⟨h16, h⟩ := chk_inv h
            refine op0 (sp_add rfl rfl rfl h16) rfl trivial rfl rfl ?_
            refine op0 (sp_move rfl rfl) rfl trivial rfl rfl ?_
            refine TL.nil ?_
            refine TC.inLoop ?_
            refine TC.seq ?_
            refine subJ [] (ih _ _ h) ?_ ?_ ?_
            · exact ⟨rfl, rfl, rfl, rfl, trivial⟩
            · exact ⟨mem_at 2 rfl, trivial⟩
            · rfl
    · have h := cond_f h h3
      refine TC.exit rfl ?_
      refine TC.seq ?_
      refine TC.seq ?_
      obtain ⟨h17, h⟩ := chk_inv h
      obtain ⟨x8, h18, h19, h⟩ := idx_inv h
      obtain ⟨x9, h20, h21, h⟩ := idx_inv h
      refine drawJ 11 [⟨.ref 0, [], [], []⟩, ⟨.ref 0, [], [], []⟩, ⟨.val (.int .i64 (l3.length : Int)), [], [.ro 0 2 (List.map en_api_StrikeHeard l3)], []⟩, ⟨.val (.int .i64 ((l3.length : Int) - 1)), [], [], []⟩, ⟨.cell 0 ((((l3.length : Int) - 1) : Int).toNat * 2), [], [.ro 0 2 (List.map en_api_StrikeHeard l3)], []⟩, ⟨.cell 0 ((((l3.length : Int) - 1) : Int).toNat * 2 + 0), [], [.ro 0 2 (List.map en_api_StrikeHeard l3)], []⟩, ⟨.val (.int .i64 x8.1), [], [.ro 0 2 (List.map en_api_StrikeHeard l3)], []⟩, ⟨.ref 0, [], [], []⟩, ⟨.cell 0 ((0 : Int).toNat * 2), [], [.ro 0 2 (List.map en_api_StrikeHeard l3)], []⟩, ⟨.cell 0 ((0 : Int).toNat * 2 + 0), [], [.ro 0 2 (List.map en_api_StrikeHeard l3)], []⟩, ⟨.val (.int .i64 x9.1), [], [.ro 0 2 (List.map en_api_StrikeHeard l3)], []⟩] rfl ?_ rfl ?_ rfl ?_ ?_
      · kernel_rfl
      · kernel_rfl
      · exact DAll.op' (sp_move rfl rfl) trivial rfl (From.ok (ps := []) trivial) (DAll.op' (sp_move rfl rfl) trivial rfl (From.ok (ps := []) trivial) (DAll.op' (sp_lenM (N := l3.length) (len_map _ _) rfl rfl isRo Try.underlying37) trivial rfl (From.ok (ps := [(none, 0)]) ⟨⟨rfl, rfl⟩, trivial⟩) (DAll.op' (sp_sub rfl rfl rfl h17) trivial rfl (From.ok (ps := []) trivial) (DAll.op' (sp_indexS rfl rfl rfl isRo sl37 h18 (map_get _ h19)) trivial rfl (From.ok (ps := [(none, 0)]) ⟨⟨rfl, rfl⟩, trivial⟩) (DAll.op' (sp_fieldAddrR (i := (((l3.length : Int) - 1) : Int).toNat) rfl rfl isRo ft43_0 vt3 (by decide) (map_get _ h19) (fun h => nomatch h)) trivial rfl (From.ok (ps := [(none, 0)]) ⟨⟨rfl, rfl⟩, trivial⟩) (DAll.op' (sp_loadR (i := (((l3.length : Int) - 1) : Int).toNat) (j := 0) rfl rfl isRo vt3 rfl (map_get _ h19) rfl (.v (.nil)) (nodup_of_B rfl)) trivial rfl (From.ok (ps := [(none, 0)]) ⟨⟨rfl, rfl⟩, trivial⟩) (DAll.op' (sp_move rfl rfl) trivial rfl (From.ok (ps := []) trivial) (DAll.op' (sp_indexS rfl rfl rfl isRo sl37 h20 (map_get _ h21)) trivial rfl (From.ok (ps := [(none, 0)]) ⟨⟨rfl, rfl⟩, trivial⟩) (DAll.op' (sp_fieldAddrR (i := (0 : Int).toNat) rfl rfl isRo ft43_0 vt3 (by decide) (map_get _ h21) (fun h => nomatch h)) trivial rfl (From.ok (ps := [(none, 0)]) ⟨⟨rfl, rfl⟩, trivial⟩) (DAll.op' (sp_loadR (i := (0 : Int).toNat) (j := 0) rfl rfl isRo vt3 rfl (map_get _ h21) rfl (.v (.nil)) (nodup_of_B rfl)) trivial rfl (From.ok (ps := [(none, 0)]) ⟨⟨rfl, rfl⟩, trivial⟩) (.nil)))))))))))
      obtain ⟨h22, h⟩ := chk_inv h
      refine op0 (sp_sub rfl rfl rfl h22) rfl trivial rfl rfl ?_
      refine op0 (sp_geq rfl rfl rfl) rfl trivial rfl rfl ?_
      refine TL.nil ?_
      refine TC.cond (b := (decide ((2000 : Int) ≤ (x8.1 - x9.1)))) rfl (fun h23 => ?_) (fun h23 => ?_)
      · have h := cond_t h h23
        refine TC.seq ?_
        refine TC.region ?_
        refine op0 (sp_assign rfl rfl) rfl trivial rfl rfl ?_
        refine TL.nil ?_
        cases h
        exact retJ [] (.tmp rfl .nil) rfl trivial rfl rfl
      · have h := cond_f h h23
        refine TC.skip ?_
        refine TC.seq ?_
        refine TC.region ?_
        refine op0 (sp_assign rfl rfl) rfl trivial rfl rfl ?_
        refine TL.nil ?_
        cases h
        exact retJ [] (.tmp rfl .nil) rfl trivial rfl rfl
def ev_strike_checkHeard (n : Nat) (l1 : List (Int × Int)) : Option Int :=
  cond ((l1.length : Int) == 0) (some 7) (cond (decide ((200 : Int) < (l1.length : Int))) (some 5) (ev_strike_checkHeard_l0 n l1 n 0 l1))
set_option maxRecDepth 100000 in
set_option maxHeartbeats 2000000 in
theorem fc_strike_checkHeard {n : Nat} {l1 : List (Int × Int)} {r : Int} (h : ev_strike_checkHeard n l1 = some r) : FC Try.prog 47 [.ref 0] [.ro 0 2 (List.map en_api_StrikeHeard l1)] (.val (.int .i64 r)) [] := by
  refine introJ (nz := 60) Try.func47 rfl rfl rfl (fun w0 R0 env0 => ?_)
  rw [ev_strike_checkHeard] at h
  refine TC.seq ?_
  refine TC.region ?_
  refine op0 (sp_assign rfl rfl) rfl trivial rfl rfl ?_
  refine TL.nil ?_
  refine TC.seq ?_
  refine TC.block ?_
  refine TC.seq ?_
  refine TC.region ?_
  refine op0 (sp_move rfl rfl) rfl trivial rfl rfl ?_
  refine op1 0 rfl (sp_lenM (N := l1.length) (len_map _ _) rfl rfl isRo Try.underlying37) rfl trivial rfl rfl ?_
  refine op0 (sp_eql rfl rfl rfl) rfl trivial rfl rfl ?_
  refine op0 (sp_assign rfl rfl) rfl trivial rfl rfl ?_
  refine TL.nil ?_
  refine TC.cond (b := ((l1.length : Int) == 0)) rfl (fun h1 => ?_) (fun h1 => ?_)
  · have h := cond_t h h1
    refine TC.seq ?_
    refine TC.region ?_
    refine op0 (sp_assign rfl rfl) rfl trivial rfl rfl ?_
    refine TL.nil ?_
    cases h
    exact retJ [] (.tmp rfl .nil) rfl trivial rfl rfl
  · have h := cond_f h h1
    refine TC.seq ?_
    refine TC.region ?_
    refine op0 (sp_move rfl rfl) rfl trivial rfl rfl ?_
    refine op1 0 rfl (sp_lenM (N := l1.length) (len_map _ _) rfl rfl isRo Try.underlying37) rfl trivial rfl rfl ?_
    refine op0 (sp_gtr rfl rfl rfl) rfl trivial rfl rfl ?_
    refine op0 (sp_assign rfl rfl) rfl trivial rfl rfl ?_
    refine TL.nil ?_
    refine TC.cond (b := (decide ((200 : Int) < (l1.length : Int)))) rfl (fun h2 => ?_) (fun h2 => ?_)
    · have h := cond_t h h2
      refine TC.seq ?_
      refine TC.region ?_
      refine op0 (sp_assign rfl rfl) rfl trivial rfl rfl ?_
      refine TL.nil ?_
      cases h
      exact retJ [] (.tmp rfl .nil) rfl trivial rfl rfl
    · have h := cond_f h h2
      refine TC.skip ?_
      refine TC.inBlock ?_
      refine TC.seq ?_
      refine TC.seq ?_
      refine TC.region ?_
      refine op0 (sp_move rfl rfl) rfl trivial rfl rfl ?_
      refine op1 0 rfl (sp_lenM (N := l1.length) (len_map _ _) rfl rfl isRo Try.underlying37) rfl trivial rfl rfl ?_
      refine op0 (sp_move rfl rfl) rfl trivial rfl rfl ?_
      refine TL.nil ?_
      refine TC.block ?_
      refine TC.loop ?_
      refine TC.seq ?_
      refine subJ [] (ok_strike_checkHeard_l0 _ _ _ h) ?_ ?_ ?_
      · exact ⟨rfl, rfl, rfl, rfl, trivial⟩
      · exact ⟨mem_at 0 rfl, trivial⟩
      · rfl
/- strike_train_next -/
def ev_strike_train_next (n : Nat) (t1 : Bool) (t2 : Bool) (t3 : List (Int × Int)) (t4 : Int) (place5 : Int) : Option Int :=
  chk (in64 (place5 + 1)) <| chk (t4 != 0) <| some (Int.tmod (place5 + 1) t4)
set_option maxRecDepth 100000 in
set_option maxHeartbeats 2000000 in
theorem fc_strike_train_next {n : Nat} {t1 : Bool} {t2 : Bool} {t3 : List (Int × Int)} {t4 : Int} {place5 : Int} {r : Int} (h : ev_strike_train_next n t1 t2 t3 t4 place5 = some r) : FC Try.prog 62 [.agg [.val (.bool t1), .val (.bool t2), .ref 0, .val (.int .i64 t4)], .val (.int .i64 place5)] [.ro 0 2 (List.map en_api_Span t3)] (.val (.int .i64 r)) [] := by
  refine introJ (nz := 10) Try.func62 rfl rfl rfl (fun w0 R0 env0 => ?_)
  rw [ev_strike_train_next] at h
  refine TC.seq ?_
  refine TC.region ?_
  refine op0 (sp_box 1 rfl rfl rfl rfl rfl) rfl trivial rfl rfl ?_
  refine op0 (sp_assign rfl rfl) rfl trivial rfl rfl ?_
  refine TL.nil ?_
  refine TC.seq ?_
  refine TC.region ?_
  refine op0 (sp_move rfl rfl) rfl trivial rfl rfl ?_
  obtain ⟨h1, h⟩ := chk_inv h
  refine op0 (sp_add rfl rfl rfl h1) rfl trivial rfl rfl ?_
  refine op1 0 rfl (sp_fieldAddrB rfl isBlk rfl ft84_1 vt3 (by decide)) rfl trivial rfl rfl ?_
  refine op1 0 rfl (sp_loadB rfl isBlk rfl vt3 rfl) rfl trivial rfl rfl ?_
  obtain ⟨h2, h⟩ := chk_inv h
  refine op0 (sp_rem rfl rfl rfl h2) rfl trivial rfl rfl ?_
  refine op0 (sp_assign rfl rfl) rfl trivial rfl rfl ?_
  refine TL.nil ?_
  cases h
  exact retJ [] (.tmp rfl .nil) rfl trivial rfl rfl
/- strike_misses_add -/
def ev_strike_misses_add (n : Nat) (mm1 : List (Int × Int)) (place2 : Int) (many3 : Int) : Option ((List (Int × Int))) :=
  cond (!((mlook mm1 place2).isSome)) (some (mputS kl90 mm1 place2 many3)) (cond (decide (many3 < ((mlook mm1 place2).getD 0))) (some (mputS kl90 mm1 place2 many3)) (some mm1))
set_option maxRecDepth 100000 in
set_option maxHeartbeats 2000000 in
theorem ft_strike_misses_add {n : Nat} {mm1 : List (Int × Int)} {place2 : Int} {many3 : Int} {r : (List (Int × Int))} (h : ev_strike_misses_add n mm1 place2 many3 = some r) : FT Try.prog 61 [.ref 0, .val (.int .i64 place2), .val (.int .i64 many3)] [.inv 0 (mapI mk90 false en_int mm1)] [] (.tup []) [.inv 0 (mapI mk90 false en_int r)] := by
  refine introM (nz := 24) 1 [(2, 0)] Try.func61 rfl rfl rfl rfl (fun w0 M0 R0 env0 => ?_)
  rw [ev_strike_misses_add] at h
  refine TC.seq ?_
  refine TC.region ?_
  refine op0 (sp_move rfl rfl) rfl trivial rfl rfl ?_
  refine op0 (sp_move rfl rfl) rfl trivial rfl rfl ?_
  refine op1 2 rfl (sp_lookup (cm := true) (v := .tup [.val (.int .i64 ((mlook mm1 place2).getD 0)), .val (.bool ((mlook mm1 place2).isSome))]) (ns := []) place2 0 rfl rfl rfl (fun _ => rfl) isMapO km90 Try.zeroValue3 (fun W R => zok (ZL.v rfl (ZL.nil)) rfl rfl W R) (.v (.nil)) rfl rfl) rfl trivial rfl rfl ?_
  refine op0 (sp_move rfl rfl) rfl trivial rfl rfl ?_
  refine op0 (sp_extract rfl rfl rfl) rfl trivial rfl rfl ?_
  refine op0 (sp_extract rfl rfl rfl) rfl trivial rfl rfl ?_
  refine op0 (sp_assign rfl rfl) rfl trivial rfl rfl ?_
  refine op0 (sp_assign rfl rfl) rfl trivial rfl rfl ?_
  refine TL.nil ?_
  refine TC.seq ?_
  refine TC.region ?_
  refine op0 (sp_move rfl rfl) rfl trivial rfl rfl ?_
  refine op0 (sp_not rfl rfl) rfl trivial rfl rfl ?_
  refine op0 (sp_move rfl rfl) rfl trivial rfl rfl ?_
  rcases cond_cases h with ⟨h1, h⟩ | ⟨h1, h⟩
  · refine (boolLit 16 rfl h1).2 ?_
    refine opSkip rfl ⟨_, rfl, .inl rfl⟩ rfl ?_
    refine opSkip rfl ⟨_, rfl, .inl rfl⟩ rfl ?_
    refine opSkip rfl ⟨_, rfl, .inl rfl⟩ rfl ?_
    refine op0 (sp_pickT rfl rfl rfl) rfl trivial rfl rfl ?_
    refine TL.nil ?_
    refine TC.condT rfl ?_
    refine TC.region ?_
    refine op0 (sp_move rfl rfl) rfl trivial rfl rfl ?_
    refine op0 (sp_move rfl rfl) rfl trivial rfl rfl ?_
    refine op0 (sp_move rfl rfl) rfl trivial rfl rfl ?_
    refine opT (take := [.inv 0 (mapI mk90 false en_int mm1)]) (need := []) (V' := [.inv 0 (mapI mk90 false en_int (mputS kl90 mm1 place2 many3)), .inv 1 (marksI []), .pin 2 0 (env0 0)]) [2] [] (ts_mapUpdate (need := []) place2 many3 rfl rfl rfl (fun _ => rfl) rfl rfl rfl (.v (.nil)) km90 (fun h => mputS_perm kl90 _ _ h)) trivial rfl ⟨rfl, trivial⟩ trivial rfl rfl ?_
    refine TL.nil ?_
    cases h
    exact endM [] 1 1 [0] rfl (.nil) rfl ⟨mem_at 0 rfl, trivial⟩ rfl rfl ⟨⟨_, mem_at 1 rfl⟩, trivial⟩ rfl
  · refine (boolLit 16 rfl h1).2 ?_
    refine op0 (sp_move rfl rfl) rfl ⟨_, rfl, rfl⟩ rfl rfl ?_
    refine op0 (sp_move rfl rfl) rfl ⟨_, rfl, rfl⟩ rfl rfl ?_
    refine op0 (sp_lss rfl rfl rfl) rfl ⟨_, rfl, rfl⟩ rfl rfl ?_
    refine op0 (sp_pickF rfl rfl rfl) rfl trivial rfl rfl ?_
    refine TL.nil ?_
    refine TC.cond (b := (decide (many3 < ((mlook mm1 place2).getD 0)))) rfl (fun h2 => ?_) (fun h2 => ?_)
    · have h := cond_t h h2
      refine TC.region ?_
      refine op0 (sp_move rfl rfl) rfl trivial rfl rfl ?_
      refine op0 (sp_move rfl rfl) rfl trivial rfl rfl ?_
      refine op0 (sp_move rfl rfl) rfl trivial rfl rfl ?_
      refine opT (take := [.inv 0 (mapI mk90 false en_int mm1)]) (need := []) (V' := [.inv 0 (mapI mk90 false en_int (mputS kl90 mm1 place2 many3)), .inv 1 (marksI []), .pin 2 0 (env0 0)]) [2] [] (ts_mapUpdate (need := []) place2 many3 rfl rfl rfl (fun _ => rfl) rfl rfl rfl (.v (.nil)) km90 (fun h => mputS_perm kl90 _ _ h)) trivial rfl ⟨rfl, trivial⟩ trivial rfl rfl ?_
      refine TL.nil ?_
      cases h
      exact endM [] 1 1 [0] rfl (.nil) rfl ⟨mem_at 0 rfl, trivial⟩ rfl rfl ⟨⟨_, mem_at 1 rfl⟩, trivial⟩ rfl
    · have h := cond_f h h2
      refine TC.skip ?_
      cases h
      exact endM [] 0 1 [0] rfl (.nil) rfl ⟨mem_at 1 rfl, trivial⟩ rfl rfl ⟨⟨_, mem_at 0 rfl⟩, trivial⟩ rfl
/- strike_train_missed -/
def ev_strike_train_missed (n : Nat) (t1 : Bool) (t2 : Bool) (t3 : List (Int × Int)) (t4 : Int) (place5 : Int) : Option Int :=
  cond t2 ((ev_strike_train_next n t1 t2 t3 t4 place5).bind fun r6 => some r6) (some place5)
set_option maxRecDepth 100000 in
set_option maxHeartbeats 2000000 in
theorem fc_strike_train_missed {n : Nat} {t1 : Bool} {t2 : Bool} {t3 : List (Int × Int)} {t4 : Int} {place5 : Int} {r : Int} (h : ev_strike_train_missed n t1 t2 t3 t4 place5 = some r) : FC Try.prog 63 [.agg [.val (.bool t1), .val (.bool t2), .ref 0, .val (.int .i64 t4)], .val (.int .i64 place5)] [.ro 0 2 (List.map en_api_Span t3)] (.val (.int .i64 r)) [] := by
  refine introJ (nz := 12) Try.func63 rfl rfl rfl (fun w0 R0 env0 => ?_)
  rw [ev_strike_train_missed] at h
  refine TC.seq ?_
  refine TC.region ?_
  refine op0 (sp_box 1 rfl rfl rfl rfl rfl) rfl trivial rfl rfl ?_
  refine op0 (sp_assign rfl rfl) rfl trivial rfl rfl ?_
  refine TL.nil ?_
  refine TC.seq ?_
  refine TC.seq ?_
  refine TC.region ?_
  refine op1 0 rfl (sp_fieldAddrB rfl isBlk rfl ft84_0 vt24 (by decide)) rfl trivial rfl rfl ?_
  refine op1 0 rfl (sp_fieldAddrB rfl isBlk rfl ft24_1 vt4 (by decide)) rfl trivial rfl rfl ?_
  refine op1 0 rfl (sp_loadB rfl isBlk rfl vt4 rfl) rfl trivial rfl rfl ?_
  refine TL.nil ?_
  refine TC.cond (b := t2) rfl (fun h1 => ?_) (fun h1 => ?_)
  · have h := cond_t h h1
    refine TC.seq ?_
    refine TC.region ?_
    refine op1 0 rfl (sp_loadBA rfl isBlk rfl vt84 rfl rfl) rfl trivial rfl rfl ?_
    refine op0 (sp_move rfl rfl) rfl trivial rfl rfl ?_
    obtain ⟨r6, h2, h⟩ := bind_inv h
    refine op1 1 rfl (sp_call (avs := [.agg [.val (.bool t1), .val (.bool t2), .ref 0, .val (.int .i64 t4)], .val (.int .i64 place5)]) (need := [.ro 0 2 (List.map en_api_Span t3)]) (v := .val (.int .i64 r6)) (news := []) rfl rfl rfl Try.call62 (atJ [] [] (fc_strike_train_next h2) rfl rfl) (.inl (roAll rfl))) rfl trivial rfl rfl ?_
    refine op0 (sp_assign rfl rfl) rfl trivial rfl rfl ?_
    refine TL.nil ?_
    cases h
    exact retJ [] (.tmp rfl .nil) rfl trivial rfl rfl
  · have h := cond_f h h1
    refine TC.skip ?_
    refine TC.seq ?_
    refine TC.region ?_
    refine op0 (sp_move rfl rfl) rfl trivial rfl rfl ?_
    refine op0 (sp_assign rfl rfl) rfl trivial rfl rfl ?_
    refine TL.nil ?_
    cases h
    exact retJ [] (.tmp rfl .nil) rfl trivial rfl rfl
/- strike_train_after -/
def ev_strike_train_after_j1 (n : Nat) (hears7 : Int → Option Bool) (x14 : Int × Int) (k_strike_train_after_l0 : Bool → Bool → Int → (List (Int × Int)) → (List (Int × Int)) → (List (Int × Int)) → Option ((List (Int × Int)))) (b20 : Bool) (b21 : Bool) (i22 : Int) (l23 : List (Int × Int)) (l24 : List (Int × Int)) (l25 : List (Int × Int)) : Option ((List (Int × Int))) :=
  (hears7 0).bind fun r26 => cond r26 ((ev_strike_train_missed n b20 b21 l25 i22 x14.1).bind fun r27 => chk (in64 (x14.2 + 1)) <| (ev_strike_misses_add n l23 r27 (x14.2 + 1)).bind fun r28 => k_strike_train_after_l0 b20 b21 i22 r28 l24 l25) (k_strike_train_after_l0 b20 b21 i22 l23 l24 l25)
set_option maxRecDepth 100000 in
set_option maxHeartbeats 2000000 in
theorem ok_strike_train_after_j1 {n : Nat} {w0 : World} {R0 : Nat → Prop} {env0 : Env} {r : (List (Int × Int))} {slot6 : Int} {x14 : Int × Int} {hears7 : Int → Option Bool} {k_strike_train_after_l0 : Bool → Bool → Int → (List (Int × Int)) → (List (Int × Int)) → (List (Int × Int)) → Option ((List (Int × Int)))} {b20 : Bool} {b21 : Bool} {i22 : Int} {l23 : List (Int × Int)} {l24 : List (Int × Int)} {l25 : List (Int × Int)} (hk_strike_train_after_l0 : ∀ (b8 : Bool) (b9 : Bool) (i10 : Int) (l11 : List (Int × Int)) (l12 : List (Int × Int)) (l13 : List (Int × Int)), k_strike_train_after_l0 b8 b9 i10 l11 l12 l13 = some r → TC Try.prog ⟨w0, fun _ => False, R0⟩ 42 (bodyPost Try.prog Try.f48 (Post ⟨w0, fun _ => False, R0⟩ env0 (.ref 0) [.inv 0 (mapI mk90 false en_int r)])) [.code (sub (bodyOf Try.f48) [1, 1, 0, 1, 0, 0, 0]), .code (sub (bodyOf Try.f48) [1, 1, 0, 1, 0, 0, 1]), .inLoop (sub (bodyOf Try.f48) [1, 1, 0, 1, 0, 0]), .inBlock 0, .code (sub (bodyOf Try.f48) [1, 1, 1])] ([(2, .val (.int .i64 slot6)), (3, .ref 2), (4, .ptr 3 0), (9, .ref 4), (14, .ref 5)]) ([.any 2 (D.fn Try.prog fe_funcint_bool fd_funcint_bool hears7), .blk 3 [.val (.bool b8), .val (.bool b9), .ref 0, .val (.int .i64 i10)] 84, .inv 4 (mapI mk90 false en_int l11), .inv 5 (mitI mk90 false en_int l12 none), .ro 0 2 (List.map en_api_Span l13)])) (h : ev_strike_train_after_j1 n hears7 x14 k_strike_train_after_l0 b20 b21 i22 l23 l24 l25 = some r) : TC Try.prog ⟨w0, fun _ => False, R0⟩ 42 (bodyPost Try.prog Try.f48 (Post ⟨w0, fun _ => False, R0⟩ env0 (.ref 0) [.inv 0 (mapI mk90 false en_int r)])) [.code (sub (bodyOf Try.f48) [1, 1, 0, 1, 0, 0, 1, 1, 0, 1, 1, 0]), .code (sub (bodyOf Try.f48) [1, 1, 0, 1, 0, 0, 1, 1, 0, 1, 1, 1]), .inBlock 1, .inLoop (sub (bodyOf Try.f48) [1, 1, 0, 1, 0, 0]), .inBlock 0, .code (sub (bodyOf Try.f48) [1, 1, 1])] ([(2, .val (.int .i64 slot6)), (3, .ref 2), (4, .ptr 3 0), (9, .ref 4), (10, .val (.int .i64 x14.1)), (11, .val (.int .i64 x14.2)), (14, .ref 5)]) ([.any 2 (D.fn Try.prog fe_funcint_bool fd_funcint_bool hears7), .blk 3 [.val (.bool b20), .val (.bool b21), .ref 0, .val (.int .i64 i22)] 84, .inv 4 (mapI mk90 false en_int l23), .inv 5 (mitI mk90 false en_int l24 none), .ro 0 2 (List.map en_api_Span l25)]) := by
  rw [ev_strike_train_after_j1] at h
  refine TC.region ?_
  refine op0 (sp_move rfl rfl) rfl trivial rfl rfl ?_
  obtain ⟨r26, h8, h⟩ := bind_inv h
  refine op1 0 rfl (sp_callF (avs := [.val (.int .i64 0)]) (v := .val (.bool r26)) 0 rfl rfl rfl rfl rfl h8) rfl trivial rfl rfl ?_
  refine TL.nil ?_
  refine TC.cond (b := r26) rfl (fun h9 => ?_) (fun h9 => ?_)
  · have h := cond_t h h9
    refine TC.region ?_
    refine op0 (sp_move rfl rfl) rfl trivial rfl rfl ?_
    refine op1 1 rfl (sp_loadBA rfl isBlk rfl vt84 rfl rfl) rfl trivial rfl rfl ?_
    refine op0 (sp_move rfl rfl) rfl trivial rfl rfl ?_
    obtain ⟨r27, h10, h⟩ := bind_inv h
    refine op1 4 rfl (sp_call (avs := [.agg [.val (.bool b20), .val (.bool b21), .ref 0, .val (.int .i64 i22)], .val (.int .i64 x14.1)]) (need := [.ro 0 2 (List.map en_api_Span l25)]) (v := .val (.int .i64 r27)) (news := []) rfl rfl rfl Try.call63 (atJ [] [] (fc_strike_train_missed h10) rfl rfl) (.inl (roAll rfl))) rfl trivial rfl rfl ?_
    refine op0 (sp_move rfl rfl) rfl trivial rfl rfl ?_
    obtain ⟨h11, h⟩ := chk_inv h
    refine op0 (sp_add rfl rfl rfl h11) rfl trivial rfl rfl ?_
    obtain ⟨r28, h12, h⟩ := bind_inv h
    refine opT (take := [.inv 4 (mapI mk90 false en_int l23)]) (need := []) (V' := [.inv 4 (mapI mk90 false en_int r28), .any 2 (D.fn Try.prog fe_funcint_bool fd_funcint_bool hears7), .blk 3 [.val (.bool b20), .val (.bool b21), .ref 0, .val (.int .i64 i22)] 84, .inv 5 (mitI mk90 false en_int l24 none), .ro 0 2 (List.map en_api_Span l25)]) [2] [] (ts_call (avs := [.ref 4, .val (.int .i64 r27), .val (.int .i64 (x14.2 + 1))]) (take := [.inv 4 (mapI mk90 false en_int l23)]) (need := []) (v := .tup []) (news := [.inv 4 (mapI mk90 false en_int r28)]) rfl rfl rfl Try.call61 (atT [(0, 4)] [(0, 4)] (ft_strike_misses_add h12) rfl rfl rfl) rfl rfl) trivial rfl ⟨rfl, trivial⟩ trivial rfl rfl ?_
    refine TL.nil ?_
    refine TC.inBlock ?_
    refine TC.inLoop ?_
    refine TC.seq ?_
    refine subJ [] (hk_strike_train_after_l0 _ _ _ _ _ _ h) ?_ ?_ ?_
    · exact ⟨rfl, rfl, rfl, rfl, rfl, trivial⟩
    · exact ⟨mem_at 1 rfl, mem_at 2 rfl, mem_at 0 rfl, mem_at 3 rfl, mem_at 4 rfl, trivial⟩
    · rfl
  · have h := cond_f h h9
    refine TC.skip ?_
    refine TC.inBlock ?_
    refine TC.inLoop ?_
    refine TC.seq ?_
    refine subJ [] (hk_strike_train_after_l0 _ _ _ _ _ _ h) ?_ ?_ ?_
    · exact ⟨rfl, rfl, rfl, rfl, rfl, trivial⟩
    · exact ⟨mem_at 0 rfl, mem_at 1 rfl, mem_at 2 rfl, mem_at 3 rfl, mem_at 4 rfl, trivial⟩
    · rfl
def ev_strike_train_after_l0 (n : Nat) (slot6 : Int) (hears7 : Int → Option Bool) : Nat → Bool → Bool → Int → (List (Int × Int)) → (List (Int × Int)) → (List (Int × Int)) → Option ((List (Int × Int)))
  | 0, _, _, _, _, _, _ => none
  | m + 1, b8, b9, i10, l11, l12, l13 => nextAll l12 (fun x14 l15 => (ev_strike_train_blows n b8 b9 l13 i10 slot6 x14.1).bind fun r16 => (hears7 r16).bind fun r17 => cond r17 ((ev_strike_train_next n b8 b9 l13 i10 x14.1).bind fun r18 => (ev_strike_misses_add n l11 r18 x14.2).bind fun r19 => ev_strike_train_after_j1 n hears7 x14 (fun b8q b9q i10q l11q l12q l13q => ev_strike_train_after_l0 n slot6 hears7 m b8q b9q i10q l11q l12q l13q) b8 b9 i10 r19 l15 l13) (ev_strike_train_after_j1 n hears7 x14 (fun b8q b9q i10q l11q l12q l13q => ev_strike_train_after_l0 n slot6 hears7 m b8q b9q i10q l11q l12q l13q) b8 b9 i10 l11 l15 l13)) (some l11)
set_option maxRecDepth 100000 in
set_option maxHeartbeats 2000000 in
theorem ok_strike_train_after_l0 {n : Nat} {w0 : World} {R0 : Nat → Prop} {env0 : Env} {r : (List (Int × Int))} {slot6 : Int} {hears7 : Int → Option Bool} : ∀ (m : Nat) (b8 : Bool) (b9 : Bool) (i10 : Int) (l11 : List (Int × Int)) (l12 : List (Int × Int)) (l13 : List (Int × Int)), ev_strike_train_after_l0 n slot6 hears7 m b8 b9 i10 l11 l12 l13 = some r → TC Try.prog ⟨w0, fun _ => False, R0⟩ 42 (bodyPost Try.prog Try.f48 (Post ⟨w0, fun _ => False, R0⟩ env0 (.ref 0) [.inv 0 (mapI mk90 false en_int r)])) [.code (sub (bodyOf Try.f48) [1, 1, 0, 1, 0, 0, 0]), .code (sub (bodyOf Try.f48) [1, 1, 0, 1, 0, 0, 1]), .inLoop (sub (bodyOf Try.f48) [1, 1, 0, 1, 0, 0]), .inBlock 0, .code (sub (bodyOf Try.f48) [1, 1, 1])] ([(2, .val (.int .i64 slot6)), (3, .ref 2), (4, .ptr 3 0), (9, .ref 4), (14, .ref 5)]) ([.any 2 (D.fn Try.prog fe_funcint_bool fd_funcint_bool hears7), .blk 3 [.val (.bool b8), .val (.bool b9), .ref 0, .val (.int .i64 i10)] 84, .inv 4 (mapI mk90 false en_int l11), .inv 5 (mitI mk90 false en_int l12 none), .ro 0 2 (List.map en_api_Span l13)]) := by
  intro m
  induction m with
  | zero => intro b8 b9 i10 l11 l12 l13 h; exact none_no h
  | succ m ih =>
    intro b8 b9 i10 l11 l12 l13 h
    rw [ev_strike_train_after_l0] at h
    refine TC.region ?_
    refine TL.nextS 3 rfl rfl rfl rfl rfl rfl rfl rfl rfl rfl rfl (fun h2 => ?_) (fun x14 l15 h1 => ?_)
    · have h := nextAll_end h h2
      refine TL.nil ?_
      refine TC.seq ?_
      refine TC.condF rfl ?_
      refine TC.exit rfl ?_
      refine TC.seq ?_
      refine TC.region ?_
      refine op0 (sp_move rfl rfl) rfl trivial rfl rfl ?_
      refine op0 (sp_assign rfl rfl) rfl trivial rfl rfl ?_
      refine TL.nil ?_
      cases h
      exact retJ [(0, 4)] (.tmp rfl .nil) rfl ⟨mem_at 2 rfl, trivial⟩ rfl rfl
    · have h := nextAll_sel h h1
      refine TL.nil ?_
      refine TC.seq ?_
      refine TC.condT rfl ?_
      refine TC.skip ?_
      refine TC.block ?_
      refine TC.seq ?_
      refine TC.region ?_
      refine op1 3 rfl (sp_entry (ag := false) (ka := .val (.int .i64 x14.1)) (va := .val (.int .i64 x14.2)) (ns := []) rfl rfl (fun _ => rfl) (.v (.nil)) rfl rfl) rfl trivial rfl rfl ?_
      refine op0 (sp_extract rfl rfl rfl) rfl trivial rfl rfl ?_
      refine op0 (sp_extract rfl rfl rfl) rfl trivial rfl rfl ?_
      refine op0 (sp_assign rfl rfl) rfl trivial rfl rfl ?_
      refine op0 (sp_assign rfl rfl) rfl trivial rfl rfl ?_
      refine TL.nil ?_
      refine TC.seq ?_
      refine TC.seq ?_
      refine TC.region ?_
      refine op0 (sp_move rfl rfl) rfl trivial rfl rfl ?_
      refine op1 1 rfl (sp_loadBA rfl isBlk rfl vt84 rfl rfl) rfl trivial rfl rfl ?_
      refine op0 (sp_move rfl rfl) rfl trivial rfl rfl ?_
      refine op0 (sp_move rfl rfl) rfl trivial rfl rfl ?_
      obtain ⟨r16, h3, h⟩ := bind_inv h
      refine op1 4 rfl (sp_call (avs := [.agg [.val (.bool b8), .val (.bool b9), .ref 0, .val (.int .i64 i10)], .val (.int .i64 slot6), .val (.int .i64 x14.1)]) (need := [.ro 0 2 (List.map en_api_Span l13)]) (v := .val (.int .i64 r16)) (news := []) rfl rfl rfl Try.call44 (atJ [] [] (fc_strike_train_blows h3) rfl rfl) (.inl (roAll rfl))) rfl trivial rfl rfl ?_
      obtain ⟨r17, h4, h⟩ := bind_inv h
      refine op1 0 rfl (sp_callF (avs := [.val (.int .i64 r16)]) (v := .val (.bool r17)) r16 rfl rfl rfl rfl rfl h4) rfl trivial rfl rfl ?_
      refine TL.nil ?_
      refine TC.cond (b := r17) rfl (fun h5 => ?_) (fun h5 => ?_)
      · have h := cond_t h h5
        refine TC.region ?_
        refine op0 (sp_move rfl rfl) rfl trivial rfl rfl ?_
        refine op1 1 rfl (sp_loadBA rfl isBlk rfl vt84 rfl rfl) rfl trivial rfl rfl ?_
        refine op0 (sp_move rfl rfl) rfl trivial rfl rfl ?_
        obtain ⟨r18, h6, h⟩ := bind_inv h
        refine op1 4 rfl (sp_call (avs := [.agg [.val (.bool b8), .val (.bool b9), .ref 0, .val (.int .i64 i10)], .val (.int .i64 x14.1)]) (need := [.ro 0 2 (List.map en_api_Span l13)]) (v := .val (.int .i64 r18)) (news := []) rfl rfl rfl Try.call62 (atJ [] [] (fc_strike_train_next h6) rfl rfl) (.inl (roAll rfl))) rfl trivial rfl rfl ?_
        refine op0 (sp_move rfl rfl) rfl trivial rfl rfl ?_
        obtain ⟨r19, h7, h⟩ := bind_inv h
        refine opT (take := [.inv 4 (mapI mk90 false en_int l11)]) (need := []) (V' := [.inv 4 (mapI mk90 false en_int r19), .any 2 (D.fn Try.prog fe_funcint_bool fd_funcint_bool hears7), .blk 3 [.val (.bool b8), .val (.bool b9), .ref 0, .val (.int .i64 i10)] 84, .inv 5 (mitI mk90 false en_int l15 (some x14)), .ro 0 2 (List.map en_api_Span l13)]) [2] [] (ts_call (avs := [.ref 4, .val (.int .i64 r18), .val (.int .i64 x14.2)]) (take := [.inv 4 (mapI mk90 false en_int l11)]) (need := []) (v := .tup []) (news := [.inv 4 (mapI mk90 false en_int r19)]) rfl rfl rfl Try.call61 (atT [(0, 4)] [(0, 4)] (ft_strike_misses_add h7) rfl rfl rfl) rfl rfl) trivial rfl ⟨rfl, trivial⟩ trivial rfl rfl ?_
        refine TL.nil ?_
        refine TC.seq ?_
        refine TC.forget 3 rfl ?_
        refine subJ [] (ok_strike_train_after_j1 (slot6 := slot6) ih h) ?_ ?_ ?_
        · exact ⟨rfl, rfl, rfl, rfl, rfl, rfl, rfl, trivial⟩
        · exact ⟨mem_at 1 rfl, mem_at 2 rfl, mem_at 0 rfl, mem_at 3 rfl, mem_at 4 rfl, trivial⟩
        · rfl
      · have h := cond_f h h5
        refine TC.skip ?_
        refine TC.seq ?_
        refine TC.forget 3 rfl ?_
        refine subJ [] (ok_strike_train_after_j1 (slot6 := slot6) ih h) ?_ ?_ ?_
        · exact ⟨rfl, rfl, rfl, rfl, rfl, rfl, rfl, trivial⟩
        · exact ⟨mem_at 0 rfl, mem_at 1 rfl, mem_at 2 rfl, mem_at 3 rfl, mem_at 4 rfl, trivial⟩
        · rfl
def ev_strike_train_after (n : Nat) (t1 : Bool) (t2 : Bool) (t3 : List (Int × Int)) (t4 : Int) (mm5 : List (Int × Int)) (slot6 : Int) (hears7 : Int → Option Bool) : Option ((List (Int × Int))) :=
  ev_strike_train_after_l0 n slot6 hears7 n t1 t2 t4 ([] : List (Int × Int)) mm5 t3
set_option maxRecDepth 100000 in
set_option maxHeartbeats 2000000 in
theorem fc_strike_train_after {n : Nat} {t1 : Bool} {t2 : Bool} {t3 : List (Int × Int)} {t4 : Int} {mm5 : List (Int × Int)} {slot6 : Int} {hears7 : Int → Option Bool} {r : (List (Int × Int))} (h : ev_strike_train_after n t1 t2 t3 t4 mm5 slot6 hears7 = some r) : FC Try.prog 48 [.agg [.val (.bool t1), .val (.bool t2), .ref 0, .val (.int .i64 t4)], .ref 1, .val (.int .i64 slot6), .ref 2] [.ro 0 2 (List.map en_api_Span t3), .any 1 (mapI mk90 false en_int mm5).froz, .any 2 (D.fn Try.prog fe_funcint_bool fd_funcint_bool hears7)] (.ref 0) [.inv 0 (mapI mk90 false en_int r)] := by
  refine introJ (nz := 42) Try.func48 rfl rfl rfl (fun w0 R0 env0 => ?_)
  rw [ev_strike_train_after] at h
  refine TC.seq ?_
  refine TC.region ?_
  refine op0 (sp_box 3 rfl rfl rfl rfl rfl) rfl trivial rfl rfl ?_
  refine op0 (sp_assign rfl rfl) rfl trivial rfl rfl ?_
  refine TL.nil ?_
  refine TC.seq ?_
  refine TC.region ?_
  refine op0 (sp_makeMap (ek := mk90) (ag := false) (ev := en_int) 4 ([] : List (Int × Int)) rfl rfl) rfl trivial rfl rfl ?_
  refine op0 (sp_assign rfl rfl) rfl trivial rfl rfl ?_
  refine TL.nil ?_
  refine TC.seq ?_
  refine TC.seq ?_
  refine TC.region ?_
  refine op0 (sp_move rfl rfl) rfl trivial rfl rfl ?_
  refine op1 3 rfl (sp_range (ek := mk90) (ag := false) (ev := en_int) (xs := mm5) 5 rfl rfl Try.underlying90) rfl trivial rfl rfl ?_
  refine TL.nil ?_
  refine TC.block ?_
  refine TC.loop ?_
  refine TC.seq ?_
  refine subJ [] (ok_strike_train_after_l0 _ _ _ _ _ _ _ h) ?_ ?_ ?_
  · exact ⟨rfl, rfl, rfl, rfl, rfl, trivial⟩
  · exact ⟨mem_at 5 rfl, mem_at 2 rfl, mem_at 1 rfl, mem_at 0 rfl, mem_at 3 rfl, trivial⟩
  · rfl
/- strike_Misses_1 -/
def ev_strike_Misses_1 (n : Nat) (p1 : Int) : Option Bool :=
  some true
set_option maxRecDepth 100000 in
set_option maxHeartbeats 2000000 in
theorem fc_strike_Misses_1 {n : Nat} {p1 : Int} {r : Bool} (h : ev_strike_Misses_1 n p1 = some r) : FC Try.prog 49 [.val (.int .i64 p1)] [] (.val (.bool r)) [] := by
  refine introJ (nz := 3) Try.func49 rfl rfl rfl (fun w0 R0 env0 => ?_)
  rw [ev_strike_Misses_1] at h
  refine TC.seq ?_
  refine TC.region ?_
  refine op0 (sp_assign rfl rfl) rfl trivial rfl rfl ?_
  refine TL.nil ?_
  refine TC.seq ?_
  refine TC.region ?_
  refine op0 (sp_assign rfl rfl) rfl trivial rfl rfl ?_
  refine TL.nil ?_
  cases h
  exact retJ [] (.tmp rfl .nil) rfl trivial rfl rfl
/- strike_Misses_2 -/
def ev_strike_Misses_2 (n : Nat) (blows1 : Int) (c2 : Int) (c3 : Int) : Option Bool :=
  some (blows1 == c3)
set_option maxRecDepth 100000 in
set_option maxHeartbeats 2000000 in
theorem fc_strike_Misses_2 {n : Nat} {blows1 : Int} {c2 : Int} {c3 : Int} {r : Bool} (h : ev_strike_Misses_2 n blows1 c2 c3 = some r) : FC Try.prog 50 [.val (.int .i64 blows1), .ptr 0 0] [.rob 0 [.val (.int .i64 c2), .val (.int .i64 c3)] 43] (.val (.bool r)) [] := by
  refine introJ (nz := 8) Try.func50 rfl rfl rfl (fun w0 R0 env0 => ?_)
  rw [ev_strike_Misses_2] at h
  refine TC.seq ?_
  refine TC.region ?_
  refine op0 (sp_assign rfl rfl) rfl trivial rfl rfl ?_
  refine TL.nil ?_
  refine TC.seq ?_
  refine TC.region ?_
  refine op0 (sp_move rfl rfl) rfl trivial rfl rfl ?_
  refine op1 0 rfl (sp_fieldAddrB rfl isRob rfl ft43_1 vt3 (by decide)) rfl trivial rfl rfl ?_
  refine op1 0 rfl (sp_loadB rfl isRob rfl vt3 rfl) rfl trivial rfl rfl ?_
  refine op0 (sp_eql rfl rfl rfl) rfl trivial rfl rfl ?_
  refine op0 (sp_assign rfl rfl) rfl trivial rfl rfl ?_
  refine TL.nil ?_
  cases h
  exact retJ [] (.tmp rfl .nil) rfl trivial rfl rfl
/- strike_Misses -/
def ev_strike_Misses_l3 (n : Nat) (x24 : Int × Int) (b18 : Bool) (b19 : Bool) (l23 : List (Int × Int)) (i20 : Int) (i17 : Int) (l22 : List (Int × Int)) (k_strike_Misses_l2 : Int → Int → Bool → Bool → Int → (List (Int × Int)) → (List (Int × Int)) → (List (Int × Int)) → Option (Int × (List Int) × Int)) : Nat → Int → (List (Int × Int)) → Option (Int × (List Int) × Int)
  | 0, _, _ => none
  | m + 1, i25, l26 => cond (decide (i25 < x24.1)) ((ev_strike_train_after n b18 b19 l23 i20 l26 i25 (fun a => ev_strike_Misses_1 n a)).bind fun r27 => chk (in64 (i25 + 1)) <| ev_strike_Misses_l3 n x24 b18 b19 l23 i20 i17 l22 k_strike_Misses_l2 m (i25 + 1) r27) ((ev_strike_train_after n b18 b19 l23 i20 l26 i25 (fun a => ev_strike_Misses_2 n a x24.1 x24.2)).bind fun r28 => chk (in64 (i25 + 1)) <| chk (in64 (i17 + 1)) <| k_strike_Misses_l2 (i25 + 1) (i17 + 1) b18 b19 i20 r28 l22 l23)
set_option maxRecDepth 100000 in
set_option maxHeartbeats 2000000 in
theorem ok_strike_Misses_l3 {n : Nat} {w0 : World} {R0 : Nat → Prop} {env0 : Env} {r : Int × (List Int) × Int} {l10 : List (Int × Int)} {x24 : Int × Int} {b18 : Bool} {b19 : Bool} {l23 : List (Int × Int)} {i20 : Int} {i17 : Int} {l22 : List (Int × Int)} {k_strike_Misses_l2 : Int → Int → Bool → Bool → Int → (List (Int × Int)) → (List (Int × Int)) → (List (Int × Int)) → Option (Int × (List Int) × Int)} (hk_strike_Misses_l2 : ∀ (i16 : Int) (i17 : Int) (b18 : Bool) (b19 : Bool) (i20 : Int) (l21 : List (Int × Int)) (l22 : List (Int × Int)) (l23 : List (Int × Int)), k_strike_Misses_l2 i16 i17 b18 b19 i20 l21 l22 l23 = some r → TC Try.prog ⟨w0, fun _ => False, R0⟩ 109 (bodyPost Try.prog Try.f23 (Post ⟨w0, fun _ => False, R0⟩ env0 (.tup [.val (.int .i64 r.1), .ref 0, .val (.int .i64 r.2.2)]) [.row 0 3 1 (List.map en_int r.2.1)])) [.code (sub (bodyOf Try.f23) [1, 1, 1, 1, 1, 1, 0, 1, 0, 0, 0]), .code (sub (bodyOf Try.f23) [1, 1, 1, 1, 1, 1, 0, 1, 0, 0, 1]), .inLoop (sub (bodyOf Try.f23) [1, 1, 1, 1, 1, 1, 0, 1, 0, 0]), .inBlock 2, .code (sub (bodyOf Try.f23) [1, 1, 1, 1, 1, 1, 1])] ([(4, .val (.int .i64 0)), (5, .val (.slice none 0 0)), (7, .ptr 4 0), (8, .ref 6), (9, .val (.int .i64 i16)), (53, .ref 1), (54, .val (.int .i64 (l10.length : Int))), (55, .val (.int .i64 i17))]) ([.blk 4 [.val (.bool b18), .val (.bool b19), .ref 3, .val (.int .i64 i20)] 84, .inv 6 (mapI mk90 false en_int l21), .ro 1 2 (List.map en_api_StrikeHeard l22), .ro 3 2 (List.map en_api_Span l23)])) : ∀ (m : Nat) (i25 : Int) (l26 : List (Int × Int)), ev_strike_Misses_l3 n x24 b18 b19 l23 i20 i17 l22 k_strike_Misses_l2 m i25 l26 = some r → TC Try.prog ⟨w0, fun _ => False, R0⟩ 109 (bodyPost Try.prog Try.f23 (Post ⟨w0, fun _ => False, R0⟩ env0 (.tup [.val (.int .i64 r.1), .ref 0, .val (.int .i64 r.2.2)]) [.row 0 3 1 (List.map en_int r.2.1)])) [.code (sub (bodyOf Try.f23) [1, 1, 1, 1, 1, 1, 0, 1, 0, 0, 1, 1, 0, 0, 1, 0, 0, 0, 0, 0]), .code (sub (bodyOf Try.f23) [1, 1, 1, 1, 1, 1, 0, 1, 0, 0, 1, 1, 0, 0, 1, 0, 0, 0, 0, 1]), .code (sub (bodyOf Try.f23) [1, 1, 1, 1, 1, 1, 0, 1, 0, 0, 1, 1, 0, 0, 1, 0, 0, 0, 1]), .inLoop (sub (bodyOf Try.f23) [1, 1, 1, 1, 1, 1, 0, 1, 0, 0, 1, 1, 0, 0, 1, 0, 0, 0]), .inBlock 4, .code (sub (bodyOf Try.f23) [1, 1, 1, 1, 1, 1, 0, 1, 0, 0, 1, 1, 0, 0, 1, 1]), .inBlock 3, .code (sub (bodyOf Try.f23) [1, 1, 1, 1, 1, 1, 0, 1, 0, 0, 1, 1, 1]), .inLoop (sub (bodyOf Try.f23) [1, 1, 1, 1, 1, 1, 0, 1, 0, 0]), .inBlock 2, .code (sub (bodyOf Try.f23) [1, 1, 1, 1, 1, 1, 1])] ([(4, .val (.int .i64 0)), (5, .val (.slice none 0 0)), (7, .ptr 4 0), (8, .ref 6), (9, .val (.int .i64 i25)), (12, .ptr 7 0), (53, .ref 1), (54, .val (.int .i64 (l10.length : Int))), (55, .val (.int .i64 i17))]) ([.blk 4 [.val (.bool b18), .val (.bool b19), .ref 3, .val (.int .i64 i20)] 84, .inv 6 (mapI mk90 false en_int l26), .blk 7 [.val (.int .i64 x24.1), .val (.int .i64 x24.2)] 43, .ro 1 2 (List.map en_api_StrikeHeard l22), .ro 3 2 (List.map en_api_Span l23)]) := by
  intro m
  induction m with
  | zero => intro i25 l26 h; exact none_no h
  | succ m ih =>
    intro i25 l26 h
    rw [ev_strike_Misses_l3] at h
    refine TC.region ?_
    refine op0 (sp_move rfl rfl) rfl trivial rfl rfl ?_
    refine op1 2 rfl (sp_fieldAddrB rfl isBlk rfl ft43_0 vt3 (by decide)) rfl trivial rfl rfl ?_
    refine op1 2 rfl (sp_loadB rfl isBlk rfl vt3 rfl) rfl trivial rfl rfl ?_
    refine op0 (sp_lss rfl rfl rfl) rfl trivial rfl rfl ?_
    refine TL.nil ?_
    refine TC.cond (b := (decide (i25 < x24.1))) rfl (fun h17 => ?_) (fun h17 => ?_)
    · have h := cond_t h h17
      refine TC.skip ?_
      refine TC.seq ?_
      refine TC.block ?_
      refine TC.region ?_
      refine op1 0 rfl (sp_loadBA rfl isBlk rfl vt84 rfl rfl) rfl trivial rfl rfl ?_
      refine op0 (sp_move rfl rfl) rfl trivial rfl rfl ?_
      refine op0 (sp_move rfl rfl) rfl trivial rfl rfl ?_
      refine TL.freeze 1 rfl ?_
      obtain ⟨r27, h18, h⟩ := bind_inv h
      refine opN (need := [.ro 3 2 (List.map en_api_Span l23), .any 6 (mapI mk90 false en_int l26).froz]) [4, 1] ⟨rfl, rfl, trivial⟩ (sp_call (avs := [.agg [.val (.bool b18), .val (.bool b19), .ref 3, .val (.int .i64 i20)], .ref 6, .val (.int .i64 i25), .fn 49 [] []]) (need := [.ro 3 2 (List.map en_api_Span l23), .any 6 (mapI mk90 false en_int l26).froz]) (v := .ref 9) (news := [.inv 9 (mapI mk90 false en_int r27)]) rfl rfl rfl Try.call48 (FC.fnArg (args := [.agg [.val (.bool b18), .val (.bool b19), .ref 3, .val (.int .i64 i20)], .ref 6, .val (.int .i64 i25), .ref 8]) (needC := []) (need := [.ro 3 2 (List.map en_api_Span l23), .any 6 (mapI mk90 false en_int l26).froz]) 3 (first := []) (caps := []) (FC.needJ (need := [.any 8 (D.fn Try.prog fe_funcint_bool fd_funcint_bool (fun a => ev_strike_Misses_1 n a)), .ro 3 2 (List.map en_api_Span l23), .any 6 (mapI mk90 false en_int l26).froz]) (need' := [.ro 3 2 (List.map en_api_Span l23), .any 6 (mapI mk90 false en_int l26).froz, .any 8 (D.fn Try.prog fe_funcint_bool fd_funcint_bool (fun a => ev_strike_Misses_1 n a))]) [1, 2, 0] ⟨rfl, rfl, rfl, trivial⟩ (atJ [(0, 3), (1, 6), (2, 8)] [(0, 9)] (fc_strike_train_after h18) rfl rfl)) rfl Try.call49 (fun a b hab => atJ [] [] (fc_strike_Misses_1 hab) rfl rfl) rfl (fun _ => rfl) (fun _ => rfl) rfl rfl rfl rfl rfl rfl rfl) (.inl (roAll rfl))) rfl trivial rfl rfl ?_
      refine op0 (sp_assign rfl rfl) rfl trivial rfl rfl ?_
      refine TL.nil ?_
      refine TC.inBlock ?_
      refine TC.region ?_
      refine op0 (sp_move rfl rfl) rfl trivial rfl rfl ?_
      obtain ⟨h19, h⟩ := chk_inv h
      refine op0 (sp_add rfl rfl rfl h19) rfl trivial rfl rfl ?_
      refine op0 (sp_assign rfl rfl) rfl trivial rfl rfl ?_
      refine TL.nil ?_
      refine TC.inLoop ?_
      refine TC.seq ?_
      refine TC.seq ?_
      refine subJ [(6, 9)] (ih _ _ h) ?_ ?_ ?_
      · exact ⟨rfl, rfl, rfl, rfl, rfl, rfl, rfl, rfl, rfl, trivial⟩
      · exact ⟨mem_at 1 rfl, mem_at 0 rfl, mem_at 3 rfl, mem_at 4 rfl, mem_at 5 rfl, trivial⟩
      · rfl
    · have h := cond_f h h17
      refine TC.exit rfl ?_
      refine TC.seq ?_
      refine TC.region ?_
      refine op1 0 rfl (sp_loadBA rfl isBlk rfl vt84 rfl rfl) rfl trivial rfl rfl ?_
      refine op0 (sp_move rfl rfl) rfl trivial rfl rfl ?_
      refine op0 (sp_move rfl rfl) rfl trivial rfl rfl ?_
      refine op0 (sp_makeFunc (fi := []) (ca := [.tmp 12]) (fa := []) (cb := [.ptr 7 0]) rfl rfl rfl) rfl trivial rfl rfl ?_
      refine TL.freeze 1 rfl ?_
      refine TL.freeze 2 rfl ?_
      obtain ⟨r28, h20, h⟩ := bind_inv h
      refine opN (need := [.ro 3 2 (List.map en_api_Span l23), .any 6 (mapI mk90 false en_int l26).froz, .rob 7 [.val (.int .i64 x24.1), .val (.int .i64 x24.2)] 43]) [4, 1, 2] ⟨rfl, rfl, rfl, trivial⟩ (sp_call (avs := [.agg [.val (.bool b18), .val (.bool b19), .ref 3, .val (.int .i64 i20)], .ref 6, .val (.int .i64 i25), .fn 50 [] [.ptr 7 0]]) (need := [.ro 3 2 (List.map en_api_Span l23), .any 6 (mapI mk90 false en_int l26).froz, .rob 7 [.val (.int .i64 x24.1), .val (.int .i64 x24.2)] 43]) (v := .ref 11) (news := [.inv 11 (mapI mk90 false en_int r28)]) rfl rfl rfl Try.call48 (FC.needJ (need := [.ro 3 2 (List.map en_api_Span l23), .any 6 (mapI mk90 false en_int l26).froz, .rob 7 [.val (.int .i64 x24.1), .val (.int .i64 x24.2)] 43]) (need' := [.rob 7 [.val (.int .i64 x24.1), .val (.int .i64 x24.2)] 43, .ro 3 2 (List.map en_api_Span l23), .any 6 (mapI mk90 false en_int l26).froz]) [2, 0, 1] ⟨rfl, rfl, rfl, trivial⟩ (FC.fnArg (args := [.agg [.val (.bool b18), .val (.bool b19), .ref 3, .val (.int .i64 i20)], .ref 6, .val (.int .i64 i25), .ref 10]) (needC := [.rob 7 [.val (.int .i64 x24.1), .val (.int .i64 x24.2)] 43]) (need := [.ro 3 2 (List.map en_api_Span l23), .any 6 (mapI mk90 false en_int l26).froz]) 3 (first := []) (caps := [.ptr 7 0]) (FC.needJ (need := [.any 10 (D.fn Try.prog fe_funcint_bool fd_funcint_bool (fun a => ev_strike_Misses_2 n a x24.1 x24.2)), .ro 3 2 (List.map en_api_Span l23), .any 6 (mapI mk90 false en_int l26).froz]) (need' := [.ro 3 2 (List.map en_api_Span l23), .any 6 (mapI mk90 false en_int l26).froz, .any 10 (D.fn Try.prog fe_funcint_bool fd_funcint_bool (fun a => ev_strike_Misses_2 n a x24.1 x24.2))]) [1, 2, 0] ⟨rfl, rfl, rfl, trivial⟩ (atJ [(0, 3), (1, 6), (2, 10)] [(0, 11)] (fc_strike_train_after h20) rfl rfl)) rfl Try.call50 (fun a b hab => atJ [(0, 7)] [] (fc_strike_Misses_2 hab) rfl rfl) rfl (fun _ => rfl) (fun _ => rfl) rfl rfl rfl rfl rfl rfl rfl)) (.inl (roAll rfl))) rfl trivial rfl rfl ?_
      refine op0 (sp_assign rfl rfl) rfl trivial rfl rfl ?_
      refine TL.nil ?_
      refine TC.region ?_
      refine op0 (sp_move rfl rfl) rfl trivial rfl rfl ?_
      obtain ⟨h21, h⟩ := chk_inv h
      refine op0 (sp_add rfl rfl rfl h21) rfl trivial rfl rfl ?_
      refine op0 (sp_assign rfl rfl) rfl trivial rfl rfl ?_
      refine TL.nil ?_
      refine TC.inBlock ?_
      refine TC.region ?_
      obtain ⟨h22, h⟩ := chk_inv h
      refine op0 (sp_add rfl rfl rfl h22) rfl trivial rfl rfl ?_
      refine op0 (sp_move rfl rfl) rfl trivial rfl rfl ?_
      refine TL.nil ?_
      refine TC.inLoop ?_
      refine TC.seq ?_
      refine subJ [(6, 11)] (hk_strike_Misses_l2 _ _ _ _ _ _ _ _ h) ?_ ?_ ?_
      · exact ⟨rfl, rfl, rfl, rfl, rfl, rfl, rfl, rfl, trivial⟩
      · exact ⟨mem_at 1 rfl, mem_at 0 rfl, mem_at 4 rfl, mem_at 5 rfl, trivial⟩
      · rfl
def ev_strike_Misses_l4 (n : Nat) : Nat → Int → (List Int) → Bool → (List (Int × Int)) → Option (Int × (List Int) × Int)
  | 0, _, _, _, _ => none
  | m + 1, i29, l30, b31, l32 => nextAll l32 (fun x33 l34 => cond b31 (ev_strike_Misses_l4 n m x33.2 ([x33.1] : List Int) false l34) (cond (decide (x33.2 < i29)) (ev_strike_Misses_l4 n m x33.2 ([x33.1] : List Int) false l34) (cond (x33.2 == i29) (chk (room 8 (l30.length + ([x33.1] : List Int).length)) <| ev_strike_Misses_l4 n m i29 (l30 ++ ([x33.1] : List Int)) b31 l34) (ev_strike_Misses_l4 n m i29 l30 b31 l34)))) ((ev_slices_Sort_Lint_int n l30).bind fun r35 => some (i29, r35, 0))
set_option maxRecDepth 100000 in
set_option maxHeartbeats 2000000 in
theorem ok_strike_Misses_l4 {n : Nat} {w0 : World} {R0 : Nat → Prop} {env0 : Env} {r : Int × (List Int) × Int} : ∀ (m : Nat) (i29 : Int) (l30 : List Int) (b31 : Bool) (l32 : List (Int × Int)), ev_strike_Misses_l4 n m i29 l30 b31 l32 = some r → TC Try.prog ⟨w0, fun _ => False, R0⟩ 109 (bodyPost Try.prog Try.f23 (Post ⟨w0, fun _ => False, R0⟩ env0 (.tup [.val (.int .i64 r.1), .ref 0, .val (.int .i64 r.2.2)]) [.row 0 3 1 (List.map en_int r.2.1)])) [.code (sub (bodyOf Try.f23) [1, 1, 1, 1, 1, 1, 1, 1, 1, 0, 1, 0, 0, 0]), .code (sub (bodyOf Try.f23) [1, 1, 1, 1, 1, 1, 1, 1, 1, 0, 1, 0, 0, 1]), .inLoop (sub (bodyOf Try.f23) [1, 1, 1, 1, 1, 1, 1, 1, 1, 0, 1, 0, 0]), .inBlock 6, .code (sub (bodyOf Try.f23) [1, 1, 1, 1, 1, 1, 1, 1, 1, 1])] ([(4, .val (.int .i64 i29)), (5, .ref 14), (13, .val (.bool b31)), (81, .ref 13)]) ([.row 14 3 1 (List.map en_int l30), .inv 13 (mitI mk90 false en_int l32 none)]) := by
  intro m
  induction m with
  | zero => intro i29 l30 b31 l32 h; exact none_no h
  | succ m ih =>
    intro i29 l30 b31 l32 h
    rw [ev_strike_Misses_l4] at h
    refine TC.region ?_
    refine TL.nextS 1 rfl rfl rfl rfl rfl rfl rfl rfl rfl rfl rfl (fun h25 => ?_) (fun x33 l34 h24 => ?_)
    · have h := nextAll_end h h25
      refine TL.nil ?_
      refine TC.seq ?_
      refine TC.condF rfl ?_
      refine TC.exit rfl ?_
      refine TC.seq ?_
      refine TC.region ?_
      refine op0 (sp_move rfl rfl) rfl trivial rfl rfl ?_
      obtain ⟨r35, h26, h⟩ := bind_inv h
      refine opT (take := [.row 14 3 1 (List.map en_int l30)]) (need := []) (V' := [.row 14 3 1 (List.map en_int r35), .inv 13 (mitI mk90 false en_int l32 none)]) [0] [] (ts_call (avs := [.ref 14]) (take := [.row 14 3 1 (List.map en_int l30)]) (need := []) (v := .tup []) (news := [.row 14 3 1 (List.map en_int r35)]) rfl rfl rfl Try.call51 (atT [(0, 14)] [(0, 14)] (ft_slices_Sort_Lint_int h26) rfl rfl rfl) rfl rfl) trivial rfl ⟨rfl, trivial⟩ trivial rfl rfl ?_
      refine TL.nil ?_
      refine TC.seq ?_
      refine TC.region ?_
      refine op0 (sp_move rfl rfl) rfl trivial rfl rfl ?_
      refine op0 (sp_move rfl rfl) rfl trivial rfl rfl ?_
      refine op0 (sp_assign rfl rfl) rfl trivial rfl rfl ?_
      refine op0 (sp_assign rfl rfl) rfl trivial rfl rfl ?_
      refine op0 (sp_assign rfl rfl) rfl trivial rfl rfl ?_
      refine TL.nil ?_
      cases h
      exact retJ [(0, 14)] (.tmp rfl (.tmp rfl (.tmp rfl .nil))) rfl ⟨mem_at 0 rfl, trivial⟩ rfl rfl
    · have h := nextAll_sel h h24
      refine TL.nil ?_
      refine TC.seq ?_
      refine TC.condT rfl ?_
      refine TC.skip ?_
      refine TC.block ?_
      refine TC.seq ?_
      refine TC.region ?_
      refine op1 1 rfl (sp_entry (ag := false) (ka := .val (.int .i64 x33.1)) (va := .val (.int .i64 x33.2)) (ns := []) rfl rfl (fun _ => rfl) (.v (.nil)) rfl rfl) rfl trivial rfl rfl ?_
      refine op0 (sp_extract rfl rfl rfl) rfl trivial rfl rfl ?_
      refine op0 (sp_extract rfl rfl rfl) rfl trivial rfl rfl ?_
      refine op0 (sp_assign rfl rfl) rfl trivial rfl rfl ?_
      refine op0 (sp_assign rfl rfl) rfl trivial rfl rfl ?_
      refine TL.nil ?_
      refine TC.block ?_
      refine TC.seq ?_
      refine TC.region ?_
      refine op0 (sp_move rfl rfl) rfl trivial rfl rfl ?_
      refine op0 (sp_move rfl rfl) rfl trivial rfl rfl ?_
      rcases cond_cases h with ⟨h27, h⟩ | ⟨h27, h⟩
      · refine (boolLit 89 rfl h27).2 ?_
        refine opSkip rfl ⟨_, rfl, .inl rfl⟩ rfl ?_
        refine opSkip rfl ⟨_, rfl, .inl rfl⟩ rfl ?_
        refine opSkip rfl ⟨_, rfl, .inl rfl⟩ rfl ?_
        refine op0 (sp_pickT rfl rfl rfl) rfl trivial rfl rfl ?_
        refine op0 (sp_assign rfl rfl) rfl trivial rfl rfl ?_
        refine TL.nil ?_
        refine TC.condT rfl ?_
        refine TC.region ?_
        refine op0 (sp_move rfl rfl) rfl trivial rfl rfl ?_
        refine op0 (sp_move rfl rfl) rfl trivial rfl rfl ?_
        refine op0 (sp_buildSlice (qs := [.val (.int .i64 x33.1)]) (need := []) (els := List.map en_int ([x33.1] : List Int)) 15 rfl sl39 (by decide) (by decide) rfl rfl rfl (.v (.nil)) (map_len fun _ => rfl) rfl rfl rfl) rfl trivial rfl rfl ?_
        refine op0 (sp_assign rfl rfl) rfl trivial rfl rfl ?_
        refine op0 (sp_assign rfl rfl) rfl trivial rfl rfl ?_
        refine op0 (sp_assign rfl rfl) rfl trivial rfl rfl ?_
        refine TL.nil ?_
        refine TC.inBlock ?_
        refine TC.inBlock ?_
        refine TC.inLoop ?_
        refine TC.seq ?_
        refine TC.forget 2 rfl ?_
        refine subJ [(14, 15)] (ih _ _ _ _ h) ?_ ?_ ?_
        · exact ⟨rfl, rfl, rfl, rfl, trivial⟩
        · exact ⟨mem_at 0 rfl, mem_at 2 rfl, trivial⟩
        · rfl
      · refine (boolLit 89 rfl h27).2 ?_
        refine op0 (sp_move rfl rfl) rfl ⟨_, rfl, rfl⟩ rfl rfl ?_
        refine op0 (sp_move rfl rfl) rfl ⟨_, rfl, rfl⟩ rfl rfl ?_
        refine op0 (sp_lss rfl rfl rfl) rfl ⟨_, rfl, rfl⟩ rfl rfl ?_
        refine op0 (sp_pickF rfl rfl rfl) rfl trivial rfl rfl ?_
        refine op0 (sp_assign rfl rfl) rfl trivial rfl rfl ?_
        refine TL.nil ?_
        refine TC.cond (b := (decide (x33.2 < i29))) rfl (fun h28 => ?_) (fun h28 => ?_)
        · have h := cond_t h h28
          refine TC.region ?_
          refine op0 (sp_move rfl rfl) rfl trivial rfl rfl ?_
          refine op0 (sp_move rfl rfl) rfl trivial rfl rfl ?_
          refine op0 (sp_buildSlice (qs := [.val (.int .i64 x33.1)]) (need := []) (els := List.map en_int ([x33.1] : List Int)) 16 rfl sl39 (by decide) (by decide) rfl rfl rfl (.v (.nil)) (map_len fun _ => rfl) rfl rfl rfl) rfl trivial rfl rfl ?_
          refine op0 (sp_assign rfl rfl) rfl trivial rfl rfl ?_
          refine op0 (sp_assign rfl rfl) rfl trivial rfl rfl ?_
          refine op0 (sp_assign rfl rfl) rfl trivial rfl rfl ?_
          refine TL.nil ?_
          refine TC.inBlock ?_
          refine TC.inBlock ?_
          refine TC.inLoop ?_
          refine TC.seq ?_
          refine TC.forget 2 rfl ?_
          refine subJ [(14, 16)] (ih _ _ _ _ h) ?_ ?_ ?_
          · exact ⟨rfl, rfl, rfl, rfl, trivial⟩
          · exact ⟨mem_at 0 rfl, mem_at 2 rfl, trivial⟩
          · rfl
        · have h := cond_f h h28
          refine TC.seq ?_
          refine TC.region ?_
          refine op0 (sp_move rfl rfl) rfl trivial rfl rfl ?_
          refine op0 (sp_move rfl rfl) rfl trivial rfl rfl ?_
          refine op0 (sp_eql rfl rfl rfl) rfl trivial rfl rfl ?_
          refine op0 (sp_assign rfl rfl) rfl trivial rfl rfl ?_
          refine TL.nil ?_
          refine TC.cond (b := (x33.2 == i29)) rfl (fun h29 => ?_) (fun h29 => ?_)
          · have h := cond_t h h29
            refine TC.region ?_
            refine op0 (sp_move rfl rfl) rfl trivial rfl rfl ?_
            refine op0 (sp_move rfl rfl) rfl trivial rfl rfl ?_
            refine op0 (sp_buildSlice (qs := [.val (.int .i64 x33.1)]) (need := []) (els := List.map en_int ([x33.1] : List Int)) 17 rfl sl39 (by decide) (by decide) rfl rfl rfl (.v (.nil)) (map_len fun _ => rfl) rfl rfl rfl) rfl trivial rfl rfl ?_
            obtain ⟨h30, h⟩ := chk_inv h
            refine appM 1 0 (N := l30.length) (N2 := ([x33.1] : List Int).length) 18 rfl rfl trivial rfl rfl rfl rfl rfl isOwn rfl sl39 (len_map _ _) (len_map _ _) h30 (map_app _ _ _) rfl ?_
            refine op0 (sp_assign rfl rfl) rfl trivial rfl rfl ?_
            refine TL.nil ?_
            refine TC.inBlock ?_
            refine TC.inBlock ?_
            refine TC.inLoop ?_
            refine TC.seq ?_
            refine TC.forget 2 rfl ?_
            refine subJ [(14, 18)] (ih _ _ _ _ h) ?_ ?_ ?_
            · exact ⟨rfl, rfl, rfl, rfl, trivial⟩
            · exact ⟨mem_at 0 rfl, mem_at 2 rfl, trivial⟩
            · rfl
          · have h := cond_f h h29
            refine TC.skip ?_
            refine TC.inBlock ?_
            refine TC.inBlock ?_
            refine TC.inLoop ?_
            refine TC.seq ?_
            refine TC.forget 1 rfl ?_
            refine subJ [] (ih _ _ _ _ h) ?_ ?_ ?_
            · exact ⟨rfl, rfl, rfl, rfl, trivial⟩
            · exact ⟨mem_at 0 rfl, mem_at 1 rfl, trivial⟩
            · rfl
def ev_strike_Misses_l2 (n : Nat) (l10 : List (Int × Int)) : Nat → Int → Int → Bool → Bool → Int → (List (Int × Int)) → (List (Int × Int)) → (List (Int × Int)) → Option (Int × (List Int) × Int)
  | 0, _, _, _, _, _, _, _, _ => none
  | m + 1, i16, i17, b18, b19, i20, l21, l22, l23 => cond (decide (i17 < (l10.length : Int))) (idx l22 i17 fun x24 => ev_strike_Misses_l3 n x24 b18 b19 l23 i20 i17 l22 (fun i16q i17q b18q b19q i20q l21q l22q l23q => ev_strike_Misses_l2 n l10 m i16q i17q b18q b19q i20q l21q l22q l23q) n i16 l21) (cond ((l21.length : Int) == 0) (some (0, ([] : List Int), 9)) (ev_strike_Misses_l4 n n 0 ([] : List Int) true l21))
set_option maxRecDepth 100000 in
set_option maxHeartbeats 2000000 in
theorem ok_strike_Misses_l2 {n : Nat} {w0 : World} {R0 : Nat → Prop} {env0 : Env} {r : Int × (List Int) × Int} {l10 : List (Int × Int)} : ∀ (m : Nat) (i16 : Int) (i17 : Int) (b18 : Bool) (b19 : Bool) (i20 : Int) (l21 : List (Int × Int)) (l22 : List (Int × Int)) (l23 : List (Int × Int)), ev_strike_Misses_l2 n l10 m i16 i17 b18 b19 i20 l21 l22 l23 = some r → TC Try.prog ⟨w0, fun _ => False, R0⟩ 109 (bodyPost Try.prog Try.f23 (Post ⟨w0, fun _ => False, R0⟩ env0 (.tup [.val (.int .i64 r.1), .ref 0, .val (.int .i64 r.2.2)]) [.row 0 3 1 (List.map en_int r.2.1)])) [.code (sub (bodyOf Try.f23) [1, 1, 1, 1, 1, 1, 0, 1, 0, 0, 0]), .code (sub (bodyOf Try.f23) [1, 1, 1, 1, 1, 1, 0, 1, 0, 0, 1]), .inLoop (sub (bodyOf Try.f23) [1, 1, 1, 1, 1, 1, 0, 1, 0, 0]), .inBlock 2, .code (sub (bodyOf Try.f23) [1, 1, 1, 1, 1, 1, 1])] ([(4, .val (.int .i64 0)), (5, .val (.slice none 0 0)), (7, .ptr 4 0), (8, .ref 6), (9, .val (.int .i64 i16)), (53, .ref 1), (54, .val (.int .i64 (l10.length : Int))), (55, .val (.int .i64 i17))]) ([.blk 4 [.val (.bool b18), .val (.bool b19), .ref 3, .val (.int .i64 i20)] 84, .inv 6 (mapI mk90 false en_int l21), .ro 1 2 (List.map en_api_StrikeHeard l22), .ro 3 2 (List.map en_api_Span l23)]) := by
  intro m
  induction m with
  | zero => intro i16 i17 b18 b19 i20 l21 l22 l23 h; exact none_no h
  | succ m ih =>
    intro i16 i17 b18 b19 i20 l21 l22 l23 h
    rw [ev_strike_Misses_l2] at h
    refine TC.region ?_
    refine op0 (sp_lss rfl rfl rfl) rfl trivial rfl rfl ?_
    refine TL.nil ?_
    refine TC.seq ?_
    refine TC.cond (b := (decide (i17 < (l10.length : Int)))) rfl (fun h14 => ?_) (fun h14 => ?_)
    · have h := cond_t h h14
      refine TC.skip ?_
      refine TC.seq ?_
      refine TC.block ?_
      refine TC.seq ?_
      refine TC.region ?_
      obtain ⟨x24, h15, h16, h⟩ := idx_inv h
      refine op1 2 rfl (sp_indexS rfl rfl rfl isRo sl37 h15 (map_get _ h16)) rfl trivial rfl rfl ?_
      refine op1 2 rfl (sp_loadRA (i := (i17 : Int).toNat) (j := 0) (as_ := [.val (.int .i64 x24.1), .val (.int .i64 x24.2)]) (ns := []) rfl rfl isRo vt43 rfl (map_get _ h16) rfl rfl (by decide) (.v (.v (.nil))) (nodup_of_B rfl)) rfl trivial rfl rfl ?_
      refine op0 (sp_alloc 7 rfl Try.zeroValue43 rfl) rfl trivial rfl rfl ?_
      refine stoB 0 (cells' := [.val (.int .i64 x24.1), .val (.int .i64 x24.2)]) rfl rfl trivial rfl rfl rfl rfl vt43 rfl rfl rfl ?_
      refine TL.nil ?_
      refine TC.seq ?_
      refine TC.block ?_
      refine TC.loop ?_
      refine TC.seq ?_
      refine TC.seq ?_
      refine subJ [] (ok_strike_Misses_l3 (l10 := l10) ih _ _ _ h) ?_ ?_ ?_
      · exact ⟨rfl, rfl, rfl, rfl, rfl, rfl, rfl, rfl, rfl, trivial⟩
      · exact ⟨mem_at 1 rfl, mem_at 2 rfl, mem_at 0 rfl, mem_at 3 rfl, mem_at 4 rfl, trivial⟩
      · rfl
    · have h := cond_f h h14
      refine TC.exit rfl ?_
      refine TC.seq ?_
      refine TC.seq ?_
      refine TC.region ?_
      refine op0 (sp_move rfl rfl) rfl trivial rfl rfl ?_
      refine op1 1 rfl (sp_lenMap rfl rfl isMapO Try.underlying90) rfl trivial rfl rfl ?_
      refine op0 (sp_eql rfl rfl rfl) rfl trivial rfl rfl ?_
      refine TL.nil ?_
      refine TC.cond (b := ((l21.length : Int) == 0)) rfl (fun h23 => ?_) (fun h23 => ?_)
      · have h := cond_t h h23
        refine TC.seq ?_
        refine TC.region ?_
        refine op0 (sp_assign rfl rfl) rfl trivial rfl rfl ?_
        refine op0 (sp_assign rfl rfl) rfl trivial rfl rfl ?_
        refine op0 (sp_assign rfl rfl) rfl trivial rfl rfl ?_
        refine TL.nil ?_
        refine nilRowC 5 12 3 1 (List.map en_int []) rfl rfl rfl ?_
        cases h
        exact retJ [(0, 12)] (.tmp rfl (.tmp rfl (.tmp rfl .nil))) rfl ⟨mem_at 0 rfl, trivial⟩ rfl rfl
      · have h := cond_f h h23
        refine TC.skip ?_
        refine TC.seq ?_
        refine TC.region ?_
        refine op0 (sp_assign rfl rfl) rfl trivial rfl rfl ?_
        refine TL.nil ?_
        refine TC.seq ?_
        refine TC.seq ?_
        refine TC.region ?_
        refine op0 (sp_move rfl rfl) rfl trivial rfl rfl ?_
        refine TL.freeze 1 rfl ?_
        refine op1 1 rfl (sp_range (ek := mk90) (ag := false) (ev := en_int) (xs := l21) 13 rfl rfl Try.underlying90) rfl trivial rfl rfl ?_
        refine TL.nil ?_
        refine TC.block ?_
        refine TC.loop ?_
        refine TC.seq ?_
        refine nilRowC 5 19 3 1 (List.map en_int []) rfl rfl rfl ?_
        refine subJ [(14, 19)] (ok_strike_Misses_l4 _ _ _ _ _ h) ?_ ?_ ?_
        · exact ⟨rfl, rfl, rfl, rfl, trivial⟩
        · exact ⟨mem_at 0 rfl, mem_at 1 rfl, trivial⟩
        · rfl
def ev_strike_Misses_l1 (n : Nat) (r5 : Bool × Bool × (List (Int × Int)) × Int × Int) (x8 : Int × Int) : Nat → Int → (List (Int × Int)) → Bool → Bool → Int → (List (Int × Int)) → (List (Int × Int)) → Option (Int × (List Int) × Int)
  | 0, _, _, _, _, _, _, _ => none
  | m + 1, i9, l10, b11, b12, i13, l14, l15 => cond (decide (i9 < r5.2.2.2.1)) (cond (!b12) (chk (in64 (i9 + 1)) <| ev_strike_Misses_l1 n r5 x8 m (i9 + 1) l10 b11 b12 i13 (mputS kl90 l14 i9 0) l15) (chk (i13 != 0) <| cond (i9 == (Int.tmod x8.1 i13)) (chk (in64 (i9 + 1)) <| ev_strike_Misses_l1 n r5 x8 m (i9 + 1) l10 b11 b12 i13 (mputS kl90 l14 i9 0) l15) (chk (in64 (i9 + 1)) <| ev_strike_Misses_l1 n r5 x8 m (i9 + 1) l10 b11 b12 i13 l14 l15))) (ev_strike_Misses_l2 n l10 n x8.1 0 b11 b12 i13 l14 l10 l15)
set_option maxRecDepth 100000 in
set_option maxHeartbeats 2000000 in
theorem ok_strike_Misses_l1 {n : Nat} {w0 : World} {R0 : Nat → Prop} {env0 : Env} {r : Int × (List Int) × Int} {x8 : Int × Int} {r5 : Bool × Bool × (List (Int × Int)) × Int × Int} : ∀ (m : Nat) (i9 : Int) (l10 : List (Int × Int)) (b11 : Bool) (b12 : Bool) (i13 : Int) (l14 : List (Int × Int)) (l15 : List (Int × Int)), ev_strike_Misses_l1 n r5 x8 m i9 l10 b11 b12 i13 l14 l15 = some r → TC Try.prog ⟨w0, fun _ => False, R0⟩ 109 (bodyPost Try.prog Try.f23 (Post ⟨w0, fun _ => False, R0⟩ env0 (.tup [.val (.int .i64 r.1), .ref 0, .val (.int .i64 r.2.2)]) [.row 0 3 1 (List.map en_int r.2.1)])) [.code (sub (bodyOf Try.f23) [1, 1, 1, 1, 1, 0, 1, 0, 0, 0]), .code (sub (bodyOf Try.f23) [1, 1, 1, 1, 1, 0, 1, 0, 0, 1]), .inLoop (sub (bodyOf Try.f23) [1, 1, 1, 1, 1, 0, 1, 0, 0]), .inBlock 0, .code (sub (bodyOf Try.f23) [1, 1, 1, 1, 1, 1])] ([(1, .ref 1), (4, .val (.int .i64 0)), (5, .val (.slice none 0 0)), (7, .ptr 4 0), (8, .ref 6), (9, .val (.int .i64 x8.1)), (34, .val (.int .i64 r5.2.2.2.1)), (35, .val (.int .i64 i9))]) ([.ro 1 2 (List.map en_api_StrikeHeard l10), .blk 4 [.val (.bool b11), .val (.bool b12), .ref 3, .val (.int .i64 i13)] 84, .inv 6 (mapI mk90 false en_int l14), .ro 3 2 (List.map en_api_Span l15)]) := by
  intro m
  induction m with
  | zero => intro i9 l10 b11 b12 i13 l14 l15 h; exact none_no h
  | succ m ih =>
    intro i9 l10 b11 b12 i13 l14 l15 h
    rw [ev_strike_Misses_l1] at h
    refine TC.region ?_
    refine op0 (sp_lss rfl rfl rfl) rfl trivial rfl rfl ?_
    refine TL.nil ?_
    refine TC.seq ?_
    refine TC.cond (b := (decide (i9 < r5.2.2.2.1))) rfl (fun h7 => ?_) (fun h7 => ?_)
    · have h := cond_t h h7
      refine TC.skip ?_
      refine TC.seq ?_
      refine TC.block ?_
      refine TC.seq ?_
      refine TC.region ?_
      refine op0 (sp_move rfl rfl) rfl trivial rfl rfl ?_
      refine op0 (sp_assign rfl rfl) rfl trivial rfl rfl ?_
      refine TL.nil ?_
      refine TC.seq ?_
      refine TC.region ?_
      refine op1 1 rfl (sp_fieldAddrB rfl isBlk rfl ft84_0 vt24 (by decide)) rfl trivial rfl rfl ?_
      refine op1 1 rfl (sp_fieldAddrB rfl isBlk rfl ft24_1 vt4 (by decide)) rfl trivial rfl rfl ?_
      refine op1 1 rfl (sp_loadB rfl isBlk rfl vt4 rfl) rfl trivial rfl rfl ?_
      refine op0 (sp_not rfl rfl) rfl trivial rfl rfl ?_
      refine op0 (sp_move rfl rfl) rfl trivial rfl rfl ?_
      rcases cond_cases h with ⟨h8, h⟩ | ⟨h8, h⟩
      · refine (boolLit 42 rfl h8).2 ?_
        refine opSkip rfl ⟨_, rfl, .inl rfl⟩ rfl ?_
        refine opSkip rfl ⟨_, rfl, .inl rfl⟩ rfl ?_
        refine opSkip rfl ⟨_, rfl, .inl rfl⟩ rfl ?_
        refine opSkip rfl ⟨_, rfl, .inl rfl⟩ rfl ?_
        refine opSkip rfl ⟨_, rfl, .inl rfl⟩ rfl ?_
        refine opSkip rfl ⟨_, rfl, .inl rfl⟩ rfl ?_
        refine op0 (sp_pickT rfl rfl rfl) rfl trivial rfl rfl ?_
        refine TL.nil ?_
        refine TC.condT rfl ?_
        refine TC.region ?_
        refine op0 (sp_move rfl rfl) rfl trivial rfl rfl ?_
        refine op0 (sp_move rfl rfl) rfl trivial rfl rfl ?_
        refine opT (take := [.inv 6 (mapI mk90 false en_int l14)]) (need := []) (V' := [.inv 6 (mapI mk90 false en_int (mputS kl90 l14 i9 0)), .ro 1 2 (List.map en_api_StrikeHeard l10), .blk 4 [.val (.bool b11), .val (.bool b12), .ref 3, .val (.int .i64 i13)] 84, .ro 3 2 (List.map en_api_Span l15)]) [2] [] (ts_mapUpdate (need := []) i9 0 rfl rfl rfl (fun _ => rfl) rfl rfl rfl (.v (.nil)) km90 (fun h => mputS_perm kl90 _ _ h)) trivial rfl ⟨rfl, trivial⟩ trivial rfl rfl ?_
        refine TL.nil ?_
        refine TC.inBlock ?_
        refine TC.region ?_
        obtain ⟨h9, h⟩ := chk_inv h
        refine op0 (sp_add rfl rfl rfl h9) rfl trivial rfl rfl ?_
        refine op0 (sp_move rfl rfl) rfl trivial rfl rfl ?_
        refine TL.nil ?_
        refine TC.inLoop ?_
        refine TC.seq ?_
        refine subJ [] (ih _ _ _ _ _ _ _ h) ?_ ?_ ?_
        · exact ⟨rfl, rfl, rfl, rfl, rfl, rfl, rfl, rfl, trivial⟩
        · exact ⟨mem_at 1 rfl, mem_at 2 rfl, mem_at 0 rfl, mem_at 3 rfl, trivial⟩
        · rfl
      · refine (boolLit 42 rfl h8).2 ?_
        refine op0 (sp_move rfl rfl) rfl ⟨_, rfl, rfl⟩ rfl rfl ?_
        refine op0 (sp_move rfl rfl) rfl ⟨_, rfl, rfl⟩ rfl rfl ?_
        refine op1 1 rfl (sp_fieldAddrB rfl isBlk rfl ft84_1 vt3 (by decide)) rfl ⟨_, rfl, rfl⟩ rfl rfl ?_
        refine op1 1 rfl (sp_loadB rfl isBlk rfl vt3 rfl) rfl ⟨_, rfl, rfl⟩ rfl rfl ?_
        obtain ⟨h10, h⟩ := chk_inv h
        refine op0 (sp_rem rfl rfl rfl h10) rfl ⟨_, rfl, rfl⟩ rfl rfl ?_
        refine op0 (sp_eql rfl rfl rfl) rfl ⟨_, rfl, rfl⟩ rfl rfl ?_
        refine op0 (sp_pickF rfl rfl rfl) rfl trivial rfl rfl ?_
        refine TL.nil ?_
        refine TC.cond (b := (i9 == (Int.tmod x8.1 i13))) rfl (fun h11 => ?_) (fun h11 => ?_)
        · have h := cond_t h h11
          refine TC.region ?_
          refine op0 (sp_move rfl rfl) rfl trivial rfl rfl ?_
          refine op0 (sp_move rfl rfl) rfl trivial rfl rfl ?_
          refine opT (take := [.inv 6 (mapI mk90 false en_int l14)]) (need := []) (V' := [.inv 6 (mapI mk90 false en_int (mputS kl90 l14 i9 0)), .ro 1 2 (List.map en_api_StrikeHeard l10), .blk 4 [.val (.bool b11), .val (.bool b12), .ref 3, .val (.int .i64 i13)] 84, .ro 3 2 (List.map en_api_Span l15)]) [2] [] (ts_mapUpdate (need := []) i9 0 rfl rfl rfl (fun _ => rfl) rfl rfl rfl (.v (.nil)) km90 (fun h => mputS_perm kl90 _ _ h)) trivial rfl ⟨rfl, trivial⟩ trivial rfl rfl ?_
          refine TL.nil ?_
          refine TC.inBlock ?_
          refine TC.region ?_
          obtain ⟨h12, h⟩ := chk_inv h
          refine op0 (sp_add rfl rfl rfl h12) rfl trivial rfl rfl ?_
          refine op0 (sp_move rfl rfl) rfl trivial rfl rfl ?_
          refine TL.nil ?_
          refine TC.inLoop ?_
          refine TC.seq ?_
          refine subJ [] (ih _ _ _ _ _ _ _ h) ?_ ?_ ?_
          · exact ⟨rfl, rfl, rfl, rfl, rfl, rfl, rfl, rfl, trivial⟩
          · exact ⟨mem_at 1 rfl, mem_at 2 rfl, mem_at 0 rfl, mem_at 3 rfl, trivial⟩
          · rfl
        · have h := cond_f h h11
          refine TC.skip ?_
          refine TC.inBlock ?_
          refine TC.region ?_
          obtain ⟨h13, h⟩ := chk_inv h
          refine op0 (sp_add rfl rfl rfl h13) rfl trivial rfl rfl ?_
          refine op0 (sp_move rfl rfl) rfl trivial rfl rfl ?_
          refine TL.nil ?_
          refine TC.inLoop ?_
          refine TC.seq ?_
          refine subJ [] (ih _ _ _ _ _ _ _ h) ?_ ?_ ?_
          · exact ⟨rfl, rfl, rfl, rfl, rfl, rfl, rfl, rfl, trivial⟩
          · exact ⟨mem_at 0 rfl, mem_at 1 rfl, mem_at 2 rfl, mem_at 3 rfl, trivial⟩
          · rfl
    · have h := cond_f h h7
      refine TC.exit rfl ?_
      refine TC.seq ?_
      refine TC.seq ?_
      refine TC.region ?_
      refine op0 (sp_move rfl rfl) rfl trivial rfl rfl ?_
      refine op1 0 rfl (sp_lenM (N := l10.length) (len_map _ _) rfl rfl isRo Try.underlying37) rfl trivial rfl rfl ?_
      refine op0 (sp_move rfl rfl) rfl trivial rfl rfl ?_
      refine TL.nil ?_
      refine TC.block ?_
      refine TC.loop ?_
      refine TC.seq ?_
      refine subJ [] (ok_strike_Misses_l2 _ _ _ _ _ _ _ _ _ h) ?_ ?_ ?_
      · exact ⟨rfl, rfl, rfl, rfl, rfl, rfl, rfl, rfl, trivial⟩
      · exact ⟨mem_at 1 rfl, mem_at 2 rfl, mem_at 0 rfl, mem_at 3 rfl, trivial⟩
      · rfl
def ev_strike_Misses_j0 (n : Nat) (heard4 : List (Int × Int)) (r5 : Bool × Bool × (List (Int × Int)) × Int × Int) (i7 : Int) : Option (Int × (List Int) × Int) :=
  cond (i7 != 0) (some (0, ([] : List Int), i7)) (idx heard4 0 fun x8 => ev_strike_Misses_l1 n r5 x8 n 0 heard4 r5.1 r5.2.1 r5.2.2.2.1 ([] : List (Int × Int)) r5.2.2.1)
set_option maxRecDepth 100000 in
set_option maxHeartbeats 2000000 in
theorem ok_strike_Misses_j0 {n : Nat} {w0 : World} {R0 : Nat → Prop} {env0 : Env} {r : Int × (List Int) × Int} {heard4 : List (Int × Int)} {r5 : Bool × Bool × (List (Int × Int)) × Int × Int} {i7 : Int} (h : ev_strike_Misses_j0 n heard4 r5 i7 = some r) : TC Try.prog ⟨w0, fun _ => False, R0⟩ 109 (bodyPost Try.prog Try.f23 (Post ⟨w0, fun _ => False, R0⟩ env0 (.tup [.val (.int .i64 r.1), .ref 0, .val (.int .i64 r.2.2)]) [.row 0 3 1 (List.map en_int r.2.1)])) [.code (sub (bodyOf Try.f23) [1, 1, 1, 0, 0]), .code (sub (bodyOf Try.f23) [1, 1, 1, 0, 1]), .code (sub (bodyOf Try.f23) [1, 1, 1, 1])] ([(1, .ref 1), (4, .val (.int .i64 0)), (5, .val (.slice none 0 0)), (6, .val (.int .i64 i7)), (7, .ptr 4 0)]) ([.ro 1 2 (List.map en_api_StrikeHeard heard4), .blk 4 [.val (.bool r5.1), .val (.bool r5.2.1), .ref 3, .val (.int .i64 r5.2.2.2.1)] 84, .ro 3 2 (List.map en_api_Span r5.2.2.1)]) := by
  rw [ev_strike_Misses_j0] at h
  refine TC.region ?_
  refine op0 (sp_move rfl rfl) rfl trivial rfl rfl ?_
  refine op0 (sp_neq rfl rfl rfl) rfl trivial rfl rfl ?_
  refine TL.nil ?_
  refine TC.cond (b := (i7 != 0)) rfl (fun h4 => ?_) (fun h4 => ?_)
  · have h := cond_t h h4
    refine TC.seq ?_
    refine TC.region ?_
    refine op0 (sp_move rfl rfl) rfl trivial rfl rfl ?_
    refine op0 (sp_assign rfl rfl) rfl trivial rfl rfl ?_
    refine op0 (sp_assign rfl rfl) rfl trivial rfl rfl ?_
    refine op0 (sp_assign rfl rfl) rfl trivial rfl rfl ?_
    refine TL.nil ?_
    refine nilRowC 5 5 3 1 (List.map en_int []) rfl rfl rfl ?_
    cases h
    exact retJ [(0, 5)] (.tmp rfl (.tmp rfl (.tmp rfl .nil))) rfl ⟨mem_at 0 rfl, trivial⟩ rfl rfl
  · have h := cond_f h h4
    refine TC.skip ?_
    refine TC.seq ?_
    obtain ⟨x8, h5, h6, h⟩ := idx_inv h
    refine drawJ 6 [⟨.ref 6, [.inv 6 (mapI mk90 false en_int ([] : List (Int × Int)))], [], []⟩, ⟨.ref 1, [], [], []⟩, ⟨.cell 1 ((0 : Int).toNat * 2), [], [.ro 1 2 (List.map en_api_StrikeHeard heard4)], []⟩, ⟨.cell 1 ((0 : Int).toNat * 2 + 0), [], [.ro 1 2 (List.map en_api_StrikeHeard heard4)], []⟩, ⟨.val (.int .i64 x8.1), [], [.ro 1 2 (List.map en_api_StrikeHeard heard4)], []⟩, ⟨.ref 6, [], [], []⟩] rfl ?_ rfl ?_ rfl ?_ ?_
    · kernel_rfl
    · kernel_rfl
    · exact DAll.op' (sp_makeMap (ek := mk90) (ag := false) (ev := en_int) 6 ([] : List (Int × Int)) rfl rfl) trivial rfl (From.ok (ps := []) trivial) (DAll.op' (sp_move rfl rfl) trivial rfl (From.ok (ps := []) trivial) (DAll.op' (sp_indexS rfl rfl rfl isRo sl37 h5 (map_get _ h6)) trivial rfl (From.ok (ps := [(none, 0)]) ⟨⟨rfl, rfl⟩, trivial⟩) (DAll.op' (sp_fieldAddrR (i := (0 : Int).toNat) rfl rfl isRo ft43_0 vt3 (by decide) (map_get _ h6) (fun h => nomatch h)) trivial rfl (From.ok (ps := [(none, 0)]) ⟨⟨rfl, rfl⟩, trivial⟩) (DAll.op' (sp_loadR (i := (0 : Int).toNat) (j := 0) rfl rfl isRo vt3 rfl (map_get _ h6) rfl (.v (.nil)) (nodup_of_B rfl)) trivial rfl (From.ok (ps := [(none, 0)]) ⟨⟨rfl, rfl⟩, trivial⟩) (DAll.op' (sp_assign rfl rfl) trivial rfl (From.ok (ps := []) trivial) (.nil))))))
    refine op0 (sp_assign rfl rfl) rfl trivial rfl rfl ?_
    refine TL.nil ?_
    refine TC.seq ?_
    refine TC.seq ?_
    refine TC.region ?_
    refine op1 2 rfl (sp_fieldAddrB rfl isBlk rfl ft84_1 vt3 (by decide)) rfl trivial rfl rfl ?_
    refine op1 2 rfl (sp_loadB rfl isBlk rfl vt3 rfl) rfl trivial rfl rfl ?_
    refine op0 (sp_move rfl rfl) rfl trivial rfl rfl ?_
    refine TL.nil ?_
    refine TC.block ?_
    refine TC.loop ?_
    refine TC.seq ?_
    refine subJ [] (ok_strike_Misses_l1 _ _ _ _ _ _ _ _ h) ?_ ?_ ?_
    · exact ⟨rfl, rfl, rfl, rfl, rfl, rfl, rfl, rfl, trivial⟩
    · exact ⟨mem_at 1 rfl, mem_at 2 rfl, mem_at 0 rfl, mem_at 3 rfl, trivial⟩
    · rfl
def ev_strike_Misses (n : Nat) (rr1 : Bool) (rr2 : Bool) (rr3 : List (Int × Int)) (heard4 : List (Int × Int)) : Option (Int × (List Int) × Int) :=
  (ev_strike_open n rr1 rr2 rr3).bind fun r5 => cond (r5.2.2.2.2 == 0) ((ev_strike_checkHeard n heard4).bind fun r6 => ev_strike_Misses_j0 n heard4 r5 r6) (ev_strike_Misses_j0 n heard4 r5 r5.2.2.2.2)
set_option maxRecDepth 100000 in
set_option maxHeartbeats 2000000 in
theorem fc_strike_Misses {n : Nat} {rr1 : Bool} {rr2 : Bool} {rr3 : List (Int × Int)} {heard4 : List (Int × Int)} {r : Int × (List Int) × Int} (h : ev_strike_Misses n rr1 rr2 rr3 heard4 = some r) : FC Try.prog 23 [.agg [.val (.bool rr1), .val (.bool rr2), .ref 0], .ref 1] [.ro 0 2 (List.map en_api_Span rr3), .ro 1 2 (List.map en_api_StrikeHeard heard4)] (.tup [.val (.int .i64 r.1), .ref 0, .val (.int .i64 r.2.2)]) [.row 0 3 1 (List.map en_int r.2.1)] := by
  refine introJ (nz := 109) Try.func23 rfl rfl rfl (fun w0 R0 env0 => ?_)
  rw [ev_strike_Misses] at h
  refine TC.seq ?_
  refine TC.region ?_
  refine op0 (sp_box 2 rfl rfl rfl rfl rfl) rfl trivial rfl rfl ?_
  refine op0 (sp_assign rfl rfl) rfl trivial rfl rfl ?_
  refine op0 (sp_assign rfl rfl) rfl trivial rfl rfl ?_
  refine op0 (sp_assign rfl rfl) rfl trivial rfl rfl ?_
  refine TL.nil ?_
  refine TC.seq ?_
  refine TC.region ?_
  refine op1 0 rfl (sp_loadBA rfl isBlk rfl vt24 rfl rfl) rfl trivial rfl rfl ?_
  obtain ⟨r5, h1, h⟩ := bind_inv h
  refine op1 1 rfl (sp_call (avs := [.agg [.val (.bool rr1), .val (.bool rr2), .ref 0]]) (need := [.ro 0 2 (List.map en_api_Span rr3)]) (v := .tup [.agg [.val (.bool r5.1), .val (.bool r5.2.1), .ref 3, .val (.int .i64 r5.2.2.2.1)], .val (.int .i64 r5.2.2.2.2)]) (news := [.ro 3 2 (List.map en_api_Span r5.2.2.1)]) rfl rfl rfl Try.call42 (atJ [] [(0, 3)] (fc_strike_open h1) rfl rfl) (.inl (roAll rfl))) rfl trivial rfl rfl ?_
  refine op0 (sp_move rfl rfl) rfl trivial rfl rfl ?_
  refine op0 (sp_extract rfl rfl rfl) rfl trivial rfl rfl ?_
  refine op0 (sp_extract rfl rfl rfl) rfl trivial rfl rfl ?_
  refine op0 (sp_alloc 4 rfl Try.zeroValue84 rfl) rfl trivial rfl rfl ?_
  refine stoB 0 (cells' := [.val (.bool r5.1), .val (.bool r5.2.1), .ref 3, .val (.int .i64 r5.2.2.2.1)]) rfl rfl trivial rfl rfl rfl rfl vt84 rfl rfl rfl ?_
  refine op0 (sp_assign rfl rfl) rfl trivial rfl rfl ?_
  refine TL.nil ?_
  refine TC.seq ?_
  refine TC.seq ?_
  refine TC.region ?_
  refine op0 (sp_move rfl rfl) rfl trivial rfl rfl ?_
  refine op0 (sp_eql rfl rfl rfl) rfl trivial rfl rfl ?_
  refine TL.nil ?_
  refine TC.cond (b := (r5.2.2.2.2 == 0)) rfl (fun h2 => ?_) (fun h2 => ?_)
  · have h := cond_t h h2
    refine TC.region ?_
    refine op0 (sp_move rfl rfl) rfl trivial rfl rfl ?_
    obtain ⟨r6, h3, h⟩ := bind_inv h
    refine op1 4 rfl (sp_call (avs := [.ref 1]) (need := [.ro 1 2 (List.map en_api_StrikeHeard heard4)]) (v := .val (.int .i64 r6)) (news := []) rfl rfl rfl Try.call47 (atJ [(0, 1)] [] (fc_strike_checkHeard h3) rfl rfl) (.inl (roAll rfl))) rfl trivial rfl rfl ?_
    refine op0 (sp_assign rfl rfl) rfl trivial rfl rfl ?_
    refine TL.nil ?_
    refine TC.seq ?_
    refine TC.seq ?_
    refine subJ [] (ok_strike_Misses_j0 h) ?_ ?_ ?_
    · exact ⟨rfl, rfl, rfl, rfl, rfl, trivial⟩
    · exact ⟨mem_at 4 rfl, mem_at 0 rfl, mem_at 1 rfl, trivial⟩
    · rfl
  · have h := cond_f h h2
    refine TC.skip ?_
    refine TC.seq ?_
    refine TC.seq ?_
    refine subJ [] (ok_strike_Misses_j0 h) ?_ ?_ ?_
    · exact ⟨rfl, rfl, rfl, rfl, rfl, trivial⟩
    · exact ⟨mem_at 4 rfl, mem_at 0 rfl, mem_at 1 rfl, trivial⟩
    · rfl
/- strike_begin -/
def ev_strike_begin (n : Nat) (rr1 : Bool) (rr2 : Bool) (rr3 : List (Int × Int)) (slot4 : Int) (place5 : Int) : Option (Bool × Bool × (List (Int × Int)) × Int × Int) :=
  (ev_strike_open n rr1 rr2 rr3).bind fun r6 => cond (r6.2.2.2.2 != 0) (some (r6.1, r6.2.1, r6.2.2.1, r6.2.2.2.1, r6.2.2.2.2)) ((ev_strike_isSlot n slot4).bind fun r7 => cond (!r7) (some (r6.1, r6.2.1, r6.2.2.1, r6.2.2.2.1, 3)) (chk (in64 (r6.2.2.2.1 - 1)) <| (ev_strike_within n 0 (r6.2.2.2.1 - 1) ([place5] : List Int)).bind fun r8 => cond (!r8) (cond (!r8) (some (r6.1, r6.2.1, r6.2.2.1, r6.2.2.2.1, 2)) (some (r6.1, r6.2.1, r6.2.2.1, r6.2.2.2.1, 0))) (cond r6.2.1 (chk (r6.2.2.2.1 != 0) <| cond (place5 != (Int.tmod slot4 r6.2.2.2.1)) (some (r6.1, r6.2.1, r6.2.2.1, r6.2.2.2.1, 2)) (some (r6.1, r6.2.1, r6.2.2.1, r6.2.2.2.1, 0))) (some (r6.1, r6.2.1, r6.2.2.1, r6.2.2.2.1, 0)))))
set_option maxRecDepth 100000 in
set_option maxHeartbeats 2000000 in
theorem fc_strike_begin {n : Nat} {rr1 : Bool} {rr2 : Bool} {rr3 : List (Int × Int)} {slot4 : Int} {place5 : Int} {r : Bool × Bool × (List (Int × Int)) × Int × Int} (h : ev_strike_begin n rr1 rr2 rr3 slot4 place5 = some r) : FC Try.prog 52 [.agg [.val (.bool rr1), .val (.bool rr2), .ref 0], .val (.int .i64 slot4), .val (.int .i64 place5)] [.ro 0 2 (List.map en_api_Span rr3)] (.tup [.agg [.val (.bool r.1), .val (.bool r.2.1), .ref 0, .val (.int .i64 r.2.2.2.1)], .val (.int .i64 r.2.2.2.2)]) [.ro 0 2 (List.map en_api_Span r.2.2.1)] := by
  refine introJ (nz := 46) Try.func52 rfl rfl rfl (fun w0 R0 env0 => ?_)
  rw [ev_strike_begin] at h
  refine TC.seq ?_
  refine TC.region ?_
  refine op0 (sp_box 1 rfl rfl rfl rfl rfl) rfl trivial rfl rfl ?_
  refine op0 (sp_alloc 2 rfl Try.zeroValue84 rfl) rfl trivial rfl rfl ?_
  refine op0 (sp_assign rfl rfl) rfl trivial rfl rfl ?_
  refine TL.nil ?_
  refine TC.seq ?_
  refine TC.region ?_
  refine op1 1 rfl (sp_loadBA rfl isBlk rfl vt24 rfl rfl) rfl trivial rfl rfl ?_
  obtain ⟨r6, h1, h⟩ := bind_inv h
  refine op1 2 rfl (sp_call (avs := [.agg [.val (.bool rr1), .val (.bool rr2), .ref 0]]) (need := [.ro 0 2 (List.map en_api_Span rr3)]) (v := .tup [.agg [.val (.bool r6.1), .val (.bool r6.2.1), .ref 3, .val (.int .i64 r6.2.2.2.1)], .val (.int .i64 r6.2.2.2.2)]) (news := [.ro 3 2 (List.map en_api_Span r6.2.2.1)]) rfl rfl rfl Try.call42 (atJ [] [(0, 3)] (fc_strike_open h1) rfl rfl) (.inl (roAll rfl))) rfl trivial rfl rfl ?_
  refine op0 (sp_move rfl rfl) rfl trivial rfl rfl ?_
  refine op0 (sp_extract rfl rfl rfl) rfl trivial rfl rfl ?_
  refine op0 (sp_extract rfl rfl rfl) rfl trivial rfl rfl ?_
  refine op0 (sp_alloc 4 rfl Try.zeroValue84 rfl) rfl trivial rfl rfl ?_
  refine stoB 0 (cells' := [.val (.bool r6.1), .val (.bool r6.2.1), .ref 3, .val (.int .i64 r6.2.2.2.1)]) rfl rfl trivial rfl rfl rfl rfl vt84 rfl rfl rfl ?_
  refine op0 (sp_assign rfl rfl) rfl trivial rfl rfl ?_
  refine TL.nil ?_
  refine TC.seq ?_
  refine TC.block ?_
  refine TC.seq ?_
  refine TC.region ?_
  refine op0 (sp_move rfl rfl) rfl trivial rfl rfl ?_
  refine op0 (sp_neq rfl rfl rfl) rfl trivial rfl rfl ?_
  refine op0 (sp_assign rfl rfl) rfl trivial rfl rfl ?_
  refine TL.nil ?_
  refine TC.cond (b := (r6.2.2.2.2 != 0)) rfl (fun h2 => ?_) (fun h2 => ?_)
  · have h := cond_t h h2
    refine TC.seq ?_
    refine TC.region ?_
    refine op1 0 rfl (sp_loadBA rfl isBlk rfl vt84 rfl rfl) rfl trivial rfl rfl ?_
    refine op0 (sp_move rfl rfl) rfl trivial rfl rfl ?_
    refine stoB 2 (cells' := [.val (.bool r6.1), .val (.bool r6.2.1), .ref 3, .val (.int .i64 r6.2.2.2.1)]) rfl rfl trivial rfl rfl rfl rfl vt84 rfl rfl rfl ?_
    refine op0 (sp_assign rfl rfl) rfl trivial rfl rfl ?_
    refine TL.nil ?_
    cases h
    exact retJ [(0, 3)] (.cells rfl (mem_at 2 rfl) isBlk vt84 rfl rfl (.tmp rfl .nil)) rfl ⟨mem_at 1 rfl, trivial⟩ rfl rfl
  · have h := cond_f h h2
    refine TC.seq ?_
    refine TC.region ?_
    refine op0 (sp_move rfl rfl) rfl trivial rfl rfl ?_
    obtain ⟨r7, h3, h⟩ := bind_inv h
    refine op0 (sp_call (avs := [.val (.int .i64 slot4)]) (need := []) (v := .val (.bool r7)) (news := []) rfl rfl rfl Try.call43 (atJ [] [] (fc_strike_isSlot h3) rfl rfl) (.inl (roAll rfl))) rfl trivial rfl rfl ?_
    refine op0 (sp_not rfl rfl) rfl trivial rfl rfl ?_
    refine op0 (sp_assign rfl rfl) rfl trivial rfl rfl ?_
    refine TL.nil ?_
    refine TC.cond (b := (!r7)) rfl (fun h4 => ?_) (fun h4 => ?_)
    · have h := cond_t h h4
      refine TC.seq ?_
      refine TC.region ?_
      refine op1 0 rfl (sp_loadBA rfl isBlk rfl vt84 rfl rfl) rfl trivial rfl rfl ?_
      refine stoB 2 (cells' := [.val (.bool r6.1), .val (.bool r6.2.1), .ref 3, .val (.int .i64 r6.2.2.2.1)]) rfl rfl trivial rfl rfl rfl rfl vt84 rfl rfl rfl ?_
      refine op0 (sp_assign rfl rfl) rfl trivial rfl rfl ?_
      refine TL.nil ?_
      cases h
      exact retJ [(0, 3)] (.cells rfl (mem_at 2 rfl) isBlk vt84 rfl rfl (.tmp rfl .nil)) rfl ⟨mem_at 1 rfl, trivial⟩ rfl rfl
    · have h := cond_f h h4
      refine TC.seq ?_
      refine TC.seq ?_
      refine TC.region ?_
      refine op1 0 rfl (sp_fieldAddrB rfl isBlk rfl ft84_1 vt3 (by decide)) rfl trivial rfl rfl ?_
      refine op1 0 rfl (sp_loadB rfl isBlk rfl vt3 rfl) rfl trivial rfl rfl ?_
      obtain ⟨h5, h⟩ := chk_inv h
      refine op0 (sp_sub rfl rfl rfl h5) rfl trivial rfl rfl ?_
      refine op0 (sp_move rfl rfl) rfl trivial rfl rfl ?_
      refine op0 (sp_buildSlice (qs := [.val (.int .i64 place5)]) (need := []) (els := List.map en_int ([place5] : List Int)) 5 rfl sl39 (by decide) (by decide) rfl rfl rfl (.v (.nil)) (map_len fun _ => rfl) rfl rfl rfl) rfl trivial rfl rfl ?_
      obtain ⟨r8, h6, h⟩ := bind_inv h
      refine op1 0 rfl (sp_call (avs := [.val (.int .i64 0), .val (.int .i64 (r6.2.2.2.1 - 1)), .ref 5]) (need := [.row 5 3 1 (List.map en_int ([place5] : List Int))]) (v := .val (.bool r8)) (news := []) rfl rfl rfl Try.call40 (atJ [(0, 5)] [] (fc_strike_within h6) rfl rfl) (.inr (fun x hx => nomatch hx))) rfl trivial rfl rfl ?_
      refine op0 (sp_not rfl rfl) rfl trivial rfl rfl ?_
      refine op0 (sp_assign rfl rfl) rfl trivial rfl rfl ?_
      refine TL.nil ?_
      refine TC.cond (b := (!r8)) rfl (fun h7 => ?_) (fun h7 => ?_)
      · have h := cond_t h h7
        refine TC.skip ?_
        refine TC.cond (b := (!r8)) rfl (fun h8 => ?_) (fun h8 => ?_)
        · have h := cond_t h h8
          refine TC.seq ?_
          refine TC.region ?_
          refine op1 1 rfl (sp_loadBA rfl isBlk rfl vt84 rfl rfl) rfl trivial rfl rfl ?_
          refine stoB 3 (cells' := [.val (.bool r6.1), .val (.bool r6.2.1), .ref 3, .val (.int .i64 r6.2.2.2.1)]) rfl rfl trivial rfl rfl rfl rfl vt84 rfl rfl rfl ?_
          refine op0 (sp_assign rfl rfl) rfl trivial rfl rfl ?_
          refine TL.nil ?_
          cases h
          exact retJ [(0, 3)] (.cells rfl (mem_at 3 rfl) isBlk vt84 rfl rfl (.tmp rfl .nil)) rfl ⟨mem_at 2 rfl, trivial⟩ rfl rfl
        · have h := cond_f h h8
          refine TC.skip ?_
          refine TC.inBlock ?_
          refine TC.seq ?_
          refine TC.region ?_
          refine op1 1 rfl (sp_loadBA rfl isBlk rfl vt84 rfl rfl) rfl trivial rfl rfl ?_
          refine stoB 3 (cells' := [.val (.bool r6.1), .val (.bool r6.2.1), .ref 3, .val (.int .i64 r6.2.2.2.1)]) rfl rfl trivial rfl rfl rfl rfl vt84 rfl rfl rfl ?_
          refine op0 (sp_assign rfl rfl) rfl trivial rfl rfl ?_
          refine TL.nil ?_
          cases h
          exact retJ [(0, 3)] (.cells rfl (mem_at 3 rfl) isBlk vt84 rfl rfl (.tmp rfl .nil)) rfl ⟨mem_at 2 rfl, trivial⟩ rfl rfl
      · have h := cond_f h h7
        refine TC.region ?_
        refine op1 1 rfl (sp_fieldAddrB rfl isBlk rfl ft84_0 vt24 (by decide)) rfl trivial rfl rfl ?_
        refine op1 1 rfl (sp_fieldAddrB rfl isBlk rfl ft24_1 vt4 (by decide)) rfl trivial rfl rfl ?_
        refine op1 1 rfl (sp_loadB rfl isBlk rfl vt4 rfl) rfl trivial rfl rfl ?_
        refine op0 (sp_move rfl rfl) rfl trivial rfl rfl ?_
        rcases cond_cases h with ⟨h9, h⟩ | ⟨h9, h⟩
        · refine (boolLit 36 rfl h9).2 ?_
          refine op0 (sp_move rfl rfl) rfl ⟨_, rfl, rfl⟩ rfl rfl ?_
          refine op0 (sp_move rfl rfl) rfl ⟨_, rfl, rfl⟩ rfl rfl ?_
          refine op1 1 rfl (sp_fieldAddrB rfl isBlk rfl ft84_1 vt3 (by decide)) rfl ⟨_, rfl, rfl⟩ rfl rfl ?_
          refine op1 1 rfl (sp_loadB rfl isBlk rfl vt3 rfl) rfl ⟨_, rfl, rfl⟩ rfl rfl ?_
          obtain ⟨h10, h⟩ := chk_inv h
          refine op0 (sp_rem rfl rfl rfl h10) rfl ⟨_, rfl, rfl⟩ rfl rfl ?_
          refine op0 (sp_neq rfl rfl rfl) rfl ⟨_, rfl, rfl⟩ rfl rfl ?_
          refine op0 (sp_pickT rfl rfl rfl) rfl trivial rfl rfl ?_
          refine op0 (sp_assign rfl rfl) rfl trivial rfl rfl ?_
          refine TL.nil ?_
          refine TC.cond (b := (place5 != (Int.tmod slot4 r6.2.2.2.1))) rfl (fun h11 => ?_) (fun h11 => ?_)
          · have h := cond_t h h11
            refine TC.seq ?_
            refine TC.region ?_
            refine op1 1 rfl (sp_loadBA rfl isBlk rfl vt84 rfl rfl) rfl trivial rfl rfl ?_
            refine stoB 3 (cells' := [.val (.bool r6.1), .val (.bool r6.2.1), .ref 3, .val (.int .i64 r6.2.2.2.1)]) rfl rfl trivial rfl rfl rfl rfl vt84 rfl rfl rfl ?_
            refine op0 (sp_assign rfl rfl) rfl trivial rfl rfl ?_
            refine TL.nil ?_
            cases h
            exact retJ [(0, 3)] (.cells rfl (mem_at 3 rfl) isBlk vt84 rfl rfl (.tmp rfl .nil)) rfl ⟨mem_at 2 rfl, trivial⟩ rfl rfl
          · have h := cond_f h h11
            refine TC.skip ?_
            refine TC.inBlock ?_
            refine TC.seq ?_
            refine TC.region ?_
            refine op1 1 rfl (sp_loadBA rfl isBlk rfl vt84 rfl rfl) rfl trivial rfl rfl ?_
            refine stoB 3 (cells' := [.val (.bool r6.1), .val (.bool r6.2.1), .ref 3, .val (.int .i64 r6.2.2.2.1)]) rfl rfl trivial rfl rfl rfl rfl vt84 rfl rfl rfl ?_
            refine op0 (sp_assign rfl rfl) rfl trivial rfl rfl ?_
            refine TL.nil ?_
            cases h
            exact retJ [(0, 3)] (.cells rfl (mem_at 3 rfl) isBlk vt84 rfl rfl (.tmp rfl .nil)) rfl ⟨mem_at 2 rfl, trivial⟩ rfl rfl
        · refine (boolLit 36 rfl h9).2 ?_
          refine opSkip rfl ⟨_, rfl, .inl rfl⟩ rfl ?_
          refine opSkip rfl ⟨_, rfl, .inl rfl⟩ rfl ?_
          refine opSkip rfl ⟨_, rfl, .inl rfl⟩ rfl ?_
          refine opSkip rfl ⟨_, rfl, .inl rfl⟩ rfl ?_
          refine opSkip rfl ⟨_, rfl, .inl rfl⟩ rfl ?_
          refine opSkip rfl ⟨_, rfl, .inl rfl⟩ rfl ?_
          refine op0 (sp_pickF rfl rfl rfl) rfl trivial rfl rfl ?_
          refine op0 (sp_assign rfl rfl) rfl trivial rfl rfl ?_
          refine TL.nil ?_
          refine TC.condF rfl ?_
          refine TC.skip ?_
          refine TC.inBlock ?_
          refine TC.seq ?_
          refine TC.region ?_
          refine op1 1 rfl (sp_loadBA rfl isBlk rfl vt84 rfl rfl) rfl trivial rfl rfl ?_
          refine stoB 3 (cells' := [.val (.bool r6.1), .val (.bool r6.2.1), .ref 3, .val (.int .i64 r6.2.2.2.1)]) rfl rfl trivial rfl rfl rfl rfl vt84 rfl rfl rfl ?_
          refine op0 (sp_assign rfl rfl) rfl trivial rfl rfl ?_
          refine TL.nil ?_
          cases h
          exact retJ [(0, 3)] (.cells rfl (mem_at 3 rfl) isBlk vt84 rfl rfl (.tmp rfl .nil)) rfl ⟨mem_at 2 rfl, trivial⟩ rfl rfl
/- strike_train_steps -/
def ev_strike_train_steps_l1 {σ1 : Type} (yb1 : (Int × Bool) → σ1 → Option (Bool × σ1)) (n : Nat) (i6 : Int) (k_strike_train_steps_l0 : Int → σ1 → Option σ1) : Nat → Int → σ1 → Option σ1
  | 0, _, _ => none
  | m + 1, i8, y9 => cond (decide (i8 < 2)) (chk (decide (0 ≤ i8) && decide (i8 < 2)) <| idx ([true, false] : List Bool) i8 fun x10 => (yb1 (i6, x10) y9).bind fun r11 => cond (!r11.1) (some r11.2) (chk (in64 (i8 + 1)) <| ev_strike_train_steps_l1 yb1 n i6 k_strike_train_steps_l0 m (i8 + 1) r11.2)) (chk (in64 (i6 - 1)) <| k_strike_train_steps_l0 (i6 - 1) y9)
set_option maxRecDepth 100000 in
set_option maxHeartbeats 2000000 in
theorem ok_strike_train_steps_l1 {σ1 : Type} {yb1 : (Int × Bool) → σ1 → Option (Bool × σ1)} {I1 : σ1 → Inv} (hI1 : Yields Try.prog ye_funcapi_StrikeStep_bool yn_funcapi_StrikeStep_bool yb1 I1) {n : Nat} {w0 : World} {M0 R0 : Nat → Prop} {env0 : Env} {df : List Deferred} {r : σ1} {i6 : Int} {k_strike_train_steps_l0 : Int → σ1 → Option σ1} (hk_strike_train_steps_l0 : ∀ (i6 : Int) (y7 : σ1), k_strike_train_steps_l0 i6 y7 = some r → TC Try.prog ⟨w0, M0, R0⟩ ⟨25, none, df⟩ (bodyPostM Fence.wide 0 Try.prog Try.f66 (PostT ⟨w0, M0, R0⟩ env0 [1] (.tup []) [.inv 1 (I1 r)])) [.code (sub (bodyOf Try.f66) [1, 1, 0, 0, 0, 0]), .code (sub (bodyOf Try.f66) [1, 1, 0, 0, 0, 1]), .code (sub (bodyOf Try.f66) [1, 1, 0, 0, 1]), .inLoop (sub (bodyOf Try.f66) [1, 1, 0, 0]), .inBlock 0] ([(1, .ref 1), (4, .val (.int .i64 i6))]) ([.inv 2 (marksI df), .pin 3 1 (env0 1), .inv 1 (I1 y7)])) : ∀ (m : Nat) (i8 : Int) (y9 : σ1), ev_strike_train_steps_l1 yb1 n i6 k_strike_train_steps_l0 m i8 y9 = some r → TC Try.prog ⟨w0, M0, R0⟩ ⟨25, none, df⟩ (bodyPostM Fence.wide 0 Try.prog Try.f66 (PostT ⟨w0, M0, R0⟩ env0 [1] (.tup []) [.inv 1 (I1 r)])) [.code (sub (bodyOf Try.f66) [1, 1, 0, 0, 1, 0, 0, 1, 0, 0, 0]), .code (sub (bodyOf Try.f66) [1, 1, 0, 0, 1, 0, 0, 1, 0, 0, 1]), .inLoop (sub (bodyOf Try.f66) [1, 1, 0, 0, 1, 0, 0, 1, 0, 0]), .inBlock 2, .inBlock 1, .code (sub (bodyOf Try.f66) [1, 1, 0, 0, 1, 1]), .inLoop (sub (bodyOf Try.f66) [1, 1, 0, 0]), .inBlock 0] ([(1, .ref 1), (4, .val (.int .i64 i6)), (14, .agg [.val (.bool true), .val (.bool false)]), (15, .val (.int .i64 i8))]) ([.inv 2 (marksI df), .pin 3 1 (env0 1), .inv 1 (I1 y9)]) := by
  intro m
  induction m with
  | zero => intro i8 y9 h; exact none_no h
  | succ m ih =>
    intro i8 y9 h
    rw [ev_strike_train_steps_l1] at h
    refine TC.region ?_
    refine op0 (sp_lss rfl rfl rfl) rfl trivial rfl rfl ?_
    refine TL.nil ?_
    refine TC.seq ?_
    refine TC.cond (b := (decide (i8 < 2))) rfl (fun h3 => ?_) (fun h3 => ?_)
    · have h := cond_t h h3
      refine TC.skip ?_
      refine TC.seq ?_
      refine TC.block ?_
      refine TC.seq ?_
      refine TC.region ?_
      obtain ⟨h6, h⟩ := chk_inv h
      obtain ⟨x10, h4, h5, h⟩ := idx_inv h
      refine op0 (sp_index rfl rfl rfl Try.underlying135 vt4 h6 (map_get (fun z => AV.val (.bool z)) h5)) rfl trivial rfl rfl ?_
      refine op0 (sp_assign rfl rfl) rfl trivial rfl rfl ?_
      refine TL.nil ?_
      refine TC.seq ?_
      refine TC.region ?_
      refine op0 (sp_move rfl rfl) rfl trivial rfl rfl ?_
      refine op0 (sp_move rfl rfl) rfl trivial rfl rfl ?_
      refine op0 (sp_move rfl rfl) rfl trivial rfl rfl ?_
      refine op0 (sp_build (qs := [(0, .val (.int .i64 i6)), (1, .val (.bool x10))]) rfl bt73 rfl rfl rfl rfl) rfl trivial rfl rfl ?_
      obtain ⟨r11, h7, h⟩ := bind_inv h
      refine opT (take := [.inv 1 (I1 y9)]) (need := []) (V' := [.inv 1 (I1 r11.2), .inv 2 (marksI df), .pin 3 1 (env0 1)]) [2] [] (ts_yield hI1 (x := (i6, x10)) (b := r11.1) (avs := [.agg [.val (.int .i64 i6), .val (.bool x10)]]) (need := []) [] h7 rfl rfl rfl rfl rfl rfl) trivial rfl ⟨rfl, trivial⟩ trivial rfl rfl ?_
      refine op0 (sp_not rfl rfl) rfl trivial rfl rfl ?_
      refine TL.nil ?_
      refine TC.cond (b := (!r11.1)) rfl (fun h8 => ?_) (fun h8 => ?_)
      · have h := cond_t h h8
        cases h
        exact retM [] 1 2 [1] rfl (.nil) rfl ⟨mem_at 0 rfl, trivial⟩ rfl rfl ⟨⟨_, mem_at 1 rfl⟩, trivial⟩ rfl
      · have h := cond_f h h8
        refine TC.skip ?_
        refine TC.inBlock ?_
        refine TC.region ?_
        obtain ⟨h9, h⟩ := chk_inv h
        refine op0 (sp_add rfl rfl rfl h9) rfl trivial rfl rfl ?_
        refine op0 (sp_move rfl rfl) rfl trivial rfl rfl ?_
        refine TL.nil ?_
        refine TC.inLoop ?_
        refine TC.seq ?_
        refine subJ [] (ih _ _ h) ?_ ?_ ?_
        · exact ⟨rfl, rfl, rfl, rfl, trivial⟩
        · exact ⟨mem_at 1 rfl, mem_at 2 rfl, mem_at 0 rfl, trivial⟩
        · rfl
    · have h := cond_f h h3
      refine TC.exit rfl ?_
      refine TC.inBlock ?_
      refine TC.region ?_
      refine op0 (sp_move rfl rfl) rfl trivial rfl rfl ?_
      obtain ⟨h10, h⟩ := chk_inv h
      refine op0 (sp_sub rfl rfl rfl h10) rfl trivial rfl rfl ?_
      refine op0 (sp_assign rfl rfl) rfl trivial rfl rfl ?_
      refine TL.nil ?_
      refine TC.inLoop ?_
      refine TC.seq ?_
      refine TC.seq ?_
      refine subJ [] (hk_strike_train_steps_l0 _ _ h) ?_ ?_ ?_
      · exact ⟨rfl, rfl, trivial⟩
      · exact ⟨mem_at 0 rfl, mem_at 1 rfl, mem_at 2 rfl, trivial⟩
      · rfl
def ev_strike_train_steps_l0 {σ1 : Type} (yb1 : (Int × Bool) → σ1 → Option (Bool × σ1)) (n : Nat) : Nat → Int → σ1 → Option σ1
  | 0, _, _ => none
  | m + 1, i6, y7 => cond (decide ((0 : Int) ≤ i6)) (ev_strike_train_steps_l1 yb1 n i6 (fun i6q y7q => ev_strike_train_steps_l0 yb1 n m i6q y7q) n 0 y7) (some y7)
set_option maxRecDepth 100000 in
set_option maxHeartbeats 2000000 in
theorem ok_strike_train_steps_l0 {σ1 : Type} {yb1 : (Int × Bool) → σ1 → Option (Bool × σ1)} {I1 : σ1 → Inv} (hI1 : Yields Try.prog ye_funcapi_StrikeStep_bool yn_funcapi_StrikeStep_bool yb1 I1) {n : Nat} {w0 : World} {M0 R0 : Nat → Prop} {env0 : Env} {df : List Deferred} {r : σ1} : ∀ (m : Nat) (i6 : Int) (y7 : σ1), ev_strike_train_steps_l0 yb1 n m i6 y7 = some r → TC Try.prog ⟨w0, M0, R0⟩ ⟨25, none, df⟩ (bodyPostM Fence.wide 0 Try.prog Try.f66 (PostT ⟨w0, M0, R0⟩ env0 [1] (.tup []) [.inv 1 (I1 r)])) [.code (sub (bodyOf Try.f66) [1, 1, 0, 0, 0, 0]), .code (sub (bodyOf Try.f66) [1, 1, 0, 0, 0, 1]), .code (sub (bodyOf Try.f66) [1, 1, 0, 0, 1]), .inLoop (sub (bodyOf Try.f66) [1, 1, 0, 0]), .inBlock 0] ([(1, .ref 1), (4, .val (.int .i64 i6))]) ([.inv 2 (marksI df), .pin 3 1 (env0 1), .inv 1 (I1 y7)]) := by
  intro m
  induction m with
  | zero => intro i6 y7 h; exact none_no h
  | succ m ih =>
    intro i6 y7 h
    rw [ev_strike_train_steps_l0] at h
    refine TC.region ?_
    refine op0 (sp_move rfl rfl) rfl trivial rfl rfl ?_
    refine op0 (sp_geq rfl rfl rfl) rfl trivial rfl rfl ?_
    refine TL.nil ?_
    refine TC.cond (b := (decide ((0 : Int) ≤ i6))) rfl (fun h2 => ?_) (fun h2 => ?_)
    · have h := cond_t h h2
      refine TC.skip ?_
      refine TC.seq ?_
      refine TC.block ?_
      refine TC.seq ?_
      refine TC.region ?_
      refine op0 (sp_build (qs := [(0, .val (.bool true)), (1, .val (.bool false))]) rfl bt135 rfl rfl rfl rfl) rfl trivial rfl rfl ?_
      refine op0 (sp_move rfl rfl) rfl trivial rfl rfl ?_
      refine TL.nil ?_
      refine TC.block ?_
      refine TC.loop ?_
      refine TC.seq ?_
      refine subJ [] (ok_strike_train_steps_l1 hI1 ih _ _ _ h) ?_ ?_ ?_
      · exact ⟨rfl, rfl, rfl, rfl, trivial⟩
      · exact ⟨mem_at 0 rfl, mem_at 1 rfl, mem_at 2 rfl, trivial⟩
      · rfl
    · have h := cond_f h h2
      refine TC.exit rfl ?_
      cases h
      exact endM [] 0 2 [1] rfl (.nil) rfl ⟨mem_at 1 rfl, trivial⟩ rfl rfl ⟨⟨_, mem_at 0 rfl⟩, trivial⟩ rfl
def ev_strike_train_steps {σ1 : Type} (yb1 : (Int × Bool) → σ1 → Option (Bool × σ1)) (n : Nat) (t1 : Bool) (t2 : Bool) (t3 : List (Int × Int)) (t4 : Int) (y5 : σ1) : Option σ1 :=
  chk (in64 (t4 - 1)) <| ev_strike_train_steps_l0 yb1 n n (t4 - 1) y5
set_option maxRecDepth 100000 in
set_option maxHeartbeats 2000000 in
theorem ft_strike_train_steps {σ1 : Type} {yb1 : (Int × Bool) → σ1 → Option (Bool × σ1)} {I1 : σ1 → Inv} (hI1 : Yields Try.prog ye_funcapi_StrikeStep_bool yn_funcapi_StrikeStep_bool yb1 I1) {n : Nat} {t1 : Bool} {t2 : Bool} {t3 : List (Int × Int)} {t4 : Int} {y5 : σ1} {r : σ1} (h : ev_strike_train_steps yb1 n t1 t2 t3 t4 y5 = some r) : FT Try.prog 66 [.agg [.val (.bool t1), .val (.bool t2), .ref 0, .val (.int .i64 t4)], .ref 1] [.inv 1 (I1 y5)] [.ro 0 2 (List.map en_api_Span t3)] (.tup []) [.inv 1 (I1 r)] := by
  refine introM (nz := 25) 2 [(3, 1)] Try.func66 rfl rfl rfl rfl (fun w0 M0 R0 env0 => ?_)
  rw [ev_strike_train_steps] at h
  refine TC.seq ?_
  refine TC.region ?_
  refine op0 (sp_box 4 rfl rfl rfl rfl rfl) rfl trivial rfl rfl ?_
  refine TL.nil ?_
  refine TC.seq ?_
  refine TC.region ?_
  refine op1 0 rfl (sp_fieldAddrB rfl isBlk rfl ft84_1 vt3 (by decide)) rfl trivial rfl rfl ?_
  refine op1 0 rfl (sp_loadB rfl isBlk rfl vt3 rfl) rfl trivial rfl rfl ?_
  obtain ⟨h1, h⟩ := chk_inv h
  refine op0 (sp_sub rfl rfl rfl h1) rfl trivial rfl rfl ?_
  refine op0 (sp_assign rfl rfl) rfl trivial rfl rfl ?_
  refine TL.nil ?_
  refine TC.block ?_
  refine TC.loop ?_
  refine TC.seq ?_
  refine TC.seq ?_
  refine subJ [] (ok_strike_train_steps_l0 hI1 _ _ _ h) ?_ ?_ ?_
  · exact ⟨rfl, rfl, trivial⟩
  · exact ⟨mem_at 1 rfl, mem_at 2 rfl, mem_at 3 rfl, trivial⟩
  · rfl
/- strike_train_step -/
def ev_strike_train_step_l1 (n : Nat) (s7 : Int) (t1 : Bool) (t2 : Bool) (t3 : List (Int × Int)) (t4 : Int) (s8 : Bool) : Nat → Int → Int → Int → Option (Int × Int × Int)
  | 0, _, _, _ => none
  | m + 1, i11, i12, i13 => cond (decide (i13 < s7)) ((ev_strike_train_at n t1 t2 t3 t4 i11).bind fun r14 => chk (in64 (i12 + r14)) <| cond (!t2) ((ev_strike_train_next n t1 t2 t3 t4 i11).bind fun r15 => chk (in64 (i13 + 1)) <| ev_strike_train_step_l1 n s7 t1 t2 t3 t4 s8 m r15 (i12 + r14) (i13 + 1)) (chk (in64 (i13 + 1)) <| ev_strike_train_step_l1 n s7 t1 t2 t3 t4 s8 m i11 (i12 + r14) (i13 + 1))) (cond s8 ((ev_strike_train_missed n t1 t2 t3 t4 i11).bind fun r16 => some (r16, i12, 0)) ((ev_strike_train_next n t1 t2 t3 t4 i11).bind fun r17 => some (r17, i12, 0)))
set_option maxRecDepth 100000 in
set_option maxHeartbeats 2000000 in
theorem ok_strike_train_step_l1 {n : Nat} {w0 : World} {R0 : Nat → Prop} {env0 : Env} {r : Int × Int × Int} {s7 : Int} {t1 : Bool} {t2 : Bool} {t4 : Int} {s8 : Bool} {t3 : List (Int × Int)} : ∀ (m : Nat) (i11 : Int) (i12 : Int) (i13 : Int), ev_strike_train_step_l1 n s7 t1 t2 t3 t4 s8 m i11 i12 i13 = some r → TC Try.prog ⟨w0, fun _ => False, R0⟩ 53 (bodyPost Try.prog Try.f53 (Post ⟨w0, fun _ => False, R0⟩ env0 (.tup [.val (.int .i64 r.1), .val (.int .i64 r.2.1), .val (.int .i64 r.2.2)]) [])) [.code (sub (bodyOf Try.f53) [1, 1, 0, 1, 0, 0, 0]), .code (sub (bodyOf Try.f53) [1, 1, 0, 1, 0, 0, 1]), .inLoop (sub (bodyOf Try.f53) [1, 1, 0, 1, 0, 0]), .inBlock 1, .code (sub (bodyOf Try.f53) [1, 1, 1])] ([(2, .val (.int .i64 i11)), (4, .ptr 1 0), (7, .ptr 2 0), (9, .val (.int .i64 i12)), (27, .val (.int .i64 s7)), (28, .val (.int .i64 i13))]) ([.blk 1 [.val (.bool t1), .val (.bool t2), .ref 0, .val (.int .i64 t4)] 84, .blk 2 [.val (.int .i64 s7), .val (.bool s8)] 73, .ro 0 2 (List.map en_api_Span t3)]) := by
  intro m
  induction m with
  | zero => intro i11 i12 i13 h; exact none_no h
  | succ m ih =>
    intro i11 i12 i13 h
    rw [ev_strike_train_step_l1] at h
    refine TC.region ?_
    refine op0 (sp_lss rfl rfl rfl) rfl trivial rfl rfl ?_
    refine TL.nil ?_
    refine TC.seq ?_
    refine TC.cond (b := (decide (i13 < s7))) rfl (fun h6 => ?_) (fun h6 => ?_)
    · have h := cond_t h h6
      refine TC.skip ?_
      refine TC.seq ?_
      refine TC.block ?_
      refine TC.seq ?_
      refine TC.region ?_
      refine op0 (sp_move rfl rfl) rfl trivial rfl rfl ?_
      refine op1 0 rfl (sp_loadBA rfl isBlk rfl vt84 rfl rfl) rfl trivial rfl rfl ?_
      refine op0 (sp_move rfl rfl) rfl trivial rfl rfl ?_
      obtain ⟨r14, h7, h⟩ := bind_inv h
      refine op1 2 rfl (sp_call (avs := [.agg [.val (.bool t1), .val (.bool t2), .ref 0, .val (.int .i64 t4)], .val (.int .i64 i11)]) (need := [.ro 0 2 (List.map en_api_Span t3)]) (v := .val (.int .i64 r14)) (news := []) rfl rfl rfl Try.call60 (atJ [] [] (fc_strike_train_at h7) rfl rfl) (.inl (roAll rfl))) rfl trivial rfl rfl ?_
      obtain ⟨h8, h⟩ := chk_inv h
      refine op0 (sp_add rfl rfl rfl h8) rfl trivial rfl rfl ?_
      refine op0 (sp_assign rfl rfl) rfl trivial rfl rfl ?_
      refine TL.nil ?_
      refine TC.seq ?_
      refine TC.region ?_
      refine op1 0 rfl (sp_fieldAddrB rfl isBlk rfl ft84_0 vt24 (by decide)) rfl trivial rfl rfl ?_
      refine op1 0 rfl (sp_fieldAddrB rfl isBlk rfl ft24_1 vt4 (by decide)) rfl trivial rfl rfl ?_
      refine op1 0 rfl (sp_loadB rfl isBlk rfl vt4 rfl) rfl trivial rfl rfl ?_
      refine op0 (sp_not rfl rfl) rfl trivial rfl rfl ?_
      refine TL.nil ?_
      refine TC.cond (b := (!t2)) rfl (fun h9 => ?_) (fun h9 => ?_)
      · have h := cond_t h h9
        refine TC.region ?_
        refine op1 0 rfl (sp_loadBA rfl isBlk rfl vt84 rfl rfl) rfl trivial rfl rfl ?_
        refine op0 (sp_move rfl rfl) rfl trivial rfl rfl ?_
        obtain ⟨r15, h10, h⟩ := bind_inv h
        refine op1 2 rfl (sp_call (avs := [.agg [.val (.bool t1), .val (.bool t2), .ref 0, .val (.int .i64 t4)], .val (.int .i64 i11)]) (need := [.ro 0 2 (List.map en_api_Span t3)]) (v := .val (.int .i64 r15)) (news := []) rfl rfl rfl Try.call62 (atJ [] [] (fc_strike_train_next h10) rfl rfl) (.inl (roAll rfl))) rfl trivial rfl rfl ?_
        refine op0 (sp_assign rfl rfl) rfl trivial rfl rfl ?_
        refine TL.nil ?_
        refine TC.inBlock ?_
        refine TC.region ?_
        obtain ⟨h11, h⟩ := chk_inv h
        refine op0 (sp_add rfl rfl rfl h11) rfl trivial rfl rfl ?_
        refine op0 (sp_move rfl rfl) rfl trivial rfl rfl ?_
        refine TL.nil ?_
        refine TC.inLoop ?_
        refine TC.seq ?_
        refine subJ [] (ih _ _ _ h) ?_ ?_ ?_
        · exact ⟨rfl, rfl, rfl, rfl, rfl, rfl, trivial⟩
        · exact ⟨mem_at 0 rfl, mem_at 1 rfl, mem_at 2 rfl, trivial⟩
        · rfl
      · have h := cond_f h h9
        refine TC.skip ?_
        refine TC.inBlock ?_
        refine TC.region ?_
        obtain ⟨h12, h⟩ := chk_inv h
        refine op0 (sp_add rfl rfl rfl h12) rfl trivial rfl rfl ?_
        refine op0 (sp_move rfl rfl) rfl trivial rfl rfl ?_
        refine TL.nil ?_
        refine TC.inLoop ?_
        refine TC.seq ?_
        refine subJ [] (ih _ _ _ h) ?_ ?_ ?_
        · exact ⟨rfl, rfl, rfl, rfl, rfl, rfl, trivial⟩
        · exact ⟨mem_at 0 rfl, mem_at 1 rfl, mem_at 2 rfl, trivial⟩
        · rfl
    · have h := cond_f h h6
      refine TC.exit rfl ?_
      refine TC.seq ?_
      refine TC.seq ?_
      refine TC.region ?_
      refine op1 1 rfl (sp_fieldAddrB rfl isBlk rfl ft73_1 vt4 (by decide)) rfl trivial rfl rfl ?_
      refine op1 1 rfl (sp_loadB rfl isBlk rfl vt4 rfl) rfl trivial rfl rfl ?_
      refine TL.nil ?_
      refine TC.cond (b := s8) rfl (fun h13 => ?_) (fun h13 => ?_)
      · have h := cond_t h h13
        refine TC.seq ?_
        refine TC.region ?_
        refine op1 0 rfl (sp_loadBA rfl isBlk rfl vt84 rfl rfl) rfl trivial rfl rfl ?_
        refine op0 (sp_move rfl rfl) rfl trivial rfl rfl ?_
        obtain ⟨r16, h14, h⟩ := bind_inv h
        refine op1 2 rfl (sp_call (avs := [.agg [.val (.bool t1), .val (.bool t2), .ref 0, .val (.int .i64 t4)], .val (.int .i64 i11)]) (need := [.ro 0 2 (List.map en_api_Span t3)]) (v := .val (.int .i64 r16)) (news := []) rfl rfl rfl Try.call63 (atJ [] [] (fc_strike_train_missed h14) rfl rfl) (.inl (roAll rfl))) rfl trivial rfl rfl ?_
        refine op0 (sp_move rfl rfl) rfl trivial rfl rfl ?_
        refine op0 (sp_assign rfl rfl) rfl trivial rfl rfl ?_
        refine op0 (sp_assign rfl rfl) rfl trivial rfl rfl ?_
        refine op0 (sp_assign rfl rfl) rfl trivial rfl rfl ?_
        refine TL.nil ?_
        cases h
        exact retJ [] (.tmp rfl (.tmp rfl (.tmp rfl .nil))) rfl trivial rfl rfl
      · have h := cond_f h h13
        refine TC.skip ?_
        refine TC.seq ?_
        refine TC.region ?_
        refine op1 0 rfl (sp_loadBA rfl isBlk rfl vt84 rfl rfl) rfl trivial rfl rfl ?_
        refine op0 (sp_move rfl rfl) rfl trivial rfl rfl ?_
        obtain ⟨r17, h15, h⟩ := bind_inv h
        refine op1 2 rfl (sp_call (avs := [.agg [.val (.bool t1), .val (.bool t2), .ref 0, .val (.int .i64 t4)], .val (.int .i64 i11)]) (need := [.ro 0 2 (List.map en_api_Span t3)]) (v := .val (.int .i64 r17)) (news := []) rfl rfl rfl Try.call62 (atJ [] [] (fc_strike_train_next h15) rfl rfl) (.inl (roAll rfl))) rfl trivial rfl rfl ?_
        refine op0 (sp_move rfl rfl) rfl trivial rfl rfl ?_
        refine op0 (sp_assign rfl rfl) rfl trivial rfl rfl ?_
        refine op0 (sp_assign rfl rfl) rfl trivial rfl rfl ?_
        refine op0 (sp_assign rfl rfl) rfl trivial rfl rfl ?_
        refine TL.nil ?_
        cases h
        exact retJ [] (.tmp rfl (.tmp rfl (.tmp rfl .nil))) rfl trivial rfl rfl
def ev_strike_train_step_j0 (n : Nat) (s7 : Int) (t1 : Bool) (t2 : Bool) (t3 : List (Int × Int)) (t4 : Int) (s8 : Bool) (place6 : Int) : Option (Int × Int × Int) :=
  ev_strike_train_step_l1 n s7 t1 t2 t3 t4 s8 n place6 0 0
set_option maxRecDepth 100000 in
set_option maxHeartbeats 2000000 in
theorem ok_strike_train_step_j0 {n : Nat} {w0 : World} {R0 : Nat → Prop} {env0 : Env} {r : Int × Int × Int} {place6 : Int} {t1 : Bool} {t2 : Bool} {t4 : Int} {s7 : Int} {s8 : Bool} {t3 : List (Int × Int)} (h : ev_strike_train_step_j0 n s7 t1 t2 t3 t4 s8 place6 = some r) : TC Try.prog ⟨w0, fun _ => False, R0⟩ 53 (bodyPost Try.prog Try.f53 (Post ⟨w0, fun _ => False, R0⟩ env0 (.tup [.val (.int .i64 r.1), .val (.int .i64 r.2.1), .val (.int .i64 r.2.2)]) [])) [.code (sub (bodyOf Try.f53) [1, 0, 0, 1, 1, 1, 1]), .inBlock 0, .code (sub (bodyOf Try.f53) [1, 1])] ([(2, .val (.int .i64 place6)), (4, .ptr 1 0), (7, .ptr 2 0), (9, .val (.int .i64 0))]) ([.blk 1 [.val (.bool t1), .val (.bool t2), .ref 0, .val (.int .i64 t4)] 84, .blk 2 [.val (.int .i64 s7), .val (.bool s8)] 73, .ro 0 2 (List.map en_api_Span t3)]) := by
  rw [ev_strike_train_step_j0] at h
  refine TC.skip ?_
  refine TC.inBlock ?_
  refine TC.seq ?_
  refine TC.seq ?_
  refine TC.region ?_
  refine op1 1 rfl (sp_fieldAddrB rfl isBlk rfl ft73_0 vt3 (by decide)) rfl trivial rfl rfl ?_
  refine op1 1 rfl (sp_loadB rfl isBlk rfl vt3 rfl) rfl trivial rfl rfl ?_
  refine op0 (sp_move rfl rfl) rfl trivial rfl rfl ?_
  refine TL.nil ?_
  refine TC.block ?_
  refine TC.loop ?_
  refine TC.seq ?_
  refine subJ [] (ok_strike_train_step_l1 _ _ _ _ h) ?_ ?_ ?_
  · exact ⟨rfl, rfl, rfl, rfl, rfl, rfl, trivial⟩
  · exact ⟨mem_at 0 rfl, mem_at 1 rfl, mem_at 2 rfl, trivial⟩
  · rfl
def ev_strike_train_step (n : Nat) (t1 : Bool) (t2 : Bool) (t3 : List (Int × Int)) (t4 : Int) (slot5 : Int) (place6 : Int) (s7 : Int) (s8 : Bool) : Option (Int × Int × Int) :=
  (ev_strike_within n 0 48 ([s7] : List Int)).bind fun r9 => cond (!r9) (some (0, 0, 2)) (cond (decide ((0 : Int) < s7)) ((ev_strike_train_isSilent n t1 t2 t3 t4 slot5).bind fun r10 => cond r10 (some (0, 0, 9)) (ev_strike_train_step_j0 n s7 t1 t2 t3 t4 s8 place6)) (ev_strike_train_step_j0 n s7 t1 t2 t3 t4 s8 place6))
set_option maxRecDepth 100000 in
set_option maxHeartbeats 2000000 in
theorem fc_strike_train_step {n : Nat} {t1 : Bool} {t2 : Bool} {t3 : List (Int × Int)} {t4 : Int} {slot5 : Int} {place6 : Int} {s7 : Int} {s8 : Bool} {r : Int × Int × Int} (h : ev_strike_train_step n t1 t2 t3 t4 slot5 place6 s7 s8 = some r) : FC Try.prog 53 [.agg [.val (.bool t1), .val (.bool t2), .ref 0, .val (.int .i64 t4)], .val (.int .i64 slot5), .val (.int .i64 place6), .agg [.val (.int .i64 s7), .val (.bool s8)]] [.ro 0 2 (List.map en_api_Span t3)] (.tup [.val (.int .i64 r.1), .val (.int .i64 r.2.1), .val (.int .i64 r.2.2)]) [] := by
  refine introJ (nz := 53) Try.func53 rfl rfl rfl (fun w0 R0 env0 => ?_)
  rw [ev_strike_train_step] at h
  refine TC.seq ?_
  refine TC.region ?_
  refine op0 (sp_box 1 rfl rfl rfl rfl rfl) rfl trivial rfl rfl ?_
  refine op0 (sp_box 2 rfl rfl rfl rfl rfl) rfl trivial rfl rfl ?_
  refine op0 (sp_assign rfl rfl) rfl trivial rfl rfl ?_
  refine op0 (sp_assign rfl rfl) rfl trivial rfl rfl ?_
  refine op0 (sp_assign rfl rfl) rfl trivial rfl rfl ?_
  refine TL.nil ?_
  refine TC.seq ?_
  refine TC.block ?_
  refine TC.seq ?_
  refine TC.region ?_
  refine op1 0 rfl (sp_fieldAddrB rfl isBlk rfl ft73_0 vt3 (by decide)) rfl trivial rfl rfl ?_
  refine op1 0 rfl (sp_loadB rfl isBlk rfl vt3 rfl) rfl trivial rfl rfl ?_
  refine op0 (sp_buildSlice (qs := [.val (.int .i64 s7)]) (need := []) (els := List.map en_int ([s7] : List Int)) 3 rfl sl39 (by decide) (by decide) rfl rfl rfl (.v (.nil)) (map_len fun _ => rfl) rfl rfl rfl) rfl trivial rfl rfl ?_
  obtain ⟨r9, h1, h⟩ := bind_inv h
  refine op1 0 rfl (sp_call (avs := [.val (.int .i64 0), .val (.int .i64 48), .ref 3]) (need := [.row 3 3 1 (List.map en_int ([s7] : List Int))]) (v := .val (.bool r9)) (news := []) rfl rfl rfl Try.call40 (atJ [(0, 3)] [] (fc_strike_within h1) rfl rfl) (.inr (fun x hx => nomatch hx))) rfl trivial rfl rfl ?_
  refine op0 (sp_not rfl rfl) rfl trivial rfl rfl ?_
  refine op0 (sp_assign rfl rfl) rfl trivial rfl rfl ?_
  refine TL.nil ?_
  refine TC.cond (b := (!r9)) rfl (fun h2 => ?_) (fun h2 => ?_)
  · have h := cond_t h h2
    refine TC.seq ?_
    refine TC.region ?_
    refine op0 (sp_assign rfl rfl) rfl trivial rfl rfl ?_
    refine op0 (sp_assign rfl rfl) rfl trivial rfl rfl ?_
    refine op0 (sp_assign rfl rfl) rfl trivial rfl rfl ?_
    refine TL.nil ?_
    cases h
    exact retJ [] (.tmp rfl (.tmp rfl (.tmp rfl .nil))) rfl trivial rfl rfl
  · have h := cond_f h h2
    refine TC.seq ?_
    refine TC.region ?_
    refine op1 1 rfl (sp_fieldAddrB rfl isBlk rfl ft73_0 vt3 (by decide)) rfl trivial rfl rfl ?_
    refine op1 1 rfl (sp_loadB rfl isBlk rfl vt3 rfl) rfl trivial rfl rfl ?_
    refine op0 (sp_gtr rfl rfl rfl) rfl trivial rfl rfl ?_
    refine op0 (sp_move rfl rfl) rfl trivial rfl rfl ?_
    rcases cond_cases h with ⟨h3, h⟩ | ⟨h3, h⟩
    · refine (boolLit 21 rfl h3).2 ?_
      refine op1 2 rfl (sp_loadBA rfl isBlk rfl vt84 rfl rfl) rfl ⟨_, rfl, rfl⟩ rfl rfl ?_
      refine op0 (sp_move rfl rfl) rfl ⟨_, rfl, rfl⟩ rfl rfl ?_
      obtain ⟨r10, h4, h⟩ := bind_inv h
      refine op1 3 rfl (sp_call (avs := [.agg [.val (.bool t1), .val (.bool t2), .ref 0, .val (.int .i64 t4)], .val (.int .i64 slot5)]) (need := [.ro 0 2 (List.map en_api_Span t3)]) (v := .val (.bool r10)) (news := []) rfl rfl rfl Try.call59 (atJ [] [] (fc_strike_train_isSilent h4) rfl rfl) (.inl (roAll rfl))) rfl ⟨_, rfl, rfl⟩ rfl rfl ?_
      refine op0 (sp_pickT rfl rfl rfl) rfl trivial rfl rfl ?_
      refine op0 (sp_assign rfl rfl) rfl trivial rfl rfl ?_
      refine TL.nil ?_
      refine TC.cond (b := r10) rfl (fun h5 => ?_) (fun h5 => ?_)
      · have h := cond_t h h5
        refine TC.seq ?_
        refine TC.region ?_
        refine op0 (sp_assign rfl rfl) rfl trivial rfl rfl ?_
        refine op0 (sp_assign rfl rfl) rfl trivial rfl rfl ?_
        refine op0 (sp_assign rfl rfl) rfl trivial rfl rfl ?_
        refine TL.nil ?_
        cases h
        exact retJ [] (.tmp rfl (.tmp rfl (.tmp rfl .nil))) rfl trivial rfl rfl
      · have h := cond_f h h5
        refine subJ [] (ok_strike_train_step_j0 h) ?_ ?_ ?_
        · exact ⟨rfl, rfl, rfl, rfl, trivial⟩
        · exact ⟨mem_at 2 rfl, mem_at 1 rfl, mem_at 3 rfl, trivial⟩
        · rfl
    · refine (boolLit 21 rfl h3).2 ?_
      refine opSkip rfl ⟨_, rfl, .inl rfl⟩ rfl ?_
      refine opSkip rfl ⟨_, rfl, .inl rfl⟩ rfl ?_
      refine opSkip rfl ⟨_, rfl, .inl rfl⟩ rfl ?_
      refine op0 (sp_pickF rfl rfl rfl) rfl trivial rfl rfl ?_
      refine op0 (sp_assign rfl rfl) rfl trivial rfl rfl ?_
      refine TL.nil ?_
      refine TC.condF rfl ?_
      refine subJ [] (ok_strike_train_step_j0 h) ?_ ?_ ?_
      · exact ⟨rfl, rfl, rfl, rfl, trivial⟩
      · exact ⟨mem_at 2 rfl, mem_at 1 rfl, mem_at 3 rfl, trivial⟩
      · rfl
/- strike_cost_compare -/
def ev_strike_cost_compare (n : Nat) (c1 : Int) (c2 : Int) (d3 : Int) (d4 : Int) : Option Int :=
  (ev_cmp_Compare_int n c1 d3).bind fun r5 => (ev_cmp_Compare_int n c2 d4).bind fun r6 => (ev_cmp_Or_int n ([r5, r6] : List Int)).bind fun r7 => some r7
set_option maxRecDepth 100000 in
set_option maxHeartbeats 2000000 in
theorem fc_strike_cost_compare {n : Nat} {c1 : Int} {c2 : Int} {d3 : Int} {d4 : Int} {r : Int} (h : ev_strike_cost_compare n c1 c2 d3 d4 = some r) : FC Try.prog 67 [.agg [.val (.int .i64 c1), .val (.int .i64 c2)], .agg [.val (.int .i64 d3), .val (.int .i64 d4)]] [] (.val (.int .i64 r)) [] := by
  refine introJ (nz := 17) Try.func67 rfl rfl rfl (fun w0 R0 env0 => ?_)
  rw [ev_strike_cost_compare] at h
  refine TC.seq ?_
  refine TC.region ?_
  refine op0 (sp_box 0 rfl rfl rfl rfl rfl) rfl trivial rfl rfl ?_
  refine op0 (sp_box 1 rfl rfl rfl rfl rfl) rfl trivial rfl rfl ?_
  refine op0 (sp_assign rfl rfl) rfl trivial rfl rfl ?_
  refine TL.nil ?_
  refine TC.seq ?_
  obtain ⟨r5, h1, h⟩ := bind_inv h
  refine drawJ 9 [⟨.ptr 0 0, [], [.blk 0 [.val (.int .i64 c1), .val (.int .i64 c2)] 105], []⟩, ⟨.val (.int .i64 c1), [], [.blk 0 [.val (.int .i64 c1), .val (.int .i64 c2)] 105], []⟩, ⟨.ptr 1 0, [], [.blk 1 [.val (.int .i64 d3), .val (.int .i64 d4)] 105], []⟩, ⟨.val (.int .i64 d3), [], [.blk 1 [.val (.int .i64 d3), .val (.int .i64 d4)] 105], []⟩, ⟨.val (.int .i64 r5), [], [], []⟩, ⟨.ptr 0 1, [], [.blk 0 [.val (.int .i64 c1), .val (.int .i64 c2)] 105], []⟩, ⟨.val (.int .i64 c2), [], [.blk 0 [.val (.int .i64 c1), .val (.int .i64 c2)] 105], []⟩, ⟨.ptr 1 1, [], [.blk 1 [.val (.int .i64 d3), .val (.int .i64 d4)] 105], []⟩, ⟨.val (.int .i64 d4), [], [.blk 1 [.val (.int .i64 d3), .val (.int .i64 d4)] 105], []⟩] rfl ?_ rfl ?_ rfl ?_ ?_
  · kernel_rfl
  · kernel_rfl
  · exact DAll.op' (sp_fieldAddrB rfl isBlk rfl ft105_0 vt3 (by decide)) trivial rfl (From.ok (ps := [(none, 1)]) ⟨⟨rfl, rfl⟩, trivial⟩) (DAll.op' (sp_loadB rfl isBlk rfl vt3 rfl) trivial rfl (From.ok (ps := [(none, 1)]) ⟨⟨rfl, rfl⟩, trivial⟩) (DAll.op' (sp_fieldAddrB rfl isBlk rfl ft105_0 vt3 (by decide)) trivial rfl (From.ok (ps := [(none, 0)]) ⟨⟨rfl, rfl⟩, trivial⟩) (DAll.op' (sp_loadB rfl isBlk rfl vt3 rfl) trivial rfl (From.ok (ps := [(none, 0)]) ⟨⟨rfl, rfl⟩, trivial⟩) (DAll.op' (sp_call (avs := [.val (.int .i64 c1), .val (.int .i64 d3)]) (need := []) (v := .val (.int .i64 r5)) (news := []) rfl rfl rfl Try.call83 (atJ [] [] (fc_cmp_Compare_int h1) rfl rfl) (.inl (roAll rfl))) trivial rfl (From.ok (ps := []) trivial) (DAll.op' (sp_fieldAddrB rfl isBlk rfl ft105_1 vt3 (by decide)) trivial rfl (From.ok (ps := [(none, 1)]) ⟨⟨rfl, rfl⟩, trivial⟩) (DAll.op' (sp_loadB rfl isBlk rfl vt3 rfl) trivial rfl (From.ok (ps := [(none, 1)]) ⟨⟨rfl, rfl⟩, trivial⟩) (DAll.op' (sp_fieldAddrB rfl isBlk rfl ft105_1 vt3 (by decide)) trivial rfl (From.ok (ps := [(none, 0)]) ⟨⟨rfl, rfl⟩, trivial⟩) (DAll.op' (sp_loadB rfl isBlk rfl vt3 rfl) trivial rfl (From.ok (ps := [(none, 0)]) ⟨⟨rfl, rfl⟩, trivial⟩) (.nil)))))))))
  obtain ⟨r6, h2, h⟩ := bind_inv h
  refine op0 (sp_call (avs := [.val (.int .i64 c2), .val (.int .i64 d4)]) (need := []) (v := .val (.int .i64 r6)) (news := []) rfl rfl rfl Try.call83 (atJ [] [] (fc_cmp_Compare_int h2) rfl rfl) (.inl (roAll rfl))) rfl trivial rfl rfl ?_
  refine op0 (sp_buildSlice (qs := [.val (.int .i64 r5), .val (.int .i64 r6)]) (need := []) (els := List.map en_int ([r5, r6] : List Int)) 2 rfl sl39 (by decide) (by decide) rfl rfl rfl (.v (.v (.nil))) (map_len fun _ => rfl) rfl rfl rfl) rfl trivial rfl rfl ?_
  obtain ⟨r7, h3, h⟩ := bind_inv h
  refine op1 0 rfl (sp_call (avs := [.ref 2]) (need := [.row 2 3 1 (List.map en_int ([r5, r6] : List Int))]) (v := .val (.int .i64 r7)) (news := []) rfl rfl rfl Try.call82 (atJ [(0, 2)] [] (fc_cmp_Or_int h3) rfl rfl) (.inr (fun x hx => nomatch hx))) rfl trivial rfl rfl ?_
  refine op0 (sp_assign rfl rfl) rfl trivial rfl rfl ?_
  refine TL.nil ?_
  cases h
  exact retJ [] (.tmp rfl .nil) rfl trivial rfl rfl
end
end Go.Proofs.Ytglgkcfgjaoabaa.Sy
