/- What functions of the program compute, and that they do: printed by symgen.py. -/
import Derived.Test.YtmgcinejodpopaaGLib
set_option linter.unusedSimpArgs false
set_option linter.unusedVariables false
namespace Go.Proofs.Ytmgcinejodpopaa.Sy
open Go.RowKit
noncomputable section

/- strike_places -/
def ev_strike_places (n : Nat) (rr1 : Bool) (rr2 : Bool) (rr3 : List (Int × Int)) : Option Int :=
  cond rr1 (some 24) (some 12)
set_option maxRecDepth 100000 in
set_option maxHeartbeats 2000000 in
theorem fc_strike_places {n : Nat} {rr1 : Bool} {rr2 : Bool} {rr3 : List (Int × Int)} {r : Int} (h : ev_strike_places n rr1 rr2 rr3 = some r) : FC Try.prog 197 [.agg [.val (.bool rr1), .val (.bool rr2), .ref 0]] [.ro 0 2 (List.map en_api_Span rr3)] (.val (.int .i64 r)) [] := by
  refine introJ (nz := 5) Try.func197 rfl rfl rfl (fun w0 R0 env0 => ?_)
  rw [ev_strike_places] at h
  refine TC.seq ?_
  refine TC.region ?_
  refine op0 (sp_box 1 rfl rfl rfl rfl rfl) rfl trivial rfl rfl ?_
  refine op0 (sp_assign rfl rfl) rfl trivial rfl rfl ?_
  refine TL.nil ?_
  refine TC.seq ?_
  refine TC.seq ?_
  refine TC.region ?_
  refine op1 0 rfl (sp_fieldAddrB rfl isBlk rfl ft124_0 vt4 (by decide)) rfl trivial rfl rfl ?_
  refine op1 0 rfl (sp_loadB rfl isBlk rfl vt4 rfl) rfl trivial rfl rfl ?_
  refine TL.nil ?_
  refine TC.cond (b := rr1) rfl (fun h1 => ?_) (fun h1 => ?_)
  · have h := cond_t h h1
    refine TC.seq ?_
    refine TC.region ?_
    refine op0 (sp_assign rfl rfl) rfl trivial rfl rfl ?_
    refine TL.nil ?_
    cases h
    exact retJ [] (.tmp rfl .nil) rfl trivial rfl rfl
  · have h := cond_f h h1
    refine TC.skip ?_
    refine TC.seq ?_
    refine TC.region ?_
    refine op0 (sp_assign rfl rfl) rfl trivial rfl rfl ?_
    refine TL.nil ?_
    cases h
    exact retJ [] (.tmp rfl .nil) rfl trivial rfl rfl
/- strike_within_1 -/
def ev_strike_within_1 (n : Nat) (nn1 : Int) (c2 : Int) (c3 : Int) : Option Bool :=
  cond (decide (nn1 < c2)) (some true) (some (decide (c3 < nn1)))
set_option maxRecDepth 100000 in
set_option maxHeartbeats 2000000 in
theorem fc_strike_within_1 {n : Nat} {nn1 : Int} {c2 : Int} {c3 : Int} {r : Bool} (h : ev_strike_within_1 n nn1 c2 c3 = some r) : FC Try.prog 256 [.val (.int .i64 nn1), .ptr 0 0, .ptr 1 0] [.rob 0 [.val (.int .i64 c2)] 3, .rob 1 [.val (.int .i64 c3)] 3] (.val (.bool r)) [] := by
  refine introJ (nz := 13) Try.func256 rfl rfl rfl (fun w0 R0 env0 => ?_)
  rw [ev_strike_within_1] at h
  refine TC.seq ?_
  refine TC.region ?_
  refine op0 (sp_assign rfl rfl) rfl trivial rfl rfl ?_
  refine TL.nil ?_
  refine TC.seq ?_
  refine TC.region ?_
  refine op0 (sp_move rfl rfl) rfl trivial rfl rfl ?_
  refine op1 0 rfl (sp_loadB rfl isRob rfl vt3 rfl) rfl trivial rfl rfl ?_
  refine op0 (sp_lss rfl rfl rfl) rfl trivial rfl rfl ?_
  refine op0 (sp_move rfl rfl) rfl trivial rfl rfl ?_
  rcases cond_cases h with ⟨h1, h⟩ | ⟨h1, h⟩
  · refine (boolLit 8 rfl h1).2 ?_
    refine opSkip rfl ⟨_, rfl, .inl rfl⟩ rfl ?_
    refine opSkip rfl ⟨_, rfl, .inl rfl⟩ rfl ?_
    refine opSkip rfl ⟨_, rfl, .inl rfl⟩ rfl ?_
    refine op0 (sp_pickT rfl rfl rfl) rfl trivial rfl rfl ?_
    refine op0 (sp_assign rfl rfl) rfl trivial rfl rfl ?_
    refine TL.nil ?_
    cases h
    exact retJ [] (.tmp rfl .nil) rfl trivial rfl rfl
  · refine (boolLit 8 rfl h1).2 ?_
    refine op0 (sp_move rfl rfl) rfl ⟨_, rfl, rfl⟩ rfl rfl ?_
    refine op1 1 rfl (sp_loadB rfl isRob rfl vt3 rfl) rfl ⟨_, rfl, rfl⟩ rfl rfl ?_
    refine op0 (sp_gtr rfl rfl rfl) rfl ⟨_, rfl, rfl⟩ rfl rfl ?_
    refine op0 (sp_pickF rfl rfl rfl) rfl trivial rfl rfl ?_
    refine op0 (sp_assign rfl rfl) rfl trivial rfl rfl ?_
    refine TL.nil ?_
    cases h
    exact retJ [] (.tmp rfl .nil) rfl trivial rfl rfl
/- strike_within -/
def ev_strike_within (n : Nat) (least1 : Int) (most2 : Int) (l3 : List Int) : Option Bool :=
  (ev_slices_ContainsFunc_Lint_int n l3 (fun a => ev_strike_within_1 n a least1 most2)).bind fun r4 => some (!r4)
set_option maxRecDepth 100000 in
set_option maxHeartbeats 2000000 in
theorem fc_strike_within {n : Nat} {least1 : Int} {most2 : Int} {l3 : List Int} {r : Bool} (h : ev_strike_within n least1 most2 l3 = some r) : FC Try.prog 199 [.val (.int .i64 least1), .val (.int .i64 most2), .ref 0] [.ro 0 1 (List.map en_int l3)] (.val (.bool r)) [] := by
  refine introJ (nz := 11) Try.func199 rfl rfl rfl (fun w0 R0 env0 => ?_)
  rw [ev_strike_within] at h
  refine TC.seq ?_
  refine TC.region ?_
  refine op0 (sp_box 1 rfl rfl rfl rfl rfl) rfl trivial rfl rfl ?_
  refine op0 (sp_box 2 rfl rfl rfl rfl rfl) rfl trivial rfl rfl ?_
  refine op0 (sp_assign rfl rfl) rfl trivial rfl rfl ?_
  refine TL.nil ?_
  refine TC.seq ?_
  refine TC.region ?_
  refine op0 (sp_move rfl rfl) rfl trivial rfl rfl ?_
  refine op0 (sp_makeFunc (fi := []) (ca := [.tmp 3, .tmp 4]) (fa := []) (cb := [.ptr 1 0, .ptr 2 0]) rfl rfl rfl) rfl trivial rfl rfl ?_
  obtain ⟨r4, h1, h⟩ := bind_inv h
  refine opN (need := [.ro 0 1 (List.map en_int l3), .blk 1 [.val (.int .i64 least1)] 3, .blk 2 [.val (.int .i64 most2)] 3]) [2, 1, 0] ⟨rfl, rfl, rfl, trivial⟩ (sp_call (avs := [.ref 0, .fn 256 [] [.ptr 1 0, .ptr 2 0]]) (need := [.ro 0 1 (List.map en_int l3), .blk 1 [.val (.int .i64 least1)] 3, .blk 2 [.val (.int .i64 most2)] 3]) (v := .val (.bool r4)) (news := []) rfl rfl rfl Try.call133 (FC.needJ (need := [.ro 0 1 (List.map en_int l3), .rob 1 [.val (.int .i64 least1)] 3, .rob 2 [.val (.int .i64 most2)] 3]) (need' := [.rob 1 [.val (.int .i64 least1)] 3, .rob 2 [.val (.int .i64 most2)] 3, .ro 0 1 (List.map en_int l3)]) [1, 2, 0] ⟨rfl, rfl, rfl, trivial⟩ (FC.fnArg (args := [.ref 0, .ref 3]) (needC := [.rob 1 [.val (.int .i64 least1)] 3, .rob 2 [.val (.int .i64 most2)] 3]) (need := [.ro 0 1 (List.map en_int l3)]) 1 (first := []) (caps := [.ptr 1 0, .ptr 2 0]) (FC.needJ (need := [.any 3 (D.fn Try.prog fe_funcint_bool fd_funcint_bool (fun a => ev_strike_within_1 n a least1 most2)), .ro 0 1 (List.map en_int l3)]) (need' := [.ro 0 1 (List.map en_int l3), .any 3 (D.fn Try.prog fe_funcint_bool fd_funcint_bool (fun a => ev_strike_within_1 n a least1 most2))]) [1, 0] ⟨rfl, rfl, trivial⟩ (atJ [(1, 3)] [] (fc_slices_ContainsFunc_Lint_int h1) rfl rfl)) rfl Try.call256 (fun a b hab => atJ [(0, 1), (1, 2)] [] (fc_strike_within_1 hab) rfl rfl) rfl (fun _ => rfl) (fun _ => rfl) rfl rfl rfl rfl rfl rfl rfl)) (.inr (fun x hx => nomatch hx))) rfl trivial rfl rfl ?_
  refine op0 (sp_not rfl rfl) rfl trivial rfl rfl ?_
  refine op0 (sp_assign rfl rfl) rfl trivial rfl rfl ?_
  refine TL.nil ?_
  cases h
  exact retJ [] (.tmp rfl .nil) rfl trivial rfl rfl
/- strike_Check -/
def ev_strike_Check_l0 (n : Nat) (rr3 : List (Int × Int)) : Nat → Int → Int → Bool → Bool → (List (Int × Int)) → Option Int
  | 0, _, _, _, _, _ => none
  | m + 1, i4, i5, b6, b7, l8 => cond (decide (i5 < (rr3.length : Int))) (idx l8 i5 fun x9 => cond (decide (x9.2 < x9.1)) (some 2) ((ev_strike_places n b6 b7 l8).bind fun r10 => chk (in64 ((2 : Int) * r10)) <| chk (in64 (((2 : Int) * r10) - 1)) <| (ev_strike_within n i4 (((2 : Int) * r10) - 1) ([x9.1, x9.2] : List Int)).bind fun r11 => cond (!r11) (some 2) (chk (in64 (x9.2 + 1)) <| chk (in64 (i5 + 1)) <| ev_strike_Check_l0 n rr3 m (x9.2 + 1) (i5 + 1) b6 b7 l8))) (some 0)
set_option maxRecDepth 100000 in
set_option maxHeartbeats 2000000 in
theorem ok_strike_Check_l0 {n : Nat} {w0 : World} {R0 : Nat → Prop} {env0 : Env} {r : Int} {rr3 : List (Int × Int)} : ∀ (m : Nat) (i4 : Int) (i5 : Int) (b6 : Bool) (b7 : Bool) (l8 : List (Int × Int)), ev_strike_Check_l0 n rr3 m i4 i5 b6 b7 l8 = some r → TC Try.prog ⟨w0, fun _ => False, R0⟩ 40 (bodyPost Try.prog Try.f198 (Post ⟨w0, fun _ => False, R0⟩ env0 (.val (.int .i64 r)) [])) [.code (sub (bodyOf Try.f198) [1, 1, 1, 0, 1, 0, 0, 0]), .code (sub (bodyOf Try.f198) [1, 1, 1, 0, 1, 0, 0, 1]), .inLoop (sub (bodyOf Try.f198) [1, 1, 1, 0, 1, 0, 0]), .inBlock 0, .code (sub (bodyOf Try.f198) [1, 1, 1, 1])] ([(1, .ptr 1 0), (3, .val (.int .i64 i4)), (11, .ref 0), (12, .val (.int .i64 (rr3.length : Int))), (13, .val (.int .i64 i5))]) ([.blk 1 [.val (.bool b6), .val (.bool b7), .ref 0] 124, .ro 0 2 (List.map en_api_Span l8)]) := by
  intro m
  induction m with
  | zero => intro i4 i5 b6 b7 l8 h; exact none_no h
  | succ m ih =>
    intro i4 i5 b6 b7 l8 h
    rw [ev_strike_Check_l0] at h
    refine TC.region ?_
    refine op0 (sp_lss rfl rfl rfl) rfl trivial rfl rfl ?_
    refine TL.nil ?_
    refine TC.seq ?_
    refine TC.cond (b := (decide (i5 < (rr3.length : Int)))) rfl (fun h2 => ?_) (fun h2 => ?_)
    · have h := cond_t h h2
      refine TC.skip ?_
      refine TC.seq ?_
      refine TC.block ?_
      refine TC.seq ?_
      refine TC.region ?_
      obtain ⟨x9, h3, h4, h⟩ := idx_inv h
      refine op1 1 rfl (sp_indexS rfl rfl rfl isRo sl23 h3 (map_get _ h4)) rfl trivial rfl rfl ?_
      refine op1 1 rfl (sp_loadRA (i := (i5 : Int).toNat) (j := 0) (as_ := [.val (.int .i64 x9.1), .val (.int .i64 x9.2)]) (ns := []) rfl rfl isRo vt26 rfl (map_get _ h4) rfl rfl (by decide) (.v (.v (.nil))) (nodup_of_B rfl)) rfl trivial rfl rfl ?_
      refine op0 (sp_alloc 2 rfl Try.zeroValue26 rfl) rfl trivial rfl rfl ?_
      refine stoB 0 (cells' := [.val (.int .i64 x9.1), .val (.int .i64 x9.2)]) rfl rfl trivial rfl rfl rfl rfl vt26 rfl rfl rfl ?_
      refine TL.nil ?_
      refine TC.seq ?_
      refine TC.seq ?_
      rcases cond_cases h with ⟨h5, h⟩ | ⟨h5, h⟩
      · refine drawJ 16 [⟨.ptr 2 0, [], [.blk 2 [.val (.int .i64 x9.1), .val (.int .i64 x9.2)] 26], []⟩, ⟨.val (.int .i64 x9.1), [], [.blk 2 [.val (.int .i64 x9.1), .val (.int .i64 x9.2)] 26], []⟩, ⟨.ptr 2 1, [], [.blk 2 [.val (.int .i64 x9.1), .val (.int .i64 x9.2)] 26], []⟩, ⟨.val (.int .i64 x9.2), [], [.blk 2 [.val (.int .i64 x9.1), .val (.int .i64 x9.2)] 26], []⟩, ⟨.val (.bool (decide (x9.2 < x9.1))), [], [], []⟩, ⟨.val (.bool true), [], [], []⟩, ⟨.val (undef), [], [], []⟩, ⟨.val (undef), [], [], []⟩, ⟨.val (undef), [], [], []⟩, ⟨.val (undef), [], [], []⟩, ⟨.val (undef), [], [], []⟩, ⟨.val (undef), [], [], []⟩, ⟨.val (undef), [], [], []⟩, ⟨.val (undef), [], [], []⟩, ⟨.val (undef), [], [], []⟩, ⟨.val (undef), [], [], []⟩] rfl ?_ rfl ?_ rfl ?_ ?_
        · kernel_rfl
        · kernel_rfl
        · exact DAll.op' (sp_fieldAddrB rfl isBlk rfl ft26_0 vt3 (by decide)) trivial rfl (From.ok (ps := [(none, 0)]) ⟨⟨rfl, rfl⟩, trivial⟩) (DAll.op' (sp_loadB rfl isBlk rfl vt3 rfl) trivial rfl (From.ok (ps := [(none, 0)]) ⟨⟨rfl, rfl⟩, trivial⟩) (DAll.op' (sp_fieldAddrB rfl isBlk rfl ft26_1 vt3 (by decide)) trivial rfl (From.ok (ps := [(none, 0)]) ⟨⟨rfl, rfl⟩, trivial⟩) (DAll.op' (sp_loadB rfl isBlk rfl vt3 rfl) trivial rfl (From.ok (ps := [(none, 0)]) ⟨⟨rfl, rfl⟩, trivial⟩) (DAll.op' (sp_gtr rfl rfl rfl) trivial rfl (From.ok (ps := []) trivial) (DAll.op' (sp_castB h5 (sp_move rfl rfl)) trivial rfl (From.ok (ps := []) trivial) (.skip ⟨_, rfl, .inl rfl⟩ rfl rfl rfl (.skip ⟨_, rfl, .inl rfl⟩ rfl rfl rfl (.skip ⟨_, rfl, .inl rfl⟩ rfl rfl rfl (.skip ⟨_, rfl, .inl rfl⟩ rfl rfl rfl (.skip ⟨_, rfl, .inl rfl⟩ rfl rfl rfl (.skip ⟨_, rfl, .inl rfl⟩ rfl rfl rfl (.skip ⟨_, rfl, .inl rfl⟩ rfl rfl rfl (.skip ⟨_, rfl, .inl rfl⟩ rfl rfl rfl (.skip ⟨_, rfl, .inl rfl⟩ rfl rfl rfl (.skip ⟨_, rfl, .inl rfl⟩ rfl rfl rfl (.nil))))))))))))))))
        refine opSkip rfl ⟨_, rfl, .inl rfl⟩ rfl ?_
        refine opSkip rfl ⟨_, rfl, .inl rfl⟩ rfl ?_
        refine op0 (sp_pickT rfl rfl rfl) rfl trivial rfl rfl ?_
        refine TL.nil ?_
        refine TC.condT rfl ?_
        refine TC.seq ?_
        refine TC.region ?_
        refine op0 (sp_assign rfl rfl) rfl trivial rfl rfl ?_
        refine TL.nil ?_
        cases h
        exact retJ [] (.tmp rfl .nil) rfl trivial rfl rfl
      · obtain ⟨r10, h6, h⟩ := bind_inv h
        obtain ⟨h7, h⟩ := chk_inv h
        obtain ⟨h8, h⟩ := chk_inv h
        refine drawJ 16 [⟨.ptr 2 0, [], [.blk 2 [.val (.int .i64 x9.1), .val (.int .i64 x9.2)] 26], []⟩, ⟨.val (.int .i64 x9.1), [], [.blk 2 [.val (.int .i64 x9.1), .val (.int .i64 x9.2)] 26], []⟩, ⟨.ptr 2 1, [], [.blk 2 [.val (.int .i64 x9.1), .val (.int .i64 x9.2)] 26], []⟩, ⟨.val (.int .i64 x9.2), [], [.blk 2 [.val (.int .i64 x9.1), .val (.int .i64 x9.2)] 26], []⟩, ⟨.val (.bool (decide (x9.2 < x9.1))), [], [], []⟩, ⟨.val (.bool false), [], [], []⟩, ⟨.val (.int .i64 i4), [], [], []⟩, ⟨.agg [.val (.bool b6), .val (.bool b7), .ref 0], [], [.blk 1 [.val (.bool b6), .val (.bool b7), .ref 0] 124], []⟩, ⟨.val (.int .i64 r10), [], [.ro 0 2 (List.map en_api_Span l8)], []⟩, ⟨.val (.int .i64 ((2 : Int) * r10)), [], [], []⟩, ⟨.val (.int .i64 (((2 : Int) * r10) - 1)), [], [], []⟩, ⟨.ptr 2 0, [], [.blk 2 [.val (.int .i64 x9.1), .val (.int .i64 x9.2)] 26], []⟩, ⟨.val (.int .i64 x9.1), [], [.blk 2 [.val (.int .i64 x9.1), .val (.int .i64 x9.2)] 26], []⟩, ⟨.ptr 2 1, [], [.blk 2 [.val (.int .i64 x9.1), .val (.int .i64 x9.2)] 26], []⟩, ⟨.val (.int .i64 x9.2), [], [.blk 2 [.val (.int .i64 x9.1), .val (.int .i64 x9.2)] 26], []⟩, ⟨.ref 3, [.row 3 3 1 (List.map en_int ([x9.1, x9.2] : List Int))], [], []⟩] rfl ?_ rfl ?_ rfl ?_ ?_
        · kernel_rfl
        · kernel_rfl
        · exact DAll.op' (sp_fieldAddrB rfl isBlk rfl ft26_0 vt3 (by decide)) trivial rfl (From.ok (ps := [(none, 0)]) ⟨⟨rfl, rfl⟩, trivial⟩) (DAll.op' (sp_loadB rfl isBlk rfl vt3 rfl) trivial rfl (From.ok (ps := [(none, 0)]) ⟨⟨rfl, rfl⟩, trivial⟩) (DAll.op' (sp_fieldAddrB rfl isBlk rfl ft26_1 vt3 (by decide)) trivial rfl (From.ok (ps := [(none, 0)]) ⟨⟨rfl, rfl⟩, trivial⟩) (DAll.op' (sp_loadB rfl isBlk rfl vt3 rfl) trivial rfl (From.ok (ps := [(none, 0)]) ⟨⟨rfl, rfl⟩, trivial⟩) (DAll.op' (sp_gtr rfl rfl rfl) trivial rfl (From.ok (ps := []) trivial) (DAll.op' (sp_castB h5 (sp_move rfl rfl)) trivial rfl (From.ok (ps := []) trivial) (DAll.op' (sp_move rfl rfl) ⟨_, rfl, rfl⟩ rfl (From.ok (ps := []) trivial) (DAll.op' (sp_loadBA rfl isBlk rfl vt124 rfl rfl) ⟨_, rfl, rfl⟩ rfl (From.ok (ps := [(none, 1)]) ⟨⟨rfl, rfl⟩, trivial⟩) (DAll.op' (sp_call (avs := [.agg [.val (.bool b6), .val (.bool b7), .ref 0]]) (need := [.ro 0 2 (List.map en_api_Span l8)]) (v := .val (.int .i64 r10)) (news := []) rfl rfl rfl Try.call197 (atJ [] [] (fc_strike_places h6) rfl rfl) (.inl (roAll rfl))) ⟨_, rfl, rfl⟩ rfl (From.ok (ps := [(none, 2)]) ⟨⟨rfl, rfl⟩, trivial⟩) (DAll.op' (sp_mul rfl rfl rfl h7) ⟨_, rfl, rfl⟩ rfl (From.ok (ps := []) trivial) (DAll.op' (sp_sub rfl rfl rfl h8) ⟨_, rfl, rfl⟩ rfl (From.ok (ps := []) trivial) (DAll.op' (sp_fieldAddrB rfl isBlk rfl ft26_0 vt3 (by decide)) ⟨_, rfl, rfl⟩ rfl (From.ok (ps := [(none, 0)]) ⟨⟨rfl, rfl⟩, trivial⟩) (DAll.op' (sp_loadB rfl isBlk rfl vt3 rfl) ⟨_, rfl, rfl⟩ rfl (From.ok (ps := [(none, 0)]) ⟨⟨rfl, rfl⟩, trivial⟩) (DAll.op' (sp_fieldAddrB rfl isBlk rfl ft26_1 vt3 (by decide)) ⟨_, rfl, rfl⟩ rfl (From.ok (ps := [(none, 0)]) ⟨⟨rfl, rfl⟩, trivial⟩) (DAll.op' (sp_loadB rfl isBlk rfl vt3 rfl) ⟨_, rfl, rfl⟩ rfl (From.ok (ps := [(none, 0)]) ⟨⟨rfl, rfl⟩, trivial⟩) (DAll.op' (sp_buildSlice (qs := [.val (.int .i64 x9.1), .val (.int .i64 x9.2)]) (need := []) (els := List.map en_int ([x9.1, x9.2] : List Int)) 3 rfl sl37 (by decide) (by decide) rfl rfl rfl (.v (.v (.nil))) (map_len fun _ => rfl) rfl rfl rfl) ⟨_, rfl, rfl⟩ rfl (From.ok (ps := []) trivial) (.nil))))))))))))))))
        obtain ⟨r11, h9, h⟩ := bind_inv h
        refine op1 0 rfl (sp_call (avs := [.val (.int .i64 i4), .val (.int .i64 (((2 : Int) * r10) - 1)), .ref 3]) (need := [.row 3 3 1 (List.map en_int ([x9.1, x9.2] : List Int))]) (v := .val (.bool r11)) (news := []) rfl rfl rfl Try.call199 (atJ [(0, 3)] [] (fc_strike_within h9) rfl rfl) (.inr (fun x hx => nomatch hx))) rfl ⟨_, rfl, rfl⟩ rfl rfl ?_
        refine op0 (sp_not rfl rfl) rfl ⟨_, rfl, rfl⟩ rfl rfl ?_
        refine op0 (sp_pickF rfl rfl rfl) rfl trivial rfl rfl ?_
        refine TL.nil ?_
        refine TC.cond (b := (!r11)) rfl (fun h10 => ?_) (fun h10 => ?_)
        · have h := cond_t h h10
          refine TC.seq ?_
          refine TC.region ?_
          refine op0 (sp_assign rfl rfl) rfl trivial rfl rfl ?_
          refine TL.nil ?_
          cases h
          exact retJ [] (.tmp rfl .nil) rfl trivial rfl rfl
        · have h := cond_f h h10
          refine TC.skip ?_
          refine TC.region ?_
          refine op1 1 rfl (sp_fieldAddrB rfl isBlk rfl ft26_1 vt3 (by decide)) rfl trivial rfl rfl ?_
          refine op1 1 rfl (sp_loadB rfl isBlk rfl vt3 rfl) rfl trivial rfl rfl ?_
          obtain ⟨h11, h⟩ := chk_inv h
          refine op0 (sp_add rfl rfl rfl h11) rfl trivial rfl rfl ?_
          refine op0 (sp_assign rfl rfl) rfl trivial rfl rfl ?_
          refine TL.nil ?_
          refine TC.inBlock ?_
          refine TC.region ?_
          obtain ⟨h12, h⟩ := chk_inv h
          refine op0 (sp_add rfl rfl rfl h12) rfl trivial rfl rfl ?_
          refine op0 (sp_move rfl rfl) rfl trivial rfl rfl ?_
          refine TL.nil ?_
          refine TC.inLoop ?_
          refine TC.seq ?_
          refine subJ [] (ih _ _ _ _ _ h) ?_ ?_ ?_
          · exact ⟨rfl, rfl, rfl, rfl, rfl, trivial⟩
          · exact ⟨mem_at 2 rfl, mem_at 3 rfl, trivial⟩
          · rfl
    · have h := cond_f h h2
      refine TC.exit rfl ?_
      refine TC.seq ?_
      refine TC.region ?_
      refine op0 (sp_assign rfl rfl) rfl trivial rfl rfl ?_
      refine TL.nil ?_
      cases h
      exact retJ [] (.tmp rfl .nil) rfl trivial rfl rfl
def ev_strike_Check (n : Nat) (rr1 : Bool) (rr2 : Bool) (rr3 : List (Int × Int)) : Option Int :=
  cond (decide ((8 : Int) < (rr3.length : Int))) (some 5) (ev_strike_Check_l0 n rr3 n 0 0 rr1 rr2 rr3)
set_option maxRecDepth 100000 in
set_option maxHeartbeats 2000000 in
theorem fc_strike_Check {n : Nat} {rr1 : Bool} {rr2 : Bool} {rr3 : List (Int × Int)} {r : Int} (h : ev_strike_Check n rr1 rr2 rr3 = some r) : FC Try.prog 198 [.agg [.val (.bool rr1), .val (.bool rr2), .ref 0]] [.ro 0 2 (List.map en_api_Span rr3)] (.val (.int .i64 r)) [] := by
  refine introJ (nz := 40) Try.func198 rfl rfl rfl (fun w0 R0 env0 => ?_)
  rw [ev_strike_Check] at h
  refine TC.seq ?_
  refine TC.region ?_
  refine op0 (sp_box 1 rfl rfl rfl rfl rfl) rfl trivial rfl rfl ?_
  refine op0 (sp_assign rfl rfl) rfl trivial rfl rfl ?_
  refine TL.nil ?_
  refine TC.seq ?_
  refine TC.seq ?_
  refine TC.region ?_
  refine op1 0 rfl (sp_fieldAddrB rfl isBlk rfl ft124_2 vt23 (by decide)) rfl trivial rfl rfl ?_
  refine op1 0 rfl (sp_loadB rfl isBlk rfl vt23 rfl) rfl trivial rfl rfl ?_
  refine op1 1 rfl (sp_lenM (N := rr3.length) (len_map _ _) rfl rfl isRo Try.underlying23) rfl trivial rfl rfl ?_
  refine op0 (sp_gtr rfl rfl rfl) rfl trivial rfl rfl ?_
  refine TL.nil ?_
  refine TC.cond (b := (decide ((8 : Int) < (rr3.length : Int)))) rfl (fun h1 => ?_) (fun h1 => ?_)
  · have h := cond_t h h1
    refine TC.seq ?_
    refine TC.region ?_
    refine op0 (sp_assign rfl rfl) rfl trivial rfl rfl ?_
    refine TL.nil ?_
    cases h
    exact retJ [] (.tmp rfl .nil) rfl trivial rfl rfl
  · have h := cond_f h h1
    refine TC.skip ?_
    refine TC.seq ?_
    refine TC.region ?_
    refine op0 (sp_assign rfl rfl) rfl trivial rfl rfl ?_
    refine TL.nil ?_
    refine TC.seq ?_
    refine TC.seq ?_
    refine TC.region ?_
    refine op1 0 rfl (sp_fieldAddrB rfl isBlk rfl ft124_2 vt23 (by decide)) rfl trivial rfl rfl ?_
    refine op1 0 rfl (sp_loadB rfl isBlk rfl vt23 rfl) rfl trivial rfl rfl ?_
    refine op1 1 rfl (sp_lenM (N := rr3.length) (len_map _ _) rfl rfl isRo Try.underlying23) rfl trivial rfl rfl ?_
    refine op0 (sp_move rfl rfl) rfl trivial rfl rfl ?_
    refine TL.nil ?_
    refine TC.block ?_
    refine TC.loop ?_
    refine TC.seq ?_
    refine subJ [] (ok_strike_Check_l0 _ _ _ _ _ _ h) ?_ ?_ ?_
    · exact ⟨rfl, rfl, rfl, rfl, rfl, trivial⟩
    · exact ⟨mem_at 0 rfl, mem_at 1 rfl, trivial⟩
    · rfl
/- strike_open -/
def ev_strike_open (n : Nat) (rr1 : Bool) (rr2 : Bool) (rr3 : List (Int × Int)) : Option (Bool × Bool × (List (Int × Int)) × Int × Int) :=
  (ev_strike_places n rr1 rr2 rr3).bind fun r4 => (ev_strike_Check n rr1 rr2 rr3).bind fun r5 => some (rr1, rr2, rr3, r4, r5)
set_option maxRecDepth 100000 in
set_option maxHeartbeats 2000000 in
theorem fc_strike_open {n : Nat} {rr1 : Bool} {rr2 : Bool} {rr3 : List (Int × Int)} {r : Bool × Bool × (List (Int × Int)) × Int × Int} (h : ev_strike_open n rr1 rr2 rr3 = some r) : FC Try.prog 109 [.agg [.val (.bool rr1), .val (.bool rr2), .ref 0]] [.ro 0 2 (List.map en_api_Span rr3)] (.tup [.agg [.val (.bool r.1), .val (.bool r.2.1), .ref 0, .val (.int .i64 r.2.2.2.1)], .val (.int .i64 r.2.2.2.2)]) [.ro 0 2 (List.map en_api_Span r.2.2.1)] := by
  refine introJ (nz := 10) Try.func109 rfl rfl rfl (fun w0 R0 env0 => ?_)
  rw [ev_strike_open] at h
  refine TC.seq ?_
  refine TC.region ?_
  refine op0 (sp_box 1 rfl rfl rfl rfl rfl) rfl trivial rfl rfl ?_
  refine op0 (sp_alloc 2 rfl Try.zeroValue250 rfl) rfl trivial rfl rfl ?_
  refine op0 (sp_assign rfl rfl) rfl trivial rfl rfl ?_
  refine TL.nil ?_
  refine TC.seq ?_
  obtain ⟨r4, h1, h⟩ := bind_inv h
  obtain ⟨r5, h2, h⟩ := bind_inv h
  refine drawJ 6 [⟨.agg [.val (.bool rr1), .val (.bool rr2), .ref 0], [], [.blk 1 [.val (.bool rr1), .val (.bool rr2), .ref 0] 124], []⟩, ⟨.agg [.val (.bool rr1), .val (.bool rr2), .ref 0], [], [.blk 1 [.val (.bool rr1), .val (.bool rr2), .ref 0] 124], []⟩, ⟨.val (.int .i64 r4), [], [.ro 0 2 (List.map en_api_Span rr3)], []⟩, ⟨.agg [.val (.bool rr1), .val (.bool rr2), .ref 0, .val (.int .i64 r4)], [], [], []⟩, ⟨.agg [.val (.bool rr1), .val (.bool rr2), .ref 0], [], [.blk 1 [.val (.bool rr1), .val (.bool rr2), .ref 0] 124], []⟩, ⟨.val (.int .i64 r5), [], [.ro 0 2 (List.map en_api_Span rr3)], []⟩] rfl ?_ rfl ?_ rfl ?_ ?_
  · kernel_rfl
  · kernel_rfl
  · exact DAll.op' (sp_loadBA rfl isBlk rfl vt124 rfl rfl) trivial rfl (From.ok (ps := [(none, 1)]) ⟨⟨rfl, rfl⟩, trivial⟩) (DAll.op' (sp_loadBA rfl isBlk rfl vt124 rfl rfl) trivial rfl (From.ok (ps := [(none, 1)]) ⟨⟨rfl, rfl⟩, trivial⟩) (DAll.op' (sp_call (avs := [.agg [.val (.bool rr1), .val (.bool rr2), .ref 0]]) (need := [.ro 0 2 (List.map en_api_Span rr3)]) (v := .val (.int .i64 r4)) (news := []) rfl rfl rfl Try.call197 (atJ [] [] (fc_strike_places h1) rfl rfl) (.inl (roAll rfl))) trivial rfl (From.ok (ps := [(none, 2)]) ⟨⟨rfl, rfl⟩, trivial⟩) (DAll.op' (sp_build (qs := [(0, .agg [.val (.bool rr1), .val (.bool rr2), .ref 0]), (1, .val (.int .i64 r4))]) rfl bt250 rfl rfl rfl rfl) trivial rfl (From.ok (ps := []) trivial) (DAll.op' (sp_loadBA rfl isBlk rfl vt124 rfl rfl) trivial rfl (From.ok (ps := [(none, 1)]) ⟨⟨rfl, rfl⟩, trivial⟩) (DAll.op' (sp_call (avs := [.agg [.val (.bool rr1), .val (.bool rr2), .ref 0]]) (need := [.ro 0 2 (List.map en_api_Span rr3)]) (v := .val (.int .i64 r5)) (news := []) rfl rfl rfl Try.call198 (atJ [] [] (fc_strike_Check h2) rfl rfl) (.inl (roAll rfl))) trivial rfl (From.ok (ps := [(none, 2)]) ⟨⟨rfl, rfl⟩, trivial⟩) (.nil))))))
  refine stoB 0 (cells' := [.val (.bool rr1), .val (.bool rr2), .ref 0, .val (.int .i64 r4)]) rfl rfl trivial rfl rfl rfl rfl vt250 rfl rfl rfl ?_
  refine op0 (sp_assign rfl rfl) rfl trivial rfl rfl ?_
  refine TL.nil ?_
  cases h
  exact retJ [] (.cells rfl (mem_at 0 rfl) isBlk vt250 rfl rfl (.tmp rfl .nil)) rfl ⟨mem_at 2 rfl, trivial⟩ rfl rfl
/- strike_isSlot -/
def ev_strike_isSlot (n : Nat) (nn1 : Int) : Option Bool :=
  (ev_strike_within n 0 2000000 ([nn1] : List Int)).bind fun r2 => some r2
set_option maxRecDepth 100000 in
set_option maxHeartbeats 2000000 in
theorem fc_strike_isSlot {n : Nat} {nn1 : Int} {r : Bool} (h : ev_strike_isSlot n nn1 = some r) : FC Try.prog 110 [.val (.int .i64 nn1)] [] (.val (.bool r)) [] := by
  refine introJ (nz := 6) Try.func110 rfl rfl rfl (fun w0 R0 env0 => ?_)
  rw [ev_strike_isSlot] at h
  refine TC.seq ?_
  refine TC.region ?_
  refine op0 (sp_assign rfl rfl) rfl trivial rfl rfl ?_
  refine TL.nil ?_
  refine TC.seq ?_
  refine TC.region ?_
  refine op0 (sp_move rfl rfl) rfl trivial rfl rfl ?_
  refine op0 (sp_buildSlice (qs := [.val (.int .i64 nn1)]) (need := []) (els := List.map en_int ([nn1] : List Int)) 0 rfl sl37 (by decide) (by decide) rfl rfl rfl (.v (.nil)) (map_len fun _ => rfl) rfl rfl rfl) rfl trivial rfl rfl ?_
  obtain ⟨r2, h1, h⟩ := bind_inv h
  refine op1 0 rfl (sp_call (avs := [.val (.int .i64 0), .val (.int .i64 2000000), .ref 0]) (need := [.row 0 3 1 (List.map en_int ([nn1] : List Int))]) (v := .val (.bool r2)) (news := []) rfl rfl rfl Try.call199 (atJ [] [] (fc_strike_within h1) rfl rfl) (.inr (fun x hx => nomatch hx))) rfl trivial rfl rfl ?_
  refine op0 (sp_assign rfl rfl) rfl trivial rfl rfl ?_
  refine TL.nil ?_
  cases h
  exact retJ [] (.tmp rfl .nil) rfl trivial rfl rfl
/- strike_train_isSilent_1 -/
def ev_strike_train_isSilent_1 (n : Nat) (s1 : Int) (s2 : Int) (c3 : Int) : Option Bool :=
  (ev_strike_within n s1 s2 ([c3] : List Int)).bind fun r4 => some r4
set_option maxRecDepth 100000 in
set_option maxHeartbeats 2000000 in
theorem fc_strike_train_isSilent_1 {n : Nat} {s1 : Int} {s2 : Int} {c3 : Int} {r : Bool} (h : ev_strike_train_isSilent_1 n s1 s2 c3 = some r) : FC Try.prog 257 [.agg [.val (.int .i64 s1), .val (.int .i64 s2)], .ptr 0 0] [.rob 0 [.val (.int .i64 c3)] 3] (.val (.bool r)) [] := by
  refine introJ (nz := 11) Try.func257 rfl rfl rfl (fun w0 R0 env0 => ?_)
  rw [ev_strike_train_isSilent_1] at h
  refine TC.seq ?_
  refine TC.region ?_
  refine op0 (sp_box 1 rfl rfl rfl rfl rfl) rfl trivial rfl rfl ?_
  refine op0 (sp_assign rfl rfl) rfl trivial rfl rfl ?_
  refine TL.nil ?_
  refine TC.seq ?_
  refine TC.region ?_
  refine op1 0 rfl (sp_fieldAddrB rfl isBlk rfl ft26_0 vt3 (by decide)) rfl trivial rfl rfl ?_
  refine op1 0 rfl (sp_loadB rfl isBlk rfl vt3 rfl) rfl trivial rfl rfl ?_
  refine op1 0 rfl (sp_fieldAddrB rfl isBlk rfl ft26_1 vt3 (by decide)) rfl trivial rfl rfl ?_
  refine op1 0 rfl (sp_loadB rfl isBlk rfl vt3 rfl) rfl trivial rfl rfl ?_
  refine op1 1 rfl (sp_loadB rfl isRob rfl vt3 rfl) rfl trivial rfl rfl ?_
  refine op0 (sp_buildSlice (qs := [.val (.int .i64 c3)]) (need := []) (els := List.map en_int ([c3] : List Int)) 2 rfl sl37 (by decide) (by decide) rfl rfl rfl (.v (.nil)) (map_len fun _ => rfl) rfl rfl rfl) rfl trivial rfl rfl ?_
  obtain ⟨r4, h1, h⟩ := bind_inv h
  refine op1 0 rfl (sp_call (avs := [.val (.int .i64 s1), .val (.int .i64 s2), .ref 2]) (need := [.row 2 3 1 (List.map en_int ([c3] : List Int))]) (v := .val (.bool r4)) (news := []) rfl rfl rfl Try.call199 (atJ [(0, 2)] [] (fc_strike_within h1) rfl rfl) (.inr (fun x hx => nomatch hx))) rfl trivial rfl rfl ?_
  refine op0 (sp_assign rfl rfl) rfl trivial rfl rfl ?_
  refine TL.nil ?_
  cases h
  exact retJ [] (.tmp rfl .nil) rfl trivial rfl rfl
/- strike_train_isSilent -/
def ev_strike_train_isSilent (n : Nat) (t1 : Bool) (t2 : Bool) (t3 : List (Int × Int)) (t4 : Int) (slot5 : Int) : Option Bool :=
  chk (in64 ((2 : Int) * t4)) <| chk (((2 : Int) * t4) != 0) <| (ev_slices_ContainsFunc_Lapi_Span_api_Span n t3 (fun a => ev_strike_train_isSilent_1 n a.1 a.2 (Int.tmod slot5 ((2 : Int) * t4)))).bind fun r6 => some r6
set_option maxRecDepth 100000 in
set_option maxHeartbeats 2000000 in
theorem fc_strike_train_isSilent {n : Nat} {t1 : Bool} {t2 : Bool} {t3 : List (Int × Int)} {t4 : Int} {slot5 : Int} {r : Bool} (h : ev_strike_train_isSilent n t1 t2 t3 t4 slot5 = some r) : FC Try.prog 200 [.agg [.val (.bool t1), .val (.bool t2), .ref 0, .val (.int .i64 t4)], .val (.int .i64 slot5)] [.ro 0 2 (List.map en_api_Span t3)] (.val (.bool r)) [] := by
  refine introJ (nz := 16) Try.func200 rfl rfl rfl (fun w0 R0 env0 => ?_)
  rw [ev_strike_train_isSilent] at h
  refine TC.seq ?_
  refine TC.region ?_
  refine op0 (sp_box 1 rfl rfl rfl rfl rfl) rfl trivial rfl rfl ?_
  refine op0 (sp_assign rfl rfl) rfl trivial rfl rfl ?_
  refine TL.nil ?_
  refine TC.seq ?_
  refine TC.region ?_
  refine op0 (sp_move rfl rfl) rfl trivial rfl rfl ?_
  refine op1 0 rfl (sp_fieldAddrB rfl isBlk rfl ft250_1 vt3 (by decide)) rfl trivial rfl rfl ?_
  refine op1 0 rfl (sp_loadB rfl isBlk rfl vt3 rfl) rfl trivial rfl rfl ?_
  obtain ⟨h1, h⟩ := chk_inv h
  refine op0 (sp_mul rfl rfl rfl h1) rfl trivial rfl rfl ?_
  obtain ⟨h2, h⟩ := chk_inv h
  refine op0 (sp_rem rfl rfl rfl h2) rfl trivial rfl rfl ?_
  refine op0 (sp_alloc 2 rfl Try.zeroValue3 rfl) rfl trivial rfl rfl ?_
  refine stoB 0 (cells' := [.val (.int .i64 (Int.tmod slot5 ((2 : Int) * t4)))]) rfl rfl trivial rfl rfl rfl rfl vt3 rfl rfl rfl ?_
  refine TL.nil ?_
  refine TC.seq ?_
  refine TC.region ?_
  refine op1 1 rfl (sp_fieldAddrB rfl isBlk rfl ft250_0 vt124 (by decide)) rfl trivial rfl rfl ?_
  refine op1 1 rfl (sp_fieldAddrB rfl isBlk rfl ft124_2 vt23 (by decide)) rfl trivial rfl rfl ?_
  refine op1 1 rfl (sp_loadB rfl isBlk rfl vt23 rfl) rfl trivial rfl rfl ?_
  refine op0 (sp_makeFunc (fi := []) (ca := [.tmp 5]) (fa := []) (cb := [.ptr 2 0]) rfl rfl rfl) rfl trivial rfl rfl ?_
  obtain ⟨r6, h3, h⟩ := bind_inv h
  refine opN (need := [.ro 0 2 (List.map en_api_Span t3), .blk 2 [.val (.int .i64 (Int.tmod slot5 ((2 : Int) * t4)))] 3]) [2, 0] ⟨rfl, rfl, trivial⟩ (sp_call (avs := [.ref 0, .fn 257 [] [.ptr 2 0]]) (need := [.ro 0 2 (List.map en_api_Span t3), .blk 2 [.val (.int .i64 (Int.tmod slot5 ((2 : Int) * t4)))] 3]) (v := .val (.bool r6)) (news := []) rfl rfl rfl Try.call226 (FC.needJ (need := [.ro 0 2 (List.map en_api_Span t3), .rob 2 [.val (.int .i64 (Int.tmod slot5 ((2 : Int) * t4)))] 3]) (need' := [.rob 2 [.val (.int .i64 (Int.tmod slot5 ((2 : Int) * t4)))] 3, .ro 0 2 (List.map en_api_Span t3)]) [1, 0] ⟨rfl, rfl, trivial⟩ (FC.fnArg (args := [.ref 0, .ref 3]) (needC := [.rob 2 [.val (.int .i64 (Int.tmod slot5 ((2 : Int) * t4)))] 3]) (need := [.ro 0 2 (List.map en_api_Span t3)]) 1 (first := []) (caps := [.ptr 2 0]) (FC.needJ (need := [.any 3 (D.fn Try.prog fe_funcapi_Span_bool fd_funcapi_Span_bool (fun a => ev_strike_train_isSilent_1 n a.1 a.2 (Int.tmod slot5 ((2 : Int) * t4)))), .ro 0 2 (List.map en_api_Span t3)]) (need' := [.ro 0 2 (List.map en_api_Span t3), .any 3 (D.fn Try.prog fe_funcapi_Span_bool fd_funcapi_Span_bool (fun a => ev_strike_train_isSilent_1 n a.1 a.2 (Int.tmod slot5 ((2 : Int) * t4))))]) [1, 0] ⟨rfl, rfl, trivial⟩ (atJ [(1, 3)] [] (fc_slices_ContainsFunc_Lapi_Span_api_Span h3) rfl rfl)) rfl Try.call257 (fun a b hab => atJ [(0, 2)] [] (fc_strike_train_isSilent_1 hab) rfl rfl) rfl (fun _ => rfl) (fun _ => rfl) rfl rfl rfl rfl rfl rfl rfl)) (.inr (fun x hx => nomatch hx))) rfl trivial rfl rfl ?_
  refine op0 (sp_assign rfl rfl) rfl trivial rfl rfl ?_
  refine TL.nil ?_
  cases h
  exact retJ [] (.tmp rfl .nil) rfl trivial rfl rfl
/- strike_train_at -/
def ev_strike_train_at (n : Nat) (t1 : Bool) (t2 : Bool) (t3 : List (Int × Int)) (t4 : Int) (place5 : Int) : Option Int :=
  cond t1 (cond ((Int.tmod place5 2) == 1) (some 1) (chk (in64 (Int.tdiv place5 2)) <| cond ((Int.tdiv place5 2) == 0) (some 12) (some (Int.tdiv place5 2)))) (cond (place5 == 0) (some 12) (some place5))
set_option maxRecDepth 100000 in
set_option maxHeartbeats 2000000 in
theorem fc_strike_train_at {n : Nat} {t1 : Bool} {t2 : Bool} {t3 : List (Int × Int)} {t4 : Int} {place5 : Int} {r : Int} (h : ev_strike_train_at n t1 t2 t3 t4 place5 = some r) : FC Try.prog 201 [.agg [.val (.bool t1), .val (.bool t2), .ref 0, .val (.int .i64 t4)], .val (.int .i64 place5)] [.ro 0 2 (List.map en_api_Span t3)] (.val (.int .i64 r)) [] := by
  refine introJ (nz := 18) Try.func201 rfl rfl rfl (fun w0 R0 env0 => ?_)
  rw [ev_strike_train_at] at h
  refine TC.seq ?_
  refine TC.region ?_
  refine op0 (sp_box 1 rfl rfl rfl rfl rfl) rfl trivial rfl rfl ?_
  refine op0 (sp_assign rfl rfl) rfl trivial rfl rfl ?_
  refine TL.nil ?_
  refine TC.seq ?_
  refine TC.region ?_
  refine op0 (sp_move rfl rfl) rfl trivial rfl rfl ?_
  refine op0 (sp_assign rfl rfl) rfl trivial rfl rfl ?_
  refine TL.nil ?_
  refine TC.seq ?_
  refine TC.seq ?_
  refine TC.region ?_
  refine op1 0 rfl (sp_fieldAddrB rfl isBlk rfl ft250_0 vt124 (by decide)) rfl trivial rfl rfl ?_
  refine op1 0 rfl (sp_fieldAddrB rfl isBlk rfl ft124_0 vt4 (by decide)) rfl trivial rfl rfl ?_
  refine op1 0 rfl (sp_loadB rfl isBlk rfl vt4 rfl) rfl trivial rfl rfl ?_
  refine TL.nil ?_
  refine TC.cond (b := t1) rfl (fun h1 => ?_) (fun h1 => ?_)
  · have h := cond_t h h1
    refine TC.seq ?_
    refine TC.seq ?_
    refine TC.region ?_
    refine op0 (sp_move rfl rfl) rfl trivial rfl rfl ?_
    refine op0 (sp_rem rfl rfl rfl (by decide)) rfl trivial rfl rfl ?_
    refine op0 (sp_eql rfl rfl rfl) rfl trivial rfl rfl ?_
    refine TL.nil ?_
    refine TC.cond (b := ((Int.tmod place5 2) == 1)) rfl (fun h2 => ?_) (fun h2 => ?_)
    · have h := cond_t h h2
      refine TC.seq ?_
      refine TC.region ?_
      refine op0 (sp_assign rfl rfl) rfl trivial rfl rfl ?_
      refine TL.nil ?_
      cases h
      exact retJ [] (.tmp rfl .nil) rfl trivial rfl rfl
    · have h := cond_f h h2
      refine TC.skip ?_
      refine TC.region ?_
      refine op0 (sp_move rfl rfl) rfl trivial rfl rfl ?_
      obtain ⟨h3, h⟩ := chk_inv h
      refine op0 (sp_quo rfl rfl rfl (by decide) h3) rfl trivial rfl rfl ?_
      refine op0 (sp_assign rfl rfl) rfl trivial rfl rfl ?_
      refine TL.nil ?_
      refine TC.seq ?_
      refine TC.seq ?_
      refine TC.region ?_
      refine op0 (sp_move rfl rfl) rfl trivial rfl rfl ?_
      refine op0 (sp_eql rfl rfl rfl) rfl trivial rfl rfl ?_
      refine TL.nil ?_
      refine TC.cond (b := ((Int.tdiv place5 2) == 0)) rfl (fun h4 => ?_) (fun h4 => ?_)
      · have h := cond_t h h4
        refine TC.seq ?_
        refine TC.region ?_
        refine op0 (sp_assign rfl rfl) rfl trivial rfl rfl ?_
        refine TL.nil ?_
        cases h
        exact retJ [] (.tmp rfl .nil) rfl trivial rfl rfl
      · have h := cond_f h h4
        refine TC.skip ?_
        refine TC.seq ?_
        refine TC.region ?_
        refine op0 (sp_move rfl rfl) rfl trivial rfl rfl ?_
        refine op0 (sp_assign rfl rfl) rfl trivial rfl rfl ?_
        refine TL.nil ?_
        cases h
        exact retJ [] (.tmp rfl .nil) rfl trivial rfl rfl
  · have h := cond_f h h1
    refine TC.skip ?_
    refine TC.seq ?_
    refine TC.seq ?_
    refine TC.region ?_
    refine op0 (sp_move rfl rfl) rfl trivial rfl rfl ?_
    refine op0 (sp_eql rfl rfl rfl) rfl trivial rfl rfl ?_
    refine TL.nil ?_
    refine TC.cond (b := (place5 == 0)) rfl (fun h5 => ?_) (fun h5 => ?_)
    · have h := cond_t h h5
      refine TC.seq ?_
      refine TC.region ?_
      refine op0 (sp_assign rfl rfl) rfl trivial rfl rfl ?_
      refine TL.nil ?_
      cases h
      exact retJ [] (.tmp rfl .nil) rfl trivial rfl rfl
    · have h := cond_f h h5
      refine TC.skip ?_
      refine TC.seq ?_
      refine TC.region ?_
      refine op0 (sp_move rfl rfl) rfl trivial rfl rfl ?_
      refine op0 (sp_assign rfl rfl) rfl trivial rfl rfl ?_
      refine TL.nil ?_
      cases h
      exact retJ [] (.tmp rfl .nil) rfl trivial rfl rfl
/- strike_train_blows -/
def ev_strike_train_blows (n : Nat) (t1 : Bool) (t2 : Bool) (t3 : List (Int × Int)) (t4 : Int) (slot5 : Int) (place6 : Int) : Option Int :=
  (ev_strike_train_isSilent n t1 t2 t3 t4 slot5).bind fun r7 => cond r7 (some 0) ((ev_strike_train_at n t1 t2 t3 t4 place6).bind fun r8 => some r8)
set_option maxRecDepth 100000 in
set_option maxHeartbeats 2000000 in
theorem fc_strike_train_blows {n : Nat} {t1 : Bool} {t2 : Bool} {t3 : List (Int × Int)} {t4 : Int} {slot5 : Int} {place6 : Int} {r : Int} (h : ev_strike_train_blows n t1 t2 t3 t4 slot5 place6 = some r) : FC Try.prog 111 [.agg [.val (.bool t1), .val (.bool t2), .ref 0, .val (.int .i64 t4)], .val (.int .i64 slot5), .val (.int .i64 place6)] [.ro 0 2 (List.map en_api_Span t3)] (.val (.int .i64 r)) [] := by
  refine introJ (nz := 13) Try.func111 rfl rfl rfl (fun w0 R0 env0 => ?_)
  rw [ev_strike_train_blows] at h
  refine TC.seq ?_
  refine TC.region ?_
  refine op0 (sp_box 1 rfl rfl rfl rfl rfl) rfl trivial rfl rfl ?_
  refine op0 (sp_assign rfl rfl) rfl trivial rfl rfl ?_
  refine TL.nil ?_
  refine TC.seq ?_
  refine TC.seq ?_
  refine TC.region ?_
  refine op1 0 rfl (sp_loadBA rfl isBlk rfl vt250 rfl rfl) rfl trivial rfl rfl ?_
  refine op0 (sp_move rfl rfl) rfl trivial rfl rfl ?_
  obtain ⟨r7, h1, h⟩ := bind_inv h
  refine op1 1 rfl (sp_call (avs := [.agg [.val (.bool t1), .val (.bool t2), .ref 0, .val (.int .i64 t4)], .val (.int .i64 slot5)]) (need := [.ro 0 2 (List.map en_api_Span t3)]) (v := .val (.bool r7)) (news := []) rfl rfl rfl Try.call200 (atJ [] [] (fc_strike_train_isSilent h1) rfl rfl) (.inl (roAll rfl))) rfl trivial rfl rfl ?_
  refine TL.nil ?_
  refine TC.cond (b := r7) rfl (fun h2 => ?_) (fun h2 => ?_)
  · have h := cond_t h h2
    refine TC.seq ?_
    refine TC.region ?_
    refine op0 (sp_assign rfl rfl) rfl trivial rfl rfl ?_
    refine TL.nil ?_
    cases h
    exact retJ [] (.tmp rfl .nil) rfl trivial rfl rfl
  · have h := cond_f h h2
    refine TC.skip ?_
    refine TC.seq ?_
    refine TC.region ?_
    refine op1 0 rfl (sp_loadBA rfl isBlk rfl vt250 rfl rfl) rfl trivial rfl rfl ?_
    refine op0 (sp_move rfl rfl) rfl trivial rfl rfl ?_
    obtain ⟨r8, h3, h⟩ := bind_inv h
    refine op1 1 rfl (sp_call (avs := [.agg [.val (.bool t1), .val (.bool t2), .ref 0, .val (.int .i64 t4)], .val (.int .i64 place6)]) (need := [.ro 0 2 (List.map en_api_Span t3)]) (v := .val (.int .i64 r8)) (news := []) rfl rfl rfl Try.call201 (atJ [] [] (fc_strike_train_at h3) rfl rfl) (.inl (roAll rfl))) rfl trivial rfl rfl ?_
    refine op0 (sp_assign rfl rfl) rfl trivial rfl rfl ?_
    refine TL.nil ?_
    cases h
    exact retJ [] (.tmp rfl .nil) rfl trivial rfl rfl
/- strike_Blows -/
def ev_strike_Blows (n : Nat) (rr1 : Bool) (rr2 : Bool) (rr3 : List (Int × Int)) (slot4 : Int) : Option (Int × Int) :=
  (ev_strike_open n rr1 rr2 rr3).bind fun r5 => cond (r5.2.2.2.2 != 0) (some (0, r5.2.2.2.2)) ((ev_strike_isSlot n slot4).bind fun r6 => cond (!r6) (some (0, 3)) (chk (r5.2.2.2.1 != 0) <| (ev_strike_train_blows n r5.1 r5.2.1 r5.2.2.1 r5.2.2.2.1 slot4 (Int.tmod slot4 r5.2.2.2.1)).bind fun r7 => some (r7, 0)))
set_option maxRecDepth 100000 in
set_option maxHeartbeats 2000000 in
theorem fc_strike_Blows {n : Nat} {rr1 : Bool} {rr2 : Bool} {rr3 : List (Int × Int)} {slot4 : Int} {r : Int × Int} (h : ev_strike_Blows n rr1 rr2 rr3 slot4 = some r) : FC Try.prog 45 [.agg [.val (.bool rr1), .val (.bool rr2), .ref 0], .val (.int .i64 slot4)] [.ro 0 2 (List.map en_api_Span rr3)] (.tup [.val (.int .i64 r.1), .val (.int .i64 r.2)]) [] := by
  refine introJ (nz := 28) Try.func45 rfl rfl rfl (fun w0 R0 env0 => ?_)
  rw [ev_strike_Blows] at h
  refine TC.seq ?_
  refine TC.region ?_
  refine op0 (sp_box 1 rfl rfl rfl rfl rfl) rfl trivial rfl rfl ?_
  refine op0 (sp_assign rfl rfl) rfl trivial rfl rfl ?_
  refine op0 (sp_assign rfl rfl) rfl trivial rfl rfl ?_
  refine TL.nil ?_
  refine TC.seq ?_
  refine TC.region ?_
  refine op1 0 rfl (sp_loadBA rfl isBlk rfl vt124 rfl rfl) rfl trivial rfl rfl ?_
  obtain ⟨r5, h1, h⟩ := bind_inv h
  refine op1 1 rfl (sp_call (avs := [.agg [.val (.bool rr1), .val (.bool rr2), .ref 0]]) (need := [.ro 0 2 (List.map en_api_Span rr3)]) (v := .tup [.agg [.val (.bool r5.1), .val (.bool r5.2.1), .ref 2, .val (.int .i64 r5.2.2.2.1)], .val (.int .i64 r5.2.2.2.2)]) (news := [.ro 2 2 (List.map en_api_Span r5.2.2.1)]) rfl rfl rfl Try.call109 (atJ [] [(0, 2)] (fc_strike_open h1) rfl rfl) (.inl (roAll rfl))) rfl trivial rfl rfl ?_
  refine op0 (sp_move rfl rfl) rfl trivial rfl rfl ?_
  refine op0 (sp_extract rfl rfl rfl) rfl trivial rfl rfl ?_
  refine op0 (sp_extract rfl rfl rfl) rfl trivial rfl rfl ?_
  refine op0 (sp_alloc 3 rfl Try.zeroValue250 rfl) rfl trivial rfl rfl ?_
  refine stoB 0 (cells' := [.val (.bool r5.1), .val (.bool r5.2.1), .ref 2, .val (.int .i64 r5.2.2.2.1)]) rfl rfl trivial rfl rfl rfl rfl vt250 rfl rfl rfl ?_
  refine op0 (sp_assign rfl rfl) rfl trivial rfl rfl ?_
  refine TL.nil ?_
  refine TC.seq ?_
  refine TC.block ?_
  refine TC.seq ?_
  refine TC.region ?_
  refine op0 (sp_move rfl rfl) rfl trivial rfl rfl ?_
  refine op0 (sp_neq rfl rfl rfl) rfl trivial rfl rfl ?_
  refine op0 (sp_assign rfl rfl) rfl trivial rfl rfl ?_
  refine TL.nil ?_
  refine TC.cond (b := (r5.2.2.2.2 != 0)) rfl (fun h2 => ?_) (fun h2 => ?_)
  · have h := cond_t h h2
    refine TC.seq ?_
    refine TC.region ?_
    refine op0 (sp_move rfl rfl) rfl trivial rfl rfl ?_
    refine op0 (sp_assign rfl rfl) rfl trivial rfl rfl ?_
    refine op0 (sp_assign rfl rfl) rfl trivial rfl rfl ?_
    refine TL.nil ?_
    cases h
    exact retJ [] (.tmp rfl (.tmp rfl .nil)) rfl trivial rfl rfl
  · have h := cond_f h h2
    refine TC.seq ?_
    refine TC.region ?_
    refine op0 (sp_move rfl rfl) rfl trivial rfl rfl ?_
    obtain ⟨r6, h3, h⟩ := bind_inv h
    refine op0 (sp_call (avs := [.val (.int .i64 slot4)]) (need := []) (v := .val (.bool r6)) (news := []) rfl rfl rfl Try.call110 (atJ [] [] (fc_strike_isSlot h3) rfl rfl) (.inl (roAll rfl))) rfl trivial rfl rfl ?_
    refine op0 (sp_not rfl rfl) rfl trivial rfl rfl ?_
    refine op0 (sp_assign rfl rfl) rfl trivial rfl rfl ?_
    refine TL.nil ?_
    refine TC.cond (b := (!r6)) rfl (fun h4 => ?_) (fun h4 => ?_)
    · have h := cond_t h h4
      refine TC.seq ?_
      refine TC.region ?_
      refine op0 (sp_assign rfl rfl) rfl trivial rfl rfl ?_
      refine op0 (sp_assign rfl rfl) rfl trivial rfl rfl ?_
      refine TL.nil ?_
      cases h
      exact retJ [] (.tmp rfl (.tmp rfl .nil)) rfl trivial rfl rfl
    · have h := cond_f h h4
      refine TC.skip ?_
      refine TC.inBlock ?_
      refine TC.seq ?_
      obtain ⟨h5, h⟩ := chk_inv h
      refine drawJ 6 [⟨.agg [.val (.bool r5.1), .val (.bool r5.2.1), .ref 2, .val (.int .i64 r5.2.2.2.1)], [], [.blk 3 [.val (.bool r5.1), .val (.bool r5.2.1), .ref 2, .val (.int .i64 r5.2.2.2.1)] 250], []⟩, ⟨.val (.int .i64 slot4), [], [], []⟩, ⟨.val (.int .i64 slot4), [], [], []⟩, ⟨.ptr 3 3, [], [.blk 3 [.val (.bool r5.1), .val (.bool r5.2.1), .ref 2, .val (.int .i64 r5.2.2.2.1)] 250], []⟩, ⟨.val (.int .i64 r5.2.2.2.1), [], [.blk 3 [.val (.bool r5.1), .val (.bool r5.2.1), .ref 2, .val (.int .i64 r5.2.2.2.1)] 250], []⟩, ⟨.val (.int .i64 (Int.tmod slot4 r5.2.2.2.1)), [], [], []⟩] rfl ?_ rfl ?_ rfl ?_ ?_
      · kernel_rfl
      · kernel_rfl
      · exact DAll.op' (sp_loadBA rfl isBlk rfl vt250 rfl rfl) trivial rfl (From.ok (ps := [(none, 0)]) ⟨⟨rfl, rfl⟩, trivial⟩) (DAll.op' (sp_move rfl rfl) trivial rfl (From.ok (ps := []) trivial) (DAll.op' (sp_move rfl rfl) trivial rfl (From.ok (ps := []) trivial) (DAll.op' (sp_fieldAddrB rfl isBlk rfl ft250_1 vt3 (by decide)) trivial rfl (From.ok (ps := [(none, 0)]) ⟨⟨rfl, rfl⟩, trivial⟩) (DAll.op' (sp_loadB rfl isBlk rfl vt3 rfl) trivial rfl (From.ok (ps := [(none, 0)]) ⟨⟨rfl, rfl⟩, trivial⟩) (DAll.op' (sp_rem rfl rfl rfl h5) trivial rfl (From.ok (ps := []) trivial) (.nil))))))
      obtain ⟨r7, h6, h⟩ := bind_inv h
      refine op1 1 rfl (sp_call (avs := [.agg [.val (.bool r5.1), .val (.bool r5.2.1), .ref 2, .val (.int .i64 r5.2.2.2.1)], .val (.int .i64 slot4), .val (.int .i64 (Int.tmod slot4 r5.2.2.2.1))]) (need := [.ro 2 2 (List.map en_api_Span r5.2.2.1)]) (v := .val (.int .i64 r7)) (news := []) rfl rfl rfl Try.call111 (atJ [(0, 2)] [] (fc_strike_train_blows h6) rfl rfl) (.inl (roAll rfl))) rfl trivial rfl rfl ?_
      refine op0 (sp_assign rfl rfl) rfl trivial rfl rfl ?_
      refine op0 (sp_assign rfl rfl) rfl trivial rfl rfl ?_
      refine TL.nil ?_
      cases h
      exact retJ [] (.tmp rfl (.tmp rfl .nil)) rfl trivial rfl rfl
/- strike_begin -/
def ev_strike_begin (n : Nat) (rr1 : Bool) (rr2 : Bool) (rr3 : List (Int × Int)) (slot4 : Int) (place5 : Int) : Option (Bool × Bool × (List (Int × Int)) × Int × Int) :=
  (ev_strike_open n rr1 rr2 rr3).bind fun r6 => cond (r6.2.2.2.2 != 0) (some (r6.1, r6.2.1, r6.2.2.1, r6.2.2.2.1, r6.2.2.2.2)) ((ev_strike_isSlot n slot4).bind fun r7 => cond (!r7) (some (r6.1, r6.2.1, r6.2.2.1, r6.2.2.2.1, 3)) (chk (in64 (r6.2.2.2.1 - 1)) <| (ev_strike_within n 0 (r6.2.2.2.1 - 1) ([place5] : List Int)).bind fun r8 => cond (!r8) (cond (!r8) (some (r6.1, r6.2.1, r6.2.2.1, r6.2.2.2.1, 2)) (some (r6.1, r6.2.1, r6.2.2.1, r6.2.2.2.1, 0))) (cond r6.2.1 (chk (r6.2.2.2.1 != 0) <| cond (place5 != (Int.tmod slot4 r6.2.2.2.1)) (some (r6.1, r6.2.1, r6.2.2.1, r6.2.2.2.1, 2)) (some (r6.1, r6.2.1, r6.2.2.1, r6.2.2.2.1, 0))) (some (r6.1, r6.2.1, r6.2.2.1, r6.2.2.2.1, 0)))))
set_option maxRecDepth 100000 in
set_option maxHeartbeats 2000000 in
theorem fc_strike_begin {n : Nat} {rr1 : Bool} {rr2 : Bool} {rr3 : List (Int × Int)} {slot4 : Int} {place5 : Int} {r : Bool × Bool × (List (Int × Int)) × Int × Int} (h : ev_strike_begin n rr1 rr2 rr3 slot4 place5 = some r) : FC Try.prog 112 [.agg [.val (.bool rr1), .val (.bool rr2), .ref 0], .val (.int .i64 slot4), .val (.int .i64 place5)] [.ro 0 2 (List.map en_api_Span rr3)] (.tup [.agg [.val (.bool r.1), .val (.bool r.2.1), .ref 0, .val (.int .i64 r.2.2.2.1)], .val (.int .i64 r.2.2.2.2)]) [.ro 0 2 (List.map en_api_Span r.2.2.1)] := by
  refine introJ (nz := 46) Try.func112 rfl rfl rfl (fun w0 R0 env0 => ?_)
  rw [ev_strike_begin] at h
  refine TC.seq ?_
  refine TC.region ?_
  refine op0 (sp_box 1 rfl rfl rfl rfl rfl) rfl trivial rfl rfl ?_
  refine op0 (sp_alloc 2 rfl Try.zeroValue250 rfl) rfl trivial rfl rfl ?_
  refine op0 (sp_assign rfl rfl) rfl trivial rfl rfl ?_
  refine TL.nil ?_
  refine TC.seq ?_
  refine TC.region ?_
  refine op1 1 rfl (sp_loadBA rfl isBlk rfl vt124 rfl rfl) rfl trivial rfl rfl ?_
  obtain ⟨r6, h1, h⟩ := bind_inv h
  refine op1 2 rfl (sp_call (avs := [.agg [.val (.bool rr1), .val (.bool rr2), .ref 0]]) (need := [.ro 0 2 (List.map en_api_Span rr3)]) (v := .tup [.agg [.val (.bool r6.1), .val (.bool r6.2.1), .ref 3, .val (.int .i64 r6.2.2.2.1)], .val (.int .i64 r6.2.2.2.2)]) (news := [.ro 3 2 (List.map en_api_Span r6.2.2.1)]) rfl rfl rfl Try.call109 (atJ [] [(0, 3)] (fc_strike_open h1) rfl rfl) (.inl (roAll rfl))) rfl trivial rfl rfl ?_
  refine op0 (sp_move rfl rfl) rfl trivial rfl rfl ?_
  refine op0 (sp_extract rfl rfl rfl) rfl trivial rfl rfl ?_
  refine op0 (sp_extract rfl rfl rfl) rfl trivial rfl rfl ?_
  refine op0 (sp_alloc 4 rfl Try.zeroValue250 rfl) rfl trivial rfl rfl ?_
  refine stoB 0 (cells' := [.val (.bool r6.1), .val (.bool r6.2.1), .ref 3, .val (.int .i64 r6.2.2.2.1)]) rfl rfl trivial rfl rfl rfl rfl vt250 rfl rfl rfl ?_
  refine op0 (sp_assign rfl rfl) rfl trivial rfl rfl ?_
  refine TL.nil ?_
  refine TC.seq ?_
  refine TC.block ?_
  refine TC.seq ?_
  refine TC.region ?_
  refine op0 (sp_move rfl rfl) rfl trivial rfl rfl ?_
  refine op0 (sp_neq rfl rfl rfl) rfl trivial rfl rfl ?_
  refine op0 (sp_assign rfl rfl) rfl trivial rfl rfl ?_
  refine TL.nil ?_
  refine TC.cond (b := (r6.2.2.2.2 != 0)) rfl (fun h2 => ?_) (fun h2 => ?_)
  · have h := cond_t h h2
    refine TC.seq ?_
    refine TC.region ?_
    refine op1 0 rfl (sp_loadBA rfl isBlk rfl vt250 rfl rfl) rfl trivial rfl rfl ?_
    refine op0 (sp_move rfl rfl) rfl trivial rfl rfl ?_
    refine stoB 2 (cells' := [.val (.bool r6.1), .val (.bool r6.2.1), .ref 3, .val (.int .i64 r6.2.2.2.1)]) rfl rfl trivial rfl rfl rfl rfl vt250 rfl rfl rfl ?_
    refine op0 (sp_assign rfl rfl) rfl trivial rfl rfl ?_
    refine TL.nil ?_
    cases h
    exact retJ [(0, 3)] (.cells rfl (mem_at 2 rfl) isBlk vt250 rfl rfl (.tmp rfl .nil)) rfl ⟨mem_at 1 rfl, trivial⟩ rfl rfl
  · have h := cond_f h h2
    refine TC.seq ?_
    refine TC.region ?_
    refine op0 (sp_move rfl rfl) rfl trivial rfl rfl ?_
    obtain ⟨r7, h3, h⟩ := bind_inv h
    refine op0 (sp_call (avs := [.val (.int .i64 slot4)]) (need := []) (v := .val (.bool r7)) (news := []) rfl rfl rfl Try.call110 (atJ [] [] (fc_strike_isSlot h3) rfl rfl) (.inl (roAll rfl))) rfl trivial rfl rfl ?_
    refine op0 (sp_not rfl rfl) rfl trivial rfl rfl ?_
    refine op0 (sp_assign rfl rfl) rfl trivial rfl rfl ?_
    refine TL.nil ?_
    refine TC.cond (b := (!r7)) rfl (fun h4 => ?_) (fun h4 => ?_)
    · have h := cond_t h h4
      refine TC.seq ?_
      refine TC.region ?_
      refine op1 0 rfl (sp_loadBA rfl isBlk rfl vt250 rfl rfl) rfl trivial rfl rfl ?_
      refine stoB 2 (cells' := [.val (.bool r6.1), .val (.bool r6.2.1), .ref 3, .val (.int .i64 r6.2.2.2.1)]) rfl rfl trivial rfl rfl rfl rfl vt250 rfl rfl rfl ?_
      refine op0 (sp_assign rfl rfl) rfl trivial rfl rfl ?_
      refine TL.nil ?_
      cases h
      exact retJ [(0, 3)] (.cells rfl (mem_at 2 rfl) isBlk vt250 rfl rfl (.tmp rfl .nil)) rfl ⟨mem_at 1 rfl, trivial⟩ rfl rfl
    · have h := cond_f h h4
      refine TC.seq ?_
      refine TC.seq ?_
      refine TC.region ?_
      refine op1 0 rfl (sp_fieldAddrB rfl isBlk rfl ft250_1 vt3 (by decide)) rfl trivial rfl rfl ?_
      refine op1 0 rfl (sp_loadB rfl isBlk rfl vt3 rfl) rfl trivial rfl rfl ?_
      obtain ⟨h5, h⟩ := chk_inv h
      refine op0 (sp_sub rfl rfl rfl h5) rfl trivial rfl rfl ?_
      refine op0 (sp_move rfl rfl) rfl trivial rfl rfl ?_
      refine op0 (sp_buildSlice (qs := [.val (.int .i64 place5)]) (need := []) (els := List.map en_int ([place5] : List Int)) 5 rfl sl37 (by decide) (by decide) rfl rfl rfl (.v (.nil)) (map_len fun _ => rfl) rfl rfl rfl) rfl trivial rfl rfl ?_
      obtain ⟨r8, h6, h⟩ := bind_inv h
      refine op1 0 rfl (sp_call (avs := [.val (.int .i64 0), .val (.int .i64 (r6.2.2.2.1 - 1)), .ref 5]) (need := [.row 5 3 1 (List.map en_int ([place5] : List Int))]) (v := .val (.bool r8)) (news := []) rfl rfl rfl Try.call199 (atJ [(0, 5)] [] (fc_strike_within h6) rfl rfl) (.inr (fun x hx => nomatch hx))) rfl trivial rfl rfl ?_
      refine op0 (sp_not rfl rfl) rfl trivial rfl rfl ?_
      refine op0 (sp_assign rfl rfl) rfl trivial rfl rfl ?_
      refine TL.nil ?_
      refine TC.cond (b := (!r8)) rfl (fun h7 => ?_) (fun h7 => ?_)
      · have h := cond_t h h7
        refine TC.skip ?_
        refine TC.cond (b := (!r8)) rfl (fun h8 => ?_) (fun h8 => ?_)
        · have h := cond_t h h8
          refine TC.seq ?_
          refine TC.region ?_
          refine op1 1 rfl (sp_loadBA rfl isBlk rfl vt250 rfl rfl) rfl trivial rfl rfl ?_
          refine stoB 3 (cells' := [.val (.bool r6.1), .val (.bool r6.2.1), .ref 3, .val (.int .i64 r6.2.2.2.1)]) rfl rfl trivial rfl rfl rfl rfl vt250 rfl rfl rfl ?_
          refine op0 (sp_assign rfl rfl) rfl trivial rfl rfl ?_
          refine TL.nil ?_
          cases h
          exact retJ [(0, 3)] (.cells rfl (mem_at 3 rfl) isBlk vt250 rfl rfl (.tmp rfl .nil)) rfl ⟨mem_at 2 rfl, trivial⟩ rfl rfl
        · have h := cond_f h h8
          refine TC.skip ?_
          refine TC.inBlock ?_
          refine TC.seq ?_
          refine TC.region ?_
          refine op1 1 rfl (sp_loadBA rfl isBlk rfl vt250 rfl rfl) rfl trivial rfl rfl ?_
          refine stoB 3 (cells' := [.val (.bool r6.1), .val (.bool r6.2.1), .ref 3, .val (.int .i64 r6.2.2.2.1)]) rfl rfl trivial rfl rfl rfl rfl vt250 rfl rfl rfl ?_
          refine op0 (sp_assign rfl rfl) rfl trivial rfl rfl ?_
          refine TL.nil ?_
          cases h
          exact retJ [(0, 3)] (.cells rfl (mem_at 3 rfl) isBlk vt250 rfl rfl (.tmp rfl .nil)) rfl ⟨mem_at 2 rfl, trivial⟩ rfl rfl
      · have h := cond_f h h7
        refine TC.region ?_
        refine op1 1 rfl (sp_fieldAddrB rfl isBlk rfl ft250_0 vt124 (by decide)) rfl trivial rfl rfl ?_
        refine op1 1 rfl (sp_fieldAddrB rfl isBlk rfl ft124_1 vt4 (by decide)) rfl trivial rfl rfl ?_
        refine op1 1 rfl (sp_loadB rfl isBlk rfl vt4 rfl) rfl trivial rfl rfl ?_
        refine op0 (sp_move rfl rfl) rfl trivial rfl rfl ?_
        rcases cond_cases h with ⟨h9, h⟩ | ⟨h9, h⟩
        · refine (boolLit 36 rfl h9).2 ?_
          refine op0 (sp_move rfl rfl) rfl ⟨_, rfl, rfl⟩ rfl rfl ?_
          refine op0 (sp_move rfl rfl) rfl ⟨_, rfl, rfl⟩ rfl rfl ?_
          refine op1 1 rfl (sp_fieldAddrB rfl isBlk rfl ft250_1 vt3 (by decide)) rfl ⟨_, rfl, rfl⟩ rfl rfl ?_
          refine op1 1 rfl (sp_loadB rfl isBlk rfl vt3 rfl) rfl ⟨_, rfl, rfl⟩ rfl rfl ?_
          obtain ⟨h10, h⟩ := chk_inv h
          refine op0 (sp_rem rfl rfl rfl h10) rfl ⟨_, rfl, rfl⟩ rfl rfl ?_
          refine op0 (sp_neq rfl rfl rfl) rfl ⟨_, rfl, rfl⟩ rfl rfl ?_
          refine op0 (sp_pickT rfl rfl rfl) rfl trivial rfl rfl ?_
          refine op0 (sp_assign rfl rfl) rfl trivial rfl rfl ?_
          refine TL.nil ?_
          refine TC.cond (b := (place5 != (Int.tmod slot4 r6.2.2.2.1))) rfl (fun h11 => ?_) (fun h11 => ?_)
          · have h := cond_t h h11
            refine TC.seq ?_
            refine TC.region ?_
            refine op1 1 rfl (sp_loadBA rfl isBlk rfl vt250 rfl rfl) rfl trivial rfl rfl ?_
            refine stoB 3 (cells' := [.val (.bool r6.1), .val (.bool r6.2.1), .ref 3, .val (.int .i64 r6.2.2.2.1)]) rfl rfl trivial rfl rfl rfl rfl vt250 rfl rfl rfl ?_
            refine op0 (sp_assign rfl rfl) rfl trivial rfl rfl ?_
            refine TL.nil ?_
            cases h
            exact retJ [(0, 3)] (.cells rfl (mem_at 3 rfl) isBlk vt250 rfl rfl (.tmp rfl .nil)) rfl ⟨mem_at 2 rfl, trivial⟩ rfl rfl
          · have h := cond_f h h11
            refine TC.skip ?_
            refine TC.inBlock ?_
            refine TC.seq ?_
            refine TC.region ?_
            refine op1 1 rfl (sp_loadBA rfl isBlk rfl vt250 rfl rfl) rfl trivial rfl rfl ?_
            refine stoB 3 (cells' := [.val (.bool r6.1), .val (.bool r6.2.1), .ref 3, .val (.int .i64 r6.2.2.2.1)]) rfl rfl trivial rfl rfl rfl rfl vt250 rfl rfl rfl ?_
            refine op0 (sp_assign rfl rfl) rfl trivial rfl rfl ?_
            refine TL.nil ?_
            cases h
            exact retJ [(0, 3)] (.cells rfl (mem_at 3 rfl) isBlk vt250 rfl rfl (.tmp rfl .nil)) rfl ⟨mem_at 2 rfl, trivial⟩ rfl rfl
        · refine (boolLit 36 rfl h9).2 ?_
          refine opSkip rfl ⟨_, rfl, .inl rfl⟩ rfl ?_
          refine opSkip rfl ⟨_, rfl, .inl rfl⟩ rfl ?_
          refine opSkip rfl ⟨_, rfl, .inl rfl⟩ rfl ?_
          refine opSkip rfl ⟨_, rfl, .inl rfl⟩ rfl ?_
          refine opSkip rfl ⟨_, rfl, .inl rfl⟩ rfl ?_
          refine opSkip rfl ⟨_, rfl, .inl rfl⟩ rfl ?_
          refine op0 (sp_pickF rfl rfl rfl) rfl trivial rfl rfl ?_
          refine op0 (sp_assign rfl rfl) rfl trivial rfl rfl ?_
          refine TL.nil ?_
          refine TC.condF rfl ?_
          refine TC.skip ?_
          refine TC.inBlock ?_
          refine TC.seq ?_
          refine TC.region ?_
          refine op1 1 rfl (sp_loadBA rfl isBlk rfl vt250 rfl rfl) rfl trivial rfl rfl ?_
          refine stoB 3 (cells' := [.val (.bool r6.1), .val (.bool r6.2.1), .ref 3, .val (.int .i64 r6.2.2.2.1)]) rfl rfl trivial rfl rfl rfl rfl vt250 rfl rfl rfl ?_
          refine op0 (sp_assign rfl rfl) rfl trivial rfl rfl ?_
          refine TL.nil ?_
          cases h
          exact retJ [(0, 3)] (.cells rfl (mem_at 3 rfl) isBlk vt250 rfl rfl (.tmp rfl .nil)) rfl ⟨mem_at 2 rfl, trivial⟩ rfl rfl
/- strike_train_next -/
def ev_strike_train_next (n : Nat) (t1 : Bool) (t2 : Bool) (t3 : List (Int × Int)) (t4 : Int) (place5 : Int) : Option Int :=
  chk (in64 (place5 + 1)) <| chk (t4 != 0) <| some (Int.tmod (place5 + 1) t4)
set_option maxRecDepth 100000 in
set_option maxHeartbeats 2000000 in
theorem fc_strike_train_next {n : Nat} {t1 : Bool} {t2 : Bool} {t3 : List (Int × Int)} {t4 : Int} {place5 : Int} {r : Int} (h : ev_strike_train_next n t1 t2 t3 t4 place5 = some r) : FC Try.prog 202 [.agg [.val (.bool t1), .val (.bool t2), .ref 0, .val (.int .i64 t4)], .val (.int .i64 place5)] [.ro 0 2 (List.map en_api_Span t3)] (.val (.int .i64 r)) [] := by
  refine introJ (nz := 10) Try.func202 rfl rfl rfl (fun w0 R0 env0 => ?_)
  rw [ev_strike_train_next] at h
  refine TC.seq ?_
  refine TC.region ?_
  refine op0 (sp_box 1 rfl rfl rfl rfl rfl) rfl trivial rfl rfl ?_
  refine op0 (sp_assign rfl rfl) rfl trivial rfl rfl ?_
  refine TL.nil ?_
  refine TC.seq ?_
  refine TC.region ?_
  refine op0 (sp_move rfl rfl) rfl trivial rfl rfl ?_
  obtain ⟨h1, h⟩ := chk_inv h
  refine op0 (sp_add rfl rfl rfl h1) rfl trivial rfl rfl ?_
  refine op1 0 rfl (sp_fieldAddrB rfl isBlk rfl ft250_1 vt3 (by decide)) rfl trivial rfl rfl ?_
  refine op1 0 rfl (sp_loadB rfl isBlk rfl vt3 rfl) rfl trivial rfl rfl ?_
  obtain ⟨h2, h⟩ := chk_inv h
  refine op0 (sp_rem rfl rfl rfl h2) rfl trivial rfl rfl ?_
  refine op0 (sp_assign rfl rfl) rfl trivial rfl rfl ?_
  refine TL.nil ?_
  cases h
  exact retJ [] (.tmp rfl .nil) rfl trivial rfl rfl
/- strike_train_missed -/
def ev_strike_train_missed (n : Nat) (t1 : Bool) (t2 : Bool) (t3 : List (Int × Int)) (t4 : Int) (place5 : Int) : Option Int :=
  cond t2 ((ev_strike_train_next n t1 t2 t3 t4 place5).bind fun r6 => some r6) (some place5)
set_option maxRecDepth 100000 in
set_option maxHeartbeats 2000000 in
theorem fc_strike_train_missed {n : Nat} {t1 : Bool} {t2 : Bool} {t3 : List (Int × Int)} {t4 : Int} {place5 : Int} {r : Int} (h : ev_strike_train_missed n t1 t2 t3 t4 place5 = some r) : FC Try.prog 203 [.agg [.val (.bool t1), .val (.bool t2), .ref 0, .val (.int .i64 t4)], .val (.int .i64 place5)] [.ro 0 2 (List.map en_api_Span t3)] (.val (.int .i64 r)) [] := by
  refine introJ (nz := 12) Try.func203 rfl rfl rfl (fun w0 R0 env0 => ?_)
  rw [ev_strike_train_missed] at h
  refine TC.seq ?_
  refine TC.region ?_
  refine op0 (sp_box 1 rfl rfl rfl rfl rfl) rfl trivial rfl rfl ?_
  refine op0 (sp_assign rfl rfl) rfl trivial rfl rfl ?_
  refine TL.nil ?_
  refine TC.seq ?_
  refine TC.seq ?_
  refine TC.region ?_
  refine op1 0 rfl (sp_fieldAddrB rfl isBlk rfl ft250_0 vt124 (by decide)) rfl trivial rfl rfl ?_
  refine op1 0 rfl (sp_fieldAddrB rfl isBlk rfl ft124_1 vt4 (by decide)) rfl trivial rfl rfl ?_
  refine op1 0 rfl (sp_loadB rfl isBlk rfl vt4 rfl) rfl trivial rfl rfl ?_
  refine TL.nil ?_
  refine TC.cond (b := t2) rfl (fun h1 => ?_) (fun h1 => ?_)
  · have h := cond_t h h1
    refine TC.seq ?_
    refine TC.region ?_
    refine op1 0 rfl (sp_loadBA rfl isBlk rfl vt250 rfl rfl) rfl trivial rfl rfl ?_
    refine op0 (sp_move rfl rfl) rfl trivial rfl rfl ?_
    obtain ⟨r6, h2, h⟩ := bind_inv h
    refine op1 1 rfl (sp_call (avs := [.agg [.val (.bool t1), .val (.bool t2), .ref 0, .val (.int .i64 t4)], .val (.int .i64 place5)]) (need := [.ro 0 2 (List.map en_api_Span t3)]) (v := .val (.int .i64 r6)) (news := []) rfl rfl rfl Try.call202 (atJ [] [] (fc_strike_train_next h2) rfl rfl) (.inl (roAll rfl))) rfl trivial rfl rfl ?_
    refine op0 (sp_assign rfl rfl) rfl trivial rfl rfl ?_
    refine TL.nil ?_
    cases h
    exact retJ [] (.tmp rfl .nil) rfl trivial rfl rfl
  · have h := cond_f h h1
    refine TC.skip ?_
    refine TC.seq ?_
    refine TC.region ?_
    refine op0 (sp_move rfl rfl) rfl trivial rfl rfl ?_
    refine op0 (sp_assign rfl rfl) rfl trivial rfl rfl ?_
    refine TL.nil ?_
    cases h
    exact retJ [] (.tmp rfl .nil) rfl trivial rfl rfl
/- strike_train_step -/
def ev_strike_train_step_l1 (n : Nat) (s7 : Int) (t1 : Bool) (t2 : Bool) (t3 : List (Int × Int)) (t4 : Int) (s8 : Bool) : Nat → Int → Int → Int → Option (Int × Int × Int)
  | 0, _, _, _ => none
  | m + 1, i11, i12, i13 => cond (decide (i13 < s7)) ((ev_strike_train_at n t1 t2 t3 t4 i11).bind fun r14 => chk (in64 (i12 + r14)) <| cond (!t2) ((ev_strike_train_next n t1 t2 t3 t4 i11).bind fun r15 => chk (in64 (i13 + 1)) <| ev_strike_train_step_l1 n s7 t1 t2 t3 t4 s8 m r15 (i12 + r14) (i13 + 1)) (chk (in64 (i13 + 1)) <| ev_strike_train_step_l1 n s7 t1 t2 t3 t4 s8 m i11 (i12 + r14) (i13 + 1))) (cond s8 ((ev_strike_train_missed n t1 t2 t3 t4 i11).bind fun r16 => some (r16, i12, 0)) ((ev_strike_train_next n t1 t2 t3 t4 i11).bind fun r17 => some (r17, i12, 0)))
set_option maxRecDepth 100000 in
set_option maxHeartbeats 2000000 in
theorem ok_strike_train_step_l1 {n : Nat} {w0 : World} {R0 : Nat → Prop} {env0 : Env} {r : Int × Int × Int} {s7 : Int} {t1 : Bool} {t2 : Bool} {t4 : Int} {s8 : Bool} {t3 : List (Int × Int)} : ∀ (m : Nat) (i11 : Int) (i12 : Int) (i13 : Int), ev_strike_train_step_l1 n s7 t1 t2 t3 t4 s8 m i11 i12 i13 = some r → TC Try.prog ⟨w0, fun _ => False, R0⟩ 53 (bodyPost Try.prog Try.f113 (Post ⟨w0, fun _ => False, R0⟩ env0 (.tup [.val (.int .i64 r.1), .val (.int .i64 r.2.1), .val (.int .i64 r.2.2)]) [])) [.code (sub (bodyOf Try.f113) [1, 1, 0, 1, 0, 0, 0]), .code (sub (bodyOf Try.f113) [1, 1, 0, 1, 0, 0, 1]), .inLoop (sub (bodyOf Try.f113) [1, 1, 0, 1, 0, 0]), .inBlock 1, .code (sub (bodyOf Try.f113) [1, 1, 1])] ([(2, .val (.int .i64 i11)), (4, .ptr 1 0), (7, .ptr 2 0), (9, .val (.int .i64 i12)), (27, .val (.int .i64 s7)), (28, .val (.int .i64 i13))]) ([.blk 1 [.val (.bool t1), .val (.bool t2), .ref 0, .val (.int .i64 t4)] 250, .blk 2 [.val (.int .i64 s7), .val (.bool s8)] 127, .ro 0 2 (List.map en_api_Span t3)]) := by
  intro m
  induction m with
  | zero => intro i11 i12 i13 h; exact none_no h
  | succ m ih =>
    intro i11 i12 i13 h
    rw [ev_strike_train_step_l1] at h
    refine TC.region ?_
    refine op0 (sp_lss rfl rfl rfl) rfl trivial rfl rfl ?_
    refine TL.nil ?_
    refine TC.seq ?_
    refine TC.cond (b := (decide (i13 < s7))) rfl (fun h6 => ?_) (fun h6 => ?_)
    · have h := cond_t h h6
      refine TC.skip ?_
      refine TC.seq ?_
      refine TC.block ?_
      refine TC.seq ?_
      refine TC.region ?_
      refine op0 (sp_move rfl rfl) rfl trivial rfl rfl ?_
      refine op1 0 rfl (sp_loadBA rfl isBlk rfl vt250 rfl rfl) rfl trivial rfl rfl ?_
      refine op0 (sp_move rfl rfl) rfl trivial rfl rfl ?_
      obtain ⟨r14, h7, h⟩ := bind_inv h
      refine op1 2 rfl (sp_call (avs := [.agg [.val (.bool t1), .val (.bool t2), .ref 0, .val (.int .i64 t4)], .val (.int .i64 i11)]) (need := [.ro 0 2 (List.map en_api_Span t3)]) (v := .val (.int .i64 r14)) (news := []) rfl rfl rfl Try.call201 (atJ [] [] (fc_strike_train_at h7) rfl rfl) (.inl (roAll rfl))) rfl trivial rfl rfl ?_
      obtain ⟨h8, h⟩ := chk_inv h
      refine op0 (sp_add rfl rfl rfl h8) rfl trivial rfl rfl ?_
      refine op0 (sp_assign rfl rfl) rfl trivial rfl rfl ?_
      refine TL.nil ?_
      refine TC.seq ?_
      refine TC.region ?_
      refine op1 0 rfl (sp_fieldAddrB rfl isBlk rfl ft250_0 vt124 (by decide)) rfl trivial rfl rfl ?_
      refine op1 0 rfl (sp_fieldAddrB rfl isBlk rfl ft124_1 vt4 (by decide)) rfl trivial rfl rfl ?_
      refine op1 0 rfl (sp_loadB rfl isBlk rfl vt4 rfl) rfl trivial rfl rfl ?_
      refine op0 (sp_not rfl rfl) rfl trivial rfl rfl ?_
      refine TL.nil ?_
      refine TC.cond (b := (!t2)) rfl (fun h9 => ?_) (fun h9 => ?_)
      · have h := cond_t h h9
        refine TC.region ?_
        refine op1 0 rfl (sp_loadBA rfl isBlk rfl vt250 rfl rfl) rfl trivial rfl rfl ?_
        refine op0 (sp_move rfl rfl) rfl trivial rfl rfl ?_
        obtain ⟨r15, h10, h⟩ := bind_inv h
        refine op1 2 rfl (sp_call (avs := [.agg [.val (.bool t1), .val (.bool t2), .ref 0, .val (.int .i64 t4)], .val (.int .i64 i11)]) (need := [.ro 0 2 (List.map en_api_Span t3)]) (v := .val (.int .i64 r15)) (news := []) rfl rfl rfl Try.call202 (atJ [] [] (fc_strike_train_next h10) rfl rfl) (.inl (roAll rfl))) rfl trivial rfl rfl ?_
        refine op0 (sp_assign rfl rfl) rfl trivial rfl rfl ?_
        refine TL.nil ?_
        refine TC.inBlock ?_
        refine TC.region ?_
        obtain ⟨h11, h⟩ := chk_inv h
        refine op0 (sp_add rfl rfl rfl h11) rfl trivial rfl rfl ?_
        refine op0 (sp_move rfl rfl) rfl trivial rfl rfl ?_
        refine TL.nil ?_
        refine TC.inLoop ?_
        refine TC.seq ?_
        refine subJ [] (ih _ _ _ h) ?_ ?_ ?_
        · exact ⟨rfl, rfl, rfl, rfl, rfl, rfl, trivial⟩
        · exact ⟨mem_at 0 rfl, mem_at 1 rfl, mem_at 2 rfl, trivial⟩
        · rfl
      · have h := cond_f h h9
        refine TC.skip ?_
        refine TC.inBlock ?_
        refine TC.region ?_
        obtain ⟨h12, h⟩ := chk_inv h
        refine op0 (sp_add rfl rfl rfl h12) rfl trivial rfl rfl ?_
        refine op0 (sp_move rfl rfl) rfl trivial rfl rfl ?_
        refine TL.nil ?_
        refine TC.inLoop ?_
        refine TC.seq ?_
        refine subJ [] (ih _ _ _ h) ?_ ?_ ?_
        · exact ⟨rfl, rfl, rfl, rfl, rfl, rfl, trivial⟩
        · exact ⟨mem_at 0 rfl, mem_at 1 rfl, mem_at 2 rfl, trivial⟩
        · rfl
    · have h := cond_f h h6
      refine TC.exit rfl ?_
      refine TC.seq ?_
      refine TC.seq ?_
      refine TC.region ?_
      refine op1 1 rfl (sp_fieldAddrB rfl isBlk rfl ft127_1 vt4 (by decide)) rfl trivial rfl rfl ?_
      refine op1 1 rfl (sp_loadB rfl isBlk rfl vt4 rfl) rfl trivial rfl rfl ?_
      refine TL.nil ?_
      refine TC.cond (b := s8) rfl (fun h13 => ?_) (fun h13 => ?_)
      · have h := cond_t h h13
        refine TC.seq ?_
        refine TC.region ?_
        refine op1 0 rfl (sp_loadBA rfl isBlk rfl vt250 rfl rfl) rfl trivial rfl rfl ?_
        refine op0 (sp_move rfl rfl) rfl trivial rfl rfl ?_
        obtain ⟨r16, h14, h⟩ := bind_inv h
        refine op1 2 rfl (sp_call (avs := [.agg [.val (.bool t1), .val (.bool t2), .ref 0, .val (.int .i64 t4)], .val (.int .i64 i11)]) (need := [.ro 0 2 (List.map en_api_Span t3)]) (v := .val (.int .i64 r16)) (news := []) rfl rfl rfl Try.call203 (atJ [] [] (fc_strike_train_missed h14) rfl rfl) (.inl (roAll rfl))) rfl trivial rfl rfl ?_
        refine op0 (sp_move rfl rfl) rfl trivial rfl rfl ?_
        refine op0 (sp_assign rfl rfl) rfl trivial rfl rfl ?_
        refine op0 (sp_assign rfl rfl) rfl trivial rfl rfl ?_
        refine op0 (sp_assign rfl rfl) rfl trivial rfl rfl ?_
        refine TL.nil ?_
        cases h
        exact retJ [] (.tmp rfl (.tmp rfl (.tmp rfl .nil))) rfl trivial rfl rfl
      · have h := cond_f h h13
        refine TC.skip ?_
        refine TC.seq ?_
        refine TC.region ?_
        refine op1 0 rfl (sp_loadBA rfl isBlk rfl vt250 rfl rfl) rfl trivial rfl rfl ?_
        refine op0 (sp_move rfl rfl) rfl trivial rfl rfl ?_
        obtain ⟨r17, h15, h⟩ := bind_inv h
        refine op1 2 rfl (sp_call (avs := [.agg [.val (.bool t1), .val (.bool t2), .ref 0, .val (.int .i64 t4)], .val (.int .i64 i11)]) (need := [.ro 0 2 (List.map en_api_Span t3)]) (v := .val (.int .i64 r17)) (news := []) rfl rfl rfl Try.call202 (atJ [] [] (fc_strike_train_next h15) rfl rfl) (.inl (roAll rfl))) rfl trivial rfl rfl ?_
        refine op0 (sp_move rfl rfl) rfl trivial rfl rfl ?_
        refine op0 (sp_assign rfl rfl) rfl trivial rfl rfl ?_
        refine op0 (sp_assign rfl rfl) rfl trivial rfl rfl ?_
        refine op0 (sp_assign rfl rfl) rfl trivial rfl rfl ?_
        refine TL.nil ?_
        cases h
        exact retJ [] (.tmp rfl (.tmp rfl (.tmp rfl .nil))) rfl trivial rfl rfl
def ev_strike_train_step_j0 (n : Nat) (s7 : Int) (t1 : Bool) (t2 : Bool) (t3 : List (Int × Int)) (t4 : Int) (s8 : Bool) (place6 : Int) : Option (Int × Int × Int) :=
  ev_strike_train_step_l1 n s7 t1 t2 t3 t4 s8 n place6 0 0
set_option maxRecDepth 100000 in
set_option maxHeartbeats 2000000 in
theorem ok_strike_train_step_j0 {n : Nat} {w0 : World} {R0 : Nat → Prop} {env0 : Env} {r : Int × Int × Int} {place6 : Int} {t1 : Bool} {t2 : Bool} {t4 : Int} {s7 : Int} {s8 : Bool} {t3 : List (Int × Int)} (h : ev_strike_train_step_j0 n s7 t1 t2 t3 t4 s8 place6 = some r) : TC Try.prog ⟨w0, fun _ => False, R0⟩ 53 (bodyPost Try.prog Try.f113 (Post ⟨w0, fun _ => False, R0⟩ env0 (.tup [.val (.int .i64 r.1), .val (.int .i64 r.2.1), .val (.int .i64 r.2.2)]) [])) [.code (sub (bodyOf Try.f113) [1, 0, 0, 1, 1, 1, 1]), .inBlock 0, .code (sub (bodyOf Try.f113) [1, 1])] ([(2, .val (.int .i64 place6)), (4, .ptr 1 0), (7, .ptr 2 0), (9, .val (.int .i64 0))]) ([.blk 1 [.val (.bool t1), .val (.bool t2), .ref 0, .val (.int .i64 t4)] 250, .blk 2 [.val (.int .i64 s7), .val (.bool s8)] 127, .ro 0 2 (List.map en_api_Span t3)]) := by
  rw [ev_strike_train_step_j0] at h
  refine TC.skip ?_
  refine TC.inBlock ?_
  refine TC.seq ?_
  refine TC.seq ?_
  refine TC.region ?_
  refine op1 1 rfl (sp_fieldAddrB rfl isBlk rfl ft127_0 vt3 (by decide)) rfl trivial rfl rfl ?_
  refine op1 1 rfl (sp_loadB rfl isBlk rfl vt3 rfl) rfl trivial rfl rfl ?_
  refine op0 (sp_move rfl rfl) rfl trivial rfl rfl ?_
  refine TL.nil ?_
  refine TC.block ?_
  refine TC.loop ?_
  refine TC.seq ?_
  refine subJ [] (ok_strike_train_step_l1 _ _ _ _ h) ?_ ?_ ?_
  · exact ⟨rfl, rfl, rfl, rfl, rfl, rfl, trivial⟩
  · exact ⟨mem_at 0 rfl, mem_at 1 rfl, mem_at 2 rfl, trivial⟩
  · rfl
def ev_strike_train_step (n : Nat) (t1 : Bool) (t2 : Bool) (t3 : List (Int × Int)) (t4 : Int) (slot5 : Int) (place6 : Int) (s7 : Int) (s8 : Bool) : Option (Int × Int × Int) :=
  (ev_strike_within n 0 48 ([s7] : List Int)).bind fun r9 => cond (!r9) (some (0, 0, 2)) (cond (decide ((0 : Int) < s7)) ((ev_strike_train_isSilent n t1 t2 t3 t4 slot5).bind fun r10 => cond r10 (some (0, 0, 9)) (ev_strike_train_step_j0 n s7 t1 t2 t3 t4 s8 place6)) (ev_strike_train_step_j0 n s7 t1 t2 t3 t4 s8 place6))
set_option maxRecDepth 100000 in
set_option maxHeartbeats 2000000 in
theorem fc_strike_train_step {n : Nat} {t1 : Bool} {t2 : Bool} {t3 : List (Int × Int)} {t4 : Int} {slot5 : Int} {place6 : Int} {s7 : Int} {s8 : Bool} {r : Int × Int × Int} (h : ev_strike_train_step n t1 t2 t3 t4 slot5 place6 s7 s8 = some r) : FC Try.prog 113 [.agg [.val (.bool t1), .val (.bool t2), .ref 0, .val (.int .i64 t4)], .val (.int .i64 slot5), .val (.int .i64 place6), .agg [.val (.int .i64 s7), .val (.bool s8)]] [.ro 0 2 (List.map en_api_Span t3)] (.tup [.val (.int .i64 r.1), .val (.int .i64 r.2.1), .val (.int .i64 r.2.2)]) [] := by
  refine introJ (nz := 53) Try.func113 rfl rfl rfl (fun w0 R0 env0 => ?_)
  rw [ev_strike_train_step] at h
  refine TC.seq ?_
  refine TC.region ?_
  refine op0 (sp_box 1 rfl rfl rfl rfl rfl) rfl trivial rfl rfl ?_
  refine op0 (sp_box 2 rfl rfl rfl rfl rfl) rfl trivial rfl rfl ?_
  refine op0 (sp_assign rfl rfl) rfl trivial rfl rfl ?_
  refine op0 (sp_assign rfl rfl) rfl trivial rfl rfl ?_
  refine op0 (sp_assign rfl rfl) rfl trivial rfl rfl ?_
  refine TL.nil ?_
  refine TC.seq ?_
  refine TC.block ?_
  refine TC.seq ?_
  refine TC.region ?_
  refine op1 0 rfl (sp_fieldAddrB rfl isBlk rfl ft127_0 vt3 (by decide)) rfl trivial rfl rfl ?_
  refine op1 0 rfl (sp_loadB rfl isBlk rfl vt3 rfl) rfl trivial rfl rfl ?_
  refine op0 (sp_buildSlice (qs := [.val (.int .i64 s7)]) (need := []) (els := List.map en_int ([s7] : List Int)) 3 rfl sl37 (by decide) (by decide) rfl rfl rfl (.v (.nil)) (map_len fun _ => rfl) rfl rfl rfl) rfl trivial rfl rfl ?_
  obtain ⟨r9, h1, h⟩ := bind_inv h
  refine op1 0 rfl (sp_call (avs := [.val (.int .i64 0), .val (.int .i64 48), .ref 3]) (need := [.row 3 3 1 (List.map en_int ([s7] : List Int))]) (v := .val (.bool r9)) (news := []) rfl rfl rfl Try.call199 (atJ [(0, 3)] [] (fc_strike_within h1) rfl rfl) (.inr (fun x hx => nomatch hx))) rfl trivial rfl rfl ?_
  refine op0 (sp_not rfl rfl) rfl trivial rfl rfl ?_
  refine op0 (sp_assign rfl rfl) rfl trivial rfl rfl ?_
  refine TL.nil ?_
  refine TC.cond (b := (!r9)) rfl (fun h2 => ?_) (fun h2 => ?_)
  · have h := cond_t h h2
    refine TC.seq ?_
    refine TC.region ?_
    refine op0 (sp_assign rfl rfl) rfl trivial rfl rfl ?_
    refine op0 (sp_assign rfl rfl) rfl trivial rfl rfl ?_
    refine op0 (sp_assign rfl rfl) rfl trivial rfl rfl ?_
    refine TL.nil ?_
    cases h
    exact retJ [] (.tmp rfl (.tmp rfl (.tmp rfl .nil))) rfl trivial rfl rfl
  · have h := cond_f h h2
    refine TC.seq ?_
    refine TC.region ?_
    refine op1 1 rfl (sp_fieldAddrB rfl isBlk rfl ft127_0 vt3 (by decide)) rfl trivial rfl rfl ?_
    refine op1 1 rfl (sp_loadB rfl isBlk rfl vt3 rfl) rfl trivial rfl rfl ?_
    refine op0 (sp_gtr rfl rfl rfl) rfl trivial rfl rfl ?_
    refine op0 (sp_move rfl rfl) rfl trivial rfl rfl ?_
    rcases cond_cases h with ⟨h3, h⟩ | ⟨h3, h⟩
    · refine (boolLit 21 rfl h3).2 ?_
      refine op1 2 rfl (sp_loadBA rfl isBlk rfl vt250 rfl rfl) rfl ⟨_, rfl, rfl⟩ rfl rfl ?_
      refine op0 (sp_move rfl rfl) rfl ⟨_, rfl, rfl⟩ rfl rfl ?_
      obtain ⟨r10, h4, h⟩ := bind_inv h
      refine op1 3 rfl (sp_call (avs := [.agg [.val (.bool t1), .val (.bool t2), .ref 0, .val (.int .i64 t4)], .val (.int .i64 slot5)]) (need := [.ro 0 2 (List.map en_api_Span t3)]) (v := .val (.bool r10)) (news := []) rfl rfl rfl Try.call200 (atJ [] [] (fc_strike_train_isSilent h4) rfl rfl) (.inl (roAll rfl))) rfl ⟨_, rfl, rfl⟩ rfl rfl ?_
      refine op0 (sp_pickT rfl rfl rfl) rfl trivial rfl rfl ?_
      refine op0 (sp_assign rfl rfl) rfl trivial rfl rfl ?_
      refine TL.nil ?_
      refine TC.cond (b := r10) rfl (fun h5 => ?_) (fun h5 => ?_)
      · have h := cond_t h h5
        refine TC.seq ?_
        refine TC.region ?_
        refine op0 (sp_assign rfl rfl) rfl trivial rfl rfl ?_
        refine op0 (sp_assign rfl rfl) rfl trivial rfl rfl ?_
        refine op0 (sp_assign rfl rfl) rfl trivial rfl rfl ?_
        refine TL.nil ?_
        cases h
        exact retJ [] (.tmp rfl (.tmp rfl (.tmp rfl .nil))) rfl trivial rfl rfl
      · have h := cond_f h h5
        refine subJ [] (ok_strike_train_step_j0 h) ?_ ?_ ?_
        · exact ⟨rfl, rfl, rfl, rfl, trivial⟩
        · exact ⟨mem_at 2 rfl, mem_at 1 rfl, mem_at 3 rfl, trivial⟩
        · rfl
    · refine (boolLit 21 rfl h3).2 ?_
      refine opSkip rfl ⟨_, rfl, .inl rfl⟩ rfl ?_
      refine opSkip rfl ⟨_, rfl, .inl rfl⟩ rfl ?_
      refine opSkip rfl ⟨_, rfl, .inl rfl⟩ rfl ?_
      refine op0 (sp_pickF rfl rfl rfl) rfl trivial rfl rfl ?_
      refine op0 (sp_assign rfl rfl) rfl trivial rfl rfl ?_
      refine TL.nil ?_
      refine TC.condF rfl ?_
      refine subJ [] (ok_strike_train_step_j0 h) ?_ ?_ ?_
      · exact ⟨rfl, rfl, rfl, rfl, trivial⟩
      · exact ⟨mem_at 2 rfl, mem_at 1 rfl, mem_at 3 rfl, trivial⟩
      · rfl
/- strike_Play -/
def ev_strike_Play_l0 (n : Nat) (plan6 : List (Int × Bool)) (slot4 : Int) : Nat → Int → Int → Int → Bool → Bool → Int → (List (Int × Bool)) → (List (Int × Int)) → Option (Int × Int × Int)
  | 0, _, _, _, _, _, _, _, _ => none
  | m + 1, i8, i9, i10, b11, b12, i13, l14, l15 => cond (decide (i10 < (plan6.length : Int))) (idx l14 i10 fun x16 => chk (in64 (slot4 + i10)) <| (ev_strike_train_step n b11 b12 l15 i13 (slot4 + i10) i8 x16.1 x16.2).bind fun r17 => cond (r17.2.2 != 0) (some (0, 0, r17.2.2)) (chk (in64 (i9 + r17.2.1)) <| chk (in64 (i10 + 1)) <| ev_strike_Play_l0 n plan6 slot4 m r17.1 (i9 + r17.2.1) (i10 + 1) b11 b12 i13 l14 l15)) (some (i8, i9, 0))
set_option maxRecDepth 100000 in
set_option maxHeartbeats 2000000 in
theorem ok_strike_Play_l0 {n : Nat} {w0 : World} {R0 : Nat → Prop} {env0 : Env} {r : Int × Int × Int} {slot4 : Int} {plan6 : List (Int × Bool)} : ∀ (m : Nat) (i8 : Int) (i9 : Int) (i10 : Int) (b11 : Bool) (b12 : Bool) (i13 : Int) (l14 : List (Int × Bool)) (l15 : List (Int × Int)), ev_strike_Play_l0 n plan6 slot4 m i8 i9 i10 b11 b12 i13 l14 l15 = some r → TC Try.prog ⟨w0, fun _ => False, R0⟩ 61 (bodyPost Try.prog Try.f46 (Post ⟨w0, fun _ => False, R0⟩ env0 (.tup [.val (.int .i64 r.1), .val (.int .i64 r.2.1), .val (.int .i64 r.2.2)]) [])) [.code (sub (bodyOf Try.f46) [1, 1, 1, 1, 0, 1, 0, 0, 0]), .code (sub (bodyOf Try.f46) [1, 1, 1, 1, 0, 1, 0, 0, 1]), .inLoop (sub (bodyOf Try.f46) [1, 1, 1, 1, 0, 1, 0, 0]), .inBlock 1, .code (sub (bodyOf Try.f46) [1, 1, 1, 1, 1])] ([(1, .val (.int .i64 slot4)), (8, .val (.int .i64 i8)), (9, .val (.int .i64 i9)), (11, .ptr 4 0), (33, .ref 1), (34, .val (.int .i64 (plan6.length : Int))), (35, .val (.int .i64 i10))]) ([.blk 4 [.val (.bool b11), .val (.bool b12), .ref 3, .val (.int .i64 i13)] 250, .ro 1 2 (List.map en_api_StrikeStep l14), .ro 3 2 (List.map en_api_Span l15)]) := by
  intro m
  induction m with
  | zero => intro i8 i9 i10 b11 b12 i13 l14 l15 h; exact none_no h
  | succ m ih =>
    intro i8 i9 i10 b11 b12 i13 l14 l15 h
    rw [ev_strike_Play_l0] at h
    refine TC.region ?_
    refine op0 (sp_lss rfl rfl rfl) rfl trivial rfl rfl ?_
    refine TL.nil ?_
    refine TC.seq ?_
    refine TC.cond (b := (decide (i10 < (plan6.length : Int)))) rfl (fun h4 => ?_) (fun h4 => ?_)
    · have h := cond_t h h4
      refine TC.skip ?_
      refine TC.seq ?_
      refine TC.block ?_
      refine TC.seq ?_
      refine TC.region ?_
      refine op0 (sp_move rfl rfl) rfl trivial rfl rfl ?_
      obtain ⟨x16, h5, h6, h⟩ := idx_inv h
      refine op1 1 rfl (sp_indexS rfl rfl rfl isRo sl125 h5 (map_get _ h6)) rfl trivial rfl rfl ?_
      refine op1 1 rfl (sp_loadRA (i := (i10 : Int).toNat) (j := 0) (as_ := [.val (.int .i64 x16.1), .val (.bool x16.2)]) (ns := []) rfl rfl isRo vt127 rfl (map_get _ h6) rfl rfl (by decide) (.v (.v (.nil))) (nodup_of_B rfl)) rfl trivial rfl rfl ?_
      refine op0 (sp_alloc 5 rfl Try.zeroValue127 rfl) rfl trivial rfl rfl ?_
      refine op0 (sp_assign rfl rfl) rfl trivial rfl rfl ?_
      refine stoB 0 (cells' := [.val (.int .i64 x16.1), .val (.bool x16.2)]) rfl rfl trivial rfl rfl rfl rfl vt127 rfl rfl rfl ?_
      refine TL.nil ?_
      refine TC.seq ?_
      refine TC.region ?_
      refine op1 1 rfl (sp_loadBA rfl isBlk rfl vt250 rfl rfl) rfl trivial rfl rfl ?_
      refine op0 (sp_move rfl rfl) rfl trivial rfl rfl ?_
      refine op0 (sp_move rfl rfl) rfl trivial rfl rfl ?_
      obtain ⟨h7, h⟩ := chk_inv h
      refine op0 (sp_add rfl rfl rfl h7) rfl trivial rfl rfl ?_
      refine op0 (sp_move rfl rfl) rfl trivial rfl rfl ?_
      refine op1 0 rfl (sp_loadBA rfl isBlk rfl vt127 rfl rfl) rfl trivial rfl rfl ?_
      obtain ⟨r17, h8, h⟩ := bind_inv h
      refine op1 3 rfl (sp_call (avs := [.agg [.val (.bool b11), .val (.bool b12), .ref 3, .val (.int .i64 i13)], .val (.int .i64 (slot4 + i10)), .val (.int .i64 i8), .agg [.val (.int .i64 x16.1), .val (.bool x16.2)]]) (need := [.ro 3 2 (List.map en_api_Span l15)]) (v := .tup [.val (.int .i64 r17.1), .val (.int .i64 r17.2.1), .val (.int .i64 r17.2.2)]) (news := []) rfl rfl rfl Try.call113 (atJ [(0, 3)] [] (fc_strike_train_step h8) rfl rfl) (.inl (roAll rfl))) rfl trivial rfl rfl ?_
      refine op0 (sp_move rfl rfl) rfl trivial rfl rfl ?_
      refine op0 (sp_extract rfl rfl rfl) rfl trivial rfl rfl ?_
      refine op0 (sp_extract rfl rfl rfl) rfl trivial rfl rfl ?_
      refine op0 (sp_extract rfl rfl rfl) rfl trivial rfl rfl ?_
      refine op0 (sp_assign rfl rfl) rfl trivial rfl rfl ?_
      refine op0 (sp_assign rfl rfl) rfl trivial rfl rfl ?_
      refine op0 (sp_assign rfl rfl) rfl trivial rfl rfl ?_
      refine TL.nil ?_
      refine TC.seq ?_
      refine TC.seq ?_
      refine TC.region ?_
      refine op0 (sp_move rfl rfl) rfl trivial rfl rfl ?_
      refine op0 (sp_neq rfl rfl rfl) rfl trivial rfl rfl ?_
      refine TL.nil ?_
      refine TC.cond (b := (r17.2.2 != 0)) rfl (fun h9 => ?_) (fun h9 => ?_)
      · have h := cond_t h h9
        refine TC.seq ?_
        refine TC.region ?_
        refine op0 (sp_move rfl rfl) rfl trivial rfl rfl ?_
        refine op0 (sp_assign rfl rfl) rfl trivial rfl rfl ?_
        refine op0 (sp_assign rfl rfl) rfl trivial rfl rfl ?_
        refine op0 (sp_assign rfl rfl) rfl trivial rfl rfl ?_
        refine TL.nil ?_
        cases h
        exact retJ [] (.tmp rfl (.tmp rfl (.tmp rfl .nil))) rfl trivial rfl rfl
      · have h := cond_f h h9
        refine TC.skip ?_
        refine TC.region ?_
        refine op0 (sp_move rfl rfl) rfl trivial rfl rfl ?_
        refine op0 (sp_move rfl rfl) rfl trivial rfl rfl ?_
        refine op0 (sp_move rfl rfl) rfl trivial rfl rfl ?_
        obtain ⟨h10, h⟩ := chk_inv h
        refine op0 (sp_add rfl rfl rfl h10) rfl trivial rfl rfl ?_
        refine op0 (sp_assign rfl rfl) rfl trivial rfl rfl ?_
        refine op0 (sp_assign rfl rfl) rfl trivial rfl rfl ?_
        refine TL.nil ?_
        refine TC.inBlock ?_
        refine TC.region ?_
        obtain ⟨h11, h⟩ := chk_inv h
        refine op0 (sp_add rfl rfl rfl h11) rfl trivial rfl rfl ?_
        refine op0 (sp_move rfl rfl) rfl trivial rfl rfl ?_
        refine TL.nil ?_
        refine TC.inLoop ?_
        refine TC.seq ?_
        refine subJ [] (ih _ _ _ _ _ _ _ _ h) ?_ ?_ ?_
        · exact ⟨rfl, rfl, rfl, rfl, rfl, rfl, rfl, trivial⟩
        · exact ⟨mem_at 1 rfl, mem_at 2 rfl, mem_at 3 rfl, trivial⟩
        · rfl
    · have h := cond_f h h4
      refine TC.exit rfl ?_
      refine TC.seq ?_
      refine TC.region ?_
      refine op0 (sp_move rfl rfl) rfl trivial rfl rfl ?_
      refine op0 (sp_move rfl rfl) rfl trivial rfl rfl ?_
      refine op0 (sp_assign rfl rfl) rfl trivial rfl rfl ?_
      refine op0 (sp_assign rfl rfl) rfl trivial rfl rfl ?_
      refine op0 (sp_assign rfl rfl) rfl trivial rfl rfl ?_
      refine TL.nil ?_
      cases h
      exact retJ [] (.tmp rfl (.tmp rfl (.tmp rfl .nil))) rfl trivial rfl rfl
def ev_strike_Play (n : Nat) (rr1 : Bool) (rr2 : Bool) (rr3 : List (Int × Int)) (slot4 : Int) (place5 : Int) (plan6 : List (Int × Bool)) : Option (Int × Int × Int) :=
  (ev_strike_begin n rr1 rr2 rr3 slot4 place5).bind fun r7 => cond (r7.2.2.2.2 != 0) (some (0, 0, r7.2.2.2.2)) (cond (decide ((96 : Int) < (plan6.length : Int))) (some (0, 0, 5)) (ev_strike_Play_l0 n plan6 slot4 n place5 0 0 r7.1 r7.2.1 r7.2.2.2.1 plan6 r7.2.2.1))
set_option maxRecDepth 100000 in
set_option maxHeartbeats 2000000 in
theorem fc_strike_Play {n : Nat} {rr1 : Bool} {rr2 : Bool} {rr3 : List (Int × Int)} {slot4 : Int} {place5 : Int} {plan6 : List (Int × Bool)} {r : Int × Int × Int} (h : ev_strike_Play n rr1 rr2 rr3 slot4 place5 plan6 = some r) : FC Try.prog 46 [.agg [.val (.bool rr1), .val (.bool rr2), .ref 0], .val (.int .i64 slot4), .val (.int .i64 place5), .ref 1] [.ro 0 2 (List.map en_api_Span rr3), .ro 1 2 (List.map en_api_StrikeStep plan6)] (.tup [.val (.int .i64 r.1), .val (.int .i64 r.2.1), .val (.int .i64 r.2.2)]) [] := by
  refine introJ (nz := 61) Try.func46 rfl rfl rfl (fun w0 R0 env0 => ?_)
  rw [ev_strike_Play] at h
  refine TC.seq ?_
  refine TC.region ?_
  refine op0 (sp_box 2 rfl rfl rfl rfl rfl) rfl trivial rfl rfl ?_
  refine op0 (sp_assign rfl rfl) rfl trivial rfl rfl ?_
  refine op0 (sp_assign rfl rfl) rfl trivial rfl rfl ?_
  refine op0 (sp_assign rfl rfl) rfl trivial rfl rfl ?_
  refine TL.nil ?_
  refine TC.seq ?_
  refine TC.region ?_
  refine op1 0 rfl (sp_loadBA rfl isBlk rfl vt124 rfl rfl) rfl trivial rfl rfl ?_
  refine op0 (sp_move rfl rfl) rfl trivial rfl rfl ?_
  refine op0 (sp_move rfl rfl) rfl trivial rfl rfl ?_
  obtain ⟨r7, h1, h⟩ := bind_inv h
  refine op1 1 rfl (sp_call (avs := [.agg [.val (.bool rr1), .val (.bool rr2), .ref 0], .val (.int .i64 slot4), .val (.int .i64 place5)]) (need := [.ro 0 2 (List.map en_api_Span rr3)]) (v := .tup [.agg [.val (.bool r7.1), .val (.bool r7.2.1), .ref 3, .val (.int .i64 r7.2.2.2.1)], .val (.int .i64 r7.2.2.2.2)]) (news := [.ro 3 2 (List.map en_api_Span r7.2.2.1)]) rfl rfl rfl Try.call112 (atJ [] [(0, 3)] (fc_strike_begin h1) rfl rfl) (.inl (roAll rfl))) rfl trivial rfl rfl ?_
  refine op0 (sp_move rfl rfl) rfl trivial rfl rfl ?_
  refine op0 (sp_extract rfl rfl rfl) rfl trivial rfl rfl ?_
  refine op0 (sp_extract rfl rfl rfl) rfl trivial rfl rfl ?_
  refine op0 (sp_alloc 4 rfl Try.zeroValue250 rfl) rfl trivial rfl rfl ?_
  refine stoB 0 (cells' := [.val (.bool r7.1), .val (.bool r7.2.1), .ref 3, .val (.int .i64 r7.2.2.2.1)]) rfl rfl trivial rfl rfl rfl rfl vt250 rfl rfl rfl ?_
  refine op0 (sp_assign rfl rfl) rfl trivial rfl rfl ?_
  refine TL.nil ?_
  refine TC.seq ?_
  refine TC.block ?_
  refine TC.seq ?_
  refine TC.region ?_
  refine op0 (sp_move rfl rfl) rfl trivial rfl rfl ?_
  refine op0 (sp_neq rfl rfl rfl) rfl trivial rfl rfl ?_
  refine op0 (sp_assign rfl rfl) rfl trivial rfl rfl ?_
  refine TL.nil ?_
  refine TC.cond (b := (r7.2.2.2.2 != 0)) rfl (fun h2 => ?_) (fun h2 => ?_)
  · have h := cond_t h h2
    refine TC.seq ?_
    refine TC.region ?_
    refine op0 (sp_move rfl rfl) rfl trivial rfl rfl ?_
    refine op0 (sp_assign rfl rfl) rfl trivial rfl rfl ?_
    refine op0 (sp_assign rfl rfl) rfl trivial rfl rfl ?_
    refine op0 (sp_assign rfl rfl) rfl trivial rfl rfl ?_
    refine TL.nil ?_
    cases h
    exact retJ [] (.tmp rfl (.tmp rfl (.tmp rfl .nil))) rfl trivial rfl rfl
  · have h := cond_f h h2
    refine TC.seq ?_
    refine TC.region ?_
    refine op0 (sp_move rfl rfl) rfl trivial rfl rfl ?_
    refine op1 4 rfl (sp_lenM (N := plan6.length) (len_map _ _) rfl rfl isRo Try.underlying125) rfl trivial rfl rfl ?_
    refine op0 (sp_gtr rfl rfl rfl) rfl trivial rfl rfl ?_
    refine op0 (sp_assign rfl rfl) rfl trivial rfl rfl ?_
    refine TL.nil ?_
    refine TC.cond (b := (decide ((96 : Int) < (plan6.length : Int)))) rfl (fun h3 => ?_) (fun h3 => ?_)
    · have h := cond_t h h3
      refine TC.seq ?_
      refine TC.region ?_
      refine op0 (sp_assign rfl rfl) rfl trivial rfl rfl ?_
      refine op0 (sp_assign rfl rfl) rfl trivial rfl rfl ?_
      refine op0 (sp_assign rfl rfl) rfl trivial rfl rfl ?_
      refine TL.nil ?_
      cases h
      exact retJ [] (.tmp rfl (.tmp rfl (.tmp rfl .nil))) rfl trivial rfl rfl
    · have h := cond_f h h3
      refine TC.skip ?_
      refine TC.inBlock ?_
      refine TC.seq ?_
      refine TC.region ?_
      refine op0 (sp_move rfl rfl) rfl trivial rfl rfl ?_
      refine op0 (sp_assign rfl rfl) rfl trivial rfl rfl ?_
      refine TL.nil ?_
      refine TC.seq ?_
      refine TC.seq ?_
      refine TC.region ?_
      refine op0 (sp_move rfl rfl) rfl trivial rfl rfl ?_
      refine op1 4 rfl (sp_lenM (N := plan6.length) (len_map _ _) rfl rfl isRo Try.underlying125) rfl trivial rfl rfl ?_
      refine op0 (sp_move rfl rfl) rfl trivial rfl rfl ?_
      refine TL.nil ?_
      refine TC.block ?_
      refine TC.loop ?_
      refine TC.seq ?_
      refine subJ [] (ok_strike_Play_l0 _ _ _ _ _ _ _ _ _ h) ?_ ?_ ?_
      · exact ⟨rfl, rfl, rfl, rfl, rfl, rfl, rfl, trivial⟩
      · exact ⟨mem_at 0 rfl, mem_at 4 rfl, mem_at 1 rfl, trivial⟩
      · rfl
/- strike_Day -/
def ev_strike_Day_l0 (n : Nat) (r4 : Bool × Bool × (List (Int × Int)) × Int × Int) : Nat → Int → Int → Option (Int × Int)
  | 0, _, _ => none
  | m + 1, i5, i6 => cond (decide (i6 < ((2 : Int) * r4.2.2.2.1))) (chk (r4.2.2.2.1 != 0) <| (ev_strike_train_blows n r4.1 r4.2.1 r4.2.2.1 r4.2.2.2.1 i6 (Int.tmod i6 r4.2.2.2.1)).bind fun r7 => chk (in64 (i5 + r7)) <| chk (in64 (i6 + 1)) <| ev_strike_Day_l0 n r4 m (i5 + r7) (i6 + 1)) (some (i5, 0))
set_option maxRecDepth 100000 in
set_option maxHeartbeats 2000000 in
theorem ok_strike_Day_l0 {n : Nat} {w0 : World} {R0 : Nat → Prop} {env0 : Env} {r : Int × Int} {r4 : Bool × Bool × (List (Int × Int)) × Int × Int} : ∀ (m : Nat) (i5 : Int) (i6 : Int), ev_strike_Day_l0 n r4 m i5 i6 = some r → TC Try.prog ⟨w0, fun _ => False, R0⟩ 31 (bodyPost Try.prog Try.f114 (Post ⟨w0, fun _ => False, R0⟩ env0 (.tup [.val (.int .i64 r.1), .val (.int .i64 r.2)]) [])) [.code (sub (bodyOf Try.f114) [1, 1, 1, 0, 1, 0, 0, 0]), .code (sub (bodyOf Try.f114) [1, 1, 1, 0, 1, 0, 0, 1]), .inLoop (sub (bodyOf Try.f114) [1, 1, 1, 0, 1, 0, 0]), .inBlock 0, .code (sub (bodyOf Try.f114) [1, 1, 1, 1])] ([(2, .val (.int .i64 i5)), (4, .ptr 3 0), (16, .val (.int .i64 ((2 : Int) * r4.2.2.2.1))), (17, .val (.int .i64 i6))]) ([.blk 3 [.val (.bool r4.1), .val (.bool r4.2.1), .ref 2, .val (.int .i64 r4.2.2.2.1)] 250, .ro 2 2 (List.map en_api_Span r4.2.2.1)]) := by
  intro m
  induction m with
  | zero => intro i5 i6 h; exact none_no h
  | succ m ih =>
    intro i5 i6 h
    rw [ev_strike_Day_l0] at h
    refine TC.region ?_
    refine op0 (sp_lss rfl rfl rfl) rfl trivial rfl rfl ?_
    refine TL.nil ?_
    refine TC.seq ?_
    refine TC.cond (b := (decide (i6 < ((2 : Int) * r4.2.2.2.1)))) rfl (fun h4 => ?_) (fun h4 => ?_)
    · have h := cond_t h h4
      refine TC.skip ?_
      refine TC.seq ?_
      refine TC.block ?_
      refine TC.seq ?_
      refine TC.region ?_
      refine op0 (sp_move rfl rfl) rfl trivial rfl rfl ?_
      refine op0 (sp_assign rfl rfl) rfl trivial rfl rfl ?_
      refine TL.nil ?_
      obtain ⟨h5, h⟩ := chk_inv h
      obtain ⟨r7, h6, h⟩ := bind_inv h
      refine drawJ 8 [⟨.val (.int .i64 i5), [], [], []⟩, ⟨.agg [.val (.bool r4.1), .val (.bool r4.2.1), .ref 2, .val (.int .i64 r4.2.2.2.1)], [], [.blk 3 [.val (.bool r4.1), .val (.bool r4.2.1), .ref 2, .val (.int .i64 r4.2.2.2.1)] 250], []⟩, ⟨.val (.int .i64 i6), [], [], []⟩, ⟨.val (.int .i64 i6), [], [], []⟩, ⟨.ptr 3 3, [], [.blk 3 [.val (.bool r4.1), .val (.bool r4.2.1), .ref 2, .val (.int .i64 r4.2.2.2.1)] 250], []⟩, ⟨.val (.int .i64 r4.2.2.2.1), [], [.blk 3 [.val (.bool r4.1), .val (.bool r4.2.1), .ref 2, .val (.int .i64 r4.2.2.2.1)] 250], []⟩, ⟨.val (.int .i64 (Int.tmod i6 r4.2.2.2.1)), [], [], []⟩, ⟨.val (.int .i64 r7), [], [.ro 2 2 (List.map en_api_Span r4.2.2.1)], []⟩] rfl ?_ rfl ?_ rfl ?_ ?_
      · kernel_rfl
      · kernel_rfl
      · exact DAll.op' (sp_move rfl rfl) trivial rfl (From.ok (ps := []) trivial) (DAll.op' (sp_loadBA rfl isBlk rfl vt250 rfl rfl) trivial rfl (From.ok (ps := [(none, 0)]) ⟨⟨rfl, rfl⟩, trivial⟩) (DAll.op' (sp_move rfl rfl) trivial rfl (From.ok (ps := []) trivial) (DAll.op' (sp_move rfl rfl) trivial rfl (From.ok (ps := []) trivial) (DAll.op' (sp_fieldAddrB rfl isBlk rfl ft250_1 vt3 (by decide)) trivial rfl (From.ok (ps := [(none, 0)]) ⟨⟨rfl, rfl⟩, trivial⟩) (DAll.op' (sp_loadB rfl isBlk rfl vt3 rfl) trivial rfl (From.ok (ps := [(none, 0)]) ⟨⟨rfl, rfl⟩, trivial⟩) (DAll.op' (sp_rem rfl rfl rfl h5) trivial rfl (From.ok (ps := []) trivial) (DAll.op' (sp_call (avs := [.agg [.val (.bool r4.1), .val (.bool r4.2.1), .ref 2, .val (.int .i64 r4.2.2.2.1)], .val (.int .i64 i6), .val (.int .i64 (Int.tmod i6 r4.2.2.2.1))]) (need := [.ro 2 2 (List.map en_api_Span r4.2.2.1)]) (v := .val (.int .i64 r7)) (news := []) rfl rfl rfl Try.call111 (atJ [(0, 2)] [] (fc_strike_train_blows h6) rfl rfl) (.inl (roAll rfl))) trivial rfl (From.ok (ps := [(none, 1)]) ⟨⟨rfl, rfl⟩, trivial⟩) (.nil))))))))
      obtain ⟨h7, h⟩ := chk_inv h
      refine op0 (sp_add rfl rfl rfl h7) rfl trivial rfl rfl ?_
      refine op0 (sp_assign rfl rfl) rfl trivial rfl rfl ?_
      refine TL.nil ?_
      refine TC.inBlock ?_
      refine TC.region ?_
      obtain ⟨h8, h⟩ := chk_inv h
      refine op0 (sp_add rfl rfl rfl h8) rfl trivial rfl rfl ?_
      refine op0 (sp_move rfl rfl) rfl trivial rfl rfl ?_
      refine TL.nil ?_
      refine TC.inLoop ?_
      refine TC.seq ?_
      refine subJ [] (ih _ _ h) ?_ ?_ ?_
      · exact ⟨rfl, rfl, rfl, rfl, trivial⟩
      · exact ⟨mem_at 0 rfl, mem_at 1 rfl, trivial⟩
      · rfl
    · have h := cond_f h h4
      refine TC.exit rfl ?_
      refine TC.seq ?_
      refine TC.region ?_
      refine op0 (sp_move rfl rfl) rfl trivial rfl rfl ?_
      refine op0 (sp_assign rfl rfl) rfl trivial rfl rfl ?_
      refine op0 (sp_assign rfl rfl) rfl trivial rfl rfl ?_
      refine TL.nil ?_
      cases h
      exact retJ [] (.tmp rfl (.tmp rfl .nil)) rfl trivial rfl rfl
def ev_strike_Day (n : Nat) (rr1 : Bool) (rr2 : Bool) (rr3 : List (Int × Int)) : Option (Int × Int) :=
  (ev_strike_open n rr1 rr2 rr3).bind fun r4 => cond (r4.2.2.2.2 != 0) (some (0, r4.2.2.2.2)) (chk (in64 ((2 : Int) * r4.2.2.2.1)) <| ev_strike_Day_l0 n r4 n 0 0)
set_option maxRecDepth 100000 in
set_option maxHeartbeats 2000000 in
theorem fc_strike_Day {n : Nat} {rr1 : Bool} {rr2 : Bool} {rr3 : List (Int × Int)} {r : Int × Int} (h : ev_strike_Day n rr1 rr2 rr3 = some r) : FC Try.prog 114 [.agg [.val (.bool rr1), .val (.bool rr2), .ref 0]] [.ro 0 2 (List.map en_api_Span rr3)] (.tup [.val (.int .i64 r.1), .val (.int .i64 r.2)]) [] := by
  refine introJ (nz := 31) Try.func114 rfl rfl rfl (fun w0 R0 env0 => ?_)
  rw [ev_strike_Day] at h
  refine TC.seq ?_
  refine TC.region ?_
  refine op0 (sp_box 1 rfl rfl rfl rfl rfl) rfl trivial rfl rfl ?_
  refine op0 (sp_assign rfl rfl) rfl trivial rfl rfl ?_
  refine op0 (sp_assign rfl rfl) rfl trivial rfl rfl ?_
  refine TL.nil ?_
  refine TC.seq ?_
  refine TC.region ?_
  refine op1 0 rfl (sp_loadBA rfl isBlk rfl vt124 rfl rfl) rfl trivial rfl rfl ?_
  obtain ⟨r4, h1, h⟩ := bind_inv h
  refine op1 1 rfl (sp_call (avs := [.agg [.val (.bool rr1), .val (.bool rr2), .ref 0]]) (need := [.ro 0 2 (List.map en_api_Span rr3)]) (v := .tup [.agg [.val (.bool r4.1), .val (.bool r4.2.1), .ref 2, .val (.int .i64 r4.2.2.2.1)], .val (.int .i64 r4.2.2.2.2)]) (news := [.ro 2 2 (List.map en_api_Span r4.2.2.1)]) rfl rfl rfl Try.call109 (atJ [] [(0, 2)] (fc_strike_open h1) rfl rfl) (.inl (roAll rfl))) rfl trivial rfl rfl ?_
  refine op0 (sp_move rfl rfl) rfl trivial rfl rfl ?_
  refine op0 (sp_extract rfl rfl rfl) rfl trivial rfl rfl ?_
  refine op0 (sp_extract rfl rfl rfl) rfl trivial rfl rfl ?_
  refine op0 (sp_alloc 3 rfl Try.zeroValue250 rfl) rfl trivial rfl rfl ?_
  refine stoB 0 (cells' := [.val (.bool r4.1), .val (.bool r4.2.1), .ref 2, .val (.int .i64 r4.2.2.2.1)]) rfl rfl trivial rfl rfl rfl rfl vt250 rfl rfl rfl ?_
  refine op0 (sp_assign rfl rfl) rfl trivial rfl rfl ?_
  refine TL.nil ?_
  refine TC.seq ?_
  refine TC.seq ?_
  refine TC.region ?_
  refine op0 (sp_move rfl rfl) rfl trivial rfl rfl ?_
  refine op0 (sp_neq rfl rfl rfl) rfl trivial rfl rfl ?_
  refine TL.nil ?_
  refine TC.cond (b := (r4.2.2.2.2 != 0)) rfl (fun h2 => ?_) (fun h2 => ?_)
  · have h := cond_t h h2
    refine TC.seq ?_
    refine TC.region ?_
    refine op0 (sp_move rfl rfl) rfl trivial rfl rfl ?_
    refine op0 (sp_assign rfl rfl) rfl trivial rfl rfl ?_
    refine op0 (sp_assign rfl rfl) rfl trivial rfl rfl ?_
    refine TL.nil ?_
    cases h
    exact retJ [] (.tmp rfl (.tmp rfl .nil)) rfl trivial rfl rfl
  · have h := cond_f h h2
    refine TC.skip ?_
    refine TC.seq ?_
    refine TC.seq ?_
    refine TC.region ?_
    refine op1 0 rfl (sp_fieldAddrB rfl isBlk rfl ft250_1 vt3 (by decide)) rfl trivial rfl rfl ?_
    refine op1 0 rfl (sp_loadB rfl isBlk rfl vt3 rfl) rfl trivial rfl rfl ?_
    obtain ⟨h3, h⟩ := chk_inv h
    refine op0 (sp_mul rfl rfl rfl h3) rfl trivial rfl rfl ?_
    refine op0 (sp_move rfl rfl) rfl trivial rfl rfl ?_
    refine TL.nil ?_
    refine TC.block ?_
    refine TC.loop ?_
    refine TC.seq ?_
    refine subJ [] (ok_strike_Day_l0 _ _ _ h) ?_ ?_ ?_
    · exact ⟨rfl, rfl, rfl, rfl, trivial⟩
    · exact ⟨mem_at 0 rfl, mem_at 1 rfl, trivial⟩
    · rfl
/- strike_train_steps -/
def ev_strike_train_steps_l1 {σ1 : Type} (yb1 : (Int × Bool) → σ1 → Option (Bool × σ1)) (n : Nat) (i6 : Int) (k_strike_train_steps_l0 : Int → σ1 → Option σ1) : Nat → Int → σ1 → Option σ1
  | 0, _, _ => none
  | m + 1, i8, y9 => cond (decide (i8 < 2)) (chk (decide (0 ≤ i8) && decide (i8 < 2)) <| idx ([true, false] : List Bool) i8 fun x10 => (yb1 (i6, x10) y9).bind fun r11 => cond (!r11.1) (some r11.2) (chk (in64 (i8 + 1)) <| ev_strike_train_steps_l1 yb1 n i6 k_strike_train_steps_l0 m (i8 + 1) r11.2)) (chk (in64 (i6 - 1)) <| k_strike_train_steps_l0 (i6 - 1) y9)
set_option maxRecDepth 100000 in
set_option maxHeartbeats 2000000 in
theorem ok_strike_train_steps_l1 {σ1 : Type} {yb1 : (Int × Bool) → σ1 → Option (Bool × σ1)} {I1 : σ1 → Inv} (hI1 : Yields Try.prog ye_funcapi_StrikeStep_bool yn_funcapi_StrikeStep_bool yb1 I1) {n : Nat} {w0 : World} {M0 R0 : Nat → Prop} {env0 : Env} {df : List Deferred} {r : σ1} {i6 : Int} {k_strike_train_steps_l0 : Int → σ1 → Option σ1} (hk_strike_train_steps_l0 : ∀ (i6 : Int) (y7 : σ1), k_strike_train_steps_l0 i6 y7 = some r → TC Try.prog ⟨w0, M0, R0⟩ ⟨25, none, df⟩ (bodyPostM Fence.wide 0 Try.prog Try.f258 (PostT ⟨w0, M0, R0⟩ env0 [1] (.tup []) [.inv 1 (I1 r)])) [.code (sub (bodyOf Try.f258) [1, 1, 0, 0, 0, 0]), .code (sub (bodyOf Try.f258) [1, 1, 0, 0, 0, 1]), .code (sub (bodyOf Try.f258) [1, 1, 0, 0, 1]), .inLoop (sub (bodyOf Try.f258) [1, 1, 0, 0]), .inBlock 0] ([(1, .ref 1), (4, .val (.int .i64 i6))]) ([.inv 2 (marksI df), .pin 3 1 (env0 1), .inv 1 (I1 y7)])) : ∀ (m : Nat) (i8 : Int) (y9 : σ1), ev_strike_train_steps_l1 yb1 n i6 k_strike_train_steps_l0 m i8 y9 = some r → TC Try.prog ⟨w0, M0, R0⟩ ⟨25, none, df⟩ (bodyPostM Fence.wide 0 Try.prog Try.f258 (PostT ⟨w0, M0, R0⟩ env0 [1] (.tup []) [.inv 1 (I1 r)])) [.code (sub (bodyOf Try.f258) [1, 1, 0, 0, 1, 0, 0, 1, 0, 0, 0]), .code (sub (bodyOf Try.f258) [1, 1, 0, 0, 1, 0, 0, 1, 0, 0, 1]), .inLoop (sub (bodyOf Try.f258) [1, 1, 0, 0, 1, 0, 0, 1, 0, 0]), .inBlock 2, .inBlock 1, .code (sub (bodyOf Try.f258) [1, 1, 0, 0, 1, 1]), .inLoop (sub (bodyOf Try.f258) [1, 1, 0, 0]), .inBlock 0] ([(1, .ref 1), (4, .val (.int .i64 i6)), (14, .agg [.val (.bool true), .val (.bool false)]), (15, .val (.int .i64 i8))]) ([.inv 2 (marksI df), .pin 3 1 (env0 1), .inv 1 (I1 y9)]) := by
  intro m
  induction m with
  | zero => intro i8 y9 h; exact none_no h
  | succ m ih =>
    intro i8 y9 h
    rw [ev_strike_train_steps_l1] at h
    refine TC.region ?_
    refine op0 (sp_lss rfl rfl rfl) rfl trivial rfl rfl ?_
    refine TL.nil ?_
    refine TC.seq ?_
    refine TC.cond (b := (decide (i8 < 2))) rfl (fun h3 => ?_) (fun h3 => ?_)
    · have h := cond_t h h3
      refine TC.skip ?_
      refine TC.seq ?_
      refine TC.block ?_
      refine TC.seq ?_
      refine TC.region ?_
      obtain ⟨h6, h⟩ := chk_inv h
      obtain ⟨x10, h4, h5, h⟩ := idx_inv h
      refine op0 (sp_index rfl rfl rfl Try.underlying428 vt4 h6 (map_get (fun z => AV.val (.bool z)) h5)) rfl trivial rfl rfl ?_
      refine op0 (sp_assign rfl rfl) rfl trivial rfl rfl ?_
      refine TL.nil ?_
      refine TC.seq ?_
      refine TC.region ?_
      refine op0 (sp_move rfl rfl) rfl trivial rfl rfl ?_
      refine op0 (sp_move rfl rfl) rfl trivial rfl rfl ?_
      refine op0 (sp_move rfl rfl) rfl trivial rfl rfl ?_
      refine op0 (sp_build (qs := [(0, .val (.int .i64 i6)), (1, .val (.bool x10))]) rfl bt127 rfl rfl rfl rfl) rfl trivial rfl rfl ?_
      obtain ⟨r11, h7, h⟩ := bind_inv h
      refine opT (take := [.inv 1 (I1 y9)]) (need := []) (V' := [.inv 1 (I1 r11.2), .inv 2 (marksI df), .pin 3 1 (env0 1)]) [2] [] (ts_yield hI1 (x := (i6, x10)) (b := r11.1) (avs := [.agg [.val (.int .i64 i6), .val (.bool x10)]]) (need := []) [] h7 rfl rfl rfl rfl rfl rfl) trivial rfl ⟨rfl, trivial⟩ trivial rfl rfl ?_
      refine op0 (sp_not rfl rfl) rfl trivial rfl rfl ?_
      refine TL.nil ?_
      refine TC.cond (b := (!r11.1)) rfl (fun h8 => ?_) (fun h8 => ?_)
      · have h := cond_t h h8
        cases h
        exact retM [] 1 2 [1] rfl (.nil) rfl ⟨mem_at 0 rfl, trivial⟩ rfl rfl ⟨⟨_, mem_at 1 rfl⟩, trivial⟩ rfl
      · have h := cond_f h h8
        refine TC.skip ?_
        refine TC.inBlock ?_
        refine TC.region ?_
        obtain ⟨h9, h⟩ := chk_inv h
        refine op0 (sp_add rfl rfl rfl h9) rfl trivial rfl rfl ?_
        refine op0 (sp_move rfl rfl) rfl trivial rfl rfl ?_
        refine TL.nil ?_
        refine TC.inLoop ?_
        refine TC.seq ?_
        refine subJ [] (ih _ _ h) ?_ ?_ ?_
        · exact ⟨rfl, rfl, rfl, rfl, trivial⟩
        · exact ⟨mem_at 1 rfl, mem_at 2 rfl, mem_at 0 rfl, trivial⟩
        · rfl
    · have h := cond_f h h3
      refine TC.exit rfl ?_
      refine TC.inBlock ?_
      refine TC.region ?_
      refine op0 (sp_move rfl rfl) rfl trivial rfl rfl ?_
      obtain ⟨h10, h⟩ := chk_inv h
      refine op0 (sp_sub rfl rfl rfl h10) rfl trivial rfl rfl ?_
      refine op0 (sp_assign rfl rfl) rfl trivial rfl rfl ?_
      refine TL.nil ?_
      refine TC.inLoop ?_
      refine TC.seq ?_
      refine TC.seq ?_
      refine subJ [] (hk_strike_train_steps_l0 _ _ h) ?_ ?_ ?_
      · exact ⟨rfl, rfl, trivial⟩
      · exact ⟨mem_at 0 rfl, mem_at 1 rfl, mem_at 2 rfl, trivial⟩
      · rfl
def ev_strike_train_steps_l0 {σ1 : Type} (yb1 : (Int × Bool) → σ1 → Option (Bool × σ1)) (n : Nat) : Nat → Int → σ1 → Option σ1
  | 0, _, _ => none
  | m + 1, i6, y7 => cond (decide ((0 : Int) ≤ i6)) (ev_strike_train_steps_l1 yb1 n i6 (fun i6q y7q => ev_strike_train_steps_l0 yb1 n m i6q y7q) n 0 y7) (some y7)
set_option maxRecDepth 100000 in
set_option maxHeartbeats 2000000 in
theorem ok_strike_train_steps_l0 {σ1 : Type} {yb1 : (Int × Bool) → σ1 → Option (Bool × σ1)} {I1 : σ1 → Inv} (hI1 : Yields Try.prog ye_funcapi_StrikeStep_bool yn_funcapi_StrikeStep_bool yb1 I1) {n : Nat} {w0 : World} {M0 R0 : Nat → Prop} {env0 : Env} {df : List Deferred} {r : σ1} : ∀ (m : Nat) (i6 : Int) (y7 : σ1), ev_strike_train_steps_l0 yb1 n m i6 y7 = some r → TC Try.prog ⟨w0, M0, R0⟩ ⟨25, none, df⟩ (bodyPostM Fence.wide 0 Try.prog Try.f258 (PostT ⟨w0, M0, R0⟩ env0 [1] (.tup []) [.inv 1 (I1 r)])) [.code (sub (bodyOf Try.f258) [1, 1, 0, 0, 0, 0]), .code (sub (bodyOf Try.f258) [1, 1, 0, 0, 0, 1]), .code (sub (bodyOf Try.f258) [1, 1, 0, 0, 1]), .inLoop (sub (bodyOf Try.f258) [1, 1, 0, 0]), .inBlock 0] ([(1, .ref 1), (4, .val (.int .i64 i6))]) ([.inv 2 (marksI df), .pin 3 1 (env0 1), .inv 1 (I1 y7)]) := by
  intro m
  induction m with
  | zero => intro i6 y7 h; exact none_no h
  | succ m ih =>
    intro i6 y7 h
    rw [ev_strike_train_steps_l0] at h
    refine TC.region ?_
    refine op0 (sp_move rfl rfl) rfl trivial rfl rfl ?_
    refine op0 (sp_geq rfl rfl rfl) rfl trivial rfl rfl ?_
    refine TL.nil ?_
    refine TC.cond (b := (decide ((0 : Int) ≤ i6))) rfl (fun h2 => ?_) (fun h2 => ?_)
    · have h := cond_t h h2
      refine TC.skip ?_
      refine TC.seq ?_
      refine TC.block ?_
      refine TC.seq ?_
      refine TC.region ?_
      refine op0 (sp_build (qs := [(0, .val (.bool true)), (1, .val (.bool false))]) rfl bt428 rfl rfl rfl rfl) rfl trivial rfl rfl ?_
      refine op0 (sp_move rfl rfl) rfl trivial rfl rfl ?_
      refine TL.nil ?_
      refine TC.block ?_
      refine TC.loop ?_
      refine TC.seq ?_
      refine subJ [] (ok_strike_train_steps_l1 hI1 ih _ _ _ h) ?_ ?_ ?_
      · exact ⟨rfl, rfl, rfl, rfl, trivial⟩
      · exact ⟨mem_at 0 rfl, mem_at 1 rfl, mem_at 2 rfl, trivial⟩
      · rfl
    · have h := cond_f h h2
      refine TC.exit rfl ?_
      cases h
      exact endM [] 0 2 [1] rfl (.nil) rfl ⟨mem_at 1 rfl, trivial⟩ rfl rfl ⟨⟨_, mem_at 0 rfl⟩, trivial⟩ rfl
def ev_strike_train_steps {σ1 : Type} (yb1 : (Int × Bool) → σ1 → Option (Bool × σ1)) (n : Nat) (t1 : Bool) (t2 : Bool) (t3 : List (Int × Int)) (t4 : Int) (y5 : σ1) : Option σ1 :=
  chk (in64 (t4 - 1)) <| ev_strike_train_steps_l0 yb1 n n (t4 - 1) y5
set_option maxRecDepth 100000 in
set_option maxHeartbeats 2000000 in
theorem ft_strike_train_steps {σ1 : Type} {yb1 : (Int × Bool) → σ1 → Option (Bool × σ1)} {I1 : σ1 → Inv} (hI1 : Yields Try.prog ye_funcapi_StrikeStep_bool yn_funcapi_StrikeStep_bool yb1 I1) {n : Nat} {t1 : Bool} {t2 : Bool} {t3 : List (Int × Int)} {t4 : Int} {y5 : σ1} {r : σ1} (h : ev_strike_train_steps yb1 n t1 t2 t3 t4 y5 = some r) : FT Try.prog 258 [.agg [.val (.bool t1), .val (.bool t2), .ref 0, .val (.int .i64 t4)], .ref 1] [.inv 1 (I1 y5)] [.ro 0 2 (List.map en_api_Span t3)] (.tup []) [.inv 1 (I1 r)] := by
  refine introM (nz := 25) 2 [(3, 1)] Try.func258 rfl rfl rfl rfl (fun w0 M0 R0 env0 => ?_)
  rw [ev_strike_train_steps] at h
  refine TC.seq ?_
  refine TC.region ?_
  refine op0 (sp_box 4 rfl rfl rfl rfl rfl) rfl trivial rfl rfl ?_
  refine TL.nil ?_
  refine TC.seq ?_
  refine TC.region ?_
  refine op1 0 rfl (sp_fieldAddrB rfl isBlk rfl ft250_1 vt3 (by decide)) rfl trivial rfl rfl ?_
  refine op1 0 rfl (sp_loadB rfl isBlk rfl vt3 rfl) rfl trivial rfl rfl ?_
  obtain ⟨h1, h⟩ := chk_inv h
  refine op0 (sp_sub rfl rfl rfl h1) rfl trivial rfl rfl ?_
  refine op0 (sp_assign rfl rfl) rfl trivial rfl rfl ?_
  refine TL.nil ?_
  refine TC.block ?_
  refine TC.loop ?_
  refine TC.seq ?_
  refine TC.seq ?_
  refine subJ [] (ok_strike_train_steps_l0 hI1 _ _ _ h) ?_ ?_ ?_
  · exact ⟨rfl, rfl, trivial⟩
  · exact ⟨mem_at 1 rfl, mem_at 2 rfl, mem_at 3 rfl, trivial⟩
  · rfl
/- strike_cost_compare -/
def ev_strike_cost_compare (n : Nat) (c1 : Int) (c2 : Int) (d3 : Int) (d4 : Int) : Option Int :=
  (ev_cmp_Compare_int n c1 d3).bind fun r5 => (ev_cmp_Compare_int n c2 d4).bind fun r6 => (ev_cmp_Or_int n ([r5, r6] : List Int)).bind fun r7 => some r7
set_option maxRecDepth 100000 in
set_option maxHeartbeats 2000000 in
theorem fc_strike_cost_compare {n : Nat} {c1 : Int} {c2 : Int} {d3 : Int} {d4 : Int} {r : Int} (h : ev_strike_cost_compare n c1 c2 d3 d4 = some r) : FC Try.prog 259 [.agg [.val (.int .i64 c1), .val (.int .i64 c2)], .agg [.val (.int .i64 d3), .val (.int .i64 d4)]] [] (.val (.int .i64 r)) [] := by
  refine introJ (nz := 17) Try.func259 rfl rfl rfl (fun w0 R0 env0 => ?_)
  rw [ev_strike_cost_compare] at h
  refine TC.seq ?_
  refine TC.region ?_
  refine op0 (sp_box 0 rfl rfl rfl rfl rfl) rfl trivial rfl rfl ?_
  refine op0 (sp_box 1 rfl rfl rfl rfl rfl) rfl trivial rfl rfl ?_
  refine op0 (sp_assign rfl rfl) rfl trivial rfl rfl ?_
  refine TL.nil ?_
  refine TC.seq ?_
  obtain ⟨r5, h1, h⟩ := bind_inv h
  refine drawJ 9 [⟨.ptr 0 0, [], [.blk 0 [.val (.int .i64 c1), .val (.int .i64 c2)] 353], []⟩, ⟨.val (.int .i64 c1), [], [.blk 0 [.val (.int .i64 c1), .val (.int .i64 c2)] 353], []⟩, ⟨.ptr 1 0, [], [.blk 1 [.val (.int .i64 d3), .val (.int .i64 d4)] 353], []⟩, ⟨.val (.int .i64 d3), [], [.blk 1 [.val (.int .i64 d3), .val (.int .i64 d4)] 353], []⟩, ⟨.val (.int .i64 r5), [], [], []⟩, ⟨.ptr 0 1, [], [.blk 0 [.val (.int .i64 c1), .val (.int .i64 c2)] 353], []⟩, ⟨.val (.int .i64 c2), [], [.blk 0 [.val (.int .i64 c1), .val (.int .i64 c2)] 353], []⟩, ⟨.ptr 1 1, [], [.blk 1 [.val (.int .i64 d3), .val (.int .i64 d4)] 353], []⟩, ⟨.val (.int .i64 d4), [], [.blk 1 [.val (.int .i64 d3), .val (.int .i64 d4)] 353], []⟩] rfl ?_ rfl ?_ rfl ?_ ?_
  · kernel_rfl
  · kernel_rfl
  · exact DAll.op' (sp_fieldAddrB rfl isBlk rfl ft353_0 vt3 (by decide)) trivial rfl (From.ok (ps := [(none, 1)]) ⟨⟨rfl, rfl⟩, trivial⟩) (DAll.op' (sp_loadB rfl isBlk rfl vt3 rfl) trivial rfl (From.ok (ps := [(none, 1)]) ⟨⟨rfl, rfl⟩, trivial⟩) (DAll.op' (sp_fieldAddrB rfl isBlk rfl ft353_0 vt3 (by decide)) trivial rfl (From.ok (ps := [(none, 0)]) ⟨⟨rfl, rfl⟩, trivial⟩) (DAll.op' (sp_loadB rfl isBlk rfl vt3 rfl) trivial rfl (From.ok (ps := [(none, 0)]) ⟨⟨rfl, rfl⟩, trivial⟩) (DAll.op' (sp_call (avs := [.val (.int .i64 c1), .val (.int .i64 d3)]) (need := []) (v := .val (.int .i64 r5)) (news := []) rfl rfl rfl Try.call279 (atJ [] [] (fc_cmp_Compare_int h1) rfl rfl) (.inl (roAll rfl))) trivial rfl (From.ok (ps := []) trivial) (DAll.op' (sp_fieldAddrB rfl isBlk rfl ft353_1 vt3 (by decide)) trivial rfl (From.ok (ps := [(none, 1)]) ⟨⟨rfl, rfl⟩, trivial⟩) (DAll.op' (sp_loadB rfl isBlk rfl vt3 rfl) trivial rfl (From.ok (ps := [(none, 1)]) ⟨⟨rfl, rfl⟩, trivial⟩) (DAll.op' (sp_fieldAddrB rfl isBlk rfl ft353_1 vt3 (by decide)) trivial rfl (From.ok (ps := [(none, 0)]) ⟨⟨rfl, rfl⟩, trivial⟩) (DAll.op' (sp_loadB rfl isBlk rfl vt3 rfl) trivial rfl (From.ok (ps := [(none, 0)]) ⟨⟨rfl, rfl⟩, trivial⟩) (.nil)))))))))
  obtain ⟨r6, h2, h⟩ := bind_inv h
  refine op0 (sp_call (avs := [.val (.int .i64 c2), .val (.int .i64 d4)]) (need := []) (v := .val (.int .i64 r6)) (news := []) rfl rfl rfl Try.call279 (atJ [] [] (fc_cmp_Compare_int h2) rfl rfl) (.inl (roAll rfl))) rfl trivial rfl rfl ?_
  refine op0 (sp_buildSlice (qs := [.val (.int .i64 r5), .val (.int .i64 r6)]) (need := []) (els := List.map en_int ([r5, r6] : List Int)) 2 rfl sl37 (by decide) (by decide) rfl rfl rfl (.v (.v (.nil))) (map_len fun _ => rfl) rfl rfl rfl) rfl trivial rfl rfl ?_
  obtain ⟨r7, h3, h⟩ := bind_inv h
  refine op1 0 rfl (sp_call (avs := [.ref 2]) (need := [.row 2 3 1 (List.map en_int ([r5, r6] : List Int))]) (v := .val (.int .i64 r7)) (news := []) rfl rfl rfl Try.call278 (atJ [(0, 2)] [] (fc_cmp_Or_int h3) rfl rfl) (.inr (fun x hx => nomatch hx))) rfl trivial rfl rfl ?_
  refine op0 (sp_assign rfl rfl) rfl trivial rfl rfl ?_
  refine TL.nil ?_
  cases h
  exact retJ [] (.tmp rfl .nil) rfl trivial rfl rfl
/- p_strike_best_from -/
def ev_p_strike_best_from_j2 (n : Nat) (l30 : List ((Int × Int) × Bool)) (i26 : Int) (i27 : Int) (i19 : Int) (i20 : Int) (l28 : List ((Int × Int) × (Int × Int))) (l29 : List ((Int × Int) × (Int × Bool))) (i24 : Int) (b25 : Bool) : Option (Nat × ((List ((Int × Int) × Bool)) × Bool × Int × Int × Int × Int × (List ((Int × Int) × (Int × Int))) × (List ((Int × Int) × (Int × Bool))))) :=
  some (0, (l30, true, i26, i27, i19, i20, (mput l28 (i19, i20) (i26, i27)), (mput l29 (i19, i20) (i24, b25))))
set_option maxRecDepth 100000 in
set_option maxHeartbeats 2000000 in
theorem ok_p_strike_best_from_j2 {n : Nat} {env0 : Env} {w0 : World} {M0 R0 : Nat → Prop} {l0 : Nat} {rec : Loop} {r : Nat × ((List ((Int × Int) × Bool)) × Bool × Int × Int × Int × Int × (List ((Int × Int) × (Int × Int))) × (List ((Int × Int) × (Int × Bool))))} {u14 : Value} {u13 : Value} {u12 : Value} {u11 : Value} {b1 : Bool} {b2 : Bool} {b4 : Int} {b5 : Int} {b3 : List (Int × Int)} {i19 : Int} {i20 : Int} {i21 : Int} {i22 : Int} {b23 : Bool} {i24 : Int} {b25 : Bool} {i26 : Int} {i27 : Int} {l28 : List ((Int × Int) × (Int × Int))} {l29 : List ((Int × Int) × (Int × Bool))} {l30 : List ((Int × Int) × Bool)} (h : ev_p_strike_best_from_j2 n l30 i26 i27 i19 i20 l28 l29 i24 b25 = some r) : TC Try.prog ⟨w0, M0, R0⟩ ⟨127, some l0, []⟩ (RoundQ ⟨w0, M0, R0⟩ (.inv 18 (recI l0 rec) :: [.pin 17 12 u14, .pin 16 11 u13, .pin 15 10 u12, .pin 14 9 u11, .inv 4 (mapI mk347 false en_bool r.2.1), .blk 12 [.val (.bool r.2.2.1)] 4, .blk 11 [.val (.int .i64 r.2.2.2.1), .val (.int .i64 r.2.2.2.2.1)] 353, .blk 10 [.val (.int .i64 r.2.2.2.2.2.1), .val (.int .i64 r.2.2.2.2.2.2.1)] 351, .blk 9 [.ptr 0 0] 344, .pin 6 2 (env0 2), .pin 7 3 (env0 3), .pin 8 4 (env0 4), .inv 2 (mapI mk345 true en_strike_cost r.2.2.2.2.2.2.2.1), .inv 3 (mapI mk346 true en_api_StrikeStep r.2.2.2.2.2.2.2.2), .rob 0 [.val (.bool b1), .val (.bool b2), .ref 1, .val (.int .i64 b4), .val (.int .i64 b5), .ref 2, .ref 3, .ref 4] 349, .ro 1 2 (List.map en_api_Span b3)]) [] r.1) [.code (sub (bodyOf Try.f204) [1, 1, 1, 1, 0, 1, 0, 1, 0, 1, 1, 1, 1, 1, 1, 1, 0, 0]), .code (sub (bodyOf Try.f204) [1, 1, 1, 1, 0, 1, 0, 1, 0, 1, 1, 1, 1, 1, 1, 1, 0, 1]), .inBlock 1] ([(2, .ptr 9 0), (3, .ptr 10 0), (4, .ptr 11 0), (5, .ptr 12 0), (6, .ptr 19 0), (10, .ptr 20 0)]) ([.blk 9 [.ptr 0 0] 344, .blk 10 [.val (.int .i64 i19), .val (.int .i64 i20)] 351, .blk 11 [.val (.int .i64 i21), .val (.int .i64 i22)] 353, .blk 12 [.val (.bool b23)] 4, .blk 19 [.val (.int .i64 i24), .val (.bool b25)] 127, .blk 20 [.val (.int .i64 i26), .val (.int .i64 i27)] 353, .rob 0 [.val (.bool b1), .val (.bool b2), .ref 1, .val (.int .i64 b4), .val (.int .i64 b5), .ref 2, .ref 3, .ref 4] 349, .ro 1 2 (List.map en_api_Span b3), .inv 2 (mapI mk345 true en_strike_cost l28), .inv 3 (mapI mk346 true en_api_StrikeStep l29), .inv 4 (mapI mk347 false en_bool l30), .inv 18 (recI l0 rec), .pin 17 12 u14, .pin 16 11 u13, .pin 15 10 u12, .pin 14 9 u11, .pin 6 2 (env0 2), .pin 7 3 (env0 3), .pin 8 4 (env0 4)]) := by
  rw [ev_p_strike_best_from_j2] at h
  refine TC.region ?_
  refine op1 5 rfl (sp_loadBA rfl isBlk rfl vt353 rfl rfl) rfl trivial rfl rfl ?_
  refine stoB 2 (cells' := [.val (.int .i64 i26), .val (.int .i64 i27)]) rfl rfl trivial rfl rfl rfl rfl vt353 rfl rfl rfl ?_
  refine stoB 3 (cells' := [.val (.bool true)]) rfl rfl trivial rfl rfl rfl rfl vt4 rfl rfl rfl ?_
  refine TL.nil ?_
  refine TC.stamp 8 21 22 (i19, i20) (.agg #[(.int .i64 0), (.int .i64 0)]) rfl rfl (fun u31 w32 v33 => ?_)
  refine TC.stamp 10 25 26 (i19, i20) (.agg #[(.int .i64 0), (.bool false)]) rfl rfl (fun u34 w35 v36 => ?_)
  refine drawJ 17 [⟨.ptr 0 0, [], [.blk 9 [.ptr 0 0] 344], []⟩, ⟨.ptr 0 0, [], [.rob 0 [.val (.bool b1), .val (.bool b2), .ref 1, .val (.int .i64 b4), .val (.int .i64 b5), .ref 2, .ref 3, .ref 4] 349], []⟩, ⟨.ptr 0 5, [], [.rob 0 [.val (.bool b1), .val (.bool b2), .ref 1, .val (.int .i64 b4), .val (.int .i64 b5), .ref 2, .ref 3, .ref 4] 349], []⟩, ⟨.ref 2, [], [.rob 0 [.val (.bool b1), .val (.bool b2), .ref 1, .val (.int .i64 b4), .val (.int .i64 b5), .ref 2, .ref 3, .ref 4] 349], []⟩, ⟨.agg [.val (.int .i64 i19), .val (.int .i64 i20)], [], [.blk 10 [.val (.int .i64 i19), .val (.int .i64 i20)] 351], []⟩, ⟨.ptr 0 0, [], [.blk 9 [.ptr 0 0] 344], []⟩, ⟨.ptr 0 0, [], [.rob 0 [.val (.bool b1), .val (.bool b2), .ref 1, .val (.int .i64 b4), .val (.int .i64 b5), .ref 2, .ref 3, .ref 4] 349], []⟩, ⟨.ptr 0 6, [], [.rob 0 [.val (.bool b1), .val (.bool b2), .ref 1, .val (.int .i64 b4), .val (.int .i64 b5), .ref 2, .ref 3, .ref 4] 349], []⟩, ⟨.ref 3, [], [.rob 0 [.val (.bool b1), .val (.bool b2), .ref 1, .val (.int .i64 b4), .val (.int .i64 b5), .ref 2, .ref 3, .ref 4] 349], []⟩, ⟨.agg [.val (.int .i64 i19), .val (.int .i64 i20)], [], [.blk 10 [.val (.int .i64 i19), .val (.int .i64 i20)] 351], []⟩, ⟨.agg [.val (.int .i64 i26), .val (.int .i64 i27)], [], [.blk 11 [.val (.int .i64 i26), .val (.int .i64 i27)] 353], []⟩, ⟨.agg [.val (.int .i64 i24), .val (.bool b25)], [], [.blk 19 [.val (.int .i64 i24), .val (.bool b25)] 127], []⟩, ⟨.tup [.val (w32), .val (.int .i64 (u31 : Int))], [.inv 27 ((mapV mk345 true en_strike_cost l28 (i19, i20) u31).at v33)], [.pin 22 2 v33], [.inv 21 ((mapU mk345 true en_strike_cost l28 (i19, i20) (.agg #[(.int .i64 0), (.int .i64 0)]) u31 w32).at v33)]⟩, ⟨.val (.int .i64 (u31 : Int)), [], [], []⟩, ⟨.val (undef), [.inv 28 ((mapI mk345 true en_strike_cost (mput l28 (i19, i20) (i26, i27))).at v33)], [.pin 22 2 v33], [.inv 27 ((mapV mk345 true en_strike_cost l28 (i19, i20) u31).at v33)]⟩, ⟨.tup [.val (w35), .val (.int .i64 (u34 : Int))], [.inv 29 ((mapV mk346 true en_api_StrikeStep l29 (i19, i20) u34).at v36)], [.pin 26 3 v36], [.inv 25 ((mapU mk346 true en_api_StrikeStep l29 (i19, i20) (.agg #[(.int .i64 0), (.bool false)]) u34 w35).at v36)]⟩, ⟨.val (.int .i64 (u34 : Int)), [], [], []⟩] rfl ?_ rfl ?_ rfl ?_ ?_
  · kernel_rfl
  · kernel_rfl
  · exact DAll.op' (sp_loadB rfl isBlk rfl vt344 rfl) trivial rfl (From.ok (ps := [(none, 2)]) ⟨⟨rfl, by kernel_rfl⟩, trivial⟩) (DAll.op' (sp_nilCheck rfl isRob rfl) trivial rfl (From.ok (ps := [(none, 8)]) ⟨⟨rfl, by kernel_rfl⟩, trivial⟩) (DAll.op' (sp_fieldAddrB rfl isRob rfl ft349_2 vt345 (by decide)) trivial rfl (From.ok (ps := [(none, 8)]) ⟨⟨rfl, by kernel_rfl⟩, trivial⟩) (DAll.op' (sp_loadB rfl isRob rfl vt345 rfl) trivial rfl (From.ok (ps := [(none, 8)]) ⟨⟨rfl, by kernel_rfl⟩, trivial⟩) (DAll.op' (sp_loadBA rfl isBlk rfl vt351 rfl rfl) trivial rfl (From.ok (ps := [(none, 3)]) ⟨⟨rfl, by kernel_rfl⟩, trivial⟩) (DAll.op' (sp_loadB rfl isBlk rfl vt344 rfl) trivial rfl (From.ok (ps := [(none, 2)]) ⟨⟨rfl, by kernel_rfl⟩, trivial⟩) (DAll.op' (sp_nilCheck rfl isRob rfl) trivial rfl (From.ok (ps := [(none, 8)]) ⟨⟨rfl, by kernel_rfl⟩, trivial⟩) (DAll.op' (sp_fieldAddrB rfl isRob rfl ft349_3 vt346 (by decide)) trivial rfl (From.ok (ps := [(none, 8)]) ⟨⟨rfl, by kernel_rfl⟩, trivial⟩) (DAll.op' (sp_loadB rfl isRob rfl vt346 rfl) trivial rfl (From.ok (ps := [(none, 8)]) ⟨⟨rfl, by kernel_rfl⟩, trivial⟩) (DAll.op' (sp_loadBA rfl isBlk rfl vt351 rfl rfl) trivial rfl (From.ok (ps := [(none, 3)]) ⟨⟨rfl, by kernel_rfl⟩, trivial⟩) (DAll.op' (sp_loadBA rfl isBlk rfl vt353 rfl rfl) trivial rfl (From.ok (ps := [(none, 4)]) ⟨⟨rfl, by kernel_rfl⟩, trivial⟩) (DAll.op' (sp_loadBA rfl isBlk rfl vt127 rfl rfl) trivial rfl (From.ok (ps := [(none, 6)]) ⟨⟨rfl, by kernel_rfl⟩, trivial⟩) (DAll.opT (ts_mapEntry (ek := mk345) (ag := true) (ev := en_strike_cost) (xs := l28) (k := (i19, i20)) (w := w32) 27 (0, 0) rfl rfl rfl (fun _ => rfl) km345 Try.zeroValue353 (fun W R => zok (ZL.v rfl (ZL.v rfl (ZL.nil))) rfl rfl W R) rfl) trivial (From.ok (ps := [(none, 10)]) ⟨⟨rfl, by kernel_rfl⟩, trivial⟩) (From.ok (ps := [(none, 1)]) ⟨⟨rfl, by kernel_rfl⟩, trivial⟩) (DAll.op' (sp_extract rfl rfl rfl) trivial rfl (From.ok (ps := []) trivial) (DAll.opT (ts_entryStore (ek := mk345) (ag := true) (ev := en_strike_cost) (xs := l28) (k := (i19, i20)) (need := []) 28 (i26, i27) rfl rfl rfl rfl rfl rfl (.v (.v (.nil))) (fun _ => .refl _) rfl) trivial (From.ok (ps := [(some 12, 0)]) ⟨⟨_, rfl, by kernel_rfl, rfl, by kernel_rfl⟩, trivial⟩) (From.ok (ps := [(none, 1)]) ⟨⟨rfl, by kernel_rfl⟩, trivial⟩) (DAll.opT (ts_mapEntry (ek := mk346) (ag := true) (ev := en_api_StrikeStep) (xs := l29) (k := (i19, i20)) (w := w35) 29 (0, false) rfl rfl rfl (fun _ => rfl) km346 Try.zeroValue127 (fun W R => zok (ZL.v rfl (ZL.v rfl (ZL.nil))) rfl rfl W R) rfl) trivial (From.ok (ps := [(none, 11)]) ⟨⟨rfl, by kernel_rfl⟩, trivial⟩) (From.ok (ps := [(none, 0)]) ⟨⟨rfl, by kernel_rfl⟩, trivial⟩) (DAll.op' (sp_extract rfl rfl rfl) trivial rfl (From.ok (ps := []) trivial) (.nil)))))))))))))))))
  refine TL.unstamp 1 3 rfl rfl rfl ?_
  refine opT (take := [.inv 29 ((mapV mk346 true en_api_StrikeStep l29 (i19, i20) u34).at v36)]) (need := [.pin 26 3 v36]) (V' := [.inv 30 ((mapI mk346 true en_api_StrikeStep (mput l29 (i19, i20) (i24, b25))).at v36), .inv 2 (mapI mk345 true en_strike_cost (mput l28 (i19, i20) (i26, i27))), .pin 26 3 v36, .pin 22 2 v33, .blk 9 [.ptr 0 0] 344, .blk 10 [.val (.int .i64 i19), .val (.int .i64 i20)] 351, .blk 11 [.val (.int .i64 i26), .val (.int .i64 i27)] 353, .blk 12 [.val (.bool true)] 4, .blk 19 [.val (.int .i64 i24), .val (.bool b25)] 127, .blk 20 [.val (.int .i64 i26), .val (.int .i64 i27)] 353, .rob 0 [.val (.bool b1), .val (.bool b2), .ref 1, .val (.int .i64 b4), .val (.int .i64 b5), .ref 2, .ref 3, .ref 4] 349, .ro 1 2 (List.map en_api_Span b3), .inv 4 (mapI mk347 false en_bool l30), .inv 18 (recI l0 rec), .pin 17 12 u14, .pin 16 11 u13, .pin 15 10 u12, .pin 14 9 u11, .pin 6 2 (env0 2), .pin 7 3 (env0 3), .pin 8 4 (env0 4)]) [0] [2] (ts_entryStore (ek := mk346) (ag := true) (ev := en_api_StrikeStep) (xs := l29) (k := (i19, i20)) (need := []) 30 (i24, b25) rfl rfl rfl rfl rfl rfl (.v (.v (.nil))) (fun _ => .refl _) rfl) trivial rfl ⟨rfl, trivial⟩ ⟨rfl, trivial⟩ rfl rfl ?_
  refine TL.unstamp 0 2 rfl rfl rfl ?_
  refine TL.nil ?_
  refine TC.inBlock ?_
  cases h
  exact bodyEnd [] ⟨mem_at 13 rfl, mem_at 14 rfl, mem_at 15 rfl, mem_at 16 rfl, mem_at 17 rfl, mem_at 12 rfl, mem_at 7 rfl, mem_at 6 rfl, mem_at 5 rfl, mem_at 4 rfl, mem_at 18 rfl, mem_at 19 rfl, mem_at 20 rfl, mem_at 1 rfl, mem_at 0 rfl, mem_at 10 rfl, mem_at 11 rfl, trivial⟩ rfl
def ev_p_strike_best_from_j1 (n : Nat) (i19 : Int) (i20 : Int) (i21 : Int) (i22 : Int) (b23 : Bool) (i24 : Int) (b25 : Bool) (i26 : Int) (i27 : Int) (l28 : List ((Int × Int) × (Int × Int))) (l29 : List ((Int × Int) × (Int × Bool))) (l30 : List ((Int × Int) × Bool)) : Option (Nat × ((List ((Int × Int) × Bool)) × Bool × Int × Int × Int × Int × (List ((Int × Int) × (Int × Int))) × (List ((Int × Int) × (Int × Bool))))) :=
  cond (!b23) (ev_p_strike_best_from_j2 n l30 i26 i27 i19 i20 l28 l29 i24 b25) ((ev_strike_cost_compare n i26 i27 i21 i22).bind fun r37 => cond (decide (r37 < 0)) (ev_p_strike_best_from_j2 n l30 i26 i27 i19 i20 l28 l29 i24 b25) (some (0, (l30, b23, i21, i22, i19, i20, l28, l29))))
set_option maxRecDepth 100000 in
set_option maxHeartbeats 2000000 in
theorem ok_p_strike_best_from_j1 {n : Nat} {env0 : Env} {w0 : World} {M0 R0 : Nat → Prop} {l0 : Nat} {rec : Loop} {r : Nat × ((List ((Int × Int) × Bool)) × Bool × Int × Int × Int × Int × (List ((Int × Int) × (Int × Int))) × (List ((Int × Int) × (Int × Bool))))} {u14 : Value} {u13 : Value} {u12 : Value} {u11 : Value} {b1 : Bool} {b2 : Bool} {b4 : Int} {b5 : Int} {b3 : List (Int × Int)} {i19 : Int} {i20 : Int} {i21 : Int} {i22 : Int} {b23 : Bool} {i24 : Int} {b25 : Bool} {i26 : Int} {i27 : Int} {l28 : List ((Int × Int) × (Int × Int))} {l29 : List ((Int × Int) × (Int × Bool))} {l30 : List ((Int × Int) × Bool)} (h : ev_p_strike_best_from_j1 n i19 i20 i21 i22 b23 i24 b25 i26 i27 l28 l29 l30 = some r) : TC Try.prog ⟨w0, M0, R0⟩ ⟨127, some l0, []⟩ (RoundQ ⟨w0, M0, R0⟩ (.inv 18 (recI l0 rec) :: [.pin 17 12 u14, .pin 16 11 u13, .pin 15 10 u12, .pin 14 9 u11, .inv 4 (mapI mk347 false en_bool r.2.1), .blk 12 [.val (.bool r.2.2.1)] 4, .blk 11 [.val (.int .i64 r.2.2.2.1), .val (.int .i64 r.2.2.2.2.1)] 353, .blk 10 [.val (.int .i64 r.2.2.2.2.2.1), .val (.int .i64 r.2.2.2.2.2.2.1)] 351, .blk 9 [.ptr 0 0] 344, .pin 6 2 (env0 2), .pin 7 3 (env0 3), .pin 8 4 (env0 4), .inv 2 (mapI mk345 true en_strike_cost r.2.2.2.2.2.2.2.1), .inv 3 (mapI mk346 true en_api_StrikeStep r.2.2.2.2.2.2.2.2), .rob 0 [.val (.bool b1), .val (.bool b2), .ref 1, .val (.int .i64 b4), .val (.int .i64 b5), .ref 2, .ref 3, .ref 4] 349, .ro 1 2 (List.map en_api_Span b3)]) [] r.1) [.code (sub (bodyOf Try.f204) [1, 1, 1, 1, 0, 1, 0, 1, 0, 1, 1, 1, 1, 1, 1, 0]), .code (sub (bodyOf Try.f204) [1, 1, 1, 1, 0, 1, 0, 1, 0, 1, 1, 1, 1, 1, 1, 1]), .inBlock 1] ([(2, .ptr 9 0), (3, .ptr 10 0), (4, .ptr 11 0), (5, .ptr 12 0), (6, .ptr 19 0), (10, .ptr 20 0)]) ([.blk 9 [.ptr 0 0] 344, .blk 10 [.val (.int .i64 i19), .val (.int .i64 i20)] 351, .blk 11 [.val (.int .i64 i21), .val (.int .i64 i22)] 353, .blk 12 [.val (.bool b23)] 4, .blk 19 [.val (.int .i64 i24), .val (.bool b25)] 127, .blk 20 [.val (.int .i64 i26), .val (.int .i64 i27)] 353, .rob 0 [.val (.bool b1), .val (.bool b2), .ref 1, .val (.int .i64 b4), .val (.int .i64 b5), .ref 2, .ref 3, .ref 4] 349, .ro 1 2 (List.map en_api_Span b3), .inv 2 (mapI mk345 true en_strike_cost l28), .inv 3 (mapI mk346 true en_api_StrikeStep l29), .inv 4 (mapI mk347 false en_bool l30), .inv 18 (recI l0 rec), .pin 17 12 u14, .pin 16 11 u13, .pin 15 10 u12, .pin 14 9 u11, .pin 6 2 (env0 2), .pin 7 3 (env0 3), .pin 8 4 (env0 4)]) := by
  rw [ev_p_strike_best_from_j1] at h
  refine TC.region ?_
  refine op1 3 rfl (sp_loadB rfl isBlk rfl vt4 rfl) rfl trivial rfl rfl ?_
  refine op0 (sp_not rfl rfl) rfl trivial rfl rfl ?_
  refine op0 (sp_move rfl rfl) rfl trivial rfl rfl ?_
  rcases cond_cases h with ⟨h12, h⟩ | ⟨h12, h⟩
  · refine (boolLit 102 rfl h12).2 ?_
    refine opSkip rfl ⟨_, rfl, .inl rfl⟩ rfl ?_
    refine opSkip rfl ⟨_, rfl, .inl rfl⟩ rfl ?_
    refine opSkip rfl ⟨_, rfl, .inl rfl⟩ rfl ?_
    refine opSkip rfl ⟨_, rfl, .inl rfl⟩ rfl ?_
    refine op0 (sp_pickT rfl rfl rfl) rfl trivial rfl rfl ?_
    refine TL.nil ?_
    refine TC.condT rfl ?_
    refine TC.seq ?_
    refine subJ [] (ok_p_strike_best_from_j2 (u14 := u14) (u13 := u13) (u12 := u12) (u11 := u11) (b1 := b1) (b2 := b2) (b4 := b4) (b5 := b5) (b3 := b3) (i21 := i21) (i22 := i22) (b23 := b23) h) ?_ ?_ ?_
    · exact ⟨rfl, rfl, rfl, rfl, rfl, rfl, trivial⟩
    · exact ⟨mem_at 0 rfl, mem_at 1 rfl, mem_at 2 rfl, mem_at 3 rfl, mem_at 4 rfl, mem_at 5 rfl, mem_at 6 rfl, mem_at 7 rfl, mem_at 8 rfl, mem_at 9 rfl, mem_at 10 rfl, mem_at 11 rfl, mem_at 12 rfl, mem_at 13 rfl, mem_at 14 rfl, mem_at 15 rfl, mem_at 16 rfl, mem_at 17 rfl, mem_at 18 rfl, trivial⟩
    · rfl
  · refine (boolLit 102 rfl h12).2 ?_
    refine op1 5 rfl (sp_loadBA rfl isBlk rfl vt353 rfl rfl) rfl ⟨_, rfl, rfl⟩ rfl rfl ?_
    refine op1 2 rfl (sp_loadBA rfl isBlk rfl vt353 rfl rfl) rfl ⟨_, rfl, rfl⟩ rfl rfl ?_
    obtain ⟨r37, h13, h⟩ := bind_inv h
    refine op0 (sp_call (avs := [.agg [.val (.int .i64 i26), .val (.int .i64 i27)], .agg [.val (.int .i64 i21), .val (.int .i64 i22)]]) (need := []) (v := .val (.int .i64 r37)) (news := []) rfl rfl rfl Try.call259 (atJ [] [] (fc_strike_cost_compare h13) rfl rfl) (.inl (roAll rfl))) rfl ⟨_, rfl, rfl⟩ rfl rfl ?_
    refine op0 (sp_lss rfl rfl rfl) rfl ⟨_, rfl, rfl⟩ rfl rfl ?_
    refine op0 (sp_pickF rfl rfl rfl) rfl trivial rfl rfl ?_
    refine TL.nil ?_
    refine TC.cond (b := (decide (r37 < 0))) rfl (fun h14 => ?_) (fun h14 => ?_)
    · have h := cond_t h h14
      refine TC.seq ?_
      refine subJ [] (ok_p_strike_best_from_j2 (u14 := u14) (u13 := u13) (u12 := u12) (u11 := u11) (b1 := b1) (b2 := b2) (b4 := b4) (b5 := b5) (b3 := b3) (i21 := i21) (i22 := i22) (b23 := b23) h) ?_ ?_ ?_
      · exact ⟨rfl, rfl, rfl, rfl, rfl, rfl, trivial⟩
      · exact ⟨mem_at 0 rfl, mem_at 1 rfl, mem_at 2 rfl, mem_at 3 rfl, mem_at 4 rfl, mem_at 5 rfl, mem_at 6 rfl, mem_at 7 rfl, mem_at 8 rfl, mem_at 9 rfl, mem_at 10 rfl, mem_at 11 rfl, mem_at 12 rfl, mem_at 13 rfl, mem_at 14 rfl, mem_at 15 rfl, mem_at 16 rfl, mem_at 17 rfl, mem_at 18 rfl, trivial⟩
      · rfl
    · have h := cond_f h h14
      refine TC.skip ?_
      refine TC.inBlock ?_
      cases h
      exact bodyEnd [] ⟨mem_at 11 rfl, mem_at 12 rfl, mem_at 13 rfl, mem_at 14 rfl, mem_at 15 rfl, mem_at 10 rfl, mem_at 3 rfl, mem_at 2 rfl, mem_at 1 rfl, mem_at 0 rfl, mem_at 16 rfl, mem_at 17 rfl, mem_at 18 rfl, mem_at 8 rfl, mem_at 9 rfl, mem_at 6 rfl, mem_at 7 rfl, trivial⟩ rfl
def ev_p_strike_best_from_r0 (n : Nat) (b1 : Bool) (b2 : Bool) (b3 : List (Int × Int)) (b4 : Int) (b5 : Int) (self : Bool → Bool → (List (Int × Int)) → Int → Int → (List ((Int × Int) × (Int × Int))) → (List ((Int × Int) × (Int × Bool))) → (List ((Int × Int) × Bool)) → Int → Int → Option (Int × Int × Bool × (List ((Int × Int) × (Int × Int))) × (List ((Int × Int) × (Int × Bool))) × (List ((Int × Int) × Bool)))) (x15 : Int × Bool) (y16 : (List ((Int × Int) × Bool)) × Bool × Int × Int × Int × Int × (List ((Int × Int) × (Int × Int))) × (List ((Int × Int) × (Int × Bool)))) : Option (Nat × ((List ((Int × Int) × Bool)) × Bool × Int × Int × Int × Int × (List ((Int × Int) × (Int × Int))) × (List ((Int × Int) × (Int × Bool))))) :=
  (ev_strike_train_step n b1 b2 b3 b4 y16.2.2.2.2.1 y16.2.2.2.2.2.1 x15.1 x15.2).bind fun r17 => cond (r17.2.2 != 0) (some (0, (y16.1, y16.2.1, y16.2.2.1, y16.2.2.2.1, y16.2.2.2.2.1, y16.2.2.2.2.2.1, y16.2.2.2.2.2.2.1, y16.2.2.2.2.2.2.2))) (chk (in64 (y16.2.2.2.2.1 + 1)) <| (self b1 b2 b3 b4 b5 y16.2.2.2.2.2.2.1 y16.2.2.2.2.2.2.2 y16.1 (y16.2.2.2.2.1 + 1) r17.1).bind fun r18 => cond (!r18.2.2.1) (some (0, (r18.2.2.2.2.2, y16.2.1, y16.2.2.1, y16.2.2.2.1, y16.2.2.2.2.1, y16.2.2.2.2.2.1, r18.2.2.2.1, r18.2.2.2.2.1))) (chk (in64 (r18.1 + r17.2.1)) <| cond x15.2 (chk (in64 (r18.2.1 + 1)) <| ev_p_strike_best_from_j1 n y16.2.2.2.2.1 y16.2.2.2.2.2.1 y16.2.2.1 y16.2.2.2.1 y16.2.1 x15.1 x15.2 (r18.1 + r17.2.1) (r18.2.1 + 1) r18.2.2.2.1 r18.2.2.2.2.1 r18.2.2.2.2.2) (ev_p_strike_best_from_j1 n y16.2.2.2.2.1 y16.2.2.2.2.2.1 y16.2.2.1 y16.2.2.2.1 y16.2.1 x15.1 x15.2 (r18.1 + r17.2.1) r18.2.1 r18.2.2.2.1 r18.2.2.2.2.1 r18.2.2.2.2.2)))
set_option maxRecDepth 100000 in
set_option maxHeartbeats 2000000 in
theorem ok_p_strike_best_from_r0 {n : Nat} {env0 : Env} {u14 : Value} {u13 : Value} {u12 : Value} {u11 : Value} {b1 : Bool} {b2 : Bool} {b4 : Int} {b5 : Int} {b3 : List (Int × Int)} {self : Bool → Bool → (List (Int × Int)) → Int → Int → (List ((Int × Int) × (Int × Int))) → (List ((Int × Int) × (Int × Bool))) → (List ((Int × Int) × Bool)) → Int → Int → Option (Int × Int × Bool × (List ((Int × Int) × (Int × Int))) × (List ((Int × Int) × (Int × Bool))) × (List ((Int × Int) × Bool)))} (hself : ∀ (b1z : Bool) (b2z : Bool) (b3z : List (Int × Int)) (b4z : Int) (b5z : Int) (b6z : List ((Int × Int) × (Int × Int))) (b7z : List ((Int × Int) × (Int × Bool))) (b8z : List ((Int × Int) × Bool)) (p9z : Int) (p10z : Int) (r : Int × Int × Bool × (List ((Int × Int) × (Int × Int))) × (List ((Int × Int) × (Int × Bool))) × (List ((Int × Int) × Bool))), self b1z b2z b3z b4z b5z b6z b7z b8z p9z p10z = some r → FT Try.prog 204 [.ptr 0 0, .agg [.val (.int .i64 p9z), .val (.int .i64 p10z)]] [.inv 2 (mapI mk345 true en_strike_cost b6z), .inv 3 (mapI mk346 true en_api_StrikeStep b7z), .inv 4 (mapI mk347 false en_bool b8z)] [.rob 0 [.val (.bool b1z), .val (.bool b2z), .ref 1, .val (.int .i64 b4z), .val (.int .i64 b5z), .ref 2, .ref 3, .ref 4] 349, .ro 1 2 (List.map en_api_Span b3z)] (.tup [.agg [.val (.int .i64 r.1), .val (.int .i64 r.2.1)], .val (.bool r.2.2.1)]) [.inv 2 (mapI mk345 true en_strike_cost r.2.2.2.1), .inv 3 (mapI mk346 true en_api_StrikeStep r.2.2.2.2.1), .inv 4 (mapI mk347 false en_bool r.2.2.2.2.2)]) {x15 : Int × Bool} {y16 : (List ((Int × Int) × Bool)) × Bool × Int × Int × Int × Int × (List ((Int × Int) × (Int × Int))) × (List ((Int × Int) × (Int × Bool)))} {r : Nat × ((List ((Int × Int) × Bool)) × Bool × Int × Int × Int × Int × (List ((Int × Int) × (Int × Int))) × (List ((Int × Int) × (Int × Bool))))} (h : ev_p_strike_best_from_r0 n b1 b2 b3 b4 b5 self x15 y16 = some r) (l0 : Nat) (rec : Loop) (hrd : rec.state = .ready) (w0 : World) (M0 R0 : Nat → Prop) : TC Try.prog ⟨w0, M0, R0⟩ ⟨127, some l0, []⟩ (RoundQ ⟨w0, M0, R0⟩ (.inv 18 (recI l0 (busyR rec)) :: [.pin 17 12 u14, .pin 16 11 u13, .pin 15 10 u12, .pin 14 9 u11, .inv 4 (mapI mk347 false en_bool r.2.1), .blk 12 [.val (.bool r.2.2.1)] 4, .blk 11 [.val (.int .i64 r.2.2.2.1), .val (.int .i64 r.2.2.2.2.1)] 353, .blk 10 [.val (.int .i64 r.2.2.2.2.2.1), .val (.int .i64 r.2.2.2.2.2.2.1)] 351, .blk 9 [.ptr 0 0] 344, .pin 6 2 (env0 2), .pin 7 3 (env0 3), .pin 8 4 (env0 4), .inv 2 (mapI mk345 true en_strike_cost r.2.2.2.2.2.2.2.1), .inv 3 (mapI mk346 true en_api_StrikeStep r.2.2.2.2.2.2.2.2), .rob 0 [.val (.bool b1), .val (.bool b2), .ref 1, .val (.int .i64 b4), .val (.int .i64 b5), .ref 2, .ref 3, .ref 4] 349, .ro 1 2 (List.map en_api_Span b3)]) [] r.1) [.code (sub (bodyOf Try.f204) [1, 1, 1, 1, 0, 1, 0, 0]), .beginRound, .code (sub (bodyOf Try.f204) [1, 1, 1, 1, 0, 1, 0, 1])] (pSlots [60] (ye_funcapi_StrikeStep_bool x15) [(2, .ptr 9 0), (3, .ptr 10 0), (4, .ptr 11 0), (5, .ptr 12 0)]) (.inv 18 (recI l0 rec) :: yn_funcapi_StrikeStep_bool x15 ++ (fun y16 : (List ((Int × Int) × Bool)) × Bool × Int × Int × Int × Int × (List ((Int × Int) × (Int × Int))) × (List ((Int × Int) × (Int × Bool))) => [.pin 17 12 u14, .pin 16 11 u13, .pin 15 10 u12, .pin 14 9 u11, .inv 4 (mapI mk347 false en_bool y16.1), .blk 12 [.val (.bool y16.2.1)] 4, .blk 11 [.val (.int .i64 y16.2.2.1), .val (.int .i64 y16.2.2.2.1)] 353, .blk 10 [.val (.int .i64 y16.2.2.2.2.1), .val (.int .i64 y16.2.2.2.2.2.1)] 351, .blk 9 [.ptr 0 0] 344, .pin 6 2 (env0 2), .pin 7 3 (env0 3), .pin 8 4 (env0 4), .inv 2 (mapI mk345 true en_strike_cost y16.2.2.2.2.2.2.1), .inv 3 (mapI mk346 true en_api_StrikeStep y16.2.2.2.2.2.2.2), .rob 0 [.val (.bool b1), .val (.bool b2), .ref 1, .val (.int .i64 b4), .val (.int .i64 b5), .ref 2, .ref 3, .ref 4] 349, .ro 1 2 (List.map en_api_Span b3)]) y16) := by
  rw [ev_p_strike_best_from_r0] at h
  refine subJ (s' := [(2, .ptr 9 0), (3, .ptr 10 0), (4, .ptr 11 0), (5, .ptr 12 0), (60, .agg [.val (.int .i64 x15.1), .val (.bool x15.2)])]) (V' := [.inv 18 (recI l0 rec), .pin 17 12 u14, .pin 16 11 u13, .pin 15 10 u12, .pin 14 9 u11, .inv 4 (mapI mk347 false en_bool y16.1), .blk 12 [.val (.bool y16.2.1)] 4, .blk 11 [.val (.int .i64 y16.2.2.1), .val (.int .i64 y16.2.2.2.1)] 353, .blk 10 [.val (.int .i64 y16.2.2.2.2.1), .val (.int .i64 y16.2.2.2.2.2.1)] 351, .blk 9 [.ptr 0 0] 344, .pin 6 2 (env0 2), .pin 7 3 (env0 3), .pin 8 4 (env0 4), .inv 2 (mapI mk345 true en_strike_cost y16.2.2.2.2.2.2.1), .inv 3 (mapI mk346 true en_api_StrikeStep y16.2.2.2.2.2.2.2), .rob 0 [.val (.bool b1), .val (.bool b2), .ref 1, .val (.int .i64 b4), .val (.int .i64 b5), .ref 2, .ref 3, .ref 4] 349, .ro 1 2 (List.map en_api_Span b3)]) [] ?_ ⟨rfl, rfl, rfl, rfl, rfl, trivial⟩ ⟨mem_at 0 rfl, mem_at 1 rfl, mem_at 2 rfl, mem_at 3 rfl, mem_at 4 rfl, mem_at 5 rfl, mem_at 6 rfl, mem_at 7 rfl, mem_at 8 rfl, mem_at 9 rfl, mem_at 10 rfl, mem_at 11 rfl, mem_at 12 rfl, mem_at 13 rfl, mem_at 14 rfl, mem_at 15 rfl, mem_at 16 rfl, trivial⟩ rfl
  refine TC.region ?_
  refine op0 (sp_alloc 19 rfl Try.zeroValue127 rfl) rfl trivial rfl rfl ?_
  refine stoB 0 (cells' := [.val (.int .i64 x15.1), .val (.bool x15.2)]) rfl rfl trivial rfl rfl rfl rfl vt127 rfl rfl rfl ?_
  refine TL.nil ?_
  refine TC.beginRound 1 rfl hrd ?_
  refine TC.block ?_
  refine TC.seq ?_
  obtain ⟨r17, h4, h⟩ := bind_inv h
  refine drawJ 16 [⟨.ptr 0 0, [], [.blk 9 [.ptr 0 0] 344], []⟩, ⟨.ptr 0 0, [], [.rob 0 [.val (.bool b1), .val (.bool b2), .ref 1, .val (.int .i64 b4), .val (.int .i64 b5), .ref 2, .ref 3, .ref 4] 349], []⟩, ⟨.ptr 0 0, [], [.rob 0 [.val (.bool b1), .val (.bool b2), .ref 1, .val (.int .i64 b4), .val (.int .i64 b5), .ref 2, .ref 3, .ref 4] 349], []⟩, ⟨.agg [.val (.bool b1), .val (.bool b2), .ref 1, .val (.int .i64 b4)], [], [.rob 0 [.val (.bool b1), .val (.bool b2), .ref 1, .val (.int .i64 b4), .val (.int .i64 b5), .ref 2, .ref 3, .ref 4] 349], []⟩, ⟨.ptr 10 0, [], [.blk 10 [.val (.int .i64 y16.2.2.2.2.1), .val (.int .i64 y16.2.2.2.2.2.1)] 351], []⟩, ⟨.val (.int .i64 y16.2.2.2.2.1), [], [.blk 10 [.val (.int .i64 y16.2.2.2.2.1), .val (.int .i64 y16.2.2.2.2.2.1)] 351], []⟩, ⟨.ptr 10 1, [], [.blk 10 [.val (.int .i64 y16.2.2.2.2.1), .val (.int .i64 y16.2.2.2.2.2.1)] 351], []⟩, ⟨.val (.int .i64 y16.2.2.2.2.2.1), [], [.blk 10 [.val (.int .i64 y16.2.2.2.2.1), .val (.int .i64 y16.2.2.2.2.2.1)] 351], []⟩, ⟨.agg [.val (.int .i64 x15.1), .val (.bool x15.2)], [], [.blk 19 [.val (.int .i64 x15.1), .val (.bool x15.2)] 127], []⟩, ⟨.tup [.val (.int .i64 r17.1), .val (.int .i64 r17.2.1), .val (.int .i64 r17.2.2)], [], [.ro 1 2 (List.map en_api_Span b3)], []⟩, ⟨.tup [.val (.int .i64 r17.1), .val (.int .i64 r17.2.1), .val (.int .i64 r17.2.2)], [], [], []⟩, ⟨.val (.int .i64 r17.1), [], [], []⟩, ⟨.val (.int .i64 r17.2.1), [], [], []⟩, ⟨.val (.int .i64 r17.2.2), [], [], []⟩, ⟨.val (.int .i64 r17.1), [], [], []⟩, ⟨.val (.int .i64 r17.2.1), [], [], []⟩] rfl ?_ rfl ?_ rfl ?_ ?_
  · kernel_rfl
  · kernel_rfl
  · exact DAll.op' (sp_loadB rfl isBlk rfl vt344 rfl) trivial rfl (From.ok (ps := [(none, 10)]) ⟨⟨rfl, rfl⟩, trivial⟩) (DAll.op' (sp_nilCheck rfl isRob rfl) trivial rfl (From.ok (ps := [(none, 16)]) ⟨⟨rfl, rfl⟩, trivial⟩) (DAll.op' (sp_fieldAddrB rfl isRob rfl ft349_0 vt250 (by decide)) trivial rfl (From.ok (ps := [(none, 16)]) ⟨⟨rfl, rfl⟩, trivial⟩) (DAll.op' (sp_loadBA rfl isRob rfl vt250 rfl rfl) trivial rfl (From.ok (ps := [(none, 16)]) ⟨⟨rfl, rfl⟩, trivial⟩) (DAll.op' (sp_fieldAddrB rfl isBlk rfl ft351_0 vt3 (by decide)) trivial rfl (From.ok (ps := [(none, 9)]) ⟨⟨rfl, rfl⟩, trivial⟩) (DAll.op' (sp_loadB rfl isBlk rfl vt3 rfl) trivial rfl (From.ok (ps := [(none, 9)]) ⟨⟨rfl, rfl⟩, trivial⟩) (DAll.op' (sp_fieldAddrB rfl isBlk rfl ft351_1 vt3 (by decide)) trivial rfl (From.ok (ps := [(none, 9)]) ⟨⟨rfl, rfl⟩, trivial⟩) (DAll.op' (sp_loadB rfl isBlk rfl vt3 rfl) trivial rfl (From.ok (ps := [(none, 9)]) ⟨⟨rfl, rfl⟩, trivial⟩) (DAll.op' (sp_loadBA rfl isBlk rfl vt127 rfl rfl) trivial rfl (From.ok (ps := [(none, 0)]) ⟨⟨rfl, rfl⟩, trivial⟩) (DAll.op' (sp_call (avs := [.agg [.val (.bool b1), .val (.bool b2), .ref 1, .val (.int .i64 b4)], .val (.int .i64 y16.2.2.2.2.1), .val (.int .i64 y16.2.2.2.2.2.1), .agg [.val (.int .i64 x15.1), .val (.bool x15.2)]]) (need := [.ro 1 2 (List.map en_api_Span b3)]) (v := .tup [.val (.int .i64 r17.1), .val (.int .i64 r17.2.1), .val (.int .i64 r17.2.2)]) (news := []) rfl rfl rfl Try.call113 (atJ [(0, 1)] [] (fc_strike_train_step h4) rfl rfl) (.inl (roAll rfl))) trivial rfl (From.ok (ps := [(none, 17)]) ⟨⟨rfl, rfl⟩, trivial⟩) (DAll.op' (sp_move rfl rfl) trivial rfl (From.ok (ps := []) trivial) (DAll.op' (sp_extract rfl rfl rfl) trivial rfl (From.ok (ps := []) trivial) (DAll.op' (sp_extract rfl rfl rfl) trivial rfl (From.ok (ps := []) trivial) (DAll.op' (sp_extract rfl rfl rfl) trivial rfl (From.ok (ps := []) trivial) (DAll.op' (sp_assign rfl rfl) trivial rfl (From.ok (ps := []) trivial) (DAll.op' (sp_assign rfl rfl) trivial rfl (From.ok (ps := []) trivial) (.nil))))))))))))))))
  refine op0 (sp_assign rfl rfl) rfl trivial rfl rfl ?_
  refine TL.nil ?_
  refine TC.seq ?_
  refine TC.seq ?_
  refine TC.region ?_
  refine op0 (sp_move rfl rfl) rfl trivial rfl rfl ?_
  refine op0 (sp_neq rfl rfl rfl) rfl trivial rfl rfl ?_
  refine TL.nil ?_
  refine TC.cond (b := (r17.2.2 != 0)) rfl (fun h5 => ?_) (fun h5 => ?_)
  · have h := cond_t h h5
    refine TC.exit rfl ?_
    cases h
    exact bodyEnd [] ⟨mem_at 1 rfl, mem_at 2 rfl, mem_at 3 rfl, mem_at 4 rfl, mem_at 5 rfl, mem_at 6 rfl, mem_at 7 rfl, mem_at 8 rfl, mem_at 9 rfl, mem_at 10 rfl, mem_at 11 rfl, mem_at 12 rfl, mem_at 13 rfl, mem_at 14 rfl, mem_at 15 rfl, mem_at 16 rfl, mem_at 17 rfl, trivial⟩ rfl
  · have h := cond_f h h5
    refine TC.skip ?_
    refine TC.seq ?_
    refine TC.region ?_
    refine op1 10 rfl (sp_loadB rfl isBlk rfl vt344 rfl) rfl trivial rfl rfl ?_
    refine op1 9 rfl (sp_fieldAddrB rfl isBlk rfl ft351_0 vt3 (by decide)) rfl trivial rfl rfl ?_
    refine op1 9 rfl (sp_loadB rfl isBlk rfl vt3 rfl) rfl trivial rfl rfl ?_
    obtain ⟨h6, h⟩ := chk_inv h
    refine op0 (sp_add rfl rfl rfl h6) rfl trivial rfl rfl ?_
    refine op0 (sp_move rfl rfl) rfl trivial rfl rfl ?_
    refine op0 (sp_build (qs := [(0, .val (.int .i64 (y16.2.2.2.2.1 + 1))), (1, .val (.int .i64 r17.1))]) rfl bt351 rfl rfl rfl rfl) rfl trivial rfl rfl ?_
    obtain ⟨r18, h7, h⟩ := bind_inv h
    refine opT (take := [.inv 2 (mapI mk345 true en_strike_cost y16.2.2.2.2.2.2.1), .inv 3 (mapI mk346 true en_api_StrikeStep y16.2.2.2.2.2.2.2), .inv 4 (mapI mk347 false en_bool y16.1)]) (need := [.rob 0 [.val (.bool b1), .val (.bool b2), .ref 1, .val (.int .i64 b4), .val (.int .i64 b5), .ref 2, .ref 3, .ref 4] 349, .ro 1 2 (List.map en_api_Span b3)]) (V' := [.inv 2 (mapI mk345 true en_strike_cost r18.2.2.2.1), .inv 3 (mapI mk346 true en_api_StrikeStep r18.2.2.2.2.1), .inv 4 (mapI mk347 false en_bool r18.2.2.2.2.2), .blk 19 [.val (.int .i64 x15.1), .val (.bool x15.2)] 127, .inv 18 (recI l0 (busyR rec)), .pin 17 12 u14, .pin 16 11 u13, .pin 15 10 u12, .pin 14 9 u11, .blk 12 [.val (.bool y16.2.1)] 4, .blk 11 [.val (.int .i64 y16.2.2.1), .val (.int .i64 y16.2.2.2.1)] 353, .blk 10 [.val (.int .i64 y16.2.2.2.2.1), .val (.int .i64 y16.2.2.2.2.2.1)] 351, .blk 9 [.ptr 0 0] 344, .pin 6 2 (env0 2), .pin 7 3 (env0 3), .pin 8 4 (env0 4), .rob 0 [.val (.bool b1), .val (.bool b2), .ref 1, .val (.int .i64 b4), .val (.int .i64 b5), .ref 2, .ref 3, .ref 4] 349, .ro 1 2 (List.map en_api_Span b3)]) [14, 15, 6] [16, 17] (ts_call (avs := [.ptr 0 0, .agg [.val (.int .i64 (y16.2.2.2.2.1 + 1)), .val (.int .i64 r17.1)]]) (take := [.inv 2 (mapI mk345 true en_strike_cost y16.2.2.2.2.2.2.1), .inv 3 (mapI mk346 true en_api_StrikeStep y16.2.2.2.2.2.2.2), .inv 4 (mapI mk347 false en_bool y16.1)]) (need := [.rob 0 [.val (.bool b1), .val (.bool b2), .ref 1, .val (.int .i64 b4), .val (.int .i64 b5), .ref 2, .ref 3, .ref 4] 349, .ro 1 2 (List.map en_api_Span b3)]) (v := .tup [.agg [.val (.int .i64 r18.1), .val (.int .i64 r18.2.1)], .val (.bool r18.2.2.1)]) (news := [.inv 2 (mapI mk345 true en_strike_cost r18.2.2.2.1), .inv 3 (mapI mk346 true en_api_StrikeStep r18.2.2.2.2.1), .inv 4 (mapI mk347 false en_bool r18.2.2.2.2.2)]) rfl rfl rfl Try.call204 (atT [] [] (hself _ _ _ _ _ _ _ _ _ _ _ h7) rfl rfl rfl) rfl rfl) trivial rfl ⟨rfl, rfl, rfl, trivial⟩ ⟨rfl, rfl, trivial⟩ rfl rfl ?_
    refine op0 (sp_move rfl rfl) rfl trivial rfl rfl ?_
    refine op0 (sp_extract rfl rfl rfl) rfl trivial rfl rfl ?_
    refine op0 (sp_extract rfl rfl rfl) rfl trivial rfl rfl ?_
    refine op0 (sp_alloc 20 rfl Try.zeroValue353 rfl) rfl trivial rfl rfl ?_
    refine stoB 0 (cells' := [.val (.int .i64 r18.1), .val (.int .i64 r18.2.1)]) rfl rfl trivial rfl rfl rfl rfl vt353 rfl rfl rfl ?_
    refine op0 (sp_assign rfl rfl) rfl trivial rfl rfl ?_
    refine TL.nil ?_
    refine TC.seq ?_
    refine TC.seq ?_
    refine TC.region ?_
    refine op0 (sp_move rfl rfl) rfl trivial rfl rfl ?_
    refine op0 (sp_not rfl rfl) rfl trivial rfl rfl ?_
    refine TL.nil ?_
    refine TC.cond (b := (!r18.2.2.1)) rfl (fun h8 => ?_) (fun h8 => ?_)
    · have h := cond_t h h8
      refine TC.exit rfl ?_
      cases h
      exact bodyEnd [] ⟨mem_at 5 rfl, mem_at 6 rfl, mem_at 7 rfl, mem_at 8 rfl, mem_at 9 rfl, mem_at 3 rfl, mem_at 10 rfl, mem_at 11 rfl, mem_at 12 rfl, mem_at 13 rfl, mem_at 14 rfl, mem_at 15 rfl, mem_at 16 rfl, mem_at 1 rfl, mem_at 2 rfl, mem_at 17 rfl, mem_at 18 rfl, trivial⟩ rfl
    · have h := cond_f h h8
      refine TC.skip ?_
      refine TC.seq ?_
      refine TC.region ?_
      refine op1 0 rfl (sp_fieldAddrB rfl isBlk rfl ft353_0 vt3 (by decide)) rfl trivial rfl rfl ?_
      refine op1 0 rfl (sp_loadB rfl isBlk rfl vt3 rfl) rfl trivial rfl rfl ?_
      refine op0 (sp_move rfl rfl) rfl trivial rfl rfl ?_
      obtain ⟨h9, h⟩ := chk_inv h
      refine op0 (sp_add rfl rfl rfl h9) rfl trivial rfl rfl ?_
      refine op1 0 rfl (sp_fieldAddrB rfl isBlk rfl ft353_0 vt3 (by decide)) rfl trivial rfl rfl ?_
      refine stoB 0 (cells' := [.val (.int .i64 (r18.1 + r17.2.1)), .val (.int .i64 r18.2.1)]) rfl rfl trivial rfl rfl rfl rfl vt3 rfl rfl rfl ?_
      refine TL.nil ?_
      refine TC.seq ?_
      refine TC.seq ?_
      refine TC.region ?_
      refine op1 4 rfl (sp_fieldAddrB rfl isBlk rfl ft127_1 vt4 (by decide)) rfl trivial rfl rfl ?_
      refine op1 4 rfl (sp_loadB rfl isBlk rfl vt4 rfl) rfl trivial rfl rfl ?_
      refine TL.nil ?_
      refine TC.cond (b := x15.2) rfl (fun h10 => ?_) (fun h10 => ?_)
      · have h := cond_t h h10
        refine TC.region ?_
        refine op1 0 rfl (sp_fieldAddrB rfl isBlk rfl ft353_1 vt3 (by decide)) rfl trivial rfl rfl ?_
        refine op1 0 rfl (sp_loadB rfl isBlk rfl vt3 rfl) rfl trivial rfl rfl ?_
        obtain ⟨h11, h⟩ := chk_inv h
        refine op0 (sp_add rfl rfl rfl h11) rfl trivial rfl rfl ?_
        refine op1 0 rfl (sp_fieldAddrB rfl isBlk rfl ft353_1 vt3 (by decide)) rfl trivial rfl rfl ?_
        refine stoB 0 (cells' := [.val (.int .i64 (r18.1 + r17.2.1)), .val (.int .i64 (r18.2.1 + 1))]) rfl rfl trivial rfl rfl rfl rfl vt3 rfl rfl rfl ?_
        refine TL.nil ?_
        refine TC.seq ?_
        refine subJ [] (ok_p_strike_best_from_j1 (u14 := u14) (u13 := u13) (u12 := u12) (u11 := u11) (b1 := b1) (b2 := b2) (b4 := b4) (b5 := b5) (b3 := b3) h) ?_ ?_ ?_
        · exact ⟨rfl, rfl, rfl, rfl, rfl, rfl, trivial⟩
        · exact ⟨mem_at 13 rfl, mem_at 12 rfl, mem_at 11 rfl, mem_at 10 rfl, mem_at 4 rfl, mem_at 0 rfl, mem_at 17 rfl, mem_at 18 rfl, mem_at 1 rfl, mem_at 2 rfl, mem_at 3 rfl, mem_at 5 rfl, mem_at 6 rfl, mem_at 7 rfl, mem_at 8 rfl, mem_at 9 rfl, mem_at 14 rfl, mem_at 15 rfl, mem_at 16 rfl, trivial⟩
        · rfl
      · have h := cond_f h h10
        refine TC.skip ?_
        refine TC.seq ?_
        refine subJ [] (ok_p_strike_best_from_j1 (u14 := u14) (u13 := u13) (u12 := u12) (u11 := u11) (b1 := b1) (b2 := b2) (b4 := b4) (b5 := b5) (b3 := b3) h) ?_ ?_ ?_
        · exact ⟨rfl, rfl, rfl, rfl, rfl, rfl, trivial⟩
        · exact ⟨mem_at 13 rfl, mem_at 12 rfl, mem_at 11 rfl, mem_at 10 rfl, mem_at 4 rfl, mem_at 0 rfl, mem_at 17 rfl, mem_at 18 rfl, mem_at 1 rfl, mem_at 2 rfl, mem_at 3 rfl, mem_at 5 rfl, mem_at 6 rfl, mem_at 7 rfl, mem_at 8 rfl, mem_at 9 rfl, mem_at 14 rfl, mem_at 15 rfl, mem_at 16 rfl, trivial⟩
        · rfl
def ev_p_strike_best_from : Nat → Bool → Bool → (List (Int × Int)) → Int → Int → (List ((Int × Int) × (Int × Int))) → (List ((Int × Int) × (Int × Bool))) → (List ((Int × Int) × Bool)) → Int → Int → Option (Int × Int × Bool × (List ((Int × Int) × (Int × Int))) × (List ((Int × Int) × (Int × Bool))) × (List ((Int × Int) × Bool)))
  | 0, _, _, _, _, _, _, _, _, _, _ => none
  | n + 1, b1, b2, b3, b4, b5, b6, b7, b8, p9, p10 => cond (p9 == b5) (chk (b4 != 0) <| some (0, 0, (p10 == (Int.tmod b5 b4)), b6, b7, b8)) (cond ((mlook b8 (p9, p10)).getD false) (some (((mlook b6 (p9, p10)).getD (0, 0)).1, ((mlook b6 (p9, p10)).getD (0, 0)).2, (mlook b6 (p9, p10)).isSome, b6, b7, b8)) ((ev_strike_train_steps (loopStep (ev_p_strike_best_from_r0 n b1 b2 b3 b4 b5 (ev_p_strike_best_from n))) n b1 b2 b3 b4 (((mput b8 (p9, p10) true), false, 0, 0, p9, p10, b6, b7), 0)).bind fun q38 => cond (q38.2 == 0) (some (q38.1.2.2.1, q38.1.2.2.2.1, q38.1.2.1, q38.1.2.2.2.2.2.2.1, q38.1.2.2.2.2.2.2.2, q38.1.1)) (none)))
set_option maxRecDepth 100000 in
set_option maxHeartbeats 2000000 in
theorem fcr_p_strike_best_from : ∀ (n : Nat) (b1 : Bool) (b2 : Bool) (b3 : List (Int × Int)) (b4 : Int) (b5 : Int) (b6 : List ((Int × Int) × (Int × Int))) (b7 : List ((Int × Int) × (Int × Bool))) (b8 : List ((Int × Int) × Bool)) (p9 : Int) (p10 : Int) (r : Int × Int × Bool × (List ((Int × Int) × (Int × Int))) × (List ((Int × Int) × (Int × Bool))) × (List ((Int × Int) × Bool))), ev_p_strike_best_from n b1 b2 b3 b4 b5 b6 b7 b8 p9 p10 = some r → FT Try.prog 204 [.ptr 0 0, .agg [.val (.int .i64 p9), .val (.int .i64 p10)]] [.inv 2 (mapI mk345 true en_strike_cost b6), .inv 3 (mapI mk346 true en_api_StrikeStep b7), .inv 4 (mapI mk347 false en_bool b8)] [.rob 0 [.val (.bool b1), .val (.bool b2), .ref 1, .val (.int .i64 b4), .val (.int .i64 b5), .ref 2, .ref 3, .ref 4] 349, .ro 1 2 (List.map en_api_Span b3)] (.tup [.agg [.val (.int .i64 r.1), .val (.int .i64 r.2.1)], .val (.bool r.2.2.1)]) [.inv 2 (mapI mk345 true en_strike_cost r.2.2.2.1), .inv 3 (mapI mk346 true en_api_StrikeStep r.2.2.2.2.1), .inv 4 (mapI mk347 false en_bool r.2.2.2.2.2)] := by
  intro n
  induction n with
  | zero => intro _ _ _ _ _ _ _ _ _ _ r h; exact none_no h
  | succ n ih =>
    intro b1 b2 b3 b4 b5 b6 b7 b8 p9 p10 r h
    refine introM (nz := 127) 5 [(6, 2), (7, 3), (8, 4)] Try.func204 rfl rfl rfl rfl (fun w0 M0 R0 env0 => ?_)
    rw [ev_p_strike_best_from] at h
    refine TC.seq ?_
    refine TC.region ?_
    refine op0 (sp_box 9 rfl rfl rfl rfl rfl) rfl trivial rfl rfl ?_
    refine op0 (sp_box 10 rfl rfl rfl rfl rfl) rfl trivial rfl rfl ?_
    refine op0 (sp_alloc 11 rfl Try.zeroValue353 rfl) rfl trivial rfl rfl ?_
    refine op0 (sp_alloc 12 rfl Try.zeroValue4 rfl) rfl trivial rfl rfl ?_
    refine TL.nil ?_
    refine TC.seq ?_
    refine TC.seq ?_
    refine drawJ 6 [⟨.ptr 10 0, [], [.blk 10 [.val (.int .i64 p9), .val (.int .i64 p10)] 351], []⟩, ⟨.val (.int .i64 p9), [], [.blk 10 [.val (.int .i64 p9), .val (.int .i64 p10)] 351], []⟩, ⟨.ptr 0 0, [], [.blk 9 [.ptr 0 0] 344], []⟩, ⟨.ptr 0 0, [], [.rob 0 [.val (.bool b1), .val (.bool b2), .ref 1, .val (.int .i64 b4), .val (.int .i64 b5), .ref 2, .ref 3, .ref 4] 349], []⟩, ⟨.ptr 0 4, [], [.rob 0 [.val (.bool b1), .val (.bool b2), .ref 1, .val (.int .i64 b4), .val (.int .i64 b5), .ref 2, .ref 3, .ref 4] 349], []⟩, ⟨.val (.int .i64 b5), [], [.rob 0 [.val (.bool b1), .val (.bool b2), .ref 1, .val (.int .i64 b4), .val (.int .i64 b5), .ref 2, .ref 3, .ref 4] 349], []⟩] rfl ?_ rfl ?_ rfl ?_ ?_
    · kernel_rfl
    · kernel_rfl
    · exact DAll.op' (sp_fieldAddrB rfl isBlk rfl ft351_0 vt3 (by decide)) trivial rfl (From.ok (ps := [(none, 2)]) ⟨⟨rfl, rfl⟩, trivial⟩) (DAll.op' (sp_loadB rfl isBlk rfl vt3 rfl) trivial rfl (From.ok (ps := [(none, 2)]) ⟨⟨rfl, rfl⟩, trivial⟩) (DAll.op' (sp_loadB rfl isBlk rfl vt344 rfl) trivial rfl (From.ok (ps := [(none, 3)]) ⟨⟨rfl, rfl⟩, trivial⟩) (DAll.op' (sp_nilCheck rfl isRob rfl) trivial rfl (From.ok (ps := [(none, 11)]) ⟨⟨rfl, rfl⟩, trivial⟩) (DAll.op' (sp_fieldAddrB rfl isRob rfl ft349_1 vt3 (by decide)) trivial rfl (From.ok (ps := [(none, 11)]) ⟨⟨rfl, rfl⟩, trivial⟩) (DAll.op' (sp_loadB rfl isRob rfl vt3 rfl) trivial rfl (From.ok (ps := [(none, 11)]) ⟨⟨rfl, rfl⟩, trivial⟩) (.nil))))))
    refine op0 (sp_eql rfl rfl rfl) rfl trivial rfl rfl ?_
    refine TL.nil ?_
    refine TC.cond (b := (p9 == b5)) rfl (fun h1 => ?_) (fun h1 => ?_)
    · have h := cond_t h h1
      refine TC.seq ?_
      obtain ⟨h2, h⟩ := chk_inv h
      refine drawJ 15 [⟨.agg [.val (.int .i64 0), .val (.int .i64 0)], [], [], []⟩, ⟨.ptr 10 1, [], [.blk 10 [.val (.int .i64 p9), .val (.int .i64 p10)] 351], []⟩, ⟨.val (.int .i64 p10), [], [.blk 10 [.val (.int .i64 p9), .val (.int .i64 p10)] 351], []⟩, ⟨.ptr 0 0, [], [.blk 9 [.ptr 0 0] 344], []⟩, ⟨.ptr 0 0, [], [.rob 0 [.val (.bool b1), .val (.bool b2), .ref 1, .val (.int .i64 b4), .val (.int .i64 b5), .ref 2, .ref 3, .ref 4] 349], []⟩, ⟨.ptr 0 4, [], [.rob 0 [.val (.bool b1), .val (.bool b2), .ref 1, .val (.int .i64 b4), .val (.int .i64 b5), .ref 2, .ref 3, .ref 4] 349], []⟩, ⟨.val (.int .i64 b5), [], [.rob 0 [.val (.bool b1), .val (.bool b2), .ref 1, .val (.int .i64 b4), .val (.int .i64 b5), .ref 2, .ref 3, .ref 4] 349], []⟩, ⟨.ptr 0 0, [], [.blk 9 [.ptr 0 0] 344], []⟩, ⟨.ptr 0 0, [], [.rob 0 [.val (.bool b1), .val (.bool b2), .ref 1, .val (.int .i64 b4), .val (.int .i64 b5), .ref 2, .ref 3, .ref 4] 349], []⟩, ⟨.ptr 0 0, [], [.rob 0 [.val (.bool b1), .val (.bool b2), .ref 1, .val (.int .i64 b4), .val (.int .i64 b5), .ref 2, .ref 3, .ref 4] 349], []⟩, ⟨.ptr 0 3, [], [.rob 0 [.val (.bool b1), .val (.bool b2), .ref 1, .val (.int .i64 b4), .val (.int .i64 b5), .ref 2, .ref 3, .ref 4] 349], []⟩, ⟨.val (.int .i64 b4), [], [.rob 0 [.val (.bool b1), .val (.bool b2), .ref 1, .val (.int .i64 b4), .val (.int .i64 b5), .ref 2, .ref 3, .ref 4] 349], []⟩, ⟨.val (.int .i64 (Int.tmod b5 b4)), [], [], []⟩, ⟨.val (.bool (p10 == (Int.tmod b5 b4))), [], [], []⟩, ⟨.val (undef), [.blk 11 [.val (.int .i64 0), .val (.int .i64 0)] 353], [], [.blk 11 [.val (.int .i64 0), .val (.int .i64 0)] 353]⟩] rfl ?_ rfl ?_ rfl ?_ ?_
      · kernel_rfl
      · kernel_rfl
      · exact DAll.op' (sp_build (qs := []) rfl bt353 rfl rfl rfl rfl) trivial rfl (From.ok (ps := []) trivial) (DAll.op' (sp_fieldAddrB rfl isBlk rfl ft351_1 vt3 (by decide)) trivial rfl (From.ok (ps := [(none, 2)]) ⟨⟨rfl, by kernel_rfl⟩, trivial⟩) (DAll.op' (sp_loadB rfl isBlk rfl vt3 rfl) trivial rfl (From.ok (ps := [(none, 2)]) ⟨⟨rfl, by kernel_rfl⟩, trivial⟩) (DAll.op' (sp_loadB rfl isBlk rfl vt344 rfl) trivial rfl (From.ok (ps := [(none, 3)]) ⟨⟨rfl, by kernel_rfl⟩, trivial⟩) (DAll.op' (sp_nilCheck rfl isRob rfl) trivial rfl (From.ok (ps := [(none, 11)]) ⟨⟨rfl, by kernel_rfl⟩, trivial⟩) (DAll.op' (sp_fieldAddrB rfl isRob rfl ft349_1 vt3 (by decide)) trivial rfl (From.ok (ps := [(none, 11)]) ⟨⟨rfl, by kernel_rfl⟩, trivial⟩) (DAll.op' (sp_loadB rfl isRob rfl vt3 rfl) trivial rfl (From.ok (ps := [(none, 11)]) ⟨⟨rfl, by kernel_rfl⟩, trivial⟩) (DAll.op' (sp_loadB rfl isBlk rfl vt344 rfl) trivial rfl (From.ok (ps := [(none, 3)]) ⟨⟨rfl, by kernel_rfl⟩, trivial⟩) (DAll.op' (sp_nilCheck rfl isRob rfl) trivial rfl (From.ok (ps := [(none, 11)]) ⟨⟨rfl, by kernel_rfl⟩, trivial⟩) (DAll.op' (sp_fieldAddrB rfl isRob rfl ft349_0 vt250 (by decide)) trivial rfl (From.ok (ps := [(none, 11)]) ⟨⟨rfl, by kernel_rfl⟩, trivial⟩) (DAll.op' (sp_fieldAddrB rfl isRob rfl ft250_1 vt3 (by decide)) trivial rfl (From.ok (ps := [(none, 11)]) ⟨⟨rfl, by kernel_rfl⟩, trivial⟩) (DAll.op' (sp_loadB rfl isRob rfl vt3 rfl) trivial rfl (From.ok (ps := [(none, 11)]) ⟨⟨rfl, by kernel_rfl⟩, trivial⟩) (DAll.op' (sp_rem rfl rfl rfl h2) trivial rfl (From.ok (ps := []) trivial) (DAll.op' (sp_eql rfl rfl rfl) trivial rfl (From.ok (ps := []) trivial) (DAll.opT (ts_storeB (off := 0) (cells' := [.val (.int .i64 0), .val (.int .i64 0)]) rfl rfl rfl rfl vt353 rfl rfl rfl) trivial (From.ok (ps := [(none, 1)]) ⟨⟨rfl, by kernel_rfl⟩, trivial⟩) (From.ok (ps := []) trivial) (.nil)))))))))))))))
      refine stoB 1 (cells' := [.val (.bool (p10 == (Int.tmod b5 b4)))]) rfl rfl trivial rfl rfl rfl rfl vt4 rfl rfl rfl ?_
      refine TL.nil ?_
      cases h
      exact retM [] 4 5 [2, 3, 4] rfl (.cells rfl (mem_at 0 rfl) isBlk vt353 rfl rfl (.cell rfl (mem_at 1 rfl) isBlk vt4 rfl (.nil))) rfl ⟨mem_at 7 rfl, mem_at 8 rfl, mem_at 9 rfl, trivial⟩ rfl rfl ⟨⟨_, mem_at 4 rfl⟩, ⟨_, mem_at 5 rfl⟩, ⟨_, mem_at 6 rfl⟩, trivial⟩ rfl
    · have h := cond_f h h1
      refine TC.skip ?_
      refine TC.seq ?_
      refine TC.seq ?_
      refine drawJ 5 [⟨.ptr 0 0, [], [.blk 9 [.ptr 0 0] 344], []⟩, ⟨.ptr 0 0, [], [.rob 0 [.val (.bool b1), .val (.bool b2), .ref 1, .val (.int .i64 b4), .val (.int .i64 b5), .ref 2, .ref 3, .ref 4] 349], []⟩, ⟨.ptr 0 7, [], [.rob 0 [.val (.bool b1), .val (.bool b2), .ref 1, .val (.int .i64 b4), .val (.int .i64 b5), .ref 2, .ref 3, .ref 4] 349], []⟩, ⟨.ref 4, [], [.rob 0 [.val (.bool b1), .val (.bool b2), .ref 1, .val (.int .i64 b4), .val (.int .i64 b5), .ref 2, .ref 3, .ref 4] 349], []⟩, ⟨.agg [.val (.int .i64 p9), .val (.int .i64 p10)], [], [.blk 10 [.val (.int .i64 p9), .val (.int .i64 p10)] 351], []⟩] rfl ?_ rfl ?_ rfl ?_ ?_
      · kernel_rfl
      · kernel_rfl
      · exact DAll.op' (sp_loadB rfl isBlk rfl vt344 rfl) trivial rfl (From.ok (ps := [(none, 3)]) ⟨⟨rfl, rfl⟩, trivial⟩) (DAll.op' (sp_nilCheck rfl isRob rfl) trivial rfl (From.ok (ps := [(none, 11)]) ⟨⟨rfl, rfl⟩, trivial⟩) (DAll.op' (sp_fieldAddrB rfl isRob rfl ft349_4 vt347 (by decide)) trivial rfl (From.ok (ps := [(none, 11)]) ⟨⟨rfl, rfl⟩, trivial⟩) (DAll.op' (sp_loadB rfl isRob rfl vt347 rfl) trivial rfl (From.ok (ps := [(none, 11)]) ⟨⟨rfl, rfl⟩, trivial⟩) (DAll.op' (sp_loadBA rfl isBlk rfl vt351 rfl rfl) trivial rfl (From.ok (ps := [(none, 2)]) ⟨⟨rfl, rfl⟩, trivial⟩) (.nil)))))
      refine op1 10 rfl (sp_lookup (cm := false) (v := .val (.bool ((mlook b8 (p9, p10)).getD false))) (ns := []) (p9, p10) false rfl rfl rfl (fun _ => rfl) isMapO km347 Try.zeroValue4 (fun W R => zok (ZL.v rfl (ZL.nil)) rfl rfl W R) (.v (.nil)) rfl rfl) rfl trivial rfl rfl ?_
      refine TL.nil ?_
      refine TC.cond (b := ((mlook b8 (p9, p10)).getD false)) rfl (fun h3 => ?_) (fun h3 => ?_)
      · have h := cond_t h h3
        refine TC.seq ?_
        refine drawJ 10 [⟨.ptr 0 0, [], [.blk 9 [.ptr 0 0] 344], []⟩, ⟨.ptr 0 0, [], [.rob 0 [.val (.bool b1), .val (.bool b2), .ref 1, .val (.int .i64 b4), .val (.int .i64 b5), .ref 2, .ref 3, .ref 4] 349], []⟩, ⟨.ptr 0 5, [], [.rob 0 [.val (.bool b1), .val (.bool b2), .ref 1, .val (.int .i64 b4), .val (.int .i64 b5), .ref 2, .ref 3, .ref 4] 349], []⟩, ⟨.ref 2, [], [.rob 0 [.val (.bool b1), .val (.bool b2), .ref 1, .val (.int .i64 b4), .val (.int .i64 b5), .ref 2, .ref 3, .ref 4] 349], []⟩, ⟨.agg [.val (.int .i64 p9), .val (.int .i64 p10)], [], [.blk 10 [.val (.int .i64 p9), .val (.int .i64 p10)] 351], []⟩, ⟨.tup [.agg [.val (.int .i64 (((mlook b6 (p9, p10)).getD (0, 0)).1)), .val (.int .i64 (((mlook b6 (p9, p10)).getD (0, 0)).2))], .val (.bool ((mlook b6 (p9, p10)).isSome))], [], [.inv 2 (mapI mk345 true en_strike_cost b6)], []⟩, ⟨.tup [.agg [.val (.int .i64 (((mlook b6 (p9, p10)).getD (0, 0)).1)), .val (.int .i64 (((mlook b6 (p9, p10)).getD (0, 0)).2))], .val (.bool ((mlook b6 (p9, p10)).isSome))], [], [], []⟩, ⟨.agg [.val (.int .i64 (((mlook b6 (p9, p10)).getD (0, 0)).1)), .val (.int .i64 (((mlook b6 (p9, p10)).getD (0, 0)).2))], [], [], []⟩, ⟨.val (.bool ((mlook b6 (p9, p10)).isSome)), [], [], []⟩, ⟨.val (undef), [.blk 11 [.val (.int .i64 (((mlook b6 (p9, p10)).getD (0, 0)).1)), .val (.int .i64 (((mlook b6 (p9, p10)).getD (0, 0)).2))] 353], [], [.blk 11 [.val (.int .i64 0), .val (.int .i64 0)] 353]⟩] rfl ?_ rfl ?_ rfl ?_ ?_
        · kernel_rfl
        · kernel_rfl
        · exact DAll.op' (sp_loadB rfl isBlk rfl vt344 rfl) trivial rfl (From.ok (ps := [(none, 3)]) ⟨⟨rfl, by kernel_rfl⟩, trivial⟩) (DAll.op' (sp_nilCheck rfl isRob rfl) trivial rfl (From.ok (ps := [(none, 11)]) ⟨⟨rfl, by kernel_rfl⟩, trivial⟩) (DAll.op' (sp_fieldAddrB rfl isRob rfl ft349_2 vt345 (by decide)) trivial rfl (From.ok (ps := [(none, 11)]) ⟨⟨rfl, by kernel_rfl⟩, trivial⟩) (DAll.op' (sp_loadB rfl isRob rfl vt345 rfl) trivial rfl (From.ok (ps := [(none, 11)]) ⟨⟨rfl, by kernel_rfl⟩, trivial⟩) (DAll.op' (sp_loadBA rfl isBlk rfl vt351 rfl rfl) trivial rfl (From.ok (ps := [(none, 2)]) ⟨⟨rfl, by kernel_rfl⟩, trivial⟩) (DAll.op' (sp_lookup (cm := true) (v := .tup [.agg [.val (.int .i64 (((mlook b6 (p9, p10)).getD (0, 0)).1)), .val (.int .i64 (((mlook b6 (p9, p10)).getD (0, 0)).2))], .val (.bool ((mlook b6 (p9, p10)).isSome))]) (ns := []) (p9, p10) (0, 0) rfl rfl rfl (fun _ => rfl) isMapO km345 Try.zeroValue353 (fun W R => zok (ZL.v rfl (ZL.v rfl (ZL.nil))) rfl rfl W R) (.v (.v (.nil))) rfl rfl) trivial rfl (From.ok (ps := [(none, 8)]) ⟨⟨rfl, by kernel_rfl⟩, trivial⟩) (DAll.op' (sp_move rfl rfl) trivial rfl (From.ok (ps := []) trivial) (DAll.op' (sp_extract rfl rfl rfl) trivial rfl (From.ok (ps := []) trivial) (DAll.op' (sp_extract rfl rfl rfl) trivial rfl (From.ok (ps := []) trivial) (DAll.opT (ts_storeB (off := 0) (cells' := [.val (.int .i64 (((mlook b6 (p9, p10)).getD (0, 0)).1)), .val (.int .i64 (((mlook b6 (p9, p10)).getD (0, 0)).2))]) rfl rfl rfl rfl vt353 rfl rfl rfl) trivial (From.ok (ps := [(none, 1)]) ⟨⟨rfl, by kernel_rfl⟩, trivial⟩) (From.ok (ps := []) trivial) (.nil))))))))))
        refine stoB 1 (cells' := [.val (.bool ((mlook b6 (p9, p10)).isSome))]) rfl rfl trivial rfl rfl rfl rfl vt4 rfl rfl rfl ?_
        refine TL.nil ?_
        refine TC.seq ?_
        refine drawJ 3 [⟨.agg [.val (.int .i64 (((mlook b6 (p9, p10)).getD (0, 0)).1)), .val (.int .i64 (((mlook b6 (p9, p10)).getD (0, 0)).2))], [], [.blk 11 [.val (.int .i64 (((mlook b6 (p9, p10)).getD (0, 0)).1)), .val (.int .i64 (((mlook b6 (p9, p10)).getD (0, 0)).2))] 353], []⟩, ⟨.val (.bool ((mlook b6 (p9, p10)).isSome)), [], [.blk 12 [.val (.bool ((mlook b6 (p9, p10)).isSome))] 4], []⟩, ⟨.val (undef), [.blk 11 [.val (.int .i64 (((mlook b6 (p9, p10)).getD (0, 0)).1)), .val (.int .i64 (((mlook b6 (p9, p10)).getD (0, 0)).2))] 353], [], [.blk 11 [.val (.int .i64 (((mlook b6 (p9, p10)).getD (0, 0)).1)), .val (.int .i64 (((mlook b6 (p9, p10)).getD (0, 0)).2))] 353]⟩] rfl ?_ rfl ?_ rfl ?_ ?_
        · kernel_rfl
        · kernel_rfl
        · exact DAll.op' (sp_loadBA rfl isBlk rfl vt353 rfl rfl) trivial rfl (From.ok (ps := [(none, 0)]) ⟨⟨rfl, by kernel_rfl⟩, trivial⟩) (DAll.op' (sp_loadB rfl isBlk rfl vt4 rfl) trivial rfl (From.ok (ps := [(none, 1)]) ⟨⟨rfl, by kernel_rfl⟩, trivial⟩) (DAll.opT (ts_storeB (off := 0) (cells' := [.val (.int .i64 (((mlook b6 (p9, p10)).getD (0, 0)).1)), .val (.int .i64 (((mlook b6 (p9, p10)).getD (0, 0)).2))]) rfl rfl rfl rfl vt353 rfl rfl rfl) trivial (From.ok (ps := [(none, 0)]) ⟨⟨rfl, by kernel_rfl⟩, trivial⟩) (From.ok (ps := []) trivial) (.nil)))
        refine stoB 1 (cells' := [.val (.bool ((mlook b6 (p9, p10)).isSome))]) rfl rfl trivial rfl rfl rfl rfl vt4 rfl rfl rfl ?_
        refine TL.nil ?_
        cases h
        exact retM [] 4 5 [2, 3, 4] rfl (.cells rfl (mem_at 0 rfl) isBlk vt353 rfl rfl (.cell rfl (mem_at 1 rfl) isBlk vt4 rfl (.nil))) rfl ⟨mem_at 7 rfl, mem_at 8 rfl, mem_at 9 rfl, trivial⟩ rfl rfl ⟨⟨_, mem_at 4 rfl⟩, ⟨_, mem_at 5 rfl⟩, ⟨_, mem_at 6 rfl⟩, trivial⟩ rfl
      · have h := cond_f h h3
        refine TC.skip ?_
        refine TC.seq ?_
        refine drawJ 5 [⟨.ptr 0 0, [], [.blk 9 [.ptr 0 0] 344], []⟩, ⟨.ptr 0 0, [], [.rob 0 [.val (.bool b1), .val (.bool b2), .ref 1, .val (.int .i64 b4), .val (.int .i64 b5), .ref 2, .ref 3, .ref 4] 349], []⟩, ⟨.ptr 0 7, [], [.rob 0 [.val (.bool b1), .val (.bool b2), .ref 1, .val (.int .i64 b4), .val (.int .i64 b5), .ref 2, .ref 3, .ref 4] 349], []⟩, ⟨.ref 4, [], [.rob 0 [.val (.bool b1), .val (.bool b2), .ref 1, .val (.int .i64 b4), .val (.int .i64 b5), .ref 2, .ref 3, .ref 4] 349], []⟩, ⟨.agg [.val (.int .i64 p9), .val (.int .i64 p10)], [], [.blk 10 [.val (.int .i64 p9), .val (.int .i64 p10)] 351], []⟩] rfl ?_ rfl ?_ rfl ?_ ?_
        · kernel_rfl
        · kernel_rfl
        · exact DAll.op' (sp_loadB rfl isBlk rfl vt344 rfl) trivial rfl (From.ok (ps := [(none, 3)]) ⟨⟨rfl, rfl⟩, trivial⟩) (DAll.op' (sp_nilCheck rfl isRob rfl) trivial rfl (From.ok (ps := [(none, 11)]) ⟨⟨rfl, rfl⟩, trivial⟩) (DAll.op' (sp_fieldAddrB rfl isRob rfl ft349_4 vt347 (by decide)) trivial rfl (From.ok (ps := [(none, 11)]) ⟨⟨rfl, rfl⟩, trivial⟩) (DAll.op' (sp_loadB rfl isRob rfl vt347 rfl) trivial rfl (From.ok (ps := [(none, 11)]) ⟨⟨rfl, rfl⟩, trivial⟩) (DAll.op' (sp_loadBA rfl isBlk rfl vt351 rfl rfl) trivial rfl (From.ok (ps := [(none, 2)]) ⟨⟨rfl, rfl⟩, trivial⟩) (.nil)))))
        refine opT (take := [.inv 4 (mapI mk347 false en_bool b8)]) (need := []) (V' := [.inv 4 (mapI mk347 false en_bool (mput b8 (p9, p10) true)), .blk 12 [.val (.bool false)] 4, .blk 11 [.val (.int .i64 0), .val (.int .i64 0)] 353, .blk 10 [.val (.int .i64 p9), .val (.int .i64 p10)] 351, .blk 9 [.ptr 0 0] 344, .inv 5 (marksI []), .pin 6 2 (env0 2), .pin 7 3 (env0 3), .pin 8 4 (env0 4), .inv 2 (mapI mk345 true en_strike_cost b6), .inv 3 (mapI mk346 true en_api_StrikeStep b7), .rob 0 [.val (.bool b1), .val (.bool b2), .ref 1, .val (.int .i64 b4), .val (.int .i64 b5), .ref 2, .ref 3, .ref 4] 349, .ro 1 2 (List.map en_api_Span b3)]) [10] [] (ts_mapUpdate (need := []) (p9, p10) true rfl rfl rfl (fun _ => rfl) rfl rfl rfl (.v (.nil)) km347 (fun _ => .refl _)) trivial rfl ⟨rfl, trivial⟩ trivial rfl rfl ?_
        refine TL.nil ?_
        refine TC.seq ?_
        refine TC.seq ?_
        refine TC.region ?_
        refine op1 4 rfl (sp_loadB rfl isBlk rfl vt344 rfl) rfl trivial rfl rfl ?_
        refine op1 11 rfl (sp_nilCheck rfl isRob rfl) rfl trivial rfl rfl ?_
        refine op1 11 rfl (sp_fieldAddrB rfl isRob rfl ft349_0 vt250 (by decide)) rfl trivial rfl rfl ?_
        refine op1 11 rfl (sp_loadBA rfl isRob rfl vt250 rfl rfl) rfl trivial rfl rfl ?_
        refine op0 (sp_makeFunc (fi := [.tmp 58]) (ca := []) (fa := [.agg [.val (.bool b1), .val (.bool b2), .ref 1, .val (.int .i64 b4)]]) (cb := []) rfl rfl rfl) rfl trivial rfl rfl ?_
        refine TL.nil ?_
        refine TC.block ?_
        refine TC.pin 14 9 rfl rfl fun u11 => ?_
        refine TC.pin 15 10 rfl rfl fun u12 => ?_
        refine TC.pin 16 11 rfl rfl fun u13 => ?_
        refine TC.pin 17 12 rfl rfl fun u14 => ?_
        obtain ⟨q38, h15, h⟩ := bind_inv h
        refine rangeO (T := []) (T' := []) (k := 13) (gm := 5) (grec := 18) (S := [(2, .ptr 9 0), (3, .ptr 10 0), (4, .ptr 11 0), (5, .ptr 12 0)]) (V0 := (fun y16 : (List ((Int × Int) × Bool)) × Bool × Int × Int × Int × Int × (List ((Int × Int) × (Int × Int))) × (List ((Int × Int) × (Int × Bool))) => [.pin 17 12 u14, .pin 16 11 u13, .pin 15 10 u12, .pin 14 9 u11, .inv 4 (mapI mk347 false en_bool y16.1), .blk 12 [.val (.bool y16.2.1)] 4, .blk 11 [.val (.int .i64 y16.2.2.1), .val (.int .i64 y16.2.2.2.1)] 353, .blk 10 [.val (.int .i64 y16.2.2.2.2.1), .val (.int .i64 y16.2.2.2.2.2.1)] 351, .blk 9 [.ptr 0 0] 344, .pin 6 2 (env0 2), .pin 7 3 (env0 3), .pin 8 4 (env0 4), .inv 2 (mapI mk345 true en_strike_cost y16.2.2.2.2.2.2.1), .inv 3 (mapI mk346 true en_api_StrikeStep y16.2.2.2.2.2.2.2), .rob 0 [.val (.bool b1), .val (.bool b2), .ref 1, .val (.int .i64 b4), .val (.int .i64 b5), .ref 2, .ref 3, .ref 4] 349, .ro 1 2 (List.map en_api_Span b3)])) (needI := [.ro 1 2 (List.map en_api_Span b3)]) (ps := [60]) (jl := []) (ea := ye_funcapi_StrikeStep_bool) (en := yn_funcapi_StrikeStep_bool) (f := (ev_p_strike_best_from_r0 n b1 b2 b3 b4 b5 (ev_p_strike_best_from n))) (s0 := (((mput b8 (p9, p10) true), false, 0, 0, p9, p10, b6, b7), 0)) (yf := q38) (v := .tup []) (fi := [.agg [.val (.bool b1), .val (.bool b2), .ref 1, .val (.int .i64 b4)]]) (caps := [])
          ⟨fun x y r hr l rec hrd w0 M0 R0 => ok_p_strike_best_from_r0 (u14 := u14) (u13 := u13) (u12 := u12) (u11 := u11) ih hr l rec hrd w0 M0 R0, ⟨rfl, rfl, rfl, rfl, trivial⟩, At.mem (is := [0, 1, 2, 3, 4, 5, 6, 7, 8, 10, 11, 12, 13, 14, 15, 16]) ⟨rfl, rfl, rfl, rfl, rfl, rfl, rfl, rfl, rfl, rfl, rfl, rfl, rfl, rfl, rfl, rfl, trivial⟩, At.mem (is := [16]) ⟨rfl, trivial⟩, rfl, pinsIn [9, 10, 11, 12] [3, 2, 1, 0] ⟨⟨_, _, fun _ => rfl⟩, ⟨_, _, fun _ => rfl⟩, ⟨_, _, fun _ => rfl⟩, ⟨_, _, fun _ => rfl⟩, trivial⟩ rfl, rfl, fun _ => rfl, fun _ _ => rfl, fun _ => rfl, fun _ _ => rfl, fun _ => rfl, fun _ => rfl, fun _ => rfl, rfl, rfl, fun _ => rfl, rfl⟩
          rfl rfl Try.call258 (takesNil rfl) 9 rfl (fun I hI => atT [(1, 13), (0, 1)] [(1, 13)] (ft_strike_train_steps hI h15) rfl rfl rfl) (fun d => ?_)
        rcases cond_cases h with ⟨h16, h⟩ | ⟨h16, h⟩
        · refine done0 h16 ?_
          refine TC.inBlock ?_
          refine TC.seq ?_
          refine drawJ 3 [⟨.agg [.val (.int .i64 q38.1.2.2.1), .val (.int .i64 q38.1.2.2.2.1)], [], [.blk 11 [.val (.int .i64 q38.1.2.2.1), .val (.int .i64 q38.1.2.2.2.1)] 353], []⟩, ⟨.val (.bool q38.1.2.1), [], [.blk 12 [.val (.bool q38.1.2.1)] 4], []⟩, ⟨.val (undef), [.blk 11 [.val (.int .i64 q38.1.2.2.1), .val (.int .i64 q38.1.2.2.2.1)] 353], [], [.blk 11 [.val (.int .i64 q38.1.2.2.1), .val (.int .i64 q38.1.2.2.2.1)] 353]⟩] rfl ?_ rfl ?_ rfl ?_ ?_
          · kernel_rfl
          · kernel_rfl
          · exact DAll.op' (sp_loadBA rfl isBlk rfl vt353 rfl rfl) trivial rfl (From.ok (ps := [(none, 7)]) ⟨⟨rfl, by kernel_rfl⟩, trivial⟩) (DAll.op' (sp_loadB rfl isBlk rfl vt4 rfl) trivial rfl (From.ok (ps := [(none, 6)]) ⟨⟨rfl, by kernel_rfl⟩, trivial⟩) (DAll.opT (ts_storeB (off := 0) (cells' := [.val (.int .i64 q38.1.2.2.1), .val (.int .i64 q38.1.2.2.2.1)]) rfl rfl rfl rfl vt353 rfl rfl rfl) trivial (From.ok (ps := [(none, 7)]) ⟨⟨rfl, by kernel_rfl⟩, trivial⟩) (From.ok (ps := []) trivial) (.nil)))
          refine stoB 7 (cells' := [.val (.bool q38.1.2.1)]) rfl rfl trivial rfl rfl rfl rfl vt4 rfl rfl rfl ?_
          refine TL.nil ?_
          cases h
          exact retM [] 1 5 [2, 3, 4] rfl (.cells rfl (mem_at 0 rfl) isBlk vt353 rfl rfl (.cell rfl (mem_at 6 rfl) isBlk vt4 rfl (.nil))) rfl ⟨mem_at 12 rfl, mem_at 13 rfl, mem_at 5 rfl, trivial⟩ rfl rfl ⟨⟨_, mem_at 9 rfl⟩, ⟨_, mem_at 10 rfl⟩, ⟨_, mem_at 11 rfl⟩, trivial⟩ rfl
        · exact none_no h
theorem ft_p_strike_best_from {n : Nat} {b1 : Bool} {b2 : Bool} {b3 : List (Int × Int)} {b4 : Int} {b5 : Int} {b6 : List ((Int × Int) × (Int × Int))} {b7 : List ((Int × Int) × (Int × Bool))} {b8 : List ((Int × Int) × Bool)} {p9 : Int} {p10 : Int} {r : Int × Int × Bool × (List ((Int × Int) × (Int × Int))) × (List ((Int × Int) × (Int × Bool))) × (List ((Int × Int) × Bool))} (h : ev_p_strike_best_from n b1 b2 b3 b4 b5 b6 b7 b8 p9 p10 = some r) : FT Try.prog 204 [.ptr 0 0, .agg [.val (.int .i64 p9), .val (.int .i64 p10)]] [.inv 2 (mapI mk345 true en_strike_cost b6), .inv 3 (mapI mk346 true en_api_StrikeStep b7), .inv 4 (mapI mk347 false en_bool b8)] [.rob 0 [.val (.bool b1), .val (.bool b2), .ref 1, .val (.int .i64 b4), .val (.int .i64 b5), .ref 2, .ref 3, .ref 4] 349, .ro 1 2 (List.map en_api_Span b3)] (.tup [.agg [.val (.int .i64 r.1), .val (.int .i64 r.2.1)], .val (.bool r.2.2.1)]) [.inv 2 (mapI mk345 true en_strike_cost r.2.2.2.1), .inv 3 (mapI mk346 true en_api_StrikeStep r.2.2.2.2.1), .inv 4 (mapI mk347 false en_bool r.2.2.2.2.2)] := fcr_p_strike_best_from n b1 b2 b3 b4 b5 b6 b7 b8 p9 p10 r h
/- strike_Bring -/
def ev_strike_Bring_l0 (n : Nat) (until6 : Int) : Nat → (List (Int × Bool)) → Bool → Bool → Int → Bool → Bool → Int → Int → Int → Int → Int → Int → (List (Int × Int)) → (List ((Int × Int) × (Int × Int))) → (List ((Int × Int) × (Int × Bool))) → (List ((Int × Int) × Bool)) → Option ((List (Int × Bool)) × Int × Int)
  | 0, _, _, _, _, _, _, _, _, _, _, _, _, _, _, _, _ => none
  | m + 1, l10, b11, b12, i13, b14, b15, i16, i17, i18, i19, i20, i21, l22, l23, l24, l25 => cond (decide (i18 < until6)) ((ev_strike_train_step n b11 b12 l22 i13 i18 i19 (((mlook l24 (i18, i19)).getD (0, false)).1) (((mlook l24 (i18, i19)).getD (0, false)).2)).bind fun r26 => chk (room 16 (l10.length + ([(((mlook l24 (i18, i19)).getD (0, false)).1, ((mlook l24 (i18, i19)).getD (0, false)).2)] : List (Int × Bool)).length)) <| chk (in64 (i18 + 1)) <| ev_strike_Bring_l0 n until6 m (l10 ++ ([(((mlook l24 (i18, i19)).getD (0, false)).1, ((mlook l24 (i18, i19)).getD (0, false)).2)] : List (Int × Bool))) b11 b12 i13 b14 b15 i16 i17 (i18 + 1) r26.1 i20 i21 l22 l23 l24 l25) (some (l10, i20, 0))
set_option maxRecDepth 100000 in
set_option maxHeartbeats 2000000 in
theorem ok_strike_Bring_l0 {n : Nat} {w0 : World} {R0 : Nat → Prop} {env0 : Env} {r : (List (Int × Bool)) × Int × Int} {until6 : Int} : ∀ (m : Nat) (l10 : List (Int × Bool)) (b11 : Bool) (b12 : Bool) (i13 : Int) (b14 : Bool) (b15 : Bool) (i16 : Int) (i17 : Int) (i18 : Int) (i19 : Int) (i20 : Int) (i21 : Int) (l22 : List (Int × Int)) (l23 : List ((Int × Int) × (Int × Int))) (l24 : List ((Int × Int) × (Int × Bool))) (l25 : List ((Int × Int) × Bool)), ev_strike_Bring_l0 n until6 m l10 b11 b12 i13 b14 b15 i16 i17 i18 i19 i20 i21 l22 l23 l24 l25 = some r → TC Try.prog ⟨w0, fun _ => False, R0⟩ 90 (bodyPost Try.prog Try.f115 (Post ⟨w0, fun _ => False, R0⟩ env0 (.tup [.ref 0, .val (.int .i64 r.2.1), .val (.int .i64 r.2.2)]) [.row 0 127 2 (List.map en_api_StrikeStep r.1)])) [.code (sub (bodyOf Try.f115) [1, 1, 1, 1, 1, 1, 1, 0, 0, 0, 0, 0]), .code (sub (bodyOf Try.f115) [1, 1, 1, 1, 1, 1, 1, 0, 0, 0, 0, 1]), .code (sub (bodyOf Try.f115) [1, 1, 1, 1, 1, 1, 1, 0, 0, 0, 1]), .inLoop (sub (bodyOf Try.f115) [1, 1, 1, 1, 1, 1, 1, 0, 0, 0]), .inBlock 1, .code (sub (bodyOf Try.f115) [1, 1, 1, 1, 1, 1, 1, 1])] ([(3, .val (.int .i64 until6)), (8, .ref 14), (11, .ptr 3 0), (12, .ptr 10 0), (13, .ptr 11 0), (14, .ptr 12 0)]) ([.row 14 127 2 (List.map en_api_StrikeStep l10), .blk 3 [.val (.bool b11), .val (.bool b12), .ref 2, .val (.int .i64 i13)] 250, .rob 10 [.val (.bool b14), .val (.bool b15), .ref 2, .val (.int .i64 i16), .val (.int .i64 i17), .ref 7, .ref 8, .ref 9] 349, .blk 11 [.val (.int .i64 i18), .val (.int .i64 i19)] 351, .blk 12 [.val (.int .i64 i20), .val (.int .i64 i21)] 353, .ro 2 2 (List.map en_api_Span l22), .inv 7 (mapI mk345 true en_strike_cost l23), .inv 8 (mapI mk346 true en_api_StrikeStep l24), .inv 9 (mapI mk347 false en_bool l25)]) := by
  intro m
  induction m with
  | zero => intro l10 b11 b12 i13 b14 b15 i16 i17 i18 i19 i20 i21 l22 l23 l24 l25 h; exact none_no h
  | succ m ih =>
    intro l10 b11 b12 i13 b14 b15 i16 i17 i18 i19 i20 i21 l22 l23 l24 l25 h
    rw [ev_strike_Bring_l0] at h
    refine TC.region ?_
    refine op1 3 rfl (sp_fieldAddrB rfl isBlk rfl ft351_0 vt3 (by decide)) rfl trivial rfl rfl ?_
    refine op1 3 rfl (sp_loadB rfl isBlk rfl vt3 rfl) rfl trivial rfl rfl ?_
    refine op0 (sp_move rfl rfl) rfl trivial rfl rfl ?_
    refine op0 (sp_lss rfl rfl rfl) rfl trivial rfl rfl ?_
    refine TL.nil ?_
    refine TC.cond (b := (decide (i18 < until6))) rfl (fun h8 => ?_) (fun h8 => ?_)
    · have h := cond_t h h8
      refine TC.skip ?_
      refine TC.block ?_
      refine TC.seq ?_
      refine drawJ 7 [⟨.ptr 10 0, [], [], []⟩, ⟨.ptr 10 0, [], [.rob 10 [.val (.bool b14), .val (.bool b15), .ref 2, .val (.int .i64 i16), .val (.int .i64 i17), .ref 7, .ref 8, .ref 9] 349], []⟩, ⟨.ptr 10 6, [], [.rob 10 [.val (.bool b14), .val (.bool b15), .ref 2, .val (.int .i64 i16), .val (.int .i64 i17), .ref 7, .ref 8, .ref 9] 349], []⟩, ⟨.ref 8, [], [.rob 10 [.val (.bool b14), .val (.bool b15), .ref 2, .val (.int .i64 i16), .val (.int .i64 i17), .ref 7, .ref 8, .ref 9] 349], []⟩, ⟨.agg [.val (.int .i64 i18), .val (.int .i64 i19)], [], [.blk 11 [.val (.int .i64 i18), .val (.int .i64 i19)] 351], []⟩, ⟨.agg [.val (.int .i64 (((mlook l24 (i18, i19)).getD (0, false)).1)), .val (.bool (((mlook l24 (i18, i19)).getD (0, false)).2))], [], [.inv 8 (mapI mk346 true en_api_StrikeStep l24)], []⟩, ⟨.ptr 15 0, [.blk 15 [.val (.int .i64 0), .val (.bool false)] 127], [], []⟩] rfl ?_ rfl ?_ rfl ?_ ?_
      · kernel_rfl
      · kernel_rfl
      · exact DAll.op' (sp_move rfl rfl) trivial rfl (From.ok (ps := []) trivial) (DAll.op' (sp_nilCheck rfl isRob rfl) trivial rfl (From.ok (ps := [(none, 2)]) ⟨⟨rfl, rfl⟩, trivial⟩) (DAll.op' (sp_fieldAddrB rfl isRob rfl ft349_3 vt346 (by decide)) trivial rfl (From.ok (ps := [(none, 2)]) ⟨⟨rfl, rfl⟩, trivial⟩) (DAll.op' (sp_loadB rfl isRob rfl vt346 rfl) trivial rfl (From.ok (ps := [(none, 2)]) ⟨⟨rfl, rfl⟩, trivial⟩) (DAll.op' (sp_loadBA rfl isBlk rfl vt351 rfl rfl) trivial rfl (From.ok (ps := [(none, 3)]) ⟨⟨rfl, rfl⟩, trivial⟩) (DAll.op' (sp_lookup (cm := false) (v := .agg [.val (.int .i64 (((mlook l24 (i18, i19)).getD (0, false)).1)), .val (.bool (((mlook l24 (i18, i19)).getD (0, false)).2))]) (ns := []) (i18, i19) (0, false) rfl rfl rfl (fun _ => rfl) isMapO km346 Try.zeroValue127 (fun W R => zok (ZL.v rfl (ZL.v rfl (ZL.nil))) rfl rfl W R) (.v (.v (.nil))) rfl rfl) trivial rfl (From.ok (ps := [(none, 7)]) ⟨⟨rfl, rfl⟩, trivial⟩) (DAll.op' (sp_alloc 15 rfl Try.zeroValue127 rfl) trivial rfl (From.ok (ps := []) trivial) (.nil)))))))
      refine stoB 0 (cells' := [.val (.int .i64 (((mlook l24 (i18, i19)).getD (0, false)).1)), .val (.bool (((mlook l24 (i18, i19)).getD (0, false)).2))]) rfl rfl trivial rfl rfl rfl rfl vt127 rfl rfl rfl ?_
      refine TL.nil ?_
      refine TC.seq ?_
      refine TC.region ?_
      refine op1 2 rfl (sp_loadBA rfl isBlk rfl vt250 rfl rfl) rfl trivial rfl rfl ?_
      refine op1 4 rfl (sp_fieldAddrB rfl isBlk rfl ft351_0 vt3 (by decide)) rfl trivial rfl rfl ?_
      refine op1 4 rfl (sp_loadB rfl isBlk rfl vt3 rfl) rfl trivial rfl rfl ?_
      refine op1 4 rfl (sp_fieldAddrB rfl isBlk rfl ft351_1 vt3 (by decide)) rfl trivial rfl rfl ?_
      refine op1 4 rfl (sp_loadB rfl isBlk rfl vt3 rfl) rfl trivial rfl rfl ?_
      refine op1 0 rfl (sp_loadBA rfl isBlk rfl vt127 rfl rfl) rfl trivial rfl rfl ?_
      obtain ⟨r26, h9, h⟩ := bind_inv h
      refine op1 6 rfl (sp_call (avs := [.agg [.val (.bool b11), .val (.bool b12), .ref 2, .val (.int .i64 i13)], .val (.int .i64 i18), .val (.int .i64 i19), .agg [.val (.int .i64 (((mlook l24 (i18, i19)).getD (0, false)).1)), .val (.bool (((mlook l24 (i18, i19)).getD (0, false)).2))]]) (need := [.ro 2 2 (List.map en_api_Span l22)]) (v := .tup [.val (.int .i64 r26.1), .val (.int .i64 r26.2.1), .val (.int .i64 r26.2.2)]) (news := []) rfl rfl rfl Try.call113 (atJ [(0, 2)] [] (fc_strike_train_step h9) rfl rfl) (.inl (roAll rfl))) rfl trivial rfl rfl ?_
      refine op0 (sp_move rfl rfl) rfl trivial rfl rfl ?_
      refine op0 (sp_extract rfl rfl rfl) rfl trivial rfl rfl ?_
      refine op0 (sp_extract rfl rfl rfl) rfl trivial rfl rfl ?_
      refine op0 (sp_extract rfl rfl rfl) rfl trivial rfl rfl ?_
      refine op0 (sp_assign rfl rfl) rfl trivial rfl rfl ?_
      refine op0 (sp_assign rfl rfl) rfl trivial rfl rfl ?_
      refine op0 (sp_assign rfl rfl) rfl trivial rfl rfl ?_
      refine TL.nil ?_
      obtain ⟨h10, h⟩ := chk_inv h
      obtain ⟨h11, h⟩ := chk_inv h
      refine drawJ 10 [⟨.ref 14, [], [], []⟩, ⟨.agg [.val (.int .i64 (((mlook l24 (i18, i19)).getD (0, false)).1)), .val (.bool (((mlook l24 (i18, i19)).getD (0, false)).2))], [], [.blk 15 [.val (.int .i64 (((mlook l24 (i18, i19)).getD (0, false)).1)), .val (.bool (((mlook l24 (i18, i19)).getD (0, false)).2))] 127], []⟩, ⟨.ref 16, [.row 16 127 2 (List.map en_api_StrikeStep ([(((mlook l24 (i18, i19)).getD (0, false)).1, ((mlook l24 (i18, i19)).getD (0, false)).2)] : List (Int × Bool)))], [], []⟩, ⟨.ref 17, [.row 17 127 2 (List.map en_api_StrikeStep (l10 ++ ([(((mlook l24 (i18, i19)).getD (0, false)).1, ((mlook l24 (i18, i19)).getD (0, false)).2)] : List (Int × Bool))))], [.row 16 127 2 (List.map en_api_StrikeStep ([(((mlook l24 (i18, i19)).getD (0, false)).1, ((mlook l24 (i18, i19)).getD (0, false)).2)] : List (Int × Bool)))], [.row 14 127 2 (List.map en_api_StrikeStep l10)]⟩, ⟨.ptr 11 0, [], [.blk 11 [.val (.int .i64 i18), .val (.int .i64 i19)] 351], []⟩, ⟨.val (.int .i64 i18), [], [.blk 11 [.val (.int .i64 i18), .val (.int .i64 i19)] 351], []⟩, ⟨.val (.int .i64 (i18 + 1)), [], [], []⟩, ⟨.val (.int .i64 r26.1), [], [], []⟩, ⟨.agg [.val (.int .i64 (i18 + 1)), .val (.int .i64 r26.1)], [], [], []⟩, ⟨.ref 17, [], [], []⟩] rfl ?_ rfl ?_ rfl ?_ ?_
      · kernel_rfl
      · kernel_rfl
      · exact DAll.op' (sp_move rfl rfl) trivial rfl (From.ok (ps := []) trivial) (DAll.op' (sp_loadBA rfl isBlk rfl vt127 rfl rfl) trivial rfl (From.ok (ps := [(none, 0)]) ⟨⟨rfl, by kernel_rfl⟩, trivial⟩) (DAll.op' (sp_buildSlice (qs := [.agg [.val (.int .i64 (((mlook l24 (i18, i19)).getD (0, false)).1)), .val (.bool (((mlook l24 (i18, i19)).getD (0, false)).2))]]) (need := []) (els := List.map en_api_StrikeStep ([(((mlook l24 (i18, i19)).getD (0, false)).1, ((mlook l24 (i18, i19)).getD (0, false)).2)] : List (Int × Bool))) 16 rfl sl125 (by decide) (by decide) rfl rfl rfl (.v (.v (.nil))) (map_len fun _ => rfl) rfl rfl rfl) trivial rfl (From.ok (ps := []) trivial) (DAll.opT (ts_append (N := l10.length) (N2 := ([(((mlook l24 (i18, i19)).getD (0, false)).1, ((mlook l24 (i18, i19)).getD (0, false)).2)] : List (Int × Bool)).length) 17 rfl rfl rfl isOwn rfl sl125 (len_map _ _) (len_map _ _) h10 (map_app _ _ _) rfl) trivial (From.ok (ps := [(none, 1)]) ⟨⟨rfl, by kernel_rfl⟩, trivial⟩) (From.ok (ps := [(some 2, 0)]) ⟨⟨_, rfl, by kernel_rfl, rfl, by kernel_rfl⟩, trivial⟩) (DAll.op' (sp_fieldAddrB rfl isBlk rfl ft351_0 vt3 (by decide)) trivial rfl (From.ok (ps := [(none, 4)]) ⟨⟨rfl, by kernel_rfl⟩, trivial⟩) (DAll.op' (sp_loadB rfl isBlk rfl vt3 rfl) trivial rfl (From.ok (ps := [(none, 4)]) ⟨⟨rfl, by kernel_rfl⟩, trivial⟩) (DAll.op' (sp_add rfl rfl rfl h11) trivial rfl (From.ok (ps := []) trivial) (DAll.op' (sp_move rfl rfl) trivial rfl (From.ok (ps := []) trivial) (DAll.op' (sp_build (qs := [(0, .val (.int .i64 (i18 + 1))), (1, .val (.int .i64 r26.1))]) rfl bt351 rfl rfl rfl rfl) trivial rfl (From.ok (ps := []) trivial) (DAll.op' (sp_assign rfl rfl) trivial rfl (From.ok (ps := []) trivial) (.nil))))))))))
      refine stoB 5 (cells' := [.val (.int .i64 (i18 + 1)), .val (.int .i64 r26.1)]) rfl rfl trivial rfl rfl rfl rfl vt351 rfl rfl rfl ?_
      refine TL.nil ?_
      refine TC.inBlock ?_
      refine TC.inLoop ?_
      refine TC.seq ?_
      refine TC.seq ?_
      refine subJ [(14, 17)] (ih _ _ _ _ _ _ _ _ _ _ _ _ _ _ _ _ h) ?_ ?_ ?_
      · exact ⟨rfl, rfl, rfl, rfl, rfl, rfl, trivial⟩
      · exact ⟨mem_at 0 rfl, mem_at 3 rfl, mem_at 4 rfl, mem_at 5 rfl, mem_at 6 rfl, mem_at 7 rfl, mem_at 8 rfl, mem_at 9 rfl, mem_at 10 rfl, trivial⟩
      · rfl
    · have h := cond_f h h8
      refine TC.exit rfl ?_
      refine TC.seq ?_
      refine drawJ 4 [⟨.ref 14, [], [], []⟩, ⟨.ptr 12 0, [], [.blk 12 [.val (.int .i64 i20), .val (.int .i64 i21)] 353], []⟩, ⟨.val (.int .i64 i20), [], [.blk 12 [.val (.int .i64 i20), .val (.int .i64 i21)] 353], []⟩, ⟨.ref 14, [], [], []⟩] rfl ?_ rfl ?_ rfl ?_ ?_
      · kernel_rfl
      · kernel_rfl
      · exact DAll.op' (sp_move rfl rfl) trivial rfl (From.ok (ps := []) trivial) (DAll.op' (sp_fieldAddrB rfl isBlk rfl ft353_0 vt3 (by decide)) trivial rfl (From.ok (ps := [(none, 4)]) ⟨⟨rfl, rfl⟩, trivial⟩) (DAll.op' (sp_loadB rfl isBlk rfl vt3 rfl) trivial rfl (From.ok (ps := [(none, 4)]) ⟨⟨rfl, rfl⟩, trivial⟩) (DAll.op' (sp_assign rfl rfl) trivial rfl (From.ok (ps := []) trivial) (.nil))))
      refine op0 (sp_assign rfl rfl) rfl trivial rfl rfl ?_
      refine op0 (sp_assign rfl rfl) rfl trivial rfl rfl ?_
      refine TL.nil ?_
      cases h
      exact retJ [(0, 14)] (.tmp rfl (.tmp rfl (.tmp rfl .nil))) rfl ⟨mem_at 0 rfl, trivial⟩ rfl rfl
def ev_strike_Bring (n : Nat) (rr1 : Bool) (rr2 : Bool) (rr3 : List (Int × Int)) (slot4 : Int) (place5 : Int) (until6 : Int) : Option ((List (Int × Bool)) × Int × Int) :=
  (ev_strike_begin n rr1 rr2 rr3 slot4 place5).bind fun r7 => cond (r7.2.2.2.2 != 0) (some (([] : List (Int × Bool)), 0, r7.2.2.2.2)) (chk (in64 (slot4 + 96)) <| (ev_strike_within n slot4 (slot4 + 96) ([until6] : List Int)).bind fun r8 => cond (!r8) (some (([] : List (Int × Bool)), 0, 3)) ((ev_p_strike_best_from n r7.1 r7.2.1 r7.2.2.1 r7.2.2.2.1 until6 ([] : List ((Int × Int) × (Int × Int))) ([] : List ((Int × Int) × (Int × Bool))) ([] : List ((Int × Int) × Bool)) slot4 place5).bind fun r9 => cond (!r9.2.2.1) (some (([] : List (Int × Bool)), 0, 7)) (ev_strike_Bring_l0 n until6 n ([] : List (Int × Bool)) r7.1 r7.2.1 r7.2.2.2.1 r7.1 r7.2.1 r7.2.2.2.1 until6 slot4 place5 r9.1 r9.2.1 r7.2.2.1 r9.2.2.2.1 r9.2.2.2.2.1 r9.2.2.2.2.2)))
set_option maxRecDepth 100000 in
set_option maxHeartbeats 2000000 in
theorem fc_strike_Bring {n : Nat} {rr1 : Bool} {rr2 : Bool} {rr3 : List (Int × Int)} {slot4 : Int} {place5 : Int} {until6 : Int} {r : (List (Int × Bool)) × Int × Int} (h : ev_strike_Bring n rr1 rr2 rr3 slot4 place5 until6 = some r) : FC Try.prog 115 [.agg [.val (.bool rr1), .val (.bool rr2), .ref 0], .val (.int .i64 slot4), .val (.int .i64 place5), .val (.int .i64 until6)] [.ro 0 2 (List.map en_api_Span rr3)] (.tup [.ref 0, .val (.int .i64 r.2.1), .val (.int .i64 r.2.2)]) [.row 0 127 2 (List.map en_api_StrikeStep r.1)] := by
  refine introJ (nz := 90) Try.func115 rfl rfl rfl (fun w0 R0 env0 => ?_)
  rw [ev_strike_Bring] at h
  refine TC.seq ?_
  refine TC.region ?_
  refine op0 (sp_box 1 rfl rfl rfl rfl rfl) rfl trivial rfl rfl ?_
  refine op0 (sp_assign rfl rfl) rfl trivial rfl rfl ?_
  refine op0 (sp_assign rfl rfl) rfl trivial rfl rfl ?_
  refine op0 (sp_assign rfl rfl) rfl trivial rfl rfl ?_
  refine TL.nil ?_
  refine TC.seq ?_
  refine TC.region ?_
  refine op1 0 rfl (sp_loadBA rfl isBlk rfl vt124 rfl rfl) rfl trivial rfl rfl ?_
  refine op0 (sp_move rfl rfl) rfl trivial rfl rfl ?_
  refine op0 (sp_move rfl rfl) rfl trivial rfl rfl ?_
  obtain ⟨r7, h1, h⟩ := bind_inv h
  refine op1 1 rfl (sp_call (avs := [.agg [.val (.bool rr1), .val (.bool rr2), .ref 0], .val (.int .i64 slot4), .val (.int .i64 place5)]) (need := [.ro 0 2 (List.map en_api_Span rr3)]) (v := .tup [.agg [.val (.bool r7.1), .val (.bool r7.2.1), .ref 2, .val (.int .i64 r7.2.2.2.1)], .val (.int .i64 r7.2.2.2.2)]) (news := [.ro 2 2 (List.map en_api_Span r7.2.2.1)]) rfl rfl rfl Try.call112 (atJ [] [(0, 2)] (fc_strike_begin h1) rfl rfl) (.inl (roAll rfl))) rfl trivial rfl rfl ?_
  refine op0 (sp_move rfl rfl) rfl trivial rfl rfl ?_
  refine op0 (sp_extract rfl rfl rfl) rfl trivial rfl rfl ?_
  refine op0 (sp_extract rfl rfl rfl) rfl trivial rfl rfl ?_
  refine op0 (sp_alloc 3 rfl Try.zeroValue250 rfl) rfl trivial rfl rfl ?_
  refine stoB 0 (cells' := [.val (.bool r7.1), .val (.bool r7.2.1), .ref 2, .val (.int .i64 r7.2.2.2.1)]) rfl rfl trivial rfl rfl rfl rfl vt250 rfl rfl rfl ?_
  refine op0 (sp_assign rfl rfl) rfl trivial rfl rfl ?_
  refine TL.nil ?_
  refine TC.seq ?_
  refine TC.block ?_
  refine TC.seq ?_
  refine TC.region ?_
  refine op0 (sp_move rfl rfl) rfl trivial rfl rfl ?_
  refine op0 (sp_neq rfl rfl rfl) rfl trivial rfl rfl ?_
  refine op0 (sp_assign rfl rfl) rfl trivial rfl rfl ?_
  refine TL.nil ?_
  refine TC.cond (b := (r7.2.2.2.2 != 0)) rfl (fun h2 => ?_) (fun h2 => ?_)
  · have h := cond_t h h2
    refine TC.seq ?_
    refine TC.region ?_
    refine op0 (sp_move rfl rfl) rfl trivial rfl rfl ?_
    refine op0 (sp_assign rfl rfl) rfl trivial rfl rfl ?_
    refine op0 (sp_assign rfl rfl) rfl trivial rfl rfl ?_
    refine op0 (sp_assign rfl rfl) rfl trivial rfl rfl ?_
    refine TL.nil ?_
    refine nilRowC 8 4 127 2 (List.map en_api_StrikeStep []) rfl rfl rfl ?_
    cases h
    exact retJ [(0, 4)] (.tmp rfl (.tmp rfl (.tmp rfl .nil))) rfl ⟨mem_at 0 rfl, trivial⟩ rfl rfl
  · have h := cond_f h h2
    refine TC.seq ?_
    refine TC.region ?_
    refine op0 (sp_move rfl rfl) rfl trivial rfl rfl ?_
    refine op0 (sp_move rfl rfl) rfl trivial rfl rfl ?_
    obtain ⟨h3, h⟩ := chk_inv h
    refine op0 (sp_add rfl rfl rfl h3) rfl trivial rfl rfl ?_
    refine op0 (sp_move rfl rfl) rfl trivial rfl rfl ?_
    refine op0 (sp_buildSlice (qs := [.val (.int .i64 until6)]) (need := []) (els := List.map en_int ([until6] : List Int)) 5 rfl sl37 (by decide) (by decide) rfl rfl rfl (.v (.nil)) (map_len fun _ => rfl) rfl rfl rfl) rfl trivial rfl rfl ?_
    obtain ⟨r8, h4, h⟩ := bind_inv h
    refine op1 0 rfl (sp_call (avs := [.val (.int .i64 slot4), .val (.int .i64 (slot4 + 96)), .ref 5]) (need := [.row 5 3 1 (List.map en_int ([until6] : List Int))]) (v := .val (.bool r8)) (news := []) rfl rfl rfl Try.call199 (atJ [(0, 5)] [] (fc_strike_within h4) rfl rfl) (.inr (fun x hx => nomatch hx))) rfl trivial rfl rfl ?_
    refine op0 (sp_not rfl rfl) rfl trivial rfl rfl ?_
    refine op0 (sp_assign rfl rfl) rfl trivial rfl rfl ?_
    refine TL.nil ?_
    refine TC.cond (b := (!r8)) rfl (fun h5 => ?_) (fun h5 => ?_)
    · have h := cond_t h h5
      refine TC.seq ?_
      refine TC.region ?_
      refine op0 (sp_assign rfl rfl) rfl trivial rfl rfl ?_
      refine op0 (sp_assign rfl rfl) rfl trivial rfl rfl ?_
      refine op0 (sp_assign rfl rfl) rfl trivial rfl rfl ?_
      refine TL.nil ?_
      refine nilRowC 8 6 127 2 (List.map en_api_StrikeStep []) rfl rfl rfl ?_
      cases h
      exact retJ [(0, 6)] (.tmp rfl (.tmp rfl (.tmp rfl .nil))) rfl ⟨mem_at 0 rfl, trivial⟩ rfl rfl
    · have h := cond_f h h5
      refine TC.skip ?_
      refine TC.inBlock ?_
      refine TC.seq ?_
      refine TC.region ?_
      refine op1 1 rfl (sp_loadBA rfl isBlk rfl vt250 rfl rfl) rfl trivial rfl rfl ?_
      refine op0 (sp_move rfl rfl) rfl trivial rfl rfl ?_
      refine op0 (sp_makeMap (ek := mk345) (ag := true) (ev := en_strike_cost) 7 ([] : List ((Int × Int) × (Int × Int))) rfl rfl) rfl trivial rfl rfl ?_
      refine op0 (sp_makeMap (ek := mk346) (ag := true) (ev := en_api_StrikeStep) 8 ([] : List ((Int × Int) × (Int × Bool))) rfl rfl) rfl trivial rfl rfl ?_
      refine op0 (sp_makeMap (ek := mk347) (ag := false) (ev := en_bool) 9 ([] : List ((Int × Int) × Bool)) rfl rfl) rfl trivial rfl rfl ?_
      refine op0 (sp_build (qs := [(0, .agg [.val (.bool r7.1), .val (.bool r7.2.1), .ref 2, .val (.int .i64 r7.2.2.2.1)]), (1, .val (.int .i64 until6)), (2, .ref 7), (3, .ref 8), (4, .ref 9)]) rfl bt349 rfl rfl rfl rfl) rfl trivial rfl rfl ?_
      refine op0 (sp_box 10 rfl rfl rfl rfl rfl) rfl trivial rfl rfl ?_
      refine op0 (sp_assign rfl rfl) rfl trivial rfl rfl ?_
      refine TL.nil ?_
      refine TC.seq ?_
      refine TC.region ?_
      refine op0 (sp_move rfl rfl) rfl trivial rfl rfl ?_
      refine op0 (sp_move rfl rfl) rfl trivial rfl rfl ?_
      refine op0 (sp_build (qs := [(0, .val (.int .i64 slot4)), (1, .val (.int .i64 place5))]) rfl bt351 rfl rfl rfl rfl) rfl trivial rfl rfl ?_
      refine op0 (sp_alloc 11 rfl Try.zeroValue351 rfl) rfl trivial rfl rfl ?_
      refine stoB 0 (cells' := [.val (.int .i64 slot4), .val (.int .i64 place5)]) rfl rfl trivial rfl rfl rfl rfl vt351 rfl rfl rfl ?_
      refine TL.nil ?_
      refine TC.seq ?_
      refine TC.region ?_
      refine op0 (sp_move rfl rfl) rfl trivial rfl rfl ?_
      refine op1 0 rfl (sp_loadBA rfl isBlk rfl vt351 rfl rfl) rfl trivial rfl rfl ?_
      refine TL.freeze 1 rfl ?_
      obtain ⟨r9, h6, h⟩ := bind_inv h
      refine opT (take := [.inv 7 (mapI mk345 true en_strike_cost ([] : List ((Int × Int) × (Int × Int)))), .inv 8 (mapI mk346 true en_api_StrikeStep ([] : List ((Int × Int) × (Int × Bool)))), .inv 9 (mapI mk347 false en_bool ([] : List ((Int × Int) × Bool)))]) (need := [.rob 10 [.val (.bool r7.1), .val (.bool r7.2.1), .ref 2, .val (.int .i64 r7.2.2.2.1), .val (.int .i64 until6), .ref 7, .ref 8, .ref 9] 349, .ro 2 2 (List.map en_api_Span r7.2.2.1)]) (V' := [.inv 7 (mapI mk345 true en_strike_cost r9.2.2.2.1), .inv 8 (mapI mk346 true en_api_StrikeStep r9.2.2.2.2.1), .inv 9 (mapI mk347 false en_bool r9.2.2.2.2.2), .blk 11 [.val (.int .i64 slot4), .val (.int .i64 place5)] 351, .rob 10 [.val (.bool r7.1), .val (.bool r7.2.1), .ref 2, .val (.int .i64 r7.2.2.2.1), .val (.int .i64 until6), .ref 7, .ref 8, .ref 9] 349, .row 5 3 1 (List.map en_int ([until6] : List Int)), .blk 3 [.val (.bool r7.1), .val (.bool r7.2.1), .ref 2, .val (.int .i64 r7.2.2.2.1)] 250, .ro 2 2 (List.map en_api_Span r7.2.2.1), .blk 1 [.val (.bool rr1), .val (.bool rr2), .ref 0] 124, .ro 0 2 (List.map en_api_Span rr3)]) [4, 3, 2] [1, 7] (ts_call (avs := [.ptr 10 0, .agg [.val (.int .i64 slot4), .val (.int .i64 place5)]]) (take := [.inv 7 (mapI mk345 true en_strike_cost ([] : List ((Int × Int) × (Int × Int)))), .inv 8 (mapI mk346 true en_api_StrikeStep ([] : List ((Int × Int) × (Int × Bool)))), .inv 9 (mapI mk347 false en_bool ([] : List ((Int × Int) × Bool)))]) (need := [.rob 10 [.val (.bool r7.1), .val (.bool r7.2.1), .ref 2, .val (.int .i64 r7.2.2.2.1), .val (.int .i64 until6), .ref 7, .ref 8, .ref 9] 349, .ro 2 2 (List.map en_api_Span r7.2.2.1)]) (v := .tup [.agg [.val (.int .i64 r9.1), .val (.int .i64 r9.2.1)], .val (.bool r9.2.2.1)]) (news := [.inv 7 (mapI mk345 true en_strike_cost r9.2.2.2.1), .inv 8 (mapI mk346 true en_api_StrikeStep r9.2.2.2.2.1), .inv 9 (mapI mk347 false en_bool r9.2.2.2.2.2)]) rfl rfl rfl Try.call204 (atT [(0, 10), (1, 2), (2, 7), (3, 8), (4, 9)] [(2, 7), (3, 8), (4, 9)] (ft_p_strike_best_from h6) rfl rfl rfl) rfl rfl) trivial rfl ⟨rfl, rfl, rfl, trivial⟩ ⟨rfl, rfl, trivial⟩ rfl rfl ?_
      refine op0 (sp_move rfl rfl) rfl trivial rfl rfl ?_
      refine op0 (sp_extract rfl rfl rfl) rfl trivial rfl rfl ?_
      refine op0 (sp_extract rfl rfl rfl) rfl trivial rfl rfl ?_
      refine op0 (sp_alloc 12 rfl Try.zeroValue353 rfl) rfl trivial rfl rfl ?_
      refine stoB 0 (cells' := [.val (.int .i64 r9.1), .val (.int .i64 r9.2.1)]) rfl rfl trivial rfl rfl rfl rfl vt353 rfl rfl rfl ?_
      refine op0 (sp_assign rfl rfl) rfl trivial rfl rfl ?_
      refine TL.nil ?_
      refine TC.seq ?_
      refine TC.seq ?_
      refine TC.region ?_
      refine op0 (sp_move rfl rfl) rfl trivial rfl rfl ?_
      refine op0 (sp_not rfl rfl) rfl trivial rfl rfl ?_
      refine TL.nil ?_
      refine TC.cond (b := (!r9.2.2.1)) rfl (fun h7 => ?_) (fun h7 => ?_)
      · have h := cond_t h h7
        refine TC.seq ?_
        refine TC.region ?_
        refine op0 (sp_assign rfl rfl) rfl trivial rfl rfl ?_
        refine op0 (sp_assign rfl rfl) rfl trivial rfl rfl ?_
        refine op0 (sp_assign rfl rfl) rfl trivial rfl rfl ?_
        refine TL.nil ?_
        refine nilRowC 8 13 127 2 (List.map en_api_StrikeStep []) rfl rfl rfl ?_
        cases h
        exact retJ [(0, 13)] (.tmp rfl (.tmp rfl (.tmp rfl .nil))) rfl ⟨mem_at 0 rfl, trivial⟩ rfl rfl
      · have h := cond_f h h7
        refine TC.skip ?_
        refine TC.seq ?_
        refine TC.block ?_
        refine TC.loop ?_
        refine TC.seq ?_
        refine TC.seq ?_
        refine nilRowC 8 18 127 2 (List.map en_api_StrikeStep []) rfl rfl rfl ?_
        refine subJ [(14, 18)] (ok_strike_Bring_l0 _ _ _ _ _ _ _ _ _ _ _ _ _ _ _ _ _ h) ?_ ?_ ?_
        · exact ⟨rfl, rfl, rfl, rfl, rfl, rfl, trivial⟩
        · exact ⟨mem_at 0 rfl, mem_at 8 rfl, mem_at 6 rfl, mem_at 5 rfl, mem_at 1 rfl, mem_at 9 rfl, mem_at 2 rfl, mem_at 3 rfl, mem_at 4 rfl, trivial⟩
        · rfl
/- top_pubStrike -/
def ev_top_pubStrike (n : Nat) : Option Bool :=
  (ev_top_pubSpan n 22 38).bind fun r1 => (ev_strike_Day n true false ([(r1.1, r1.2)] : List (Int × Int))).bind fun r2 => (ev_strike_Bring n true false ([(r1.1, r1.2)] : List (Int × Int)) 6 5 7).bind fun r3 => cond (r2.2 == 0) (cond (r3.2.2 == 0) (cond (r2.1 == 121) (cond (r3.2.1 == 1) (cond ((r3.1.length : Int) == 1) (idx r3.1 0 fun x4 => some ((x4.1 == 1) && (x4.2 == false))) (some false)) (some false)) (some false)) (some false)) (some false)
set_option maxRecDepth 100000 in
set_option maxHeartbeats 2000000 in
theorem fc_top_pubStrike {n : Nat}  {r : Bool} (h : ev_top_pubStrike n = some r) : FC Try.prog 47 [] [] (.val (.bool r)) [] := by
  refine introJ (nz := 47) Try.func47 rfl rfl rfl (fun w0 R0 env0 => ?_)
  rw [ev_top_pubStrike] at h
  refine TC.seq ?_
  refine TC.region ?_
  refine op0 (sp_assign rfl rfl) rfl trivial rfl rfl ?_
  refine TL.nil ?_
  refine TC.seq ?_
  refine TC.region ?_
  obtain ⟨r1, h1, h⟩ := bind_inv h
  refine op0 (sp_call (avs := [.val (.int .i64 22), .val (.int .i64 38)]) (need := []) (v := .agg [.val (.int .i64 r1.1), .val (.int .i64 r1.2)]) (news := []) rfl rfl rfl Try.call14 (atJ [] [] (fc_top_pubSpan h1) rfl rfl) (.inl (roAll rfl))) rfl trivial rfl rfl ?_
  refine op0 (sp_buildSlice (qs := [.agg [.val (.int .i64 r1.1), .val (.int .i64 r1.2)]]) (need := []) (els := List.map en_api_Span ([(r1.1, r1.2)] : List (Int × Int))) 0 rfl sl23 (by decide) (by decide) rfl rfl rfl (.v (.v (.nil))) (map_len fun _ => rfl) rfl rfl rfl) rfl trivial rfl rfl ?_
  refine op0 (sp_build (qs := [(0, .val (.bool true)), (2, .ref 0)]) rfl bt124 rfl rfl rfl rfl) rfl trivial rfl rfl ?_
  refine op0 (sp_alloc 1 rfl Try.zeroValue124 rfl) rfl trivial rfl rfl ?_
  refine stoB 0 (cells' := [.val (.bool true), .val (.bool false), .ref 0]) rfl rfl trivial rfl rfl rfl rfl vt124 rfl rfl rfl ?_
  refine TL.nil ?_
  refine TC.seq ?_
  refine TC.region ?_
  refine op1 0 rfl (sp_loadBA rfl isBlk rfl vt124 rfl rfl) rfl trivial rfl rfl ?_
  obtain ⟨r2, h2, h⟩ := bind_inv h
  refine op1 1 rfl (sp_call (avs := [.agg [.val (.bool true), .val (.bool false), .ref 0]]) (need := [.row 0 26 2 (List.map en_api_Span ([(r1.1, r1.2)] : List (Int × Int)))]) (v := .tup [.val (.int .i64 r2.1), .val (.int .i64 r2.2)]) (news := []) rfl rfl rfl Try.call114 (atJ [] [] (fc_strike_Day h2) rfl rfl) (.inr (fun x hx => nomatch hx))) rfl trivial rfl rfl ?_
  refine op0 (sp_move rfl rfl) rfl trivial rfl rfl ?_
  refine op0 (sp_extract rfl rfl rfl) rfl trivial rfl rfl ?_
  refine op0 (sp_extract rfl rfl rfl) rfl trivial rfl rfl ?_
  refine op0 (sp_assign rfl rfl) rfl trivial rfl rfl ?_
  refine op0 (sp_assign rfl rfl) rfl trivial rfl rfl ?_
  refine TL.nil ?_
  refine TC.seq ?_
  refine TC.region ?_
  refine op1 0 rfl (sp_loadBA rfl isBlk rfl vt124 rfl rfl) rfl trivial rfl rfl ?_
  obtain ⟨r3, h3, h⟩ := bind_inv h
  refine op1 1 rfl (sp_call (avs := [.agg [.val (.bool true), .val (.bool false), .ref 0], .val (.int .i64 6), .val (.int .i64 5), .val (.int .i64 7)]) (need := [.row 0 26 2 (List.map en_api_Span ([(r1.1, r1.2)] : List (Int × Int)))]) (v := .tup [.ref 2, .val (.int .i64 r3.2.1), .val (.int .i64 r3.2.2)]) (news := [.row 2 127 2 (List.map en_api_StrikeStep r3.1)]) rfl rfl rfl Try.call115 (atJ [] [(0, 2)] (fc_strike_Bring h3) rfl rfl) (.inr (List.forall_mem_cons.2 ⟨indep_map en_api_StrikeStep_flat, (by simp)⟩))) rfl trivial rfl rfl ?_
  refine op0 (sp_move rfl rfl) rfl trivial rfl rfl ?_
  refine op0 (sp_extract rfl rfl rfl) rfl trivial rfl rfl ?_
  refine op0 (sp_extract rfl rfl rfl) rfl trivial rfl rfl ?_
  refine op0 (sp_extract rfl rfl rfl) rfl trivial rfl rfl ?_
  refine op0 (sp_assign rfl rfl) rfl trivial rfl rfl ?_
  refine op0 (sp_assign rfl rfl) rfl trivial rfl rfl ?_
  refine op0 (sp_assign rfl rfl) rfl trivial rfl rfl ?_
  refine TL.nil ?_
  refine TC.seq ?_
  refine TC.region ?_
  refine op0 (sp_move rfl rfl) rfl trivial rfl rfl ?_
  refine op0 (sp_eql rfl rfl rfl) rfl trivial rfl rfl ?_
  refine op0 (sp_move rfl rfl) rfl trivial rfl rfl ?_
  rcases cond_cases h with ⟨h4, h⟩ | ⟨h4, h⟩
  · refine (boolLit 23 rfl h4).2 ?_
    refine op0 (sp_move rfl rfl) rfl ⟨_, rfl, rfl⟩ rfl rfl ?_
    refine op0 (sp_eql rfl rfl rfl) rfl ⟨_, rfl, rfl⟩ rfl rfl ?_
    refine op0 (sp_pickT rfl rfl rfl) rfl trivial rfl rfl ?_
    refine op0 (sp_move rfl rfl) rfl trivial rfl rfl ?_
    rcases cond_cases h with ⟨h5, h⟩ | ⟨h5, h⟩
    · refine (boolLit 27 rfl h5).2 ?_
      refine op0 (sp_move rfl rfl) rfl ⟨_, rfl, rfl⟩ rfl rfl ?_
      refine op0 (sp_eql rfl rfl rfl) rfl ⟨_, rfl, rfl⟩ rfl rfl ?_
      refine op0 (sp_pickT rfl rfl rfl) rfl trivial rfl rfl ?_
      refine op0 (sp_move rfl rfl) rfl trivial rfl rfl ?_
      rcases cond_cases h with ⟨h6, h⟩ | ⟨h6, h⟩
      · refine (boolLit 31 rfl h6).2 ?_
        refine op0 (sp_move rfl rfl) rfl ⟨_, rfl, rfl⟩ rfl rfl ?_
        refine op0 (sp_eql rfl rfl rfl) rfl ⟨_, rfl, rfl⟩ rfl rfl ?_
        refine op0 (sp_pickT rfl rfl rfl) rfl trivial rfl rfl ?_
        refine op0 (sp_move rfl rfl) rfl trivial rfl rfl ?_
        rcases cond_cases h with ⟨h7, h⟩ | ⟨h7, h⟩
        · refine (boolLit 35 rfl h7).2 ?_
          refine op0 (sp_move rfl rfl) rfl ⟨_, rfl, rfl⟩ rfl rfl ?_
          refine op1 0 rfl (sp_lenM (N := r3.1.length) (len_map _ _) rfl rfl isOwn Try.underlying125) rfl ⟨_, rfl, rfl⟩ rfl rfl ?_
          refine op0 (sp_eql rfl rfl rfl) rfl ⟨_, rfl, rfl⟩ rfl rfl ?_
          refine op0 (sp_pickT rfl rfl rfl) rfl trivial rfl rfl ?_
          refine op0 (sp_move rfl rfl) rfl trivial rfl rfl ?_
          rcases cond_cases h with ⟨h8, h⟩ | ⟨h8, h⟩
          · refine (boolLit 40 rfl h8).2 ?_
            refine op0 (sp_move rfl rfl) rfl ⟨_, rfl, rfl⟩ rfl rfl ?_
            obtain ⟨x4, h9, h10, h⟩ := idx_inv h
            refine op1 0 rfl (sp_indexS rfl rfl rfl isOwn sl125 h9 (map_get _ h10)) rfl ⟨_, rfl, rfl⟩ rfl rfl ?_
            refine op1 0 rfl (sp_loadRA (i := (0 : Int).toNat) (j := 0) (as_ := [.val (.int .i64 x4.1), .val (.bool x4.2)]) (ns := []) rfl rfl isOwn vt127 rfl (map_get _ h10) rfl rfl (by decide) (.v (.v (.nil))) (nodup_of_B rfl)) rfl ⟨_, rfl, rfl⟩ rfl rfl ?_
            refine op0 (sp_build (qs := [(0, .val (.int .i64 1))]) rfl bt127 rfl rfl rfl rfl) rfl ⟨_, rfl, rfl⟩ rfl rfl ?_
            refine op0 (sp_eqlS rfl rfl rfl rfl rfl (eq127 _ _ _ _)) rfl ⟨_, rfl, rfl⟩ rfl rfl ?_
            refine op0 (sp_pickT rfl rfl rfl) rfl trivial rfl rfl ?_
            refine op0 (sp_assign rfl rfl) rfl trivial rfl rfl ?_
            refine TL.nil ?_
            cases h
            exact retJ [] (.tmp rfl .nil) rfl trivial rfl rfl
          · refine (boolLit 40 rfl h8).2 ?_
            refine opSkip rfl ⟨_, rfl, .inl rfl⟩ rfl ?_
            refine opSkip rfl ⟨_, rfl, .inl rfl⟩ rfl ?_
            refine opSkip rfl ⟨_, rfl, .inl rfl⟩ rfl ?_
            refine opSkip rfl ⟨_, rfl, .inl rfl⟩ rfl ?_
            refine opSkip rfl ⟨_, rfl, .inl rfl⟩ rfl ?_
            refine op0 (sp_pickF rfl rfl rfl) rfl trivial rfl rfl ?_
            refine op0 (sp_assign rfl rfl) rfl trivial rfl rfl ?_
            refine TL.nil ?_
            cases h
            exact retJ [] (.tmp rfl .nil) rfl trivial rfl rfl
        · refine (boolLit 35 rfl h7).2 ?_
          refine opSkip rfl ⟨_, rfl, .inl rfl⟩ rfl ?_
          refine opSkip rfl ⟨_, rfl, .inl rfl⟩ rfl ?_
          refine opSkip rfl ⟨_, rfl, .inl rfl⟩ rfl ?_
          refine op0 (sp_pickF rfl rfl rfl) rfl trivial rfl rfl ?_
          refine op0 (sp_move rfl rfl) rfl trivial rfl rfl ?_
          refine opSkip rfl ⟨_, rfl, .inl rfl⟩ rfl ?_
          refine opSkip rfl ⟨_, rfl, .inl rfl⟩ rfl ?_
          refine opSkip rfl ⟨_, rfl, .inl rfl⟩ rfl ?_
          refine opSkip rfl ⟨_, rfl, .inl rfl⟩ rfl ?_
          refine opSkip rfl ⟨_, rfl, .inl rfl⟩ rfl ?_
          refine op0 (sp_pickF rfl rfl rfl) rfl trivial rfl rfl ?_
          refine op0 (sp_assign rfl rfl) rfl trivial rfl rfl ?_
          refine TL.nil ?_
          cases h
          exact retJ [] (.tmp rfl .nil) rfl trivial rfl rfl
      · refine (boolLit 31 rfl h6).2 ?_
        refine opSkip rfl ⟨_, rfl, .inl rfl⟩ rfl ?_
        refine opSkip rfl ⟨_, rfl, .inl rfl⟩ rfl ?_
        refine op0 (sp_pickF rfl rfl rfl) rfl trivial rfl rfl ?_
        refine op0 (sp_move rfl rfl) rfl trivial rfl rfl ?_
        refine opSkip rfl ⟨_, rfl, .inl rfl⟩ rfl ?_
        refine opSkip rfl ⟨_, rfl, .inl rfl⟩ rfl ?_
        refine opSkip rfl ⟨_, rfl, .inl rfl⟩ rfl ?_
        refine op0 (sp_pickF rfl rfl rfl) rfl trivial rfl rfl ?_
        refine op0 (sp_move rfl rfl) rfl trivial rfl rfl ?_
        refine opSkip rfl ⟨_, rfl, .inl rfl⟩ rfl ?_
        refine opSkip rfl ⟨_, rfl, .inl rfl⟩ rfl ?_
        refine opSkip rfl ⟨_, rfl, .inl rfl⟩ rfl ?_
        refine opSkip rfl ⟨_, rfl, .inl rfl⟩ rfl ?_
        refine opSkip rfl ⟨_, rfl, .inl rfl⟩ rfl ?_
        refine op0 (sp_pickF rfl rfl rfl) rfl trivial rfl rfl ?_
        refine op0 (sp_assign rfl rfl) rfl trivial rfl rfl ?_
        refine TL.nil ?_
        cases h
        exact retJ [] (.tmp rfl .nil) rfl trivial rfl rfl
    · refine (boolLit 27 rfl h5).2 ?_
      refine opSkip rfl ⟨_, rfl, .inl rfl⟩ rfl ?_
      refine opSkip rfl ⟨_, rfl, .inl rfl⟩ rfl ?_
      refine op0 (sp_pickF rfl rfl rfl) rfl trivial rfl rfl ?_
      refine op0 (sp_move rfl rfl) rfl trivial rfl rfl ?_
      refine opSkip rfl ⟨_, rfl, .inl rfl⟩ rfl ?_
      refine opSkip rfl ⟨_, rfl, .inl rfl⟩ rfl ?_
      refine op0 (sp_pickF rfl rfl rfl) rfl trivial rfl rfl ?_
      refine op0 (sp_move rfl rfl) rfl trivial rfl rfl ?_
      refine opSkip rfl ⟨_, rfl, .inl rfl⟩ rfl ?_
      refine opSkip rfl ⟨_, rfl, .inl rfl⟩ rfl ?_
      refine opSkip rfl ⟨_, rfl, .inl rfl⟩ rfl ?_
      refine op0 (sp_pickF rfl rfl rfl) rfl trivial rfl rfl ?_
      refine op0 (sp_move rfl rfl) rfl trivial rfl rfl ?_
      refine opSkip rfl ⟨_, rfl, .inl rfl⟩ rfl ?_
      refine opSkip rfl ⟨_, rfl, .inl rfl⟩ rfl ?_
      refine opSkip rfl ⟨_, rfl, .inl rfl⟩ rfl ?_
      refine opSkip rfl ⟨_, rfl, .inl rfl⟩ rfl ?_
      refine opSkip rfl ⟨_, rfl, .inl rfl⟩ rfl ?_
      refine op0 (sp_pickF rfl rfl rfl) rfl trivial rfl rfl ?_
      refine op0 (sp_assign rfl rfl) rfl trivial rfl rfl ?_
      refine TL.nil ?_
      cases h
      exact retJ [] (.tmp rfl .nil) rfl trivial rfl rfl
  · refine (boolLit 23 rfl h4).2 ?_
    refine opSkip rfl ⟨_, rfl, .inl rfl⟩ rfl ?_
    refine opSkip rfl ⟨_, rfl, .inl rfl⟩ rfl ?_
    refine op0 (sp_pickF rfl rfl rfl) rfl trivial rfl rfl ?_
    refine op0 (sp_move rfl rfl) rfl trivial rfl rfl ?_
    refine opSkip rfl ⟨_, rfl, .inl rfl⟩ rfl ?_
    refine opSkip rfl ⟨_, rfl, .inl rfl⟩ rfl ?_
    refine op0 (sp_pickF rfl rfl rfl) rfl trivial rfl rfl ?_
    refine op0 (sp_move rfl rfl) rfl trivial rfl rfl ?_
    refine opSkip rfl ⟨_, rfl, .inl rfl⟩ rfl ?_
    refine opSkip rfl ⟨_, rfl, .inl rfl⟩ rfl ?_
    refine op0 (sp_pickF rfl rfl rfl) rfl trivial rfl rfl ?_
    refine op0 (sp_move rfl rfl) rfl trivial rfl rfl ?_
    refine opSkip rfl ⟨_, rfl, .inl rfl⟩ rfl ?_
    refine opSkip rfl ⟨_, rfl, .inl rfl⟩ rfl ?_
    refine opSkip rfl ⟨_, rfl, .inl rfl⟩ rfl ?_
    refine op0 (sp_pickF rfl rfl rfl) rfl trivial rfl rfl ?_
    refine op0 (sp_move rfl rfl) rfl trivial rfl rfl ?_
    refine opSkip rfl ⟨_, rfl, .inl rfl⟩ rfl ?_
    refine opSkip rfl ⟨_, rfl, .inl rfl⟩ rfl ?_
    refine opSkip rfl ⟨_, rfl, .inl rfl⟩ rfl ?_
    refine opSkip rfl ⟨_, rfl, .inl rfl⟩ rfl ?_
    refine opSkip rfl ⟨_, rfl, .inl rfl⟩ rfl ?_
    refine op0 (sp_pickF rfl rfl rfl) rfl trivial rfl rfl ?_
    refine op0 (sp_assign rfl rfl) rfl trivial rfl rfl ?_
    refine TL.nil ?_
    cases h
    exact retJ [] (.tmp rfl .nil) rfl trivial rfl rfl
end
end Go.Proofs.Ytmgcinejodpopaa.Sy
