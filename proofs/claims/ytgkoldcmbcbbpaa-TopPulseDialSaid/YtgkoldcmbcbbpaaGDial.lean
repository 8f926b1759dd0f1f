/- What functions of the program compute, and that they do: printed by symgen.py. -/
import Derived.Test.YtgkoldcmbcbbpaaGLib
set_option linter.unusedSimpArgs false
set_option linter.unusedVariables false
namespace Go.Proofs.Ytgkoldcmbcbbpaa.Sy
open Go.RowKit
noncomputable section

/- dial_within_1 -/
def ev_dial_within_1 (n : Nat) (nn1 : Int) (c2 : Int) (c3 : Int) : Option Bool :=
  cond (decide (nn1 < c2)) (some true) (some (decide (c3 < nn1)))
set_option maxRecDepth 100000 in
set_option maxHeartbeats 2000000 in
theorem fc_dial_within_1 {n : Nat} {nn1 : Int} {c2 : Int} {c3 : Int} {r : Bool} (h : ev_dial_within_1 n nn1 c2 c3 = some r) : FC Try.prog 273 [.val (.int .i64 nn1), .ptr 0 0, .ptr 1 0] [.rob 0 [.val (.int .i64 c2)] 3, .rob 1 [.val (.int .i64 c3)] 3] (.val (.bool r)) [] := by
  refine introJ (nz := 13) Try.func273 rfl rfl rfl (fun w0 R0 env0 => ?_)
  rw [ev_dial_within_1] at h
  refine TC.seq ?_
  refine TC.region ?_
  refine op0 (sp_assign rfl rfl) rfl trivial rfl rfl ?_
  refine TL.nil ?_
  refine TC.seq ?_
  refine TC.region ?_
  refine op0 (sp_move rfl rfl) rfl trivial rfl rfl ?_
  refine op1 0 rfl (sp_loadB rfl isRob rfl vt3 rfl) rfl trivial rfl rfl ?_
  refine op0 (sp_lss rfl rfl rfl) rfl trivial rfl rfl ?_
  refine op0 (sp_move rfl rfl) rfl trivial rfl rfl ?_
  rcases cond_cases h with ⟨h1, h⟩ | ⟨h1, h⟩
  · refine (boolLit 8 rfl h1).2 ?_
    refine opSkip rfl ⟨_, rfl, .inl rfl⟩ rfl ?_
    refine opSkip rfl ⟨_, rfl, .inl rfl⟩ rfl ?_
    refine opSkip rfl ⟨_, rfl, .inl rfl⟩ rfl ?_
    refine op0 (sp_pickT rfl rfl rfl) rfl trivial rfl rfl ?_
    refine op0 (sp_assign rfl rfl) rfl trivial rfl rfl ?_
    refine TL.nil ?_
    cases h
    exact retJ [] (.tmp rfl .nil) rfl trivial rfl rfl
  · refine (boolLit 8 rfl h1).2 ?_
    refine op0 (sp_move rfl rfl) rfl ⟨_, rfl, rfl⟩ rfl rfl ?_
    refine op1 1 rfl (sp_loadB rfl isRob rfl vt3 rfl) rfl ⟨_, rfl, rfl⟩ rfl rfl ?_
    refine op0 (sp_gtr rfl rfl rfl) rfl ⟨_, rfl, rfl⟩ rfl rfl ?_
    refine op0 (sp_pickF rfl rfl rfl) rfl trivial rfl rfl ?_
    refine op0 (sp_assign rfl rfl) rfl trivial rfl rfl ?_
    refine TL.nil ?_
    cases h
    exact retJ [] (.tmp rfl .nil) rfl trivial rfl rfl
/- dial_within -/
def ev_dial_within (n : Nat) (least1 : Int) (most2 : Int) (l3 : List Int) : Option Bool :=
  (ev_slices_ContainsFunc_Lint_int n l3 (fun a => ev_dial_within_1 n a least1 most2)).bind fun r4 => some (!r4)
set_option maxRecDepth 100000 in
set_option maxHeartbeats 2000000 in
theorem fc_dial_within {n : Nat} {least1 : Int} {most2 : Int} {l3 : List Int} {r : Bool} (h : ev_dial_within n least1 most2 l3 = some r) : FC Try.prog 186 [.val (.int .i64 least1), .val (.int .i64 most2), .ref 0] [.ro 0 1 (List.map en_int l3)] (.val (.bool r)) [] := by
  refine introJ (nz := 11) Try.func186 rfl rfl rfl (fun w0 R0 env0 => ?_)
  rw [ev_dial_within] at h
  refine TC.seq ?_
  refine TC.region ?_
  refine op0 (sp_box 1 rfl rfl rfl rfl rfl) rfl trivial rfl rfl ?_
  refine op0 (sp_box 2 rfl rfl rfl rfl rfl) rfl trivial rfl rfl ?_
  refine op0 (sp_assign rfl rfl) rfl trivial rfl rfl ?_
  refine TL.nil ?_
  refine TC.seq ?_
  refine TC.region ?_
  refine op0 (sp_move rfl rfl) rfl trivial rfl rfl ?_
  refine op0 (sp_makeFunc (fi := []) (ca := [.tmp 3, .tmp 4]) (fa := []) (cb := [.ptr 1 0, .ptr 2 0]) rfl rfl rfl) rfl trivial rfl rfl ?_
  obtain ⟨r4, h1, h⟩ := bind_inv h
  refine opN (need := [.ro 0 1 (List.map en_int l3), .blk 1 [.val (.int .i64 least1)] 3, .blk 2 [.val (.int .i64 most2)] 3]) [2, 1, 0] ⟨rfl, rfl, rfl, trivial⟩ (sp_call (avs := [.ref 0, .fn 273 [] [.ptr 1 0, .ptr 2 0]]) (need := [.ro 0 1 (List.map en_int l3), .blk 1 [.val (.int .i64 least1)] 3, .blk 2 [.val (.int .i64 most2)] 3]) (v := .val (.bool r4)) (news := []) rfl rfl rfl Try.call142 (FC.needJ (need := [.ro 0 1 (List.map en_int l3), .rob 1 [.val (.int .i64 least1)] 3, .rob 2 [.val (.int .i64 most2)] 3]) (need' := [.rob 1 [.val (.int .i64 least1)] 3, .rob 2 [.val (.int .i64 most2)] 3, .ro 0 1 (List.map en_int l3)]) [1, 2, 0] ⟨rfl, rfl, rfl, trivial⟩ (FC.fnArg (args := [.ref 0, .ref 3]) (needC := [.rob 1 [.val (.int .i64 least1)] 3, .rob 2 [.val (.int .i64 most2)] 3]) (need := [.ro 0 1 (List.map en_int l3)]) 1 (first := []) (caps := [.ptr 1 0, .ptr 2 0]) (FC.needJ (need := [.any 3 (D.fn Try.prog fe_funcint_bool fd_funcint_bool (fun a => ev_dial_within_1 n a least1 most2)), .ro 0 1 (List.map en_int l3)]) (need' := [.ro 0 1 (List.map en_int l3), .any 3 (D.fn Try.prog fe_funcint_bool fd_funcint_bool (fun a => ev_dial_within_1 n a least1 most2))]) [1, 0] ⟨rfl, rfl, trivial⟩ (atJ [(1, 3)] [] (fc_slices_ContainsFunc_Lint_int h1) rfl rfl)) rfl Try.call273 (fun a b hab => atJ [(0, 1), (1, 2)] [] (fc_dial_within_1 hab) rfl rfl) rfl (fun _ => rfl) (fun _ => rfl) rfl rfl rfl rfl rfl rfl rfl)) (.inr (fun x hx => nomatch hx))) rfl trivial rfl rfl ?_
  refine op0 (sp_not rfl rfl) rfl trivial rfl rfl ?_
  refine op0 (sp_assign rfl rfl) rfl trivial rfl rfl ?_
  refine TL.nil ?_
  cases h
  exact retJ [] (.tmp rfl .nil) rfl trivial rfl rfl
/- dial_isSpan -/
def ev_dial_isSpan (n : Nat) (s1 : Int) (s2 : Int) (least3 : Int) (most4 : Int) : Option Bool :=
  (ev_dial_within n least3 most4 ([s1, s2] : List Int)).bind fun r5 => cond r5 (some (decide (s1 ≤ s2))) (some false)
set_option maxRecDepth 100000 in
set_option maxHeartbeats 2000000 in
theorem fc_dial_isSpan {n : Nat} {s1 : Int} {s2 : Int} {least3 : Int} {most4 : Int} {r : Bool} (h : ev_dial_isSpan n s1 s2 least3 most4 = some r) : FC Try.prog 271 [.agg [.val (.int .i64 s1), .val (.int .i64 s2)], .val (.int .i64 least3), .val (.int .i64 most4)] [] (.val (.bool r)) [] := by
  refine introJ (nz := 22) Try.func271 rfl rfl rfl (fun w0 R0 env0 => ?_)
  rw [ev_dial_isSpan] at h
  refine TC.seq ?_
  refine TC.region ?_
  refine op0 (sp_box 0 rfl rfl rfl rfl rfl) rfl trivial rfl rfl ?_
  refine op0 (sp_assign rfl rfl) rfl trivial rfl rfl ?_
  refine TL.nil ?_
  refine TC.seq ?_
  refine TC.region ?_
  refine op0 (sp_move rfl rfl) rfl trivial rfl rfl ?_
  refine op0 (sp_move rfl rfl) rfl trivial rfl rfl ?_
  refine op1 0 rfl (sp_fieldAddrB rfl isBlk rfl ft34_0 vt3 (by decide)) rfl trivial rfl rfl ?_
  refine op1 0 rfl (sp_loadB rfl isBlk rfl vt3 rfl) rfl trivial rfl rfl ?_
  refine op1 0 rfl (sp_fieldAddrB rfl isBlk rfl ft34_1 vt3 (by decide)) rfl trivial rfl rfl ?_
  refine op1 0 rfl (sp_loadB rfl isBlk rfl vt3 rfl) rfl trivial rfl rfl ?_
  refine op0 (sp_buildSlice (qs := [.val (.int .i64 s1), .val (.int .i64 s2)]) (need := []) (els := List.map en_int ([s1, s2] : List Int)) 1 rfl sl50 (by decide) (by decide) rfl rfl rfl (.v (.v (.nil))) (map_len fun _ => rfl) rfl rfl rfl) rfl trivial rfl rfl ?_
  obtain ⟨r5, h1, h⟩ := bind_inv h
  refine op1 0 rfl (sp_call (avs := [.val (.int .i64 least3), .val (.int .i64 most4), .ref 1]) (need := [.row 1 3 1 (List.map en_int ([s1, s2] : List Int))]) (v := .val (.bool r5)) (news := []) rfl rfl rfl Try.call186 (atJ [(0, 1)] [] (fc_dial_within h1) rfl rfl) (.inr (fun x hx => nomatch hx))) rfl trivial rfl rfl ?_
  refine op0 (sp_move rfl rfl) rfl trivial rfl rfl ?_
  rcases cond_cases h with ⟨h2, h⟩ | ⟨h2, h⟩
  · refine (boolLit 15 rfl h2).2 ?_
    refine op1 1 rfl (sp_fieldAddrB rfl isBlk rfl ft34_0 vt3 (by decide)) rfl ⟨_, rfl, rfl⟩ rfl rfl ?_
    refine op1 1 rfl (sp_loadB rfl isBlk rfl vt3 rfl) rfl ⟨_, rfl, rfl⟩ rfl rfl ?_
    refine op1 1 rfl (sp_fieldAddrB rfl isBlk rfl ft34_1 vt3 (by decide)) rfl ⟨_, rfl, rfl⟩ rfl rfl ?_
    refine op1 1 rfl (sp_loadB rfl isBlk rfl vt3 rfl) rfl ⟨_, rfl, rfl⟩ rfl rfl ?_
    refine op0 (sp_leq rfl rfl rfl) rfl ⟨_, rfl, rfl⟩ rfl rfl ?_
    refine op0 (sp_pickT rfl rfl rfl) rfl trivial rfl rfl ?_
    refine op0 (sp_assign rfl rfl) rfl trivial rfl rfl ?_
    refine TL.nil ?_
    cases h
    exact retJ [] (.tmp rfl .nil) rfl trivial rfl rfl
  · refine (boolLit 15 rfl h2).2 ?_
    refine opSkip rfl ⟨_, rfl, .inl rfl⟩ rfl ?_
    refine opSkip rfl ⟨_, rfl, .inl rfl⟩ rfl ?_
    refine opSkip rfl ⟨_, rfl, .inl rfl⟩ rfl ?_
    refine opSkip rfl ⟨_, rfl, .inl rfl⟩ rfl ?_
    refine opSkip rfl ⟨_, rfl, .inl rfl⟩ rfl ?_
    refine op0 (sp_pickF rfl rfl rfl) rfl trivial rfl rfl ?_
    refine op0 (sp_assign rfl rfl) rfl trivial rfl rfl ?_
    refine TL.nil ?_
    cases h
    exact retJ [] (.tmp rfl .nil) rfl trivial rfl rfl
/- dial_isLink -/
def ev_dial_isLink (n : Nat) (l1 : Int) (l2 : Int) (l3 : Int) : Option Bool :=
  (ev_dial_within n 0 1000 ([l1] : List Int)).bind fun r4 => cond r4 ((ev_dial_within n 1 200 ([l2, l3] : List Int)).bind fun r5 => some r5) (some false)
set_option maxRecDepth 100000 in
set_option maxHeartbeats 2000000 in
theorem fc_dial_isLink {n : Nat} {l1 : Int} {l2 : Int} {l3 : Int} {r : Bool} (h : ev_dial_isLink n l1 l2 l3 = some r) : FC Try.prog 327 [.agg [.val (.int .i64 l1), .val (.int .i64 l2), .val (.int .i64 l3)]] [] (.val (.bool r)) [] := by
  refine introJ (nz := 17) Try.func327 rfl rfl rfl (fun w0 R0 env0 => ?_)
  rw [ev_dial_isLink] at h
  refine TC.seq ?_
  refine TC.region ?_
  refine op0 (sp_box 0 rfl rfl rfl rfl rfl) rfl trivial rfl rfl ?_
  refine op0 (sp_assign rfl rfl) rfl trivial rfl rfl ?_
  refine TL.nil ?_
  refine TC.seq ?_
  refine TC.region ?_
  refine op1 0 rfl (sp_fieldAddrB rfl isBlk rfl ft104_0 vt3 (by decide)) rfl trivial rfl rfl ?_
  refine op1 0 rfl (sp_loadB rfl isBlk rfl vt3 rfl) rfl trivial rfl rfl ?_
  refine op0 (sp_buildSlice (qs := [.val (.int .i64 l1)]) (need := []) (els := List.map en_int ([l1] : List Int)) 1 rfl sl50 (by decide) (by decide) rfl rfl rfl (.v (.nil)) (map_len fun _ => rfl) rfl rfl rfl) rfl trivial rfl rfl ?_
  obtain ⟨r4, h1, h⟩ := bind_inv h
  refine op1 0 rfl (sp_call (avs := [.val (.int .i64 0), .val (.int .i64 1000), .ref 1]) (need := [.row 1 3 1 (List.map en_int ([l1] : List Int))]) (v := .val (.bool r4)) (news := []) rfl rfl rfl Try.call186 (atJ [(0, 1)] [] (fc_dial_within h1) rfl rfl) (.inr (fun x hx => nomatch hx))) rfl trivial rfl rfl ?_
  refine op0 (sp_move rfl rfl) rfl trivial rfl rfl ?_
  rcases cond_cases h with ⟨h2, h⟩ | ⟨h2, h⟩
  · refine (boolLit 7 rfl h2).2 ?_
    refine op1 1 rfl (sp_fieldAddrB rfl isBlk rfl ft104_1 vt26 (by decide)) rfl ⟨_, rfl, rfl⟩ rfl rfl ?_
    refine op1 1 rfl (sp_fieldAddrB rfl isBlk rfl ft26_0 vt3 (by decide)) rfl ⟨_, rfl, rfl⟩ rfl rfl ?_
    refine op1 1 rfl (sp_loadB rfl isBlk rfl vt3 rfl) rfl ⟨_, rfl, rfl⟩ rfl rfl ?_
    refine op1 1 rfl (sp_fieldAddrB rfl isBlk rfl ft104_1 vt26 (by decide)) rfl ⟨_, rfl, rfl⟩ rfl rfl ?_
    refine op1 1 rfl (sp_fieldAddrB rfl isBlk rfl ft26_1 vt3 (by decide)) rfl ⟨_, rfl, rfl⟩ rfl rfl ?_
    refine op1 1 rfl (sp_loadB rfl isBlk rfl vt3 rfl) rfl ⟨_, rfl, rfl⟩ rfl rfl ?_
    refine op0 (sp_buildSlice (qs := [.val (.int .i64 l2), .val (.int .i64 l3)]) (need := []) (els := List.map en_int ([l2, l3] : List Int)) 2 rfl sl50 (by decide) (by decide) rfl rfl rfl (.v (.v (.nil))) (map_len fun _ => rfl) rfl rfl rfl) rfl ⟨_, rfl, rfl⟩ rfl rfl ?_
    obtain ⟨r5, h3, h⟩ := bind_inv h
    refine op1 0 rfl (sp_call (avs := [.val (.int .i64 1), .val (.int .i64 200), .ref 2]) (need := [.row 2 3 1 (List.map en_int ([l2, l3] : List Int))]) (v := .val (.bool r5)) (news := []) rfl rfl rfl Try.call186 (atJ [(0, 2)] [] (fc_dial_within h3) rfl rfl) (.inr (fun x hx => nomatch hx))) rfl ⟨_, rfl, rfl⟩ rfl rfl ?_
    refine op0 (sp_pickT rfl rfl rfl) rfl trivial rfl rfl ?_
    refine op0 (sp_assign rfl rfl) rfl trivial rfl rfl ?_
    refine TL.nil ?_
    cases h
    exact retJ [] (.tmp rfl .nil) rfl trivial rfl rfl
  · refine (boolLit 7 rfl h2).2 ?_
    refine opSkip rfl ⟨_, rfl, .inl rfl⟩ rfl ?_
    refine opSkip rfl ⟨_, rfl, .inl rfl⟩ rfl ?_
    refine opSkip rfl ⟨_, rfl, .inl rfl⟩ rfl ?_
    refine opSkip rfl ⟨_, rfl, .inl rfl⟩ rfl ?_
    refine opSkip rfl ⟨_, rfl, .inl rfl⟩ rfl ?_
    refine opSkip rfl ⟨_, rfl, .inl rfl⟩ rfl ?_
    refine opSkip rfl ⟨_, rfl, .inl rfl⟩ rfl ?_
    refine opSkip rfl ⟨_, rfl, .inl rfl⟩ rfl ?_
    refine op0 (sp_pickF rfl rfl rfl) rfl trivial rfl rfl ?_
    refine op0 (sp_assign rfl rfl) rfl trivial rfl rfl ?_
    refine TL.nil ?_
    cases h
    exact retJ [] (.tmp rfl .nil) rfl trivial rfl rfl
/- dial_gcd -/
def ev_dial_gcd_l0 (n : Nat) : Nat → Int → Int → Option Int
  | 0, _, _ => none
  | m + 1, i3, i4 => cond (decide ((0 : Int) < i4)) (chk (i4 != 0) <| ev_dial_gcd_l0 n m i4 (Int.tmod i3 i4)) (some i3)
set_option maxRecDepth 100000 in
set_option maxHeartbeats 2000000 in
theorem ok_dial_gcd_l0 {n : Nat} {w0 : World} {R0 : Nat → Prop} {env0 : Env} {r : Int} : ∀ (m : Nat) (i3 : Int) (i4 : Int), ev_dial_gcd_l0 n m i3 i4 = some r → TC Try.prog ⟨w0, fun _ => False, R0⟩ 12 (bodyPost Try.prog Try.f328 (Post ⟨w0, fun _ => False, R0⟩ env0 (.val (.int .i64 r)) [])) [.code (sub (bodyOf Try.f328) [1, 0, 0, 0, 0, 0]), .code (sub (bodyOf Try.f328) [1, 0, 0, 0, 0, 1]), .code (sub (bodyOf Try.f328) [1, 0, 0, 0, 1]), .inLoop (sub (bodyOf Try.f328) [1, 0, 0, 0]), .inBlock 0, .code (sub (bodyOf Try.f328) [1, 1])] ([(0, .val (.int .i64 i3)), (1, .val (.int .i64 i4))]) ([]) := by
  intro m
  induction m with
  | zero => intro i3 i4 h; exact none_no h
  | succ m ih =>
    intro i3 i4 h
    rw [ev_dial_gcd_l0] at h
    refine TC.region ?_
    refine op0 (sp_move rfl rfl) rfl trivial rfl rfl ?_
    refine op0 (sp_gtr rfl rfl rfl) rfl trivial rfl rfl ?_
    refine TL.nil ?_
    refine TC.cond (b := (decide ((0 : Int) < i4))) rfl (fun h1 => ?_) (fun h1 => ?_)
    · have h := cond_t h h1
      refine TC.skip ?_
      refine TC.block ?_
      obtain ⟨h2, h⟩ := chk_inv h
      refine drawJ 5 [⟨.val (.int .i64 i4), [], [], []⟩, ⟨.val (.int .i64 i3), [], [], []⟩, ⟨.val (.int .i64 i4), [], [], []⟩, ⟨.val (.int .i64 (Int.tmod i3 i4)), [], [], []⟩, ⟨.val (.int .i64 i4), [], [], []⟩] rfl ?_ rfl ?_ rfl ?_ ?_
      · kernel_rfl
      · kernel_rfl
      · exact DAll.op' (sp_move rfl rfl) trivial rfl (From.ok (ps := []) trivial) (DAll.op' (sp_move rfl rfl) trivial rfl (From.ok (ps := []) trivial) (DAll.op' (sp_move rfl rfl) trivial rfl (From.ok (ps := []) trivial) (DAll.op' (sp_rem rfl rfl rfl h2) trivial rfl (From.ok (ps := []) trivial) (DAll.op' (sp_assign rfl rfl) trivial rfl (From.ok (ps := []) trivial) (.nil)))))
      refine op0 (sp_assign rfl rfl) rfl trivial rfl rfl ?_
      refine TL.nil ?_
      refine TC.inBlock ?_
      refine TC.inLoop ?_
      refine TC.seq ?_
      refine TC.seq ?_
      refine subJ [] (ih _ _ h) ?_ ?_ ?_
      · exact ⟨rfl, rfl, trivial⟩
      · exact trivial
      · rfl
    · have h := cond_f h h1
      refine TC.exit rfl ?_
      refine TC.seq ?_
      refine TC.region ?_
      refine op0 (sp_move rfl rfl) rfl trivial rfl rfl ?_
      refine op0 (sp_assign rfl rfl) rfl trivial rfl rfl ?_
      refine TL.nil ?_
      cases h
      exact retJ [] (.tmp rfl .nil) rfl trivial rfl rfl
def ev_dial_gcd (n : Nat) (a1 : Int) (b2 : Int) : Option Int :=
  ev_dial_gcd_l0 n n a1 b2
set_option maxRecDepth 100000 in
set_option maxHeartbeats 2000000 in
theorem fc_dial_gcd {n : Nat} {a1 : Int} {b2 : Int} {r : Int} (h : ev_dial_gcd n a1 b2 = some r) : FC Try.prog 328 [.val (.int .i64 a1), .val (.int .i64 b2)] [] (.val (.int .i64 r)) [] := by
  refine introJ (nz := 12) Try.func328 rfl rfl rfl (fun w0 R0 env0 => ?_)
  rw [ev_dial_gcd] at h
  refine TC.seq ?_
  refine TC.region ?_
  refine op0 (sp_assign rfl rfl) rfl trivial rfl rfl ?_
  refine TL.nil ?_
  refine TC.seq ?_
  refine TC.block ?_
  refine TC.loop ?_
  refine TC.seq ?_
  refine TC.seq ?_
  refine subJ [] (ok_dial_gcd_l0 _ _ _ h) ?_ ?_ ?_
  · exact ⟨rfl, rfl, trivial⟩
  · exact trivial
  · rfl
/- dial_over -/
def ev_dial_over (n : Nat) (nn1 : Int) (by_2 : Int) : Option Int :=
  chk (in64 (nn1 + by_2)) <| chk (in64 ((nn1 + by_2) - 1)) <| chk (by_2 != 0) <| chk (in64 (Int.tdiv ((nn1 + by_2) - 1) by_2)) <| some (Int.tdiv ((nn1 + by_2) - 1) by_2)
set_option maxRecDepth 100000 in
set_option maxHeartbeats 2000000 in
theorem fc_dial_over {n : Nat} {nn1 : Int} {by_2 : Int} {r : Int} (h : ev_dial_over n nn1 by_2 = some r) : FC Try.prog 329 [.val (.int .i64 nn1), .val (.int .i64 by_2)] [] (.val (.int .i64 r)) [] := by
  refine introJ (nz := 11) Try.func329 rfl rfl rfl (fun w0 R0 env0 => ?_)
  rw [ev_dial_over] at h
  refine TC.seq ?_
  refine TC.region ?_
  refine op0 (sp_assign rfl rfl) rfl trivial rfl rfl ?_
  refine TL.nil ?_
  refine TC.seq ?_
  refine TC.region ?_
  refine op0 (sp_move rfl rfl) rfl trivial rfl rfl ?_
  refine op0 (sp_move rfl rfl) rfl trivial rfl rfl ?_
  obtain ⟨h1, h⟩ := chk_inv h
  refine op0 (sp_add rfl rfl rfl h1) rfl trivial rfl rfl ?_
  obtain ⟨h2, h⟩ := chk_inv h
  refine op0 (sp_sub rfl rfl rfl h2) rfl trivial rfl rfl ?_
  refine op0 (sp_move rfl rfl) rfl trivial rfl rfl ?_
  obtain ⟨h3, h⟩ := chk_inv h
  obtain ⟨h4, h⟩ := chk_inv h
  refine op0 (sp_quo rfl rfl rfl h3 h4) rfl trivial rfl rfl ?_
  refine op0 (sp_assign rfl rfl) rfl trivial rfl rfl ?_
  refine TL.nil ?_
  cases h
  exact retJ [] (.tmp rfl .nil) rfl trivial rfl rfl
/- dial_newFace -/
def ev_dial_newFace_l2 (n : Nat) (l21 : List (Int × Int × Int)) (i9 : Int) : Nat → Int → Int → Int → Int → Int → Int → Int → Int → Int → Int → Int → (List (Int × Int × Int)) → (List (Int × Int × Int)) → Option (Int × Int × (List (Int × Int × Int)) × Int × Int × Int × Bool)
  | 0, _, _, _, _, _, _, _, _, _, _, _, _, _ => none
  | m + 1, i25, i26, i27, i28, i29, i30, i31, i32, i33, i34, i35, l36, l37 => cond (decide (i26 < (l21.length : Int))) (idx l36 i26 fun x38 => chk (in64 (x38.1 * 3600)) <| chk (in64 ((x38.1 * 3600) * x38.2.2)) <| chk (x38.2.1 != 0) <| chk (in64 (Int.tdiv i9 x38.2.1)) <| chk (in64 (((x38.1 * 3600) * x38.2.2) * (Int.tdiv i9 x38.2.1))) <| chk (in64 (i25 + (((x38.1 * 3600) * x38.2.2) * (Int.tdiv i9 x38.2.1)))) <| chk (in64 (i26 + 1)) <| ev_dial_newFace_l2 n l21 i9 m (i25 + (((x38.1 * 3600) * x38.2.2) * (Int.tdiv i9 x38.2.1))) (i26 + 1) i27 i28 i29 i30 i31 i32 i33 i34 i35 l36 l37) (chk (in64 ((1000 : Int) * i9)) <| (ev_dial_over n i25 ((1000 : Int) * i9)).bind fun r39 => some (i27, i28, l36, i29, i30, r39, (decide (r39 ≤ 3600))))
set_option maxRecDepth 100000 in
set_option maxHeartbeats 2000000 in
theorem ok_dial_newFace_l2 {n : Nat} {w0 : World} {R0 : Nat → Prop} {env0 : Env} {r : Int × Int × (List (Int × Int × Int)) × Int × Int × Int × Bool} {i9 : Int} {l21 : List (Int × Int × Int)} : ∀ (m : Nat) (i25 : Int) (i26 : Int) (i27 : Int) (i28 : Int) (i29 : Int) (i30 : Int) (i31 : Int) (i32 : Int) (i33 : Int) (i34 : Int) (i35 : Int) (l36 : List (Int × Int × Int)) (l37 : List (Int × Int × Int)), ev_dial_newFace_l2 n l21 i9 m i25 i26 i27 i28 i29 i30 i31 i32 i33 i34 i35 l36 l37 = some r → TC Try.prog ⟨w0, fun _ => False, R0⟩ 91 (bodyPost Try.prog Try.f272 (Post ⟨w0, fun _ => False, R0⟩ env0 (.tup [.agg [.val (.int .i64 r.1), .val (.int .i64 r.2.1), .ref 0, .val (.int .i64 r.2.2.2.1), .val (.int .i64 r.2.2.2.2.1), .val (.int .i64 r.2.2.2.2.2.1)], .val (.bool r.2.2.2.2.2.2)]) [.ro 0 3 (List.map en_api_DialLink r.2.2.1)])) [.code (sub (bodyOf Try.f272) [1, 1, 1, 1, 1, 0, 1, 0, 0, 0]), .code (sub (bodyOf Try.f272) [1, 1, 1, 1, 1, 0, 1, 0, 0, 1]), .inLoop (sub (bodyOf Try.f272) [1, 1, 1, 1, 1, 0, 1, 0, 0]), .inBlock 2, .code (sub (bodyOf Try.f272) [1, 1, 1, 1, 1, 1])] ([(1, .ptr 1 0), (2, .ptr 2 0), (4, .val (.int .i64 i9)), (7, .val (.int .i64 i25)), (59, .ref 0), (60, .val (.int .i64 (l21.length : Int))), (61, .val (.int .i64 i26))]) ([.blk 1 [.val (.int .i64 i27), .val (.int .i64 i28), .ref 0, .val (.int .i64 i29), .val (.int .i64 i30)] 107, .blk 2 [.val (.int .i64 i31), .val (.int .i64 i32), .ref 9, .val (.int .i64 i33), .val (.int .i64 i34), .val (.int .i64 i35)] 238, .ro 0 3 (List.map en_api_DialLink l36), .row 9 104 3 (List.map en_api_DialLink l37)]) := by
  intro m
  induction m with
  | zero => intro i25 i26 i27 i28 i29 i30 i31 i32 i33 i34 i35 l36 l37 h; exact none_no h
  | succ m ih =>
    intro i25 i26 i27 i28 i29 i30 i31 i32 i33 i34 i35 l36 l37 h
    rw [ev_dial_newFace_l2] at h
    refine TC.region ?_
    refine op0 (sp_lss rfl rfl rfl) rfl trivial rfl rfl ?_
    refine TL.nil ?_
    refine TC.seq ?_
    refine TC.cond (b := (decide (i26 < (l21.length : Int)))) rfl (fun h18 => ?_) (fun h18 => ?_)
    · have h := cond_t h h18
      refine TC.skip ?_
      refine TC.seq ?_
      refine TC.block ?_
      refine TC.seq ?_
      refine TC.region ?_
      obtain ⟨x38, h19, h20, h⟩ := idx_inv h
      refine op1 2 rfl (sp_indexS rfl rfl rfl isRo sl105 h19 (map_get _ h20)) rfl trivial rfl rfl ?_
      refine op1 2 rfl (sp_loadRA (i := (i26 : Int).toNat) (j := 0) (as_ := [.val (.int .i64 x38.1), .val (.int .i64 x38.2.1), .val (.int .i64 x38.2.2)]) (ns := []) rfl rfl isRo vt104 rfl (map_get _ h20) rfl rfl (by decide) (.v (.v (.v (.nil)))) (nodup_of_B rfl)) rfl trivial rfl rfl ?_
      refine op0 (sp_alloc 11 rfl Try.zeroValue104 rfl) rfl trivial rfl rfl ?_
      refine stoB 0 (cells' := [.val (.int .i64 x38.1), .val (.int .i64 x38.2.1), .val (.int .i64 x38.2.2)]) rfl rfl trivial rfl rfl rfl rfl vt104 rfl rfl rfl ?_
      refine TL.nil ?_
      obtain ⟨h21, h⟩ := chk_inv h
      obtain ⟨h22, h⟩ := chk_inv h
      obtain ⟨h23, h⟩ := chk_inv h
      obtain ⟨h24, h⟩ := chk_inv h
      obtain ⟨h25, h⟩ := chk_inv h
      refine drawJ 14 [⟨.val (.int .i64 i25), [], [], []⟩, ⟨.ptr 11 0, [], [.blk 11 [.val (.int .i64 x38.1), .val (.int .i64 x38.2.1), .val (.int .i64 x38.2.2)] 104], []⟩, ⟨.val (.int .i64 x38.1), [], [.blk 11 [.val (.int .i64 x38.1), .val (.int .i64 x38.2.1), .val (.int .i64 x38.2.2)] 104], []⟩, ⟨.val (.int .i64 (x38.1 * 3600)), [], [], []⟩, ⟨.ptr 11 1, [], [.blk 11 [.val (.int .i64 x38.1), .val (.int .i64 x38.2.1), .val (.int .i64 x38.2.2)] 104], []⟩, ⟨.ptr 11 2, [], [.blk 11 [.val (.int .i64 x38.1), .val (.int .i64 x38.2.1), .val (.int .i64 x38.2.2)] 104], []⟩, ⟨.val (.int .i64 x38.2.2), [], [.blk 11 [.val (.int .i64 x38.1), .val (.int .i64 x38.2.1), .val (.int .i64 x38.2.2)] 104], []⟩, ⟨.val (.int .i64 ((x38.1 * 3600) * x38.2.2)), [], [], []⟩, ⟨.val (.int .i64 i9), [], [], []⟩, ⟨.ptr 11 1, [], [.blk 11 [.val (.int .i64 x38.1), .val (.int .i64 x38.2.1), .val (.int .i64 x38.2.2)] 104], []⟩, ⟨.ptr 11 1, [], [.blk 11 [.val (.int .i64 x38.1), .val (.int .i64 x38.2.1), .val (.int .i64 x38.2.2)] 104], []⟩, ⟨.val (.int .i64 x38.2.1), [], [.blk 11 [.val (.int .i64 x38.1), .val (.int .i64 x38.2.1), .val (.int .i64 x38.2.2)] 104], []⟩, ⟨.val (.int .i64 (Int.tdiv i9 x38.2.1)), [], [], []⟩, ⟨.val (.int .i64 (((x38.1 * 3600) * x38.2.2) * (Int.tdiv i9 x38.2.1))), [], [], []⟩] rfl ?_ rfl ?_ rfl ?_ ?_
      · kernel_rfl
      · kernel_rfl
      · exact DAll.op' (sp_move rfl rfl) trivial rfl (From.ok (ps := []) trivial) (DAll.op' (sp_fieldAddrB rfl isBlk rfl ft104_0 vt3 (by decide)) trivial rfl (From.ok (ps := [(none, 0)]) ⟨⟨rfl, rfl⟩, trivial⟩) (DAll.op' (sp_loadB rfl isBlk rfl vt3 rfl) trivial rfl (From.ok (ps := [(none, 0)]) ⟨⟨rfl, rfl⟩, trivial⟩) (DAll.op' (sp_mul rfl rfl rfl h21) trivial rfl (From.ok (ps := []) trivial) (DAll.op' (sp_fieldAddrB rfl isBlk rfl ft104_1 vt26 (by decide)) trivial rfl (From.ok (ps := [(none, 0)]) ⟨⟨rfl, rfl⟩, trivial⟩) (DAll.op' (sp_fieldAddrB rfl isBlk rfl ft26_1 vt3 (by decide)) trivial rfl (From.ok (ps := [(none, 0)]) ⟨⟨rfl, rfl⟩, trivial⟩) (DAll.op' (sp_loadB rfl isBlk rfl vt3 rfl) trivial rfl (From.ok (ps := [(none, 0)]) ⟨⟨rfl, rfl⟩, trivial⟩) (DAll.op' (sp_mul rfl rfl rfl h22) trivial rfl (From.ok (ps := []) trivial) (DAll.op' (sp_move rfl rfl) trivial rfl (From.ok (ps := []) trivial) (DAll.op' (sp_fieldAddrB rfl isBlk rfl ft104_1 vt26 (by decide)) trivial rfl (From.ok (ps := [(none, 0)]) ⟨⟨rfl, rfl⟩, trivial⟩) (DAll.op' (sp_fieldAddrB rfl isBlk rfl ft26_0 vt3 (by decide)) trivial rfl (From.ok (ps := [(none, 0)]) ⟨⟨rfl, rfl⟩, trivial⟩) (DAll.op' (sp_loadB rfl isBlk rfl vt3 rfl) trivial rfl (From.ok (ps := [(none, 0)]) ⟨⟨rfl, rfl⟩, trivial⟩) (DAll.op' (sp_quo rfl rfl rfl h23 h24) trivial rfl (From.ok (ps := []) trivial) (DAll.op' (sp_mul rfl rfl rfl h25) trivial rfl (From.ok (ps := []) trivial) (.nil))))))))))))))
      obtain ⟨h26, h⟩ := chk_inv h
      refine op0 (sp_add rfl rfl rfl h26) rfl trivial rfl rfl ?_
      refine op0 (sp_assign rfl rfl) rfl trivial rfl rfl ?_
      refine TL.nil ?_
      refine TC.inBlock ?_
      refine TC.region ?_
      obtain ⟨h27, h⟩ := chk_inv h
      refine op0 (sp_add rfl rfl rfl h27) rfl trivial rfl rfl ?_
      refine op0 (sp_move rfl rfl) rfl trivial rfl rfl ?_
      refine TL.nil ?_
      refine TC.inLoop ?_
      refine TC.seq ?_
      refine subJ [] (ih _ _ _ _ _ _ _ _ _ _ _ _ _ h) ?_ ?_ ?_
      · exact ⟨rfl, rfl, rfl, rfl, rfl, rfl, rfl, trivial⟩
      · exact ⟨mem_at 1 rfl, mem_at 2 rfl, mem_at 3 rfl, mem_at 4 rfl, trivial⟩
      · rfl
    · have h := cond_f h h18
      refine TC.exit rfl ?_
      refine TC.seq ?_
      obtain ⟨h28, h⟩ := chk_inv h
      obtain ⟨r39, h29, h⟩ := bind_inv h
      refine drawJ 5 [⟨.agg [.val (.int .i64 i27), .val (.int .i64 i28), .ref 0, .val (.int .i64 i29), .val (.int .i64 i30)], [], [.blk 1 [.val (.int .i64 i27), .val (.int .i64 i28), .ref 0, .val (.int .i64 i29), .val (.int .i64 i30)] 107], []⟩, ⟨.val (.int .i64 i25), [], [], []⟩, ⟨.val (.int .i64 i9), [], [], []⟩, ⟨.val (.int .i64 ((1000 : Int) * i9)), [], [], []⟩, ⟨.val (.int .i64 r39), [], [], []⟩] rfl ?_ rfl ?_ rfl ?_ ?_
      · kernel_rfl
      · kernel_rfl
      · exact DAll.op' (sp_loadBA rfl isBlk rfl vt107 rfl rfl) trivial rfl (From.ok (ps := [(none, 0)]) ⟨⟨rfl, rfl⟩, trivial⟩) (DAll.op' (sp_move rfl rfl) trivial rfl (From.ok (ps := []) trivial) (DAll.op' (sp_move rfl rfl) trivial rfl (From.ok (ps := []) trivial) (DAll.op' (sp_mul rfl rfl rfl h28) trivial rfl (From.ok (ps := []) trivial) (DAll.op' (sp_call (avs := [.val (.int .i64 i25), .val (.int .i64 ((1000 : Int) * i9))]) (need := []) (v := .val (.int .i64 r39)) (news := []) rfl rfl rfl Try.call329 (atJ [] [] (fc_dial_over h29) rfl rfl) (.inl (roAll rfl))) trivial rfl (From.ok (ps := []) trivial) (.nil)))))
      refine op0 (sp_build (qs := [(0, .agg [.val (.int .i64 i27), .val (.int .i64 i28), .ref 0, .val (.int .i64 i29), .val (.int .i64 i30)]), (1, .val (.int .i64 r39))]) rfl bt238 rfl rfl rfl rfl) rfl trivial rfl rfl ?_
      refine stoB 1 (cells' := [.val (.int .i64 i27), .val (.int .i64 i28), .ref 0, .val (.int .i64 i29), .val (.int .i64 i30), .val (.int .i64 r39)]) rfl rfl trivial rfl rfl rfl rfl vt238 rfl rfl rfl ?_
      refine TL.nil ?_
      refine TC.seq ?_
      refine TC.region ?_
      refine op1 1 rfl (sp_loadBA rfl isBlk rfl vt238 rfl rfl) rfl trivial rfl rfl ?_
      refine op1 1 rfl (sp_fieldAddrB rfl isBlk rfl ft238_1 vt3 (by decide)) rfl trivial rfl rfl ?_
      refine op1 1 rfl (sp_loadB rfl isBlk rfl vt3 rfl) rfl trivial rfl rfl ?_
      refine op0 (sp_leq rfl rfl rfl) rfl trivial rfl rfl ?_
      refine stoB 1 (cells' := [.val (.int .i64 i27), .val (.int .i64 i28), .ref 0, .val (.int .i64 i29), .val (.int .i64 i30), .val (.int .i64 r39)]) rfl rfl trivial rfl rfl rfl rfl vt238 rfl rfl rfl ?_
      refine op0 (sp_assign rfl rfl) rfl trivial rfl rfl ?_
      refine TL.nil ?_
      cases h
      exact retJ [] (.cells rfl (mem_at 1 rfl) isBlk vt238 rfl rfl (.tmp rfl .nil)) rfl ⟨mem_at 2 rfl, trivial⟩ rfl rfl
def ev_dial_newFace_l1 (n : Nat) (f3 : List (Int × Int × Int)) : Nat → Int → Int → Int → Int → Int → Int → Int → Int → (List (Int × Int × Int)) → Int → Int → Int → (List (Int × Int × Int)) → Option (Int × Int × (List (Int × Int × Int)) × Int × Int × Int × Bool)
  | 0, _, _, _, _, _, _, _, _, _, _, _, _, _ => none
  | m + 1, i9, i10, i11, i12, i13, i14, i15, i16, l17, i18, i19, i20, l21 => cond (decide (i10 < (f3.length : Int))) (idx l21 i10 fun x22 => (ev_dial_isLink n x22.1 x22.2.1 x22.2.2).bind fun r23 => cond (!r23) (some (i15, i16, l17, i18, i19, i20, false)) ((ev_dial_gcd n i9 x22.2.1).bind fun r24 => chk (r24 != 0) <| chk (in64 (Int.tdiv i9 r24)) <| chk (in64 ((Int.tdiv i9 r24) * x22.2.1)) <| chk (in64 (i10 + 1)) <| ev_dial_newFace_l1 n f3 m ((Int.tdiv i9 r24) * x22.2.1) (i10 + 1) i11 i12 i13 i14 i15 i16 l17 i18 i19 i20 l21)) (ev_dial_newFace_l2 n l21 i9 n 0 0 i11 i12 i13 i14 i15 i16 i18 i19 i20 l21 l17)
set_option maxRecDepth 100000 in
set_option maxHeartbeats 2000000 in
theorem ok_dial_newFace_l1 {n : Nat} {w0 : World} {R0 : Nat → Prop} {env0 : Env} {r : Int × Int × (List (Int × Int × Int)) × Int × Int × Int × Bool} {f3 : List (Int × Int × Int)} : ∀ (m : Nat) (i9 : Int) (i10 : Int) (i11 : Int) (i12 : Int) (i13 : Int) (i14 : Int) (i15 : Int) (i16 : Int) (l17 : List (Int × Int × Int)) (i18 : Int) (i19 : Int) (i20 : Int) (l21 : List (Int × Int × Int)), ev_dial_newFace_l1 n f3 m i9 i10 i11 i12 i13 i14 i15 i16 l17 i18 i19 i20 l21 = some r → TC Try.prog ⟨w0, fun _ => False, R0⟩ 91 (bodyPost Try.prog Try.f272 (Post ⟨w0, fun _ => False, R0⟩ env0 (.tup [.agg [.val (.int .i64 r.1), .val (.int .i64 r.2.1), .ref 0, .val (.int .i64 r.2.2.2.1), .val (.int .i64 r.2.2.2.2.1), .val (.int .i64 r.2.2.2.2.2.1)], .val (.bool r.2.2.2.2.2.2)]) [.ro 0 3 (List.map en_api_DialLink r.2.2.1)])) [.code (sub (bodyOf Try.f272) [1, 1, 1, 0, 1, 0, 0, 0]), .code (sub (bodyOf Try.f272) [1, 1, 1, 0, 1, 0, 0, 1]), .inLoop (sub (bodyOf Try.f272) [1, 1, 1, 0, 1, 0, 0]), .inBlock 0, .code (sub (bodyOf Try.f272) [1, 1, 1, 1])] ([(1, .ptr 1 0), (2, .ptr 2 0), (4, .val (.int .i64 i9)), (36, .ref 0), (37, .val (.int .i64 (f3.length : Int))), (38, .val (.int .i64 i10))]) ([.blk 1 [.val (.int .i64 i11), .val (.int .i64 i12), .ref 0, .val (.int .i64 i13), .val (.int .i64 i14)] 107, .row 9 104 3 (List.map en_api_DialLink l17), .blk 2 [.val (.int .i64 i15), .val (.int .i64 i16), .ref 9, .val (.int .i64 i18), .val (.int .i64 i19), .val (.int .i64 i20)] 238, .ro 0 3 (List.map en_api_DialLink l21)]) := by
  intro m
  induction m with
  | zero => intro i9 i10 i11 i12 i13 i14 i15 i16 l17 i18 i19 i20 l21 h; exact none_no h
  | succ m ih =>
    intro i9 i10 i11 i12 i13 i14 i15 i16 l17 i18 i19 i20 l21 h
    rw [ev_dial_newFace_l1] at h
    refine TC.region ?_
    refine op0 (sp_lss rfl rfl rfl) rfl trivial rfl rfl ?_
    refine TL.nil ?_
    refine TC.seq ?_
    refine TC.cond (b := (decide (i10 < (f3.length : Int)))) rfl (fun h8 => ?_) (fun h8 => ?_)
    · have h := cond_t h h8
      refine TC.skip ?_
      refine TC.seq ?_
      refine TC.block ?_
      refine TC.seq ?_
      refine TC.region ?_
      obtain ⟨x22, h9, h10, h⟩ := idx_inv h
      refine op1 3 rfl (sp_indexS rfl rfl rfl isRo sl105 h9 (map_get _ h10)) rfl trivial rfl rfl ?_
      refine op1 3 rfl (sp_loadRA (i := (i10 : Int).toNat) (j := 0) (as_ := [.val (.int .i64 x22.1), .val (.int .i64 x22.2.1), .val (.int .i64 x22.2.2)]) (ns := []) rfl rfl isRo vt104 rfl (map_get _ h10) rfl rfl (by decide) (.v (.v (.v (.nil)))) (nodup_of_B rfl)) rfl trivial rfl rfl ?_
      refine op0 (sp_alloc 10 rfl Try.zeroValue104 rfl) rfl trivial rfl rfl ?_
      refine stoB 0 (cells' := [.val (.int .i64 x22.1), .val (.int .i64 x22.2.1), .val (.int .i64 x22.2.2)]) rfl rfl trivial rfl rfl rfl rfl vt104 rfl rfl rfl ?_
      refine TL.nil ?_
      refine TC.seq ?_
      refine TC.seq ?_
      refine TC.region ?_
      refine op1 0 rfl (sp_loadBA rfl isBlk rfl vt104 rfl rfl) rfl trivial rfl rfl ?_
      obtain ⟨r23, h11, h⟩ := bind_inv h
      refine op0 (sp_call (avs := [.agg [.val (.int .i64 x22.1), .val (.int .i64 x22.2.1), .val (.int .i64 x22.2.2)]]) (need := []) (v := .val (.bool r23)) (news := []) rfl rfl rfl Try.call327 (atJ [] [] (fc_dial_isLink h11) rfl rfl) (.inl (roAll rfl))) rfl trivial rfl rfl ?_
      refine op0 (sp_not rfl rfl) rfl trivial rfl rfl ?_
      refine TL.nil ?_
      refine TC.cond (b := (!r23)) rfl (fun h12 => ?_) (fun h12 => ?_)
      · have h := cond_t h h12
        refine TC.seq ?_
        refine TC.region ?_
        refine op1 3 rfl (sp_loadBA rfl isBlk rfl vt238 rfl rfl) rfl trivial rfl rfl ?_
        refine stoB 3 (cells' := [.val (.int .i64 i15), .val (.int .i64 i16), .ref 9, .val (.int .i64 i18), .val (.int .i64 i19), .val (.int .i64 i20)]) rfl rfl trivial rfl rfl rfl rfl vt238 rfl rfl rfl ?_
        refine op0 (sp_assign rfl rfl) rfl trivial rfl rfl ?_
        refine TL.nil ?_
        refine TC.freeze 2 rfl ?_
        cases h
        exact retJ [(0, 9)] (.cells rfl (mem_at 3 rfl) isBlk vt238 rfl rfl (.tmp rfl .nil)) rfl ⟨mem_at 2 rfl, trivial⟩ rfl rfl
      · have h := cond_f h h12
        refine TC.skip ?_
        obtain ⟨r24, h13, h⟩ := bind_inv h
        obtain ⟨h14, h⟩ := chk_inv h
        obtain ⟨h15, h⟩ := chk_inv h
        refine drawJ 10 [⟨.val (.int .i64 i9), [], [], []⟩, ⟨.val (.int .i64 i9), [], [], []⟩, ⟨.ptr 10 1, [], [.blk 10 [.val (.int .i64 x22.1), .val (.int .i64 x22.2.1), .val (.int .i64 x22.2.2)] 104], []⟩, ⟨.ptr 10 1, [], [.blk 10 [.val (.int .i64 x22.1), .val (.int .i64 x22.2.1), .val (.int .i64 x22.2.2)] 104], []⟩, ⟨.val (.int .i64 x22.2.1), [], [.blk 10 [.val (.int .i64 x22.1), .val (.int .i64 x22.2.1), .val (.int .i64 x22.2.2)] 104], []⟩, ⟨.val (.int .i64 r24), [], [], []⟩, ⟨.val (.int .i64 (Int.tdiv i9 r24)), [], [], []⟩, ⟨.ptr 10 1, [], [.blk 10 [.val (.int .i64 x22.1), .val (.int .i64 x22.2.1), .val (.int .i64 x22.2.2)] 104], []⟩, ⟨.ptr 10 1, [], [.blk 10 [.val (.int .i64 x22.1), .val (.int .i64 x22.2.1), .val (.int .i64 x22.2.2)] 104], []⟩, ⟨.val (.int .i64 x22.2.1), [], [.blk 10 [.val (.int .i64 x22.1), .val (.int .i64 x22.2.1), .val (.int .i64 x22.2.2)] 104], []⟩] rfl ?_ rfl ?_ rfl ?_ ?_
        · kernel_rfl
        · kernel_rfl
        · exact DAll.op' (sp_move rfl rfl) trivial rfl (From.ok (ps := []) trivial) (DAll.op' (sp_move rfl rfl) trivial rfl (From.ok (ps := []) trivial) (DAll.op' (sp_fieldAddrB rfl isBlk rfl ft104_1 vt26 (by decide)) trivial rfl (From.ok (ps := [(none, 0)]) ⟨⟨rfl, rfl⟩, trivial⟩) (DAll.op' (sp_fieldAddrB rfl isBlk rfl ft26_0 vt3 (by decide)) trivial rfl (From.ok (ps := [(none, 0)]) ⟨⟨rfl, rfl⟩, trivial⟩) (DAll.op' (sp_loadB rfl isBlk rfl vt3 rfl) trivial rfl (From.ok (ps := [(none, 0)]) ⟨⟨rfl, rfl⟩, trivial⟩) (DAll.op' (sp_call (avs := [.val (.int .i64 i9), .val (.int .i64 x22.2.1)]) (need := []) (v := .val (.int .i64 r24)) (news := []) rfl rfl rfl Try.call328 (atJ [] [] (fc_dial_gcd h13) rfl rfl) (.inl (roAll rfl))) trivial rfl (From.ok (ps := []) trivial) (DAll.op' (sp_quo rfl rfl rfl h14 h15) trivial rfl (From.ok (ps := []) trivial) (DAll.op' (sp_fieldAddrB rfl isBlk rfl ft104_1 vt26 (by decide)) trivial rfl (From.ok (ps := [(none, 0)]) ⟨⟨rfl, rfl⟩, trivial⟩) (DAll.op' (sp_fieldAddrB rfl isBlk rfl ft26_0 vt3 (by decide)) trivial rfl (From.ok (ps := [(none, 0)]) ⟨⟨rfl, rfl⟩, trivial⟩) (DAll.op' (sp_loadB rfl isBlk rfl vt3 rfl) trivial rfl (From.ok (ps := [(none, 0)]) ⟨⟨rfl, rfl⟩, trivial⟩) (.nil))))))))))
        obtain ⟨h16, h⟩ := chk_inv h
        refine op0 (sp_mul rfl rfl rfl h16) rfl trivial rfl rfl ?_
        refine op0 (sp_assign rfl rfl) rfl trivial rfl rfl ?_
        refine TL.nil ?_
        refine TC.inBlock ?_
        refine TC.region ?_
        obtain ⟨h17, h⟩ := chk_inv h
        refine op0 (sp_add rfl rfl rfl h17) rfl trivial rfl rfl ?_
        refine op0 (sp_move rfl rfl) rfl trivial rfl rfl ?_
        refine TL.nil ?_
        refine TC.inLoop ?_
        refine TC.seq ?_
        refine subJ [] (ih _ _ _ _ _ _ _ _ _ _ _ _ _ h) ?_ ?_ ?_
        · exact ⟨rfl, rfl, rfl, rfl, rfl, rfl, trivial⟩
        · exact ⟨mem_at 1 rfl, mem_at 2 rfl, mem_at 3 rfl, mem_at 4 rfl, trivial⟩
        · rfl
    · have h := cond_f h h8
      refine TC.exit rfl ?_
      refine TC.seq ?_
      refine TC.region ?_
      refine op0 (sp_assign rfl rfl) rfl trivial rfl rfl ?_
      refine TL.nil ?_
      refine TC.seq ?_
      refine TC.seq ?_
      refine TC.region ?_
      refine op1 0 rfl (sp_fieldAddrB rfl isBlk rfl ft107_1 vt105 (by decide)) rfl trivial rfl rfl ?_
      refine op1 0 rfl (sp_loadB rfl isBlk rfl vt105 rfl) rfl trivial rfl rfl ?_
      refine op1 3 rfl (sp_lenM (N := l21.length) (len_map _ _) rfl rfl isRo Try.underlying105) rfl trivial rfl rfl ?_
      refine op0 (sp_move rfl rfl) rfl trivial rfl rfl ?_
      refine TL.nil ?_
      refine TC.block ?_
      refine TC.loop ?_
      refine TC.seq ?_
      refine subJ [] (ok_dial_newFace_l2 _ _ _ _ _ _ _ _ _ _ _ _ _ _ h) ?_ ?_ ?_
      · exact ⟨rfl, rfl, rfl, rfl, rfl, rfl, rfl, trivial⟩
      · exact ⟨mem_at 0 rfl, mem_at 2 rfl, mem_at 3 rfl, mem_at 1 rfl, trivial⟩
      · rfl
def ev_dial_newFace_j0 (n : Nat) (f3 : List (Int × Int × Int)) (f1 : Int) (f2 : Int) (f4 : Int) (f5 : Int) : Option (Int × Int × (List (Int × Int × Int)) × Int × Int × Int × Bool) :=
  ev_dial_newFace_l1 n f3 n 1 0 f1 f2 f4 f5 0 0 ([] : List (Int × Int × Int)) 0 0 0 f3
set_option maxRecDepth 100000 in
set_option maxHeartbeats 2000000 in
theorem ok_dial_newFace_j0 {n : Nat} {w0 : World} {R0 : Nat → Prop} {env0 : Env} {r : Int × Int × (List (Int × Int × Int)) × Int × Int × Int × Bool} {f1 : Int} {f2 : Int} {f4 : Int} {f5 : Int} {f3 : List (Int × Int × Int)} (h : ev_dial_newFace_j0 n f3 f1 f2 f4 f5 = some r) : TC Try.prog ⟨w0, fun _ => False, R0⟩ 91 (bodyPost Try.prog Try.f272 (Post ⟨w0, fun _ => False, R0⟩ env0 (.tup [.agg [.val (.int .i64 r.1), .val (.int .i64 r.2.1), .ref 0, .val (.int .i64 r.2.2.2.1), .val (.int .i64 r.2.2.2.2.1), .val (.int .i64 r.2.2.2.2.2.1)], .val (.bool r.2.2.2.2.2.2)]) [.ro 0 3 (List.map en_api_DialLink r.2.2.1)])) [.code (sub (bodyOf Try.f272) [1, 0, 1, 1]), .code (sub (bodyOf Try.f272) [1, 1])] ([(1, .ptr 1 0), (2, .ptr 2 0)]) ([.blk 1 [.val (.int .i64 f1), .val (.int .i64 f2), .ref 0, .val (.int .i64 f4), .val (.int .i64 f5)] 107, .blk 2 [.val (.int .i64 0), .val (.int .i64 0), .val (.slice none 0 0), .val (.int .i64 0), .val (.int .i64 0), .val (.int .i64 0)] 238, .ro 0 3 (List.map en_api_DialLink f3)]) := by
  rw [ev_dial_newFace_j0] at h
  refine TC.skip ?_
  refine TC.seq ?_
  refine TC.region ?_
  refine op0 (sp_assign rfl rfl) rfl trivial rfl rfl ?_
  refine TL.nil ?_
  refine TC.seq ?_
  refine TC.seq ?_
  refine TC.region ?_
  refine op1 0 rfl (sp_fieldAddrB rfl isBlk rfl ft107_1 vt105 (by decide)) rfl trivial rfl rfl ?_
  refine op1 0 rfl (sp_loadB rfl isBlk rfl vt105 rfl) rfl trivial rfl rfl ?_
  refine op1 2 rfl (sp_lenM (N := f3.length) (len_map _ _) rfl rfl isRo Try.underlying105) rfl trivial rfl rfl ?_
  refine op0 (sp_move rfl rfl) rfl trivial rfl rfl ?_
  refine TL.nil ?_
  refine TC.block ?_
  refine TC.loop ?_
  refine TC.seq ?_
  refine nilCellC 1 12 104 3 2 (List.map en_api_DialLink []) [.val (.int .i64 0), .val (.int .i64 0), .ref 12, .val (.int .i64 0), .val (.int .i64 0), .val (.int .i64 0)] rfl rfl rfl ?_
  refine subJ [(9, 12)] (ok_dial_newFace_l1 _ _ _ _ _ _ _ _ _ _ _ _ _ _ h) ?_ ?_ ?_
  · exact ⟨rfl, rfl, rfl, rfl, rfl, rfl, trivial⟩
  · exact ⟨mem_at 1 rfl, mem_at 0 rfl, mem_at 2 rfl, mem_at 3 rfl, trivial⟩
  · rfl
def ev_dial_newFace (n : Nat) (f1 : Int) (f2 : Int) (f3 : List (Int × Int × Int)) (f4 : Int) (f5 : Int) : Option (Int × Int × (List (Int × Int × Int)) × Int × Int × Int × Bool) :=
  (ev_dial_isSpan n f1 f2 (-3600) 3600).bind fun r6 => cond (!r6) (some (0, 0, ([] : List (Int × Int × Int)), 0, 0, 0, false)) (cond (decide ((4 : Int) < (f3.length : Int))) (some (0, 0, ([] : List (Int × Int × Int)), 0, 0, 0, false)) ((ev_dial_within n (-10000) 10000 ([f4] : List Int)).bind fun r7 => cond (!r7) (some (0, 0, ([] : List (Int × Int × Int)), 0, 0, 0, false)) ((ev_dial_within n 0 10000 ([f5] : List Int)).bind fun r8 => cond (!r8) (some (0, 0, ([] : List (Int × Int × Int)), 0, 0, 0, false)) (ev_dial_newFace_j0 n f3 f1 f2 f4 f5))))
set_option maxRecDepth 100000 in
set_option maxHeartbeats 2000000 in
theorem fc_dial_newFace {n : Nat} {f1 : Int} {f2 : Int} {f3 : List (Int × Int × Int)} {f4 : Int} {f5 : Int} {r : Int × Int × (List (Int × Int × Int)) × Int × Int × Int × Bool} (h : ev_dial_newFace n f1 f2 f3 f4 f5 = some r) : FC Try.prog 272 [.agg [.val (.int .i64 f1), .val (.int .i64 f2), .ref 0, .val (.int .i64 f4), .val (.int .i64 f5)]] [.ro 0 3 (List.map en_api_DialLink f3)] (.tup [.agg [.val (.int .i64 r.1), .val (.int .i64 r.2.1), .ref 0, .val (.int .i64 r.2.2.2.1), .val (.int .i64 r.2.2.2.2.1), .val (.int .i64 r.2.2.2.2.2.1)], .val (.bool r.2.2.2.2.2.2)]) [.ro 0 3 (List.map en_api_DialLink r.2.2.1)] := by
  refine introJ (nz := 91) Try.func272 rfl rfl rfl (fun w0 R0 env0 => ?_)
  rw [ev_dial_newFace] at h
  refine TC.seq ?_
  refine TC.region ?_
  refine op0 (sp_box 1 rfl rfl rfl rfl rfl) rfl trivial rfl rfl ?_
  refine op0 (sp_alloc 2 rfl Try.zeroValue238 rfl) rfl trivial rfl rfl ?_
  refine op0 (sp_assign rfl rfl) rfl trivial rfl rfl ?_
  refine TL.nil ?_
  refine TC.seq ?_
  refine TC.seq ?_
  refine TC.region ?_
  refine op1 1 rfl (sp_fieldAddrB rfl isBlk rfl ft107_0 vt34 (by decide)) rfl trivial rfl rfl ?_
  refine op1 1 rfl (sp_loadBA rfl isBlk rfl vt34 rfl rfl) rfl trivial rfl rfl ?_
  obtain ⟨r6, h1, h⟩ := bind_inv h
  refine op0 (sp_call (avs := [.agg [.val (.int .i64 f1), .val (.int .i64 f2)], .val (.int .i64 (-3600)), .val (.int .i64 3600)]) (need := []) (v := .val (.bool r6)) (news := []) rfl rfl rfl Try.call271 (atJ [] [] (fc_dial_isSpan h1) rfl rfl) (.inl (roAll rfl))) rfl trivial rfl rfl ?_
  refine op0 (sp_not rfl rfl) rfl trivial rfl rfl ?_
  refine op0 (sp_move rfl rfl) rfl trivial rfl rfl ?_
  rcases cond_cases h with ⟨h2, h⟩ | ⟨h2, h⟩
  · refine (boolLit 14 rfl h2).2 ?_
    refine opSkip rfl ⟨_, rfl, .inl rfl⟩ rfl ?_
    refine opSkip rfl ⟨_, rfl, .inl rfl⟩ rfl ?_
    refine opSkip rfl ⟨_, rfl, .inl rfl⟩ rfl ?_
    refine opSkip rfl ⟨_, rfl, .inl rfl⟩ rfl ?_
    refine op0 (sp_pickT rfl rfl rfl) rfl trivial rfl rfl ?_
    refine op0 (sp_move rfl rfl) rfl trivial rfl rfl ?_
    refine opSkip rfl ⟨_, rfl, .inl rfl⟩ rfl ?_
    refine opSkip rfl ⟨_, rfl, .inl rfl⟩ rfl ?_
    refine opSkip rfl ⟨_, rfl, .inl rfl⟩ rfl ?_
    refine opSkip rfl ⟨_, rfl, .inl rfl⟩ rfl ?_
    refine opSkip rfl ⟨_, rfl, .inl rfl⟩ rfl ?_
    refine op0 (sp_pickT rfl rfl rfl) rfl trivial rfl rfl ?_
    refine op0 (sp_move rfl rfl) rfl trivial rfl rfl ?_
    refine opSkip rfl ⟨_, rfl, .inl rfl⟩ rfl ?_
    refine opSkip rfl ⟨_, rfl, .inl rfl⟩ rfl ?_
    refine opSkip rfl ⟨_, rfl, .inl rfl⟩ rfl ?_
    refine opSkip rfl ⟨_, rfl, .inl rfl⟩ rfl ?_
    refine opSkip rfl ⟨_, rfl, .inl rfl⟩ rfl ?_
    refine op0 (sp_pickT rfl rfl rfl) rfl trivial rfl rfl ?_
    refine TL.nil ?_
    refine TC.condT rfl ?_
    refine TC.seq ?_
    refine TC.region ?_
    refine op1 0 rfl (sp_loadBA rfl isBlk rfl vt238 rfl rfl) rfl trivial rfl rfl ?_
    refine stoB 0 (cells' := [.val (.int .i64 0), .val (.int .i64 0), .val (.slice none 0 0), .val (.int .i64 0), .val (.int .i64 0), .val (.int .i64 0)]) rfl rfl trivial rfl rfl rfl rfl vt238 rfl rfl rfl ?_
    refine op0 (sp_assign rfl rfl) rfl trivial rfl rfl ?_
    refine TL.nil ?_
    refine nilCellC 0 3 104 3 2 (List.map en_api_DialLink []) [.val (.int .i64 0), .val (.int .i64 0), .ref 3, .val (.int .i64 0), .val (.int .i64 0), .val (.int .i64 0)] rfl rfl rfl ?_
    refine TC.freeze 0 rfl ?_
    cases h
    exact retJ [(0, 3)] (.cells rfl (mem_at 1 rfl) isBlk vt238 rfl rfl (.tmp rfl .nil)) rfl ⟨mem_at 0 rfl, trivial⟩ rfl rfl
  · refine (boolLit 14 rfl h2).2 ?_
    refine op1 1 rfl (sp_fieldAddrB rfl isBlk rfl ft107_1 vt105 (by decide)) rfl ⟨_, rfl, rfl⟩ rfl rfl ?_
    refine op1 1 rfl (sp_loadB rfl isBlk rfl vt105 rfl) rfl ⟨_, rfl, rfl⟩ rfl rfl ?_
    refine op1 2 rfl (sp_lenM (N := f3.length) (len_map _ _) rfl rfl isRo Try.underlying105) rfl ⟨_, rfl, rfl⟩ rfl rfl ?_
    refine op0 (sp_gtr rfl rfl rfl) rfl ⟨_, rfl, rfl⟩ rfl rfl ?_
    refine op0 (sp_pickF rfl rfl rfl) rfl trivial rfl rfl ?_
    refine op0 (sp_move rfl rfl) rfl trivial rfl rfl ?_
    rcases cond_cases h with ⟨h3, h⟩ | ⟨h3, h⟩
    · refine (boolLit 20 rfl h3).2 ?_
      refine opSkip rfl ⟨_, rfl, .inl rfl⟩ rfl ?_
      refine opSkip rfl ⟨_, rfl, .inl rfl⟩ rfl ?_
      refine opSkip rfl ⟨_, rfl, .inl rfl⟩ rfl ?_
      refine opSkip rfl ⟨_, rfl, .inl rfl⟩ rfl ?_
      refine opSkip rfl ⟨_, rfl, .inl rfl⟩ rfl ?_
      refine op0 (sp_pickT rfl rfl rfl) rfl trivial rfl rfl ?_
      refine op0 (sp_move rfl rfl) rfl trivial rfl rfl ?_
      refine opSkip rfl ⟨_, rfl, .inl rfl⟩ rfl ?_
      refine opSkip rfl ⟨_, rfl, .inl rfl⟩ rfl ?_
      refine opSkip rfl ⟨_, rfl, .inl rfl⟩ rfl ?_
      refine opSkip rfl ⟨_, rfl, .inl rfl⟩ rfl ?_
      refine opSkip rfl ⟨_, rfl, .inl rfl⟩ rfl ?_
      refine op0 (sp_pickT rfl rfl rfl) rfl trivial rfl rfl ?_
      refine TL.nil ?_
      refine TC.condT rfl ?_
      refine TC.seq ?_
      refine TC.region ?_
      refine op1 0 rfl (sp_loadBA rfl isBlk rfl vt238 rfl rfl) rfl trivial rfl rfl ?_
      refine stoB 0 (cells' := [.val (.int .i64 0), .val (.int .i64 0), .val (.slice none 0 0), .val (.int .i64 0), .val (.int .i64 0), .val (.int .i64 0)]) rfl rfl trivial rfl rfl rfl rfl vt238 rfl rfl rfl ?_
      refine op0 (sp_assign rfl rfl) rfl trivial rfl rfl ?_
      refine TL.nil ?_
      refine nilCellC 0 4 104 3 2 (List.map en_api_DialLink []) [.val (.int .i64 0), .val (.int .i64 0), .ref 4, .val (.int .i64 0), .val (.int .i64 0), .val (.int .i64 0)] rfl rfl rfl ?_
      refine TC.freeze 0 rfl ?_
      cases h
      exact retJ [(0, 4)] (.cells rfl (mem_at 1 rfl) isBlk vt238 rfl rfl (.tmp rfl .nil)) rfl ⟨mem_at 0 rfl, trivial⟩ rfl rfl
    · refine (boolLit 20 rfl h3).2 ?_
      refine op1 1 rfl (sp_fieldAddrB rfl isBlk rfl ft107_2 vt3 (by decide)) rfl ⟨_, rfl, rfl⟩ rfl rfl ?_
      refine op1 1 rfl (sp_loadB rfl isBlk rfl vt3 rfl) rfl ⟨_, rfl, rfl⟩ rfl rfl ?_
      refine op0 (sp_buildSlice (qs := [.val (.int .i64 f4)]) (need := []) (els := List.map en_int ([f4] : List Int)) 5 rfl sl50 (by decide) (by decide) rfl rfl rfl (.v (.nil)) (map_len fun _ => rfl) rfl rfl rfl) rfl ⟨_, rfl, rfl⟩ rfl rfl ?_
      obtain ⟨r7, h4, h⟩ := bind_inv h
      refine op1 0 rfl (sp_call (avs := [.val (.int .i64 (-10000)), .val (.int .i64 10000), .ref 5]) (need := [.row 5 3 1 (List.map en_int ([f4] : List Int))]) (v := .val (.bool r7)) (news := []) rfl rfl rfl Try.call186 (atJ [(0, 5)] [] (fc_dial_within h4) rfl rfl) (.inr (fun x hx => nomatch hx))) rfl ⟨_, rfl, rfl⟩ rfl rfl ?_
      refine op0 (sp_not rfl rfl) rfl ⟨_, rfl, rfl⟩ rfl rfl ?_
      refine op0 (sp_pickF rfl rfl rfl) rfl trivial rfl rfl ?_
      refine op0 (sp_move rfl rfl) rfl trivial rfl rfl ?_
      rcases cond_cases h with ⟨h5, h⟩ | ⟨h5, h⟩
      · refine (boolLit 27 rfl h5).2 ?_
        refine opSkip rfl ⟨_, rfl, .inl rfl⟩ rfl ?_
        refine opSkip rfl ⟨_, rfl, .inl rfl⟩ rfl ?_
        refine opSkip rfl ⟨_, rfl, .inl rfl⟩ rfl ?_
        refine opSkip rfl ⟨_, rfl, .inl rfl⟩ rfl ?_
        refine opSkip rfl ⟨_, rfl, .inl rfl⟩ rfl ?_
        refine op0 (sp_pickT rfl rfl rfl) rfl trivial rfl rfl ?_
        refine TL.nil ?_
        refine TC.condT rfl ?_
        refine TC.seq ?_
        refine TC.region ?_
        refine op1 1 rfl (sp_loadBA rfl isBlk rfl vt238 rfl rfl) rfl trivial rfl rfl ?_
        refine stoB 1 (cells' := [.val (.int .i64 0), .val (.int .i64 0), .val (.slice none 0 0), .val (.int .i64 0), .val (.int .i64 0), .val (.int .i64 0)]) rfl rfl trivial rfl rfl rfl rfl vt238 rfl rfl rfl ?_
        refine op0 (sp_assign rfl rfl) rfl trivial rfl rfl ?_
        refine TL.nil ?_
        refine nilCellC 1 6 104 3 2 (List.map en_api_DialLink []) [.val (.int .i64 0), .val (.int .i64 0), .ref 6, .val (.int .i64 0), .val (.int .i64 0), .val (.int .i64 0)] rfl rfl rfl ?_
        refine TC.freeze 0 rfl ?_
        cases h
        exact retJ [(0, 6)] (.cells rfl (mem_at 2 rfl) isBlk vt238 rfl rfl (.tmp rfl .nil)) rfl ⟨mem_at 0 rfl, trivial⟩ rfl rfl
      · refine (boolLit 27 rfl h5).2 ?_
        refine op1 2 rfl (sp_fieldAddrB rfl isBlk rfl ft107_3 vt3 (by decide)) rfl ⟨_, rfl, rfl⟩ rfl rfl ?_
        refine op1 2 rfl (sp_loadB rfl isBlk rfl vt3 rfl) rfl ⟨_, rfl, rfl⟩ rfl rfl ?_
        refine op0 (sp_buildSlice (qs := [.val (.int .i64 f5)]) (need := []) (els := List.map en_int ([f5] : List Int)) 7 rfl sl50 (by decide) (by decide) rfl rfl rfl (.v (.nil)) (map_len fun _ => rfl) rfl rfl rfl) rfl ⟨_, rfl, rfl⟩ rfl rfl ?_
        obtain ⟨r8, h6, h⟩ := bind_inv h
        refine op1 0 rfl (sp_call (avs := [.val (.int .i64 0), .val (.int .i64 10000), .ref 7]) (need := [.row 7 3 1 (List.map en_int ([f5] : List Int))]) (v := .val (.bool r8)) (news := []) rfl rfl rfl Try.call186 (atJ [(0, 7)] [] (fc_dial_within h6) rfl rfl) (.inr (fun x hx => nomatch hx))) rfl ⟨_, rfl, rfl⟩ rfl rfl ?_
        refine op0 (sp_not rfl rfl) rfl ⟨_, rfl, rfl⟩ rfl rfl ?_
        refine op0 (sp_pickF rfl rfl rfl) rfl trivial rfl rfl ?_
        refine TL.nil ?_
        refine TC.cond (b := (!r8)) rfl (fun h7 => ?_) (fun h7 => ?_)
        · have h := cond_t h h7
          refine TC.seq ?_
          refine TC.region ?_
          refine op1 2 rfl (sp_loadBA rfl isBlk rfl vt238 rfl rfl) rfl trivial rfl rfl ?_
          refine stoB 2 (cells' := [.val (.int .i64 0), .val (.int .i64 0), .val (.slice none 0 0), .val (.int .i64 0), .val (.int .i64 0), .val (.int .i64 0)]) rfl rfl trivial rfl rfl rfl rfl vt238 rfl rfl rfl ?_
          refine op0 (sp_assign rfl rfl) rfl trivial rfl rfl ?_
          refine TL.nil ?_
          refine nilCellC 2 8 104 3 2 (List.map en_api_DialLink []) [.val (.int .i64 0), .val (.int .i64 0), .ref 8, .val (.int .i64 0), .val (.int .i64 0), .val (.int .i64 0)] rfl rfl rfl ?_
          refine TC.freeze 0 rfl ?_
          cases h
          exact retJ [(0, 8)] (.cells rfl (mem_at 3 rfl) isBlk vt238 rfl rfl (.tmp rfl .nil)) rfl ⟨mem_at 0 rfl, trivial⟩ rfl rfl
        · have h := cond_f h h7
          refine subJ [] (ok_dial_newFace_j0 h) ?_ ?_ ?_
          · exact ⟨rfl, rfl, trivial⟩
          · exact ⟨mem_at 3 rfl, mem_at 2 rfl, mem_at 4 rfl, trivial⟩
          · rfl
/- dial_newWorks -/
def ev_dial_newWorks_l1 (n : Nat) (w4 : List (Int × Int × (List (Int × Int × Int)) × Int × Int)) : Nat → Int → Int → Int → Int → (List (Int × Int × (List (Int × Int × Int)) × Int × Int × Int)) → (List (Int × Int × (List (Int × Int × Int)) × Int × Int)) → Option (Int × Int × Int × (List (Int × Int × (List (Int × Int × Int)) × Int × Int)) × (List (Int × Int × (List (Int × Int × Int)) × Int × Int × Int)) × Int)
  | 0, _, _, _, _, _, _ => none
  | m + 1, i8, i9, i10, i11, l12, l13 => cond (decide (i8 < (w4.length : Int))) (idx l13 i8 fun x14 => (ev_dial_newFace n x14.1 x14.2.1 x14.2.2.1 x14.2.2.2.1 x14.2.2.2.2).bind fun r15 => cond (!r15.2.2.2.2.2.2) (some (0, 0, 0, ([] : List (Int × Int × (List (Int × Int × Int)) × Int × Int)), ([] : List (Int × Int × (List (Int × Int × Int)) × Int × Int × Int)), 2)) (chk (room 64 (l12.length + ([(r15.1, r15.2.1, r15.2.2.1, r15.2.2.2.1, r15.2.2.2.2.1, r15.2.2.2.2.2.1)] : List (Int × Int × (List (Int × Int × Int)) × Int × Int × Int)).length)) <| chk (in64 (i8 + 1)) <| ev_dial_newWorks_l1 n w4 m (i8 + 1) i9 i10 i11 (l12 ++ ([(r15.1, r15.2.1, r15.2.2.1, r15.2.2.2.1, r15.2.2.2.2.1, r15.2.2.2.2.2.1)] : List (Int × Int × (List (Int × Int × Int)) × Int × Int × Int))) l13)) (some (i9, i10, i11, l13, l12, 0))
set_option maxRecDepth 100000 in
set_option maxHeartbeats 2000000 in
theorem ok_dial_newWorks_l1 {n : Nat} {w0 : World} {R0 : Nat → Prop} {env0 : Env} {r : Int × Int × Int × (List (Int × Int × (List (Int × Int × Int)) × Int × Int)) × (List (Int × Int × (List (Int × Int × Int)) × Int × Int × Int)) × Int} {w4 : List (Int × Int × (List (Int × Int × Int)) × Int × Int)} : ∀ (m : Nat) (i8 : Int) (i9 : Int) (i10 : Int) (i11 : Int) (l12 : List (Int × Int × (List (Int × Int × Int)) × Int × Int × Int)) (l13 : List (Int × Int × (List (Int × Int × Int)) × Int × Int)), ev_dial_newWorks_l1 n w4 m i8 i9 i10 i11 l12 l13 = some r → TC Try.prog ⟨w0, fun _ => False, R0⟩ 59 (bodyPost Try.prog Try.f185 (Post ⟨w0, fun _ => False, R0⟩ env0 (.tup [.agg [.val (.int .i64 r.1), .val (.int .i64 r.2.1), .val (.int .i64 r.2.2.1), .ref 0, .ref 1], .val (.int .i64 r.2.2.2.2.2)]) [.ro 0 5 (List.map en_api_DialFace r.2.2.2.1), .row 1 238 6 (List.map en_dial_face r.2.2.2.2.1)])) [.code (sub (bodyOf Try.f185) [1, 1, 1, 0, 1, 0, 0, 0]), .code (sub (bodyOf Try.f185) [1, 1, 1, 0, 1, 0, 0, 1]), .inLoop (sub (bodyOf Try.f185) [1, 1, 1, 0, 1, 0, 0]), .inBlock 0, .code (sub (bodyOf Try.f185) [1, 1, 1, 1])] ([(2, .ptr 2 0), (37, .ref 0), (38, .val (.int .i64 (w4.length : Int))), (39, .val (.int .i64 i8))]) ([.row 13 238 6 (List.map en_dial_face l12), .blk 2 [.val (.int .i64 i9), .val (.int .i64 i10), .val (.int .i64 i11), .ref 0, .ref 13] 236, .ro 0 5 (List.map en_api_DialFace l13)]) := by
  intro m
  induction m with
  | zero => intro i8 i9 i10 i11 l12 l13 h; exact none_no h
  | succ m ih =>
    intro i8 i9 i10 i11 l12 l13 h
    rw [ev_dial_newWorks_l1] at h
    refine TC.region ?_
    refine op0 (sp_lss rfl rfl rfl) rfl trivial rfl rfl ?_
    refine TL.nil ?_
    refine TC.seq ?_
    refine TC.cond (b := (decide (i8 < (w4.length : Int)))) rfl (fun h9 => ?_) (fun h9 => ?_)
    · have h := cond_t h h9
      refine TC.skip ?_
      refine TC.seq ?_
      refine TC.block ?_
      refine TC.seq ?_
      refine TC.region ?_
      obtain ⟨x14, h10, h11, h⟩ := idx_inv h
      refine op1 2 rfl (sp_indexS rfl rfl rfl isRo sl109 h10 (map_get _ h11)) rfl trivial rfl rfl ?_
      refine op1 2 rfl (sp_loadRA (i := (i8 : Int).toNat) (j := 0) (as_ := [.val (.int .i64 x14.1), .val (.int .i64 x14.2.1), .ref 14, .val (.int .i64 x14.2.2.2.1), .val (.int .i64 x14.2.2.2.2)]) (ns := [.ro 14 3 (List.map en_api_DialLink x14.2.2.1)]) rfl rfl isRo vt107 rfl (map_get _ h11) rfl rfl (by decide) (.v (.v (.s (.v (.v (.nil)))))) (nodup_of_B rfl)) rfl trivial rfl rfl ?_
      refine op0 (sp_alloc 15 rfl Try.zeroValue107 rfl) rfl trivial rfl rfl ?_
      refine stoB 0 (cells' := [.val (.int .i64 x14.1), .val (.int .i64 x14.2.1), .ref 14, .val (.int .i64 x14.2.2.2.1), .val (.int .i64 x14.2.2.2.2)]) rfl rfl trivial rfl rfl rfl rfl vt107 rfl rfl rfl ?_
      refine TL.nil ?_
      refine TC.seq ?_
      refine TC.region ?_
      refine op1 0 rfl (sp_loadBA rfl isBlk rfl vt107 rfl rfl) rfl trivial rfl rfl ?_
      obtain ⟨r15, h12, h⟩ := bind_inv h
      refine op1 1 rfl (sp_call (avs := [.agg [.val (.int .i64 x14.1), .val (.int .i64 x14.2.1), .ref 14, .val (.int .i64 x14.2.2.2.1), .val (.int .i64 x14.2.2.2.2)]]) (need := [.ro 14 3 (List.map en_api_DialLink x14.2.2.1)]) (v := .tup [.agg [.val (.int .i64 r15.1), .val (.int .i64 r15.2.1), .ref 16, .val (.int .i64 r15.2.2.2.1), .val (.int .i64 r15.2.2.2.2.1), .val (.int .i64 r15.2.2.2.2.2.1)], .val (.bool r15.2.2.2.2.2.2)]) (news := [.ro 16 3 (List.map en_api_DialLink r15.2.2.1)]) rfl rfl rfl Try.call272 (atJ [(0, 14)] [(0, 16)] (fc_dial_newFace h12) rfl rfl) (.inl (roAll rfl))) rfl trivial rfl rfl ?_
      refine op0 (sp_move rfl rfl) rfl trivial rfl rfl ?_
      refine op0 (sp_extract rfl rfl rfl) rfl trivial rfl rfl ?_
      refine op0 (sp_extract rfl rfl rfl) rfl trivial rfl rfl ?_
      refine op0 (sp_alloc 17 rfl Try.zeroValue238 rfl) rfl trivial rfl rfl ?_
      refine stoB 0 (cells' := [.val (.int .i64 r15.1), .val (.int .i64 r15.2.1), .ref 16, .val (.int .i64 r15.2.2.2.1), .val (.int .i64 r15.2.2.2.2.1), .val (.int .i64 r15.2.2.2.2.2.1)]) rfl rfl trivial rfl rfl rfl rfl vt238 rfl rfl rfl ?_
      refine op0 (sp_assign rfl rfl) rfl trivial rfl rfl ?_
      refine TL.nil ?_
      refine TC.seq ?_
      refine TC.seq ?_
      refine TC.region ?_
      refine op0 (sp_move rfl rfl) rfl trivial rfl rfl ?_
      refine op0 (sp_not rfl rfl) rfl trivial rfl rfl ?_
      refine TL.nil ?_
      refine TC.cond (b := (!r15.2.2.2.2.2.2)) rfl (fun h13 => ?_) (fun h13 => ?_)
      · have h := cond_t h h13
        refine TC.seq ?_
        refine TC.region ?_
        refine op0 (sp_build (qs := []) rfl bt236 rfl rfl rfl rfl) rfl trivial rfl rfl ?_
        refine stoB 5 (cells' := [.val (.int .i64 0), .val (.int .i64 0), .val (.int .i64 0), .val (.slice none 0 0), .val (.slice none 0 0)]) rfl rfl trivial rfl rfl rfl rfl vt236 rfl rfl rfl ?_
        refine op0 (sp_assign rfl rfl) rfl trivial rfl rfl ?_
        refine TL.nil ?_
        refine nilCellC 5 18 107 5 2 (List.map en_api_DialFace []) [.val (.int .i64 0), .val (.int .i64 0), .val (.int .i64 0), .ref 18, .val (.slice none 0 0)] rfl rfl rfl ?_
        refine nilCellC 6 19 238 6 2 (List.map en_dial_face []) [.val (.int .i64 0), .val (.int .i64 0), .val (.int .i64 0), .ref 18, .ref 19] rfl rfl rfl ?_
        refine TC.freeze 1 rfl ?_
        cases h
        exact retJ [(0, 18), (1, 19)] (.cells rfl (mem_at 7 rfl) isBlk vt236 rfl rfl (.tmp rfl .nil)) rfl ⟨mem_at 1 rfl, mem_at 0 rfl, trivial⟩ rfl rfl
      · have h := cond_f h h13
        refine TC.skip ?_
        refine TC.region ?_
        refine op1 5 rfl (sp_fieldAddrB rfl isBlk rfl ft236_1 vt234 (by decide)) rfl trivial rfl rfl ?_
        refine op1 5 rfl (sp_loadB rfl isBlk rfl vt234 rfl) rfl trivial rfl rfl ?_
        refine op1 0 rfl (sp_loadBA rfl isBlk rfl vt238 rfl rfl) rfl trivial rfl rfl ?_
        refine op1 1 rfl (sp_buildSlice (qs := [.agg [.val (.int .i64 r15.1), .val (.int .i64 r15.2.1), .ref 16, .val (.int .i64 r15.2.2.2.1), .val (.int .i64 r15.2.2.2.2.1), .val (.int .i64 r15.2.2.2.2.2.1)]]) (need := [.ro 16 3 (List.map en_api_DialLink r15.2.2.1)]) (els := List.map en_dial_face ([(r15.1, r15.2.1, r15.2.2.1, r15.2.2.2.1, r15.2.2.2.2.1, r15.2.2.2.2.2.1)] : List (Int × Int × (List (Int × Int × Int)) × Int × Int × Int))) 20 rfl sl234 (by decide) (by decide) rfl rfl rfl (.v (.v (.s (mem_at 0 rfl) (.v (.v (.v (.nil))))))) (map_len fun _ => rfl) rfl rfl rfl) rfl trivial rfl rfl ?_
        obtain ⟨h14, h⟩ := chk_inv h
        refine appM 5 0 (N := l12.length) (N2 := ([(r15.1, r15.2.1, r15.2.2.1, r15.2.2.2.1, r15.2.2.2.2.1, r15.2.2.2.2.2.1)] : List (Int × Int × (List (Int × Int × Int)) × Int × Int × Int)).length) 21 rfl rfl trivial rfl rfl rfl rfl rfl isOwn rfl sl234 (len_map _ _) (len_map _ _) h14 (map_app _ _ _) rfl ?_
        refine op1 6 rfl (sp_fieldAddrB rfl isBlk rfl ft236_1 vt234 (by decide)) rfl trivial rfl rfl ?_
        refine stoB 6 (cells' := [.val (.int .i64 i9), .val (.int .i64 i10), .val (.int .i64 i11), .ref 0, .ref 21]) rfl rfl trivial rfl rfl rfl rfl vt234 rfl rfl rfl ?_
        refine TL.nil ?_
        refine TC.inBlock ?_
        refine TC.region ?_
        obtain ⟨h15, h⟩ := chk_inv h
        refine op0 (sp_add rfl rfl rfl h15) rfl trivial rfl rfl ?_
        refine op0 (sp_move rfl rfl) rfl trivial rfl rfl ?_
        refine TL.nil ?_
        refine TC.inLoop ?_
        refine TC.seq ?_
        refine subJ [(13, 21)] (ih _ _ _ _ _ _ h) ?_ ?_ ?_
        · exact ⟨rfl, rfl, rfl, rfl, trivial⟩
        · exact ⟨mem_at 0 rfl, mem_at 6 rfl, mem_at 7 rfl, trivial⟩
        · rfl
    · have h := cond_f h h9
      refine TC.exit rfl ?_
      refine TC.seq ?_
      refine TC.region ?_
      refine op1 1 rfl (sp_loadBA rfl isBlk rfl vt236 rfl rfl) rfl trivial rfl rfl ?_
      refine stoB 1 (cells' := [.val (.int .i64 i9), .val (.int .i64 i10), .val (.int .i64 i11), .ref 0, .ref 13]) rfl rfl trivial rfl rfl rfl rfl vt236 rfl rfl rfl ?_
      refine op0 (sp_assign rfl rfl) rfl trivial rfl rfl ?_
      refine TL.nil ?_
      cases h
      exact retJ [(1, 13)] (.cells rfl (mem_at 1 rfl) isBlk vt236 rfl rfl (.tmp rfl .nil)) rfl ⟨mem_at 2 rfl, mem_at 0 rfl, trivial⟩ rfl rfl
def ev_dial_newWorks_j0 (n : Nat) (w4 : List (Int × Int × (List (Int × Int × Int)) × Int × Int)) (w1 : Int) (w2 : Int) (w3 : Int) : Option (Int × Int × Int × (List (Int × Int × (List (Int × Int × Int)) × Int × Int)) × (List (Int × Int × (List (Int × Int × Int)) × Int × Int × Int)) × Int) :=
  ev_dial_newWorks_l1 n w4 n 0 w1 w2 w3 ([] : List (Int × Int × (List (Int × Int × Int)) × Int × Int × Int)) w4
set_option maxRecDepth 100000 in
set_option maxHeartbeats 2000000 in
theorem ok_dial_newWorks_j0 {n : Nat} {w0 : World} {R0 : Nat → Prop} {env0 : Env} {r : Int × Int × Int × (List (Int × Int × (List (Int × Int × Int)) × Int × Int)) × (List (Int × Int × (List (Int × Int × Int)) × Int × Int × Int)) × Int} {w1 : Int} {w2 : Int} {w3 : Int} {w4 : List (Int × Int × (List (Int × Int × Int)) × Int × Int)} (h : ev_dial_newWorks_j0 n w4 w1 w2 w3 = some r) : TC Try.prog ⟨w0, fun _ => False, R0⟩ 59 (bodyPost Try.prog Try.f185 (Post ⟨w0, fun _ => False, R0⟩ env0 (.tup [.agg [.val (.int .i64 r.1), .val (.int .i64 r.2.1), .val (.int .i64 r.2.2.1), .ref 0, .ref 1], .val (.int .i64 r.2.2.2.2.2)]) [.ro 0 5 (List.map en_api_DialFace r.2.2.2.1), .row 1 238 6 (List.map en_dial_face r.2.2.2.2.1)])) [.code (sub (bodyOf Try.f185) [1, 0, 1, 1]), .code (sub (bodyOf Try.f185) [1, 1])] ([(1, .ptr 1 0), (2, .ptr 2 0)]) ([.blk 1 [.val (.int .i64 w1), .val (.int .i64 w2), .val (.int .i64 w3), .ref 0] 111, .blk 2 [.val (.int .i64 0), .val (.int .i64 0), .val (.int .i64 0), .val (.slice none 0 0), .val (.slice none 0 0)] 236, .ro 0 5 (List.map en_api_DialFace w4)]) := by
  rw [ev_dial_newWorks_j0] at h
  refine TC.skip ?_
  refine TC.seq ?_
  refine TC.region ?_
  refine op1 0 rfl (sp_loadBA rfl isBlk rfl vt111 rfl rfl) rfl trivial rfl rfl ?_
  refine op1 1 rfl (sp_fieldAddrB rfl isBlk rfl ft236_0 vt111 (by decide)) rfl trivial rfl rfl ?_
  refine stoB 1 (cells' := [.val (.int .i64 w1), .val (.int .i64 w2), .val (.int .i64 w3), .ref 0, .val (.slice none 0 0)]) rfl rfl trivial rfl rfl rfl rfl vt111 rfl rfl rfl ?_
  refine TL.nil ?_
  refine TC.seq ?_
  refine TC.seq ?_
  refine TC.region ?_
  refine op1 0 rfl (sp_fieldAddrB rfl isBlk rfl ft111_2 vt109 (by decide)) rfl trivial rfl rfl ?_
  refine op1 0 rfl (sp_loadB rfl isBlk rfl vt109 rfl) rfl trivial rfl rfl ?_
  refine op1 2 rfl (sp_lenM (N := w4.length) (len_map _ _) rfl rfl isRo Try.underlying109) rfl trivial rfl rfl ?_
  refine op0 (sp_move rfl rfl) rfl trivial rfl rfl ?_
  refine TL.nil ?_
  refine TC.block ?_
  refine TC.loop ?_
  refine TC.seq ?_
  refine nilCellC 1 22 238 6 2 (List.map en_dial_face []) [.val (.int .i64 w1), .val (.int .i64 w2), .val (.int .i64 w3), .ref 0, .ref 22] rfl rfl rfl ?_
  refine subJ [(13, 22)] (ok_dial_newWorks_l1 _ _ _ _ _ _ _ h) ?_ ?_ ?_
  · exact ⟨rfl, rfl, rfl, rfl, trivial⟩
  · exact ⟨mem_at 0 rfl, mem_at 2 rfl, mem_at 3 rfl, trivial⟩
  · rfl
def ev_dial_newWorks (n : Nat) (w1 : Int) (w2 : Int) (w3 : Int) (w4 : List (Int × Int × (List (Int × Int × Int)) × Int × Int)) : Option (Int × Int × Int × (List (Int × Int × (List (Int × Int × Int)) × Int × Int)) × (List (Int × Int × (List (Int × Int × Int)) × Int × Int × Int)) × Int) :=
  (ev_dial_within n 1 3600 ([w1] : List Int)).bind fun r5 => cond (!r5) (some (0, 0, 0, ([] : List (Int × Int × (List (Int × Int × Int)) × Int × Int)), ([] : List (Int × Int × (List (Int × Int × Int)) × Int × Int × Int)), 2)) (chk (w1 != 0) <| cond ((Int.tmod (3600 : Int) w1) != 0) (some (0, 0, 0, ([] : List (Int × Int × (List (Int × Int × Int)) × Int × Int)), ([] : List (Int × Int × (List (Int × Int × Int)) × Int × Int × Int)), 2)) ((ev_dial_isSpan n w2 w3 (-3600) 3600).bind fun r6 => cond (!r6) (some (0, 0, 0, ([] : List (Int × Int × (List (Int × Int × Int)) × Int × Int)), ([] : List (Int × Int × (List (Int × Int × Int)) × Int × Int × Int)), 2)) ((ev_dial_within n 1 8 ([(w4.length : Int)] : List Int)).bind fun r7 => cond (!r7) (some (0, 0, 0, ([] : List (Int × Int × (List (Int × Int × Int)) × Int × Int)), ([] : List (Int × Int × (List (Int × Int × Int)) × Int × Int × Int)), 2)) (ev_dial_newWorks_j0 n w4 w1 w2 w3))))
set_option maxRecDepth 100000 in
set_option maxHeartbeats 2000000 in
theorem fc_dial_newWorks {n : Nat} {w1 : Int} {w2 : Int} {w3 : Int} {w4 : List (Int × Int × (List (Int × Int × Int)) × Int × Int)} {r : Int × Int × Int × (List (Int × Int × (List (Int × Int × Int)) × Int × Int)) × (List (Int × Int × (List (Int × Int × Int)) × Int × Int × Int)) × Int} (h : ev_dial_newWorks n w1 w2 w3 w4 = some r) : FC Try.prog 185 [.agg [.val (.int .i64 w1), .val (.int .i64 w2), .val (.int .i64 w3), .ref 0]] [.ro 0 5 (List.map en_api_DialFace w4)] (.tup [.agg [.val (.int .i64 r.1), .val (.int .i64 r.2.1), .val (.int .i64 r.2.2.1), .ref 0, .ref 1], .val (.int .i64 r.2.2.2.2.2)]) [.ro 0 5 (List.map en_api_DialFace r.2.2.2.1), .row 1 238 6 (List.map en_dial_face r.2.2.2.2.1)] := by
  refine introJ (nz := 59) Try.func185 rfl rfl rfl (fun w0 R0 env0 => ?_)
  rw [ev_dial_newWorks] at h
  refine TC.seq ?_
  refine TC.region ?_
  refine op0 (sp_box 1 rfl rfl rfl rfl rfl) rfl trivial rfl rfl ?_
  refine op0 (sp_alloc 2 rfl Try.zeroValue236 rfl) rfl trivial rfl rfl ?_
  refine op0 (sp_assign rfl rfl) rfl trivial rfl rfl ?_
  refine TL.nil ?_
  refine TC.seq ?_
  refine TC.seq ?_
  refine TC.region ?_
  refine op1 1 rfl (sp_fieldAddrB rfl isBlk rfl ft111_0 vt3 (by decide)) rfl trivial rfl rfl ?_
  refine op1 1 rfl (sp_loadB rfl isBlk rfl vt3 rfl) rfl trivial rfl rfl ?_
  refine op0 (sp_buildSlice (qs := [.val (.int .i64 w1)]) (need := []) (els := List.map en_int ([w1] : List Int)) 3 rfl sl50 (by decide) (by decide) rfl rfl rfl (.v (.nil)) (map_len fun _ => rfl) rfl rfl rfl) rfl trivial rfl rfl ?_
  obtain ⟨r5, h1, h⟩ := bind_inv h
  refine op1 0 rfl (sp_call (avs := [.val (.int .i64 1), .val (.int .i64 3600), .ref 3]) (need := [.row 3 3 1 (List.map en_int ([w1] : List Int))]) (v := .val (.bool r5)) (news := []) rfl rfl rfl Try.call186 (atJ [(0, 3)] [] (fc_dial_within h1) rfl rfl) (.inr (fun x hx => nomatch hx))) rfl trivial rfl rfl ?_
  refine op0 (sp_not rfl rfl) rfl trivial rfl rfl ?_
  refine op0 (sp_move rfl rfl) rfl trivial rfl rfl ?_
  rcases cond_cases h with ⟨h2, h⟩ | ⟨h2, h⟩
  · refine (boolLit 13 rfl h2).2 ?_
    refine opSkip rfl ⟨_, rfl, .inl rfl⟩ rfl ?_
    refine opSkip rfl ⟨_, rfl, .inl rfl⟩ rfl ?_
    refine opSkip rfl ⟨_, rfl, .inl rfl⟩ rfl ?_
    refine opSkip rfl ⟨_, rfl, .inl rfl⟩ rfl ?_
    refine op0 (sp_pickT rfl rfl rfl) rfl trivial rfl rfl ?_
    refine op0 (sp_move rfl rfl) rfl trivial rfl rfl ?_
    refine opSkip rfl ⟨_, rfl, .inl rfl⟩ rfl ?_
    refine opSkip rfl ⟨_, rfl, .inl rfl⟩ rfl ?_
    refine opSkip rfl ⟨_, rfl, .inl rfl⟩ rfl ?_
    refine opSkip rfl ⟨_, rfl, .inl rfl⟩ rfl ?_
    refine op0 (sp_pickT rfl rfl rfl) rfl trivial rfl rfl ?_
    refine op0 (sp_move rfl rfl) rfl trivial rfl rfl ?_
    refine opSkip rfl ⟨_, rfl, .inl rfl⟩ rfl ?_
    refine opSkip rfl ⟨_, rfl, .inl rfl⟩ rfl ?_
    refine opSkip rfl ⟨_, rfl, .inl rfl⟩ rfl ?_
    refine opSkip rfl ⟨_, rfl, .inl rfl⟩ rfl ?_
    refine opSkip rfl ⟨_, rfl, .inl rfl⟩ rfl ?_
    refine opSkip rfl ⟨_, rfl, .inl rfl⟩ rfl ?_
    refine op0 (sp_pickT rfl rfl rfl) rfl trivial rfl rfl ?_
    refine TL.nil ?_
    refine TC.condT rfl ?_
    refine TC.seq ?_
    refine TC.region ?_
    refine op1 1 rfl (sp_loadBA rfl isBlk rfl vt236 rfl rfl) rfl trivial rfl rfl ?_
    refine stoB 1 (cells' := [.val (.int .i64 0), .val (.int .i64 0), .val (.int .i64 0), .val (.slice none 0 0), .val (.slice none 0 0)]) rfl rfl trivial rfl rfl rfl rfl vt236 rfl rfl rfl ?_
    refine op0 (sp_assign rfl rfl) rfl trivial rfl rfl ?_
    refine TL.nil ?_
    refine nilCellC 1 4 107 5 2 (List.map en_api_DialFace []) [.val (.int .i64 0), .val (.int .i64 0), .val (.int .i64 0), .ref 4, .val (.slice none 0 0)] rfl rfl rfl ?_
    refine nilCellC 2 5 238 6 2 (List.map en_dial_face []) [.val (.int .i64 0), .val (.int .i64 0), .val (.int .i64 0), .ref 4, .ref 5] rfl rfl rfl ?_
    refine TC.freeze 1 rfl ?_
    cases h
    exact retJ [(0, 4), (1, 5)] (.cells rfl (mem_at 3 rfl) isBlk vt236 rfl rfl (.tmp rfl .nil)) rfl ⟨mem_at 1 rfl, mem_at 0 rfl, trivial⟩ rfl rfl
  · refine (boolLit 13 rfl h2).2 ?_
    refine op1 2 rfl (sp_fieldAddrB rfl isBlk rfl ft111_0 vt3 (by decide)) rfl ⟨_, rfl, rfl⟩ rfl rfl ?_
    refine op1 2 rfl (sp_loadB rfl isBlk rfl vt3 rfl) rfl ⟨_, rfl, rfl⟩ rfl rfl ?_
    obtain ⟨h3, h⟩ := chk_inv h
    refine op0 (sp_rem rfl rfl rfl h3) rfl ⟨_, rfl, rfl⟩ rfl rfl ?_
    refine op0 (sp_neq rfl rfl rfl) rfl ⟨_, rfl, rfl⟩ rfl rfl ?_
    refine op0 (sp_pickF rfl rfl rfl) rfl trivial rfl rfl ?_
    refine op0 (sp_move rfl rfl) rfl trivial rfl rfl ?_
    rcases cond_cases h with ⟨h4, h⟩ | ⟨h4, h⟩
    · refine (boolLit 19 rfl h4).2 ?_
      refine opSkip rfl ⟨_, rfl, .inl rfl⟩ rfl ?_
      refine opSkip rfl ⟨_, rfl, .inl rfl⟩ rfl ?_
      refine opSkip rfl ⟨_, rfl, .inl rfl⟩ rfl ?_
      refine opSkip rfl ⟨_, rfl, .inl rfl⟩ rfl ?_
      refine op0 (sp_pickT rfl rfl rfl) rfl trivial rfl rfl ?_
      refine op0 (sp_move rfl rfl) rfl trivial rfl rfl ?_
      refine opSkip rfl ⟨_, rfl, .inl rfl⟩ rfl ?_
      refine opSkip rfl ⟨_, rfl, .inl rfl⟩ rfl ?_
      refine opSkip rfl ⟨_, rfl, .inl rfl⟩ rfl ?_
      refine opSkip rfl ⟨_, rfl, .inl rfl⟩ rfl ?_
      refine opSkip rfl ⟨_, rfl, .inl rfl⟩ rfl ?_
      refine opSkip rfl ⟨_, rfl, .inl rfl⟩ rfl ?_
      refine op0 (sp_pickT rfl rfl rfl) rfl trivial rfl rfl ?_
      refine TL.nil ?_
      refine TC.condT rfl ?_
      refine TC.seq ?_
      refine TC.region ?_
      refine op1 1 rfl (sp_loadBA rfl isBlk rfl vt236 rfl rfl) rfl trivial rfl rfl ?_
      refine stoB 1 (cells' := [.val (.int .i64 0), .val (.int .i64 0), .val (.int .i64 0), .val (.slice none 0 0), .val (.slice none 0 0)]) rfl rfl trivial rfl rfl rfl rfl vt236 rfl rfl rfl ?_
      refine op0 (sp_assign rfl rfl) rfl trivial rfl rfl ?_
      refine TL.nil ?_
      refine nilCellC 1 6 107 5 2 (List.map en_api_DialFace []) [.val (.int .i64 0), .val (.int .i64 0), .val (.int .i64 0), .ref 6, .val (.slice none 0 0)] rfl rfl rfl ?_
      refine nilCellC 2 7 238 6 2 (List.map en_dial_face []) [.val (.int .i64 0), .val (.int .i64 0), .val (.int .i64 0), .ref 6, .ref 7] rfl rfl rfl ?_
      refine TC.freeze 1 rfl ?_
      cases h
      exact retJ [(0, 6), (1, 7)] (.cells rfl (mem_at 3 rfl) isBlk vt236 rfl rfl (.tmp rfl .nil)) rfl ⟨mem_at 1 rfl, mem_at 0 rfl, trivial⟩ rfl rfl
    · refine (boolLit 19 rfl h4).2 ?_
      refine op1 2 rfl (sp_fieldAddrB rfl isBlk rfl ft111_1 vt34 (by decide)) rfl ⟨_, rfl, rfl⟩ rfl rfl ?_
      refine op1 2 rfl (sp_loadBA rfl isBlk rfl vt34 rfl rfl) rfl ⟨_, rfl, rfl⟩ rfl rfl ?_
      obtain ⟨r6, h5, h⟩ := bind_inv h
      refine op0 (sp_call (avs := [.agg [.val (.int .i64 w2), .val (.int .i64 w3)], .val (.int .i64 (-3600)), .val (.int .i64 3600)]) (need := []) (v := .val (.bool r6)) (news := []) rfl rfl rfl Try.call271 (atJ [] [] (fc_dial_isSpan h5) rfl rfl) (.inl (roAll rfl))) rfl ⟨_, rfl, rfl⟩ rfl rfl ?_
      refine op0 (sp_not rfl rfl) rfl ⟨_, rfl, rfl⟩ rfl rfl ?_
      refine op0 (sp_pickF rfl rfl rfl) rfl trivial rfl rfl ?_
      refine op0 (sp_move rfl rfl) rfl trivial rfl rfl ?_
      rcases cond_cases h with ⟨h6, h⟩ | ⟨h6, h⟩
      · refine (boolLit 25 rfl h6).2 ?_
        refine opSkip rfl ⟨_, rfl, .inl rfl⟩ rfl ?_
        refine opSkip rfl ⟨_, rfl, .inl rfl⟩ rfl ?_
        refine opSkip rfl ⟨_, rfl, .inl rfl⟩ rfl ?_
        refine opSkip rfl ⟨_, rfl, .inl rfl⟩ rfl ?_
        refine opSkip rfl ⟨_, rfl, .inl rfl⟩ rfl ?_
        refine opSkip rfl ⟨_, rfl, .inl rfl⟩ rfl ?_
        refine op0 (sp_pickT rfl rfl rfl) rfl trivial rfl rfl ?_
        refine TL.nil ?_
        refine TC.condT rfl ?_
        refine TC.seq ?_
        refine TC.region ?_
        refine op1 1 rfl (sp_loadBA rfl isBlk rfl vt236 rfl rfl) rfl trivial rfl rfl ?_
        refine stoB 1 (cells' := [.val (.int .i64 0), .val (.int .i64 0), .val (.int .i64 0), .val (.slice none 0 0), .val (.slice none 0 0)]) rfl rfl trivial rfl rfl rfl rfl vt236 rfl rfl rfl ?_
        refine op0 (sp_assign rfl rfl) rfl trivial rfl rfl ?_
        refine TL.nil ?_
        refine nilCellC 1 8 107 5 2 (List.map en_api_DialFace []) [.val (.int .i64 0), .val (.int .i64 0), .val (.int .i64 0), .ref 8, .val (.slice none 0 0)] rfl rfl rfl ?_
        refine nilCellC 2 9 238 6 2 (List.map en_dial_face []) [.val (.int .i64 0), .val (.int .i64 0), .val (.int .i64 0), .ref 8, .ref 9] rfl rfl rfl ?_
        refine TC.freeze 1 rfl ?_
        cases h
        exact retJ [(0, 8), (1, 9)] (.cells rfl (mem_at 3 rfl) isBlk vt236 rfl rfl (.tmp rfl .nil)) rfl ⟨mem_at 1 rfl, mem_at 0 rfl, trivial⟩ rfl rfl
      · refine (boolLit 25 rfl h6).2 ?_
        refine op1 2 rfl (sp_fieldAddrB rfl isBlk rfl ft111_2 vt109 (by decide)) rfl ⟨_, rfl, rfl⟩ rfl rfl ?_
        refine op1 2 rfl (sp_loadB rfl isBlk rfl vt109 rfl) rfl ⟨_, rfl, rfl⟩ rfl rfl ?_
        refine op1 3 rfl (sp_lenM (N := w4.length) (len_map _ _) rfl rfl isRo Try.underlying109) rfl ⟨_, rfl, rfl⟩ rfl rfl ?_
        refine op0 (sp_buildSlice (qs := [.val (.int .i64 (w4.length : Int))]) (need := []) (els := List.map en_int ([(w4.length : Int)] : List Int)) 10 rfl sl50 (by decide) (by decide) rfl rfl rfl (.v (.nil)) (map_len fun _ => rfl) rfl rfl rfl) rfl ⟨_, rfl, rfl⟩ rfl rfl ?_
        obtain ⟨r7, h7, h⟩ := bind_inv h
        refine op1 0 rfl (sp_call (avs := [.val (.int .i64 1), .val (.int .i64 8), .ref 10]) (need := [.row 10 3 1 (List.map en_int ([(w4.length : Int)] : List Int))]) (v := .val (.bool r7)) (news := []) rfl rfl rfl Try.call186 (atJ [(0, 10)] [] (fc_dial_within h7) rfl rfl) (.inr (fun x hx => nomatch hx))) rfl ⟨_, rfl, rfl⟩ rfl rfl ?_
        refine op0 (sp_not rfl rfl) rfl ⟨_, rfl, rfl⟩ rfl rfl ?_
        refine op0 (sp_pickF rfl rfl rfl) rfl trivial rfl rfl ?_
        refine TL.nil ?_
        refine TC.cond (b := (!r7)) rfl (fun h8 => ?_) (fun h8 => ?_)
        · have h := cond_t h h8
          refine TC.seq ?_
          refine TC.region ?_
          refine op1 2 rfl (sp_loadBA rfl isBlk rfl vt236 rfl rfl) rfl trivial rfl rfl ?_
          refine stoB 2 (cells' := [.val (.int .i64 0), .val (.int .i64 0), .val (.int .i64 0), .val (.slice none 0 0), .val (.slice none 0 0)]) rfl rfl trivial rfl rfl rfl rfl vt236 rfl rfl rfl ?_
          refine op0 (sp_assign rfl rfl) rfl trivial rfl rfl ?_
          refine TL.nil ?_
          refine nilCellC 2 11 107 5 2 (List.map en_api_DialFace []) [.val (.int .i64 0), .val (.int .i64 0), .val (.int .i64 0), .ref 11, .val (.slice none 0 0)] rfl rfl rfl ?_
          refine nilCellC 3 12 238 6 2 (List.map en_dial_face []) [.val (.int .i64 0), .val (.int .i64 0), .val (.int .i64 0), .ref 11, .ref 12] rfl rfl rfl ?_
          refine TC.freeze 1 rfl ?_
          cases h
          exact retJ [(0, 11), (1, 12)] (.cells rfl (mem_at 4 rfl) isBlk vt236 rfl rfl (.tmp rfl .nil)) rfl ⟨mem_at 1 rfl, mem_at 0 rfl, trivial⟩ rfl rfl
        · have h := cond_f h h8
          refine subJ [] (ok_dial_newWorks_j0 h) ?_ ?_ ?_
          · exact ⟨rfl, rfl, trivial⟩
          · exact ⟨mem_at 3 rfl, mem_at 2 rfl, mem_at 4 rfl, trivial⟩
          · rfl
/- dial_isWind -/
def ev_dial_isWind (n : Nat) (s1 : Int) (s2 : Int) : Option Bool :=
  (ev_dial_isSpan n s1 s2 (-10000) 10000).bind fun r3 => some r3
set_option maxRecDepth 100000 in
set_option maxHeartbeats 2000000 in
theorem fc_dial_isWind {n : Nat} {s1 : Int} {s2 : Int} {r : Bool} (h : ev_dial_isWind n s1 s2 = some r) : FC Try.prog 187 [.agg [.val (.int .i64 s1), .val (.int .i64 s2)]] [] (.val (.bool r)) [] := by
  refine introJ (nz := 5) Try.func187 rfl rfl rfl (fun w0 R0 env0 => ?_)
  rw [ev_dial_isWind] at h
  refine TC.seq ?_
  refine TC.region ?_
  refine op0 (sp_box 0 rfl rfl rfl rfl rfl) rfl trivial rfl rfl ?_
  refine op0 (sp_assign rfl rfl) rfl trivial rfl rfl ?_
  refine TL.nil ?_
  refine TC.seq ?_
  refine TC.region ?_
  refine op1 0 rfl (sp_loadBA rfl isBlk rfl vt34 rfl rfl) rfl trivial rfl rfl ?_
  obtain ⟨r3, h1, h⟩ := bind_inv h
  refine op0 (sp_call (avs := [.agg [.val (.int .i64 s1), .val (.int .i64 s2)], .val (.int .i64 (-10000)), .val (.int .i64 10000)]) (need := []) (v := .val (.bool r3)) (news := []) rfl rfl rfl Try.call271 (atJ [] [] (fc_dial_isSpan h1) rfl rfl) (.inl (roAll rfl))) rfl trivial rfl rfl ?_
  refine op0 (sp_assign rfl rfl) rfl trivial rfl rfl ?_
  refine TL.nil ?_
  cases h
  exact retJ [] (.tmp rfl .nil) rfl trivial rfl rfl
/- dial_newLook -/
def ev_dial_newLook (n : Nat) (w1 : Int) (w2 : Int) (w3 : Int) (w4 : List (Int × Int × (List (Int × Int × Int)) × Int × Int)) (nn5 : Int) (at_6 : Int) (wind7 : Int) (wind8 : Int) : Option (Int × Int × Int × (List (Int × Int × (List (Int × Int × Int)) × Int × Int)) × (List (Int × Int × (List (Int × Int × Int)) × Int × Int × Int)) × Int × Int × (List (Int × Int × Int)) × Int × Int × Int × Int × Int × Int × Int) :=
  (ev_dial_newWorks n w1 w2 w3 w4).bind fun r9 => cond (r9.2.2.2.2.2 != 0) (some (0, 0, 0, ([] : List (Int × Int × (List (Int × Int × Int)) × Int × Int)), ([] : List (Int × Int × (List (Int × Int × Int)) × Int × Int × Int)), 0, 0, ([] : List (Int × Int × Int)), 0, 0, 0, 0, 0, 0, r9.2.2.2.2.2)) (chk (in64 ((r9.2.2.2.2.1.length : Int) - 1)) <| (ev_dial_within n 0 ((r9.2.2.2.2.1.length : Int) - 1) ([nn5] : List Int)).bind fun r10 => cond (!r10) (some (0, 0, 0, ([] : List (Int × Int × (List (Int × Int × Int)) × Int × Int)), ([] : List (Int × Int × (List (Int × Int × Int)) × Int × Int × Int)), 0, 0, ([] : List (Int × Int × Int)), 0, 0, 0, 0, 0, 0, 7)) ((ev_dial_within n 0 3155760000 ([at_6] : List Int)).bind fun r11 => cond (!r11) (some (0, 0, 0, ([] : List (Int × Int × (List (Int × Int × Int)) × Int × Int)), ([] : List (Int × Int × (List (Int × Int × Int)) × Int × Int × Int)), 0, 0, ([] : List (Int × Int × Int)), 0, 0, 0, 0, 0, 0, 3)) ((ev_dial_isWind n wind7 wind8).bind fun r12 => cond (!r12) (some (0, 0, 0, ([] : List (Int × Int × (List (Int × Int × Int)) × Int × Int)), ([] : List (Int × Int × (List (Int × Int × Int)) × Int × Int × Int)), 0, 0, ([] : List (Int × Int × Int)), 0, 0, 0, 0, 0, 0, 2)) (idx r9.2.2.2.2.1 nn5 fun x13 => some (r9.1, r9.2.1, r9.2.2.1, r9.2.2.2.1, r9.2.2.2.2.1, x13.1, x13.2.1, x13.2.2.1, x13.2.2.2.1, x13.2.2.2.2.1, x13.2.2.2.2.2, at_6, wind7, wind8, 0)))))
set_option maxRecDepth 100000 in
set_option maxHeartbeats 2000000 in
theorem fc_dial_newLook {n : Nat} {w1 : Int} {w2 : Int} {w3 : Int} {w4 : List (Int × Int × (List (Int × Int × Int)) × Int × Int)} {nn5 : Int} {at_6 : Int} {wind7 : Int} {wind8 : Int} {r : Int × Int × Int × (List (Int × Int × (List (Int × Int × Int)) × Int × Int)) × (List (Int × Int × (List (Int × Int × Int)) × Int × Int × Int)) × Int × Int × (List (Int × Int × Int)) × Int × Int × Int × Int × Int × Int × Int} (h : ev_dial_newLook n w1 w2 w3 w4 nn5 at_6 wind7 wind8 = some r) : FC Try.prog 94 [.agg [.val (.int .i64 w1), .val (.int .i64 w2), .val (.int .i64 w3), .ref 0], .val (.int .i64 nn5), .val (.int .i64 at_6), .agg [.val (.int .i64 wind7), .val (.int .i64 wind8)]] [.ro 0 5 (List.map en_api_DialFace w4)] (.tup [.agg [.val (.int .i64 r.1), .val (.int .i64 r.2.1), .val (.int .i64 r.2.2.1), .ref 0, .ref 1, .val (.int .i64 r.2.2.2.2.2.1), .val (.int .i64 r.2.2.2.2.2.2.1), .ref 2, .val (.int .i64 r.2.2.2.2.2.2.2.2.1), .val (.int .i64 r.2.2.2.2.2.2.2.2.2.1), .val (.int .i64 r.2.2.2.2.2.2.2.2.2.2.1), .val (.int .i64 r.2.2.2.2.2.2.2.2.2.2.2.1), .val (.int .i64 r.2.2.2.2.2.2.2.2.2.2.2.2.1), .val (.int .i64 r.2.2.2.2.2.2.2.2.2.2.2.2.2.1)], .val (.int .i64 r.2.2.2.2.2.2.2.2.2.2.2.2.2.2)]) [.ro 0 5 (List.map en_api_DialFace r.2.2.2.1), .row 1 238 6 (List.map en_dial_face r.2.2.2.2.1), .ro 2 3 (List.map en_api_DialLink r.2.2.2.2.2.2.2.1)] := by
  refine introJ (nz := 51) Try.func94 rfl rfl rfl (fun w0 R0 env0 => ?_)
  rw [ev_dial_newLook] at h
  refine TC.seq ?_
  refine TC.region ?_
  refine op0 (sp_box 1 rfl rfl rfl rfl rfl) rfl trivial rfl rfl ?_
  refine op0 (sp_box 2 rfl rfl rfl rfl rfl) rfl trivial rfl rfl ?_
  refine op0 (sp_alloc 3 rfl Try.zeroValue240 rfl) rfl trivial rfl rfl ?_
  refine op0 (sp_assign rfl rfl) rfl trivial rfl rfl ?_
  refine TL.nil ?_
  refine TC.seq ?_
  refine TC.region ?_
  refine op1 2 rfl (sp_loadBA rfl isBlk rfl vt111 rfl rfl) rfl trivial rfl rfl ?_
  obtain ⟨r9, h1, h⟩ := bind_inv h
  refine op1 3 rfl (sp_call (avs := [.agg [.val (.int .i64 w1), .val (.int .i64 w2), .val (.int .i64 w3), .ref 0]]) (need := [.ro 0 5 (List.map en_api_DialFace w4)]) (v := .tup [.agg [.val (.int .i64 r9.1), .val (.int .i64 r9.2.1), .val (.int .i64 r9.2.2.1), .ref 4, .ref 5], .val (.int .i64 r9.2.2.2.2.2)]) (news := [.ro 4 5 (List.map en_api_DialFace r9.2.2.2.1), .row 5 238 6 (List.map en_dial_face r9.2.2.2.2.1)]) rfl rfl rfl Try.call185 (atJ [] [(0, 4), (1, 5)] (fc_dial_newWorks h1) rfl rfl) (.inl (roAll rfl))) rfl trivial rfl rfl ?_
  refine op0 (sp_move rfl rfl) rfl trivial rfl rfl ?_
  refine op0 (sp_extract rfl rfl rfl) rfl trivial rfl rfl ?_
  refine op0 (sp_extract rfl rfl rfl) rfl trivial rfl rfl ?_
  refine op0 (sp_alloc 6 rfl Try.zeroValue236 rfl) rfl trivial rfl rfl ?_
  refine stoB 0 (cells' := [.val (.int .i64 r9.1), .val (.int .i64 r9.2.1), .val (.int .i64 r9.2.2.1), .ref 4, .ref 5]) rfl rfl trivial rfl rfl rfl rfl vt236 rfl rfl rfl ?_
  refine op0 (sp_assign rfl rfl) rfl trivial rfl rfl ?_
  refine TL.nil ?_
  refine TC.seq ?_
  refine TC.block ?_
  refine TC.seq ?_
  refine TC.region ?_
  refine op0 (sp_move rfl rfl) rfl trivial rfl rfl ?_
  refine op0 (sp_neq rfl rfl rfl) rfl trivial rfl rfl ?_
  refine op0 (sp_assign rfl rfl) rfl trivial rfl rfl ?_
  refine TL.nil ?_
  refine TC.cond (b := (r9.2.2.2.2.2 != 0)) rfl (fun h2 => ?_) (fun h2 => ?_)
  · have h := cond_t h h2
    refine TC.seq ?_
    refine TC.region ?_
    refine op1 3 rfl (sp_loadBA rfl isBlk rfl vt240 rfl rfl) rfl trivial rfl rfl ?_
    refine op0 (sp_move rfl rfl) rfl trivial rfl rfl ?_
    refine stoB 3 (cells' := [.val (.int .i64 0), .val (.int .i64 0), .val (.int .i64 0), .val (.slice none 0 0), .val (.slice none 0 0), .val (.int .i64 0), .val (.int .i64 0), .val (.slice none 0 0), .val (.int .i64 0), .val (.int .i64 0), .val (.int .i64 0), .val (.int .i64 0), .val (.int .i64 0), .val (.int .i64 0)]) rfl rfl trivial rfl rfl rfl rfl vt240 rfl rfl rfl ?_
    refine op0 (sp_assign rfl rfl) rfl trivial rfl rfl ?_
    refine TL.nil ?_
    refine nilCellC 3 7 107 5 3 (List.map en_api_DialFace []) [.val (.int .i64 0), .val (.int .i64 0), .val (.int .i64 0), .ref 7, .val (.slice none 0 0), .val (.int .i64 0), .val (.int .i64 0), .val (.slice none 0 0), .val (.int .i64 0), .val (.int .i64 0), .val (.int .i64 0), .val (.int .i64 0), .val (.int .i64 0), .val (.int .i64 0)] rfl rfl rfl ?_
    refine nilCellC 4 8 238 6 3 (List.map en_dial_face []) [.val (.int .i64 0), .val (.int .i64 0), .val (.int .i64 0), .ref 7, .ref 8, .val (.int .i64 0), .val (.int .i64 0), .val (.slice none 0 0), .val (.int .i64 0), .val (.int .i64 0), .val (.int .i64 0), .val (.int .i64 0), .val (.int .i64 0), .val (.int .i64 0)] rfl rfl rfl ?_
    refine nilCellC 5 9 104 3 3 (List.map en_api_DialLink []) [.val (.int .i64 0), .val (.int .i64 0), .val (.int .i64 0), .ref 7, .ref 8, .val (.int .i64 0), .val (.int .i64 0), .ref 9, .val (.int .i64 0), .val (.int .i64 0), .val (.int .i64 0), .val (.int .i64 0), .val (.int .i64 0), .val (.int .i64 0)] rfl rfl rfl ?_
    refine TC.freeze 2 rfl ?_
    refine TC.freeze 0 rfl ?_
    cases h
    exact retJ [(0, 7), (1, 8), (2, 9)] (.cells rfl (mem_at 6 rfl) isBlk vt240 rfl rfl (.tmp rfl .nil)) rfl ⟨mem_at 2 rfl, mem_at 1 rfl, mem_at 0 rfl, trivial⟩ rfl rfl
  · have h := cond_f h h2
    refine TC.seq ?_
    refine TC.region ?_
    refine op1 0 rfl (sp_fieldAddrB rfl isBlk rfl ft236_1 vt234 (by decide)) rfl trivial rfl rfl ?_
    refine op1 0 rfl (sp_loadB rfl isBlk rfl vt234 rfl) rfl trivial rfl rfl ?_
    refine op1 2 rfl (sp_lenM (N := r9.2.2.2.2.1.length) (len_map _ _) rfl rfl isOwn Try.underlying234) rfl trivial rfl rfl ?_
    obtain ⟨h3, h⟩ := chk_inv h
    refine op0 (sp_sub rfl rfl rfl h3) rfl trivial rfl rfl ?_
    refine op0 (sp_move rfl rfl) rfl trivial rfl rfl ?_
    refine op0 (sp_buildSlice (qs := [.val (.int .i64 nn5)]) (need := []) (els := List.map en_int ([nn5] : List Int)) 10 rfl sl50 (by decide) (by decide) rfl rfl rfl (.v (.nil)) (map_len fun _ => rfl) rfl rfl rfl) rfl trivial rfl rfl ?_
    obtain ⟨r10, h4, h⟩ := bind_inv h
    refine op1 0 rfl (sp_call (avs := [.val (.int .i64 0), .val (.int .i64 ((r9.2.2.2.2.1.length : Int) - 1)), .ref 10]) (need := [.row 10 3 1 (List.map en_int ([nn5] : List Int))]) (v := .val (.bool r10)) (news := []) rfl rfl rfl Try.call186 (atJ [(0, 10)] [] (fc_dial_within h4) rfl rfl) (.inr (fun x hx => nomatch hx))) rfl trivial rfl rfl ?_
    refine op0 (sp_not rfl rfl) rfl trivial rfl rfl ?_
    refine op0 (sp_assign rfl rfl) rfl trivial rfl rfl ?_
    refine TL.nil ?_
    refine TC.cond (b := (!r10)) rfl (fun h5 => ?_) (fun h5 => ?_)
    · have h := cond_t h h5
      refine TC.seq ?_
      refine TC.region ?_
      refine op1 4 rfl (sp_loadBA rfl isBlk rfl vt240 rfl rfl) rfl trivial rfl rfl ?_
      refine stoB 4 (cells' := [.val (.int .i64 0), .val (.int .i64 0), .val (.int .i64 0), .val (.slice none 0 0), .val (.slice none 0 0), .val (.int .i64 0), .val (.int .i64 0), .val (.slice none 0 0), .val (.int .i64 0), .val (.int .i64 0), .val (.int .i64 0), .val (.int .i64 0), .val (.int .i64 0), .val (.int .i64 0)]) rfl rfl trivial rfl rfl rfl rfl vt240 rfl rfl rfl ?_
      refine op0 (sp_assign rfl rfl) rfl trivial rfl rfl ?_
      refine TL.nil ?_
      refine nilCellC 4 11 107 5 3 (List.map en_api_DialFace []) [.val (.int .i64 0), .val (.int .i64 0), .val (.int .i64 0), .ref 11, .val (.slice none 0 0), .val (.int .i64 0), .val (.int .i64 0), .val (.slice none 0 0), .val (.int .i64 0), .val (.int .i64 0), .val (.int .i64 0), .val (.int .i64 0), .val (.int .i64 0), .val (.int .i64 0)] rfl rfl rfl ?_
      refine nilCellC 5 12 238 6 3 (List.map en_dial_face []) [.val (.int .i64 0), .val (.int .i64 0), .val (.int .i64 0), .ref 11, .ref 12, .val (.int .i64 0), .val (.int .i64 0), .val (.slice none 0 0), .val (.int .i64 0), .val (.int .i64 0), .val (.int .i64 0), .val (.int .i64 0), .val (.int .i64 0), .val (.int .i64 0)] rfl rfl rfl ?_
      refine nilCellC 6 13 104 3 3 (List.map en_api_DialLink []) [.val (.int .i64 0), .val (.int .i64 0), .val (.int .i64 0), .ref 11, .ref 12, .val (.int .i64 0), .val (.int .i64 0), .ref 13, .val (.int .i64 0), .val (.int .i64 0), .val (.int .i64 0), .val (.int .i64 0), .val (.int .i64 0), .val (.int .i64 0)] rfl rfl rfl ?_
      refine TC.freeze 2 rfl ?_
      refine TC.freeze 0 rfl ?_
      cases h
      exact retJ [(0, 11), (1, 12), (2, 13)] (.cells rfl (mem_at 7 rfl) isBlk vt240 rfl rfl (.tmp rfl .nil)) rfl ⟨mem_at 2 rfl, mem_at 1 rfl, mem_at 0 rfl, trivial⟩ rfl rfl
    · have h := cond_f h h5
      refine TC.seq ?_
      refine TC.region ?_
      refine op0 (sp_move rfl rfl) rfl trivial rfl rfl ?_
      refine op0 (sp_buildSlice (qs := [.val (.int .i64 at_6)]) (need := []) (els := List.map en_int ([at_6] : List Int)) 14 rfl sl50 (by decide) (by decide) rfl rfl rfl (.v (.nil)) (map_len fun _ => rfl) rfl rfl rfl) rfl trivial rfl rfl ?_
      obtain ⟨r11, h6, h⟩ := bind_inv h
      refine op1 0 rfl (sp_call (avs := [.val (.int .i64 0), .val (.int .i64 3155760000), .ref 14]) (need := [.row 14 3 1 (List.map en_int ([at_6] : List Int))]) (v := .val (.bool r11)) (news := []) rfl rfl rfl Try.call186 (atJ [(0, 14)] [] (fc_dial_within h6) rfl rfl) (.inr (fun x hx => nomatch hx))) rfl trivial rfl rfl ?_
      refine op0 (sp_not rfl rfl) rfl trivial rfl rfl ?_
      refine op0 (sp_assign rfl rfl) rfl trivial rfl rfl ?_
      refine TL.nil ?_
      refine TC.cond (b := (!r11)) rfl (fun h7 => ?_) (fun h7 => ?_)
      · have h := cond_t h h7
        refine TC.seq ?_
        refine TC.region ?_
        refine op1 5 rfl (sp_loadBA rfl isBlk rfl vt240 rfl rfl) rfl trivial rfl rfl ?_
        refine stoB 5 (cells' := [.val (.int .i64 0), .val (.int .i64 0), .val (.int .i64 0), .val (.slice none 0 0), .val (.slice none 0 0), .val (.int .i64 0), .val (.int .i64 0), .val (.slice none 0 0), .val (.int .i64 0), .val (.int .i64 0), .val (.int .i64 0), .val (.int .i64 0), .val (.int .i64 0), .val (.int .i64 0)]) rfl rfl trivial rfl rfl rfl rfl vt240 rfl rfl rfl ?_
        refine op0 (sp_assign rfl rfl) rfl trivial rfl rfl ?_
        refine TL.nil ?_
        refine nilCellC 5 15 107 5 3 (List.map en_api_DialFace []) [.val (.int .i64 0), .val (.int .i64 0), .val (.int .i64 0), .ref 15, .val (.slice none 0 0), .val (.int .i64 0), .val (.int .i64 0), .val (.slice none 0 0), .val (.int .i64 0), .val (.int .i64 0), .val (.int .i64 0), .val (.int .i64 0), .val (.int .i64 0), .val (.int .i64 0)] rfl rfl rfl ?_
        refine nilCellC 6 16 238 6 3 (List.map en_dial_face []) [.val (.int .i64 0), .val (.int .i64 0), .val (.int .i64 0), .ref 15, .ref 16, .val (.int .i64 0), .val (.int .i64 0), .val (.slice none 0 0), .val (.int .i64 0), .val (.int .i64 0), .val (.int .i64 0), .val (.int .i64 0), .val (.int .i64 0), .val (.int .i64 0)] rfl rfl rfl ?_
        refine nilCellC 7 17 104 3 3 (List.map en_api_DialLink []) [.val (.int .i64 0), .val (.int .i64 0), .val (.int .i64 0), .ref 15, .ref 16, .val (.int .i64 0), .val (.int .i64 0), .ref 17, .val (.int .i64 0), .val (.int .i64 0), .val (.int .i64 0), .val (.int .i64 0), .val (.int .i64 0), .val (.int .i64 0)] rfl rfl rfl ?_
        refine TC.freeze 2 rfl ?_
        refine TC.freeze 0 rfl ?_
        cases h
        exact retJ [(0, 15), (1, 16), (2, 17)] (.cells rfl (mem_at 8 rfl) isBlk vt240 rfl rfl (.tmp rfl .nil)) rfl ⟨mem_at 2 rfl, mem_at 1 rfl, mem_at 0 rfl, trivial⟩ rfl rfl
      · have h := cond_f h h7
        refine TC.seq ?_
        refine TC.region ?_
        refine op1 6 rfl (sp_loadBA rfl isBlk rfl vt34 rfl rfl) rfl trivial rfl rfl ?_
        obtain ⟨r12, h8, h⟩ := bind_inv h
        refine op0 (sp_call (avs := [.agg [.val (.int .i64 wind7), .val (.int .i64 wind8)]]) (need := []) (v := .val (.bool r12)) (news := []) rfl rfl rfl Try.call187 (atJ [] [] (fc_dial_isWind h8) rfl rfl) (.inl (roAll rfl))) rfl trivial rfl rfl ?_
        refine op0 (sp_not rfl rfl) rfl trivial rfl rfl ?_
        refine op0 (sp_assign rfl rfl) rfl trivial rfl rfl ?_
        refine TL.nil ?_
        refine TC.cond (b := (!r12)) rfl (fun h9 => ?_) (fun h9 => ?_)
        · have h := cond_t h h9
          refine TC.seq ?_
          refine TC.region ?_
          refine op1 5 rfl (sp_loadBA rfl isBlk rfl vt240 rfl rfl) rfl trivial rfl rfl ?_
          refine stoB 5 (cells' := [.val (.int .i64 0), .val (.int .i64 0), .val (.int .i64 0), .val (.slice none 0 0), .val (.slice none 0 0), .val (.int .i64 0), .val (.int .i64 0), .val (.slice none 0 0), .val (.int .i64 0), .val (.int .i64 0), .val (.int .i64 0), .val (.int .i64 0), .val (.int .i64 0), .val (.int .i64 0)]) rfl rfl trivial rfl rfl rfl rfl vt240 rfl rfl rfl ?_
          refine op0 (sp_assign rfl rfl) rfl trivial rfl rfl ?_
          refine TL.nil ?_
          refine nilCellC 5 18 107 5 3 (List.map en_api_DialFace []) [.val (.int .i64 0), .val (.int .i64 0), .val (.int .i64 0), .ref 18, .val (.slice none 0 0), .val (.int .i64 0), .val (.int .i64 0), .val (.slice none 0 0), .val (.int .i64 0), .val (.int .i64 0), .val (.int .i64 0), .val (.int .i64 0), .val (.int .i64 0), .val (.int .i64 0)] rfl rfl rfl ?_
          refine nilCellC 6 19 238 6 3 (List.map en_dial_face []) [.val (.int .i64 0), .val (.int .i64 0), .val (.int .i64 0), .ref 18, .ref 19, .val (.int .i64 0), .val (.int .i64 0), .val (.slice none 0 0), .val (.int .i64 0), .val (.int .i64 0), .val (.int .i64 0), .val (.int .i64 0), .val (.int .i64 0), .val (.int .i64 0)] rfl rfl rfl ?_
          refine nilCellC 7 20 104 3 3 (List.map en_api_DialLink []) [.val (.int .i64 0), .val (.int .i64 0), .val (.int .i64 0), .ref 18, .ref 19, .val (.int .i64 0), .val (.int .i64 0), .ref 20, .val (.int .i64 0), .val (.int .i64 0), .val (.int .i64 0), .val (.int .i64 0), .val (.int .i64 0), .val (.int .i64 0)] rfl rfl rfl ?_
          refine TC.freeze 2 rfl ?_
          refine TC.freeze 0 rfl ?_
          cases h
          exact retJ [(0, 18), (1, 19), (2, 20)] (.cells rfl (mem_at 8 rfl) isBlk vt240 rfl rfl (.tmp rfl .nil)) rfl ⟨mem_at 2 rfl, mem_at 1 rfl, mem_at 0 rfl, trivial⟩ rfl rfl
        · have h := cond_f h h9
          refine TC.skip ?_
          refine TC.inBlock ?_
          refine TC.seq ?_
          obtain ⟨x13, h10, h11, h⟩ := idx_inv h
          refine drawJ 8 [⟨.agg [.val (.int .i64 r9.1), .val (.int .i64 r9.2.1), .val (.int .i64 r9.2.2.1), .ref 4, .ref 5], [], [.blk 6 [.val (.int .i64 r9.1), .val (.int .i64 r9.2.1), .val (.int .i64 r9.2.2.1), .ref 4, .ref 5] 236], []⟩, ⟨.ptr 6 4, [], [.blk 6 [.val (.int .i64 r9.1), .val (.int .i64 r9.2.1), .val (.int .i64 r9.2.2.1), .ref 4, .ref 5] 236], []⟩, ⟨.ref 5, [], [.blk 6 [.val (.int .i64 r9.1), .val (.int .i64 r9.2.1), .val (.int .i64 r9.2.2.1), .ref 4, .ref 5] 236], []⟩, ⟨.val (.int .i64 nn5), [], [], []⟩, ⟨.cell 5 ((nn5 : Int).toNat * 6), [], [.row 5 238 6 (List.map en_dial_face r9.2.2.2.2.1)], []⟩, ⟨.agg [.val (.int .i64 x13.1), .val (.int .i64 x13.2.1), .ref 21, .val (.int .i64 x13.2.2.2.1), .val (.int .i64 x13.2.2.2.2.1), .val (.int .i64 x13.2.2.2.2.2)], [.ro 21 3 (List.map en_api_DialLink x13.2.2.1)], [.row 5 238 6 (List.map en_dial_face r9.2.2.2.2.1)], []⟩, ⟨.val (.int .i64 at_6), [], [], []⟩, ⟨.agg [.val (.int .i64 wind7), .val (.int .i64 wind8)], [], [.blk 2 [.val (.int .i64 wind7), .val (.int .i64 wind8)] 34], []⟩] rfl ?_ rfl ?_ rfl ?_ ?_
          · kernel_rfl
          · kernel_rfl
          · exact DAll.op' (sp_loadBA rfl isBlk rfl vt236 rfl rfl) trivial rfl (From.ok (ps := [(none, 2)]) ⟨⟨rfl, rfl⟩, trivial⟩) (DAll.op' (sp_fieldAddrB rfl isBlk rfl ft236_1 vt234 (by decide)) trivial rfl (From.ok (ps := [(none, 2)]) ⟨⟨rfl, rfl⟩, trivial⟩) (DAll.op' (sp_loadB rfl isBlk rfl vt234 rfl) trivial rfl (From.ok (ps := [(none, 2)]) ⟨⟨rfl, rfl⟩, trivial⟩) (DAll.op' (sp_move rfl rfl) trivial rfl (From.ok (ps := []) trivial) (DAll.op' (sp_indexS rfl rfl rfl isOwn sl234 h10 (map_get _ h11)) trivial rfl (From.ok (ps := [(none, 4)]) ⟨⟨rfl, rfl⟩, trivial⟩) (DAll.op' (sp_loadRA (i := (nn5 : Int).toNat) (j := 0) (as_ := [.val (.int .i64 x13.1), .val (.int .i64 x13.2.1), .ref 21, .val (.int .i64 x13.2.2.2.1), .val (.int .i64 x13.2.2.2.2.1), .val (.int .i64 x13.2.2.2.2.2)]) (ns := [.ro 21 3 (List.map en_api_DialLink x13.2.2.1)]) rfl rfl isOwn vt238 rfl (map_get _ h11) rfl rfl (by decide) (.v (.v (.s (.v (.v (.v (.nil))))))) (nodup_of_B rfl)) trivial rfl (From.ok (ps := [(none, 4)]) ⟨⟨rfl, rfl⟩, trivial⟩) (DAll.op' (sp_move rfl rfl) trivial rfl (From.ok (ps := []) trivial) (DAll.op' (sp_loadBA rfl isBlk rfl vt34 rfl rfl) trivial rfl (From.ok (ps := [(none, 6)]) ⟨⟨rfl, rfl⟩, trivial⟩) (.nil))))))))
          refine op0 (sp_build (qs := [(0, .agg [.val (.int .i64 r9.1), .val (.int .i64 r9.2.1), .val (.int .i64 r9.2.2.1), .ref 4, .ref 5]), (1, .agg [.val (.int .i64 x13.1), .val (.int .i64 x13.2.1), .ref 21, .val (.int .i64 x13.2.2.2.1), .val (.int .i64 x13.2.2.2.2.1), .val (.int .i64 x13.2.2.2.2.2)]), (2, .val (.int .i64 at_6)), (3, .agg [.val (.int .i64 wind7), .val (.int .i64 wind8)])]) rfl bt240 rfl rfl rfl rfl) rfl trivial rfl rfl ?_
          refine stoB 6 (cells' := [.val (.int .i64 r9.1), .val (.int .i64 r9.2.1), .val (.int .i64 r9.2.2.1), .ref 4, .ref 5, .val (.int .i64 x13.1), .val (.int .i64 x13.2.1), .ref 21, .val (.int .i64 x13.2.2.2.1), .val (.int .i64 x13.2.2.2.2.1), .val (.int .i64 x13.2.2.2.2.2), .val (.int .i64 at_6), .val (.int .i64 wind7), .val (.int .i64 wind8)]) rfl rfl trivial rfl rfl rfl rfl vt240 rfl rfl rfl ?_
          refine op0 (sp_assign rfl rfl) rfl trivial rfl rfl ?_
          refine TL.nil ?_
          cases h
          exact retJ [(0, 4), (1, 5), (2, 21)] (.cells rfl (mem_at 6 rfl) isBlk vt240 rfl rfl (.tmp rfl .nil)) rfl ⟨mem_at 4 rfl, mem_at 5 rfl, mem_at 0 rfl, trivial⟩ rfl rfl
/- dial_works_driven -/
def ev_dial_works_driven (n : Nat) (w1 : Int) (w2 : Int) (w3 : Int) (w4 : List (Int × Int × (List (Int × Int × Int)) × Int × Int)) (w5 : List (Int × Int × (List (Int × Int × Int)) × Int × Int × Int)) (times6 : Int) (times7 : Int) : Option (Int × Int × Int × Int × Int × (List (Int × Int × (List (Int × Int × Int)) × Int × Int)) × (List (Int × Int × (List (Int × Int × Int)) × Int × Int × Int))) :=
  some (times6, times7, w1, w2, w3, w4, w5)
set_option maxRecDepth 100000 in
set_option maxHeartbeats 2000000 in
theorem fc_dial_works_driven {n : Nat} {w1 : Int} {w2 : Int} {w3 : Int} {w4 : List (Int × Int × (List (Int × Int × Int)) × Int × Int)} {w5 : List (Int × Int × (List (Int × Int × Int)) × Int × Int × Int)} {times6 : Int} {times7 : Int} {r : Int × Int × Int × Int × Int × (List (Int × Int × (List (Int × Int × Int)) × Int × Int)) × (List (Int × Int × (List (Int × Int × Int)) × Int × Int × Int))} (h : ev_dial_works_driven n w1 w2 w3 w4 w5 times6 times7 = some r) : FC Try.prog 188 [.agg [.val (.int .i64 w1), .val (.int .i64 w2), .val (.int .i64 w3), .ref 0, .ref 1], .agg [.val (.int .i64 times6), .val (.int .i64 times7)]] [.ro 0 5 (List.map en_api_DialFace w4), .ro 1 6 (List.map en_dial_face w5)] (.fn 274 [] [.ptr 0 0, .ptr 1 0]) [.blk 0 [.val (.int .i64 r.1), .val (.int .i64 r.2.1)] 34, .blk 1 [.val (.int .i64 r.2.2.1), .val (.int .i64 r.2.2.2.1), .val (.int .i64 r.2.2.2.2.1), .ref 2, .ref 3] 236, .ro 2 5 (List.map en_api_DialFace r.2.2.2.2.2.1), .ro 3 6 (List.map en_dial_face r.2.2.2.2.2.2)] := by
  refine introJ (nz := 6) Try.func188 rfl rfl rfl (fun w0 R0 env0 => ?_)
  rw [ev_dial_works_driven] at h
  refine TC.seq ?_
  refine TC.region ?_
  refine op0 (sp_box 2 rfl rfl rfl rfl rfl) rfl trivial rfl rfl ?_
  refine op0 (sp_box 3 rfl rfl rfl rfl rfl) rfl trivial rfl rfl ?_
  refine op0 (sp_assign rfl rfl) rfl trivial rfl rfl ?_
  refine TL.nil ?_
  refine TC.seq ?_
  refine TC.region ?_
  refine op0 (sp_makeFunc (fi := []) (ca := [.tmp 3, .tmp 2]) (fa := []) (cb := [.ptr 3 0, .ptr 2 0]) rfl rfl rfl) rfl trivial rfl rfl ?_
  refine op0 (sp_assign rfl rfl) rfl trivial rfl rfl ?_
  refine TL.nil ?_
  cases h
  exact retJ [(0, 3), (1, 2), (2, 0), (3, 1)] (.tmp rfl .nil) rfl ⟨mem_at 0 rfl, mem_at 1 rfl, mem_at 2 rfl, mem_at 3 rfl, trivial⟩ rfl rfl
/- dial_modulo -/
def ev_dial_modulo (n : Nat) (nn1 : Int) (by_2 : Int) : Option Int :=
  chk (by_2 != 0) <| chk (in64 ((Int.tmod nn1 by_2) + by_2)) <| chk (by_2 != 0) <| some (Int.tmod ((Int.tmod nn1 by_2) + by_2) by_2)
set_option maxRecDepth 100000 in
set_option maxHeartbeats 2000000 in
theorem fc_dial_modulo {n : Nat} {nn1 : Int} {by_2 : Int} {r : Int} (h : ev_dial_modulo n nn1 by_2 = some r) : FC Try.prog 96 [.val (.int .i64 nn1), .val (.int .i64 by_2)] [] (.val (.int .i64 r)) [] := by
  refine introJ (nz := 12) Try.func96 rfl rfl rfl (fun w0 R0 env0 => ?_)
  rw [ev_dial_modulo] at h
  refine TC.seq ?_
  refine TC.region ?_
  refine op0 (sp_assign rfl rfl) rfl trivial rfl rfl ?_
  refine TL.nil ?_
  refine TC.seq ?_
  refine TC.region ?_
  refine op0 (sp_move rfl rfl) rfl trivial rfl rfl ?_
  refine op0 (sp_move rfl rfl) rfl trivial rfl rfl ?_
  obtain ⟨h1, h⟩ := chk_inv h
  refine op0 (sp_rem rfl rfl rfl h1) rfl trivial rfl rfl ?_
  refine op0 (sp_move rfl rfl) rfl trivial rfl rfl ?_
  obtain ⟨h2, h⟩ := chk_inv h
  refine op0 (sp_add rfl rfl rfl h2) rfl trivial rfl rfl ?_
  refine op0 (sp_move rfl rfl) rfl trivial rfl rfl ?_
  obtain ⟨h3, h⟩ := chk_inv h
  refine op0 (sp_rem rfl rfl rfl h3) rfl trivial rfl rfl ?_
  refine op0 (sp_assign rfl rfl) rfl trivial rfl rfl ?_
  refine TL.nil ?_
  cases h
  exact retJ [] (.tmp rfl .nil) rfl trivial rfl rfl
/- dial_down -/
def ev_dial_down (n : Nat) (nn1 : Int) (by_2 : Int) : Option Int :=
  (ev_dial_modulo n nn1 by_2).bind fun r3 => chk (in64 (nn1 - r3)) <| some (nn1 - r3)
set_option maxRecDepth 100000 in
set_option maxHeartbeats 2000000 in
theorem fc_dial_down {n : Nat} {nn1 : Int} {by_2 : Int} {r : Int} (h : ev_dial_down n nn1 by_2 = some r) : FC Try.prog 275 [.val (.int .i64 nn1), .val (.int .i64 by_2)] [] (.val (.int .i64 r)) [] := by
  refine introJ (nz := 10) Try.func275 rfl rfl rfl (fun w0 R0 env0 => ?_)
  rw [ev_dial_down] at h
  refine TC.seq ?_
  refine TC.region ?_
  refine op0 (sp_assign rfl rfl) rfl trivial rfl rfl ?_
  refine TL.nil ?_
  refine TC.seq ?_
  refine TC.region ?_
  refine op0 (sp_move rfl rfl) rfl trivial rfl rfl ?_
  refine op0 (sp_move rfl rfl) rfl trivial rfl rfl ?_
  refine op0 (sp_move rfl rfl) rfl trivial rfl rfl ?_
  obtain ⟨r3, h1, h⟩ := bind_inv h
  refine op0 (sp_call (avs := [.val (.int .i64 nn1), .val (.int .i64 by_2)]) (need := []) (v := .val (.int .i64 r3)) (news := []) rfl rfl rfl Try.call96 (atJ [] [] (fc_dial_modulo h1) rfl rfl) (.inl (roAll rfl))) rfl trivial rfl rfl ?_
  obtain ⟨h2, h⟩ := chk_inv h
  refine op0 (sp_sub rfl rfl rfl h2) rfl trivial rfl rfl ?_
  refine op0 (sp_assign rfl rfl) rfl trivial rfl rfl ?_
  refine TL.nil ?_
  cases h
  exact retJ [] (.tmp rfl .nil) rfl trivial rfl rfl
/- dial_works_driven_1 -/
def ev_dial_works_driven_1_l0 {σ1 : Type} (yb1 : Int → σ1 → Option (Bool × σ1)) (n : Nat) (c3 : Int) (c6 : Int) (c4 : Int) : Nat → Int → σ1 → Option σ1
  | 0, _, _ => none
  | m + 1, i10, y11 => chk (in64 (c3 + c6)) <| cond (decide (i10 ≤ (c3 + c6))) ((yb1 i10 y11).bind fun r12 => cond (!r12.1) (some r12.2) (chk (in64 (i10 + c4)) <| ev_dial_works_driven_1_l0 yb1 n c3 c6 c4 m (i10 + c4) r12.2)) (some y11)
set_option maxRecDepth 100000 in
set_option maxHeartbeats 2000000 in
theorem ok_dial_works_driven_1_l0 {σ1 : Type} {yb1 : Int → σ1 → Option (Bool × σ1)} {I1 : σ1 → Inv} (hI1 : Yields Try.prog ye_funcint_bool yn_funcint_bool yb1 I1) {n : Nat} {w0 : World} {M0 R0 : Nat → Prop} {env0 : Env} {df : List Deferred} {r : σ1} {c2 : Int} {c3 : Int} {c4 : Int} {c5 : Int} {c6 : Int} {c7 : List (Int × Int × (List (Int × Int × Int)) × Int × Int)} {c8 : List (Int × Int × (List (Int × Int × Int)) × Int × Int × Int)} : ∀ (m : Nat) (i10 : Int) (y11 : σ1), ev_dial_works_driven_1_l0 yb1 n c3 c6 c4 m i10 y11 = some r → TC Try.prog ⟨w0, M0, R0⟩ ⟨34, none, df⟩ (bodyPostM Fence.wide 0 Try.prog Try.f274 (PostT ⟨w0, M0, R0⟩ env0 [0] (.tup []) [.inv 0 (I1 r)])) [.code (sub (bodyOf Try.f274) [1, 0, 0, 0, 0]), .code (sub (bodyOf Try.f274) [1, 0, 0, 0, 1]), .code (sub (bodyOf Try.f274) [1, 0, 0, 1]), .inLoop (sub (bodyOf Try.f274) [1, 0, 0]), .inBlock 0] ([(0, .ref 0), (1, .ptr 1 0), (2, .ptr 2 0), (4, .val (.int .i64 i10))]) ([.rob 1 [.val (.int .i64 c2), .val (.int .i64 c3)] 34, .rob 2 [.val (.int .i64 c4), .val (.int .i64 c5), .val (.int .i64 c6), .ref 3, .ref 4] 236, .ro 3 5 (List.map en_api_DialFace c7), .ro 4 6 (List.map en_dial_face c8), .inv 5 (marksI df), .pin 6 0 (env0 0), .inv 0 (I1 y11)]) := by
  intro m
  induction m with
  | zero => intro i10 y11 h; exact none_no h
  | succ m ih =>
    intro i10 y11 h
    rw [ev_dial_works_driven_1_l0] at h
    refine TC.region ?_
    refine op0 (sp_move rfl rfl) rfl trivial rfl rfl ?_
    refine op1 0 rfl (sp_fieldAddrB rfl isRob rfl ft34_1 vt3 (by decide)) rfl trivial rfl rfl ?_
    refine op1 0 rfl (sp_loadB rfl isRob rfl vt3 rfl) rfl trivial rfl rfl ?_
    refine op1 1 rfl (sp_fieldAddrB rfl isRob rfl ft236_0 vt111 (by decide)) rfl trivial rfl rfl ?_
    refine op1 1 rfl (sp_fieldAddrB rfl isRob rfl ft111_1 vt34 (by decide)) rfl trivial rfl rfl ?_
    refine op1 1 rfl (sp_fieldAddrB rfl isRob rfl ft34_1 vt3 (by decide)) rfl trivial rfl rfl ?_
    refine op1 1 rfl (sp_loadB rfl isRob rfl vt3 rfl) rfl trivial rfl rfl ?_
    obtain ⟨h3, h⟩ := chk_inv h
    refine op0 (sp_add rfl rfl rfl h3) rfl trivial rfl rfl ?_
    refine op0 (sp_leq rfl rfl rfl) rfl trivial rfl rfl ?_
    refine TL.nil ?_
    refine TC.cond (b := (decide (i10 ≤ (c3 + c6)))) rfl (fun h4 => ?_) (fun h4 => ?_)
    · have h := cond_t h h4
      refine TC.skip ?_
      refine TC.seq ?_
      refine TC.block ?_
      refine TC.seq ?_
      refine TC.region ?_
      refine op0 (sp_move rfl rfl) rfl trivial rfl rfl ?_
      refine op0 (sp_move rfl rfl) rfl trivial rfl rfl ?_
      obtain ⟨r12, h5, h⟩ := bind_inv h
      refine opT (take := [.inv 0 (I1 y11)]) (need := []) (V' := [.inv 0 (I1 r12.2), .rob 1 [.val (.int .i64 c2), .val (.int .i64 c3)] 34, .rob 2 [.val (.int .i64 c4), .val (.int .i64 c5), .val (.int .i64 c6), .ref 3, .ref 4] 236, .ro 3 5 (List.map en_api_DialFace c7), .ro 4 6 (List.map en_dial_face c8), .inv 5 (marksI df), .pin 6 0 (env0 0)]) [6] [] (ts_yield hI1 (x := i10) (b := r12.1) (avs := [.val (.int .i64 i10)]) (need := []) [] h5 rfl rfl rfl rfl rfl rfl) trivial rfl ⟨rfl, trivial⟩ trivial rfl rfl ?_
      refine op0 (sp_not rfl rfl) rfl trivial rfl rfl ?_
      refine TL.nil ?_
      refine TC.cond (b := (!r12.1)) rfl (fun h6 => ?_) (fun h6 => ?_)
      · have h := cond_t h h6
        cases h
        exact retM [] 5 5 [0] rfl (.nil) rfl ⟨mem_at 0 rfl, trivial⟩ rfl rfl ⟨⟨_, mem_at 5 rfl⟩, trivial⟩ rfl
      · have h := cond_f h h6
        refine TC.skip ?_
        refine TC.inBlock ?_
        refine TC.region ?_
        refine op0 (sp_move rfl rfl) rfl trivial rfl rfl ?_
        refine op1 2 rfl (sp_fieldAddrB rfl isRob rfl ft236_0 vt111 (by decide)) rfl trivial rfl rfl ?_
        refine op1 2 rfl (sp_fieldAddrB rfl isRob rfl ft111_0 vt3 (by decide)) rfl trivial rfl rfl ?_
        refine op1 2 rfl (sp_loadB rfl isRob rfl vt3 rfl) rfl trivial rfl rfl ?_
        obtain ⟨h7, h⟩ := chk_inv h
        refine op0 (sp_add rfl rfl rfl h7) rfl trivial rfl rfl ?_
        refine op0 (sp_assign rfl rfl) rfl trivial rfl rfl ?_
        refine TL.nil ?_
        refine TC.inLoop ?_
        refine TC.seq ?_
        refine TC.seq ?_
        refine subJ [] (ih _ _ h) ?_ ?_ ?_
        · exact ⟨rfl, rfl, rfl, rfl, trivial⟩
        · exact ⟨mem_at 1 rfl, mem_at 2 rfl, mem_at 3 rfl, mem_at 4 rfl, mem_at 5 rfl, mem_at 6 rfl, mem_at 0 rfl, trivial⟩
        · rfl
    · have h := cond_f h h4
      refine TC.exit rfl ?_
      cases h
      exact endM [] 4 5 [0] rfl (.nil) rfl ⟨mem_at 5 rfl, trivial⟩ rfl rfl ⟨⟨_, mem_at 4 rfl⟩, trivial⟩ rfl
def ev_dial_works_driven_1 {σ1 : Type} (yb1 : Int → σ1 → Option (Bool × σ1)) (n : Nat) (y1 : σ1) (c2 : Int) (c3 : Int) (c4 : Int) (c5 : Int) (c6 : Int) (c7 : List (Int × Int × (List (Int × Int × Int)) × Int × Int)) (c8 : List (Int × Int × (List (Int × Int × Int)) × Int × Int × Int)) : Option σ1 :=
  chk (in64 (c2 + c5)) <| (ev_dial_down n (c2 + c5) c4).bind fun r9 => ev_dial_works_driven_1_l0 yb1 n c3 c6 c4 n r9 y1
set_option maxRecDepth 100000 in
set_option maxHeartbeats 2000000 in
theorem ft_dial_works_driven_1 {σ1 : Type} {yb1 : Int → σ1 → Option (Bool × σ1)} {I1 : σ1 → Inv} (hI1 : Yields Try.prog ye_funcint_bool yn_funcint_bool yb1 I1) {n : Nat} {y1 : σ1} {c2 : Int} {c3 : Int} {c4 : Int} {c5 : Int} {c6 : Int} {c7 : List (Int × Int × (List (Int × Int × Int)) × Int × Int)} {c8 : List (Int × Int × (List (Int × Int × Int)) × Int × Int × Int)} {r : σ1} (h : ev_dial_works_driven_1 yb1 n y1 c2 c3 c4 c5 c6 c7 c8 = some r) : FT Try.prog 274 [.ref 0, .ptr 1 0, .ptr 2 0] [.inv 0 (I1 y1)] [.rob 1 [.val (.int .i64 c2), .val (.int .i64 c3)] 34, .rob 2 [.val (.int .i64 c4), .val (.int .i64 c5), .val (.int .i64 c6), .ref 3, .ref 4] 236, .ro 3 5 (List.map en_api_DialFace c7), .ro 4 6 (List.map en_dial_face c8)] (.tup []) [.inv 0 (I1 r)] := by
  refine introM (nz := 34) 5 [(6, 0)] Try.func274 rfl rfl rfl rfl (fun w0 M0 R0 env0 => ?_)
  rw [ev_dial_works_driven_1] at h
  refine TC.seq ?_
  refine TC.region ?_
  refine op1 3 rfl (sp_fieldAddrB rfl isRob rfl ft34_0 vt3 (by decide)) rfl trivial rfl rfl ?_
  refine op1 3 rfl (sp_loadB rfl isRob rfl vt3 rfl) rfl trivial rfl rfl ?_
  refine op1 4 rfl (sp_fieldAddrB rfl isRob rfl ft236_0 vt111 (by decide)) rfl trivial rfl rfl ?_
  refine op1 4 rfl (sp_fieldAddrB rfl isRob rfl ft111_1 vt34 (by decide)) rfl trivial rfl rfl ?_
  refine op1 4 rfl (sp_fieldAddrB rfl isRob rfl ft34_0 vt3 (by decide)) rfl trivial rfl rfl ?_
  refine op1 4 rfl (sp_loadB rfl isRob rfl vt3 rfl) rfl trivial rfl rfl ?_
  obtain ⟨h1, h⟩ := chk_inv h
  refine op0 (sp_add rfl rfl rfl h1) rfl trivial rfl rfl ?_
  refine op1 4 rfl (sp_fieldAddrB rfl isRob rfl ft236_0 vt111 (by decide)) rfl trivial rfl rfl ?_
  refine op1 4 rfl (sp_fieldAddrB rfl isRob rfl ft111_0 vt3 (by decide)) rfl trivial rfl rfl ?_
  refine op1 4 rfl (sp_loadB rfl isRob rfl vt3 rfl) rfl trivial rfl rfl ?_
  obtain ⟨r9, h2, h⟩ := bind_inv h
  refine op0 (sp_call (avs := [.val (.int .i64 (c2 + c5)), .val (.int .i64 c4)]) (need := []) (v := .val (.int .i64 r9)) (news := []) rfl rfl rfl Try.call275 (atJ [] [] (fc_dial_down h2) rfl rfl) (.inl (roAll rfl))) rfl trivial rfl rfl ?_
  refine op0 (sp_assign rfl rfl) rfl trivial rfl rfl ?_
  refine TL.nil ?_
  refine TC.block ?_
  refine TC.loop ?_
  refine TC.seq ?_
  refine TC.seq ?_
  refine subJ [] (ok_dial_works_driven_1_l0 hI1 (c2 := c2) (c5 := c5) (c7 := c7) (c8 := c8) _ _ _ h) ?_ ?_ ?_
  · exact ⟨rfl, rfl, rfl, rfl, trivial⟩
  · exact ⟨mem_at 3 rfl, mem_at 4 rfl, mem_at 5 rfl, mem_at 6 rfl, mem_at 0 rfl, mem_at 1 rfl, mem_at 2 rfl, trivial⟩
  · rfl
/- dial_face_force -/
def ev_dial_face_force (n : Nat) (f1 : Int) (f2 : Int) (f3 : List (Int × Int × Int)) (f4 : Int) (f5 : Int) (f6 : Int) (driven7 : Int) : Option Int :=
  (ev_dial_modulo n driven7 3600).bind fun r8 => cond (decide (r8 < 1800)) (some f4) (chk (in64 (0 - f4)) <| some (0 - f4))
set_option maxRecDepth 100000 in
set_option maxHeartbeats 2000000 in
theorem fc_dial_face_force {n : Nat} {f1 : Int} {f2 : Int} {f3 : List (Int × Int × Int)} {f4 : Int} {f5 : Int} {f6 : Int} {driven7 : Int} {r : Int} (h : ev_dial_face_force n f1 f2 f3 f4 f5 f6 driven7 = some r) : FC Try.prog 330 [.agg [.val (.int .i64 f1), .val (.int .i64 f2), .ref 0, .val (.int .i64 f4), .val (.int .i64 f5), .val (.int .i64 f6)], .val (.int .i64 driven7)] [.ro 0 3 (List.map en_api_DialLink f3)] (.val (.int .i64 r)) [] := by
  refine introJ (nz := 15) Try.func330 rfl rfl rfl (fun w0 R0 env0 => ?_)
  rw [ev_dial_face_force] at h
  refine TC.seq ?_
  refine TC.region ?_
  refine op0 (sp_box 1 rfl rfl rfl rfl rfl) rfl trivial rfl rfl ?_
  refine op0 (sp_assign rfl rfl) rfl trivial rfl rfl ?_
  refine TL.nil ?_
  refine TC.seq ?_
  refine TC.seq ?_
  refine TC.region ?_
  refine op0 (sp_move rfl rfl) rfl trivial rfl rfl ?_
  obtain ⟨r8, h1, h⟩ := bind_inv h
  refine op0 (sp_call (avs := [.val (.int .i64 driven7), .val (.int .i64 3600)]) (need := []) (v := .val (.int .i64 r8)) (news := []) rfl rfl rfl Try.call96 (atJ [] [] (fc_dial_modulo h1) rfl rfl) (.inl (roAll rfl))) rfl trivial rfl rfl ?_
  refine op0 (sp_lss rfl rfl rfl) rfl trivial rfl rfl ?_
  refine TL.nil ?_
  refine TC.cond (b := (decide (r8 < 1800))) rfl (fun h2 => ?_) (fun h2 => ?_)
  · have h := cond_t h h2
    refine TC.seq ?_
    refine TC.region ?_
    refine op1 0 rfl (sp_fieldAddrB rfl isBlk rfl ft238_0 vt107 (by decide)) rfl trivial rfl rfl ?_
    refine op1 0 rfl (sp_fieldAddrB rfl isBlk rfl ft107_2 vt3 (by decide)) rfl trivial rfl rfl ?_
    refine op1 0 rfl (sp_loadB rfl isBlk rfl vt3 rfl) rfl trivial rfl rfl ?_
    refine op0 (sp_assign rfl rfl) rfl trivial rfl rfl ?_
    refine TL.nil ?_
    cases h
    exact retJ [] (.tmp rfl .nil) rfl trivial rfl rfl
  · have h := cond_f h h2
    refine TC.skip ?_
    refine TC.seq ?_
    refine TC.region ?_
    refine op1 0 rfl (sp_fieldAddrB rfl isBlk rfl ft238_0 vt107 (by decide)) rfl trivial rfl rfl ?_
    refine op1 0 rfl (sp_fieldAddrB rfl isBlk rfl ft107_2 vt3 (by decide)) rfl trivial rfl rfl ?_
    refine op1 0 rfl (sp_loadB rfl isBlk rfl vt3 rfl) rfl trivial rfl rfl ?_
    obtain ⟨h3, h⟩ := chk_inv h
    refine op0 (sp_neg rfl rfl h3) rfl trivial rfl rfl ?_
    refine op0 (sp_assign rfl rfl) rfl trivial rfl rfl ?_
    refine TL.nil ?_
    cases h
    exact retJ [] (.tmp rfl .nil) rfl trivial rfl rfl
/- dial_face_lags -/
def ev_dial_face_lags (n : Nat) (f1 : Int) (f2 : Int) (f3 : List (Int × Int × Int)) (f4 : Int) (f5 : Int) (f6 : Int) (driven7 : Int) (wind8 : Int) (wind9 : Int) : Option (Int × Int) :=
  (ev_dial_face_force n f1 f2 f3 f4 f5 f6 driven7).bind fun r10 => chk (in64 (wind8 + r10)) <| (ev_dial_face_force n f1 f2 f3 f4 f5 f6 driven7).bind fun r11 => chk (in64 (wind9 + r11)) <| cond (decide (f5 < (wind8 + r10))) (some (0, 0)) (chk (in64 (0 - f5)) <| cond (decide ((wind9 + r11) < (0 - f5))) (some (f6, f6)) (some (0, f6)))
set_option maxRecDepth 100000 in
set_option maxHeartbeats 2000000 in
theorem fc_dial_face_lags {n : Nat} {f1 : Int} {f2 : Int} {f3 : List (Int × Int × Int)} {f4 : Int} {f5 : Int} {f6 : Int} {driven7 : Int} {wind8 : Int} {wind9 : Int} {r : Int × Int} (h : ev_dial_face_lags n f1 f2 f3 f4 f5 f6 driven7 wind8 wind9 = some r) : FC Try.prog 276 [.agg [.val (.int .i64 f1), .val (.int .i64 f2), .ref 0, .val (.int .i64 f4), .val (.int .i64 f5), .val (.int .i64 f6)], .val (.int .i64 driven7), .agg [.val (.int .i64 wind8), .val (.int .i64 wind9)]] [.ro 0 3 (List.map en_api_DialLink f3)] (.agg [.val (.int .i64 r.1), .val (.int .i64 r.2)]) [] := by
  refine introJ (nz := 43) Try.func276 rfl rfl rfl (fun w0 R0 env0 => ?_)
  rw [ev_dial_face_lags] at h
  refine TC.seq ?_
  refine TC.region ?_
  refine op0 (sp_box 1 rfl rfl rfl rfl rfl) rfl trivial rfl rfl ?_
  refine op0 (sp_box 2 rfl rfl rfl rfl rfl) rfl trivial rfl rfl ?_
  refine op0 (sp_alloc 3 rfl Try.zeroValue34 rfl) rfl trivial rfl rfl ?_
  refine TL.nil ?_
  refine TC.seq ?_
  obtain ⟨r10, h1, h⟩ := bind_inv h
  obtain ⟨h2, h⟩ := chk_inv h
  obtain ⟨r11, h3, h⟩ := bind_inv h
  obtain ⟨h4, h⟩ := chk_inv h
  refine drawJ 13 [⟨.ptr 2 0, [], [.blk 2 [.val (.int .i64 wind8), .val (.int .i64 wind9)] 34], []⟩, ⟨.val (.int .i64 wind8), [], [.blk 2 [.val (.int .i64 wind8), .val (.int .i64 wind9)] 34], []⟩, ⟨.agg [.val (.int .i64 f1), .val (.int .i64 f2), .ref 0, .val (.int .i64 f4), .val (.int .i64 f5), .val (.int .i64 f6)], [], [.blk 1 [.val (.int .i64 f1), .val (.int .i64 f2), .ref 0, .val (.int .i64 f4), .val (.int .i64 f5), .val (.int .i64 f6)] 238], []⟩, ⟨.val (.int .i64 driven7), [], [], []⟩, ⟨.val (.int .i64 r10), [], [.ro 0 3 (List.map en_api_DialLink f3)], []⟩, ⟨.val (.int .i64 (wind8 + r10)), [], [], []⟩, ⟨.ptr 2 1, [], [.blk 2 [.val (.int .i64 wind8), .val (.int .i64 wind9)] 34], []⟩, ⟨.val (.int .i64 wind9), [], [.blk 2 [.val (.int .i64 wind8), .val (.int .i64 wind9)] 34], []⟩, ⟨.agg [.val (.int .i64 f1), .val (.int .i64 f2), .ref 0, .val (.int .i64 f4), .val (.int .i64 f5), .val (.int .i64 f6)], [], [.blk 1 [.val (.int .i64 f1), .val (.int .i64 f2), .ref 0, .val (.int .i64 f4), .val (.int .i64 f5), .val (.int .i64 f6)] 238], []⟩, ⟨.val (.int .i64 driven7), [], [], []⟩, ⟨.val (.int .i64 r11), [], [.ro 0 3 (List.map en_api_DialLink f3)], []⟩, ⟨.val (.int .i64 (wind9 + r11)), [], [], []⟩, ⟨.val (.int .i64 (wind8 + r10)), [], [], []⟩] rfl ?_ rfl ?_ rfl ?_ ?_
  · kernel_rfl
  · kernel_rfl
  · exact DAll.op' (sp_fieldAddrB rfl isBlk rfl ft34_0 vt3 (by decide)) trivial rfl (From.ok (ps := [(none, 1)]) ⟨⟨rfl, rfl⟩, trivial⟩) (DAll.op' (sp_loadB rfl isBlk rfl vt3 rfl) trivial rfl (From.ok (ps := [(none, 1)]) ⟨⟨rfl, rfl⟩, trivial⟩) (DAll.op' (sp_loadBA rfl isBlk rfl vt238 rfl rfl) trivial rfl (From.ok (ps := [(none, 2)]) ⟨⟨rfl, rfl⟩, trivial⟩) (DAll.op' (sp_move rfl rfl) trivial rfl (From.ok (ps := []) trivial) (DAll.op' (sp_call (avs := [.agg [.val (.int .i64 f1), .val (.int .i64 f2), .ref 0, .val (.int .i64 f4), .val (.int .i64 f5), .val (.int .i64 f6)], .val (.int .i64 driven7)]) (need := [.ro 0 3 (List.map en_api_DialLink f3)]) (v := .val (.int .i64 r10)) (news := []) rfl rfl rfl Try.call330 (atJ [] [] (fc_dial_face_force h1) rfl rfl) (.inl (roAll rfl))) trivial rfl (From.ok (ps := [(none, 3)]) ⟨⟨rfl, rfl⟩, trivial⟩) (DAll.op' (sp_add rfl rfl rfl h2) trivial rfl (From.ok (ps := []) trivial) (DAll.op' (sp_fieldAddrB rfl isBlk rfl ft34_1 vt3 (by decide)) trivial rfl (From.ok (ps := [(none, 1)]) ⟨⟨rfl, rfl⟩, trivial⟩) (DAll.op' (sp_loadB rfl isBlk rfl vt3 rfl) trivial rfl (From.ok (ps := [(none, 1)]) ⟨⟨rfl, rfl⟩, trivial⟩) (DAll.op' (sp_loadBA rfl isBlk rfl vt238 rfl rfl) trivial rfl (From.ok (ps := [(none, 2)]) ⟨⟨rfl, rfl⟩, trivial⟩) (DAll.op' (sp_move rfl rfl) trivial rfl (From.ok (ps := []) trivial) (DAll.op' (sp_call (avs := [.agg [.val (.int .i64 f1), .val (.int .i64 f2), .ref 0, .val (.int .i64 f4), .val (.int .i64 f5), .val (.int .i64 f6)], .val (.int .i64 driven7)]) (need := [.ro 0 3 (List.map en_api_DialLink f3)]) (v := .val (.int .i64 r11)) (news := []) rfl rfl rfl Try.call330 (atJ [] [] (fc_dial_face_force h3) rfl rfl) (.inl (roAll rfl))) trivial rfl (From.ok (ps := [(none, 3)]) ⟨⟨rfl, rfl⟩, trivial⟩) (DAll.op' (sp_add rfl rfl rfl h4) trivial rfl (From.ok (ps := []) trivial) (DAll.op' (sp_assign rfl rfl) trivial rfl (From.ok (ps := []) trivial) (.nil)))))))))))))
  refine op0 (sp_assign rfl rfl) rfl trivial rfl rfl ?_
  refine TL.nil ?_
  refine TC.seq ?_
  refine TC.region ?_
  refine op1 2 rfl (sp_fieldAddrB rfl isBlk rfl ft238_1 vt3 (by decide)) rfl trivial rfl rfl ?_
  refine op1 2 rfl (sp_loadB rfl isBlk rfl vt3 rfl) rfl trivial rfl rfl ?_
  refine op0 (sp_build (qs := [(1, .val (.int .i64 f6))]) rfl bt34 rfl rfl rfl rfl) rfl trivial rfl rfl ?_
  refine op0 (sp_alloc 4 rfl Try.zeroValue34 rfl) rfl trivial rfl rfl ?_
  refine stoB 0 (cells' := [.val (.int .i64 0), .val (.int .i64 f6)]) rfl rfl trivial rfl rfl rfl rfl vt34 rfl rfl rfl ?_
  refine TL.nil ?_
  refine TC.seq ?_
  refine TC.block ?_
  refine TC.seq ?_
  refine TC.region ?_
  refine op0 (sp_move rfl rfl) rfl trivial rfl rfl ?_
  refine op1 3 rfl (sp_fieldAddrB rfl isBlk rfl ft238_0 vt107 (by decide)) rfl trivial rfl rfl ?_
  refine op1 3 rfl (sp_fieldAddrB rfl isBlk rfl ft107_3 vt3 (by decide)) rfl trivial rfl rfl ?_
  refine op1 3 rfl (sp_loadB rfl isBlk rfl vt3 rfl) rfl trivial rfl rfl ?_
  refine op0 (sp_gtr rfl rfl rfl) rfl trivial rfl rfl ?_
  refine op0 (sp_assign rfl rfl) rfl trivial rfl rfl ?_
  refine TL.nil ?_
  refine TC.cond (b := (decide (f5 < (wind8 + r10)))) rfl (fun h5 => ?_) (fun h5 => ?_)
  · have h := cond_t h h5
    refine TC.region ?_
    refine op1 0 rfl (sp_fieldAddrB rfl isBlk rfl ft34_1 vt3 (by decide)) rfl trivial rfl rfl ?_
    refine stoB 0 (cells' := [.val (.int .i64 0), .val (.int .i64 0)]) rfl rfl trivial rfl rfl rfl rfl vt3 rfl rfl rfl ?_
    refine TL.nil ?_
    refine TC.inBlock ?_
    refine TC.seq ?_
    refine TC.region ?_
    refine op1 0 rfl (sp_loadBA rfl isBlk rfl vt34 rfl rfl) rfl trivial rfl rfl ?_
    refine stoB 1 (cells' := [.val (.int .i64 0), .val (.int .i64 0)]) rfl rfl trivial rfl rfl rfl rfl vt34 rfl rfl rfl ?_
    refine TL.nil ?_
    cases h
    exact retJ [] (.cells rfl (mem_at 1 rfl) isBlk vt34 rfl rfl (.nil)) rfl trivial rfl rfl
  · have h := cond_f h h5
    refine TC.seq ?_
    refine TC.region ?_
    refine op0 (sp_move rfl rfl) rfl trivial rfl rfl ?_
    refine op1 3 rfl (sp_fieldAddrB rfl isBlk rfl ft238_0 vt107 (by decide)) rfl trivial rfl rfl ?_
    refine op1 3 rfl (sp_fieldAddrB rfl isBlk rfl ft107_3 vt3 (by decide)) rfl trivial rfl rfl ?_
    refine op1 3 rfl (sp_loadB rfl isBlk rfl vt3 rfl) rfl trivial rfl rfl ?_
    obtain ⟨h6, h⟩ := chk_inv h
    refine op0 (sp_neg rfl rfl h6) rfl trivial rfl rfl ?_
    refine op0 (sp_lss rfl rfl rfl) rfl trivial rfl rfl ?_
    refine op0 (sp_assign rfl rfl) rfl trivial rfl rfl ?_
    refine TL.nil ?_
    refine TC.cond (b := (decide ((wind9 + r11) < (0 - f5)))) rfl (fun h7 => ?_) (fun h7 => ?_)
    · have h := cond_t h h7
      refine TC.region ?_
      refine op1 3 rfl (sp_fieldAddrB rfl isBlk rfl ft238_1 vt3 (by decide)) rfl trivial rfl rfl ?_
      refine op1 3 rfl (sp_loadB rfl isBlk rfl vt3 rfl) rfl trivial rfl rfl ?_
      refine op1 0 rfl (sp_fieldAddrB rfl isBlk rfl ft34_0 vt3 (by decide)) rfl trivial rfl rfl ?_
      refine stoB 0 (cells' := [.val (.int .i64 f6), .val (.int .i64 f6)]) rfl rfl trivial rfl rfl rfl rfl vt3 rfl rfl rfl ?_
      refine TL.nil ?_
      refine TC.inBlock ?_
      refine TC.seq ?_
      refine TC.region ?_
      refine op1 0 rfl (sp_loadBA rfl isBlk rfl vt34 rfl rfl) rfl trivial rfl rfl ?_
      refine stoB 1 (cells' := [.val (.int .i64 f6), .val (.int .i64 f6)]) rfl rfl trivial rfl rfl rfl rfl vt34 rfl rfl rfl ?_
      refine TL.nil ?_
      cases h
      exact retJ [] (.cells rfl (mem_at 1 rfl) isBlk vt34 rfl rfl (.nil)) rfl trivial rfl rfl
    · have h := cond_f h h7
      refine TC.skip ?_
      refine TC.inBlock ?_
      refine TC.seq ?_
      refine TC.region ?_
      refine op1 0 rfl (sp_loadBA rfl isBlk rfl vt34 rfl rfl) rfl trivial rfl rfl ?_
      refine stoB 1 (cells' := [.val (.int .i64 0), .val (.int .i64 f6)]) rfl rfl trivial rfl rfl rfl rfl vt34 rfl rfl rfl ?_
      refine TL.nil ?_
      cases h
      exact retJ [] (.cells rfl (mem_at 1 rfl) isBlk vt34 rfl rfl (.nil)) rfl trivial rfl rfl
/- dial_face_hands -/
def ev_dial_face_hands (n : Nat) (f1 : Int) (f2 : Int) (f3 : List (Int × Int × Int)) (f4 : Int) (f5 : Int) (f6 : Int) (driven7 : Int) (wind8 : Int) (wind9 : Int) : Option (Int × Int) :=
  (ev_dial_face_lags n f1 f2 f3 f4 f5 f6 driven7 wind8 wind9).bind fun r10 => chk (in64 (driven7 + f1)) <| chk (in64 ((driven7 + f1) - r10.2)) <| chk (in64 (driven7 + f2)) <| chk (in64 ((driven7 + f2) - r10.1)) <| some (((driven7 + f1) - r10.2), ((driven7 + f2) - r10.1))
set_option maxRecDepth 100000 in
set_option maxHeartbeats 2000000 in
theorem fc_dial_face_hands {n : Nat} {f1 : Int} {f2 : Int} {f3 : List (Int × Int × Int)} {f4 : Int} {f5 : Int} {f6 : Int} {driven7 : Int} {wind8 : Int} {wind9 : Int} {r : Int × Int} (h : ev_dial_face_hands n f1 f2 f3 f4 f5 f6 driven7 wind8 wind9 = some r) : FC Try.prog 189 [.agg [.val (.int .i64 f1), .val (.int .i64 f2), .ref 0, .val (.int .i64 f4), .val (.int .i64 f5), .val (.int .i64 f6)], .val (.int .i64 driven7), .agg [.val (.int .i64 wind8), .val (.int .i64 wind9)]] [.ro 0 3 (List.map en_api_DialLink f3)] (.agg [.val (.int .i64 r.1), .val (.int .i64 r.2)]) [] := by
  refine introJ (nz := 31) Try.func189 rfl rfl rfl (fun w0 R0 env0 => ?_)
  rw [ev_dial_face_hands] at h
  refine TC.seq ?_
  refine TC.region ?_
  refine op0 (sp_box 1 rfl rfl rfl rfl rfl) rfl trivial rfl rfl ?_
  refine op0 (sp_box 2 rfl rfl rfl rfl rfl) rfl trivial rfl rfl ?_
  refine op0 (sp_alloc 3 rfl Try.zeroValue34 rfl) rfl trivial rfl rfl ?_
  refine TL.nil ?_
  refine TC.seq ?_
  refine TC.region ?_
  refine op1 2 rfl (sp_loadBA rfl isBlk rfl vt238 rfl rfl) rfl trivial rfl rfl ?_
  refine op0 (sp_move rfl rfl) rfl trivial rfl rfl ?_
  refine op1 1 rfl (sp_loadBA rfl isBlk rfl vt34 rfl rfl) rfl trivial rfl rfl ?_
  obtain ⟨r10, h1, h⟩ := bind_inv h
  refine op1 3 rfl (sp_call (avs := [.agg [.val (.int .i64 f1), .val (.int .i64 f2), .ref 0, .val (.int .i64 f4), .val (.int .i64 f5), .val (.int .i64 f6)], .val (.int .i64 driven7), .agg [.val (.int .i64 wind8), .val (.int .i64 wind9)]]) (need := [.ro 0 3 (List.map en_api_DialLink f3)]) (v := .agg [.val (.int .i64 r10.1), .val (.int .i64 r10.2)]) (news := []) rfl rfl rfl Try.call276 (atJ [] [] (fc_dial_face_lags h1) rfl rfl) (.inl (roAll rfl))) rfl trivial rfl rfl ?_
  refine op0 (sp_alloc 4 rfl Try.zeroValue34 rfl) rfl trivial rfl rfl ?_
  refine stoB 0 (cells' := [.val (.int .i64 r10.1), .val (.int .i64 r10.2)]) rfl rfl trivial rfl rfl rfl rfl vt34 rfl rfl rfl ?_
  refine TL.nil ?_
  refine TC.seq ?_
  refine TC.region ?_
  refine op0 (sp_move rfl rfl) rfl trivial rfl rfl ?_
  refine op1 3 rfl (sp_fieldAddrB rfl isBlk rfl ft238_0 vt107 (by decide)) rfl trivial rfl rfl ?_
  refine op1 3 rfl (sp_fieldAddrB rfl isBlk rfl ft107_0 vt34 (by decide)) rfl trivial rfl rfl ?_
  refine op1 3 rfl (sp_fieldAddrB rfl isBlk rfl ft34_0 vt3 (by decide)) rfl trivial rfl rfl ?_
  refine op1 3 rfl (sp_loadB rfl isBlk rfl vt3 rfl) rfl trivial rfl rfl ?_
  obtain ⟨h2, h⟩ := chk_inv h
  refine op0 (sp_add rfl rfl rfl h2) rfl trivial rfl rfl ?_
  refine op1 0 rfl (sp_fieldAddrB rfl isBlk rfl ft34_1 vt3 (by decide)) rfl trivial rfl rfl ?_
  refine op1 0 rfl (sp_loadB rfl isBlk rfl vt3 rfl) rfl trivial rfl rfl ?_
  obtain ⟨h3, h⟩ := chk_inv h
  refine op0 (sp_sub rfl rfl rfl h3) rfl trivial rfl rfl ?_
  refine op0 (sp_move rfl rfl) rfl trivial rfl rfl ?_
  refine op1 3 rfl (sp_fieldAddrB rfl isBlk rfl ft238_0 vt107 (by decide)) rfl trivial rfl rfl ?_
  refine op1 3 rfl (sp_fieldAddrB rfl isBlk rfl ft107_0 vt34 (by decide)) rfl trivial rfl rfl ?_
  refine op1 3 rfl (sp_fieldAddrB rfl isBlk rfl ft34_1 vt3 (by decide)) rfl trivial rfl rfl ?_
  refine op1 3 rfl (sp_loadB rfl isBlk rfl vt3 rfl) rfl trivial rfl rfl ?_
  obtain ⟨h4, h⟩ := chk_inv h
  refine op0 (sp_add rfl rfl rfl h4) rfl trivial rfl rfl ?_
  refine op1 0 rfl (sp_fieldAddrB rfl isBlk rfl ft34_0 vt3 (by decide)) rfl trivial rfl rfl ?_
  refine op1 0 rfl (sp_loadB rfl isBlk rfl vt3 rfl) rfl trivial rfl rfl ?_
  obtain ⟨h5, h⟩ := chk_inv h
  refine op0 (sp_sub rfl rfl rfl h5) rfl trivial rfl rfl ?_
  refine op0 (sp_build (qs := [(0, .val (.int .i64 ((driven7 + f1) - r10.2))), (1, .val (.int .i64 ((driven7 + f2) - r10.1)))]) rfl bt34 rfl rfl rfl rfl) rfl trivial rfl rfl ?_
  refine stoB 1 (cells' := [.val (.int .i64 ((driven7 + f1) - r10.2)), .val (.int .i64 ((driven7 + f2) - r10.1))]) rfl rfl trivial rfl rfl rfl rfl vt34 rfl rfl rfl ?_
  refine TL.nil ?_
  cases h
  exact retJ [] (.cells rfl (mem_at 1 rfl) isBlk vt34 rfl rfl (.nil)) rfl trivial rfl rfl
/- dial_look_all -/
def ev_dial_look_all_r0 {σ1 : Type} (yb1 : (Int × Int) → σ1 → Option (Bool × σ1)) (n : Nat) (k6 : Int) (k7 : Int) (k8 : List (Int × Int × Int)) (k9 : Int) (k10 : Int) (k11 : Int) (k13 : Int) (k14 : Int) (x19 : Int) (y20 : σ1) : Option (Nat × σ1) :=
  (ev_dial_face_hands n k6 k7 k8 k9 k10 k11 x19 k13 k14).bind fun r21 => (yb1 (r21.1, r21.2) y20).bind fun r22 => cond (!r22.1) (some (1, r22.2)) (some (0, r22.2))
set_option maxRecDepth 100000 in
set_option maxHeartbeats 2000000 in
theorem ok_dial_look_all_r0 {σ1 : Type} {yb1 : (Int × Int) → σ1 → Option (Bool × σ1)} {I1 : σ1 → Inv} (hI1 : Yields Try.prog ye_funcapi_Span_bool yn_funcapi_Span_bool yb1 I1) {n : Nat} {env0 : Env} {u18 : Value} {u17 : Value} {k1 : Int} {k2 : Int} {k3 : Int} {k6 : Int} {k7 : Int} {k9 : Int} {k10 : Int} {k11 : Int} {k12 : Int} {k13 : Int} {k14 : Int} {k4 : List (Int × Int × (List (Int × Int × Int)) × Int × Int)} {k5 : List (Int × Int × (List (Int × Int × Int)) × Int × Int × Int)} {k8 : List (Int × Int × Int)} {x19 : Int} {y20 : σ1} {r : Nat × σ1} (h : ev_dial_look_all_r0 yb1 n k6 k7 k8 k9 k10 k11 k13 k14 x19 y20 = some r) (l0 : Nat) (rec : Loop) (hrd : rec.state = .ready) (w0 : World) (M0 R0 : Nat → Prop) : TC Try.prog ⟨w0, M0, R0⟩ ⟨23, some l0, []⟩ (RoundQ ⟨w0, M0, R0⟩ (.inv 15 (recI l0 (busyR rec)) :: [.pin 14 7 u18, .pin 13 6 u17, .blk 7 [.ref 3] 330, .blk 6 [.val (.int .i64 k1), .val (.int .i64 k2), .val (.int .i64 k3), .ref 0, .ref 1, .val (.int .i64 k6), .val (.int .i64 k7), .ref 2, .val (.int .i64 k9), .val (.int .i64 k10), .val (.int .i64 k11), .val (.int .i64 k12), .val (.int .i64 k13), .val (.int .i64 k14)] 240, .pin 5 3 (env0 3), .inv 3 (I1 r.2), .ro 0 5 (List.map en_api_DialFace k4), .ro 1 6 (List.map en_dial_face k5), .ro 2 3 (List.map en_api_DialLink k8)]) [.ret] r.1) [.code (sub (bodyOf Try.f95) [1, 1, 0, 0]), .beginRound, .code (sub (bodyOf Try.f95) [1, 1, 0, 1])] (pSlots [13] (ye_funcint_bool x19) [(2, .ptr 6 0), (3, .ptr 7 0)]) (.inv 15 (recI l0 rec) :: yn_funcint_bool x19 ++ (fun y20 : σ1 => [.pin 14 7 u18, .pin 13 6 u17, .blk 7 [.ref 3] 330, .blk 6 [.val (.int .i64 k1), .val (.int .i64 k2), .val (.int .i64 k3), .ref 0, .ref 1, .val (.int .i64 k6), .val (.int .i64 k7), .ref 2, .val (.int .i64 k9), .val (.int .i64 k10), .val (.int .i64 k11), .val (.int .i64 k12), .val (.int .i64 k13), .val (.int .i64 k14)] 240, .pin 5 3 (env0 3), .inv 3 (I1 y20), .ro 0 5 (List.map en_api_DialFace k4), .ro 1 6 (List.map en_dial_face k5), .ro 2 3 (List.map en_api_DialLink k8)]) y20) := by
  rw [ev_dial_look_all_r0] at h
  refine subJ (s' := [(2, .ptr 6 0), (3, .ptr 7 0), (13, .val (.int .i64 x19))]) (V' := [.inv 15 (recI l0 rec), .pin 14 7 u18, .pin 13 6 u17, .blk 7 [.ref 3] 330, .blk 6 [.val (.int .i64 k1), .val (.int .i64 k2), .val (.int .i64 k3), .ref 0, .ref 1, .val (.int .i64 k6), .val (.int .i64 k7), .ref 2, .val (.int .i64 k9), .val (.int .i64 k10), .val (.int .i64 k11), .val (.int .i64 k12), .val (.int .i64 k13), .val (.int .i64 k14)] 240, .pin 5 3 (env0 3), .inv 3 (I1 y20), .ro 0 5 (List.map en_api_DialFace k4), .ro 1 6 (List.map en_dial_face k5), .ro 2 3 (List.map en_api_DialLink k8)]) [] ?_ ⟨rfl, rfl, rfl, trivial⟩ ⟨mem_at 0 rfl, mem_at 1 rfl, mem_at 2 rfl, mem_at 3 rfl, mem_at 4 rfl, mem_at 5 rfl, mem_at 6 rfl, mem_at 7 rfl, mem_at 8 rfl, mem_at 9 rfl, trivial⟩ rfl
  refine TC.region ?_
  refine op0 (sp_assign rfl rfl) rfl trivial rfl rfl ?_
  refine TL.nil ?_
  refine TC.beginRound 0 rfl hrd ?_
  refine TC.block ?_
  refine TC.seq ?_
  obtain ⟨r21, h2, h⟩ := bind_inv h
  refine drawJ 7 [⟨.ref 3, [], [.blk 7 [.ref 3] 330], []⟩, ⟨.ptr 6 5, [], [.blk 6 [.val (.int .i64 k1), .val (.int .i64 k2), .val (.int .i64 k3), .ref 0, .ref 1, .val (.int .i64 k6), .val (.int .i64 k7), .ref 2, .val (.int .i64 k9), .val (.int .i64 k10), .val (.int .i64 k11), .val (.int .i64 k12), .val (.int .i64 k13), .val (.int .i64 k14)] 240], []⟩, ⟨.agg [.val (.int .i64 k6), .val (.int .i64 k7), .ref 2, .val (.int .i64 k9), .val (.int .i64 k10), .val (.int .i64 k11)], [], [.blk 6 [.val (.int .i64 k1), .val (.int .i64 k2), .val (.int .i64 k3), .ref 0, .ref 1, .val (.int .i64 k6), .val (.int .i64 k7), .ref 2, .val (.int .i64 k9), .val (.int .i64 k10), .val (.int .i64 k11), .val (.int .i64 k12), .val (.int .i64 k13), .val (.int .i64 k14)] 240], []⟩, ⟨.val (.int .i64 x19), [], [], []⟩, ⟨.ptr 6 12, [], [.blk 6 [.val (.int .i64 k1), .val (.int .i64 k2), .val (.int .i64 k3), .ref 0, .ref 1, .val (.int .i64 k6), .val (.int .i64 k7), .ref 2, .val (.int .i64 k9), .val (.int .i64 k10), .val (.int .i64 k11), .val (.int .i64 k12), .val (.int .i64 k13), .val (.int .i64 k14)] 240], []⟩, ⟨.agg [.val (.int .i64 k13), .val (.int .i64 k14)], [], [.blk 6 [.val (.int .i64 k1), .val (.int .i64 k2), .val (.int .i64 k3), .ref 0, .ref 1, .val (.int .i64 k6), .val (.int .i64 k7), .ref 2, .val (.int .i64 k9), .val (.int .i64 k10), .val (.int .i64 k11), .val (.int .i64 k12), .val (.int .i64 k13), .val (.int .i64 k14)] 240], []⟩, ⟨.agg [.val (.int .i64 r21.1), .val (.int .i64 r21.2)], [], [.ro 2 3 (List.map en_api_DialLink k8)], []⟩] rfl ?_ rfl ?_ rfl ?_ ?_
  · kernel_rfl
  · kernel_rfl
  · exact DAll.op' (sp_loadB rfl isBlk rfl vt330 rfl) trivial rfl (From.ok (ps := [(none, 3)]) ⟨⟨rfl, rfl⟩, trivial⟩) (DAll.op' (sp_fieldAddrB rfl isBlk rfl ft240_1 vt238 (by decide)) trivial rfl (From.ok (ps := [(none, 4)]) ⟨⟨rfl, rfl⟩, trivial⟩) (DAll.op' (sp_loadBA rfl isBlk rfl vt238 rfl rfl) trivial rfl (From.ok (ps := [(none, 4)]) ⟨⟨rfl, rfl⟩, trivial⟩) (DAll.op' (sp_move rfl rfl) trivial rfl (From.ok (ps := []) trivial) (DAll.op' (sp_fieldAddrB rfl isBlk rfl ft240_3 vt34 (by decide)) trivial rfl (From.ok (ps := [(none, 4)]) ⟨⟨rfl, rfl⟩, trivial⟩) (DAll.op' (sp_loadBA rfl isBlk rfl vt34 rfl rfl) trivial rfl (From.ok (ps := [(none, 4)]) ⟨⟨rfl, rfl⟩, trivial⟩) (DAll.op' (sp_call (avs := [.agg [.val (.int .i64 k6), .val (.int .i64 k7), .ref 2, .val (.int .i64 k9), .val (.int .i64 k10), .val (.int .i64 k11)], .val (.int .i64 x19), .agg [.val (.int .i64 k13), .val (.int .i64 k14)]]) (need := [.ro 2 3 (List.map en_api_DialLink k8)]) (v := .agg [.val (.int .i64 r21.1), .val (.int .i64 r21.2)]) (news := []) rfl rfl rfl Try.call189 (atJ [(0, 2)] [] (fc_dial_face_hands h2) rfl rfl) (.inl (roAll rfl))) trivial rfl (From.ok (ps := [(none, 9)]) ⟨⟨rfl, rfl⟩, trivial⟩) (.nil)))))))
  obtain ⟨r22, h3, h⟩ := bind_inv h
  refine opT (take := [.inv 3 (I1 y20)]) (need := []) (V' := [.inv 3 (I1 r22.2), .inv 15 (recI l0 (busyR rec)), .pin 14 7 u18, .pin 13 6 u17, .blk 7 [.ref 3] 330, .blk 6 [.val (.int .i64 k1), .val (.int .i64 k2), .val (.int .i64 k3), .ref 0, .ref 1, .val (.int .i64 k6), .val (.int .i64 k7), .ref 2, .val (.int .i64 k9), .val (.int .i64 k10), .val (.int .i64 k11), .val (.int .i64 k12), .val (.int .i64 k13), .val (.int .i64 k14)] 240, .pin 5 3 (env0 3), .ro 0 5 (List.map en_api_DialFace k4), .ro 1 6 (List.map en_dial_face k5), .ro 2 3 (List.map en_api_DialLink k8)]) [6] [] (ts_yield hI1 (x := (r21.1, r21.2)) (b := r22.1) (avs := [.agg [.val (.int .i64 r21.1), .val (.int .i64 r21.2)]]) (need := []) [] h3 rfl rfl rfl rfl rfl rfl) trivial rfl ⟨rfl, trivial⟩ trivial rfl rfl ?_
  refine op0 (sp_not rfl rfl) rfl trivial rfl rfl ?_
  refine TL.nil ?_
  refine TC.cond (b := (!r22.1)) rfl (fun h4 => ?_) (fun h4 => ?_)
  · have h := cond_t h h4
    cases h
    exact bodyRet (j := 1) rfl [] ⟨mem_at 1 rfl, mem_at 2 rfl, mem_at 3 rfl, mem_at 4 rfl, mem_at 5 rfl, mem_at 6 rfl, mem_at 0 rfl, mem_at 7 rfl, mem_at 8 rfl, mem_at 9 rfl, trivial⟩ rfl
  · have h := cond_f h h4
    refine TC.skip ?_
    refine TC.inBlock ?_
    cases h
    exact bodyEnd [] ⟨mem_at 1 rfl, mem_at 2 rfl, mem_at 3 rfl, mem_at 4 rfl, mem_at 5 rfl, mem_at 6 rfl, mem_at 0 rfl, mem_at 7 rfl, mem_at 8 rfl, mem_at 9 rfl, trivial⟩ rfl
def ev_dial_look_all {σ1 : Type} (yb1 : (Int × Int) → σ1 → Option (Bool × σ1)) (n : Nat) (k1 : Int) (k2 : Int) (k3 : Int) (k4 : List (Int × Int × (List (Int × Int × Int)) × Int × Int)) (k5 : List (Int × Int × (List (Int × Int × Int)) × Int × Int × Int)) (k6 : Int) (k7 : Int) (k8 : List (Int × Int × Int)) (k9 : Int) (k10 : Int) (k11 : Int) (k12 : Int) (k13 : Int) (k14 : Int) (y15 : σ1) : Option σ1 :=
  (ev_dial_works_driven n k1 k2 k3 k4 k5 k12 k12).bind fun r16 => (ev_dial_works_driven_1 (loopStep (ev_dial_look_all_r0 yb1 n k6 k7 k8 k9 k10 k11 k13 k14)) n (y15, 0) r16.1 r16.2.1 r16.2.2.1 r16.2.2.2.1 r16.2.2.2.2.1 r16.2.2.2.2.2.1 r16.2.2.2.2.2.2).bind fun q23 => cond (q23.2 == 0) (some q23.1) (cond (q23.2 == 1) (some q23.1) (none))
set_option maxRecDepth 100000 in
set_option maxHeartbeats 2000000 in
theorem ft_dial_look_all {σ1 : Type} {yb1 : (Int × Int) → σ1 → Option (Bool × σ1)} {I1 : σ1 → Inv} (hI1 : Yields Try.prog ye_funcapi_Span_bool yn_funcapi_Span_bool yb1 I1) {n : Nat} {k1 : Int} {k2 : Int} {k3 : Int} {k4 : List (Int × Int × (List (Int × Int × Int)) × Int × Int)} {k5 : List (Int × Int × (List (Int × Int × Int)) × Int × Int × Int)} {k6 : Int} {k7 : Int} {k8 : List (Int × Int × Int)} {k9 : Int} {k10 : Int} {k11 : Int} {k12 : Int} {k13 : Int} {k14 : Int} {y15 : σ1} {r : σ1} (h : ev_dial_look_all yb1 n k1 k2 k3 k4 k5 k6 k7 k8 k9 k10 k11 k12 k13 k14 y15 = some r) : FT Try.prog 95 [.agg [.val (.int .i64 k1), .val (.int .i64 k2), .val (.int .i64 k3), .ref 0, .ref 1, .val (.int .i64 k6), .val (.int .i64 k7), .ref 2, .val (.int .i64 k9), .val (.int .i64 k10), .val (.int .i64 k11), .val (.int .i64 k12), .val (.int .i64 k13), .val (.int .i64 k14)], .ref 3] [.inv 3 (I1 y15)] [.ro 0 5 (List.map en_api_DialFace k4), .ro 1 6 (List.map en_dial_face k5), .ro 2 3 (List.map en_api_DialLink k8)] (.tup []) [.inv 3 (I1 r)] := by
  refine introM (nz := 23) 4 [(5, 3)] Try.func95 rfl rfl rfl rfl (fun w0 M0 R0 env0 => ?_)
  rw [ev_dial_look_all] at h
  refine TC.seq ?_
  refine TC.region ?_
  refine op0 (sp_box 6 rfl rfl rfl rfl rfl) rfl trivial rfl rfl ?_
  refine op0 (sp_box 7 rfl rfl rfl rfl rfl) rfl trivial rfl rfl ?_
  refine TL.nil ?_
  refine TC.seq ?_
  refine TC.region ?_
  refine op1 1 rfl (sp_fieldAddrB rfl isBlk rfl ft240_0 vt236 (by decide)) rfl trivial rfl rfl ?_
  refine op1 1 rfl (sp_loadBA rfl isBlk rfl vt236 rfl rfl) rfl trivial rfl rfl ?_
  refine op1 1 rfl (sp_fieldAddrB rfl isBlk rfl ft240_2 vt3 (by decide)) rfl trivial rfl rfl ?_
  refine op1 1 rfl (sp_loadB rfl isBlk rfl vt3 rfl) rfl trivial rfl rfl ?_
  refine op1 1 rfl (sp_fieldAddrB rfl isBlk rfl ft240_2 vt3 (by decide)) rfl trivial rfl rfl ?_
  refine op1 1 rfl (sp_loadB rfl isBlk rfl vt3 rfl) rfl trivial rfl rfl ?_
  refine op0 (sp_build (qs := [(0, .val (.int .i64 k12)), (1, .val (.int .i64 k12))]) rfl bt34 rfl rfl rfl rfl) rfl trivial rfl rfl ?_
  obtain ⟨r16, h1, h⟩ := bind_inv h
  refine opN (need := [.ro 0 5 (List.map en_api_DialFace k4), .ro 1 6 (List.map en_dial_face k5)]) [5, 6] ⟨rfl, rfl, trivial⟩ (sp_call (avs := [.agg [.val (.int .i64 k1), .val (.int .i64 k2), .val (.int .i64 k3), .ref 0, .ref 1], .agg [.val (.int .i64 k12), .val (.int .i64 k12)]]) (need := [.ro 0 5 (List.map en_api_DialFace k4), .ro 1 6 (List.map en_dial_face k5)]) (v := .fn 274 [] [.ptr 8 0, .ptr 9 0]) (news := [.blk 8 [.val (.int .i64 r16.1), .val (.int .i64 r16.2.1)] 34, .blk 9 [.val (.int .i64 r16.2.2.1), .val (.int .i64 r16.2.2.2.1), .val (.int .i64 r16.2.2.2.2.1), .ref 10, .ref 11] 236, .ro 10 5 (List.map en_api_DialFace r16.2.2.2.2.2.1), .ro 11 6 (List.map en_dial_face r16.2.2.2.2.2.2)]) rfl rfl rfl Try.call188 (atJ [] [(0, 8), (1, 9), (2, 10), (3, 11)] (fc_dial_works_driven h1) rfl rfl) (.inl (roAll rfl))) rfl trivial rfl rfl ?_
  refine TL.nil ?_
  refine TC.block ?_
  refine TC.freeze 0 rfl ?_
  refine TC.freeze 1 rfl ?_
  refine TC.pin 13 6 rfl rfl fun u17 => ?_
  refine TC.pin 14 7 rfl rfl fun u18 => ?_
  obtain ⟨q23, h5, h⟩ := bind_inv h
  refine rangeO (T := []) (T' := []) (k := 12) (gm := 4) (grec := 15) (S := [(2, .ptr 6 0), (3, .ptr 7 0)]) (V0 := (fun y20 : σ1 => [.pin 14 7 u18, .pin 13 6 u17, .blk 7 [.ref 3] 330, .blk 6 [.val (.int .i64 k1), .val (.int .i64 k2), .val (.int .i64 k3), .ref 0, .ref 1, .val (.int .i64 k6), .val (.int .i64 k7), .ref 2, .val (.int .i64 k9), .val (.int .i64 k10), .val (.int .i64 k11), .val (.int .i64 k12), .val (.int .i64 k13), .val (.int .i64 k14)] 240, .pin 5 3 (env0 3), .inv 3 (I1 y20), .ro 0 5 (List.map en_api_DialFace k4), .ro 1 6 (List.map en_dial_face k5), .ro 2 3 (List.map en_api_DialLink k8)])) (needI := [.rob 8 [.val (.int .i64 r16.1), .val (.int .i64 r16.2.1)] 34, .rob 9 [.val (.int .i64 r16.2.2.1), .val (.int .i64 r16.2.2.2.1), .val (.int .i64 r16.2.2.2.2.1), .ref 10, .ref 11] 236, .ro 10 5 (List.map en_api_DialFace r16.2.2.2.2.2.1), .ro 11 6 (List.map en_dial_face r16.2.2.2.2.2.2)]) (ps := [13]) (jl := [.ret]) (ea := ye_funcint_bool) (en := yn_funcint_bool) (f := (ev_dial_look_all_r0 yb1 n k6 k7 k8 k9 k10 k11 k13 k14)) (s0 := (y15, 0)) (yf := q23) (v := .tup []) (fi := []) (caps := [.ptr 8 0, .ptr 9 0])
    ⟨fun x y r hr l rec hrd w0 M0 R0 => ok_dial_look_all_r0 hI1 (u18 := u18) (u17 := u17) (k1 := k1) (k2 := k2) (k3 := k3) (k12 := k12) (k4 := k4) (k5 := k5) hr l rec hrd w0 M0 R0, ⟨rfl, rfl, trivial⟩, At.mem (is := [0, 1, 6, 7, 9, 10, 11, 12, 13]) ⟨rfl, rfl, rfl, rfl, rfl, rfl, rfl, rfl, rfl, trivial⟩, At.mem (is := [2, 3, 4, 5]) ⟨rfl, rfl, rfl, rfl, trivial⟩, rfl, pinsIn [6, 7] [1, 0] ⟨⟨_, _, fun _ => rfl⟩, ⟨_, _, fun _ => rfl⟩, trivial⟩ rfl, rfl, fun _ => rfl, fun _ _ => rfl, fun _ => rfl, fun _ _ => rfl, fun _ => rfl, fun _ => rfl, fun _ => rfl, rfl, rfl, fun _ => rfl, rfl⟩
    rfl rfl Try.call274 (takesNil rfl) 8 rfl (fun I hI => atT [(0, 12), (1, 8), (2, 9), (3, 10), (4, 11)] [(0, 12)] (ft_dial_works_driven_1 hI h5) rfl rfl rfl) (fun d => ?_)
  rcases cond_cases h with ⟨h6, h⟩ | ⟨h6, h⟩
  · refine done0 h6 ?_
    refine TC.inBlock ?_
    cases h
    exact endM [] 0 4 [3] rfl (.nil) rfl ⟨mem_at 5 rfl, trivial⟩ rfl rfl ⟨⟨_, mem_at 4 rfl⟩, trivial⟩ rfl
  · rcases cond_cases h with ⟨h7, h⟩ | ⟨h7, h⟩
    · refine doneJ 1 h7 rfl ?_
      cases h
      exact retM [] 0 4 [3] rfl (.nil) rfl ⟨mem_at 5 rfl, trivial⟩ rfl rfl ⟨⟨_, mem_at 4 rfl⟩, trivial⟩ rfl
    · exact none_no h
/- dial_joined_1 -/
def ev_dial_joined_1 (n : Nat) (a1 : Int) (a2 : Int) (b3 : Int) (b4 : Int) : Option Int :=
  chk (in64 (a1 - b3)) <| some (a1 - b3)
set_option maxRecDepth 100000 in
set_option maxHeartbeats 2000000 in
theorem fc_dial_joined_1 {n : Nat} {a1 : Int} {a2 : Int} {b3 : Int} {b4 : Int} {r : Int} (h : ev_dial_joined_1 n a1 a2 b3 b4 = some r) : FC Try.prog 191 [.agg [.val (.int .i64 a1), .val (.int .i64 a2)], .agg [.val (.int .i64 b3), .val (.int .i64 b4)]] [] (.val (.int .i64 r)) [] := by
  refine introJ (nz := 10) Try.func191 rfl rfl rfl (fun w0 R0 env0 => ?_)
  rw [ev_dial_joined_1] at h
  refine TC.seq ?_
  refine TC.region ?_
  refine op0 (sp_box 0 rfl rfl rfl rfl rfl) rfl trivial rfl rfl ?_
  refine op0 (sp_box 1 rfl rfl rfl rfl rfl) rfl trivial rfl rfl ?_
  refine op0 (sp_assign rfl rfl) rfl trivial rfl rfl ?_
  refine TL.nil ?_
  refine TC.seq ?_
  refine TC.region ?_
  refine op1 1 rfl (sp_fieldAddrB rfl isBlk rfl ft34_0 vt3 (by decide)) rfl trivial rfl rfl ?_
  refine op1 1 rfl (sp_loadB rfl isBlk rfl vt3 rfl) rfl trivial rfl rfl ?_
  refine op1 0 rfl (sp_fieldAddrB rfl isBlk rfl ft34_0 vt3 (by decide)) rfl trivial rfl rfl ?_
  refine op1 0 rfl (sp_loadB rfl isBlk rfl vt3 rfl) rfl trivial rfl rfl ?_
  obtain ⟨h1, h⟩ := chk_inv h
  refine op0 (sp_sub rfl rfl rfl h1) rfl trivial rfl rfl ?_
  refine op0 (sp_assign rfl rfl) rfl trivial rfl rfl ?_
  refine TL.nil ?_
  cases h
  exact retJ [] (.tmp rfl .nil) rfl trivial rfl rfl
/- dial_joined -/
def ev_dial_joined_l0 (n : Nat) (r2 : (List (Int × Int))) : Nat → (List (Int × Int)) → Int → (List (Int × Int)) → Option ((List (Int × Int)) × (List (Int × Int)))
  | 0, _, _, _ => none
  | m + 1, l3, i4, l5 => cond (decide (i4 < (r2.length : Int))) (idx l5 i4 fun x6 => chk (in64 ((l3.length : Int) - 1)) <| cond (decide ((0 : Int) ≤ ((l3.length : Int) - 1))) (idx l3 ((l3.length : Int) - 1) fun x7 => chk (in64 (x7.2 + 1)) <| cond (decide (x6.1 ≤ (x7.2 + 1))) (chk (in64 (i4 + 1)) <| ev_dial_joined_l0 n r2 m (List.set l3 (((l3.length : Int) - 1) : Int).toNat (x7.1, (max x7.2 x6.2))) (i4 + 1) l5) (chk (room 16 (l3.length + ([(x6.1, x6.2)] : List (Int × Int)).length)) <| chk (in64 (i4 + 1)) <| ev_dial_joined_l0 n r2 m (l3 ++ ([(x6.1, x6.2)] : List (Int × Int))) (i4 + 1) l5)) (chk (room 16 (l3.length + ([(x6.1, x6.2)] : List (Int × Int)).length)) <| chk (in64 (i4 + 1)) <| ev_dial_joined_l0 n r2 m (l3 ++ ([(x6.1, x6.2)] : List (Int × Int))) (i4 + 1) l5)) (some (l3, l5))
set_option maxRecDepth 100000 in
set_option maxHeartbeats 2000000 in
theorem ok_dial_joined_l0 {n : Nat} {w0 : World} {M0 R0 : Nat → Prop} {env0 : Env} {df : List Deferred} {r : (List (Int × Int)) × (List (Int × Int))} {r2 : (List (Int × Int))} : ∀ (m : Nat) (l3 : List (Int × Int)) (i4 : Int) (l5 : List (Int × Int)), ev_dial_joined_l0 n r2 m l3 i4 l5 = some r → TC Try.prog ⟨w0, M0, R0⟩ ⟨48, none, df⟩ (bodyPostM Fence.wide 0 Try.prog Try.f97 (PostT ⟨w0, M0, R0⟩ env0 [0] (.ref 500) [.row 500 34 2 (List.map en_api_Span r.1), .row 0 34 2 (List.map en_api_Span r.2)])) [.code (sub (bodyOf Try.f97) [1, 1, 0, 1, 0, 0, 0]), .code (sub (bodyOf Try.f97) [1, 1, 0, 1, 0, 0, 1]), .inLoop (sub (bodyOf Try.f97) [1, 1, 0, 1, 0, 0]), .inBlock 0, .code (sub (bodyOf Try.f97) [1, 1, 1])] ([(2, .ref 4), (8, .ref 0), (9, .val (.int .i64 (r2.length : Int))), (10, .val (.int .i64 i4))]) ([.row 4 34 2 (List.map en_api_Span l3), .row 0 34 2 (List.map en_api_Span l5), .inv 1 (marksI df), .pin 2 0 (env0 0)]) := by
  intro m
  induction m with
  | zero => intro l3 i4 l5 h; exact none_no h
  | succ m ih =>
    intro l3 i4 l5 h
    rw [ev_dial_joined_l0] at h
    refine TC.region ?_
    refine op0 (sp_lss rfl rfl rfl) rfl trivial rfl rfl ?_
    refine TL.nil ?_
    refine TC.seq ?_
    refine TC.cond (b := (decide (i4 < (r2.length : Int)))) rfl (fun h2 => ?_) (fun h2 => ?_)
    · have h := cond_t h h2
      refine TC.skip ?_
      refine TC.seq ?_
      refine TC.block ?_
      refine TC.seq ?_
      refine TC.region ?_
      obtain ⟨x6, h3, h4, h⟩ := idx_inv h
      refine op1 1 rfl (sp_indexS rfl rfl rfl isOwn sl39 h3 (map_get _ h4)) rfl trivial rfl rfl ?_
      refine op1 1 rfl (sp_loadRA (i := (i4 : Int).toNat) (j := 0) (as_ := [.val (.int .i64 x6.1), .val (.int .i64 x6.2)]) (ns := []) rfl rfl isOwn vt34 rfl (map_get _ h4) rfl rfl (by decide) (.v (.v (.nil))) (nodup_of_B rfl)) rfl trivial rfl rfl ?_
      refine op0 (sp_alloc 5 rfl Try.zeroValue34 rfl) rfl trivial rfl rfl ?_
      refine stoB 0 (cells' := [.val (.int .i64 x6.1), .val (.int .i64 x6.2)]) rfl rfl trivial rfl rfl rfl rfl vt34 rfl rfl rfl ?_
      refine TL.nil ?_
      refine TC.seq ?_
      refine TC.region ?_
      refine op0 (sp_move rfl rfl) rfl trivial rfl rfl ?_
      refine op1 1 rfl (sp_lenM (N := l3.length) (len_map _ _) rfl rfl isOwn Try.underlying39) rfl trivial rfl rfl ?_
      obtain ⟨h5, h⟩ := chk_inv h
      refine op0 (sp_sub rfl rfl rfl h5) rfl trivial rfl rfl ?_
      refine op0 (sp_assign rfl rfl) rfl trivial rfl rfl ?_
      refine TL.nil ?_
      refine TC.seq ?_
      rcases cond_cases h with ⟨h6, h⟩ | ⟨h6, h⟩
      · obtain ⟨x7, h7, h8, h⟩ := idx_inv h
        obtain ⟨h9, h⟩ := chk_inv h
        refine drawJ 11 [⟨.val (.int .i64 ((l3.length : Int) - 1)), [], [], []⟩, ⟨.val (.bool (decide ((0 : Int) ≤ ((l3.length : Int) - 1)))), [], [], []⟩, ⟨.val (.bool true), [], [], []⟩, ⟨.ptr 5 0, [], [.blk 5 [.val (.int .i64 x6.1), .val (.int .i64 x6.2)] 34], []⟩, ⟨.val (.int .i64 x6.1), [], [.blk 5 [.val (.int .i64 x6.1), .val (.int .i64 x6.2)] 34], []⟩, ⟨.ref 4, [], [], []⟩, ⟨.val (.int .i64 ((l3.length : Int) - 1)), [], [], []⟩, ⟨.cell 4 ((((l3.length : Int) - 1) : Int).toNat * 2), [], [.row 4 34 2 (List.map en_api_Span l3)], []⟩, ⟨.cell 4 ((((l3.length : Int) - 1) : Int).toNat * 2 + 1), [], [.row 4 34 2 (List.map en_api_Span l3)], []⟩, ⟨.val (.int .i64 x7.2), [], [.row 4 34 2 (List.map en_api_Span l3)], []⟩, ⟨.val (.int .i64 (x7.2 + 1)), [], [], []⟩] rfl ?_ rfl ?_ rfl ?_ ?_
        · kernel_rfl
        · kernel_rfl
        · exact DAll.op' (sp_move rfl rfl) trivial rfl (From.ok (ps := []) trivial) (DAll.op' (sp_geq rfl rfl rfl) trivial rfl (From.ok (ps := []) trivial) (DAll.op' (sp_castB h6 (sp_move rfl rfl)) trivial rfl (From.ok (ps := []) trivial) (DAll.op' (sp_fieldAddrB rfl isBlk rfl ft34_0 vt3 (by decide)) ⟨_, rfl, rfl⟩ rfl (From.ok (ps := [(none, 0)]) ⟨⟨rfl, rfl⟩, trivial⟩) (DAll.op' (sp_loadB rfl isBlk rfl vt3 rfl) ⟨_, rfl, rfl⟩ rfl (From.ok (ps := [(none, 0)]) ⟨⟨rfl, rfl⟩, trivial⟩) (DAll.op' (sp_move rfl rfl) ⟨_, rfl, rfl⟩ rfl (From.ok (ps := []) trivial) (DAll.op' (sp_move rfl rfl) ⟨_, rfl, rfl⟩ rfl (From.ok (ps := []) trivial) (DAll.op' (sp_indexS rfl rfl rfl isOwn sl39 h7 (map_get _ h8)) ⟨_, rfl, rfl⟩ rfl (From.ok (ps := [(none, 1)]) ⟨⟨rfl, rfl⟩, trivial⟩) (DAll.op' (sp_fieldAddrR (i := (((l3.length : Int) - 1) : Int).toNat) rfl rfl isOwn ft34_1 vt3 (by decide) (map_get _ h8) (fun h => nomatch h)) ⟨_, rfl, rfl⟩ rfl (From.ok (ps := [(none, 1)]) ⟨⟨rfl, rfl⟩, trivial⟩) (DAll.op' (sp_loadR (i := (((l3.length : Int) - 1) : Int).toNat) (j := 1) rfl rfl isOwn vt3 rfl (map_get _ h8) rfl (.v (.nil)) (nodup_of_B rfl)) ⟨_, rfl, rfl⟩ rfl (From.ok (ps := [(none, 1)]) ⟨⟨rfl, rfl⟩, trivial⟩) (DAll.op' (sp_add rfl rfl rfl h9) ⟨_, rfl, rfl⟩ rfl (From.ok (ps := []) trivial) (.nil)))))))))))
        refine op0 (sp_leq rfl rfl rfl) rfl ⟨_, rfl, rfl⟩ rfl rfl ?_
        refine op0 (sp_pickT rfl rfl rfl) rfl trivial rfl rfl ?_
        refine TL.nil ?_
        refine TC.cond (b := (decide (x6.1 ≤ (x7.2 + 1)))) rfl (fun h10 => ?_) (fun h10 => ?_)
        · have h := cond_t h h10
          refine drawJ 10 [⟨.ref 4, [], [], []⟩, ⟨.val (.int .i64 ((l3.length : Int) - 1)), [], [], []⟩, ⟨.ref 4, [], [], []⟩, ⟨.val (.int .i64 ((l3.length : Int) - 1)), [], [], []⟩, ⟨.cell 4 ((((l3.length : Int) - 1) : Int).toNat * 2), [], [.row 4 34 2 (List.map en_api_Span l3)], []⟩, ⟨.cell 4 ((((l3.length : Int) - 1) : Int).toNat * 2 + 1), [], [.row 4 34 2 (List.map en_api_Span l3)], []⟩, ⟨.val (.int .i64 x7.2), [], [.row 4 34 2 (List.map en_api_Span l3)], []⟩, ⟨.ptr 5 1, [], [.blk 5 [.val (.int .i64 x6.1), .val (.int .i64 x6.2)] 34], []⟩, ⟨.val (.int .i64 x6.2), [], [.blk 5 [.val (.int .i64 x6.1), .val (.int .i64 x6.2)] 34], []⟩, ⟨.val (.int .i64 (max x7.2 x6.2)), [], [], []⟩] rfl ?_ rfl ?_ rfl ?_ ?_
          · kernel_rfl
          · kernel_rfl
          · exact DAll.op' (sp_move rfl rfl) trivial rfl (From.ok (ps := []) trivial) (DAll.op' (sp_move rfl rfl) trivial rfl (From.ok (ps := []) trivial) (DAll.op' (sp_move rfl rfl) trivial rfl (From.ok (ps := []) trivial) (DAll.op' (sp_move rfl rfl) trivial rfl (From.ok (ps := []) trivial) (DAll.op' (sp_indexS rfl rfl rfl isOwn sl39 h7 (map_get _ h8)) trivial rfl (From.ok (ps := [(none, 1)]) ⟨⟨rfl, rfl⟩, trivial⟩) (DAll.op' (sp_fieldAddrR (i := (((l3.length : Int) - 1) : Int).toNat) rfl rfl isOwn ft34_1 vt3 (by decide) (map_get _ h8) (fun h => nomatch h)) trivial rfl (From.ok (ps := [(none, 1)]) ⟨⟨rfl, rfl⟩, trivial⟩) (DAll.op' (sp_loadR (i := (((l3.length : Int) - 1) : Int).toNat) (j := 1) rfl rfl isOwn vt3 rfl (map_get _ h8) rfl (.v (.nil)) (nodup_of_B rfl)) trivial rfl (From.ok (ps := [(none, 1)]) ⟨⟨rfl, rfl⟩, trivial⟩) (DAll.op' (sp_fieldAddrB rfl isBlk rfl ft34_1 vt3 (by decide)) trivial rfl (From.ok (ps := [(none, 0)]) ⟨⟨rfl, rfl⟩, trivial⟩) (DAll.op' (sp_loadB rfl isBlk rfl vt3 rfl) trivial rfl (From.ok (ps := [(none, 0)]) ⟨⟨rfl, rfl⟩, trivial⟩) (DAll.op' (sp_max rfl rfl rfl) trivial rfl (From.ok (ps := []) trivial) (.nil))))))))))
          refine op1 1 rfl (sp_indexS rfl rfl rfl isOwn sl39 h7 (map_get _ h8)) rfl trivial rfl rfl ?_
          refine op1 1 rfl (sp_fieldAddrR (i := (((l3.length : Int) - 1) : Int).toNat) rfl rfl isOwn ft34_1 vt3 (by decide) (map_get _ h8) (fun h => nomatch h)) rfl trivial rfl rfl ?_
          refine stoR 1 ((((l3.length : Int) - 1) : Int).toNat) 1 (need := []) [] rfl rfl trivial rfl rfl rfl rfl vt3 rfl rfl (map_get _ h8) rfl rfl trivial (.v (.nil)) (map_set l3 en_api_Span ((((l3.length : Int) - 1) : Int).toNat) (x7.1, (max x7.2 x6.2))) ?_
          refine TL.nil ?_
          refine TC.inBlock ?_
          refine TC.region ?_
          obtain ⟨h11, h⟩ := chk_inv h
          refine op0 (sp_add rfl rfl rfl h11) rfl trivial rfl rfl ?_
          refine op0 (sp_move rfl rfl) rfl trivial rfl rfl ?_
          refine TL.nil ?_
          refine TC.inLoop ?_
          refine TC.seq ?_
          refine subJ [] (ih _ _ _ h) ?_ ?_ ?_
          · exact ⟨rfl, rfl, rfl, rfl, trivial⟩
          · exact ⟨mem_at 1 rfl, mem_at 2 rfl, mem_at 3 rfl, mem_at 4 rfl, trivial⟩
          · rfl
        · have h := cond_f h h10
          refine TC.region ?_
          refine op0 (sp_move rfl rfl) rfl trivial rfl rfl ?_
          refine op1 0 rfl (sp_loadBA rfl isBlk rfl vt34 rfl rfl) rfl trivial rfl rfl ?_
          refine op0 (sp_buildSlice (qs := [.agg [.val (.int .i64 x6.1), .val (.int .i64 x6.2)]]) (need := []) (els := List.map en_api_Span ([(x6.1, x6.2)] : List (Int × Int))) 6 rfl sl39 (by decide) (by decide) rfl rfl rfl (.v (.v (.nil))) (map_len fun _ => rfl) rfl rfl rfl) rfl trivial rfl rfl ?_
          obtain ⟨h12, h⟩ := chk_inv h
          refine appM 2 0 (N := l3.length) (N2 := ([(x6.1, x6.2)] : List (Int × Int)).length) 7 rfl rfl trivial rfl rfl rfl rfl rfl isOwn rfl sl39 (len_map _ _) (len_map _ _) h12 (map_app _ _ _) rfl ?_
          refine op0 (sp_assign rfl rfl) rfl trivial rfl rfl ?_
          refine TL.nil ?_
          refine TC.inBlock ?_
          refine TC.region ?_
          obtain ⟨h13, h⟩ := chk_inv h
          refine op0 (sp_add rfl rfl rfl h13) rfl trivial rfl rfl ?_
          refine op0 (sp_move rfl rfl) rfl trivial rfl rfl ?_
          refine TL.nil ?_
          refine TC.inLoop ?_
          refine TC.seq ?_
          refine subJ [(4, 7)] (ih _ _ _ h) ?_ ?_ ?_
          · exact ⟨rfl, rfl, rfl, rfl, trivial⟩
          · exact ⟨mem_at 0 rfl, mem_at 3 rfl, mem_at 4 rfl, mem_at 5 rfl, trivial⟩
          · rfl
      · refine drawJ 11 [⟨.val (.int .i64 ((l3.length : Int) - 1)), [], [], []⟩, ⟨.val (.bool (decide ((0 : Int) ≤ ((l3.length : Int) - 1)))), [], [], []⟩, ⟨.val (.bool false), [], [], []⟩, ⟨.val (undef), [], [], []⟩, ⟨.val (undef), [], [], []⟩, ⟨.val (undef), [], [], []⟩, ⟨.val (undef), [], [], []⟩, ⟨.val (undef), [], [], []⟩, ⟨.val (undef), [], [], []⟩, ⟨.val (undef), [], [], []⟩, ⟨.val (undef), [], [], []⟩] rfl ?_ rfl ?_ rfl ?_ ?_
        · kernel_rfl
        · kernel_rfl
        · exact DAll.op' (sp_move rfl rfl) trivial rfl (From.ok (ps := []) trivial) (DAll.op' (sp_geq rfl rfl rfl) trivial rfl (From.ok (ps := []) trivial) (DAll.op' (sp_castB h6 (sp_move rfl rfl)) trivial rfl (From.ok (ps := []) trivial) (.skip ⟨_, rfl, .inl rfl⟩ rfl rfl rfl (.skip ⟨_, rfl, .inl rfl⟩ rfl rfl rfl (.skip ⟨_, rfl, .inl rfl⟩ rfl rfl rfl (.skip ⟨_, rfl, .inl rfl⟩ rfl rfl rfl (.skip ⟨_, rfl, .inl rfl⟩ rfl rfl rfl (.skip ⟨_, rfl, .inl rfl⟩ rfl rfl rfl (.skip ⟨_, rfl, .inl rfl⟩ rfl rfl rfl (.skip ⟨_, rfl, .inl rfl⟩ rfl rfl rfl (.nil)))))))))))
        refine opSkip rfl ⟨_, rfl, .inl rfl⟩ rfl ?_
        refine op0 (sp_pickF rfl rfl rfl) rfl trivial rfl rfl ?_
        refine TL.nil ?_
        refine TC.condF rfl ?_
        refine TC.region ?_
        refine op0 (sp_move rfl rfl) rfl trivial rfl rfl ?_
        refine op1 0 rfl (sp_loadBA rfl isBlk rfl vt34 rfl rfl) rfl trivial rfl rfl ?_
        refine op0 (sp_buildSlice (qs := [.agg [.val (.int .i64 x6.1), .val (.int .i64 x6.2)]]) (need := []) (els := List.map en_api_Span ([(x6.1, x6.2)] : List (Int × Int))) 8 rfl sl39 (by decide) (by decide) rfl rfl rfl (.v (.v (.nil))) (map_len fun _ => rfl) rfl rfl rfl) rfl trivial rfl rfl ?_
        obtain ⟨h14, h⟩ := chk_inv h
        refine appM 2 0 (N := l3.length) (N2 := ([(x6.1, x6.2)] : List (Int × Int)).length) 9 rfl rfl trivial rfl rfl rfl rfl rfl isOwn rfl sl39 (len_map _ _) (len_map _ _) h14 (map_app _ _ _) rfl ?_
        refine op0 (sp_assign rfl rfl) rfl trivial rfl rfl ?_
        refine TL.nil ?_
        refine TC.inBlock ?_
        refine TC.region ?_
        obtain ⟨h15, h⟩ := chk_inv h
        refine op0 (sp_add rfl rfl rfl h15) rfl trivial rfl rfl ?_
        refine op0 (sp_move rfl rfl) rfl trivial rfl rfl ?_
        refine TL.nil ?_
        refine TC.inLoop ?_
        refine TC.seq ?_
        refine subJ [(4, 9)] (ih _ _ _ h) ?_ ?_ ?_
        · exact ⟨rfl, rfl, rfl, rfl, trivial⟩
        · exact ⟨mem_at 0 rfl, mem_at 3 rfl, mem_at 4 rfl, mem_at 5 rfl, trivial⟩
        · rfl
    · have h := cond_f h h2
      refine TC.exit rfl ?_
      refine TC.seq ?_
      refine TC.region ?_
      refine op0 (sp_move rfl rfl) rfl trivial rfl rfl ?_
      refine op0 (sp_assign rfl rfl) rfl trivial rfl rfl ?_
      refine TL.nil ?_
      cases h
      exact retM [(500, 4)] 2 1 [0] rfl (.tmp rfl .nil) rfl ⟨mem_at 0 rfl, mem_at 1 rfl, trivial⟩ rfl rfl ⟨⟨_, mem_at 2 rfl⟩, trivial⟩ rfl
def ev_dial_joined (n : Nat) (l1 : List (Int × Int)) : Option ((List (Int × Int)) × (List (Int × Int))) :=
  (ev_slices_SortFunc_Lapi_Span_api_Span n l1 (fun a => ev_dial_joined_1 n a.1 a.2.1 a.2.2.1 a.2.2.2)).bind fun r2 => ev_dial_joined_l0 n r2 n ([] : List (Int × Int)) 0 r2
set_option maxRecDepth 100000 in
set_option maxHeartbeats 2000000 in
theorem ft_dial_joined {n : Nat} {l1 : List (Int × Int)} {r : (List (Int × Int)) × (List (Int × Int))} (h : ev_dial_joined n l1 = some r) : FT Try.prog 97 [.ref 0] [.row 0 34 2 (List.map en_api_Span l1)] [] (.ref 500) [.row 500 34 2 (List.map en_api_Span r.1), .row 0 34 2 (List.map en_api_Span r.2)] := by
  refine introM (nz := 48) 1 [(2, 0)] Try.func97 rfl rfl rfl rfl (fun w0 M0 R0 env0 => ?_)
  rw [ev_dial_joined] at h
  refine TC.seq ?_
  refine TC.region ?_
  refine op0 (sp_assign rfl rfl) rfl trivial rfl rfl ?_
  refine TL.nil ?_
  refine TC.seq ?_
  refine TC.region ?_
  refine op0 (sp_move rfl rfl) rfl trivial rfl rfl ?_
  obtain ⟨r2, h1, h⟩ := bind_inv h
  refine opT (take := [.row 0 34 2 (List.map en_api_Span l1)]) (need := []) (V' := [.row 0 34 2 (List.map en_api_Span r2), .inv 1 (marksI []), .pin 2 0 (env0 0)]) [2] [] (ts_call (avs := [.ref 0, .fn 191 [] []]) (take := [.row 0 34 2 (List.map en_api_Span l1)]) (need := []) (v := .tup []) (news := [.row 0 34 2 (List.map en_api_Span r2)]) rfl rfl rfl Try.call190 (FT.fnArg (args := [.ref 0, .ref 3]) (needC := []) (need := []) 1 (first := []) (caps := []) (atT [(1, 3)] [] (ft_slices_SortFunc_Lapi_Span_api_Span h1) rfl rfl rfl) rfl Try.call191 (fun a b hab => atJ [] [] (fc_dial_joined_1 hab) rfl rfl) rfl (fun _ => rfl) (fun _ => rfl) rfl rfl rfl rfl rfl rfl rfl rfl) rfl rfl) trivial rfl ⟨rfl, trivial⟩ trivial rfl rfl ?_
  refine TL.nil ?_
  refine TC.seq ?_
  refine TC.seq ?_
  refine TC.region ?_
  refine op0 (sp_move rfl rfl) rfl trivial rfl rfl ?_
  refine op1 0 rfl (sp_lenM (N := r2.length) (len_map _ _) rfl rfl isOwn Try.underlying39) rfl trivial rfl rfl ?_
  refine op0 (sp_move rfl rfl) rfl trivial rfl rfl ?_
  refine TL.nil ?_
  refine TC.block ?_
  refine TC.loop ?_
  refine TC.seq ?_
  refine nilRowC 2 10 34 2 (List.map en_api_Span []) rfl rfl rfl ?_
  refine subJ [(4, 10)] (ok_dial_joined_l0 _ _ _ _ h) ?_ ?_ ?_
  · exact ⟨rfl, rfl, rfl, rfl, trivial⟩
  · exact ⟨mem_at 0 rfl, mem_at 1 rfl, mem_at 2 rfl, mem_at 3 rfl, trivial⟩
  · rfl
/- dial_Shows -/
def ev_dial_Shows_r0 (n : Nat) (x11 : Int × Int) (y12 : (List (Int × Int))) : Option (Nat × ((List (Int × Int)))) :=
  (ev_dial_modulo n x11.1 43200).bind fun r13 => chk (in64 (x11.2 - x11.1)) <| chk (in64 (r13 + (x11.2 - x11.1))) <| chk (room 16 (y12.length + ([(r13, (min (43199 : Int) (r13 + (x11.2 - x11.1))))] : List (Int × Int)).length)) <| chk (in64 (r13 + (x11.2 - x11.1))) <| chk (in64 ((r13 + (x11.2 - x11.1)) - 43200)) <| cond (decide ((0 : Int) ≤ ((r13 + (x11.2 - x11.1)) - 43200))) (chk (room 16 ((y12 ++ ([(r13, (min (43199 : Int) (r13 + (x11.2 - x11.1))))] : List (Int × Int))).length + ([(0, ((r13 + (x11.2 - x11.1)) - 43200))] : List (Int × Int)).length)) <| some (0, ((y12 ++ ([(r13, (min (43199 : Int) (r13 + (x11.2 - x11.1))))] : List (Int × Int))) ++ ([(0, ((r13 + (x11.2 - x11.1)) - 43200))] : List (Int × Int))))) (some (0, (y12 ++ ([(r13, (min (43199 : Int) (r13 + (x11.2 - x11.1))))] : List (Int × Int)))))
set_option maxRecDepth 100000 in
set_option maxHeartbeats 2000000 in
theorem ok_dial_Shows_r0 {n : Nat} {u10 : Value} {x11 : Int × Int} {y12 : (List (Int × Int))} {r : Nat × ((List (Int × Int)))} (h : ev_dial_Shows_r0 n x11 y12 = some r) (l0 : Nat) (rec : Loop) (hrd : rec.state = .ready) (w0 : World) (M0 R0 : Nat → Prop) : TC Try.prog ⟨w0, M0, R0⟩ ⟨61, some l0, []⟩ (RoundQ ⟨w0, M0, R0⟩ (.inv 13 (recI l0 (busyR rec)) :: [.pin 12 9 u10, .row 10 34 2 (List.map en_api_Span r.2), .blk 9 [.ref 10] 39]) [] r.1) [.code (sub (bodyOf Try.f43) [1, 1, 1, 1, 0, 1, 0, 0]), .beginRound, .code (sub (bodyOf Try.f43) [1, 1, 1, 1, 0, 1, 0, 1])] (pSlots [30] (ye_funcapi_Span_bool x11) [(12, .ptr 9 0)]) (.inv 13 (recI l0 rec) :: yn_funcapi_Span_bool x11 ++ (fun y12 : (List (Int × Int)) => [.pin 12 9 u10, .row 10 34 2 (List.map en_api_Span y12), .blk 9 [.ref 10] 39]) y12) := by
  rw [ev_dial_Shows_r0] at h
  refine subJ (s' := [(12, .ptr 9 0), (30, .agg [.val (.int .i64 x11.1), .val (.int .i64 x11.2)])]) (V' := [.inv 13 (recI l0 rec), .pin 12 9 u10, .row 10 34 2 (List.map en_api_Span y12), .blk 9 [.ref 10] 39]) [] ?_ ⟨rfl, rfl, trivial⟩ ⟨mem_at 0 rfl, mem_at 1 rfl, mem_at 2 rfl, mem_at 3 rfl, trivial⟩ rfl
  refine TC.region ?_
  refine op0 (sp_alloc 14 rfl Try.zeroValue34 rfl) rfl trivial rfl rfl ?_
  refine stoB 0 (cells' := [.val (.int .i64 x11.1), .val (.int .i64 x11.2)]) rfl rfl trivial rfl rfl rfl rfl vt34 rfl rfl rfl ?_
  refine TL.nil ?_
  refine TC.beginRound 1 rfl hrd ?_
  refine TC.block ?_
  refine TC.seq ?_
  obtain ⟨r13, h3, h⟩ := bind_inv h
  obtain ⟨h4, h⟩ := chk_inv h
  refine drawJ 9 [⟨.ptr 14 0, [], [.blk 14 [.val (.int .i64 x11.1), .val (.int .i64 x11.2)] 34], []⟩, ⟨.val (.int .i64 x11.1), [], [.blk 14 [.val (.int .i64 x11.1), .val (.int .i64 x11.2)] 34], []⟩, ⟨.val (.int .i64 r13), [], [], []⟩, ⟨.ptr 14 1, [], [.blk 14 [.val (.int .i64 x11.1), .val (.int .i64 x11.2)] 34], []⟩, ⟨.val (.int .i64 x11.2), [], [.blk 14 [.val (.int .i64 x11.1), .val (.int .i64 x11.2)] 34], []⟩, ⟨.ptr 14 0, [], [.blk 14 [.val (.int .i64 x11.1), .val (.int .i64 x11.2)] 34], []⟩, ⟨.val (.int .i64 x11.1), [], [.blk 14 [.val (.int .i64 x11.1), .val (.int .i64 x11.2)] 34], []⟩, ⟨.val (.int .i64 (x11.2 - x11.1)), [], [], []⟩, ⟨.val (.int .i64 r13), [], [], []⟩] rfl ?_ rfl ?_ rfl ?_ ?_
  · kernel_rfl
  · kernel_rfl
  · exact DAll.op' (sp_fieldAddrB rfl isBlk rfl ft34_0 vt3 (by decide)) trivial rfl (From.ok (ps := [(none, 0)]) ⟨⟨rfl, rfl⟩, trivial⟩) (DAll.op' (sp_loadB rfl isBlk rfl vt3 rfl) trivial rfl (From.ok (ps := [(none, 0)]) ⟨⟨rfl, rfl⟩, trivial⟩) (DAll.op' (sp_call (avs := [.val (.int .i64 x11.1), .val (.int .i64 43200)]) (need := []) (v := .val (.int .i64 r13)) (news := []) rfl rfl rfl Try.call96 (atJ [] [] (fc_dial_modulo h3) rfl rfl) (.inl (roAll rfl))) trivial rfl (From.ok (ps := []) trivial) (DAll.op' (sp_fieldAddrB rfl isBlk rfl ft34_1 vt3 (by decide)) trivial rfl (From.ok (ps := [(none, 0)]) ⟨⟨rfl, rfl⟩, trivial⟩) (DAll.op' (sp_loadB rfl isBlk rfl vt3 rfl) trivial rfl (From.ok (ps := [(none, 0)]) ⟨⟨rfl, rfl⟩, trivial⟩) (DAll.op' (sp_fieldAddrB rfl isBlk rfl ft34_0 vt3 (by decide)) trivial rfl (From.ok (ps := [(none, 0)]) ⟨⟨rfl, rfl⟩, trivial⟩) (DAll.op' (sp_loadB rfl isBlk rfl vt3 rfl) trivial rfl (From.ok (ps := [(none, 0)]) ⟨⟨rfl, rfl⟩, trivial⟩) (DAll.op' (sp_sub rfl rfl rfl h4) trivial rfl (From.ok (ps := []) trivial) (DAll.op' (sp_assign rfl rfl) trivial rfl (From.ok (ps := []) trivial) (.nil)))))))))
  refine op0 (sp_assign rfl rfl) rfl trivial rfl rfl ?_
  refine TL.nil ?_
  refine TC.seq ?_
  refine TC.region ?_
  refine op1 4 rfl (sp_loadB rfl isBlk rfl vt39 rfl) rfl trivial rfl rfl ?_
  refine op0 (sp_move rfl rfl) rfl trivial rfl rfl ?_
  refine op0 (sp_move rfl rfl) rfl trivial rfl rfl ?_
  refine op0 (sp_move rfl rfl) rfl trivial rfl rfl ?_
  obtain ⟨h5, h⟩ := chk_inv h
  refine op0 (sp_add rfl rfl rfl h5) rfl trivial rfl rfl ?_
  refine op0 (sp_min rfl rfl rfl) rfl trivial rfl rfl ?_
  refine op0 (sp_build (qs := [(0, .val (.int .i64 r13)), (1, .val (.int .i64 (min (43199 : Int) (r13 + (x11.2 - x11.1)))))]) rfl bt34 rfl rfl rfl rfl) rfl trivial rfl rfl ?_
  refine op0 (sp_buildSlice (qs := [.agg [.val (.int .i64 r13), .val (.int .i64 (min (43199 : Int) (r13 + (x11.2 - x11.1))))]]) (need := []) (els := List.map en_api_Span ([(r13, (min (43199 : Int) (r13 + (x11.2 - x11.1))))] : List (Int × Int))) 15 rfl sl39 (by decide) (by decide) rfl rfl rfl (.v (.v (.nil))) (map_len fun _ => rfl) rfl rfl rfl) rfl trivial rfl rfl ?_
  obtain ⟨h6, h⟩ := chk_inv h
  refine appM 4 0 (N := y12.length) (N2 := ([(r13, (min (43199 : Int) (r13 + (x11.2 - x11.1))))] : List (Int × Int)).length) 16 rfl rfl trivial rfl rfl rfl rfl rfl isOwn rfl sl39 (len_map _ _) (len_map _ _) h6 (map_app _ _ _) rfl ?_
  refine stoB 5 (cells' := [.ref 16]) rfl rfl trivial rfl rfl rfl rfl vt39 rfl rfl rfl ?_
  refine TL.nil ?_
  refine TC.seq ?_
  refine TC.region ?_
  refine op0 (sp_move rfl rfl) rfl trivial rfl rfl ?_
  refine op0 (sp_move rfl rfl) rfl trivial rfl rfl ?_
  obtain ⟨h7, h⟩ := chk_inv h
  refine op0 (sp_add rfl rfl rfl h7) rfl trivial rfl rfl ?_
  obtain ⟨h8, h⟩ := chk_inv h
  refine op0 (sp_sub rfl rfl rfl h8) rfl trivial rfl rfl ?_
  refine op0 (sp_assign rfl rfl) rfl trivial rfl rfl ?_
  refine TL.nil ?_
  refine TC.seq ?_
  refine TC.region ?_
  refine op0 (sp_move rfl rfl) rfl trivial rfl rfl ?_
  refine op0 (sp_geq rfl rfl rfl) rfl trivial rfl rfl ?_
  refine TL.nil ?_
  refine TC.cond (b := (decide ((0 : Int) ≤ ((r13 + (x11.2 - x11.1)) - 43200)))) rfl (fun h9 => ?_) (fun h9 => ?_)
  · have h := cond_t h h9
    refine TC.region ?_
    refine op1 5 rfl (sp_loadB rfl isBlk rfl vt39 rfl) rfl trivial rfl rfl ?_
    refine op0 (sp_move rfl rfl) rfl trivial rfl rfl ?_
    refine op0 (sp_build (qs := [(1, .val (.int .i64 ((r13 + (x11.2 - x11.1)) - 43200)))]) rfl bt34 rfl rfl rfl rfl) rfl trivial rfl rfl ?_
    refine op0 (sp_buildSlice (qs := [.agg [.val (.int .i64 0), .val (.int .i64 ((r13 + (x11.2 - x11.1)) - 43200))]]) (need := []) (els := List.map en_api_Span ([(0, ((r13 + (x11.2 - x11.1)) - 43200))] : List (Int × Int))) 17 rfl sl39 (by decide) (by decide) rfl rfl rfl (.v (.v (.nil))) (map_len fun _ => rfl) rfl rfl rfl) rfl trivial rfl rfl ?_
    obtain ⟨h10, h⟩ := chk_inv h
    refine appM 1 0 (N := (y12 ++ ([(r13, (min (43199 : Int) (r13 + (x11.2 - x11.1))))] : List (Int × Int))).length) (N2 := ([(0, ((r13 + (x11.2 - x11.1)) - 43200))] : List (Int × Int)).length) 18 rfl rfl trivial rfl rfl rfl rfl rfl isOwn rfl sl39 (len_map _ _) (len_map _ _) h10 (map_app _ _ _) rfl ?_
    refine stoB 6 (cells' := [.ref 18]) rfl rfl trivial rfl rfl rfl rfl vt39 rfl rfl rfl ?_
    refine TL.nil ?_
    refine TC.inBlock ?_
    cases h
    exact bodyEnd [(10, 18)] ⟨mem_at 4 rfl, mem_at 5 rfl, mem_at 0 rfl, mem_at 6 rfl, trivial⟩ rfl
  · have h := cond_f h h9
    refine TC.skip ?_
    refine TC.inBlock ?_
    cases h
    exact bodyEnd [(10, 16)] ⟨mem_at 3 rfl, mem_at 4 rfl, mem_at 0 rfl, mem_at 5 rfl, trivial⟩ rfl
def ev_dial_Shows (n : Nat) (w1 : Int) (w2 : Int) (w3 : Int) (w4 : List (Int × Int × (List (Int × Int × Int)) × Int × Int)) (face5 : Int) (at_6 : Int) (wind7 : Int) (wind8 : Int) : Option ((List (Int × Int)) × Int) :=
  (ev_dial_newLook n w1 w2 w3 w4 face5 at_6 wind7 wind8).bind fun r9 => cond (r9.2.2.2.2.2.2.2.2.2.2.2.2.2.2 != 0) (some (([] : List (Int × Int)), r9.2.2.2.2.2.2.2.2.2.2.2.2.2.2)) ((ev_dial_look_all (loopStep (ev_dial_Shows_r0 n)) n r9.1 r9.2.1 r9.2.2.1 r9.2.2.2.1 r9.2.2.2.2.1 r9.2.2.2.2.2.1 r9.2.2.2.2.2.2.1 r9.2.2.2.2.2.2.2.1 r9.2.2.2.2.2.2.2.2.1 r9.2.2.2.2.2.2.2.2.2.1 r9.2.2.2.2.2.2.2.2.2.2.1 r9.2.2.2.2.2.2.2.2.2.2.2.1 r9.2.2.2.2.2.2.2.2.2.2.2.2.1 r9.2.2.2.2.2.2.2.2.2.2.2.2.2.1 (([] : List (Int × Int)), 0)).bind fun q14 => cond (q14.2 == 0) ((ev_dial_joined n q14.1).bind fun r15 => some (r15.1, 0)) (none))
set_option maxRecDepth 100000 in
set_option maxHeartbeats 2000000 in
theorem ft_dial_Shows {n : Nat} {w1 : Int} {w2 : Int} {w3 : Int} {w4 : List (Int × Int × (List (Int × Int × Int)) × Int × Int)} {face5 : Int} {at_6 : Int} {wind7 : Int} {wind8 : Int} {r : (List (Int × Int)) × Int} (h : ev_dial_Shows n w1 w2 w3 w4 face5 at_6 wind7 wind8 = some r) : FT Try.prog 43 [.agg [.val (.int .i64 w1), .val (.int .i64 w2), .val (.int .i64 w3), .ref 0], .val (.int .i64 face5), .val (.int .i64 at_6), .agg [.val (.int .i64 wind7), .val (.int .i64 wind8)]] [] [.ro 0 5 (List.map en_api_DialFace w4)] (.tup [.ref 500, .val (.int .i64 r.2)]) [.row 500 34 2 (List.map en_api_Span r.1)] := by
  refine introM (nz := 61) 1 [] Try.func43 rfl rfl rfl rfl (fun w0 M0 R0 env0 => ?_)
  rw [ev_dial_Shows] at h
  refine TC.seq ?_
  refine TC.region ?_
  refine op0 (sp_box 2 rfl rfl rfl rfl rfl) rfl trivial rfl rfl ?_
  refine op0 (sp_box 3 rfl rfl rfl rfl rfl) rfl trivial rfl rfl ?_
  refine op0 (sp_assign rfl rfl) rfl trivial rfl rfl ?_
  refine op0 (sp_assign rfl rfl) rfl trivial rfl rfl ?_
  refine TL.nil ?_
  refine TC.seq ?_
  refine TC.region ?_
  refine op1 1 rfl (sp_loadBA rfl isBlk rfl vt111 rfl rfl) rfl trivial rfl rfl ?_
  refine op0 (sp_move rfl rfl) rfl trivial rfl rfl ?_
  refine op0 (sp_move rfl rfl) rfl trivial rfl rfl ?_
  refine op1 0 rfl (sp_loadBA rfl isBlk rfl vt34 rfl rfl) rfl trivial rfl rfl ?_
  obtain ⟨r9, h1, h⟩ := bind_inv h
  refine op1 3 rfl (sp_call (avs := [.agg [.val (.int .i64 w1), .val (.int .i64 w2), .val (.int .i64 w3), .ref 0], .val (.int .i64 face5), .val (.int .i64 at_6), .agg [.val (.int .i64 wind7), .val (.int .i64 wind8)]]) (need := [.ro 0 5 (List.map en_api_DialFace w4)]) (v := .tup [.agg [.val (.int .i64 r9.1), .val (.int .i64 r9.2.1), .val (.int .i64 r9.2.2.1), .ref 4, .ref 5, .val (.int .i64 r9.2.2.2.2.2.1), .val (.int .i64 r9.2.2.2.2.2.2.1), .ref 6, .val (.int .i64 r9.2.2.2.2.2.2.2.2.1), .val (.int .i64 r9.2.2.2.2.2.2.2.2.2.1), .val (.int .i64 r9.2.2.2.2.2.2.2.2.2.2.1), .val (.int .i64 r9.2.2.2.2.2.2.2.2.2.2.2.1), .val (.int .i64 r9.2.2.2.2.2.2.2.2.2.2.2.2.1), .val (.int .i64 r9.2.2.2.2.2.2.2.2.2.2.2.2.2.1)], .val (.int .i64 r9.2.2.2.2.2.2.2.2.2.2.2.2.2.2)]) (news := [.ro 4 5 (List.map en_api_DialFace r9.2.2.2.1), .row 5 238 6 (List.map en_dial_face r9.2.2.2.2.1), .ro 6 3 (List.map en_api_DialLink r9.2.2.2.2.2.2.2.1)]) rfl rfl rfl Try.call94 (atJ [] [(0, 4), (1, 5), (2, 6)] (fc_dial_newLook h1) rfl rfl) (.inl (roAll rfl))) rfl trivial rfl rfl ?_
  refine op0 (sp_move rfl rfl) rfl trivial rfl rfl ?_
  refine op0 (sp_extract rfl rfl rfl) rfl trivial rfl rfl ?_
  refine op0 (sp_extract rfl rfl rfl) rfl trivial rfl rfl ?_
  refine op0 (sp_alloc 7 rfl Try.zeroValue240 rfl) rfl trivial rfl rfl ?_
  refine stoB 0 (cells' := [.val (.int .i64 r9.1), .val (.int .i64 r9.2.1), .val (.int .i64 r9.2.2.1), .ref 4, .ref 5, .val (.int .i64 r9.2.2.2.2.2.1), .val (.int .i64 r9.2.2.2.2.2.2.1), .ref 6, .val (.int .i64 r9.2.2.2.2.2.2.2.2.1), .val (.int .i64 r9.2.2.2.2.2.2.2.2.2.1), .val (.int .i64 r9.2.2.2.2.2.2.2.2.2.2.1), .val (.int .i64 r9.2.2.2.2.2.2.2.2.2.2.2.1), .val (.int .i64 r9.2.2.2.2.2.2.2.2.2.2.2.2.1), .val (.int .i64 r9.2.2.2.2.2.2.2.2.2.2.2.2.2.1)]) rfl rfl trivial rfl rfl rfl rfl vt240 rfl rfl rfl ?_
  refine op0 (sp_assign rfl rfl) rfl trivial rfl rfl ?_
  refine TL.nil ?_
  refine TC.seq ?_
  refine TC.seq ?_
  refine TC.region ?_
  refine op0 (sp_move rfl rfl) rfl trivial rfl rfl ?_
  refine op0 (sp_neq rfl rfl rfl) rfl trivial rfl rfl ?_
  refine TL.nil ?_
  refine TC.cond (b := (r9.2.2.2.2.2.2.2.2.2.2.2.2.2.2 != 0)) rfl (fun h2 => ?_) (fun h2 => ?_)
  · have h := cond_t h h2
    refine TC.seq ?_
    refine TC.region ?_
    refine op0 (sp_move rfl rfl) rfl trivial rfl rfl ?_
    refine op0 (sp_assign rfl rfl) rfl trivial rfl rfl ?_
    refine op0 (sp_assign rfl rfl) rfl trivial rfl rfl ?_
    refine TL.nil ?_
    refine nilRowC 8 8 34 2 (List.map en_api_Span []) rfl rfl rfl ?_
    cases h
    exact retM [(500, 8)] 7 1 [] rfl (.tmp rfl (.tmp rfl .nil)) rfl ⟨mem_at 0 rfl, trivial⟩ rfl rfl trivial rfl
  · have h := cond_f h h2
    refine TC.skip ?_
    refine TC.seq ?_
    refine TC.region ?_
    refine op0 (sp_alloc 9 rfl Try.zeroValue39 rfl) rfl trivial rfl rfl ?_
    refine TL.nil ?_
    refine TC.seq ?_
    refine TC.seq ?_
    refine TC.region ?_
    refine op1 1 rfl (sp_loadBA rfl isBlk rfl vt240 rfl rfl) rfl trivial rfl rfl ?_
    refine op0 (sp_makeFunc (fi := [.tmp 28]) (ca := []) (fa := [.agg [.val (.int .i64 r9.1), .val (.int .i64 r9.2.1), .val (.int .i64 r9.2.2.1), .ref 4, .ref 5, .val (.int .i64 r9.2.2.2.2.2.1), .val (.int .i64 r9.2.2.2.2.2.2.1), .ref 6, .val (.int .i64 r9.2.2.2.2.2.2.2.2.1), .val (.int .i64 r9.2.2.2.2.2.2.2.2.2.1), .val (.int .i64 r9.2.2.2.2.2.2.2.2.2.2.1), .val (.int .i64 r9.2.2.2.2.2.2.2.2.2.2.2.1), .val (.int .i64 r9.2.2.2.2.2.2.2.2.2.2.2.2.1), .val (.int .i64 r9.2.2.2.2.2.2.2.2.2.2.2.2.2.1)]]) (cb := []) rfl rfl rfl) rfl trivial rfl rfl ?_
    refine TL.nil ?_
    refine TC.block ?_
    refine nilCellC 0 10 34 2 9 (List.map en_api_Span []) [.ref 10] rfl rfl rfl ?_
    refine TC.freeze 4 rfl ?_
    refine TC.pin 12 9 rfl rfl fun u10 => ?_
    obtain ⟨q14, h11, h⟩ := bind_inv h
    refine rangeO (T := []) (T' := []) (k := 11) (gm := 1) (grec := 13) (S := [(12, .ptr 9 0)]) (V0 := (fun y12 : (List (Int × Int)) => [.pin 12 9 u10, .row 10 34 2 (List.map en_api_Span y12), .blk 9 [.ref 10] 39])) (needI := [.ro 4 5 (List.map en_api_DialFace r9.2.2.2.1), .ro 5 6 (List.map en_dial_face r9.2.2.2.2.1), .ro 6 3 (List.map en_api_DialLink r9.2.2.2.2.2.2.2.1)]) (ps := [30]) (jl := []) (ea := ye_funcapi_Span_bool) (en := yn_funcapi_Span_bool) (f := (ev_dial_Shows_r0 n)) (s0 := (([] : List (Int × Int)), 0)) (yf := q14) (v := .tup []) (fi := [.agg [.val (.int .i64 r9.1), .val (.int .i64 r9.2.1), .val (.int .i64 r9.2.2.1), .ref 4, .ref 5, .val (.int .i64 r9.2.2.2.2.2.1), .val (.int .i64 r9.2.2.2.2.2.2.1), .ref 6, .val (.int .i64 r9.2.2.2.2.2.2.2.2.1), .val (.int .i64 r9.2.2.2.2.2.2.2.2.2.1), .val (.int .i64 r9.2.2.2.2.2.2.2.2.2.2.1), .val (.int .i64 r9.2.2.2.2.2.2.2.2.2.2.2.1), .val (.int .i64 r9.2.2.2.2.2.2.2.2.2.2.2.2.1), .val (.int .i64 r9.2.2.2.2.2.2.2.2.2.2.2.2.2.1)]]) (caps := [])
      ⟨fun x y r hr l rec hrd w0 M0 R0 => ok_dial_Shows_r0 (u10 := u10) hr l rec hrd w0 M0 R0, ⟨rfl, trivial⟩, At.mem (is := [0, 1, 2]) ⟨rfl, rfl, rfl, trivial⟩, At.mem (is := [4, 5, 6]) ⟨rfl, rfl, rfl, trivial⟩, rfl, pinsIn [9] [0] ⟨⟨_, _, fun _ => rfl⟩, trivial⟩ rfl, rfl, fun _ => rfl, fun _ _ => rfl, fun _ => rfl, fun _ _ => rfl, fun _ => rfl, fun _ => rfl, fun _ => rfl, rfl, rfl, fun _ => rfl, rfl⟩
      rfl rfl Try.call95 (takesNil rfl) 9 rfl (fun I hI => atT [(3, 11), (0, 4), (1, 5), (2, 6)] [(3, 11)] (ft_dial_look_all hI h11) rfl rfl rfl) (fun d => ?_)
    rcases cond_cases h with ⟨h12, h⟩ | ⟨h12, h⟩
    · refine done0 h12 ?_
      refine TC.inBlock ?_
      refine TC.seq ?_
      refine TC.region ?_
      refine op1 3 rfl (sp_loadB rfl isBlk rfl vt39 rfl) rfl trivial rfl rfl ?_
      obtain ⟨r15, h13, h⟩ := bind_inv h
      refine opT (take := [.row 10 34 2 (List.map en_api_Span q14.1)]) (need := []) (V' := [.row 19 34 2 (List.map en_api_Span r15.1), .row 10 34 2 (List.map en_api_Span r15.2), .inv 1 (marksI (d :: [])), .pin 12 9 u10, .blk 9 [.ref 10] 39]) [2] [] (ts_call (avs := [.ref 10]) (take := [.row 10 34 2 (List.map en_api_Span q14.1)]) (need := []) (v := .ref 19) (news := [.row 19 34 2 (List.map en_api_Span r15.1), .row 10 34 2 (List.map en_api_Span r15.2)]) rfl rfl rfl Try.call97 (atT [(0, 10)] [(500, 19), (0, 10)] (ft_dial_joined h13) rfl rfl rfl) rfl rfl) trivial rfl ⟨rfl, trivial⟩ trivial rfl rfl ?_
      refine op0 (sp_assign rfl rfl) rfl trivial rfl rfl ?_
      refine op0 (sp_assign rfl rfl) rfl trivial rfl rfl ?_
      refine TL.nil ?_
      cases h
      exact retM [(500, 19)] 2 1 [] rfl (.tmp rfl (.tmp rfl .nil)) rfl ⟨mem_at 0 rfl, trivial⟩ rfl rfl trivial rfl
    · exact none_no h
theorem fc_dial_Shows {n : Nat} {w1 : Int} {w2 : Int} {w3 : Int} {w4 : List (Int × Int × (List (Int × Int × Int)) × Int × Int)} {face5 : Int} {at_6 : Int} {wind7 : Int} {wind8 : Int} {r : (List (Int × Int)) × Int} (h : ev_dial_Shows n w1 w2 w3 w4 face5 at_6 wind7 wind8 = some r) : FC Try.prog 43 [.agg [.val (.int .i64 w1), .val (.int .i64 w2), .val (.int .i64 w3), .ref 0], .val (.int .i64 face5), .val (.int .i64 at_6), .agg [.val (.int .i64 wind7), .val (.int .i64 wind8)]] [.ro 0 5 (List.map en_api_DialFace w4)] (.tup [.ref 500, .val (.int .i64 r.2)]) [.row 500 34 2 (List.map en_api_Span r.1)] := (ft_dial_Shows h).toFC rfl
/- dial_look_off_1 -/
def ev_dial_look_off_1 (n : Nat) (a1 : Int) (a2 : Int) (b3 : Int) (b4 : Int) : Option Int :=
  chk (in64 (a1 - b3)) <| some (a1 - b3)
set_option maxRecDepth 100000 in
set_option maxHeartbeats 2000000 in
theorem fc_dial_look_off_1 {n : Nat} {a1 : Int} {a2 : Int} {b3 : Int} {b4 : Int} {r : Int} (h : ev_dial_look_off_1 n a1 a2 b3 b4 = some r) : FC Try.prog 193 [.agg [.val (.int .i64 a1), .val (.int .i64 a2)], .agg [.val (.int .i64 b3), .val (.int .i64 b4)]] [] (.val (.int .i64 r)) [] := by
  refine introJ (nz := 10) Try.func193 rfl rfl rfl (fun w0 R0 env0 => ?_)
  rw [ev_dial_look_off_1] at h
  refine TC.seq ?_
  refine TC.region ?_
  refine op0 (sp_box 0 rfl rfl rfl rfl rfl) rfl trivial rfl rfl ?_
  refine op0 (sp_box 1 rfl rfl rfl rfl rfl) rfl trivial rfl rfl ?_
  refine op0 (sp_assign rfl rfl) rfl trivial rfl rfl ?_
  refine TL.nil ?_
  refine TC.seq ?_
  refine TC.region ?_
  refine op1 1 rfl (sp_fieldAddrB rfl isBlk rfl ft34_0 vt3 (by decide)) rfl trivial rfl rfl ?_
  refine op1 1 rfl (sp_loadB rfl isBlk rfl vt3 rfl) rfl trivial rfl rfl ?_
  refine op1 0 rfl (sp_fieldAddrB rfl isBlk rfl ft34_0 vt3 (by decide)) rfl trivial rfl rfl ?_
  refine op1 0 rfl (sp_loadB rfl isBlk rfl vt3 rfl) rfl trivial rfl rfl ?_
  obtain ⟨h1, h⟩ := chk_inv h
  refine op0 (sp_sub rfl rfl rfl h1) rfl trivial rfl rfl ?_
  refine op0 (sp_assign rfl rfl) rfl trivial rfl rfl ?_
  refine TL.nil ?_
  cases h
  exact retJ [] (.tmp rfl .nil) rfl trivial rfl rfl
/- dial_look_off_2 -/
def ev_dial_look_off_2 (n : Nat) (a1 : Int) (a2 : Int) (b3 : Int) (b4 : Int) : Option Int :=
  chk (in64 (a2 - b4)) <| some (a2 - b4)
set_option maxRecDepth 100000 in
set_option maxHeartbeats 2000000 in
theorem fc_dial_look_off_2 {n : Nat} {a1 : Int} {a2 : Int} {b3 : Int} {b4 : Int} {r : Int} (h : ev_dial_look_off_2 n a1 a2 b3 b4 = some r) : FC Try.prog 195 [.agg [.val (.int .i64 a1), .val (.int .i64 a2)], .agg [.val (.int .i64 b3), .val (.int .i64 b4)]] [] (.val (.int .i64 r)) [] := by
  refine introJ (nz := 10) Try.func195 rfl rfl rfl (fun w0 R0 env0 => ?_)
  rw [ev_dial_look_off_2] at h
  refine TC.seq ?_
  refine TC.region ?_
  refine op0 (sp_box 0 rfl rfl rfl rfl rfl) rfl trivial rfl rfl ?_
  refine op0 (sp_box 1 rfl rfl rfl rfl rfl) rfl trivial rfl rfl ?_
  refine op0 (sp_assign rfl rfl) rfl trivial rfl rfl ?_
  refine TL.nil ?_
  refine TC.seq ?_
  refine TC.region ?_
  refine op1 1 rfl (sp_fieldAddrB rfl isBlk rfl ft34_1 vt3 (by decide)) rfl trivial rfl rfl ?_
  refine op1 1 rfl (sp_loadB rfl isBlk rfl vt3 rfl) rfl trivial rfl rfl ?_
  refine op1 0 rfl (sp_fieldAddrB rfl isBlk rfl ft34_1 vt3 (by decide)) rfl trivial rfl rfl ?_
  refine op1 0 rfl (sp_loadB rfl isBlk rfl vt3 rfl) rfl trivial rfl rfl ?_
  obtain ⟨h1, h⟩ := chk_inv h
  refine op0 (sp_sub rfl rfl rfl h1) rfl trivial rfl rfl ?_
  refine op0 (sp_assign rfl rfl) rfl trivial rfl rfl ?_
  refine TL.nil ?_
  cases h
  exact retJ [] (.tmp rfl .nil) rfl trivial rfl rfl
/- dial_look_off -/
def ev_dial_look_off_r0 (n : Nat) (x18 : Int × Int) (y19 : (List (Int × Int))) : Option (Nat × ((List (Int × Int)))) :=
  chk (room 16 (y19.length + ([(x18.1, x18.2)] : List (Int × Int)).length)) <| some (0, (y19 ++ ([(x18.1, x18.2)] : List (Int × Int))))
set_option maxRecDepth 100000 in
set_option maxHeartbeats 2000000 in
theorem ok_dial_look_off_r0 {n : Nat} {u17 : Value} {u16 : Value} {u15 : Value} {k1 : Int} {k2 : Int} {k3 : Int} {k6 : Int} {k7 : Int} {k9 : Int} {k10 : Int} {k11 : Int} {k12 : Int} {k13 : Int} {k14 : Int} {k4 : List (Int × Int × (List (Int × Int × Int)) × Int × Int)} {k5 : List (Int × Int × (List (Int × Int × Int)) × Int × Int × Int)} {k8 : List (Int × Int × Int)} {x18 : Int × Int} {y19 : (List (Int × Int))} {r : Nat × ((List (Int × Int)))} (h : ev_dial_look_off_r0 n x18 y19 = some r) (l0 : Nat) (rec : Loop) (hrd : rec.state = .ready) (w0 : World) (M0 R0 : Nat → Prop) : TC Try.prog ⟨w0, M0, R0⟩ ⟨25, some l0, []⟩ (RoundQ ⟨w0, M0, R0⟩ (.inv 12 (recI l0 (busyR rec)) :: [.pin 11 6 u17, .pin 10 5 u16, .pin 9 4 u15, .row 7 34 2 (List.map en_api_Span r.2), .blk 6 [.ref 7] 39, .blk 5 [.val (.int .i64 0), .val (.int .i64 0)] 34, .blk 4 [.val (.int .i64 k1), .val (.int .i64 k2), .val (.int .i64 k3), .ref 0, .ref 1, .val (.int .i64 k6), .val (.int .i64 k7), .ref 2, .val (.int .i64 k9), .val (.int .i64 k10), .val (.int .i64 k11), .val (.int .i64 k12), .val (.int .i64 k13), .val (.int .i64 k14)] 240, .ro 0 5 (List.map en_api_DialFace k4), .ro 1 6 (List.map en_dial_face k5), .ro 2 3 (List.map en_api_DialLink k8)]) [] r.1) [.code (sub (bodyOf Try.f98) [1, 1, 0, 1, 0, 0]), .beginRound, .code (sub (bodyOf Try.f98) [1, 1, 0, 1, 0, 1])] (pSlots [7] (ye_funcapi_Span_bool x18) [(1, .ptr 4 0), (2, .ptr 5 0), (3, .ptr 6 0)]) (.inv 12 (recI l0 rec) :: yn_funcapi_Span_bool x18 ++ (fun y19 : (List (Int × Int)) => [.pin 11 6 u17, .pin 10 5 u16, .pin 9 4 u15, .row 7 34 2 (List.map en_api_Span y19), .blk 6 [.ref 7] 39, .blk 5 [.val (.int .i64 0), .val (.int .i64 0)] 34, .blk 4 [.val (.int .i64 k1), .val (.int .i64 k2), .val (.int .i64 k3), .ref 0, .ref 1, .val (.int .i64 k6), .val (.int .i64 k7), .ref 2, .val (.int .i64 k9), .val (.int .i64 k10), .val (.int .i64 k11), .val (.int .i64 k12), .val (.int .i64 k13), .val (.int .i64 k14)] 240, .ro 0 5 (List.map en_api_DialFace k4), .ro 1 6 (List.map en_dial_face k5), .ro 2 3 (List.map en_api_DialLink k8)]) y19) := by
  rw [ev_dial_look_off_r0] at h
  refine subJ (s' := [(1, .ptr 4 0), (2, .ptr 5 0), (3, .ptr 6 0), (7, .agg [.val (.int .i64 x18.1), .val (.int .i64 x18.2)])]) (V' := [.inv 12 (recI l0 rec), .pin 11 6 u17, .pin 10 5 u16, .pin 9 4 u15, .row 7 34 2 (List.map en_api_Span y19), .blk 6 [.ref 7] 39, .blk 5 [.val (.int .i64 0), .val (.int .i64 0)] 34, .blk 4 [.val (.int .i64 k1), .val (.int .i64 k2), .val (.int .i64 k3), .ref 0, .ref 1, .val (.int .i64 k6), .val (.int .i64 k7), .ref 2, .val (.int .i64 k9), .val (.int .i64 k10), .val (.int .i64 k11), .val (.int .i64 k12), .val (.int .i64 k13), .val (.int .i64 k14)] 240, .ro 0 5 (List.map en_api_DialFace k4), .ro 1 6 (List.map en_dial_face k5), .ro 2 3 (List.map en_api_DialLink k8)]) [] ?_ ⟨rfl, rfl, rfl, rfl, trivial⟩ ⟨mem_at 0 rfl, mem_at 1 rfl, mem_at 2 rfl, mem_at 3 rfl, mem_at 4 rfl, mem_at 5 rfl, mem_at 6 rfl, mem_at 7 rfl, mem_at 8 rfl, mem_at 9 rfl, mem_at 10 rfl, trivial⟩ rfl
  refine TC.region ?_
  refine op0 (sp_alloc 13 rfl Try.zeroValue34 rfl) rfl trivial rfl rfl ?_
  refine stoB 0 (cells' := [.val (.int .i64 x18.1), .val (.int .i64 x18.2)]) rfl rfl trivial rfl rfl rfl rfl vt34 rfl rfl rfl ?_
  refine TL.nil ?_
  refine TC.beginRound 1 rfl hrd ?_
  refine TC.block ?_
  refine TC.region ?_
  refine op1 6 rfl (sp_loadB rfl isBlk rfl vt39 rfl) rfl trivial rfl rfl ?_
  refine op1 0 rfl (sp_loadBA rfl isBlk rfl vt34 rfl rfl) rfl trivial rfl rfl ?_
  refine op0 (sp_buildSlice (qs := [.agg [.val (.int .i64 x18.1), .val (.int .i64 x18.2)]]) (need := []) (els := List.map en_api_Span ([(x18.1, x18.2)] : List (Int × Int))) 14 rfl sl39 (by decide) (by decide) rfl rfl rfl (.v (.v (.nil))) (map_len fun _ => rfl) rfl rfl rfl) rfl trivial rfl rfl ?_
  obtain ⟨h1, h⟩ := chk_inv h
  refine appM 6 0 (N := y19.length) (N2 := ([(x18.1, x18.2)] : List (Int × Int)).length) 15 rfl rfl trivial rfl rfl rfl rfl rfl isOwn rfl sl39 (len_map _ _) (len_map _ _) h1 (map_app _ _ _) rfl ?_
  refine stoB 7 (cells' := [.ref 15]) rfl rfl trivial rfl rfl rfl rfl vt39 rfl rfl rfl ?_
  refine TL.nil ?_
  refine TC.inBlock ?_
  cases h
  exact bodyEnd [(7, 15)] ⟨mem_at 3 rfl, mem_at 4 rfl, mem_at 5 rfl, mem_at 6 rfl, mem_at 0 rfl, mem_at 7 rfl, mem_at 8 rfl, mem_at 9 rfl, mem_at 10 rfl, mem_at 11 rfl, mem_at 12 rfl, trivial⟩ rfl
def ev_dial_look_off (n : Nat) (k1 : Int) (k2 : Int) (k3 : Int) (k4 : List (Int × Int × (List (Int × Int × Int)) × Int × Int)) (k5 : List (Int × Int × (List (Int × Int × Int)) × Int × Int × Int)) (k6 : Int) (k7 : Int) (k8 : List (Int × Int × Int)) (k9 : Int) (k10 : Int) (k11 : Int) (k12 : Int) (k13 : Int) (k14 : Int) : Option (Int × Int) :=
  (ev_dial_look_all (loopStep (ev_dial_look_off_r0 n)) n k1 k2 k3 k4 k5 k6 k7 k8 k9 k10 k11 k12 k13 k14 (([] : List (Int × Int)), 0)).bind fun q20 => cond (q20.2 == 0) ((ev_slices_MinFunc_Lapi_Span_api_Span n q20.1 (fun a => ev_dial_look_off_1 n a.1 a.2.1 a.2.2.1 a.2.2.2)).bind fun r21 => chk (in64 (r21.1 - k12)) <| (ev_slices_MaxFunc_Lapi_Span_api_Span n q20.1 (fun a => ev_dial_look_off_2 n a.1 a.2.1 a.2.2.1 a.2.2.2)).bind fun r22 => chk (in64 (r22.2 - k12)) <| some ((r21.1 - k12), (r22.2 - k12))) (none)
set_option maxRecDepth 100000 in
set_option maxHeartbeats 2000000 in
theorem ft_dial_look_off {n : Nat} {k1 : Int} {k2 : Int} {k3 : Int} {k4 : List (Int × Int × (List (Int × Int × Int)) × Int × Int)} {k5 : List (Int × Int × (List (Int × Int × Int)) × Int × Int × Int)} {k6 : Int} {k7 : Int} {k8 : List (Int × Int × Int)} {k9 : Int} {k10 : Int} {k11 : Int} {k12 : Int} {k13 : Int} {k14 : Int} {r : Int × Int} (h : ev_dial_look_off n k1 k2 k3 k4 k5 k6 k7 k8 k9 k10 k11 k12 k13 k14 = some r) : FT Try.prog 98 [.agg [.val (.int .i64 k1), .val (.int .i64 k2), .val (.int .i64 k3), .ref 0, .ref 1, .val (.int .i64 k6), .val (.int .i64 k7), .ref 2, .val (.int .i64 k9), .val (.int .i64 k10), .val (.int .i64 k11), .val (.int .i64 k12), .val (.int .i64 k13), .val (.int .i64 k14)]] [] [.ro 0 5 (List.map en_api_DialFace k4), .ro 1 6 (List.map en_dial_face k5), .ro 2 3 (List.map en_api_DialLink k8)] (.agg [.val (.int .i64 r.1), .val (.int .i64 r.2)]) [] := by
  refine introM (nz := 25) 3 [] Try.func98 rfl rfl rfl rfl (fun w0 M0 R0 env0 => ?_)
  rw [ev_dial_look_off] at h
  refine TC.seq ?_
  refine TC.region ?_
  refine op0 (sp_box 4 rfl rfl rfl rfl rfl) rfl trivial rfl rfl ?_
  refine op0 (sp_alloc 5 rfl Try.zeroValue34 rfl) rfl trivial rfl rfl ?_
  refine TL.nil ?_
  refine TC.seq ?_
  refine TC.region ?_
  refine op0 (sp_alloc 6 rfl Try.zeroValue39 rfl) rfl trivial rfl rfl ?_
  refine TL.nil ?_
  refine TC.seq ?_
  refine TC.seq ?_
  refine TC.region ?_
  refine op1 2 rfl (sp_loadBA rfl isBlk rfl vt240 rfl rfl) rfl trivial rfl rfl ?_
  refine op0 (sp_makeFunc (fi := [.tmp 5]) (ca := []) (fa := [.agg [.val (.int .i64 k1), .val (.int .i64 k2), .val (.int .i64 k3), .ref 0, .ref 1, .val (.int .i64 k6), .val (.int .i64 k7), .ref 2, .val (.int .i64 k9), .val (.int .i64 k10), .val (.int .i64 k11), .val (.int .i64 k12), .val (.int .i64 k13), .val (.int .i64 k14)]]) (cb := []) rfl rfl rfl) rfl trivial rfl rfl ?_
  refine TL.nil ?_
  refine TC.block ?_
  refine nilCellC 0 7 34 2 6 (List.map en_api_Span []) [.ref 7] rfl rfl rfl ?_
  refine TC.pin 9 4 rfl rfl fun u15 => ?_
  refine TC.pin 10 5 rfl rfl fun u16 => ?_
  refine TC.pin 11 6 rfl rfl fun u17 => ?_
  obtain ⟨q20, h2, h⟩ := bind_inv h
  refine rangeO (T := []) (T' := []) (k := 8) (gm := 3) (grec := 12) (S := [(1, .ptr 4 0), (2, .ptr 5 0), (3, .ptr 6 0)]) (V0 := (fun y19 : (List (Int × Int)) => [.pin 11 6 u17, .pin 10 5 u16, .pin 9 4 u15, .row 7 34 2 (List.map en_api_Span y19), .blk 6 [.ref 7] 39, .blk 5 [.val (.int .i64 0), .val (.int .i64 0)] 34, .blk 4 [.val (.int .i64 k1), .val (.int .i64 k2), .val (.int .i64 k3), .ref 0, .ref 1, .val (.int .i64 k6), .val (.int .i64 k7), .ref 2, .val (.int .i64 k9), .val (.int .i64 k10), .val (.int .i64 k11), .val (.int .i64 k12), .val (.int .i64 k13), .val (.int .i64 k14)] 240, .ro 0 5 (List.map en_api_DialFace k4), .ro 1 6 (List.map en_dial_face k5), .ro 2 3 (List.map en_api_DialLink k8)])) (needI := [.ro 0 5 (List.map en_api_DialFace k4), .ro 1 6 (List.map en_dial_face k5), .ro 2 3 (List.map en_api_DialLink k8)]) (ps := [7]) (jl := []) (ea := ye_funcapi_Span_bool) (en := yn_funcapi_Span_bool) (f := (ev_dial_look_off_r0 n)) (s0 := (([] : List (Int × Int)), 0)) (yf := q20) (v := .tup []) (fi := [.agg [.val (.int .i64 k1), .val (.int .i64 k2), .val (.int .i64 k3), .ref 0, .ref 1, .val (.int .i64 k6), .val (.int .i64 k7), .ref 2, .val (.int .i64 k9), .val (.int .i64 k10), .val (.int .i64 k11), .val (.int .i64 k12), .val (.int .i64 k13), .val (.int .i64 k14)]]) (caps := [])
    ⟨fun x y r hr l rec hrd w0 M0 R0 => ok_dial_look_off_r0 (u17 := u17) (u16 := u16) (u15 := u15) (k1 := k1) (k2 := k2) (k3 := k3) (k6 := k6) (k7 := k7) (k9 := k9) (k10 := k10) (k11 := k11) (k12 := k12) (k13 := k13) (k14 := k14) (k4 := k4) (k5 := k5) (k8 := k8) hr l rec hrd w0 M0 R0, ⟨rfl, rfl, rfl, trivial⟩, At.mem (is := [0, 1, 2, 3, 4, 5, 6, 8, 9, 10]) ⟨rfl, rfl, rfl, rfl, rfl, rfl, rfl, rfl, rfl, rfl, trivial⟩, At.mem (is := [8, 9, 10]) ⟨rfl, rfl, rfl, trivial⟩, rfl, pinsIn [4, 5, 6] [2, 1, 0] ⟨⟨_, _, fun _ => rfl⟩, ⟨_, _, fun _ => rfl⟩, ⟨_, _, fun _ => rfl⟩, trivial⟩ rfl, rfl, fun _ => rfl, fun _ _ => rfl, fun _ => rfl, fun _ _ => rfl, fun _ => rfl, fun _ => rfl, fun _ => rfl, rfl, rfl, fun _ => rfl, rfl⟩
    rfl rfl Try.call95 (takesNil rfl) 7 rfl (fun I hI => atT [(3, 8)] [(3, 8)] (ft_dial_look_all hI h2) rfl rfl rfl) (fun d => ?_)
  rcases cond_cases h with ⟨h3, h⟩ | ⟨h3, h⟩
  · refine done0 h3 ?_
    refine TC.inBlock ?_
    refine TC.seq ?_
    obtain ⟨r21, h4, h⟩ := bind_inv h
    obtain ⟨h5, h⟩ := chk_inv h
    obtain ⟨r22, h6, h⟩ := bind_inv h
    obtain ⟨h7, h⟩ := chk_inv h
    refine drawJ 12 [⟨.ref 7, [], [.blk 6 [.ref 7] 39], []⟩, ⟨.agg [.val (.int .i64 r21.1), .val (.int .i64 r21.2)], [], [.row 7 34 2 (List.map en_api_Span q20.1)], []⟩, ⟨.val (.int .i64 r21.1), [], [], []⟩, ⟨.ptr 4 11, [], [.blk 4 [.val (.int .i64 k1), .val (.int .i64 k2), .val (.int .i64 k3), .ref 0, .ref 1, .val (.int .i64 k6), .val (.int .i64 k7), .ref 2, .val (.int .i64 k9), .val (.int .i64 k10), .val (.int .i64 k11), .val (.int .i64 k12), .val (.int .i64 k13), .val (.int .i64 k14)] 240], []⟩, ⟨.val (.int .i64 k12), [], [.blk 4 [.val (.int .i64 k1), .val (.int .i64 k2), .val (.int .i64 k3), .ref 0, .ref 1, .val (.int .i64 k6), .val (.int .i64 k7), .ref 2, .val (.int .i64 k9), .val (.int .i64 k10), .val (.int .i64 k11), .val (.int .i64 k12), .val (.int .i64 k13), .val (.int .i64 k14)] 240], []⟩, ⟨.val (.int .i64 (r21.1 - k12)), [], [], []⟩, ⟨.ref 7, [], [.blk 6 [.ref 7] 39], []⟩, ⟨.agg [.val (.int .i64 r22.1), .val (.int .i64 r22.2)], [], [.row 7 34 2 (List.map en_api_Span q20.1)], []⟩, ⟨.val (.int .i64 r22.2), [], [], []⟩, ⟨.ptr 4 11, [], [.blk 4 [.val (.int .i64 k1), .val (.int .i64 k2), .val (.int .i64 k3), .ref 0, .ref 1, .val (.int .i64 k6), .val (.int .i64 k7), .ref 2, .val (.int .i64 k9), .val (.int .i64 k10), .val (.int .i64 k11), .val (.int .i64 k12), .val (.int .i64 k13), .val (.int .i64 k14)] 240], []⟩, ⟨.val (.int .i64 k12), [], [.blk 4 [.val (.int .i64 k1), .val (.int .i64 k2), .val (.int .i64 k3), .ref 0, .ref 1, .val (.int .i64 k6), .val (.int .i64 k7), .ref 2, .val (.int .i64 k9), .val (.int .i64 k10), .val (.int .i64 k11), .val (.int .i64 k12), .val (.int .i64 k13), .val (.int .i64 k14)] 240], []⟩, ⟨.val (.int .i64 (r22.2 - k12)), [], [], []⟩] rfl ?_ rfl ?_ rfl ?_ ?_
    · kernel_rfl
    · kernel_rfl
    · exact DAll.op' (sp_loadB rfl isBlk rfl vt39 rfl) trivial rfl (From.ok (ps := [(none, 5)]) ⟨⟨rfl, rfl⟩, trivial⟩) (DAll.op' (sp_call (avs := [.ref 7, .fn 193 [] []]) (need := [.row 7 34 2 (List.map en_api_Span q20.1)]) (v := .agg [.val (.int .i64 r21.1), .val (.int .i64 r21.2)]) (news := []) rfl rfl rfl Try.call192 (FC.fnArg (args := [.ref 7, .ref 16]) (needC := []) (need := [.ro 7 2 (List.map en_api_Span q20.1)]) 1 (first := []) (caps := []) (FC.needJ (need := [.any 16 (D.fn Try.prog fe_funcapi_Span_api_Span_int fd_funcapi_Span_api_Span_int (fun a => ev_dial_look_off_1 n a.1 a.2.1 a.2.2.1 a.2.2.2)), .ro 7 2 (List.map en_api_Span q20.1)]) (need' := [.ro 7 2 (List.map en_api_Span q20.1), .any 16 (D.fn Try.prog fe_funcapi_Span_api_Span_int fd_funcapi_Span_api_Span_int (fun a => ev_dial_look_off_1 n a.1 a.2.1 a.2.2.1 a.2.2.2))]) [1, 0] ⟨rfl, rfl, trivial⟩ (atJ [(0, 7), (1, 16)] [] (fc_slices_MinFunc_Lapi_Span_api_Span h4) rfl rfl)) rfl Try.call193 (fun a b hab => atJ [] [] (fc_dial_look_off_1 hab) rfl rfl) rfl (fun _ => rfl) (fun _ => rfl) rfl rfl rfl rfl rfl rfl rfl) (.inr (fun x hx => nomatch hx))) trivial rfl (From.ok (ps := [(none, 4)]) ⟨⟨rfl, rfl⟩, trivial⟩) (DAll.op' (sp_field rfl rfl ft34_0 vt3 rfl) trivial rfl (From.ok (ps := []) trivial) (DAll.op' (sp_fieldAddrB rfl isBlk rfl ft240_2 vt3 (by decide)) trivial rfl (From.ok (ps := [(none, 7)]) ⟨⟨rfl, rfl⟩, trivial⟩) (DAll.op' (sp_loadB rfl isBlk rfl vt3 rfl) trivial rfl (From.ok (ps := [(none, 7)]) ⟨⟨rfl, rfl⟩, trivial⟩) (DAll.op' (sp_sub rfl rfl rfl h5) trivial rfl (From.ok (ps := []) trivial) (DAll.op' (sp_loadB rfl isBlk rfl vt39 rfl) trivial rfl (From.ok (ps := [(none, 5)]) ⟨⟨rfl, rfl⟩, trivial⟩) (DAll.op' (sp_call (avs := [.ref 7, .fn 195 [] []]) (need := [.row 7 34 2 (List.map en_api_Span q20.1)]) (v := .agg [.val (.int .i64 r22.1), .val (.int .i64 r22.2)]) (news := []) rfl rfl rfl Try.call194 (FC.fnArg (args := [.ref 7, .ref 17]) (needC := []) (need := [.ro 7 2 (List.map en_api_Span q20.1)]) 1 (first := []) (caps := []) (FC.needJ (need := [.any 17 (D.fn Try.prog fe_funcapi_Span_api_Span_int fd_funcapi_Span_api_Span_int (fun a => ev_dial_look_off_2 n a.1 a.2.1 a.2.2.1 a.2.2.2)), .ro 7 2 (List.map en_api_Span q20.1)]) (need' := [.ro 7 2 (List.map en_api_Span q20.1), .any 17 (D.fn Try.prog fe_funcapi_Span_api_Span_int fd_funcapi_Span_api_Span_int (fun a => ev_dial_look_off_2 n a.1 a.2.1 a.2.2.1 a.2.2.2))]) [1, 0] ⟨rfl, rfl, trivial⟩ (atJ [(0, 7), (1, 17)] [] (fc_slices_MaxFunc_Lapi_Span_api_Span h6) rfl rfl)) rfl Try.call195 (fun a b hab => atJ [] [] (fc_dial_look_off_2 hab) rfl rfl) rfl (fun _ => rfl) (fun _ => rfl) rfl rfl rfl rfl rfl rfl rfl) (.inr (fun x hx => nomatch hx))) trivial rfl (From.ok (ps := [(none, 4)]) ⟨⟨rfl, rfl⟩, trivial⟩) (DAll.op' (sp_field rfl rfl ft34_1 vt3 rfl) trivial rfl (From.ok (ps := []) trivial) (DAll.op' (sp_fieldAddrB rfl isBlk rfl ft240_2 vt3 (by decide)) trivial rfl (From.ok (ps := [(none, 7)]) ⟨⟨rfl, rfl⟩, trivial⟩) (DAll.op' (sp_loadB rfl isBlk rfl vt3 rfl) trivial rfl (From.ok (ps := [(none, 7)]) ⟨⟨rfl, rfl⟩, trivial⟩) (DAll.op' (sp_sub rfl rfl rfl h7) trivial rfl (From.ok (ps := []) trivial) (.nil))))))))))))
    refine op0 (sp_build (qs := [(0, .val (.int .i64 (r21.1 - k12))), (1, .val (.int .i64 (r22.2 - k12)))]) rfl bt34 rfl rfl rfl rfl) rfl trivial rfl rfl ?_
    refine stoB 6 (cells' := [.val (.int .i64 (r21.1 - k12)), .val (.int .i64 (r22.2 - k12))]) rfl rfl trivial rfl rfl rfl rfl vt34 rfl rfl rfl ?_
    refine TL.nil ?_
    cases h
    exact retM [] 0 3 [] rfl (.cells rfl (mem_at 5 rfl) isBlk vt34 rfl rfl (.nil)) rfl trivial rfl rfl trivial rfl
  · exact none_no h
theorem fc_dial_look_off {n : Nat} {k1 : Int} {k2 : Int} {k3 : Int} {k4 : List (Int × Int × (List (Int × Int × Int)) × Int × Int)} {k5 : List (Int × Int × (List (Int × Int × Int)) × Int × Int × Int)} {k6 : Int} {k7 : Int} {k8 : List (Int × Int × Int)} {k9 : Int} {k10 : Int} {k11 : Int} {k12 : Int} {k13 : Int} {k14 : Int} {r : Int × Int} (h : ev_dial_look_off n k1 k2 k3 k4 k5 k6 k7 k8 k9 k10 k11 k12 k13 k14 = some r) : FC Try.prog 98 [.agg [.val (.int .i64 k1), .val (.int .i64 k2), .val (.int .i64 k3), .ref 0, .ref 1, .val (.int .i64 k6), .val (.int .i64 k7), .ref 2, .val (.int .i64 k9), .val (.int .i64 k10), .val (.int .i64 k11), .val (.int .i64 k12), .val (.int .i64 k13), .val (.int .i64 k14)]] [.ro 0 5 (List.map en_api_DialFace k4), .ro 1 6 (List.map en_dial_face k5), .ro 2 3 (List.map en_api_DialLink k8)] (.agg [.val (.int .i64 r.1), .val (.int .i64 r.2)]) [] := (ft_dial_look_off h).toFC rfl
/- dial_Off -/
def ev_dial_Off (n : Nat) (w1 : Int) (w2 : Int) (w3 : Int) (w4 : List (Int × Int × (List (Int × Int × Int)) × Int × Int)) (face5 : Int) (at_6 : Int) (wind7 : Int) (wind8 : Int) : Option (Int × Int × Int) :=
  (ev_dial_newLook n w1 w2 w3 w4 face5 at_6 wind7 wind8).bind fun r9 => cond (r9.2.2.2.2.2.2.2.2.2.2.2.2.2.2 != 0) (some (0, 0, r9.2.2.2.2.2.2.2.2.2.2.2.2.2.2)) ((ev_dial_look_off n r9.1 r9.2.1 r9.2.2.1 r9.2.2.2.1 r9.2.2.2.2.1 r9.2.2.2.2.2.1 r9.2.2.2.2.2.2.1 r9.2.2.2.2.2.2.2.1 r9.2.2.2.2.2.2.2.2.1 r9.2.2.2.2.2.2.2.2.2.1 r9.2.2.2.2.2.2.2.2.2.2.1 r9.2.2.2.2.2.2.2.2.2.2.2.1 r9.2.2.2.2.2.2.2.2.2.2.2.2.1 r9.2.2.2.2.2.2.2.2.2.2.2.2.2.1).bind fun r10 => some (r10.1, r10.2, 0))
set_option maxRecDepth 100000 in
set_option maxHeartbeats 2000000 in
theorem fc_dial_Off {n : Nat} {w1 : Int} {w2 : Int} {w3 : Int} {w4 : List (Int × Int × (List (Int × Int × Int)) × Int × Int)} {face5 : Int} {at_6 : Int} {wind7 : Int} {wind8 : Int} {r : Int × Int × Int} (h : ev_dial_Off n w1 w2 w3 w4 face5 at_6 wind7 wind8 = some r) : FC Try.prog 44 [.agg [.val (.int .i64 w1), .val (.int .i64 w2), .val (.int .i64 w3), .ref 0], .val (.int .i64 face5), .val (.int .i64 at_6), .agg [.val (.int .i64 wind7), .val (.int .i64 wind8)]] [.ro 0 5 (List.map en_api_DialFace w4)] (.tup [.agg [.val (.int .i64 r.1), .val (.int .i64 r.2.1)], .val (.int .i64 r.2.2)]) [] := by
  refine introJ (nz := 25) Try.func44 rfl rfl rfl (fun w0 R0 env0 => ?_)
  rw [ev_dial_Off] at h
  refine TC.seq ?_
  refine TC.region ?_
  refine op0 (sp_box 1 rfl rfl rfl rfl rfl) rfl trivial rfl rfl ?_
  refine op0 (sp_box 2 rfl rfl rfl rfl rfl) rfl trivial rfl rfl ?_
  refine op0 (sp_alloc 3 rfl Try.zeroValue34 rfl) rfl trivial rfl rfl ?_
  refine op0 (sp_assign rfl rfl) rfl trivial rfl rfl ?_
  refine TL.nil ?_
  refine TC.seq ?_
  refine TC.region ?_
  refine op1 2 rfl (sp_loadBA rfl isBlk rfl vt111 rfl rfl) rfl trivial rfl rfl ?_
  refine op0 (sp_move rfl rfl) rfl trivial rfl rfl ?_
  refine op0 (sp_move rfl rfl) rfl trivial rfl rfl ?_
  refine op1 1 rfl (sp_loadBA rfl isBlk rfl vt34 rfl rfl) rfl trivial rfl rfl ?_
  obtain ⟨r9, h1, h⟩ := bind_inv h
  refine op1 3 rfl (sp_call (avs := [.agg [.val (.int .i64 w1), .val (.int .i64 w2), .val (.int .i64 w3), .ref 0], .val (.int .i64 face5), .val (.int .i64 at_6), .agg [.val (.int .i64 wind7), .val (.int .i64 wind8)]]) (need := [.ro 0 5 (List.map en_api_DialFace w4)]) (v := .tup [.agg [.val (.int .i64 r9.1), .val (.int .i64 r9.2.1), .val (.int .i64 r9.2.2.1), .ref 4, .ref 5, .val (.int .i64 r9.2.2.2.2.2.1), .val (.int .i64 r9.2.2.2.2.2.2.1), .ref 6, .val (.int .i64 r9.2.2.2.2.2.2.2.2.1), .val (.int .i64 r9.2.2.2.2.2.2.2.2.2.1), .val (.int .i64 r9.2.2.2.2.2.2.2.2.2.2.1), .val (.int .i64 r9.2.2.2.2.2.2.2.2.2.2.2.1), .val (.int .i64 r9.2.2.2.2.2.2.2.2.2.2.2.2.1), .val (.int .i64 r9.2.2.2.2.2.2.2.2.2.2.2.2.2.1)], .val (.int .i64 r9.2.2.2.2.2.2.2.2.2.2.2.2.2.2)]) (news := [.ro 4 5 (List.map en_api_DialFace r9.2.2.2.1), .row 5 238 6 (List.map en_dial_face r9.2.2.2.2.1), .ro 6 3 (List.map en_api_DialLink r9.2.2.2.2.2.2.2.1)]) rfl rfl rfl Try.call94 (atJ [] [(0, 4), (1, 5), (2, 6)] (fc_dial_newLook h1) rfl rfl) (.inl (roAll rfl))) rfl trivial rfl rfl ?_
  refine op0 (sp_move rfl rfl) rfl trivial rfl rfl ?_
  refine op0 (sp_extract rfl rfl rfl) rfl trivial rfl rfl ?_
  refine op0 (sp_extract rfl rfl rfl) rfl trivial rfl rfl ?_
  refine op0 (sp_alloc 7 rfl Try.zeroValue240 rfl) rfl trivial rfl rfl ?_
  refine stoB 0 (cells' := [.val (.int .i64 r9.1), .val (.int .i64 r9.2.1), .val (.int .i64 r9.2.2.1), .ref 4, .ref 5, .val (.int .i64 r9.2.2.2.2.2.1), .val (.int .i64 r9.2.2.2.2.2.2.1), .ref 6, .val (.int .i64 r9.2.2.2.2.2.2.2.2.1), .val (.int .i64 r9.2.2.2.2.2.2.2.2.2.1), .val (.int .i64 r9.2.2.2.2.2.2.2.2.2.2.1), .val (.int .i64 r9.2.2.2.2.2.2.2.2.2.2.2.1), .val (.int .i64 r9.2.2.2.2.2.2.2.2.2.2.2.2.1), .val (.int .i64 r9.2.2.2.2.2.2.2.2.2.2.2.2.2.1)]) rfl rfl trivial rfl rfl rfl rfl vt240 rfl rfl rfl ?_
  refine op0 (sp_assign rfl rfl) rfl trivial rfl rfl ?_
  refine TL.nil ?_
  refine TC.seq ?_
  refine TC.seq ?_
  refine TC.region ?_
  refine op0 (sp_move rfl rfl) rfl trivial rfl rfl ?_
  refine op0 (sp_neq rfl rfl rfl) rfl trivial rfl rfl ?_
  refine TL.nil ?_
  refine TC.cond (b := (r9.2.2.2.2.2.2.2.2.2.2.2.2.2.2 != 0)) rfl (fun h2 => ?_) (fun h2 => ?_)
  · have h := cond_t h h2
    refine TC.seq ?_
    refine TC.region ?_
    refine op1 4 rfl (sp_loadBA rfl isBlk rfl vt34 rfl rfl) rfl trivial rfl rfl ?_
    refine op0 (sp_move rfl rfl) rfl trivial rfl rfl ?_
    refine stoB 4 (cells' := [.val (.int .i64 0), .val (.int .i64 0)]) rfl rfl trivial rfl rfl rfl rfl vt34 rfl rfl rfl ?_
    refine op0 (sp_assign rfl rfl) rfl trivial rfl rfl ?_
    refine TL.nil ?_
    cases h
    exact retJ [] (.cells rfl (mem_at 4 rfl) isBlk vt34 rfl rfl (.tmp rfl .nil)) rfl trivial rfl rfl
  · have h := cond_f h h2
    refine TC.skip ?_
    refine TC.seq ?_
    refine TC.region ?_
    refine op1 0 rfl (sp_loadBA rfl isBlk rfl vt240 rfl rfl) rfl trivial rfl rfl ?_
    obtain ⟨r10, h3, h⟩ := bind_inv h
    refine opN (need := [.ro 4 5 (List.map en_api_DialFace r9.2.2.2.1), .row 5 238 6 (List.map en_dial_face r9.2.2.2.2.1), .ro 6 3 (List.map en_api_DialLink r9.2.2.2.2.2.2.2.1)]) [1, 2, 3] ⟨rfl, rfl, rfl, trivial⟩ (sp_call (avs := [.agg [.val (.int .i64 r9.1), .val (.int .i64 r9.2.1), .val (.int .i64 r9.2.2.1), .ref 4, .ref 5, .val (.int .i64 r9.2.2.2.2.2.1), .val (.int .i64 r9.2.2.2.2.2.2.1), .ref 6, .val (.int .i64 r9.2.2.2.2.2.2.2.2.1), .val (.int .i64 r9.2.2.2.2.2.2.2.2.2.1), .val (.int .i64 r9.2.2.2.2.2.2.2.2.2.2.1), .val (.int .i64 r9.2.2.2.2.2.2.2.2.2.2.2.1), .val (.int .i64 r9.2.2.2.2.2.2.2.2.2.2.2.2.1), .val (.int .i64 r9.2.2.2.2.2.2.2.2.2.2.2.2.2.1)]]) (need := [.ro 4 5 (List.map en_api_DialFace r9.2.2.2.1), .row 5 238 6 (List.map en_dial_face r9.2.2.2.2.1), .ro 6 3 (List.map en_api_DialLink r9.2.2.2.2.2.2.2.1)]) (v := .agg [.val (.int .i64 r10.1), .val (.int .i64 r10.2)]) (news := []) rfl rfl rfl Try.call98 (atJ [(0, 4), (1, 5), (2, 6)] [] (fc_dial_look_off h3) rfl rfl) (.inr (fun x hx => nomatch hx))) rfl trivial rfl rfl ?_
    refine stoB 4 (cells' := [.val (.int .i64 r10.1), .val (.int .i64 r10.2)]) rfl rfl trivial rfl rfl rfl rfl vt34 rfl rfl rfl ?_
    refine op0 (sp_assign rfl rfl) rfl trivial rfl rfl ?_
    refine TL.nil ?_
    cases h
    exact retJ [] (.cells rfl (mem_at 4 rfl) isBlk vt34 rfl rfl (.tmp rfl .nil)) rfl trivial rfl rfl
/- top_pubDial -/
def ev_top_pubDial (n : Nat) : Option Bool :=
  (ev_top_pubThirty n).bind fun r1 => (ev_top_pubSpan n (-5) 5).bind fun r2 => (ev_dial_Off n r1.1 r1.2.1 r1.2.2.1 r1.2.2.2 0 2400 r2.1 r2.2).bind fun r3 => (ev_top_pubThirty n).bind fun r4 => (ev_top_pubSpan n (-5) 5).bind fun r5 => (ev_dial_Shows n r4.1 r4.2.1 r4.2.2.1 r4.2.2.2 0 600 r5.1 r5.2).bind fun r6 => cond (r3.2.2 == 0) (cond (r6.2 == 0) ((ev_top_pubSpan n (-48) (-18)).bind fun r7 => cond ((r3.1 == r7.1) && (r3.2.1 == r7.2)) (cond ((r6.1.length : Int) == 2) (idx r6.1 0 fun x8 => (ev_top_pubSpan n 570 570).bind fun r9 => cond ((x8.1 == r9.1) && (x8.2 == r9.2)) (idx r6.1 1 fun x10 => (ev_top_pubSpan n 600 600).bind fun r11 => some ((x10.1 == r11.1) && (x10.2 == r11.2))) (some false)) (some false)) (some false)) (some false)) (some false)
set_option maxRecDepth 100000 in
set_option maxHeartbeats 2000000 in
theorem fc_top_pubDial {n : Nat}  {r : Bool} (h : ev_top_pubDial n = some r) : FC Try.prog 45 [] [] (.val (.bool r)) [] := by
  refine introJ (nz := 47) Try.func45 rfl rfl rfl (fun w0 R0 env0 => ?_)
  rw [ev_top_pubDial] at h
  refine TC.seq ?_
  refine TC.region ?_
  refine op0 (sp_assign rfl rfl) rfl trivial rfl rfl ?_
  refine TL.nil ?_
  refine TC.seq ?_
  refine TC.region ?_
  obtain ⟨r1, h1, h⟩ := bind_inv h
  refine op0 (sp_call (avs := []) (need := []) (v := .agg [.val (.int .i64 r1.1), .val (.int .i64 r1.2.1), .val (.int .i64 r1.2.2.1), .ref 0]) (news := [.row 0 107 5 (List.map en_api_DialFace r1.2.2.2)]) rfl rfl rfl Try.call99 (atJ [] [] (fc_top_pubThirty h1) rfl rfl) (.inl (roAll rfl))) rfl trivial rfl rfl ?_
  obtain ⟨r2, h2, h⟩ := bind_inv h
  refine op0 (sp_call (avs := [.val (.int .i64 (-5)), .val (.int .i64 5)]) (need := []) (v := .agg [.val (.int .i64 r2.1), .val (.int .i64 r2.2)]) (news := []) rfl rfl rfl Try.call20 (atJ [] [] (fc_top_pubSpan h2) rfl rfl) (.inl (roAll rfl))) rfl trivial rfl rfl ?_
  obtain ⟨r3, h3, h⟩ := bind_inv h
  refine op1 0 rfl (sp_call (avs := [.agg [.val (.int .i64 r1.1), .val (.int .i64 r1.2.1), .val (.int .i64 r1.2.2.1), .ref 0], .val (.int .i64 0), .val (.int .i64 2400), .agg [.val (.int .i64 r2.1), .val (.int .i64 r2.2)]]) (need := [.row 0 107 5 (List.map en_api_DialFace r1.2.2.2)]) (v := .tup [.agg [.val (.int .i64 r3.1), .val (.int .i64 r3.2.1)], .val (.int .i64 r3.2.2)]) (news := []) rfl rfl rfl Try.call44 (atJ [] [] (fc_dial_Off h3) rfl rfl) (.inr (fun x hx => nomatch hx))) rfl trivial rfl rfl ?_
  refine op0 (sp_move rfl rfl) rfl trivial rfl rfl ?_
  refine op0 (sp_extract rfl rfl rfl) rfl trivial rfl rfl ?_
  refine op0 (sp_extract rfl rfl rfl) rfl trivial rfl rfl ?_
  refine op0 (sp_alloc 1 rfl Try.zeroValue34 rfl) rfl trivial rfl rfl ?_
  refine stoB 0 (cells' := [.val (.int .i64 r3.1), .val (.int .i64 r3.2.1)]) rfl rfl trivial rfl rfl rfl rfl vt34 rfl rfl rfl ?_
  refine op0 (sp_assign rfl rfl) rfl trivial rfl rfl ?_
  refine TL.nil ?_
  refine TC.seq ?_
  refine TC.region ?_
  obtain ⟨r4, h4, h⟩ := bind_inv h
  refine op0 (sp_call (avs := []) (need := []) (v := .agg [.val (.int .i64 r4.1), .val (.int .i64 r4.2.1), .val (.int .i64 r4.2.2.1), .ref 2]) (news := [.row 2 107 5 (List.map en_api_DialFace r4.2.2.2)]) rfl rfl rfl Try.call99 (atJ [] [(0, 2)] (fc_top_pubThirty h4) rfl rfl) (.inl (roAll rfl))) rfl trivial rfl rfl ?_
  obtain ⟨r5, h5, h⟩ := bind_inv h
  refine op0 (sp_call (avs := [.val (.int .i64 (-5)), .val (.int .i64 5)]) (need := []) (v := .agg [.val (.int .i64 r5.1), .val (.int .i64 r5.2)]) (news := []) rfl rfl rfl Try.call20 (atJ [] [] (fc_top_pubSpan h5) rfl rfl) (.inl (roAll rfl))) rfl trivial rfl rfl ?_
  obtain ⟨r6, h6, h⟩ := bind_inv h
  refine op1 0 rfl (sp_call (avs := [.agg [.val (.int .i64 r4.1), .val (.int .i64 r4.2.1), .val (.int .i64 r4.2.2.1), .ref 2], .val (.int .i64 0), .val (.int .i64 600), .agg [.val (.int .i64 r5.1), .val (.int .i64 r5.2)]]) (need := [.row 2 107 5 (List.map en_api_DialFace r4.2.2.2)]) (v := .tup [.ref 3, .val (.int .i64 r6.2)]) (news := [.row 3 34 2 (List.map en_api_Span r6.1)]) rfl rfl rfl Try.call43 (atJ [(0, 2)] [(500, 3)] (fc_dial_Shows h6) rfl rfl) (.inr (List.forall_mem_cons.2 ⟨indep_map en_api_Span_flat, (by simp)⟩))) rfl trivial rfl rfl ?_
  refine op0 (sp_move rfl rfl) rfl trivial rfl rfl ?_
  refine op0 (sp_extract rfl rfl rfl) rfl trivial rfl rfl ?_
  refine op0 (sp_extract rfl rfl rfl) rfl trivial rfl rfl ?_
  refine op0 (sp_assign rfl rfl) rfl trivial rfl rfl ?_
  refine op0 (sp_assign rfl rfl) rfl trivial rfl rfl ?_
  refine TL.nil ?_
  refine TC.seq ?_
  rcases cond_cases h with ⟨h7, h⟩ | ⟨h7, h⟩
  · rcases cond_cases h with ⟨h8, h⟩ | ⟨h8, h⟩
    · obtain ⟨r7, h9, h⟩ := bind_inv h
      rcases cond_cases h with ⟨h10, h⟩ | ⟨h10, h⟩
      · rcases cond_cases h with ⟨h11, h⟩ | ⟨h11, h⟩
        · obtain ⟨x8, h12, h13, h⟩ := idx_inv h
          obtain ⟨r9, h14, h⟩ := bind_inv h
          rcases cond_cases h with ⟨h15, h⟩ | ⟨h15, h⟩
          · obtain ⟨x10, h16, h17, h⟩ := idx_inv h
            obtain ⟨r11, h18, h⟩ := bind_inv h
            refine drawJ 28 [⟨.val (.int .i64 r3.2.2), [], [], []⟩, ⟨.val (.bool (r3.2.2 == 0)), [], [], []⟩, ⟨.val (.bool true), [], [], []⟩, ⟨.val (.int .i64 r6.2), [], [], []⟩, ⟨.val (.bool (r6.2 == 0)), [], [], []⟩, ⟨.val (.bool (r6.2 == 0)), [], [], []⟩, ⟨.val (.bool true), [], [], []⟩, ⟨.agg [.val (.int .i64 r3.1), .val (.int .i64 r3.2.1)], [], [.blk 1 [.val (.int .i64 r3.1), .val (.int .i64 r3.2.1)] 34], []⟩, ⟨.agg [.val (.int .i64 r7.1), .val (.int .i64 r7.2)], [], [], []⟩, ⟨.val (.bool ((r3.1 == r7.1) && (r3.2.1 == r7.2))), [], [], []⟩, ⟨.val (.bool ((r3.1 == r7.1) && (r3.2.1 == r7.2))), [], [], []⟩, ⟨.val (.bool true), [], [], []⟩, ⟨.ref 3, [], [], []⟩, ⟨.val (.int .i64 (r6.1.length : Int)), [], [.row 3 34 2 (List.map en_api_Span r6.1)], []⟩, ⟨.val (.bool ((r6.1.length : Int) == 2)), [], [], []⟩, ⟨.val (.bool ((r6.1.length : Int) == 2)), [], [], []⟩, ⟨.val (.bool true), [], [], []⟩, ⟨.ref 3, [], [], []⟩, ⟨.cell 3 ((0 : Int).toNat * 2), [], [.row 3 34 2 (List.map en_api_Span r6.1)], []⟩, ⟨.agg [.val (.int .i64 x8.1), .val (.int .i64 x8.2)], [], [.row 3 34 2 (List.map en_api_Span r6.1)], []⟩, ⟨.agg [.val (.int .i64 r9.1), .val (.int .i64 r9.2)], [], [], []⟩, ⟨.val (.bool ((x8.1 == r9.1) && (x8.2 == r9.2))), [], [], []⟩, ⟨.val (.bool ((x8.1 == r9.1) && (x8.2 == r9.2))), [], [], []⟩, ⟨.val (.bool true), [], [], []⟩, ⟨.ref 3, [], [], []⟩, ⟨.cell 3 ((1 : Int).toNat * 2), [], [.row 3 34 2 (List.map en_api_Span r6.1)], []⟩, ⟨.agg [.val (.int .i64 x10.1), .val (.int .i64 x10.2)], [], [.row 3 34 2 (List.map en_api_Span r6.1)], []⟩, ⟨.agg [.val (.int .i64 r11.1), .val (.int .i64 r11.2)], [], [], []⟩] rfl ?_ rfl ?_ rfl ?_ ?_
            · kernel_rfl
            · kernel_rfl
            · exact DAll.op' (sp_move rfl rfl) trivial rfl (From.ok (ps := []) trivial) (DAll.op' (sp_eql rfl rfl rfl) trivial rfl (From.ok (ps := []) trivial) (DAll.op' (sp_castB h7 (sp_move rfl rfl)) trivial rfl (From.ok (ps := []) trivial) (DAll.op' (sp_move rfl rfl) ⟨_, rfl, rfl⟩ rfl (From.ok (ps := []) trivial) (DAll.op' (sp_eql rfl rfl rfl) ⟨_, rfl, rfl⟩ rfl (From.ok (ps := []) trivial) (DAll.op' (sp_pickT rfl rfl rfl) trivial rfl (From.ok (ps := []) trivial) (DAll.op' (sp_castB h8 (sp_move rfl rfl)) trivial rfl (From.ok (ps := []) trivial) (DAll.op' (sp_loadBA rfl isBlk rfl vt34 rfl rfl) ⟨_, rfl, rfl⟩ rfl (From.ok (ps := [(none, 2)]) ⟨⟨rfl, rfl⟩, trivial⟩) (DAll.op' (sp_call (avs := [.val (.int .i64 (-48)), .val (.int .i64 (-18))]) (need := []) (v := .agg [.val (.int .i64 r7.1), .val (.int .i64 r7.2)]) (news := []) rfl rfl rfl Try.call20 (atJ [] [] (fc_top_pubSpan h9) rfl rfl) (.inl (roAll rfl))) ⟨_, rfl, rfl⟩ rfl (From.ok (ps := []) trivial) (DAll.op' (sp_eqlS rfl rfl rfl rfl rfl (eq34 _ _ _ _)) ⟨_, rfl, rfl⟩ rfl (From.ok (ps := []) trivial) (DAll.op' (sp_pickT rfl rfl rfl) trivial rfl (From.ok (ps := []) trivial) (DAll.op' (sp_castB h10 (sp_move rfl rfl)) trivial rfl (From.ok (ps := []) trivial) (DAll.op' (sp_move rfl rfl) ⟨_, rfl, rfl⟩ rfl (From.ok (ps := []) trivial) (DAll.op' (sp_lenM (N := r6.1.length) (len_map _ _) rfl rfl isOwn Try.underlying39) ⟨_, rfl, rfl⟩ rfl (From.ok (ps := [(none, 0)]) ⟨⟨rfl, rfl⟩, trivial⟩) (DAll.op' (sp_eql rfl rfl rfl) ⟨_, rfl, rfl⟩ rfl (From.ok (ps := []) trivial) (DAll.op' (sp_pickT rfl rfl rfl) trivial rfl (From.ok (ps := []) trivial) (DAll.op' (sp_castB h11 (sp_move rfl rfl)) trivial rfl (From.ok (ps := []) trivial) (DAll.op' (sp_move rfl rfl) ⟨_, rfl, rfl⟩ rfl (From.ok (ps := []) trivial) (DAll.op' (sp_indexS rfl rfl rfl isOwn sl39 h12 (map_get _ h13)) ⟨_, rfl, rfl⟩ rfl (From.ok (ps := [(none, 0)]) ⟨⟨rfl, rfl⟩, trivial⟩) (DAll.op' (sp_loadRA (i := (0 : Int).toNat) (j := 0) (as_ := [.val (.int .i64 x8.1), .val (.int .i64 x8.2)]) (ns := []) rfl rfl isOwn vt34 rfl (map_get _ h13) rfl rfl (by decide) (.v (.v (.nil))) (nodup_of_B rfl)) ⟨_, rfl, rfl⟩ rfl (From.ok (ps := [(none, 0)]) ⟨⟨rfl, rfl⟩, trivial⟩) (DAll.op' (sp_call (avs := [.val (.int .i64 570), .val (.int .i64 570)]) (need := []) (v := .agg [.val (.int .i64 r9.1), .val (.int .i64 r9.2)]) (news := []) rfl rfl rfl Try.call20 (atJ [] [] (fc_top_pubSpan h14) rfl rfl) (.inl (roAll rfl))) ⟨_, rfl, rfl⟩ rfl (From.ok (ps := []) trivial) (DAll.op' (sp_eqlS rfl rfl rfl rfl rfl (eq34 _ _ _ _)) ⟨_, rfl, rfl⟩ rfl (From.ok (ps := []) trivial) (DAll.op' (sp_pickT rfl rfl rfl) trivial rfl (From.ok (ps := []) trivial) (DAll.op' (sp_castB h15 (sp_move rfl rfl)) trivial rfl (From.ok (ps := []) trivial) (DAll.op' (sp_move rfl rfl) ⟨_, rfl, rfl⟩ rfl (From.ok (ps := []) trivial) (DAll.op' (sp_indexS rfl rfl rfl isOwn sl39 h16 (map_get _ h17)) ⟨_, rfl, rfl⟩ rfl (From.ok (ps := [(none, 0)]) ⟨⟨rfl, rfl⟩, trivial⟩) (DAll.op' (sp_loadRA (i := (1 : Int).toNat) (j := 0) (as_ := [.val (.int .i64 x10.1), .val (.int .i64 x10.2)]) (ns := []) rfl rfl isOwn vt34 rfl (map_get _ h17) rfl rfl (by decide) (.v (.v (.nil))) (nodup_of_B rfl)) ⟨_, rfl, rfl⟩ rfl (From.ok (ps := [(none, 0)]) ⟨⟨rfl, rfl⟩, trivial⟩) (DAll.op' (sp_call (avs := [.val (.int .i64 600), .val (.int .i64 600)]) (need := []) (v := .agg [.val (.int .i64 r11.1), .val (.int .i64 r11.2)]) (news := []) rfl rfl rfl Try.call20 (atJ [] [] (fc_top_pubSpan h18) rfl rfl) (.inl (roAll rfl))) ⟨_, rfl, rfl⟩ rfl (From.ok (ps := []) trivial) (.nil))))))))))))))))))))))))))))
            refine op0 (sp_eqlS rfl rfl rfl rfl rfl (eq34 _ _ _ _)) rfl ⟨_, rfl, rfl⟩ rfl rfl ?_
            refine op0 (sp_pickT rfl rfl rfl) rfl trivial rfl rfl ?_
            refine op0 (sp_assign rfl rfl) rfl trivial rfl rfl ?_
            refine TL.nil ?_
            cases h
            exact retJ [] (.tmp rfl .nil) rfl trivial rfl rfl
          · refine drawJ 28 [⟨.val (.int .i64 r3.2.2), [], [], []⟩, ⟨.val (.bool (r3.2.2 == 0)), [], [], []⟩, ⟨.val (.bool true), [], [], []⟩, ⟨.val (.int .i64 r6.2), [], [], []⟩, ⟨.val (.bool (r6.2 == 0)), [], [], []⟩, ⟨.val (.bool (r6.2 == 0)), [], [], []⟩, ⟨.val (.bool true), [], [], []⟩, ⟨.agg [.val (.int .i64 r3.1), .val (.int .i64 r3.2.1)], [], [.blk 1 [.val (.int .i64 r3.1), .val (.int .i64 r3.2.1)] 34], []⟩, ⟨.agg [.val (.int .i64 r7.1), .val (.int .i64 r7.2)], [], [], []⟩, ⟨.val (.bool ((r3.1 == r7.1) && (r3.2.1 == r7.2))), [], [], []⟩, ⟨.val (.bool ((r3.1 == r7.1) && (r3.2.1 == r7.2))), [], [], []⟩, ⟨.val (.bool true), [], [], []⟩, ⟨.ref 3, [], [], []⟩, ⟨.val (.int .i64 (r6.1.length : Int)), [], [.row 3 34 2 (List.map en_api_Span r6.1)], []⟩, ⟨.val (.bool ((r6.1.length : Int) == 2)), [], [], []⟩, ⟨.val (.bool ((r6.1.length : Int) == 2)), [], [], []⟩, ⟨.val (.bool true), [], [], []⟩, ⟨.ref 3, [], [], []⟩, ⟨.cell 3 ((0 : Int).toNat * 2), [], [.row 3 34 2 (List.map en_api_Span r6.1)], []⟩, ⟨.agg [.val (.int .i64 x8.1), .val (.int .i64 x8.2)], [], [.row 3 34 2 (List.map en_api_Span r6.1)], []⟩, ⟨.agg [.val (.int .i64 r9.1), .val (.int .i64 r9.2)], [], [], []⟩, ⟨.val (.bool ((x8.1 == r9.1) && (x8.2 == r9.2))), [], [], []⟩, ⟨.val (.bool ((x8.1 == r9.1) && (x8.2 == r9.2))), [], [], []⟩, ⟨.val (.bool false), [], [], []⟩, ⟨.val (undef), [], [], []⟩, ⟨.val (undef), [], [], []⟩, ⟨.val (undef), [], [], []⟩, ⟨.val (undef), [], [], []⟩] rfl ?_ rfl ?_ rfl ?_ ?_
            · kernel_rfl
            · kernel_rfl
            · exact DAll.op' (sp_move rfl rfl) trivial rfl (From.ok (ps := []) trivial) (DAll.op' (sp_eql rfl rfl rfl) trivial rfl (From.ok (ps := []) trivial) (DAll.op' (sp_castB h7 (sp_move rfl rfl)) trivial rfl (From.ok (ps := []) trivial) (DAll.op' (sp_move rfl rfl) ⟨_, rfl, rfl⟩ rfl (From.ok (ps := []) trivial) (DAll.op' (sp_eql rfl rfl rfl) ⟨_, rfl, rfl⟩ rfl (From.ok (ps := []) trivial) (DAll.op' (sp_pickT rfl rfl rfl) trivial rfl (From.ok (ps := []) trivial) (DAll.op' (sp_castB h8 (sp_move rfl rfl)) trivial rfl (From.ok (ps := []) trivial) (DAll.op' (sp_loadBA rfl isBlk rfl vt34 rfl rfl) ⟨_, rfl, rfl⟩ rfl (From.ok (ps := [(none, 2)]) ⟨⟨rfl, rfl⟩, trivial⟩) (DAll.op' (sp_call (avs := [.val (.int .i64 (-48)), .val (.int .i64 (-18))]) (need := []) (v := .agg [.val (.int .i64 r7.1), .val (.int .i64 r7.2)]) (news := []) rfl rfl rfl Try.call20 (atJ [] [] (fc_top_pubSpan h9) rfl rfl) (.inl (roAll rfl))) ⟨_, rfl, rfl⟩ rfl (From.ok (ps := []) trivial) (DAll.op' (sp_eqlS rfl rfl rfl rfl rfl (eq34 _ _ _ _)) ⟨_, rfl, rfl⟩ rfl (From.ok (ps := []) trivial) (DAll.op' (sp_pickT rfl rfl rfl) trivial rfl (From.ok (ps := []) trivial) (DAll.op' (sp_castB h10 (sp_move rfl rfl)) trivial rfl (From.ok (ps := []) trivial) (DAll.op' (sp_move rfl rfl) ⟨_, rfl, rfl⟩ rfl (From.ok (ps := []) trivial) (DAll.op' (sp_lenM (N := r6.1.length) (len_map _ _) rfl rfl isOwn Try.underlying39) ⟨_, rfl, rfl⟩ rfl (From.ok (ps := [(none, 0)]) ⟨⟨rfl, rfl⟩, trivial⟩) (DAll.op' (sp_eql rfl rfl rfl) ⟨_, rfl, rfl⟩ rfl (From.ok (ps := []) trivial) (DAll.op' (sp_pickT rfl rfl rfl) trivial rfl (From.ok (ps := []) trivial) (DAll.op' (sp_castB h11 (sp_move rfl rfl)) trivial rfl (From.ok (ps := []) trivial) (DAll.op' (sp_move rfl rfl) ⟨_, rfl, rfl⟩ rfl (From.ok (ps := []) trivial) (DAll.op' (sp_indexS rfl rfl rfl isOwn sl39 h12 (map_get _ h13)) ⟨_, rfl, rfl⟩ rfl (From.ok (ps := [(none, 0)]) ⟨⟨rfl, rfl⟩, trivial⟩) (DAll.op' (sp_loadRA (i := (0 : Int).toNat) (j := 0) (as_ := [.val (.int .i64 x8.1), .val (.int .i64 x8.2)]) (ns := []) rfl rfl isOwn vt34 rfl (map_get _ h13) rfl rfl (by decide) (.v (.v (.nil))) (nodup_of_B rfl)) ⟨_, rfl, rfl⟩ rfl (From.ok (ps := [(none, 0)]) ⟨⟨rfl, rfl⟩, trivial⟩) (DAll.op' (sp_call (avs := [.val (.int .i64 570), .val (.int .i64 570)]) (need := []) (v := .agg [.val (.int .i64 r9.1), .val (.int .i64 r9.2)]) (news := []) rfl rfl rfl Try.call20 (atJ [] [] (fc_top_pubSpan h14) rfl rfl) (.inl (roAll rfl))) ⟨_, rfl, rfl⟩ rfl (From.ok (ps := []) trivial) (DAll.op' (sp_eqlS rfl rfl rfl rfl rfl (eq34 _ _ _ _)) ⟨_, rfl, rfl⟩ rfl (From.ok (ps := []) trivial) (DAll.op' (sp_pickT rfl rfl rfl) trivial rfl (From.ok (ps := []) trivial) (DAll.op' (sp_castB h15 (sp_move rfl rfl)) trivial rfl (From.ok (ps := []) trivial) (.skip ⟨_, rfl, .inl rfl⟩ rfl rfl rfl (.skip ⟨_, rfl, .inl rfl⟩ rfl rfl rfl (.skip ⟨_, rfl, .inl rfl⟩ rfl rfl rfl (.skip ⟨_, rfl, .inl rfl⟩ rfl rfl rfl (.nil))))))))))))))))))))))))))))
            refine opSkip rfl ⟨_, rfl, .inl rfl⟩ rfl ?_
            refine op0 (sp_pickF rfl rfl rfl) rfl trivial rfl rfl ?_
            refine op0 (sp_assign rfl rfl) rfl trivial rfl rfl ?_
            refine TL.nil ?_
            cases h
            exact retJ [] (.tmp rfl .nil) rfl trivial rfl rfl
        · refine drawJ 28 [⟨.val (.int .i64 r3.2.2), [], [], []⟩, ⟨.val (.bool (r3.2.2 == 0)), [], [], []⟩, ⟨.val (.bool true), [], [], []⟩, ⟨.val (.int .i64 r6.2), [], [], []⟩, ⟨.val (.bool (r6.2 == 0)), [], [], []⟩, ⟨.val (.bool (r6.2 == 0)), [], [], []⟩, ⟨.val (.bool true), [], [], []⟩, ⟨.agg [.val (.int .i64 r3.1), .val (.int .i64 r3.2.1)], [], [.blk 1 [.val (.int .i64 r3.1), .val (.int .i64 r3.2.1)] 34], []⟩, ⟨.agg [.val (.int .i64 r7.1), .val (.int .i64 r7.2)], [], [], []⟩, ⟨.val (.bool ((r3.1 == r7.1) && (r3.2.1 == r7.2))), [], [], []⟩, ⟨.val (.bool ((r3.1 == r7.1) && (r3.2.1 == r7.2))), [], [], []⟩, ⟨.val (.bool true), [], [], []⟩, ⟨.ref 3, [], [], []⟩, ⟨.val (.int .i64 (r6.1.length : Int)), [], [.row 3 34 2 (List.map en_api_Span r6.1)], []⟩, ⟨.val (.bool ((r6.1.length : Int) == 2)), [], [], []⟩, ⟨.val (.bool ((r6.1.length : Int) == 2)), [], [], []⟩, ⟨.val (.bool false), [], [], []⟩, ⟨.val (undef), [], [], []⟩, ⟨.val (undef), [], [], []⟩, ⟨.val (undef), [], [], []⟩, ⟨.val (undef), [], [], []⟩, ⟨.val (undef), [], [], []⟩, ⟨.val (.bool false), [], [], []⟩, ⟨.val (.bool false), [], [], []⟩, ⟨.val (undef), [], [], []⟩, ⟨.val (undef), [], [], []⟩, ⟨.val (undef), [], [], []⟩, ⟨.val (undef), [], [], []⟩] rfl ?_ rfl ?_ rfl ?_ ?_
          · kernel_rfl
          · kernel_rfl
          · exact DAll.op' (sp_move rfl rfl) trivial rfl (From.ok (ps := []) trivial) (DAll.op' (sp_eql rfl rfl rfl) trivial rfl (From.ok (ps := []) trivial) (DAll.op' (sp_castB h7 (sp_move rfl rfl)) trivial rfl (From.ok (ps := []) trivial) (DAll.op' (sp_move rfl rfl) ⟨_, rfl, rfl⟩ rfl (From.ok (ps := []) trivial) (DAll.op' (sp_eql rfl rfl rfl) ⟨_, rfl, rfl⟩ rfl (From.ok (ps := []) trivial) (DAll.op' (sp_pickT rfl rfl rfl) trivial rfl (From.ok (ps := []) trivial) (DAll.op' (sp_castB h8 (sp_move rfl rfl)) trivial rfl (From.ok (ps := []) trivial) (DAll.op' (sp_loadBA rfl isBlk rfl vt34 rfl rfl) ⟨_, rfl, rfl⟩ rfl (From.ok (ps := [(none, 2)]) ⟨⟨rfl, rfl⟩, trivial⟩) (DAll.op' (sp_call (avs := [.val (.int .i64 (-48)), .val (.int .i64 (-18))]) (need := []) (v := .agg [.val (.int .i64 r7.1), .val (.int .i64 r7.2)]) (news := []) rfl rfl rfl Try.call20 (atJ [] [] (fc_top_pubSpan h9) rfl rfl) (.inl (roAll rfl))) ⟨_, rfl, rfl⟩ rfl (From.ok (ps := []) trivial) (DAll.op' (sp_eqlS rfl rfl rfl rfl rfl (eq34 _ _ _ _)) ⟨_, rfl, rfl⟩ rfl (From.ok (ps := []) trivial) (DAll.op' (sp_pickT rfl rfl rfl) trivial rfl (From.ok (ps := []) trivial) (DAll.op' (sp_castB h10 (sp_move rfl rfl)) trivial rfl (From.ok (ps := []) trivial) (DAll.op' (sp_move rfl rfl) ⟨_, rfl, rfl⟩ rfl (From.ok (ps := []) trivial) (DAll.op' (sp_lenM (N := r6.1.length) (len_map _ _) rfl rfl isOwn Try.underlying39) ⟨_, rfl, rfl⟩ rfl (From.ok (ps := [(none, 0)]) ⟨⟨rfl, rfl⟩, trivial⟩) (DAll.op' (sp_eql rfl rfl rfl) ⟨_, rfl, rfl⟩ rfl (From.ok (ps := []) trivial) (DAll.op' (sp_pickT rfl rfl rfl) trivial rfl (From.ok (ps := []) trivial) (DAll.op' (sp_castB h11 (sp_move rfl rfl)) trivial rfl (From.ok (ps := []) trivial) (.skip ⟨_, rfl, .inl rfl⟩ rfl rfl rfl (.skip ⟨_, rfl, .inl rfl⟩ rfl rfl rfl (.skip ⟨_, rfl, .inl rfl⟩ rfl rfl rfl (.skip ⟨_, rfl, .inl rfl⟩ rfl rfl rfl (.skip ⟨_, rfl, .inl rfl⟩ rfl rfl rfl (DAll.op' (sp_pickF rfl rfl rfl) trivial rfl (From.ok (ps := []) trivial) (DAll.op' (sp_move rfl rfl) trivial rfl (From.ok (ps := []) trivial) (.skip ⟨_, rfl, .inl rfl⟩ rfl rfl rfl (.skip ⟨_, rfl, .inl rfl⟩ rfl rfl rfl (.skip ⟨_, rfl, .inl rfl⟩ rfl rfl rfl (.skip ⟨_, rfl, .inl rfl⟩ rfl rfl rfl (.nil))))))))))))))))))))))))))))
          refine opSkip rfl ⟨_, rfl, .inl rfl⟩ rfl ?_
          refine op0 (sp_pickF rfl rfl rfl) rfl trivial rfl rfl ?_
          refine op0 (sp_assign rfl rfl) rfl trivial rfl rfl ?_
          refine TL.nil ?_
          cases h
          exact retJ [] (.tmp rfl .nil) rfl trivial rfl rfl
      · refine drawJ 28 [⟨.val (.int .i64 r3.2.2), [], [], []⟩, ⟨.val (.bool (r3.2.2 == 0)), [], [], []⟩, ⟨.val (.bool true), [], [], []⟩, ⟨.val (.int .i64 r6.2), [], [], []⟩, ⟨.val (.bool (r6.2 == 0)), [], [], []⟩, ⟨.val (.bool (r6.2 == 0)), [], [], []⟩, ⟨.val (.bool true), [], [], []⟩, ⟨.agg [.val (.int .i64 r3.1), .val (.int .i64 r3.2.1)], [], [.blk 1 [.val (.int .i64 r3.1), .val (.int .i64 r3.2.1)] 34], []⟩, ⟨.agg [.val (.int .i64 r7.1), .val (.int .i64 r7.2)], [], [], []⟩, ⟨.val (.bool ((r3.1 == r7.1) && (r3.2.1 == r7.2))), [], [], []⟩, ⟨.val (.bool ((r3.1 == r7.1) && (r3.2.1 == r7.2))), [], [], []⟩, ⟨.val (.bool false), [], [], []⟩, ⟨.val (undef), [], [], []⟩, ⟨.val (undef), [], [], []⟩, ⟨.val (undef), [], [], []⟩, ⟨.val (.bool false), [], [], []⟩, ⟨.val (.bool false), [], [], []⟩, ⟨.val (undef), [], [], []⟩, ⟨.val (undef), [], [], []⟩, ⟨.val (undef), [], [], []⟩, ⟨.val (undef), [], [], []⟩, ⟨.val (undef), [], [], []⟩, ⟨.val (.bool false), [], [], []⟩, ⟨.val (.bool false), [], [], []⟩, ⟨.val (undef), [], [], []⟩, ⟨.val (undef), [], [], []⟩, ⟨.val (undef), [], [], []⟩, ⟨.val (undef), [], [], []⟩] rfl ?_ rfl ?_ rfl ?_ ?_
        · kernel_rfl
        · kernel_rfl
        · exact DAll.op' (sp_move rfl rfl) trivial rfl (From.ok (ps := []) trivial) (DAll.op' (sp_eql rfl rfl rfl) trivial rfl (From.ok (ps := []) trivial) (DAll.op' (sp_castB h7 (sp_move rfl rfl)) trivial rfl (From.ok (ps := []) trivial) (DAll.op' (sp_move rfl rfl) ⟨_, rfl, rfl⟩ rfl (From.ok (ps := []) trivial) (DAll.op' (sp_eql rfl rfl rfl) ⟨_, rfl, rfl⟩ rfl (From.ok (ps := []) trivial) (DAll.op' (sp_pickT rfl rfl rfl) trivial rfl (From.ok (ps := []) trivial) (DAll.op' (sp_castB h8 (sp_move rfl rfl)) trivial rfl (From.ok (ps := []) trivial) (DAll.op' (sp_loadBA rfl isBlk rfl vt34 rfl rfl) ⟨_, rfl, rfl⟩ rfl (From.ok (ps := [(none, 2)]) ⟨⟨rfl, rfl⟩, trivial⟩) (DAll.op' (sp_call (avs := [.val (.int .i64 (-48)), .val (.int .i64 (-18))]) (need := []) (v := .agg [.val (.int .i64 r7.1), .val (.int .i64 r7.2)]) (news := []) rfl rfl rfl Try.call20 (atJ [] [] (fc_top_pubSpan h9) rfl rfl) (.inl (roAll rfl))) ⟨_, rfl, rfl⟩ rfl (From.ok (ps := []) trivial) (DAll.op' (sp_eqlS rfl rfl rfl rfl rfl (eq34 _ _ _ _)) ⟨_, rfl, rfl⟩ rfl (From.ok (ps := []) trivial) (DAll.op' (sp_pickT rfl rfl rfl) trivial rfl (From.ok (ps := []) trivial) (DAll.op' (sp_castB h10 (sp_move rfl rfl)) trivial rfl (From.ok (ps := []) trivial) (.skip ⟨_, rfl, .inl rfl⟩ rfl rfl rfl (.skip ⟨_, rfl, .inl rfl⟩ rfl rfl rfl (.skip ⟨_, rfl, .inl rfl⟩ rfl rfl rfl (DAll.op' (sp_pickF rfl rfl rfl) trivial rfl (From.ok (ps := []) trivial) (DAll.op' (sp_move rfl rfl) trivial rfl (From.ok (ps := []) trivial) (.skip ⟨_, rfl, .inl rfl⟩ rfl rfl rfl (.skip ⟨_, rfl, .inl rfl⟩ rfl rfl rfl (.skip ⟨_, rfl, .inl rfl⟩ rfl rfl rfl (.skip ⟨_, rfl, .inl rfl⟩ rfl rfl rfl (.skip ⟨_, rfl, .inl rfl⟩ rfl rfl rfl (DAll.op' (sp_pickF rfl rfl rfl) trivial rfl (From.ok (ps := []) trivial) (DAll.op' (sp_move rfl rfl) trivial rfl (From.ok (ps := []) trivial) (.skip ⟨_, rfl, .inl rfl⟩ rfl rfl rfl (.skip ⟨_, rfl, .inl rfl⟩ rfl rfl rfl (.skip ⟨_, rfl, .inl rfl⟩ rfl rfl rfl (.skip ⟨_, rfl, .inl rfl⟩ rfl rfl rfl (.nil))))))))))))))))))))))))))))
        refine opSkip rfl ⟨_, rfl, .inl rfl⟩ rfl ?_
        refine op0 (sp_pickF rfl rfl rfl) rfl trivial rfl rfl ?_
        refine op0 (sp_assign rfl rfl) rfl trivial rfl rfl ?_
        refine TL.nil ?_
        cases h
        exact retJ [] (.tmp rfl .nil) rfl trivial rfl rfl
    · refine drawJ 28 [⟨.val (.int .i64 r3.2.2), [], [], []⟩, ⟨.val (.bool (r3.2.2 == 0)), [], [], []⟩, ⟨.val (.bool true), [], [], []⟩, ⟨.val (.int .i64 r6.2), [], [], []⟩, ⟨.val (.bool (r6.2 == 0)), [], [], []⟩, ⟨.val (.bool (r6.2 == 0)), [], [], []⟩, ⟨.val (.bool false), [], [], []⟩, ⟨.val (undef), [], [], []⟩, ⟨.val (undef), [], [], []⟩, ⟨.val (undef), [], [], []⟩, ⟨.val (.bool false), [], [], []⟩, ⟨.val (.bool false), [], [], []⟩, ⟨.val (undef), [], [], []⟩, ⟨.val (undef), [], [], []⟩, ⟨.val (undef), [], [], []⟩, ⟨.val (.bool false), [], [], []⟩, ⟨.val (.bool false), [], [], []⟩, ⟨.val (undef), [], [], []⟩, ⟨.val (undef), [], [], []⟩, ⟨.val (undef), [], [], []⟩, ⟨.val (undef), [], [], []⟩, ⟨.val (undef), [], [], []⟩, ⟨.val (.bool false), [], [], []⟩, ⟨.val (.bool false), [], [], []⟩, ⟨.val (undef), [], [], []⟩, ⟨.val (undef), [], [], []⟩, ⟨.val (undef), [], [], []⟩, ⟨.val (undef), [], [], []⟩] rfl ?_ rfl ?_ rfl ?_ ?_
      · kernel_rfl
      · kernel_rfl
      · exact DAll.op' (sp_move rfl rfl) trivial rfl (From.ok (ps := []) trivial) (DAll.op' (sp_eql rfl rfl rfl) trivial rfl (From.ok (ps := []) trivial) (DAll.op' (sp_castB h7 (sp_move rfl rfl)) trivial rfl (From.ok (ps := []) trivial) (DAll.op' (sp_move rfl rfl) ⟨_, rfl, rfl⟩ rfl (From.ok (ps := []) trivial) (DAll.op' (sp_eql rfl rfl rfl) ⟨_, rfl, rfl⟩ rfl (From.ok (ps := []) trivial) (DAll.op' (sp_pickT rfl rfl rfl) trivial rfl (From.ok (ps := []) trivial) (DAll.op' (sp_castB h8 (sp_move rfl rfl)) trivial rfl (From.ok (ps := []) trivial) (.skip ⟨_, rfl, .inl rfl⟩ rfl rfl rfl (.skip ⟨_, rfl, .inl rfl⟩ rfl rfl rfl (.skip ⟨_, rfl, .inl rfl⟩ rfl rfl rfl (DAll.op' (sp_pickF rfl rfl rfl) trivial rfl (From.ok (ps := []) trivial) (DAll.op' (sp_move rfl rfl) trivial rfl (From.ok (ps := []) trivial) (.skip ⟨_, rfl, .inl rfl⟩ rfl rfl rfl (.skip ⟨_, rfl, .inl rfl⟩ rfl rfl rfl (.skip ⟨_, rfl, .inl rfl⟩ rfl rfl rfl (DAll.op' (sp_pickF rfl rfl rfl) trivial rfl (From.ok (ps := []) trivial) (DAll.op' (sp_move rfl rfl) trivial rfl (From.ok (ps := []) trivial) (.skip ⟨_, rfl, .inl rfl⟩ rfl rfl rfl (.skip ⟨_, rfl, .inl rfl⟩ rfl rfl rfl (.skip ⟨_, rfl, .inl rfl⟩ rfl rfl rfl (.skip ⟨_, rfl, .inl rfl⟩ rfl rfl rfl (.skip ⟨_, rfl, .inl rfl⟩ rfl rfl rfl (DAll.op' (sp_pickF rfl rfl rfl) trivial rfl (From.ok (ps := []) trivial) (DAll.op' (sp_move rfl rfl) trivial rfl (From.ok (ps := []) trivial) (.skip ⟨_, rfl, .inl rfl⟩ rfl rfl rfl (.skip ⟨_, rfl, .inl rfl⟩ rfl rfl rfl (.skip ⟨_, rfl, .inl rfl⟩ rfl rfl rfl (.skip ⟨_, rfl, .inl rfl⟩ rfl rfl rfl (.nil))))))))))))))))))))))))))))
      refine opSkip rfl ⟨_, rfl, .inl rfl⟩ rfl ?_
      refine op0 (sp_pickF rfl rfl rfl) rfl trivial rfl rfl ?_
      refine op0 (sp_assign rfl rfl) rfl trivial rfl rfl ?_
      refine TL.nil ?_
      cases h
      exact retJ [] (.tmp rfl .nil) rfl trivial rfl rfl
  · refine drawJ 28 [⟨.val (.int .i64 r3.2.2), [], [], []⟩, ⟨.val (.bool (r3.2.2 == 0)), [], [], []⟩, ⟨.val (.bool false), [], [], []⟩, ⟨.val (undef), [], [], []⟩, ⟨.val (undef), [], [], []⟩, ⟨.val (.bool false), [], [], []⟩, ⟨.val (.bool false), [], [], []⟩, ⟨.val (undef), [], [], []⟩, ⟨.val (undef), [], [], []⟩, ⟨.val (undef), [], [], []⟩, ⟨.val (.bool false), [], [], []⟩, ⟨.val (.bool false), [], [], []⟩, ⟨.val (undef), [], [], []⟩, ⟨.val (undef), [], [], []⟩, ⟨.val (undef), [], [], []⟩, ⟨.val (.bool false), [], [], []⟩, ⟨.val (.bool false), [], [], []⟩, ⟨.val (undef), [], [], []⟩, ⟨.val (undef), [], [], []⟩, ⟨.val (undef), [], [], []⟩, ⟨.val (undef), [], [], []⟩, ⟨.val (undef), [], [], []⟩, ⟨.val (.bool false), [], [], []⟩, ⟨.val (.bool false), [], [], []⟩, ⟨.val (undef), [], [], []⟩, ⟨.val (undef), [], [], []⟩, ⟨.val (undef), [], [], []⟩, ⟨.val (undef), [], [], []⟩] rfl ?_ rfl ?_ rfl ?_ ?_
    · kernel_rfl
    · kernel_rfl
    · exact DAll.op' (sp_move rfl rfl) trivial rfl (From.ok (ps := []) trivial) (DAll.op' (sp_eql rfl rfl rfl) trivial rfl (From.ok (ps := []) trivial) (DAll.op' (sp_castB h7 (sp_move rfl rfl)) trivial rfl (From.ok (ps := []) trivial) (.skip ⟨_, rfl, .inl rfl⟩ rfl rfl rfl (.skip ⟨_, rfl, .inl rfl⟩ rfl rfl rfl (DAll.op' (sp_pickF rfl rfl rfl) trivial rfl (From.ok (ps := []) trivial) (DAll.op' (sp_move rfl rfl) trivial rfl (From.ok (ps := []) trivial) (.skip ⟨_, rfl, .inl rfl⟩ rfl rfl rfl (.skip ⟨_, rfl, .inl rfl⟩ rfl rfl rfl (.skip ⟨_, rfl, .inl rfl⟩ rfl rfl rfl (DAll.op' (sp_pickF rfl rfl rfl) trivial rfl (From.ok (ps := []) trivial) (DAll.op' (sp_move rfl rfl) trivial rfl (From.ok (ps := []) trivial) (.skip ⟨_, rfl, .inl rfl⟩ rfl rfl rfl (.skip ⟨_, rfl, .inl rfl⟩ rfl rfl rfl (.skip ⟨_, rfl, .inl rfl⟩ rfl rfl rfl (DAll.op' (sp_pickF rfl rfl rfl) trivial rfl (From.ok (ps := []) trivial) (DAll.op' (sp_move rfl rfl) trivial rfl (From.ok (ps := []) trivial) (.skip ⟨_, rfl, .inl rfl⟩ rfl rfl rfl (.skip ⟨_, rfl, .inl rfl⟩ rfl rfl rfl (.skip ⟨_, rfl, .inl rfl⟩ rfl rfl rfl (.skip ⟨_, rfl, .inl rfl⟩ rfl rfl rfl (.skip ⟨_, rfl, .inl rfl⟩ rfl rfl rfl (DAll.op' (sp_pickF rfl rfl rfl) trivial rfl (From.ok (ps := []) trivial) (DAll.op' (sp_move rfl rfl) trivial rfl (From.ok (ps := []) trivial) (.skip ⟨_, rfl, .inl rfl⟩ rfl rfl rfl (.skip ⟨_, rfl, .inl rfl⟩ rfl rfl rfl (.skip ⟨_, rfl, .inl rfl⟩ rfl rfl rfl (.skip ⟨_, rfl, .inl rfl⟩ rfl rfl rfl (.nil))))))))))))))))))))))))))))
    refine opSkip rfl ⟨_, rfl, .inl rfl⟩ rfl ?_
    refine op0 (sp_pickF rfl rfl rfl) rfl trivial rfl rfl ?_
    refine op0 (sp_assign rfl rfl) rfl trivial rfl rfl ?_
    refine TL.nil ?_
    cases h
    exact retJ [] (.tmp rfl .nil) rfl trivial rfl rfl
end
end Go.Proofs.Ytgkoldcmbcbbpaa.Sy
