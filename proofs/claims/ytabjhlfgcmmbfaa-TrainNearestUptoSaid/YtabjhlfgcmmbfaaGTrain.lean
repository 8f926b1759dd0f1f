/- What functions of the program compute, and that they do: printed by symgen.py. -/
import Derived.Test.YtabjhlfgcmmbfaaGLib
set_option linter.unusedSimpArgs false
set_option linter.unusedVariables false
namespace Go.Proofs.Ytabjhlfgcmmbfaa.Sy
open Go.RowKit
noncomputable section

/- train_within_1 -/
def ev_train_within_1 (n : Nat) (nn1 : Int) (c2 : Int) (c3 : Int) : Option Bool :=
  cond (decide (nn1 < c2)) (some true) (some (decide (c3 < nn1)))
set_option maxRecDepth 100000 in
set_option maxHeartbeats 2000000 in
theorem fc_train_within_1 {n : Nat} {nn1 : Int} {c2 : Int} {c3 : Int} {r : Bool} (h : ev_train_within_1 n nn1 c2 c3 = some r) : FC Try.prog 78 [.val (.int .i64 nn1), .ptr 0 0, .ptr 1 0] [.rob 0 [.val (.int .i64 c2)] 3, .rob 1 [.val (.int .i64 c3)] 3] (.val (.bool r)) [] := by
  refine introJ (nz := 13) Try.func78 rfl rfl rfl (fun w0 R0 env0 => ?_)
  rw [ev_train_within_1] at h
  refine TC.seq ?_
  refine TC.region ?_
  refine op0 (sp_assign rfl rfl) rfl trivial rfl rfl ?_
  refine TL.nil ?_
  refine TC.seq ?_
  refine TC.region ?_
  refine op0 (sp_move rfl rfl) rfl trivial rfl rfl ?_
  refine op1 0 rfl (sp_loadB rfl isRob rfl vt3 rfl) rfl trivial rfl rfl ?_
  refine op0 (sp_lss rfl rfl rfl) rfl trivial rfl rfl ?_
  refine op0 (sp_move rfl rfl) rfl trivial rfl rfl ?_
  rcases cond_cases h with ⟨h1, h⟩ | ⟨h1, h⟩
  · refine (boolLit 8 rfl h1).2 ?_
    refine opSkip rfl ⟨_, rfl, .inl rfl⟩ rfl ?_
    refine opSkip rfl ⟨_, rfl, .inl rfl⟩ rfl ?_
    refine opSkip rfl ⟨_, rfl, .inl rfl⟩ rfl ?_
    refine op0 (sp_pickT rfl rfl rfl) rfl trivial rfl rfl ?_
    refine op0 (sp_assign rfl rfl) rfl trivial rfl rfl ?_
    refine TL.nil ?_
    cases h
    exact retJ [] (.tmp rfl .nil) rfl trivial rfl rfl
  · refine (boolLit 8 rfl h1).2 ?_
    refine op0 (sp_move rfl rfl) rfl ⟨_, rfl, rfl⟩ rfl rfl ?_
    refine op1 1 rfl (sp_loadB rfl isRob rfl vt3 rfl) rfl ⟨_, rfl, rfl⟩ rfl rfl ?_
    refine op0 (sp_gtr rfl rfl rfl) rfl ⟨_, rfl, rfl⟩ rfl rfl ?_
    refine op0 (sp_pickF rfl rfl rfl) rfl trivial rfl rfl ?_
    refine op0 (sp_assign rfl rfl) rfl trivial rfl rfl ?_
    refine TL.nil ?_
    cases h
    exact retJ [] (.tmp rfl .nil) rfl trivial rfl rfl
/- train_within -/
def ev_train_within (n : Nat) (least1 : Int) (most2 : Int) (l3 : List Int) : Option Bool :=
  (ev_slices_ContainsFunc_Lint_int n l3 (fun a => ev_train_within_1 n a least1 most2)).bind fun r4 => some (!r4)
set_option maxRecDepth 100000 in
set_option maxHeartbeats 2000000 in
theorem fc_train_within {n : Nat} {least1 : Int} {most2 : Int} {l3 : List Int} {r : Bool} (h : ev_train_within n least1 most2 l3 = some r) : FC Try.prog 62 [.val (.int .i64 least1), .val (.int .i64 most2), .ref 0] [.ro 0 1 (List.map en_int l3)] (.val (.bool r)) [] := by
  refine introJ (nz := 11) Try.func62 rfl rfl rfl (fun w0 R0 env0 => ?_)
  rw [ev_train_within] at h
  refine TC.seq ?_
  refine TC.region ?_
  refine op0 (sp_box 1 rfl rfl rfl rfl rfl) rfl trivial rfl rfl ?_
  refine op0 (sp_box 2 rfl rfl rfl rfl rfl) rfl trivial rfl rfl ?_
  refine op0 (sp_assign rfl rfl) rfl trivial rfl rfl ?_
  refine TL.nil ?_
  refine TC.seq ?_
  refine TC.region ?_
  refine op0 (sp_move rfl rfl) rfl trivial rfl rfl ?_
  refine op0 (sp_makeFunc (fi := []) (ca := [.tmp 3, .tmp 4]) (fa := []) (cb := [.ptr 1 0, .ptr 2 0]) rfl rfl rfl) rfl trivial rfl rfl ?_
  obtain ⟨r4, h1, h⟩ := bind_inv h
  refine opN (need := [.ro 0 1 (List.map en_int l3), .blk 1 [.val (.int .i64 least1)] 3, .blk 2 [.val (.int .i64 most2)] 3]) [2, 1, 0] ⟨rfl, rfl, rfl, trivial⟩ (sp_call (avs := [.ref 0, .fn 78 [] [.ptr 1 0, .ptr 2 0]]) (need := [.ro 0 1 (List.map en_int l3), .blk 1 [.val (.int .i64 least1)] 3, .blk 2 [.val (.int .i64 most2)] 3]) (v := .val (.bool r4)) (news := []) rfl rfl rfl Try.call56 (FC.needJ (need := [.ro 0 1 (List.map en_int l3), .rob 1 [.val (.int .i64 least1)] 3, .rob 2 [.val (.int .i64 most2)] 3]) (need' := [.rob 1 [.val (.int .i64 least1)] 3, .rob 2 [.val (.int .i64 most2)] 3, .ro 0 1 (List.map en_int l3)]) [1, 2, 0] ⟨rfl, rfl, rfl, trivial⟩ (FC.fnArg (args := [.ref 0, .ref 3]) (needC := [.rob 1 [.val (.int .i64 least1)] 3, .rob 2 [.val (.int .i64 most2)] 3]) (need := [.ro 0 1 (List.map en_int l3)]) 1 (first := []) (caps := [.ptr 1 0, .ptr 2 0]) (FC.needJ (need := [.any 3 (D.fn Try.prog fe_funcint_bool fd_funcint_bool (fun a => ev_train_within_1 n a least1 most2)), .ro 0 1 (List.map en_int l3)]) (need' := [.ro 0 1 (List.map en_int l3), .any 3 (D.fn Try.prog fe_funcint_bool fd_funcint_bool (fun a => ev_train_within_1 n a least1 most2))]) [1, 0] ⟨rfl, rfl, trivial⟩ (atJ [(1, 3)] [] (fc_slices_ContainsFunc_Lint_int h1) rfl rfl)) rfl Try.call78 (fun a b hab => atJ [(0, 1), (1, 2)] [] (fc_train_within_1 hab) rfl rfl) rfl (fun _ => rfl) (fun _ => rfl) rfl rfl rfl rfl rfl rfl rfl)) (.inr (fun x hx => nomatch hx))) rfl trivial rfl rfl ?_
  refine op0 (sp_not rfl rfl) rfl trivial rfl rfl ?_
  refine op0 (sp_assign rfl rfl) rfl trivial rfl rfl ?_
  refine TL.nil ?_
  cases h
  exact retJ [] (.tmp rfl .nil) rfl trivial rfl rfl
/- train_isTeeth -/
def ev_train_isTeeth (n : Nat) (l1 : List Int) : Option Bool :=
  (ev_train_within n 6 400 l1).bind fun r2 => some r2
set_option maxRecDepth 100000 in
set_option maxHeartbeats 2000000 in
theorem fc_train_isTeeth {n : Nat} {l1 : List Int} {r : Bool} (h : ev_train_isTeeth n l1 = some r) : FC Try.prog 49 [.ref 0] [.ro 0 1 (List.map en_int l1)] (.val (.bool r)) [] := by
  refine introJ (nz := 5) Try.func49 rfl rfl rfl (fun w0 R0 env0 => ?_)
  rw [ev_train_isTeeth] at h
  refine TC.seq ?_
  refine TC.region ?_
  refine op0 (sp_assign rfl rfl) rfl trivial rfl rfl ?_
  refine TL.nil ?_
  refine TC.seq ?_
  refine TC.region ?_
  refine op0 (sp_move rfl rfl) rfl trivial rfl rfl ?_
  obtain ⟨r2, h1, h⟩ := bind_inv h
  refine op1 0 rfl (sp_call (avs := [.val (.int .i64 6), .val (.int .i64 400), .ref 0]) (need := [.ro 0 1 (List.map en_int l1)]) (v := .val (.bool r2)) (news := []) rfl rfl rfl Try.call62 (atJ [] [] (fc_train_within h1) rfl rfl) (.inl (roAll rfl))) rfl trivial rfl rfl ?_
  refine op0 (sp_assign rfl rfl) rfl trivial rfl rfl ?_
  refine TL.nil ?_
  cases h
  exact retJ [] (.tmp rfl .nil) rfl trivial rfl rfl
/- train_newChain_1 -/
def ev_train_newChain_1 (n : Nat) (p1 : Int) (p2 : Int) : Option Bool :=
  (ev_train_isTeeth n ([p1, p2] : List Int)).bind fun r3 => some (!r3)
set_option maxRecDepth 100000 in
set_option maxHeartbeats 2000000 in
theorem fc_train_newChain_1 {n : Nat} {p1 : Int} {p2 : Int} {r : Bool} (h : ev_train_newChain_1 n p1 p2 = some r) : FC Try.prog 68 [.agg [.val (.int .i64 p1), .val (.int .i64 p2)]] [] (.val (.bool r)) [] := by
  refine introJ (nz := 10) Try.func68 rfl rfl rfl (fun w0 R0 env0 => ?_)
  rw [ev_train_newChain_1] at h
  refine TC.seq ?_
  refine TC.region ?_
  refine op0 (sp_box 0 rfl rfl rfl rfl rfl) rfl trivial rfl rfl ?_
  refine op0 (sp_assign rfl rfl) rfl trivial rfl rfl ?_
  refine TL.nil ?_
  refine TC.seq ?_
  refine TC.region ?_
  refine op1 0 rfl (sp_fieldAddrB rfl isBlk rfl ft33_0 vt3 (by decide)) rfl trivial rfl rfl ?_
  refine op1 0 rfl (sp_loadB rfl isBlk rfl vt3 rfl) rfl trivial rfl rfl ?_
  refine op1 0 rfl (sp_fieldAddrB rfl isBlk rfl ft33_1 vt3 (by decide)) rfl trivial rfl rfl ?_
  refine op1 0 rfl (sp_loadB rfl isBlk rfl vt3 rfl) rfl trivial rfl rfl ?_
  refine op0 (sp_buildSlice (qs := [.val (.int .i64 p1), .val (.int .i64 p2)]) (need := []) (els := List.map en_int ([p1, p2] : List Int)) 1 rfl sl38 (by decide) (by decide) rfl rfl rfl (.v (.v (.nil))) (map_len fun _ => rfl) rfl rfl rfl) rfl trivial rfl rfl ?_
  obtain ⟨r3, h1, h⟩ := bind_inv h
  refine op1 0 rfl (sp_call (avs := [.ref 1]) (need := [.row 1 3 1 (List.map en_int ([p1, p2] : List Int))]) (v := .val (.bool r3)) (news := []) rfl rfl rfl Try.call49 (atJ [(0, 1)] [] (fc_train_isTeeth h1) rfl rfl) (.inr (fun x hx => nomatch hx))) rfl trivial rfl rfl ?_
  refine op0 (sp_not rfl rfl) rfl trivial rfl rfl ?_
  refine op0 (sp_assign rfl rfl) rfl trivial rfl rfl ?_
  refine TL.nil ?_
  cases h
  exact retJ [] (.tmp rfl .nil) rfl trivial rfl rfl
/- train_newChain -/
def ev_train_newChain (n : Nat) (l1 : List (Int × Int)) : Option ((List (Int × Int)) × Int) :=
  cond (decide ((6 : Int) < (l1.length : Int))) (some (([] : List (Int × Int)), 5)) ((ev_slices_ContainsFunc_Lapi_TrainPair_api_TrainPair n l1 (fun a => ev_train_newChain_1 n a.1 a.2)).bind fun r2 => cond r2 (some (([] : List (Int × Int)), 2)) (some (l1, 0)))
set_option maxRecDepth 100000 in
set_option maxHeartbeats 2000000 in
theorem fc_train_newChain {n : Nat} {l1 : List (Int × Int)} {r : (List (Int × Int)) × Int} (h : ev_train_newChain n l1 = some r) : FC Try.prog 44 [.ref 0] [.ro 0 2 (List.map en_api_TrainPair l1)] (.tup [.ref 0, .val (.int .i64 r.2)]) [.ro 0 2 (List.map en_api_TrainPair r.1)] := by
  refine introJ (nz := 10) Try.func44 rfl rfl rfl (fun w0 R0 env0 => ?_)
  rw [ev_train_newChain] at h
  refine TC.seq ?_
  refine TC.region ?_
  refine op0 (sp_assign rfl rfl) rfl trivial rfl rfl ?_
  refine op0 (sp_assign rfl rfl) rfl trivial rfl rfl ?_
  refine TL.nil ?_
  refine TC.seq ?_
  refine TC.seq ?_
  refine TC.region ?_
  refine op0 (sp_move rfl rfl) rfl trivial rfl rfl ?_
  refine op1 0 rfl (sp_lenM (N := l1.length) (len_map _ _) rfl rfl isRo Try.underlying22) rfl trivial rfl rfl ?_
  refine op0 (sp_gtr rfl rfl rfl) rfl trivial rfl rfl ?_
  refine TL.nil ?_
  refine TC.cond (b := (decide ((6 : Int) < (l1.length : Int)))) rfl (fun h1 => ?_) (fun h1 => ?_)
  · have h := cond_t h h1
    refine TC.seq ?_
    refine TC.region ?_
    refine op0 (sp_assign rfl rfl) rfl trivial rfl rfl ?_
    refine op0 (sp_assign rfl rfl) rfl trivial rfl rfl ?_
    refine TL.nil ?_
    refine nilRowC 2 1 33 2 (List.map en_api_TrainPair []) rfl rfl rfl ?_
    refine TC.freeze 0 rfl ?_
    cases h
    exact retJ [(0, 1)] (.tmp rfl (.tmp rfl .nil)) rfl ⟨mem_at 0 rfl, trivial⟩ rfl rfl
  · have h := cond_f h h1
    refine TC.skip ?_
    refine TC.seq ?_
    refine TC.seq ?_
    refine TC.region ?_
    refine op0 (sp_move rfl rfl) rfl trivial rfl rfl ?_
    obtain ⟨r2, h2, h⟩ := bind_inv h
    refine op1 0 rfl (sp_call (avs := [.ref 0, .fn 68 [] []]) (need := [.ro 0 2 (List.map en_api_TrainPair l1)]) (v := .val (.bool r2)) (news := []) rfl rfl rfl Try.call67 (FC.fnArg (args := [.ref 0, .ref 2]) (needC := []) (need := [.ro 0 2 (List.map en_api_TrainPair l1)]) 1 (first := []) (caps := []) (FC.needJ (need := [.any 2 (D.fn Try.prog fe_funcapi_TrainPair_bool fd_funcapi_TrainPair_bool (fun a => ev_train_newChain_1 n a.1 a.2)), .ro 0 2 (List.map en_api_TrainPair l1)]) (need' := [.ro 0 2 (List.map en_api_TrainPair l1), .any 2 (D.fn Try.prog fe_funcapi_TrainPair_bool fd_funcapi_TrainPair_bool (fun a => ev_train_newChain_1 n a.1 a.2))]) [1, 0] ⟨rfl, rfl, trivial⟩ (atJ [(1, 2)] [] (fc_slices_ContainsFunc_Lapi_TrainPair_api_TrainPair h2) rfl rfl)) rfl Try.call68 (fun a b hab => atJ [] [] (fc_train_newChain_1 hab) rfl rfl) rfl (fun _ => rfl) (fun _ => rfl) rfl rfl rfl rfl rfl rfl rfl) (.inl (roAll rfl))) rfl trivial rfl rfl ?_
    refine TL.nil ?_
    refine TC.cond (b := r2) rfl (fun h3 => ?_) (fun h3 => ?_)
    · have h := cond_t h h3
      refine TC.seq ?_
      refine TC.region ?_
      refine op0 (sp_assign rfl rfl) rfl trivial rfl rfl ?_
      refine op0 (sp_assign rfl rfl) rfl trivial rfl rfl ?_
      refine TL.nil ?_
      refine nilRowC 2 3 33 2 (List.map en_api_TrainPair []) rfl rfl rfl ?_
      refine TC.freeze 0 rfl ?_
      cases h
      exact retJ [(0, 3)] (.tmp rfl (.tmp rfl .nil)) rfl ⟨mem_at 0 rfl, trivial⟩ rfl rfl
    · have h := cond_f h h3
      refine TC.skip ?_
      refine TC.seq ?_
      refine TC.region ?_
      refine op0 (sp_move rfl rfl) rfl trivial rfl rfl ?_
      refine op0 (sp_assign rfl rfl) rfl trivial rfl rfl ?_
      refine op0 (sp_assign rfl rfl) rfl trivial rfl rfl ?_
      refine TL.nil ?_
      cases h
      exact retJ [] (.tmp rfl (.tmp rfl .nil)) rfl ⟨mem_at 0 rfl, trivial⟩ rfl rfl
/- train_gcd -/
def ev_train_gcd_l0 (n : Nat) : Nat → Int → Int → Option Int
  | 0, _, _ => none
  | m + 1, i3, i4 => cond (decide ((0 : Int) < i4)) (chk (i4 != 0) <| ev_train_gcd_l0 n m i4 (Int.tmod i3 i4)) (some i3)
set_option maxRecDepth 100000 in
set_option maxHeartbeats 2000000 in
theorem ok_train_gcd_l0 {n : Nat} {w0 : World} {R0 : Nat → Prop} {env0 : Env} {r : Int} : ∀ (m : Nat) (i3 : Int) (i4 : Int), ev_train_gcd_l0 n m i3 i4 = some r → TC Try.prog ⟨w0, fun _ => False, R0⟩ 12 (bodyPost Try.prog Try.f46 (Post ⟨w0, fun _ => False, R0⟩ env0 (.val (.int .i64 r)) [])) [.code (sub (bodyOf Try.f46) [1, 0, 0, 0, 0, 0]), .code (sub (bodyOf Try.f46) [1, 0, 0, 0, 0, 1]), .code (sub (bodyOf Try.f46) [1, 0, 0, 0, 1]), .inLoop (sub (bodyOf Try.f46) [1, 0, 0, 0]), .inBlock 0, .code (sub (bodyOf Try.f46) [1, 1])] ([(0, .val (.int .i64 i3)), (1, .val (.int .i64 i4))]) ([]) := by
  intro m
  induction m with
  | zero => intro i3 i4 h; exact none_no h
  | succ m ih =>
    intro i3 i4 h
    rw [ev_train_gcd_l0] at h
    refine TC.region ?_
    refine op0 (sp_move rfl rfl) rfl trivial rfl rfl ?_
    refine op0 (sp_gtr rfl rfl rfl) rfl trivial rfl rfl ?_
    refine TL.nil ?_
    refine TC.cond (b := (decide ((0 : Int) < i4))) rfl (fun h1 => ?_) (fun h1 => ?_)
    · have h := cond_t h h1
      refine TC.skip ?_
      refine TC.block ?_
      obtain ⟨h2, h⟩ := chk_inv h
      refine drawJ 5 [⟨.val (.int .i64 i4), [], [], []⟩, ⟨.val (.int .i64 i3), [], [], []⟩, ⟨.val (.int .i64 i4), [], [], []⟩, ⟨.val (.int .i64 (Int.tmod i3 i4)), [], [], []⟩, ⟨.val (.int .i64 i4), [], [], []⟩] rfl ?_ rfl ?_ rfl ?_ ?_
      · kernel_rfl
      · kernel_rfl
      · exact DAll.op' (sp_move rfl rfl) trivial rfl (From.ok (ps := []) trivial) (DAll.op' (sp_move rfl rfl) trivial rfl (From.ok (ps := []) trivial) (DAll.op' (sp_move rfl rfl) trivial rfl (From.ok (ps := []) trivial) (DAll.op' (sp_rem rfl rfl rfl h2) trivial rfl (From.ok (ps := []) trivial) (DAll.op' (sp_assign rfl rfl) trivial rfl (From.ok (ps := []) trivial) (.nil)))))
      refine op0 (sp_assign rfl rfl) rfl trivial rfl rfl ?_
      refine TL.nil ?_
      refine TC.inBlock ?_
      refine TC.inLoop ?_
      refine TC.seq ?_
      refine TC.seq ?_
      refine subJ [] (ih _ _ h) ?_ ?_ ?_
      · exact ⟨rfl, rfl, trivial⟩
      · exact trivial
      · rfl
    · have h := cond_f h h1
      refine TC.exit rfl ?_
      refine TC.seq ?_
      refine TC.region ?_
      refine op0 (sp_move rfl rfl) rfl trivial rfl rfl ?_
      refine op0 (sp_assign rfl rfl) rfl trivial rfl rfl ?_
      refine TL.nil ?_
      cases h
      exact retJ [] (.tmp rfl .nil) rfl trivial rfl rfl
def ev_train_gcd (n : Nat) (a1 : Int) (b2 : Int) : Option Int :=
  ev_train_gcd_l0 n n a1 b2
set_option maxRecDepth 100000 in
set_option maxHeartbeats 2000000 in
theorem fc_train_gcd {n : Nat} {a1 : Int} {b2 : Int} {r : Int} (h : ev_train_gcd n a1 b2 = some r) : FC Try.prog 46 [.val (.int .i64 a1), .val (.int .i64 b2)] [] (.val (.int .i64 r)) [] := by
  refine introJ (nz := 12) Try.func46 rfl rfl rfl (fun w0 R0 env0 => ?_)
  rw [ev_train_gcd] at h
  refine TC.seq ?_
  refine TC.region ?_
  refine op0 (sp_assign rfl rfl) rfl trivial rfl rfl ?_
  refine TL.nil ?_
  refine TC.seq ?_
  refine TC.block ?_
  refine TC.loop ?_
  refine TC.seq ?_
  refine TC.seq ?_
  refine subJ [] (ok_train_gcd_l0 _ _ _ h) ?_ ?_ ?_
  · exact ⟨rfl, rfl, trivial⟩
  · exact trivial
  · rfl
/- train_lowest -/
def ev_train_lowest (n : Nat) (rr1 : Int) (rr2 : Int) : Option (Int × Int) :=
  (ev_train_gcd n rr1 rr2).bind fun r3 => chk (r3 != 0) <| chk (in64 (Int.tdiv rr1 r3)) <| chk (r3 != 0) <| chk (in64 (Int.tdiv rr2 r3)) <| some ((Int.tdiv rr1 r3), (Int.tdiv rr2 r3))
set_option maxRecDepth 100000 in
set_option maxHeartbeats 2000000 in
theorem fc_train_lowest {n : Nat} {rr1 : Int} {rr2 : Int} {r : Int × Int} (h : ev_train_lowest n rr1 rr2 = some r) : FC Try.prog 69 [.agg [.val (.int .i64 rr1), .val (.int .i64 rr2)]] [] (.agg [.val (.int .i64 r.1), .val (.int .i64 r.2)]) [] := by
  refine introJ (nz := 18) Try.func69 rfl rfl rfl (fun w0 R0 env0 => ?_)
  rw [ev_train_lowest] at h
  refine TC.seq ?_
  refine TC.region ?_
  refine op0 (sp_box 0 rfl rfl rfl rfl rfl) rfl trivial rfl rfl ?_
  refine op0 (sp_alloc 1 rfl Try.zeroValue26 rfl) rfl trivial rfl rfl ?_
  refine TL.nil ?_
  refine TC.seq ?_
  refine TC.region ?_
  refine op1 1 rfl (sp_fieldAddrB rfl isBlk rfl ft26_0 vt3 (by decide)) rfl trivial rfl rfl ?_
  refine op1 1 rfl (sp_loadB rfl isBlk rfl vt3 rfl) rfl trivial rfl rfl ?_
  refine op1 1 rfl (sp_fieldAddrB rfl isBlk rfl ft26_1 vt3 (by decide)) rfl trivial rfl rfl ?_
  refine op1 1 rfl (sp_loadB rfl isBlk rfl vt3 rfl) rfl trivial rfl rfl ?_
  obtain ⟨r3, h1, h⟩ := bind_inv h
  refine op0 (sp_call (avs := [.val (.int .i64 rr1), .val (.int .i64 rr2)]) (need := []) (v := .val (.int .i64 r3)) (news := []) rfl rfl rfl Try.call46 (atJ [] [] (fc_train_gcd h1) rfl rfl) (.inl (roAll rfl))) rfl trivial rfl rfl ?_
  refine op0 (sp_assign rfl rfl) rfl trivial rfl rfl ?_
  refine TL.nil ?_
  refine TC.seq ?_
  obtain ⟨h2, h⟩ := chk_inv h
  obtain ⟨h3, h⟩ := chk_inv h
  obtain ⟨h4, h⟩ := chk_inv h
  obtain ⟨h5, h⟩ := chk_inv h
  refine drawJ 8 [⟨.ptr 0 0, [], [.blk 0 [.val (.int .i64 rr1), .val (.int .i64 rr2)] 26], []⟩, ⟨.val (.int .i64 rr1), [], [.blk 0 [.val (.int .i64 rr1), .val (.int .i64 rr2)] 26], []⟩, ⟨.val (.int .i64 r3), [], [], []⟩, ⟨.val (.int .i64 (Int.tdiv rr1 r3)), [], [], []⟩, ⟨.ptr 0 1, [], [.blk 0 [.val (.int .i64 rr1), .val (.int .i64 rr2)] 26], []⟩, ⟨.val (.int .i64 rr2), [], [.blk 0 [.val (.int .i64 rr1), .val (.int .i64 rr2)] 26], []⟩, ⟨.val (.int .i64 r3), [], [], []⟩, ⟨.val (.int .i64 (Int.tdiv rr2 r3)), [], [], []⟩] rfl ?_ rfl ?_ rfl ?_ ?_
  · kernel_rfl
  · kernel_rfl
  · exact DAll.op' (sp_fieldAddrB rfl isBlk rfl ft26_0 vt3 (by decide)) trivial rfl (From.ok (ps := [(none, 1)]) ⟨⟨rfl, rfl⟩, trivial⟩) (DAll.op' (sp_loadB rfl isBlk rfl vt3 rfl) trivial rfl (From.ok (ps := [(none, 1)]) ⟨⟨rfl, rfl⟩, trivial⟩) (DAll.op' (sp_move rfl rfl) trivial rfl (From.ok (ps := []) trivial) (DAll.op' (sp_quo rfl rfl rfl h2 h3) trivial rfl (From.ok (ps := []) trivial) (DAll.op' (sp_fieldAddrB rfl isBlk rfl ft26_1 vt3 (by decide)) trivial rfl (From.ok (ps := [(none, 1)]) ⟨⟨rfl, rfl⟩, trivial⟩) (DAll.op' (sp_loadB rfl isBlk rfl vt3 rfl) trivial rfl (From.ok (ps := [(none, 1)]) ⟨⟨rfl, rfl⟩, trivial⟩) (DAll.op' (sp_move rfl rfl) trivial rfl (From.ok (ps := []) trivial) (DAll.op' (sp_quo rfl rfl rfl h4 h5) trivial rfl (From.ok (ps := []) trivial) (.nil))))))))
  refine op0 (sp_build (qs := [(0, .val (.int .i64 (Int.tdiv rr1 r3))), (1, .val (.int .i64 (Int.tdiv rr2 r3)))]) rfl bt26 rfl rfl rfl rfl) rfl trivial rfl rfl ?_
  refine stoB 0 (cells' := [.val (.int .i64 (Int.tdiv rr1 r3)), .val (.int .i64 (Int.tdiv rr2 r3))]) rfl rfl trivial rfl rfl rfl rfl vt26 rfl rfl rfl ?_
  refine TL.nil ?_
  cases h
  exact retJ [] (.cells rfl (mem_at 0 rfl) isBlk vt26 rfl rfl (.nil)) rfl trivial rfl rfl
/- train_chain_arbors -/
def ev_train_chain_arbors_l0 {σ1 : Type} (yb1 : (Int × Int) → σ1 → Option (Bool × σ1)) (n : Nat) (c1 : List (Int × Int)) : Nat → Int → Int → Int → (List (Int × Int)) → σ1 → Option σ1
  | 0, _, _, _, _, _ => none
  | m + 1, i3, i4, i5, l6, y7 => cond (decide (i3 < (c1.length : Int))) (idx l6 i3 fun x8 => (yb1 (i4, i5) y7).bind fun r9 => cond (!r9.1) (some r9.2) (chk (in64 (i4 * x8.1)) <| chk (in64 (i5 * x8.2)) <| (ev_train_lowest n (i4 * x8.1) (i5 * x8.2)).bind fun r10 => chk (in64 (i3 + 1)) <| ev_train_chain_arbors_l0 yb1 n c1 m (i3 + 1) r10.1 r10.2 l6 r9.2)) ((yb1 (i4, i5) y7).bind fun r11 => some r11.2)
set_option maxRecDepth 100000 in
set_option maxHeartbeats 2000000 in
theorem ok_train_chain_arbors_l0 {σ1 : Type} {yb1 : (Int × Int) → σ1 → Option (Bool × σ1)} {I1 : σ1 → Inv} (hI1 : Yields Try.prog ye_funcapi_Ratio_bool yn_funcapi_Ratio_bool yb1 I1) {n : Nat} {w0 : World} {M0 R0 : Nat → Prop} {env0 : Env} {df : List Deferred} {r : σ1} {c1 : List (Int × Int)} : ∀ (m : Nat) (i3 : Int) (i4 : Int) (i5 : Int) (l6 : List (Int × Int)) (y7 : σ1), ev_train_chain_arbors_l0 yb1 n c1 m i3 i4 i5 l6 y7 = some r → TC Try.prog ⟨w0, M0, R0⟩ ⟨34, none, df⟩ (bodyPostM Fence.wide 0 Try.prog Try.f45 (PostT ⟨w0, M0, R0⟩ env0 [1] (.tup []) [.inv 1 (I1 r)])) [.code (sub (bodyOf Try.f45) [1, 0, 1, 0, 0, 0]), .code (sub (bodyOf Try.f45) [1, 0, 1, 0, 0, 1]), .inLoop (sub (bodyOf Try.f45) [1, 0, 1, 0, 0]), .inBlock 0, .code (sub (bodyOf Try.f45) [1, 1])] ([(1, .ref 1), (4, .ptr 4 0), (8, .ref 0), (9, .val (.int .i64 (c1.length : Int))), (10, .val (.int .i64 i3))]) ([.blk 4 [.val (.int .i64 i4), .val (.int .i64 i5)] 26, .ro 0 2 (List.map en_api_TrainPair l6), .inv 2 (marksI df), .pin 3 1 (env0 1), .inv 1 (I1 y7)]) := by
  intro m
  induction m with
  | zero => intro i3 i4 i5 l6 y7 h; exact none_no h
  | succ m ih =>
    intro i3 i4 i5 l6 y7 h
    rw [ev_train_chain_arbors_l0] at h
    refine TC.region ?_
    refine op0 (sp_lss rfl rfl rfl) rfl trivial rfl rfl ?_
    refine TL.nil ?_
    refine TC.seq ?_
    refine TC.cond (b := (decide (i3 < (c1.length : Int)))) rfl (fun h1 => ?_) (fun h1 => ?_)
    · have h := cond_t h h1
      refine TC.skip ?_
      refine TC.seq ?_
      refine TC.block ?_
      refine TC.seq ?_
      refine TC.region ?_
      obtain ⟨x8, h2, h3, h⟩ := idx_inv h
      refine op1 1 rfl (sp_indexS rfl rfl rfl isRo sl84 h2 (map_get _ h3)) rfl trivial rfl rfl ?_
      refine op1 1 rfl (sp_loadRA (i := (i3 : Int).toNat) (j := 0) (as_ := [.val (.int .i64 x8.1), .val (.int .i64 x8.2)]) (ns := []) rfl rfl isRo vt33 rfl (map_get _ h3) rfl rfl (by decide) (.v (.v (.nil))) (nodup_of_B rfl)) rfl trivial rfl rfl ?_
      refine op0 (sp_alloc 5 rfl Try.zeroValue33 rfl) rfl trivial rfl rfl ?_
      refine stoB 0 (cells' := [.val (.int .i64 x8.1), .val (.int .i64 x8.2)]) rfl rfl trivial rfl rfl rfl rfl vt33 rfl rfl rfl ?_
      refine TL.nil ?_
      refine TC.seq ?_
      refine TC.seq ?_
      refine TC.region ?_
      refine op0 (sp_move rfl rfl) rfl trivial rfl rfl ?_
      refine op1 1 rfl (sp_loadBA rfl isBlk rfl vt26 rfl rfl) rfl trivial rfl rfl ?_
      obtain ⟨r9, h4, h⟩ := bind_inv h
      refine opT (take := [.inv 1 (I1 y7)]) (need := []) (V' := [.inv 1 (I1 r9.2), .blk 5 [.val (.int .i64 x8.1), .val (.int .i64 x8.2)] 33, .blk 4 [.val (.int .i64 i4), .val (.int .i64 i5)] 26, .ro 0 2 (List.map en_api_TrainPair l6), .inv 2 (marksI df), .pin 3 1 (env0 1)]) [5] [] (ts_yield hI1 (x := (i4, i5)) (b := r9.1) (avs := [.agg [.val (.int .i64 i4), .val (.int .i64 i5)]]) (need := []) [] h4 rfl rfl rfl rfl rfl rfl) trivial rfl ⟨rfl, trivial⟩ trivial rfl rfl ?_
      refine op0 (sp_not rfl rfl) rfl trivial rfl rfl ?_
      refine TL.nil ?_
      refine TC.cond (b := (!r9.1)) rfl (fun h5 => ?_) (fun h5 => ?_)
      · have h := cond_t h h5
        cases h
        exact retM [] 4 2 [1] rfl (.nil) rfl ⟨mem_at 0 rfl, trivial⟩ rfl rfl ⟨⟨_, mem_at 4 rfl⟩, trivial⟩ rfl
      · have h := cond_f h h5
        refine TC.skip ?_
        refine TC.region ?_
        refine op1 2 rfl (sp_fieldAddrB rfl isBlk rfl ft26_0 vt3 (by decide)) rfl trivial rfl rfl ?_
        refine op1 2 rfl (sp_loadB rfl isBlk rfl vt3 rfl) rfl trivial rfl rfl ?_
        refine op1 1 rfl (sp_fieldAddrB rfl isBlk rfl ft33_0 vt3 (by decide)) rfl trivial rfl rfl ?_
        refine op1 1 rfl (sp_loadB rfl isBlk rfl vt3 rfl) rfl trivial rfl rfl ?_
        obtain ⟨h6, h⟩ := chk_inv h
        refine op0 (sp_mul rfl rfl rfl h6) rfl trivial rfl rfl ?_
        refine op1 2 rfl (sp_fieldAddrB rfl isBlk rfl ft26_1 vt3 (by decide)) rfl trivial rfl rfl ?_
        refine op1 2 rfl (sp_loadB rfl isBlk rfl vt3 rfl) rfl trivial rfl rfl ?_
        refine op1 1 rfl (sp_fieldAddrB rfl isBlk rfl ft33_1 vt3 (by decide)) rfl trivial rfl rfl ?_
        refine op1 1 rfl (sp_loadB rfl isBlk rfl vt3 rfl) rfl trivial rfl rfl ?_
        obtain ⟨h7, h⟩ := chk_inv h
        refine op0 (sp_mul rfl rfl rfl h7) rfl trivial rfl rfl ?_
        refine op0 (sp_build (qs := [(0, .val (.int .i64 (i4 * x8.1))), (1, .val (.int .i64 (i5 * x8.2)))]) rfl bt26 rfl rfl rfl rfl) rfl trivial rfl rfl ?_
        obtain ⟨r10, h8, h⟩ := bind_inv h
        refine op0 (sp_call (avs := [.agg [.val (.int .i64 (i4 * x8.1)), .val (.int .i64 (i5 * x8.2))]]) (need := []) (v := .agg [.val (.int .i64 r10.1), .val (.int .i64 r10.2)]) (news := []) rfl rfl rfl Try.call69 (atJ [] [] (fc_train_lowest h8) rfl rfl) (.inl (roAll rfl))) rfl trivial rfl rfl ?_
        refine stoB 2 (cells' := [.val (.int .i64 r10.1), .val (.int .i64 r10.2)]) rfl rfl trivial rfl rfl rfl rfl vt26 rfl rfl rfl ?_
        refine TL.nil ?_
        refine TC.inBlock ?_
        refine TC.region ?_
        obtain ⟨h9, h⟩ := chk_inv h
        refine op0 (sp_add rfl rfl rfl h9) rfl trivial rfl rfl ?_
        refine op0 (sp_move rfl rfl) rfl trivial rfl rfl ?_
        refine TL.nil ?_
        refine TC.inLoop ?_
        refine TC.seq ?_
        refine subJ [] (ih _ _ _ _ _ h) ?_ ?_ ?_
        · exact ⟨rfl, rfl, rfl, rfl, rfl, trivial⟩
        · exact ⟨mem_at 2 rfl, mem_at 3 rfl, mem_at 4 rfl, mem_at 5 rfl, mem_at 0 rfl, trivial⟩
        · rfl
    · have h := cond_f h h1
      refine TC.exit rfl ?_
      refine TC.region ?_
      refine op0 (sp_move rfl rfl) rfl trivial rfl rfl ?_
      refine op1 0 rfl (sp_loadBA rfl isBlk rfl vt26 rfl rfl) rfl trivial rfl rfl ?_
      obtain ⟨r11, h10, h⟩ := bind_inv h
      refine opT (take := [.inv 1 (I1 y7)]) (need := []) (V' := [.inv 1 (I1 r11.2), .blk 4 [.val (.int .i64 i4), .val (.int .i64 i5)] 26, .ro 0 2 (List.map en_api_TrainPair l6), .inv 2 (marksI df), .pin 3 1 (env0 1)]) [4] [] (ts_yield hI1 (x := (i4, i5)) (b := r11.1) (avs := [.agg [.val (.int .i64 i4), .val (.int .i64 i5)]]) (need := []) [] h10 rfl rfl rfl rfl rfl rfl) trivial rfl ⟨rfl, trivial⟩ trivial rfl rfl ?_
      refine TL.nil ?_
      cases h
      exact endM [] 3 2 [1] rfl (.nil) rfl ⟨mem_at 0 rfl, trivial⟩ rfl rfl ⟨⟨_, mem_at 3 rfl⟩, trivial⟩ rfl
def ev_train_chain_arbors {σ1 : Type} (yb1 : (Int × Int) → σ1 → Option (Bool × σ1)) (n : Nat) (c1 : List (Int × Int)) (y2 : σ1) : Option σ1 :=
  ev_train_chain_arbors_l0 yb1 n c1 n 0 1 1 c1 y2
set_option maxRecDepth 100000 in
set_option maxHeartbeats 2000000 in
theorem ft_train_chain_arbors {σ1 : Type} {yb1 : (Int × Int) → σ1 → Option (Bool × σ1)} {I1 : σ1 → Inv} (hI1 : Yields Try.prog ye_funcapi_Ratio_bool yn_funcapi_Ratio_bool yb1 I1) {n : Nat} {c1 : List (Int × Int)} {y2 : σ1} {r : σ1} (h : ev_train_chain_arbors yb1 n c1 y2 = some r) : FT Try.prog 45 [.ref 0, .ref 1] [.inv 1 (I1 y2)] [.ro 0 2 (List.map en_api_TrainPair c1)] (.tup []) [.inv 1 (I1 r)] := by
  refine introM (nz := 34) 2 [(3, 1)] Try.func45 rfl rfl rfl rfl (fun w0 M0 R0 env0 => ?_)
  rw [ev_train_chain_arbors] at h
  refine TC.seq ?_
  refine TC.region ?_
  refine op0 (sp_build (qs := [(0, .val (.int .i64 1)), (1, .val (.int .i64 1))]) rfl bt26 rfl rfl rfl rfl) rfl trivial rfl rfl ?_
  refine op0 (sp_alloc 4 rfl Try.zeroValue26 rfl) rfl trivial rfl rfl ?_
  refine stoB 0 (cells' := [.val (.int .i64 1), .val (.int .i64 1)]) rfl rfl trivial rfl rfl rfl rfl vt26 rfl rfl rfl ?_
  refine TL.nil ?_
  refine TC.seq ?_
  refine TC.seq ?_
  refine TC.region ?_
  refine op0 (sp_move rfl rfl) rfl trivial rfl rfl ?_
  refine op1 4 rfl (sp_lenM (N := c1.length) (len_map _ _) rfl rfl isRo Try.underlying84) rfl trivial rfl rfl ?_
  refine op0 (sp_move rfl rfl) rfl trivial rfl rfl ?_
  refine TL.nil ?_
  refine TC.block ?_
  refine TC.loop ?_
  refine TC.seq ?_
  refine subJ [] (ok_train_chain_arbors_l0 hI1 _ _ _ _ _ _ h) ?_ ?_ ?_
  · exact ⟨rfl, rfl, rfl, rfl, rfl, trivial⟩
  · exact ⟨mem_at 0 rfl, mem_at 4 rfl, mem_at 1 rfl, mem_at 2 rfl, mem_at 3 rfl, trivial⟩
  · rfl
/- train_Turns -/
def ev_train_Turns_r0 (n : Nat) (x5 : Int × Int) (y6 : Int × Int) : Option (Nat × (Int × Int)) :=
  some (0, (x5.1, x5.2))
set_option maxRecDepth 100000 in
set_option maxHeartbeats 2000000 in
theorem ok_train_Turns_r0 {n : Nat} {u4 : Value} {u3 : Value} {r2 : (List (Int × Int)) × Int} {x5 : Int × Int} {y6 : Int × Int} {r : Nat × (Int × Int)} (h : ev_train_Turns_r0 n x5 y6 = some r) (l0 : Nat) (rec : Loop) (hrd : rec.state = .ready) (w0 : World) (M0 R0 : Nat → Prop) : TC Try.prog ⟨w0, M0, R0⟩ ⟨25, some l0, []⟩ (RoundQ ⟨w0, M0, R0⟩ (.inv 7 (recI l0 (busyR rec)) :: [.pin 6 3 u4, .pin 5 2 u3, .ro 3 2 (List.map en_api_TrainPair r2.1), .blk 2 [.val (.int .i64 r.2.1), .val (.int .i64 r.2.2)] 26]) [] r.1) [.code (sub (bodyOf Try.f14) [1, 1, 1, 0, 1, 0, 0]), .beginRound, .code (sub (bodyOf Try.f14) [1, 1, 1, 0, 1, 0, 1])] (pSlots [18] (ye_funcapi_Ratio_bool x5) [(2, .ptr 2 0), (5, .ref 3)]) (.inv 7 (recI l0 rec) :: yn_funcapi_Ratio_bool x5 ++ (fun y6 : Int × Int => [.pin 6 3 u4, .pin 5 2 u3, .ro 3 2 (List.map en_api_TrainPair r2.1), .blk 2 [.val (.int .i64 y6.1), .val (.int .i64 y6.2)] 26]) y6) := by
  rw [ev_train_Turns_r0] at h
  refine subJ (s' := [(2, .ptr 2 0), (5, .ref 3), (18, .agg [.val (.int .i64 x5.1), .val (.int .i64 x5.2)])]) (V' := [.inv 7 (recI l0 rec), .pin 6 3 u4, .pin 5 2 u3, .ro 3 2 (List.map en_api_TrainPair r2.1), .blk 2 [.val (.int .i64 y6.1), .val (.int .i64 y6.2)] 26]) [] ?_ ⟨rfl, rfl, rfl, trivial⟩ ⟨mem_at 0 rfl, mem_at 1 rfl, mem_at 2 rfl, mem_at 3 rfl, mem_at 4 rfl, trivial⟩ rfl
  refine TC.region ?_
  refine op0 (sp_alloc 8 rfl Try.zeroValue26 rfl) rfl trivial rfl rfl ?_
  refine stoB 0 (cells' := [.val (.int .i64 x5.1), .val (.int .i64 x5.2)]) rfl rfl trivial rfl rfl rfl rfl vt26 rfl rfl rfl ?_
  refine TL.nil ?_
  refine TC.beginRound 1 rfl hrd ?_
  refine TC.block ?_
  refine TC.region ?_
  refine op1 0 rfl (sp_loadBA rfl isBlk rfl vt26 rfl rfl) rfl trivial rfl rfl ?_
  refine stoB 5 (cells' := [.val (.int .i64 x5.1), .val (.int .i64 x5.2)]) rfl rfl trivial rfl rfl rfl rfl vt26 rfl rfl rfl ?_
  refine TL.nil ?_
  refine TC.inBlock ?_
  cases h
  exact bodyEnd [] ⟨mem_at 1 rfl, mem_at 2 rfl, mem_at 3 rfl, mem_at 4 rfl, mem_at 5 rfl, trivial⟩ rfl
def ev_train_Turns (n : Nat) (l1 : List (Int × Int)) : Option (Int × Int × Bool × Int) :=
  (ev_train_newChain n l1).bind fun r2 => cond (r2.2 != 0) (some (0, 0, false, r2.2)) ((ev_train_chain_arbors (loopStep (ev_train_Turns_r0 n)) n r2.1 ((0, 0), 0)).bind fun q7 => cond (q7.2 == 0) (some (q7.1.1, q7.1.2, ((Int.tmod (r2.1.length : Int) 2) == 1), 0)) (none))
set_option maxRecDepth 100000 in
set_option maxHeartbeats 2000000 in
theorem ft_train_Turns {n : Nat} {l1 : List (Int × Int)} {r : Int × Int × Bool × Int} (h : ev_train_Turns n l1 = some r) : FT Try.prog 14 [.ref 0] [] [.ro 0 2 (List.map en_api_TrainPair l1)] (.tup [.agg [.val (.int .i64 r.1), .val (.int .i64 r.2.1)], .val (.bool r.2.2.1), .val (.int .i64 r.2.2.2)]) [] := by
  refine introM (nz := 25) 1 [] Try.func14 rfl rfl rfl rfl (fun w0 M0 R0 env0 => ?_)
  rw [ev_train_Turns] at h
  refine TC.seq ?_
  refine TC.region ?_
  refine op0 (sp_alloc 2 rfl Try.zeroValue26 rfl) rfl trivial rfl rfl ?_
  refine op0 (sp_assign rfl rfl) rfl trivial rfl rfl ?_
  refine op0 (sp_assign rfl rfl) rfl trivial rfl rfl ?_
  refine TL.nil ?_
  refine TC.seq ?_
  refine TC.region ?_
  refine op0 (sp_move rfl rfl) rfl trivial rfl rfl ?_
  obtain ⟨r2, h1, h⟩ := bind_inv h
  refine op1 2 rfl (sp_call (avs := [.ref 0]) (need := [.ro 0 2 (List.map en_api_TrainPair l1)]) (v := .tup [.ref 3, .val (.int .i64 r2.2)]) (news := [.ro 3 2 (List.map en_api_TrainPair r2.1)]) rfl rfl rfl Try.call44 (atJ [] [(0, 3)] (fc_train_newChain h1) rfl rfl) (.inl (roAll rfl))) rfl trivial rfl rfl ?_
  refine op0 (sp_move rfl rfl) rfl trivial rfl rfl ?_
  refine op0 (sp_extract rfl rfl rfl) rfl trivial rfl rfl ?_
  refine op0 (sp_extract rfl rfl rfl) rfl trivial rfl rfl ?_
  refine op0 (sp_assign rfl rfl) rfl trivial rfl rfl ?_
  refine op0 (sp_assign rfl rfl) rfl trivial rfl rfl ?_
  refine TL.nil ?_
  refine TC.seq ?_
  refine TC.seq ?_
  refine TC.region ?_
  refine op0 (sp_move rfl rfl) rfl trivial rfl rfl ?_
  refine op0 (sp_neq rfl rfl rfl) rfl trivial rfl rfl ?_
  refine TL.nil ?_
  refine TC.cond (b := (r2.2 != 0)) rfl (fun h2 => ?_) (fun h2 => ?_)
  · have h := cond_t h h2
    refine TC.seq ?_
    refine TC.region ?_
    refine op1 1 rfl (sp_loadBA rfl isBlk rfl vt26 rfl rfl) rfl trivial rfl rfl ?_
    refine op0 (sp_move rfl rfl) rfl trivial rfl rfl ?_
    refine stoB 1 (cells' := [.val (.int .i64 0), .val (.int .i64 0)]) rfl rfl trivial rfl rfl rfl rfl vt26 rfl rfl rfl ?_
    refine op0 (sp_assign rfl rfl) rfl trivial rfl rfl ?_
    refine op0 (sp_assign rfl rfl) rfl trivial rfl rfl ?_
    refine TL.nil ?_
    cases h
    exact retM [] 2 1 [] rfl (.cells rfl (mem_at 1 rfl) isBlk vt26 rfl rfl (.tmp rfl (.tmp rfl .nil))) rfl trivial rfl rfl trivial rfl
  · have h := cond_f h h2
    refine TC.skip ?_
    refine TC.seq ?_
    refine TC.seq ?_
    refine TC.region ?_
    refine op0 (sp_move rfl rfl) rfl trivial rfl rfl ?_
    refine op0 (sp_makeFunc (fi := [.tmp 16]) (ca := []) (fa := [.ref 3]) (cb := []) rfl rfl rfl) rfl trivial rfl rfl ?_
    refine TL.nil ?_
    refine TC.block ?_
    refine TC.pin 5 2 rfl rfl fun u3 => ?_
    refine TC.pin 6 3 rfl rfl fun u4 => ?_
    obtain ⟨q7, h3, h⟩ := bind_inv h
    refine rangeO (T := []) (T' := []) (k := 4) (gm := 1) (grec := 7) (S := [(2, .ptr 2 0), (5, .ref 3)]) (V0 := (fun y6 : Int × Int => [.pin 6 3 u4, .pin 5 2 u3, .ro 3 2 (List.map en_api_TrainPair r2.1), .blk 2 [.val (.int .i64 y6.1), .val (.int .i64 y6.2)] 26])) (needI := [.ro 3 2 (List.map en_api_TrainPair r2.1)]) (ps := [18]) (jl := []) (ea := ye_funcapi_Ratio_bool) (en := yn_funcapi_Ratio_bool) (f := (ev_train_Turns_r0 n)) (s0 := ((0, 0), 0)) (yf := q7) (v := .tup []) (fi := [.ref 3]) (caps := [])
      ⟨fun x y r hr l rec hrd w0 M0 R0 => ok_train_Turns_r0 (u4 := u4) (u3 := u3) (r2 := r2) hr l rec hrd w0 M0 R0, ⟨rfl, rfl, trivial⟩, At.mem (is := [0, 1, 2, 3]) ⟨rfl, rfl, rfl, rfl, trivial⟩, At.mem (is := [2]) ⟨rfl, trivial⟩, rfl, pinsIn [2, 3] [1, 0] ⟨⟨_, _, fun _ => rfl⟩, ⟨_, _, fun _ => rfl⟩, trivial⟩ rfl, rfl, fun _ => rfl, fun _ _ => rfl, fun _ => rfl, fun _ _ => rfl, fun _ => rfl, fun _ => rfl, fun _ => rfl, rfl, rfl, fun _ => rfl, rfl⟩
      rfl rfl Try.call45 (takesNil rfl) 4 rfl (fun I hI => atT [(1, 4), (0, 3)] [(1, 4)] (ft_train_chain_arbors hI h3) rfl rfl rfl) (fun d => ?_)
    rcases cond_cases h with ⟨h4, h⟩ | ⟨h4, h⟩
    · refine done0 h4 ?_
      refine TC.inBlock ?_
      refine TC.seq ?_
      refine TC.region ?_
      refine op1 4 rfl (sp_loadBA rfl isBlk rfl vt26 rfl rfl) rfl trivial rfl rfl ?_
      refine op0 (sp_move rfl rfl) rfl trivial rfl rfl ?_
      refine op1 3 rfl (sp_lenM (N := r2.1.length) (len_map _ _) rfl rfl isRo Try.underlying84) rfl trivial rfl rfl ?_
      refine op0 (sp_rem rfl rfl rfl (by decide)) rfl trivial rfl rfl ?_
      refine op0 (sp_eql rfl rfl rfl) rfl trivial rfl rfl ?_
      refine stoB 4 (cells' := [.val (.int .i64 q7.1.1), .val (.int .i64 q7.1.2)]) rfl rfl trivial rfl rfl rfl rfl vt26 rfl rfl rfl ?_
      refine op0 (sp_assign rfl rfl) rfl trivial rfl rfl ?_
      refine op0 (sp_assign rfl rfl) rfl trivial rfl rfl ?_
      refine TL.nil ?_
      cases h
      exact retM [] 0 1 [] rfl (.cells rfl (mem_at 3 rfl) isBlk vt26 rfl rfl (.tmp rfl (.tmp rfl .nil))) rfl trivial rfl rfl trivial rfl
    · exact none_no h
theorem fc_train_Turns {n : Nat} {l1 : List (Int × Int)} {r : Int × Int × Bool × Int} (h : ev_train_Turns n l1 = some r) : FC Try.prog 14 [.ref 0] [.ro 0 2 (List.map en_api_TrainPair l1)] (.tup [.agg [.val (.int .i64 r.1), .val (.int .i64 r.2.1)], .val (.bool r.2.2.1), .val (.int .i64 r.2.2.2)]) [] := (ft_train_Turns h).toFC rfl
/- train_Cycle -/
def ev_train_Cycle_r0 (n : Nat) (x4 : Int × Int) (y5 : Int) : Option (Nat × Int) :=
  (ev_train_gcd n y5 x4.2).bind fun r6 => chk (r6 != 0) <| chk (in64 (Int.tdiv x4.2 r6)) <| chk (in64 (y5 * (Int.tdiv x4.2 r6))) <| some (0, (y5 * (Int.tdiv x4.2 r6)))
set_option maxRecDepth 100000 in
set_option maxHeartbeats 2000000 in
theorem ok_train_Cycle_r0 {n : Nat} {u3 : Value} {x4 : Int × Int} {y5 : Int} {r : Nat × Int} (h : ev_train_Cycle_r0 n x4 y5 = some r) (l0 : Nat) (rec : Loop) (hrd : rec.state = .ready) (w0 : World) (M0 R0 : Nat → Prop) : TC Try.prog ⟨w0, M0, R0⟩ ⟨27, some l0, []⟩ (RoundQ ⟨w0, M0, R0⟩ (.inv 6 (recI l0 (busyR rec)) :: [.pin 5 2 u3, .blk 2 [.val (.int .i64 r.2)] 3]) [] r.1) [.code (sub (bodyOf Try.f15) [1, 1, 1, 1, 0, 1, 0, 0]), .beginRound, .code (sub (bodyOf Try.f15) [1, 1, 1, 1, 0, 1, 0, 1])] (pSlots [16] (ye_funcapi_Ratio_bool x4) [(2, .ptr 2 0)]) (.inv 6 (recI l0 rec) :: yn_funcapi_Ratio_bool x4 ++ (fun y5 : Int => [.pin 5 2 u3, .blk 2 [.val (.int .i64 y5)] 3]) y5) := by
  rw [ev_train_Cycle_r0] at h
  refine subJ (s' := [(2, .ptr 2 0), (16, .agg [.val (.int .i64 x4.1), .val (.int .i64 x4.2)])]) (V' := [.inv 6 (recI l0 rec), .pin 5 2 u3, .blk 2 [.val (.int .i64 y5)] 3]) [] ?_ ⟨rfl, rfl, trivial⟩ ⟨mem_at 0 rfl, mem_at 1 rfl, mem_at 2 rfl, trivial⟩ rfl
  refine TC.region ?_
  refine op0 (sp_alloc 7 rfl Try.zeroValue26 rfl) rfl trivial rfl rfl ?_
  refine stoB 0 (cells' := [.val (.int .i64 x4.1), .val (.int .i64 x4.2)]) rfl rfl trivial rfl rfl rfl rfl vt26 rfl rfl rfl ?_
  refine TL.nil ?_
  refine TC.beginRound 1 rfl hrd ?_
  refine TC.block ?_
  obtain ⟨r6, h3, h⟩ := bind_inv h
  obtain ⟨h4, h⟩ := chk_inv h
  obtain ⟨h5, h⟩ := chk_inv h
  refine drawJ 8 [⟨.val (.int .i64 y5), [], [.blk 2 [.val (.int .i64 y5)] 3], []⟩, ⟨.ptr 7 1, [], [.blk 7 [.val (.int .i64 x4.1), .val (.int .i64 x4.2)] 26], []⟩, ⟨.val (.int .i64 x4.2), [], [.blk 7 [.val (.int .i64 x4.1), .val (.int .i64 x4.2)] 26], []⟩, ⟨.val (.int .i64 y5), [], [.blk 2 [.val (.int .i64 y5)] 3], []⟩, ⟨.ptr 7 1, [], [.blk 7 [.val (.int .i64 x4.1), .val (.int .i64 x4.2)] 26], []⟩, ⟨.val (.int .i64 x4.2), [], [.blk 7 [.val (.int .i64 x4.1), .val (.int .i64 x4.2)] 26], []⟩, ⟨.val (.int .i64 r6), [], [], []⟩, ⟨.val (.int .i64 (Int.tdiv x4.2 r6)), [], [], []⟩] rfl ?_ rfl ?_ rfl ?_ ?_
  · kernel_rfl
  · kernel_rfl
  · exact DAll.op' (sp_loadB rfl isBlk rfl vt3 rfl) trivial rfl (From.ok (ps := [(none, 3)]) ⟨⟨rfl, rfl⟩, trivial⟩) (DAll.op' (sp_fieldAddrB rfl isBlk rfl ft26_1 vt3 (by decide)) trivial rfl (From.ok (ps := [(none, 0)]) ⟨⟨rfl, rfl⟩, trivial⟩) (DAll.op' (sp_loadB rfl isBlk rfl vt3 rfl) trivial rfl (From.ok (ps := [(none, 0)]) ⟨⟨rfl, rfl⟩, trivial⟩) (DAll.op' (sp_loadB rfl isBlk rfl vt3 rfl) trivial rfl (From.ok (ps := [(none, 3)]) ⟨⟨rfl, rfl⟩, trivial⟩) (DAll.op' (sp_fieldAddrB rfl isBlk rfl ft26_1 vt3 (by decide)) trivial rfl (From.ok (ps := [(none, 0)]) ⟨⟨rfl, rfl⟩, trivial⟩) (DAll.op' (sp_loadB rfl isBlk rfl vt3 rfl) trivial rfl (From.ok (ps := [(none, 0)]) ⟨⟨rfl, rfl⟩, trivial⟩) (DAll.op' (sp_call (avs := [.val (.int .i64 y5), .val (.int .i64 x4.2)]) (need := []) (v := .val (.int .i64 r6)) (news := []) rfl rfl rfl Try.call46 (atJ [] [] (fc_train_gcd h3) rfl rfl) (.inl (roAll rfl))) trivial rfl (From.ok (ps := []) trivial) (DAll.op' (sp_quo rfl rfl rfl h4 h5) trivial rfl (From.ok (ps := []) trivial) (.nil))))))))
  obtain ⟨h6, h⟩ := chk_inv h
  refine op0 (sp_mul rfl rfl rfl h6) rfl trivial rfl rfl ?_
  refine stoB 3 (cells' := [.val (.int .i64 (y5 * (Int.tdiv x4.2 r6)))]) rfl rfl trivial rfl rfl rfl rfl vt3 rfl rfl rfl ?_
  refine TL.nil ?_
  refine TC.inBlock ?_
  cases h
  exact bodyEnd [] ⟨mem_at 1 rfl, mem_at 2 rfl, mem_at 3 rfl, trivial⟩ rfl
def ev_train_Cycle (n : Nat) (l1 : List (Int × Int)) : Option (Int × Int) :=
  (ev_train_newChain n l1).bind fun r2 => cond (r2.2 != 0) (some (0, r2.2)) ((ev_train_chain_arbors (loopStep (ev_train_Cycle_r0 n)) n r2.1 (1, 0)).bind fun q7 => cond (q7.2 == 0) (some (q7.1, 0)) (none))
set_option maxRecDepth 100000 in
set_option maxHeartbeats 2000000 in
theorem ft_train_Cycle {n : Nat} {l1 : List (Int × Int)} {r : Int × Int} (h : ev_train_Cycle n l1 = some r) : FT Try.prog 15 [.ref 0] [] [.ro 0 2 (List.map en_api_TrainPair l1)] (.tup [.val (.int .i64 r.1), .val (.int .i64 r.2)]) [] := by
  refine introM (nz := 27) 1 [] Try.func15 rfl rfl rfl rfl (fun w0 M0 R0 env0 => ?_)
  rw [ev_train_Cycle] at h
  refine TC.seq ?_
  refine TC.region ?_
  refine op0 (sp_alloc 2 rfl Try.zeroValue3 rfl) rfl trivial rfl rfl ?_
  refine op0 (sp_assign rfl rfl) rfl trivial rfl rfl ?_
  refine TL.nil ?_
  refine TC.seq ?_
  refine TC.region ?_
  refine op0 (sp_move rfl rfl) rfl trivial rfl rfl ?_
  obtain ⟨r2, h1, h⟩ := bind_inv h
  refine op1 2 rfl (sp_call (avs := [.ref 0]) (need := [.ro 0 2 (List.map en_api_TrainPair l1)]) (v := .tup [.ref 3, .val (.int .i64 r2.2)]) (news := [.ro 3 2 (List.map en_api_TrainPair r2.1)]) rfl rfl rfl Try.call44 (atJ [] [(0, 3)] (fc_train_newChain h1) rfl rfl) (.inl (roAll rfl))) rfl trivial rfl rfl ?_
  refine op0 (sp_move rfl rfl) rfl trivial rfl rfl ?_
  refine op0 (sp_extract rfl rfl rfl) rfl trivial rfl rfl ?_
  refine op0 (sp_extract rfl rfl rfl) rfl trivial rfl rfl ?_
  refine op0 (sp_assign rfl rfl) rfl trivial rfl rfl ?_
  refine op0 (sp_assign rfl rfl) rfl trivial rfl rfl ?_
  refine TL.nil ?_
  refine TC.seq ?_
  refine TC.seq ?_
  refine TC.region ?_
  refine op0 (sp_move rfl rfl) rfl trivial rfl rfl ?_
  refine op0 (sp_neq rfl rfl rfl) rfl trivial rfl rfl ?_
  refine TL.nil ?_
  refine TC.cond (b := (r2.2 != 0)) rfl (fun h2 => ?_) (fun h2 => ?_)
  · have h := cond_t h h2
    refine TC.seq ?_
    refine TC.region ?_
    refine op0 (sp_move rfl rfl) rfl trivial rfl rfl ?_
    refine stoB 1 (cells' := [.val (.int .i64 0)]) rfl rfl trivial rfl rfl rfl rfl vt3 rfl rfl rfl ?_
    refine op0 (sp_assign rfl rfl) rfl trivial rfl rfl ?_
    refine TL.nil ?_
    cases h
    exact retM [] 2 1 [] rfl (.cell rfl (mem_at 1 rfl) isBlk vt3 rfl (.tmp rfl .nil)) rfl trivial rfl rfl trivial rfl
  · have h := cond_f h h2
    refine TC.skip ?_
    refine TC.seq ?_
    refine TC.region ?_
    refine stoB 1 (cells' := [.val (.int .i64 1)]) rfl rfl trivial rfl rfl rfl rfl vt3 rfl rfl rfl ?_
    refine TL.nil ?_
    refine TC.seq ?_
    refine TC.seq ?_
    refine TC.region ?_
    refine op0 (sp_move rfl rfl) rfl trivial rfl rfl ?_
    refine op0 (sp_makeFunc (fi := [.tmp 14]) (ca := []) (fa := [.ref 3]) (cb := []) rfl rfl rfl) rfl trivial rfl rfl ?_
    refine TL.nil ?_
    refine TC.block ?_
    refine TC.pin 5 2 rfl rfl fun u3 => ?_
    obtain ⟨q7, h7, h⟩ := bind_inv h
    refine rangeO (T := []) (T' := []) (k := 4) (gm := 1) (grec := 6) (S := [(2, .ptr 2 0)]) (V0 := (fun y5 : Int => [.pin 5 2 u3, .blk 2 [.val (.int .i64 y5)] 3])) (needI := [.ro 3 2 (List.map en_api_TrainPair r2.1)]) (ps := [16]) (jl := []) (ea := ye_funcapi_Ratio_bool) (en := yn_funcapi_Ratio_bool) (f := (ev_train_Cycle_r0 n)) (s0 := (1, 0)) (yf := q7) (v := .tup []) (fi := [.ref 3]) (caps := [])
      ⟨fun x y r hr l rec hrd w0 M0 R0 => ok_train_Cycle_r0 (u3 := u3) hr l rec hrd w0 M0 R0, ⟨rfl, trivial⟩, At.mem (is := [0, 2]) ⟨rfl, rfl, trivial⟩, At.mem (is := [1]) ⟨rfl, trivial⟩, rfl, pinsIn [2] [0] ⟨⟨_, _, fun _ => rfl⟩, trivial⟩ rfl, rfl, fun _ => rfl, fun _ _ => rfl, fun _ => rfl, fun _ _ => rfl, fun _ => rfl, fun _ => rfl, fun _ => rfl, rfl, rfl, fun _ => rfl, rfl⟩
      rfl rfl Try.call45 (takesNil rfl) 3 rfl (fun I hI => atT [(1, 4), (0, 3)] [(1, 4)] (ft_train_chain_arbors hI h7) rfl rfl rfl) (fun d => ?_)
    rcases cond_cases h with ⟨h8, h⟩ | ⟨h8, h⟩
    · refine done0 h8 ?_
      refine TC.inBlock ?_
      refine TC.seq ?_
      refine TC.region ?_
      refine op1 2 rfl (sp_loadB rfl isBlk rfl vt3 rfl) rfl trivial rfl rfl ?_
      refine stoB 2 (cells' := [.val (.int .i64 q7.1)]) rfl rfl trivial rfl rfl rfl rfl vt3 rfl rfl rfl ?_
      refine op0 (sp_assign rfl rfl) rfl trivial rfl rfl ?_
      refine TL.nil ?_
      cases h
      exact retM [] 0 1 [] rfl (.cell rfl (mem_at 1 rfl) isBlk vt3 rfl (.tmp rfl .nil)) rfl trivial rfl rfl trivial rfl
    · exact none_no h
theorem fc_train_Cycle {n : Nat} {l1 : List (Int × Int)} {r : Int × Int} (h : ev_train_Cycle n l1 = some r) : FC Try.prog 15 [.ref 0] [.ro 0 2 (List.map en_api_TrainPair l1)] (.tup [.val (.int .i64 r.1), .val (.int .i64 r.2)]) [] := (ft_train_Cycle h).toFC rfl
/- train_Check -/
def ev_train_Check_l1 (n : Nat) : Nat → Int → (List Int) → (List Int) → Option Int
  | 0, _, _, _ => none
  | m + 1, i5, l6, l7 => cond (decide (i5 < 2)) (chk (decide (0 ≤ i5) && decide (i5 < 2)) <| idx ([l6, l7] : List (List Int)) i5 fun x8 => cond ((x8.length : Int) == 0) (some 2) ((ev_train_isTeeth n x8).bind fun r9 => cond (!r9) (some 2) ((ev_slices_IsSorted_Lint_int n x8).bind fun r10 => cond (!r10) (some 2) ((ev_slices_Clone_Lint_int n x8).bind fun r11 => (ev_slices_Compact_Lint_int n r11).bind fun r12 => cond (decide ((r12.length : Int) < (x8.length : Int))) (some 2) (chk (in64 (i5 + 1)) <| ev_train_Check_l1 n m (i5 + 1) l6 l7))))) (some 0)
set_option maxRecDepth 100000 in
set_option maxHeartbeats 2000000 in
theorem ok_train_Check_l1 {n : Nat} {w0 : World} {R0 : Nat → Prop} {env0 : Env} {r : Int} : ∀ (m : Nat) (i5 : Int) (l6 : List Int) (l7 : List Int), ev_train_Check_l1 n m i5 l6 l7 = some r → TC Try.prog ⟨w0, fun _ => False, R0⟩ 48 (bodyPost Try.prog Try.f20 (Post ⟨w0, fun _ => False, R0⟩ env0 (.val (.int .i64 r)) [])) [.code (sub (bodyOf Try.f20) [1, 1, 1, 0, 1, 0, 0, 0]), .code (sub (bodyOf Try.f20) [1, 1, 1, 0, 1, 0, 0, 1]), .inLoop (sub (bodyOf Try.f20) [1, 1, 1, 0, 1, 0, 0]), .inBlock 2, .code (sub (bodyOf Try.f20) [1, 1, 1, 1])] ([(21, .agg [.ref 0, .ref 1]), (22, .val (.int .i64 i5))]) ([.ro 0 1 (List.map en_int l6), .ro 1 1 (List.map en_int l7)]) := by
  intro m
  induction m with
  | zero => intro i5 l6 l7 h; exact none_no h
  | succ m ih =>
    intro i5 l6 l7 h
    rw [ev_train_Check_l1] at h
    refine TC.region ?_
    refine op0 (sp_lss rfl rfl rfl) rfl trivial rfl rfl ?_
    refine TL.nil ?_
    refine TC.seq ?_
    refine TC.cond (b := (decide (i5 < 2))) rfl (fun h7 => ?_) (fun h7 => ?_)
    · have h := cond_t h h7
      refine TC.skip ?_
      refine TC.seq ?_
      refine TC.block ?_
      refine TC.seq ?_
      refine TC.region ?_
      obtain ⟨h10, h⟩ := chk_inv h
      obtain ⟨x8, h8, h9, h⟩ := idx_inv h
      refine opN (need := [.ro 0 1 (List.map en_int l6), .ro 1 1 (List.map en_int l7)]) [0, 1] ⟨rfl, rfl, trivial⟩ (sp_indexRef (ns := [0, 1]) (elss := List.map (List.map en_int) ([l6, l7] : List (List Int))) 5 rfl rfl rfl Try.underlying89 vt38 h10 rfl rfl rfl (map_get _ h9)) rfl trivial rfl rfl ?_
      refine op0 (sp_assign rfl rfl) rfl trivial rfl rfl ?_
      refine TL.nil ?_
      refine TC.seq ?_
      refine TC.region ?_
      refine op0 (sp_move rfl rfl) rfl trivial rfl rfl ?_
      refine op1 0 rfl (sp_lenM (N := x8.length) (len_map _ _) rfl rfl isRo Try.underlying38) rfl trivial rfl rfl ?_
      refine op0 (sp_eql rfl rfl rfl) rfl trivial rfl rfl ?_
      refine op0 (sp_move rfl rfl) rfl trivial rfl rfl ?_
      rcases cond_cases h with ⟨h11, h⟩ | ⟨h11, h⟩
      · refine (boolLit 28 rfl h11).2 ?_
        refine opSkip rfl ⟨_, rfl, .inl rfl⟩ rfl ?_
        refine opSkip rfl ⟨_, rfl, .inl rfl⟩ rfl ?_
        refine opSkip rfl ⟨_, rfl, .inl rfl⟩ rfl ?_
        refine op0 (sp_pickT rfl rfl rfl) rfl trivial rfl rfl ?_
        refine op0 (sp_move rfl rfl) rfl trivial rfl rfl ?_
        refine opSkip rfl ⟨_, rfl, .inl rfl⟩ rfl ?_
        refine opSkip rfl ⟨_, rfl, .inl rfl⟩ rfl ?_
        refine opSkip rfl ⟨_, rfl, .inl rfl⟩ rfl ?_
        refine op0 (sp_pickT rfl rfl rfl) rfl trivial rfl rfl ?_
        refine op0 (sp_move rfl rfl) rfl trivial rfl rfl ?_
        refine opSkip rfl ⟨_, rfl, .inl rfl⟩ rfl ?_
        refine opSkip rfl ⟨_, rfl, .inl rfl⟩ rfl ?_
        refine opSkip rfl ⟨_, rfl, .inl rfl⟩ rfl ?_
        refine opSkip rfl ⟨_, rfl, .inl rfl⟩ rfl ?_
        refine opSkip rfl ⟨_, rfl, .inl rfl⟩ rfl ?_
        refine opSkip rfl ⟨_, rfl, .inl rfl⟩ rfl ?_
        refine opSkip rfl ⟨_, rfl, .inl rfl⟩ rfl ?_
        refine op0 (sp_pickT rfl rfl rfl) rfl trivial rfl rfl ?_
        refine TL.nil ?_
        refine TC.condT rfl ?_
        refine TC.seq ?_
        refine TC.region ?_
        refine op0 (sp_assign rfl rfl) rfl trivial rfl rfl ?_
        refine TL.nil ?_
        cases h
        exact retJ [] (.tmp rfl .nil) rfl trivial rfl rfl
      · refine (boolLit 28 rfl h11).2 ?_
        refine op0 (sp_move rfl rfl) rfl ⟨_, rfl, rfl⟩ rfl rfl ?_
        obtain ⟨r9, h12, h⟩ := bind_inv h
        refine op1 0 rfl (sp_call (avs := [.ref 5]) (need := [.ro 5 1 (List.map en_int x8)]) (v := .val (.bool r9)) (news := []) rfl rfl rfl Try.call49 (atJ [(0, 5)] [] (fc_train_isTeeth h12) rfl rfl) (.inl (roAll rfl))) rfl ⟨_, rfl, rfl⟩ rfl rfl ?_
        refine op0 (sp_not rfl rfl) rfl ⟨_, rfl, rfl⟩ rfl rfl ?_
        refine op0 (sp_pickF rfl rfl rfl) rfl trivial rfl rfl ?_
        refine op0 (sp_move rfl rfl) rfl trivial rfl rfl ?_
        rcases cond_cases h with ⟨h13, h⟩ | ⟨h13, h⟩
        · refine (boolLit 33 rfl h13).2 ?_
          refine opSkip rfl ⟨_, rfl, .inl rfl⟩ rfl ?_
          refine opSkip rfl ⟨_, rfl, .inl rfl⟩ rfl ?_
          refine opSkip rfl ⟨_, rfl, .inl rfl⟩ rfl ?_
          refine op0 (sp_pickT rfl rfl rfl) rfl trivial rfl rfl ?_
          refine op0 (sp_move rfl rfl) rfl trivial rfl rfl ?_
          refine opSkip rfl ⟨_, rfl, .inl rfl⟩ rfl ?_
          refine opSkip rfl ⟨_, rfl, .inl rfl⟩ rfl ?_
          refine opSkip rfl ⟨_, rfl, .inl rfl⟩ rfl ?_
          refine opSkip rfl ⟨_, rfl, .inl rfl⟩ rfl ?_
          refine opSkip rfl ⟨_, rfl, .inl rfl⟩ rfl ?_
          refine opSkip rfl ⟨_, rfl, .inl rfl⟩ rfl ?_
          refine opSkip rfl ⟨_, rfl, .inl rfl⟩ rfl ?_
          refine op0 (sp_pickT rfl rfl rfl) rfl trivial rfl rfl ?_
          refine TL.nil ?_
          refine TC.condT rfl ?_
          refine TC.seq ?_
          refine TC.region ?_
          refine op0 (sp_assign rfl rfl) rfl trivial rfl rfl ?_
          refine TL.nil ?_
          cases h
          exact retJ [] (.tmp rfl .nil) rfl trivial rfl rfl
        · refine (boolLit 33 rfl h13).2 ?_
          refine op0 (sp_move rfl rfl) rfl ⟨_, rfl, rfl⟩ rfl rfl ?_
          obtain ⟨r10, h14, h⟩ := bind_inv h
          refine op1 0 rfl (sp_call (avs := [.ref 5]) (need := [.ro 5 1 (List.map en_int x8)]) (v := .val (.bool r10)) (news := []) rfl rfl rfl Try.call50 (atJ [(0, 5)] [] (fc_slices_IsSorted_Lint_int h14) rfl rfl) (.inl (roAll rfl))) rfl ⟨_, rfl, rfl⟩ rfl rfl ?_
          refine op0 (sp_not rfl rfl) rfl ⟨_, rfl, rfl⟩ rfl rfl ?_
          refine op0 (sp_pickF rfl rfl rfl) rfl trivial rfl rfl ?_
          refine op0 (sp_move rfl rfl) rfl trivial rfl rfl ?_
          rcases cond_cases h with ⟨h15, h⟩ | ⟨h15, h⟩
          · refine (boolLit 38 rfl h15).2 ?_
            refine opSkip rfl ⟨_, rfl, .inl rfl⟩ rfl ?_
            refine opSkip rfl ⟨_, rfl, .inl rfl⟩ rfl ?_
            refine opSkip rfl ⟨_, rfl, .inl rfl⟩ rfl ?_
            refine opSkip rfl ⟨_, rfl, .inl rfl⟩ rfl ?_
            refine opSkip rfl ⟨_, rfl, .inl rfl⟩ rfl ?_
            refine opSkip rfl ⟨_, rfl, .inl rfl⟩ rfl ?_
            refine opSkip rfl ⟨_, rfl, .inl rfl⟩ rfl ?_
            refine op0 (sp_pickT rfl rfl rfl) rfl trivial rfl rfl ?_
            refine TL.nil ?_
            refine TC.condT rfl ?_
            refine TC.seq ?_
            refine TC.region ?_
            refine op0 (sp_assign rfl rfl) rfl trivial rfl rfl ?_
            refine TL.nil ?_
            cases h
            exact retJ [] (.tmp rfl .nil) rfl trivial rfl rfl
          · refine (boolLit 38 rfl h15).2 ?_
            refine op0 (sp_move rfl rfl) rfl ⟨_, rfl, rfl⟩ rfl rfl ?_
            obtain ⟨r11, h16, h⟩ := bind_inv h
            refine op1 0 rfl (sp_call (avs := [.ref 5]) (need := [.ro 5 1 (List.map en_int x8)]) (v := .ref 6) (news := [.row 6 3 1 (List.map en_int r11)]) rfl rfl rfl Try.call52 (atJ [(0, 5)] [(0, 6)] (fc_slices_Clone_Lint_int h16) rfl rfl) (.inl (roAll rfl))) rfl ⟨_, rfl, rfl⟩ rfl rfl ?_
            obtain ⟨r12, h17, h⟩ := bind_inv h
            refine opT (take := [.row 6 3 1 (List.map en_int r11)]) (need := []) (V' := [.row 7 3 1 (List.map en_int r12), .ro 5 1 (List.map en_int x8), .ro 0 1 (List.map en_int l6), .ro 1 1 (List.map en_int l7)]) [0] [] (ts_call (avs := [.ref 6]) (take := [.row 6 3 1 (List.map en_int r11)]) (need := []) (v := .ref 7) (news := [.row 7 3 1 (List.map en_int r12)]) rfl rfl rfl Try.call51 (atT [(0, 6)] [(500, 7)] (ft_slices_Compact_Lint_int h17) rfl rfl rfl) rfl rfl) ⟨_, rfl, rfl⟩ rfl ⟨rfl, trivial⟩ trivial rfl rfl ?_
            refine op1 0 rfl (sp_lenM (N := r12.length) (len_map _ _) rfl rfl isOwn Try.underlying38) rfl ⟨_, rfl, rfl⟩ rfl rfl ?_
            refine op0 (sp_move rfl rfl) rfl ⟨_, rfl, rfl⟩ rfl rfl ?_
            refine op1 1 rfl (sp_lenM (N := x8.length) (len_map _ _) rfl rfl isRo Try.underlying38) rfl ⟨_, rfl, rfl⟩ rfl rfl ?_
            refine op0 (sp_lss rfl rfl rfl) rfl ⟨_, rfl, rfl⟩ rfl rfl ?_
            refine op0 (sp_pickF rfl rfl rfl) rfl trivial rfl rfl ?_
            refine TL.nil ?_
            refine TC.cond (b := (decide ((r12.length : Int) < (x8.length : Int)))) rfl (fun h18 => ?_) (fun h18 => ?_)
            · have h := cond_t h h18
              refine TC.seq ?_
              refine TC.region ?_
              refine op0 (sp_assign rfl rfl) rfl trivial rfl rfl ?_
              refine TL.nil ?_
              cases h
              exact retJ [] (.tmp rfl .nil) rfl trivial rfl rfl
            · have h := cond_f h h18
              refine TC.skip ?_
              refine TC.inBlock ?_
              refine TC.region ?_
              obtain ⟨h19, h⟩ := chk_inv h
              refine op0 (sp_add rfl rfl rfl h19) rfl trivial rfl rfl ?_
              refine op0 (sp_move rfl rfl) rfl trivial rfl rfl ?_
              refine TL.nil ?_
              refine TC.inLoop ?_
              refine TC.seq ?_
              refine subJ [] (ih _ _ _ h) ?_ ?_ ?_
              · exact ⟨rfl, rfl, trivial⟩
              · exact ⟨mem_at 2 rfl, mem_at 3 rfl, trivial⟩
              · rfl
    · have h := cond_f h h7
      refine TC.exit rfl ?_
      refine TC.seq ?_
      refine TC.region ?_
      refine op0 (sp_assign rfl rfl) rfl trivial rfl rfl ?_
      refine TL.nil ?_
      cases h
      exact retJ [] (.tmp rfl .nil) rfl trivial rfl rfl
def ev_train_Check_l0 (n : Nat) (s1 : List Int) (s2 : List Int) : Nat → Int → Option Int
  | 0, _ => none
  | m + 1, i3 => cond (decide (i3 < 2)) (chk (decide (0 ≤ i3) && decide (i3 < 2)) <| idx ([s1, s2] : List (List Int)) i3 fun x4 => cond (decide ((12 : Int) < (x4.length : Int))) (some 5) (chk (in64 (i3 + 1)) <| ev_train_Check_l0 n s1 s2 m (i3 + 1))) (ev_train_Check_l1 n n 0 s1 s2)
set_option maxRecDepth 100000 in
set_option maxHeartbeats 2000000 in
theorem ok_train_Check_l0 {n : Nat} {w0 : World} {R0 : Nat → Prop} {env0 : Env} {r : Int} {s1 : List Int} {s2 : List Int} : ∀ (m : Nat) (i3 : Int), ev_train_Check_l0 n s1 s2 m i3 = some r → TC Try.prog ⟨w0, fun _ => False, R0⟩ 48 (bodyPost Try.prog Try.f20 (Post ⟨w0, fun _ => False, R0⟩ env0 (.val (.int .i64 r)) [])) [.code (sub (bodyOf Try.f20) [1, 1, 0, 1, 0, 0, 0]), .code (sub (bodyOf Try.f20) [1, 1, 0, 1, 0, 0, 1]), .inLoop (sub (bodyOf Try.f20) [1, 1, 0, 1, 0, 0]), .inBlock 0, .code (sub (bodyOf Try.f20) [1, 1, 1])] ([(3, .ptr 3 0), (13, .agg [.ref 0, .ref 1]), (14, .val (.int .i64 i3))]) ([.blk 3 [.ref 0, .ref 1] 89, .ro 0 1 (List.map en_int s1), .ro 1 1 (List.map en_int s2)]) := by
  intro m
  induction m with
  | zero => intro i3 h; exact none_no h
  | succ m ih =>
    intro i3 h
    rw [ev_train_Check_l0] at h
    refine TC.region ?_
    refine op0 (sp_lss rfl rfl rfl) rfl trivial rfl rfl ?_
    refine TL.nil ?_
    refine TC.seq ?_
    refine TC.cond (b := (decide (i3 < 2))) rfl (fun h1 => ?_) (fun h1 => ?_)
    · have h := cond_t h h1
      refine TC.skip ?_
      refine TC.seq ?_
      refine TC.block ?_
      refine TC.seq ?_
      refine TC.region ?_
      obtain ⟨h4, h⟩ := chk_inv h
      obtain ⟨x4, h2, h3, h⟩ := idx_inv h
      refine opN (need := [.ro 0 1 (List.map en_int s1), .ro 1 1 (List.map en_int s2)]) [1, 2] ⟨rfl, rfl, trivial⟩ (sp_indexRef (ns := [0, 1]) (elss := List.map (List.map en_int) ([s1, s2] : List (List Int))) 4 rfl rfl rfl Try.underlying89 vt38 h4 rfl rfl rfl (map_get _ h3)) rfl trivial rfl rfl ?_
      refine op0 (sp_assign rfl rfl) rfl trivial rfl rfl ?_
      refine TL.nil ?_
      refine TC.seq ?_
      refine TC.region ?_
      refine op0 (sp_move rfl rfl) rfl trivial rfl rfl ?_
      refine op1 0 rfl (sp_lenM (N := x4.length) (len_map _ _) rfl rfl isRo Try.underlying38) rfl trivial rfl rfl ?_
      refine op0 (sp_gtr rfl rfl rfl) rfl trivial rfl rfl ?_
      refine TL.nil ?_
      refine TC.cond (b := (decide ((12 : Int) < (x4.length : Int)))) rfl (fun h5 => ?_) (fun h5 => ?_)
      · have h := cond_t h h5
        refine TC.seq ?_
        refine TC.region ?_
        refine op0 (sp_assign rfl rfl) rfl trivial rfl rfl ?_
        refine TL.nil ?_
        cases h
        exact retJ [] (.tmp rfl .nil) rfl trivial rfl rfl
      · have h := cond_f h h5
        refine TC.skip ?_
        refine TC.inBlock ?_
        refine TC.region ?_
        obtain ⟨h6, h⟩ := chk_inv h
        refine op0 (sp_add rfl rfl rfl h6) rfl trivial rfl rfl ?_
        refine op0 (sp_move rfl rfl) rfl trivial rfl rfl ?_
        refine TL.nil ?_
        refine TC.inLoop ?_
        refine TC.seq ?_
        refine subJ [] (ih _ h) ?_ ?_ ?_
        · exact ⟨rfl, rfl, rfl, trivial⟩
        · exact ⟨mem_at 1 rfl, mem_at 2 rfl, mem_at 3 rfl, trivial⟩
        · rfl
    · have h := cond_f h h1
      refine TC.exit rfl ?_
      refine TC.seq ?_
      refine TC.seq ?_
      refine TC.region ?_
      refine op1 0 rfl (sp_loadBA rfl isBlk rfl vt89 rfl rfl) rfl trivial rfl rfl ?_
      refine op0 (sp_move rfl rfl) rfl trivial rfl rfl ?_
      refine TL.nil ?_
      refine TC.block ?_
      refine TC.loop ?_
      refine TC.seq ?_
      refine subJ [] (ok_train_Check_l1 _ _ _ _ h) ?_ ?_ ?_
      · exact ⟨rfl, rfl, trivial⟩
      · exact ⟨mem_at 1 rfl, mem_at 2 rfl, trivial⟩
      · rfl
def ev_train_Check (n : Nat) (s1 : List Int) (s2 : List Int) : Option Int :=
  ev_train_Check_l0 n s1 s2 n 0
set_option maxRecDepth 100000 in
set_option maxHeartbeats 2000000 in
theorem fc_train_Check {n : Nat} {s1 : List Int} {s2 : List Int} {r : Int} (h : ev_train_Check n s1 s2 = some r) : FC Try.prog 20 [.agg [.ref 0, .ref 1]] [.ro 0 1 (List.map en_int s1), .ro 1 1 (List.map en_int s2)] (.val (.int .i64 r)) [] := by
  refine introJ (nz := 48) Try.func20 rfl rfl rfl (fun w0 R0 env0 => ?_)
  rw [ev_train_Check] at h
  refine TC.seq ?_
  refine TC.region ?_
  refine op0 (sp_box 2 rfl rfl rfl rfl rfl) rfl trivial rfl rfl ?_
  refine op0 (sp_assign rfl rfl) rfl trivial rfl rfl ?_
  refine TL.nil ?_
  refine TC.seq ?_
  refine TC.region ?_
  refine op1 0 rfl (sp_fieldAddrB rfl isBlk rfl ft40_0 vt38 (by decide)) rfl trivial rfl rfl ?_
  refine op1 0 rfl (sp_loadB rfl isBlk rfl vt38 rfl) rfl trivial rfl rfl ?_
  refine op1 0 rfl (sp_fieldAddrB rfl isBlk rfl ft40_1 vt38 (by decide)) rfl trivial rfl rfl ?_
  refine op1 0 rfl (sp_loadB rfl isBlk rfl vt38 rfl) rfl trivial rfl rfl ?_
  refine op0 (sp_build (qs := [(0, .ref 0), (1, .ref 1)]) rfl bt89 rfl rfl rfl rfl) rfl trivial rfl rfl ?_
  refine op0 (sp_alloc 3 rfl Try.zeroValue89 rfl) rfl trivial rfl rfl ?_
  refine stoB 0 (cells' := [.ref 0, .ref 1]) rfl rfl trivial rfl rfl rfl rfl vt89 rfl rfl rfl ?_
  refine TL.nil ?_
  refine TC.seq ?_
  refine TC.seq ?_
  refine TC.region ?_
  refine op1 0 rfl (sp_loadBA rfl isBlk rfl vt89 rfl rfl) rfl trivial rfl rfl ?_
  refine op0 (sp_move rfl rfl) rfl trivial rfl rfl ?_
  refine TL.nil ?_
  refine TC.block ?_
  refine TC.loop ?_
  refine TC.seq ?_
  refine subJ [] (ok_train_Check_l0 _ _ h) ?_ ?_ ?_
  · exact ⟨rfl, rfl, rfl, trivial⟩
  · exact ⟨mem_at 0 rfl, mem_at 2 rfl, mem_at 3 rfl, trivial⟩
  · rfl
/- train_isWanted -/
def ev_train_isWanted (n : Nat) (rr1 : Int) (rr2 : Int) : Option Bool :=
  (ev_train_within n 1 1000000 ([rr1, rr2] : List Int)).bind fun r3 => some r3
set_option maxRecDepth 100000 in
set_option maxHeartbeats 2000000 in
theorem fc_train_isWanted {n : Nat} {rr1 : Int} {rr2 : Int} {r : Bool} (h : ev_train_isWanted n rr1 rr2 = some r) : FC Try.prog 71 [.agg [.val (.int .i64 rr1), .val (.int .i64 rr2)]] [] (.val (.bool r)) [] := by
  refine introJ (nz := 9) Try.func71 rfl rfl rfl (fun w0 R0 env0 => ?_)
  rw [ev_train_isWanted] at h
  refine TC.seq ?_
  refine TC.region ?_
  refine op0 (sp_box 0 rfl rfl rfl rfl rfl) rfl trivial rfl rfl ?_
  refine op0 (sp_assign rfl rfl) rfl trivial rfl rfl ?_
  refine TL.nil ?_
  refine TC.seq ?_
  refine TC.region ?_
  refine op1 0 rfl (sp_fieldAddrB rfl isBlk rfl ft26_0 vt3 (by decide)) rfl trivial rfl rfl ?_
  refine op1 0 rfl (sp_loadB rfl isBlk rfl vt3 rfl) rfl trivial rfl rfl ?_
  refine op1 0 rfl (sp_fieldAddrB rfl isBlk rfl ft26_1 vt3 (by decide)) rfl trivial rfl rfl ?_
  refine op1 0 rfl (sp_loadB rfl isBlk rfl vt3 rfl) rfl trivial rfl rfl ?_
  refine op0 (sp_buildSlice (qs := [.val (.int .i64 rr1), .val (.int .i64 rr2)]) (need := []) (els := List.map en_int ([rr1, rr2] : List Int)) 1 rfl sl38 (by decide) (by decide) rfl rfl rfl (.v (.v (.nil))) (map_len fun _ => rfl) rfl rfl rfl) rfl trivial rfl rfl ?_
  obtain ⟨r3, h1, h⟩ := bind_inv h
  refine op1 0 rfl (sp_call (avs := [.val (.int .i64 1), .val (.int .i64 1000000), .ref 1]) (need := [.row 1 3 1 (List.map en_int ([rr1, rr2] : List Int))]) (v := .val (.bool r3)) (news := []) rfl rfl rfl Try.call62 (atJ [(0, 1)] [] (fc_train_within h1) rfl rfl) (.inr (fun x hx => nomatch hx))) rfl trivial rfl rfl ?_
  refine op0 (sp_assign rfl rfl) rfl trivial rfl rfl ?_
  refine TL.nil ?_
  cases h
  exact retJ [] (.tmp rfl .nil) rfl trivial rfl rfl
/- train_open -/
def ev_train_open (n : Nat) (s1 : List Int) (s2 : List Int) (want3 : Int) (want4 : Int) : Option ((List Int) × (List Int) × Int × Int × Int) :=
  (ev_train_Check n s1 s2).bind fun r5 => cond (r5 != 0) (some (([] : List Int), ([] : List Int), 0, 0, r5)) ((ev_train_isWanted n want3 want4).bind fun r6 => cond (!r6) (some (([] : List Int), ([] : List Int), 0, 0, 2)) ((ev_train_lowest n want3 want4).bind fun r7 => some (s1, s2, r7.1, r7.2, 0)))
set_option maxRecDepth 100000 in
set_option maxHeartbeats 2000000 in
theorem fc_train_open {n : Nat} {s1 : List Int} {s2 : List Int} {want3 : Int} {want4 : Int} {r : (List Int) × (List Int) × Int × Int × Int} (h : ev_train_open n s1 s2 want3 want4 = some r) : FC Try.prog 53 [.agg [.ref 0, .ref 1], .agg [.val (.int .i64 want3), .val (.int .i64 want4)]] [.ro 0 1 (List.map en_int s1), .ro 1 1 (List.map en_int s2)] (.tup [.agg [.ref 0, .ref 1, .val (.int .i64 r.2.2.1), .val (.int .i64 r.2.2.2.1)], .val (.int .i64 r.2.2.2.2)]) [.ro 0 1 (List.map en_int r.1), .ro 1 1 (List.map en_int r.2.1)] := by
  refine introJ (nz := 23) Try.func53 rfl rfl rfl (fun w0 R0 env0 => ?_)
  rw [ev_train_open] at h
  refine TC.seq ?_
  refine TC.region ?_
  refine op0 (sp_box 2 rfl rfl rfl rfl rfl) rfl trivial rfl rfl ?_
  refine op0 (sp_box 3 rfl rfl rfl rfl rfl) rfl trivial rfl rfl ?_
  refine op0 (sp_alloc 4 rfl Try.zeroValue94 rfl) rfl trivial rfl rfl ?_
  refine op0 (sp_assign rfl rfl) rfl trivial rfl rfl ?_
  refine TL.nil ?_
  refine TC.seq ?_
  refine TC.seq ?_
  refine TC.region ?_
  refine op1 2 rfl (sp_loadBA rfl isBlk rfl vt40 rfl rfl) rfl trivial rfl rfl ?_
  obtain ⟨r5, h1, h⟩ := bind_inv h
  refine opN (need := [.ro 0 1 (List.map en_int s1), .ro 1 1 (List.map en_int s2)]) [3, 4] ⟨rfl, rfl, trivial⟩ (sp_call (avs := [.agg [.ref 0, .ref 1]]) (need := [.ro 0 1 (List.map en_int s1), .ro 1 1 (List.map en_int s2)]) (v := .val (.int .i64 r5)) (news := []) rfl rfl rfl Try.call20 (atJ [] [] (fc_train_Check h1) rfl rfl) (.inl (roAll rfl))) rfl trivial rfl rfl ?_
  refine op0 (sp_assign rfl rfl) rfl trivial rfl rfl ?_
  refine TL.nil ?_
  refine TC.block ?_
  refine TC.seq ?_
  refine TC.region ?_
  refine op0 (sp_move rfl rfl) rfl trivial rfl rfl ?_
  refine op0 (sp_neq rfl rfl rfl) rfl trivial rfl rfl ?_
  refine op0 (sp_assign rfl rfl) rfl trivial rfl rfl ?_
  refine TL.nil ?_
  refine TC.cond (b := (r5 != 0)) rfl (fun h2 => ?_) (fun h2 => ?_)
  · have h := cond_t h h2
    refine TC.seq ?_
    refine TC.region ?_
    refine op0 (sp_build (qs := []) rfl bt94 rfl rfl rfl rfl) rfl trivial rfl rfl ?_
    refine op0 (sp_move rfl rfl) rfl trivial rfl rfl ?_
    refine stoB 0 (cells' := [.val (.slice none 0 0), .val (.slice none 0 0), .val (.int .i64 0), .val (.int .i64 0)]) rfl rfl trivial rfl rfl rfl rfl vt94 rfl rfl rfl ?_
    refine op0 (sp_assign rfl rfl) rfl trivial rfl rfl ?_
    refine TL.nil ?_
    refine nilCellC 0 5 3 1 4 (List.map en_int []) [.ref 5, .val (.slice none 0 0), .val (.int .i64 0), .val (.int .i64 0)] rfl rfl rfl ?_
    refine nilCellC 1 6 3 1 4 (List.map en_int []) [.ref 5, .ref 6, .val (.int .i64 0), .val (.int .i64 0)] rfl rfl rfl ?_
    refine TC.freeze 1 rfl ?_
    refine TC.freeze 0 rfl ?_
    cases h
    exact retJ [(0, 5), (1, 6)] (.cells rfl (mem_at 2 rfl) isBlk vt94 rfl rfl (.tmp rfl .nil)) rfl ⟨mem_at 1 rfl, mem_at 0 rfl, trivial⟩ rfl rfl
  · have h := cond_f h h2
    refine TC.seq ?_
    refine TC.region ?_
    refine op1 1 rfl (sp_loadBA rfl isBlk rfl vt26 rfl rfl) rfl trivial rfl rfl ?_
    obtain ⟨r6, h3, h⟩ := bind_inv h
    refine op0 (sp_call (avs := [.agg [.val (.int .i64 want3), .val (.int .i64 want4)]]) (need := []) (v := .val (.bool r6)) (news := []) rfl rfl rfl Try.call71 (atJ [] [] (fc_train_isWanted h3) rfl rfl) (.inl (roAll rfl))) rfl trivial rfl rfl ?_
    refine op0 (sp_not rfl rfl) rfl trivial rfl rfl ?_
    refine op0 (sp_assign rfl rfl) rfl trivial rfl rfl ?_
    refine TL.nil ?_
    refine TC.cond (b := (!r6)) rfl (fun h4 => ?_) (fun h4 => ?_)
    · have h := cond_t h h4
      refine TC.seq ?_
      refine TC.region ?_
      refine op0 (sp_build (qs := []) rfl bt94 rfl rfl rfl rfl) rfl trivial rfl rfl ?_
      refine stoB 0 (cells' := [.val (.slice none 0 0), .val (.slice none 0 0), .val (.int .i64 0), .val (.int .i64 0)]) rfl rfl trivial rfl rfl rfl rfl vt94 rfl rfl rfl ?_
      refine op0 (sp_assign rfl rfl) rfl trivial rfl rfl ?_
      refine TL.nil ?_
      refine nilCellC 0 7 3 1 4 (List.map en_int []) [.ref 7, .val (.slice none 0 0), .val (.int .i64 0), .val (.int .i64 0)] rfl rfl rfl ?_
      refine nilCellC 1 8 3 1 4 (List.map en_int []) [.ref 7, .ref 8, .val (.int .i64 0), .val (.int .i64 0)] rfl rfl rfl ?_
      refine TC.freeze 1 rfl ?_
      refine TC.freeze 0 rfl ?_
      cases h
      exact retJ [(0, 7), (1, 8)] (.cells rfl (mem_at 2 rfl) isBlk vt94 rfl rfl (.tmp rfl .nil)) rfl ⟨mem_at 1 rfl, mem_at 0 rfl, trivial⟩ rfl rfl
    · have h := cond_f h h4
      refine TC.skip ?_
      refine TC.inBlock ?_
      refine TC.seq ?_
      obtain ⟨r7, h5, h⟩ := bind_inv h
      refine drawJ 3 [⟨.agg [.ref 0, .ref 1], [], [.blk 2 [.ref 0, .ref 1] 40], []⟩, ⟨.agg [.val (.int .i64 want3), .val (.int .i64 want4)], [], [.blk 3 [.val (.int .i64 want3), .val (.int .i64 want4)] 26], []⟩, ⟨.agg [.val (.int .i64 r7.1), .val (.int .i64 r7.2)], [], [], []⟩] rfl ?_ rfl ?_ rfl ?_ ?_
      · kernel_rfl
      · kernel_rfl
      · exact DAll.op' (sp_loadBA rfl isBlk rfl vt40 rfl rfl) trivial rfl (From.ok (ps := [(none, 2)]) ⟨⟨rfl, rfl⟩, trivial⟩) (DAll.op' (sp_loadBA rfl isBlk rfl vt26 rfl rfl) trivial rfl (From.ok (ps := [(none, 1)]) ⟨⟨rfl, rfl⟩, trivial⟩) (DAll.op' (sp_call (avs := [.agg [.val (.int .i64 want3), .val (.int .i64 want4)]]) (need := []) (v := .agg [.val (.int .i64 r7.1), .val (.int .i64 r7.2)]) (news := []) rfl rfl rfl Try.call69 (atJ [] [] (fc_train_lowest h5) rfl rfl) (.inl (roAll rfl))) trivial rfl (From.ok (ps := []) trivial) (.nil)))
      refine op0 (sp_build (qs := [(0, .agg [.ref 0, .ref 1]), (1, .agg [.val (.int .i64 r7.1), .val (.int .i64 r7.2)])]) rfl bt94 rfl rfl rfl rfl) rfl trivial rfl rfl ?_
      refine stoB 0 (cells' := [.ref 0, .ref 1, .val (.int .i64 r7.1), .val (.int .i64 r7.2)]) rfl rfl trivial rfl rfl rfl rfl vt94 rfl rfl rfl ?_
      refine op0 (sp_assign rfl rfl) rfl trivial rfl rfl ?_
      refine TL.nil ?_
      cases h
      exact retJ [] (.cells rfl (mem_at 0 rfl) isBlk vt94 rfl rfl (.tmp rfl .nil)) rfl ⟨mem_at 3 rfl, mem_at 4 rfl, trivial⟩ rfl rfl
/- train_choose -/
def ev_train_choose (n : Nat) (l1 : List Int) (many2 : Int) : Option (Int × (List Int)) :=
  some (many2, l1)
set_option maxRecDepth 100000 in
set_option maxHeartbeats 2000000 in
theorem fc_train_choose {n : Nat} {l1 : List Int} {many2 : Int} {r : Int × (List Int)} (h : ev_train_choose n l1 many2 = some r) : FC Try.prog 76 [.ref 0, .val (.int .i64 many2)] [.ro 0 1 (List.map en_int l1)] (.fn 95 [] [.ptr 0 0, .ptr 2 0]) [.blk 0 [.fn 93 [] [.ptr 1 0, .ptr 0 0]] 142, .blk 1 [.val (.int .i64 r.1)] 3, .blk 2 [.ref 3] 38, .ro 3 1 (List.map en_int r.2)] := by
  refine introJ (nz := 8) Try.func76 rfl rfl rfl (fun w0 R0 env0 => ?_)
  rw [ev_train_choose] at h
  refine TC.seq ?_
  refine TC.region ?_
  refine op0 (sp_box 1 rfl rfl rfl rfl rfl) rfl trivial rfl rfl ?_
  refine op0 (sp_box 2 rfl rfl rfl rfl rfl) rfl trivial rfl rfl ?_
  refine op0 (sp_assign rfl rfl) rfl trivial rfl rfl ?_
  refine TL.nil ?_
  refine TC.seq ?_
  refine TC.region ?_
  refine op0 (sp_alloc 3 rfl Try.zeroValue142 rfl) rfl trivial rfl rfl ?_
  refine TL.nil ?_
  refine TC.seq ?_
  refine TC.region ?_
  refine op0 (sp_makeFunc (fi := []) (ca := [.tmp 3, .tmp 5]) (fa := []) (cb := [.ptr 2 0, .ptr 3 0]) rfl rfl rfl) rfl trivial rfl rfl ?_
  refine stoB 0 (cells' := [.fn 93 [] [.ptr 2 0, .ptr 3 0]]) rfl rfl trivial rfl rfl rfl rfl vt142 rfl rfl rfl ?_
  refine TL.nil ?_
  refine TC.seq ?_
  refine TC.region ?_
  refine op0 (sp_makeFunc (fi := []) (ca := [.tmp 5, .tmp 2]) (fa := []) (cb := [.ptr 3 0, .ptr 1 0]) rfl rfl rfl) rfl trivial rfl rfl ?_
  refine op0 (sp_assign rfl rfl) rfl trivial rfl rfl ?_
  refine TL.nil ?_
  cases h
  exact retJ [(0, 3), (1, 2), (2, 1), (3, 0)] (.tmp rfl .nil) rfl ⟨mem_at 0 rfl, mem_at 1 rfl, mem_at 2 rfl, mem_at 3 rfl, trivial⟩ rfl rfl
/- train_choose_1 -/
def ev_train_choose_1_l0 {σ1 : Type} (yb1 : ((List Int) × Int) → σ1 → Option (Bool × σ1)) (n : Nat) (rest1 : List Int) (self : (List Int) → (List Int) → Int → σ1 → Int → Int → Option (Bool × σ1)) : Nat → Int → (List Int) → Int → Int → (List Int) → σ1 → Option (Bool × σ1)
  | 0, _, _, _, _, _, _ => none
  | m + 1, i8, l9, i10, i11, l12, y13 => cond (decide (i8 < (rest1.length : Int))) (idx l9 i8 fun x14 => chk (decide (0 ≤ (i8 : Int)) && (decide ((i8 : Int) ≤ (l9.length : Int)) && decide ((l9.length : Int) ≤ (l9.length : Int)))) <| (ev_slices_Clip_Lint_int n l12).bind fun r15 => chk (Nat.blt 0 ([x14] : List Int).length) <| chk (room 8 (r15.length + ([x14] : List Int).length)) <| chk (in64 (i10 * x14)) <| (self (List.drop (i8 : Int).toNat (List.take ((l9.length : Int) : Int).toNat l9)) (r15 ++ ([x14] : List Int)) (i10 * x14) y13 i11 i11).bind fun r16 => cond (!r16.1) (some (false, r16.2)) (chk (in64 (i8 + 1)) <| ev_train_choose_1_l0 yb1 n rest1 self m (i8 + 1) l9 i10 i11 l12 r16.2)) (some (true, y13))
set_option maxRecDepth 100000 in
set_option maxHeartbeats 2000000 in
theorem ok_train_choose_1_l0 {σ1 : Type} {yb1 : ((List Int) × Int) → σ1 → Option (Bool × σ1)} {I1 : σ1 → Inv} (hI1 : Yields Try.prog ye_functrain_counts_bool yn_functrain_counts_bool yb1 I1) {n : Nat} {w0 : World} {M0 R0 : Nat → Prop} {env0 : Env} {df : List Deferred} {r : Bool × σ1} {rest1 : List Int} {self : (List Int) → (List Int) → Int → σ1 → Int → Int → Option (Bool × σ1)} (hself : ∀ (rest1z : List Int) (now2z : List Int) (now3z : Int) (y4z : σ1) (c5z : Int) (c6z : Int) (r : Bool × σ1), self rest1z now2z now3z y4z c5z c6z = some r → FT Try.prog 93 [.ref 0, .agg [.ref 1, .val (.int .i64 now3z)], .ref 2, .ptr 3 0, .ptr 4 0] [.inv 2 (I1 y4z)] [.ro 0 1 (List.map en_int rest1z), .ro 1 1 (List.map en_int now2z), .rob 3 [.val (.int .i64 c5z)] 3, .rob 4 [.fn 93 [] [.ptr 5 0, .ptr 4 0]] 142, .rob 5 [.val (.int .i64 c6z)] 3] (.val (.bool r.1)) [.inv 2 (I1 r.2)]) : ∀ (m : Nat) (i8 : Int) (l9 : List Int) (i10 : Int) (i11 : Int) (l12 : List Int) (y13 : σ1), ev_train_choose_1_l0 yb1 n rest1 self m i8 l9 i10 i11 l12 y13 = some r → TC Try.prog ⟨w0, M0, R0⟩ ⟨45, none, df⟩ (bodyPostM Fence.wide 0 Try.prog Try.f93 (PostT ⟨w0, M0, R0⟩ env0 [2] (.val (.bool r.1)) [.inv 2 (I1 r.2)])) [.code (sub (bodyOf Try.f93) [1, 1, 0, 1, 0, 0, 0]), .code (sub (bodyOf Try.f93) [1, 1, 0, 1, 0, 0, 1]), .inLoop (sub (bodyOf Try.f93) [1, 1, 0, 1, 0, 0]), .inBlock 0, .code (sub (bodyOf Try.f93) [1, 1, 1])] ([(0, .ref 0), (2, .ref 2), (4, .ptr 4 0), (6, .ptr 8 0), (19, .ref 0), (20, .val (.int .i64 (rest1.length : Int))), (21, .val (.int .i64 i8))]) ([.ro 0 1 (List.map en_int l9), .rob 4 [.fn 93 [] [.ptr 5 0, .ptr 4 0]] 142, .blk 8 [.ref 1, .val (.int .i64 i10)] 125, .rob 5 [.val (.int .i64 i11)] 3, .ro 1 1 (List.map en_int l12), .inv 6 (marksI df), .pin 7 2 (env0 2), .inv 2 (I1 y13)]) := by
  intro m
  induction m with
  | zero => intro i8 l9 i10 i11 l12 y13 h; exact none_no h
  | succ m ih =>
    intro i8 l9 i10 i11 l12 y13 h
    rw [ev_train_choose_1_l0] at h
    refine TC.region ?_
    refine op0 (sp_lss rfl rfl rfl) rfl trivial rfl rfl ?_
    refine TL.nil ?_
    refine TC.seq ?_
    refine TC.cond (b := (decide (i8 < (rest1.length : Int)))) rfl (fun h3 => ?_) (fun h3 => ?_)
    · have h := cond_t h h3
      refine TC.skip ?_
      refine TC.seq ?_
      refine TC.block ?_
      refine TC.seq ?_
      refine TC.region ?_
      refine op0 (sp_move rfl rfl) rfl trivial rfl rfl ?_
      obtain ⟨x14, h4, h5, h⟩ := idx_inv h
      refine op1 0 rfl (sp_indexS rfl rfl rfl isRo sl38 h4 (map_get _ h5)) rfl trivial rfl rfl ?_
      refine op1 0 rfl (sp_loadR (i := (i8 : Int).toNat) (j := 0) rfl rfl isRo vt3 rfl (map_get _ h5) rfl (.v (.nil)) (nodup_of_B rfl)) rfl trivial rfl rfl ?_
      refine op0 (sp_assign rfl rfl) rfl trivial rfl rfl ?_
      refine op0 (sp_assign rfl rfl) rfl trivial rfl rfl ?_
      refine TL.nil ?_
      refine TC.seq ?_
      obtain ⟨h6, h⟩ := chk_inv h
      obtain ⟨r15, h7, h⟩ := bind_inv h
      obtain ⟨h8, h⟩ := chk_inv h
      obtain ⟨h9, h⟩ := chk_inv h
      obtain ⟨h10, h⟩ := chk_inv h
      refine drawJ 16 [⟨.fn 93 [] [.ptr 5 0, .ptr 4 0], [], [.rob 4 [.fn 93 [] [.ptr 5 0, .ptr 4 0]] 142], []⟩, ⟨.ref 0, [], [], []⟩, ⟨.val (.int .i64 i8), [], [], []⟩, ⟨.ref 9, [.ro 9 1 (List.map en_int (List.drop (i8 : Int).toNat (List.take ((l9.length : Int) : Int).toNat l9)))], [.ro 0 1 (List.map en_int l9)], []⟩, ⟨.ptr 8 0, [], [.blk 8 [.ref 1, .val (.int .i64 i10)] 125], []⟩, ⟨.ref 1, [], [.blk 8 [.ref 1, .val (.int .i64 i10)] 125], []⟩, ⟨.ref 10, [.any 10 (D.clip 1 (List.map en_int r15))], [.ro 1 1 (List.map en_int l12)], []⟩, ⟨.val (.int .i64 x14), [], [], []⟩, ⟨.ref 11, [.row 11 3 1 (List.map en_int ([x14] : List Int))], [], []⟩, ⟨.ref 12, [.row 12 3 1 (List.map en_int (r15 ++ ([x14] : List Int)))], [.any 10 (D.clip 1 (List.map en_int r15)), .row 11 3 1 (List.map en_int ([x14] : List Int))], []⟩, ⟨.ptr 8 1, [], [.blk 8 [.ref 1, .val (.int .i64 i10)] 125], []⟩, ⟨.val (.int .i64 i10), [], [.blk 8 [.ref 1, .val (.int .i64 i10)] 125], []⟩, ⟨.val (.int .i64 x14), [], [], []⟩, ⟨.val (.int .i64 (i10 * x14)), [], [], []⟩, ⟨.agg [.ref 12, .val (.int .i64 (i10 * x14))], [], [], []⟩, ⟨.ref 2, [], [], []⟩] rfl ?_ rfl ?_ rfl ?_ ?_
      · kernel_rfl
      · kernel_rfl
      · exact DAll.op' (sp_loadB rfl isRob rfl vt142 rfl) trivial rfl (From.ok (ps := [(none, 1)]) ⟨⟨rfl, rfl⟩, trivial⟩) (DAll.op' (sp_move rfl rfl) trivial rfl (From.ok (ps := []) trivial) (DAll.op' (sp_move rfl rfl) trivial rfl (From.ok (ps := []) trivial) (DAll.op' (sp_sliceM (l := i8) (h := (l9.length : Int)) 9 (len_map _ _) rfl rfl sl38 (cut_some rfl) cut_none h6 (map_cut _ _ _ _)) trivial rfl (From.ok (ps := [(none, 0)]) ⟨⟨rfl, rfl⟩, trivial⟩) (DAll.op' (sp_fieldAddrB rfl isBlk rfl ft125_0 vt38 (by decide)) trivial rfl (From.ok (ps := [(none, 2)]) ⟨⟨rfl, rfl⟩, trivial⟩) (DAll.op' (sp_loadB rfl isBlk rfl vt38 rfl) trivial rfl (From.ok (ps := [(none, 2)]) ⟨⟨rfl, rfl⟩, trivial⟩) (DAll.op' (sp_call (avs := [.ref 1]) (need := [.ro 1 1 (List.map en_int l12)]) (v := .ref 10) (news := [.any 10 (D.clip 1 (List.map en_int r15))]) rfl rfl rfl Try.call94 (atJ [(0, 1)] [(0, 10)] (fc_slices_Clip_Lint_int h7) rfl rfl) (.inl (roAll rfl))) trivial rfl (From.ok (ps := [(none, 4)]) ⟨⟨rfl, rfl⟩, trivial⟩) (DAll.op' (sp_move rfl rfl) trivial rfl (From.ok (ps := []) trivial) (DAll.op' (sp_buildSlice (qs := [.val (.int .i64 x14)]) (need := []) (els := List.map en_int ([x14] : List Int)) 11 rfl sl38 (by decide) (by decide) rfl rfl rfl (.v (.nil)) (map_len fun _ => rfl) rfl rfl rfl) trivial rfl (From.ok (ps := []) trivial) (DAll.op' (sp_appClip (N := r15.length) (N2 := ([x14] : List Int).length) 12 rfl rfl rfl isOwn sl38 (len_map _ _) (len_map _ _) h8 h9 (map_app _ _ _)) trivial rfl (From.ok (ps := [(some 6, 0), (some 8, 0)]) ⟨⟨_, rfl, rfl, rfl, rfl⟩, ⟨_, rfl, rfl, rfl, rfl⟩, trivial⟩) (DAll.op' (sp_fieldAddrB rfl isBlk rfl ft125_1 vt3 (by decide)) trivial rfl (From.ok (ps := [(none, 2)]) ⟨⟨rfl, rfl⟩, trivial⟩) (DAll.op' (sp_loadB rfl isBlk rfl vt3 rfl) trivial rfl (From.ok (ps := [(none, 2)]) ⟨⟨rfl, rfl⟩, trivial⟩) (DAll.op' (sp_move rfl rfl) trivial rfl (From.ok (ps := []) trivial) (DAll.op' (sp_mul rfl rfl rfl h10) trivial rfl (From.ok (ps := []) trivial) (DAll.op' (sp_build (qs := [(0, .ref 12), (1, .val (.int .i64 (i10 * x14)))]) rfl bt125 rfl rfl rfl rfl) trivial rfl (From.ok (ps := []) trivial) (DAll.op' (sp_move rfl rfl) trivial rfl (From.ok (ps := []) trivial) (.nil))))))))))))))))
      refine TL.freeze 0 rfl ?_
      obtain ⟨r16, h11, h⟩ := bind_inv h
      refine opT (take := [.inv 2 (I1 y13)]) (need := [.ro 9 1 (List.map en_int (List.drop (i8 : Int).toNat (List.take ((l9.length : Int) : Int).toNat l9))), .ro 12 1 (List.map en_int (r15 ++ ([x14] : List Int))), .rob 5 [.val (.int .i64 i11)] 3, .rob 4 [.fn 93 [] [.ptr 5 0, .ptr 4 0]] 142]) (V' := [.inv 2 (I1 r16.2), .ro 12 1 (List.map en_int (r15 ++ ([x14] : List Int))), .row 11 3 1 (List.map en_int ([x14] : List Int)), .any 10 (D.clip 1 (List.map en_int r15)), .ro 9 1 (List.map en_int (List.drop (i8 : Int).toNat (List.take ((l9.length : Int) : Int).toNat l9))), .ro 0 1 (List.map en_int l9), .rob 4 [.fn 93 [] [.ptr 5 0, .ptr 4 0]] 142, .blk 8 [.ref 1, .val (.int .i64 i10)] 125, .rob 5 [.val (.int .i64 i11)] 3, .ro 1 1 (List.map en_int l12), .inv 6 (marksI df), .pin 7 2 (env0 2)]) [11] [3, 0, 7, 5] (ts_call (avs := [.ref 9, .agg [.ref 12, .val (.int .i64 (i10 * x14))], .ref 2]) (take := [.inv 2 (I1 y13)]) (need := [.ro 9 1 (List.map en_int (List.drop (i8 : Int).toNat (List.take ((l9.length : Int) : Int).toNat l9))), .ro 12 1 (List.map en_int (r15 ++ ([x14] : List Int))), .rob 5 [.val (.int .i64 i11)] 3, .rob 4 [.fn 93 [] [.ptr 5 0, .ptr 4 0]] 142]) (v := .val (.bool r16.1)) (news := [.inv 2 (I1 r16.2)]) rfl rfl rfl Try.call93 (FT.needJ (need := [.ro 9 1 (List.map en_int (List.drop (i8 : Int).toNat (List.take ((l9.length : Int) : Int).toNat l9))), .ro 12 1 (List.map en_int (r15 ++ ([x14] : List Int))), .rob 5 [.val (.int .i64 i11)] 3, .rob 4 [.fn 93 [] [.ptr 5 0, .ptr 4 0]] 142]) (need' := [.ro 9 1 (List.map en_int (List.drop (i8 : Int).toNat (List.take ((l9.length : Int) : Int).toNat l9))), .ro 12 1 (List.map en_int (r15 ++ ([x14] : List Int))), .rob 5 [.val (.int .i64 i11)] 3, .rob 4 [.fn 93 [] [.ptr 5 0, .ptr 4 0]] 142, .rob 5 [.val (.int .i64 i11)] 3]) [0, 1, 2, 3, 2] ⟨rfl, rfl, rfl, rfl, rfl, trivial⟩ (atT [(0, 9), (1, 12), (3, 5)] [] (hself _ _ _ _ _ _ _ h11) rfl rfl rfl)) rfl rfl) trivial rfl ⟨rfl, trivial⟩ ⟨rfl, rfl, rfl, rfl, trivial⟩ rfl rfl ?_
      refine op0 (sp_not rfl rfl) rfl trivial rfl rfl ?_
      refine TL.nil ?_
      refine TC.cond (b := (!r16.1)) rfl (fun h12 => ?_) (fun h12 => ?_)
      · have h := cond_t h h12
        refine TC.seq ?_
        refine TC.region ?_
        refine op0 (sp_assign rfl rfl) rfl trivial rfl rfl ?_
        refine TL.nil ?_
        cases h
        exact retM [] 10 6 [2] rfl (.tmp rfl .nil) rfl ⟨mem_at 0 rfl, trivial⟩ rfl rfl ⟨⟨_, mem_at 10 rfl⟩, trivial⟩ rfl
      · have h := cond_f h h12
        refine TC.skip ?_
        refine TC.inBlock ?_
        refine TC.region ?_
        obtain ⟨h13, h⟩ := chk_inv h
        refine op0 (sp_add rfl rfl rfl h13) rfl trivial rfl rfl ?_
        refine op0 (sp_move rfl rfl) rfl trivial rfl rfl ?_
        refine TL.nil ?_
        refine TC.inLoop ?_
        refine TC.seq ?_
        refine subJ [] (ih _ _ _ _ _ _ h) ?_ ?_ ?_
        · exact ⟨rfl, rfl, rfl, rfl, rfl, rfl, rfl, trivial⟩
        · exact ⟨mem_at 5 rfl, mem_at 6 rfl, mem_at 7 rfl, mem_at 8 rfl, mem_at 9 rfl, mem_at 10 rfl, mem_at 11 rfl, mem_at 0 rfl, trivial⟩
        · rfl
    · have h := cond_f h h3
      refine TC.exit rfl ?_
      refine TC.seq ?_
      refine TC.region ?_
      refine op0 (sp_assign rfl rfl) rfl trivial rfl rfl ?_
      refine TL.nil ?_
      cases h
      exact retM [] 5 6 [2] rfl (.tmp rfl .nil) rfl ⟨mem_at 6 rfl, trivial⟩ rfl rfl ⟨⟨_, mem_at 5 rfl⟩, trivial⟩ rfl
def ev_train_choose_1 {σ1 : Type} (yb1 : ((List Int) × Int) → σ1 → Option (Bool × σ1)) : Nat → (List Int) → (List Int) → Int → σ1 → Int → Int → Option (Bool × σ1)
  | 0, _, _, _, _, _, _ => none
  | n + 1, rest1, now2, now3, y4, c5, c6 => cond ((now2.length : Int) == c5) ((yb1 (now2, now3) y4).bind fun r7 => some (r7.1, r7.2)) (ev_train_choose_1_l0 yb1 n rest1 (ev_train_choose_1 yb1 n) n 0 rest1 now3 c6 now2 y4)
set_option maxRecDepth 100000 in
set_option maxHeartbeats 2000000 in
theorem fcr_train_choose_1 {σ1 : Type} {yb1 : ((List Int) × Int) → σ1 → Option (Bool × σ1)} {I1 : σ1 → Inv} (hI1 : Yields Try.prog ye_functrain_counts_bool yn_functrain_counts_bool yb1 I1) : ∀ (n : Nat) (rest1 : List Int) (now2 : List Int) (now3 : Int) (y4 : σ1) (c5 : Int) (c6 : Int) (r : Bool × σ1), ev_train_choose_1 yb1 n rest1 now2 now3 y4 c5 c6 = some r → FT Try.prog 93 [.ref 0, .agg [.ref 1, .val (.int .i64 now3)], .ref 2, .ptr 3 0, .ptr 4 0] [.inv 2 (I1 y4)] [.ro 0 1 (List.map en_int rest1), .ro 1 1 (List.map en_int now2), .rob 3 [.val (.int .i64 c5)] 3, .rob 4 [.fn 93 [] [.ptr 5 0, .ptr 4 0]] 142, .rob 5 [.val (.int .i64 c6)] 3] (.val (.bool r.1)) [.inv 2 (I1 r.2)] := by
  intro n
  induction n with
  | zero => intro _ _ _ _ _ _ r h; exact none_no h
  | succ n ih =>
    intro rest1 now2 now3 y4 c5 c6 r h
    refine introM (nz := 45) 6 [(7, 2)] Try.func93 rfl rfl rfl rfl (fun w0 M0 R0 env0 => ?_)
    rw [ev_train_choose_1] at h
    refine TC.seq ?_
    refine TC.region ?_
    refine op0 (sp_box 8 rfl rfl rfl rfl rfl) rfl trivial rfl rfl ?_
    refine op0 (sp_assign rfl rfl) rfl trivial rfl rfl ?_
    refine TL.nil ?_
    refine TC.seq ?_
    refine TC.seq ?_
    refine TC.region ?_
    refine op1 0 rfl (sp_fieldAddrB rfl isBlk rfl ft125_0 vt38 (by decide)) rfl trivial rfl rfl ?_
    refine op1 0 rfl (sp_loadB rfl isBlk rfl vt38 rfl) rfl trivial rfl rfl ?_
    refine op1 5 rfl (sp_lenM (N := now2.length) (len_map _ _) rfl rfl isRo Try.underlying38) rfl trivial rfl rfl ?_
    refine op1 6 rfl (sp_loadB rfl isRob rfl vt3 rfl) rfl trivial rfl rfl ?_
    refine op0 (sp_eql rfl rfl rfl) rfl trivial rfl rfl ?_
    refine TL.nil ?_
    refine TC.cond (b := ((now2.length : Int) == c5)) rfl (fun h1 => ?_) (fun h1 => ?_)
    · have h := cond_t h h1
      refine TC.seq ?_
      refine TC.region ?_
      refine op0 (sp_move rfl rfl) rfl trivial rfl rfl ?_
      refine op1 0 rfl (sp_loadBA rfl isBlk rfl vt125 rfl rfl) rfl trivial rfl rfl ?_
      obtain ⟨r7, h2, h⟩ := bind_inv h
      refine opT (take := [.inv 2 (I1 y4)]) (need := [.ro 1 1 (List.map en_int now2)]) (V' := [.inv 2 (I1 r7.2), .blk 8 [.ref 1, .val (.int .i64 now3)] 125, .inv 6 (marksI []), .pin 7 2 (env0 2), .ro 0 1 (List.map en_int rest1), .ro 1 1 (List.map en_int now2), .rob 3 [.val (.int .i64 c5)] 3, .rob 4 [.fn 93 [] [.ptr 5 0, .ptr 4 0]] 142, .rob 5 [.val (.int .i64 c6)] 3]) [3] [5] (ts_yield hI1 (x := (now2, now3)) (b := r7.1) (avs := [.agg [.ref 1, .val (.int .i64 now3)]]) (need := [.ro 1 1 (List.map en_int now2)]) [(900, 1)] h2 rfl rfl rfl rfl rfl rfl) trivial rfl ⟨rfl, trivial⟩ ⟨rfl, trivial⟩ rfl rfl ?_
      refine op0 (sp_assign rfl rfl) rfl trivial rfl rfl ?_
      refine TL.nil ?_
      cases h
      exact retM [] 2 6 [2] rfl (.tmp rfl .nil) rfl ⟨mem_at 0 rfl, trivial⟩ rfl rfl ⟨⟨_, mem_at 2 rfl⟩, trivial⟩ rfl
    · have h := cond_f h h1
      refine TC.skip ?_
      refine TC.seq ?_
      refine TC.seq ?_
      refine TC.region ?_
      refine op0 (sp_move rfl rfl) rfl trivial rfl rfl ?_
      refine op1 4 rfl (sp_lenM (N := rest1.length) (len_map _ _) rfl rfl isRo Try.underlying38) rfl trivial rfl rfl ?_
      refine op0 (sp_move rfl rfl) rfl trivial rfl rfl ?_
      refine TL.nil ?_
      refine TC.block ?_
      refine TC.loop ?_
      refine TC.seq ?_
      refine subJ [] (ok_train_choose_1_l0 hI1 ih _ _ _ _ _ _ _ h) ?_ ?_ ?_
      · exact ⟨rfl, rfl, rfl, rfl, rfl, rfl, rfl, trivial⟩
      · exact ⟨mem_at 4 rfl, mem_at 7 rfl, mem_at 0 rfl, mem_at 8 rfl, mem_at 5 rfl, mem_at 1 rfl, mem_at 2 rfl, mem_at 3 rfl, trivial⟩
      · rfl
theorem ft_train_choose_1 {σ1 : Type} {yb1 : ((List Int) × Int) → σ1 → Option (Bool × σ1)} {I1 : σ1 → Inv} (hI1 : Yields Try.prog ye_functrain_counts_bool yn_functrain_counts_bool yb1 I1) {n : Nat} {rest1 : List Int} {now2 : List Int} {now3 : Int} {y4 : σ1} {c5 : Int} {c6 : Int} {r : Bool × σ1} (h : ev_train_choose_1 yb1 n rest1 now2 now3 y4 c5 c6 = some r) : FT Try.prog 93 [.ref 0, .agg [.ref 1, .val (.int .i64 now3)], .ref 2, .ptr 3 0, .ptr 4 0] [.inv 2 (I1 y4)] [.ro 0 1 (List.map en_int rest1), .ro 1 1 (List.map en_int now2), .rob 3 [.val (.int .i64 c5)] 3, .rob 4 [.fn 93 [] [.ptr 5 0, .ptr 4 0]] 142, .rob 5 [.val (.int .i64 c6)] 3] (.val (.bool r.1)) [.inv 2 (I1 r.2)] := fcr_train_choose_1 hI1 n rest1 now2 now3 y4 c5 c6 r h
/- train_choose_2 -/
def ev_train_choose_2 {σ1 : Type} (yb1 : ((List Int) × Int) → σ1 → Option (Bool × σ1)) (n : Nat) (y1 : σ1) (c2 : Int) (c3 : List Int) : Option σ1 :=
  (ev_train_choose_1 yb1 n c3 ([]) 1 y1 c2 c2).bind fun r4 => some r4.2
set_option maxRecDepth 100000 in
set_option maxHeartbeats 2000000 in
theorem ft_train_choose_2 {σ1 : Type} {yb1 : ((List Int) × Int) → σ1 → Option (Bool × σ1)} {I1 : σ1 → Inv} (hI1 : Yields Try.prog ye_functrain_counts_bool yn_functrain_counts_bool yb1 I1) {n : Nat} {y1 : σ1} {c2 : Int} {c3 : List Int} {r : σ1} (h : ev_train_choose_2 yb1 n y1 c2 c3 = some r) : FT Try.prog 95 [.ref 0, .ptr 1 0, .ptr 3 0] [.inv 0 (I1 y1)] [.rob 1 [.fn 93 [] [.ptr 2 0, .ptr 1 0]] 142, .rob 2 [.val (.int .i64 c2)] 3, .rob 3 [.ref 4] 38, .ro 4 1 (List.map en_int c3)] (.tup []) [.inv 0 (I1 r)] := by
  refine introM (nz := 9) 5 [(6, 0)] Try.func95 rfl rfl rfl rfl (fun w0 M0 R0 env0 => ?_)
  rw [ev_train_choose_2] at h
  refine TC.region ?_
  refine op1 3 rfl (sp_loadB rfl isRob rfl vt142 rfl) rfl trivial rfl rfl ?_
  refine op1 5 rfl (sp_loadB rfl isRob rfl vt38 rfl) rfl trivial rfl rfl ?_
  refine op0 (sp_build (qs := [(1, .val (.int .i64 1))]) rfl bt125 rfl rfl rfl rfl) rfl trivial rfl rfl ?_
  refine op0 (sp_move rfl rfl) rfl trivial rfl rfl ?_
  obtain ⟨r4, h1, h⟩ := bind_inv h
  refine opT (take := [.inv 0 (I1 y1)]) (need := [.ro 4 1 (List.map en_int c3), .rob 2 [.val (.int .i64 c2)] 3, .rob 1 [.fn 93 [] [.ptr 2 0, .ptr 1 0]] 142]) (V' := [.inv 0 (I1 r4.2), .inv 5 (marksI []), .pin 6 0 (env0 0), .rob 1 [.fn 93 [] [.ptr 2 0, .ptr 1 0]] 142, .rob 2 [.val (.int .i64 c2)] 3, .rob 3 [.ref 4] 38, .ro 4 1 (List.map en_int c3)]) [2] [6, 4, 3] (ts_call (avs := [.ref 4, .agg [.val (.slice none 0 0), .val (.int .i64 1)], .ref 0]) (take := [.inv 0 (I1 y1)]) (need := [.ro 4 1 (List.map en_int c3), .rob 2 [.val (.int .i64 c2)] 3, .rob 1 [.fn 93 [] [.ptr 2 0, .ptr 1 0]] 142]) (v := .val (.bool r4.1)) (news := [.inv 0 (I1 r4.2)]) rfl rfl rfl Try.call93 (FT.nil (args := [.ref 4, .agg [.ref 7, .val (.int .i64 1)], .ref 0, .ptr 2 0, .ptr 1 0]) 7 1 (FT.needJ (need := [.ro 7 1 (List.map en_int ([])), .ro 4 1 (List.map en_int c3), .rob 2 [.val (.int .i64 c2)] 3, .rob 1 [.fn 93 [] [.ptr 2 0, .ptr 1 0]] 142]) (need' := [.ro 4 1 (List.map en_int c3), .ro 7 1 (List.map en_int ([])), .rob 2 [.val (.int .i64 c2)] 3, .rob 1 [.fn 93 [] [.ptr 2 0, .ptr 1 0]] 142, .rob 2 [.val (.int .i64 c2)] 3]) [1, 0, 2, 3, 2] ⟨rfl, rfl, rfl, rfl, rfl, trivial⟩ (atT [(0, 4), (1, 7), (2, 0), (3, 2), (4, 1), (5, 2)] [(2, 0)] (ft_train_choose_1 hI1 h1) rfl rfl rfl)) rfl rfl rfl rfl) rfl rfl) trivial rfl ⟨rfl, trivial⟩ ⟨rfl, rfl, rfl, trivial⟩ rfl rfl ?_
  refine TL.nil ?_
  cases h
  exact endM [] 1 5 [0] rfl (.nil) rfl ⟨mem_at 0 rfl, trivial⟩ rfl rfl ⟨⟨_, mem_at 1 rfl⟩, trivial⟩ rfl
/- train_search_exact -/
def ev_train_search_exact_r0 (n : Nat) (x10 : (List Int) × Int) (y11 : (List (Int × ((List ((List Int))))))) : Option (Nat × ((List (Int × ((List ((List Int)))))))) :=
  chk (room 24 (((mlook y11 x10.2).getD []).length + ([x10.1] : List ((List Int))).length)) <| some (0, (mput y11 x10.2 (((mlook y11 x10.2).getD []) ++ ([x10.1] : List ((List Int))))))
set_option maxRecDepth 100000 in
set_option maxHeartbeats 2000000 in
theorem ok_train_search_exact_r0 {n : Nat} {u9 : Value} {u8 : Value} {u7 : Value} {x3 : Int} {x4 : Int} {x1 : List Int} {x2 : List Int} {pairs5 : Int} {x10 : (List Int) × Int} {y11 : (List (Int × ((List ((List Int))))))} {r : Nat × ((List (Int × ((List ((List Int)))))))} (h : ev_train_search_exact_r0 n x10 y11 = some r) (l0 : Nat) (rec : Loop) (hrd : rec.state = .ready) (w0 : World) (M0 R0 : Nat → Prop) : TC Try.prog ⟨w0, M0, R0⟩ ⟨69, some l0, []⟩ (RoundQ ⟨w0, M0, R0⟩ (.inv 16 (recI l0 (busyR rec)) :: [.pin 15 6 u9, .pin 14 4 u8, .pin 13 3 u7, .row 11 57 2 (List.map en_api_Train ([] : List ((List Int) × (List Int)))), .blk 6 [.ref 5] 121, .inv 5 (mapO mk121 38 1 en_Lint r.2 none), .blk 4 [.ref 11] 52, .blk 3 [.ref 0, .ref 1, .val (.int .i64 x3), .val (.int .i64 x4)] 94, .ro 0 1 (List.map en_int x1), .ro 1 1 (List.map en_int x2)]) [] r.1) [.code (sub (bodyOf Try.f60) [1, 1, 0, 1, 0, 0]), .beginRound, .code (sub (bodyOf Try.f60) [1, 1, 0, 1, 0, 1])] (pSlots [16] (ye_functrain_counts_bool x10) [(1, .val (.int .i64 pairs5)), (2, .ptr 3 0), (4, .ptr 4 0), (5, .ptr 6 0)]) (.inv 16 (recI l0 rec) :: yn_functrain_counts_bool x10 ++ (fun y11 : (List (Int × ((List ((List Int)))))) => [.pin 15 6 u9, .pin 14 4 u8, .pin 13 3 u7, .row 11 57 2 (List.map en_api_Train ([] : List ((List Int) × (List Int)))), .blk 6 [.ref 5] 121, .inv 5 (mapO mk121 38 1 en_Lint y11 none), .blk 4 [.ref 11] 52, .blk 3 [.ref 0, .ref 1, .val (.int .i64 x3), .val (.int .i64 x4)] 94, .ro 0 1 (List.map en_int x1), .ro 1 1 (List.map en_int x2)]) y11) := by
  rw [ev_train_search_exact_r0] at h
  refine subJ (s' := [(1, .val (.int .i64 pairs5)), (2, .ptr 3 0), (4, .ptr 4 0), (5, .ptr 6 0), (16, .agg [.ref 17, .val (.int .i64 x10.2)])]) (V' := [.inv 16 (recI l0 rec), .ro 17 1 (List.map en_int x10.1), .pin 15 6 u9, .pin 14 4 u8, .pin 13 3 u7, .row 11 57 2 (List.map en_api_Train ([] : List ((List Int) × (List Int)))), .blk 6 [.ref 5] 121, .inv 5 (mapO mk121 38 1 en_Lint y11 none), .blk 4 [.ref 11] 52, .blk 3 [.ref 0, .ref 1, .val (.int .i64 x3), .val (.int .i64 x4)] 94, .ro 0 1 (List.map en_int x1), .ro 1 1 (List.map en_int x2)]) [(17, 900)] ?_ ⟨rfl, rfl, rfl, rfl, rfl, trivial⟩ ⟨mem_at 0 rfl, mem_at 1 rfl, mem_at 2 rfl, mem_at 3 rfl, mem_at 4 rfl, mem_at 5 rfl, mem_at 6 rfl, mem_at 7 rfl, mem_at 8 rfl, mem_at 9 rfl, mem_at 10 rfl, mem_at 11 rfl, trivial⟩ rfl
  refine TC.region ?_
  refine op0 (sp_alloc 18 rfl Try.zeroValue125 rfl) rfl trivial rfl rfl ?_
  refine stoB 0 (cells' := [.ref 17, .val (.int .i64 x10.2)]) rfl rfl trivial rfl rfl rfl rfl vt125 rfl rfl rfl ?_
  refine TL.nil ?_
  refine TC.beginRound 1 rfl hrd ?_
  refine TC.block ?_
  obtain ⟨h2, h⟩ := chk_inv h
  refine drawJ 11 [⟨.ref 5, [], [.blk 6 [.ref 5] 121], []⟩, ⟨.ptr 18 1, [], [.blk 18 [.ref 17, .val (.int .i64 x10.2)] 125], []⟩, ⟨.val (.int .i64 x10.2), [], [.blk 18 [.ref 17, .val (.int .i64 x10.2)] 125], []⟩, ⟨.ref 5, [], [.blk 6 [.ref 5] 121], []⟩, ⟨.ptr 18 1, [], [.blk 18 [.ref 17, .val (.int .i64 x10.2)] 125], []⟩, ⟨.val (.int .i64 x10.2), [], [.blk 18 [.ref 17, .val (.int .i64 x10.2)] 125], []⟩, ⟨.ref 19, [.inv 5 (mapO mk121 38 1 en_Lint y11 (some x10.2)), .row 19 38 1 (List.map en_Lint ((mlook y11 x10.2).getD []))], [], [.inv 5 (mapO mk121 38 1 en_Lint y11 none)]⟩, ⟨.ptr 18 0, [], [.blk 18 [.ref 17, .val (.int .i64 x10.2)] 125], []⟩, ⟨.ref 17, [], [.blk 18 [.ref 17, .val (.int .i64 x10.2)] 125], []⟩, ⟨.ref 20, [.row 20 38 1 (List.map en_Lint ([x10.1] : List ((List Int))))], [.ro 17 1 (List.map en_int x10.1)], []⟩, ⟨.ref 21, [.row 21 38 1 (List.map en_Lint (((mlook y11 x10.2).getD []) ++ ([x10.1] : List ((List Int)))))], [.row 20 38 1 (List.map en_Lint ([x10.1] : List ((List Int))))], [.row 19 38 1 (List.map en_Lint ((mlook y11 x10.2).getD []))]⟩] rfl ?_ rfl ?_ rfl ?_ ?_
  · kernel_rfl
  · kernel_rfl
  · exact DAll.op' (sp_loadB rfl isBlk rfl vt121 rfl) trivial rfl (From.ok (ps := [(none, 7)]) ⟨⟨rfl, by kernel_rfl⟩, trivial⟩) (DAll.op' (sp_fieldAddrB rfl isBlk rfl ft125_1 vt3 (by decide)) trivial rfl (From.ok (ps := [(none, 0)]) ⟨⟨rfl, by kernel_rfl⟩, trivial⟩) (DAll.op' (sp_loadB rfl isBlk rfl vt3 rfl) trivial rfl (From.ok (ps := [(none, 0)]) ⟨⟨rfl, by kernel_rfl⟩, trivial⟩) (DAll.op' (sp_loadB rfl isBlk rfl vt121 rfl) trivial rfl (From.ok (ps := [(none, 7)]) ⟨⟨rfl, by kernel_rfl⟩, trivial⟩) (DAll.op' (sp_fieldAddrB rfl isBlk rfl ft125_1 vt3 (by decide)) trivial rfl (From.ok (ps := [(none, 0)]) ⟨⟨rfl, by kernel_rfl⟩, trivial⟩) (DAll.op' (sp_loadB rfl isBlk rfl vt3 rfl) trivial rfl (From.ok (ps := [(none, 0)]) ⟨⟨rfl, by kernel_rfl⟩, trivial⟩) (DAll.opT (ts_lookupO (ek := mk121) (E := 38) (size := 1) (en := en_Lint) (xs := y11) 19 x10.2 rfl rfl rfl (fun _ => rfl) km121 Try.zeroValue109 rfl rfl) trivial (From.ok (ps := [(none, 8)]) ⟨⟨rfl, by kernel_rfl⟩, trivial⟩) (From.ok (ps := []) trivial) (DAll.op' (sp_fieldAddrB rfl isBlk rfl ft125_0 vt38 (by decide)) trivial rfl (From.ok (ps := [(none, 0)]) ⟨⟨rfl, by kernel_rfl⟩, trivial⟩) (DAll.op' (sp_loadB rfl isBlk rfl vt38 rfl) trivial rfl (From.ok (ps := [(none, 0)]) ⟨⟨rfl, by kernel_rfl⟩, trivial⟩) (DAll.op' (sp_buildSlice (qs := [.ref 17]) (need := [.ro 17 1 (List.map en_int x10.1)]) (els := List.map en_Lint ([x10.1] : List ((List Int)))) 20 rfl sl109 (by decide) (by decide) rfl rfl rfl (.s (mem_at 0 rfl) (.nil)) (map_len fun _ => rfl) rfl rfl rfl) trivial rfl (From.ok (ps := [(none, 2)]) ⟨⟨rfl, by kernel_rfl⟩, trivial⟩) (DAll.opT (ts_append (N := ((mlook y11 x10.2).getD []).length) (N2 := ([x10.1] : List ((List Int))).length) 21 rfl rfl rfl isOwn rfl sl109 (len_map _ _) (len_map _ _) h2 (map_app _ _ _) rfl) trivial (From.ok (ps := [(some 6, 1)]) ⟨⟨_, rfl, by kernel_rfl, rfl, by kernel_rfl⟩, trivial⟩) (From.ok (ps := [(some 9, 0)]) ⟨⟨_, rfl, by kernel_rfl, rfl, by kernel_rfl⟩, trivial⟩) (.nil)))))))))))
  refine opT (take := [.inv 5 (mapO mk121 38 1 en_Lint y11 (some x10.2)), .row 21 38 1 (List.map en_Lint (((mlook y11 x10.2).getD []) ++ ([x10.1] : List ((List Int)))))]) (need := []) (V' := [.inv 5 (mapO mk121 38 1 en_Lint (mput y11 x10.2 (((mlook y11 x10.2).getD []) ++ ([x10.1] : List ((List Int))))) none), .row 20 38 1 (List.map en_Lint ([x10.1] : List ((List Int)))), .blk 18 [.ref 17, .val (.int .i64 x10.2)] 125, .inv 16 (recI l0 (busyR rec)), .ro 17 1 (List.map en_int x10.1), .pin 15 6 u9, .pin 14 4 u8, .pin 13 3 u7, .row 11 57 2 (List.map en_api_Train ([] : List ((List Int) × (List Int)))), .blk 6 [.ref 5] 121, .blk 4 [.ref 11] 52, .blk 3 [.ref 0, .ref 1, .val (.int .i64 x3), .val (.int .i64 x4)] 94, .ro 0 1 (List.map en_int x1), .ro 1 1 (List.map en_int x2)]) [2, 0] [] (ts_mapPutO (ek := mk121) (en := en_Lint) (xs := y11) (ys := (mput y11 x10.2 (((mlook y11 x10.2).getD []) ++ ([x10.1] : List ((List Int)))))) x10.2 (((mlook y11 x10.2).getD []) ++ ([x10.1] : List ((List Int)))) rfl rfl rfl (fun _ => rfl) rfl km121 rfl rfl (fun _ => .refl _)) trivial rfl ⟨rfl, rfl, trivial⟩ trivial rfl rfl ?_
  refine TL.nil ?_
  refine TC.inBlock ?_
  cases h
  exact bodyEnd [] ⟨mem_at 3 rfl, mem_at 5 rfl, mem_at 6 rfl, mem_at 7 rfl, mem_at 8 rfl, mem_at 9 rfl, mem_at 0 rfl, mem_at 10 rfl, mem_at 11 rfl, mem_at 12 rfl, mem_at 13 rfl, trivial⟩ rfl
def ev_train_search_exact_l2 (n : Nat) (q12 : (((List (Int × ((List ((List Int))))))) × Nat)) (x17 : (List Int) × Int) (y18 : (List ((List Int) × (List Int))) × Int × Int) : Nat → Int → Int → Int → Int → (List ((List Int) × (List Int))) → Option (Nat × ((List ((List Int) × (List Int))) × Int × Int))
  | 0, _, _, _, _, _ => none
  | m + 1, i19, i20, i21, i22, l23 => cond (decide (i19 < (((mlook q12.1 ((Int.tdiv x17.2 y18.2.1) * y18.2.2)).getD ([])).length : Int))) (idx ((mlook q12.1 ((Int.tdiv x17.2 y18.2.1) * y18.2.2)).getD ([])) i19 fun x24 => (ev_slices_Clone_Lint_int n x17.1).bind fun r29 => (ev_slices_Clone_Lint_int n x24).bind fun r30 => chk (room 48 (l23.length + ([(r29, r30)] : List ((List Int) × (List Int))).length)) <| chk (in64 (i19 + 1)) <| ev_train_search_exact_l2 n q12 x17 y18 m (i19 + 1) i20 i21 i22 (l23 ++ ([(r29, r30)] : List ((List Int) × (List Int))))) (some (0, (l23, i21, i22)))
set_option maxRecDepth 100000 in
set_option maxHeartbeats 2000000 in
theorem ok_train_search_exact_l2 {n : Nat} {w0 : World} {M0 R0 : Nat → Prop} {l0 : Nat} {rec : Loop} {r : Nat × ((List ((List Int) × (List Int))) × Int × Int)} {u16 : Value} {u15 : Value} {u14 : Value} {q12 : (((List (Int × ((List ((List Int))))))) × Nat)} {x1 : List Int} {x2 : List Int} {x17 : (List Int) × Int} {y18 : (List ((List Int) × (List Int))) × Int × Int} : ∀ (m : Nat) (i19 : Int) (i20 : Int) (i21 : Int) (i22 : Int) (l23 : List ((List Int) × (List Int))), ev_train_search_exact_l2 n q12 x17 y18 m i19 i20 i21 i22 l23 = some r → TC Try.prog ⟨w0, M0, R0⟩ ⟨69, some l0, []⟩ (RoundQ ⟨w0, M0, R0⟩ (.inv 30 (recI l0 rec) :: [.pin 29 6 u16, .pin 28 4 u15, .pin 27 3 u14, .row 11 57 2 (List.map en_api_Train r.2.1), .blk 6 [.ref 5] 121, .any 5 (mapI mk121 false en_LLint q12.1).froz, .blk 4 [.ref 11] 52, .blk 3 [.ref 0, .ref 1, .val (.int .i64 r.2.2.1), .val (.int .i64 r.2.2.2)] 94, .ro 0 1 (List.map en_int x1), .ro 1 1 (List.map en_int x2)]) [] r.1) [.code (sub (bodyOf Try.f60) [1, 1, 1, 0, 1, 0, 1, 0, 1, 1, 0, 0, 0]), .code (sub (bodyOf Try.f60) [1, 1, 1, 0, 1, 0, 1, 0, 1, 1, 0, 0, 1]), .inLoop (sub (bodyOf Try.f60) [1, 1, 1, 0, 1, 0, 1, 0, 1, 1, 0, 0]), .inBlock 4, .inBlock 3] ([(4, .ptr 4 0), (7, .ptr 32 0), (52, .ref 33), (53, .val (.int .i64 (((mlook q12.1 ((Int.tdiv x17.2 y18.2.1) * y18.2.2)).getD ([])).length : Int))), (54, .val (.int .i64 i19))]) ([.blk 4 [.ref 11] 52, .blk 32 [.ref 31, .val (.int .i64 i20)] 125, .ro 33 1 (List.map en_Lint ((mlook q12.1 ((Int.tdiv x17.2 y18.2.1) * y18.2.2)).getD ([]))), .blk 6 [.ref 5] 121, .blk 3 [.ref 0, .ref 1, .val (.int .i64 i21), .val (.int .i64 i22)] 94, .row 11 57 2 (List.map en_api_Train l23), .ro 31 1 (List.map en_int x17.1), .any 5 (mapI mk121 false en_LLint q12.1).froz, .ro 0 1 (List.map en_int x1), .ro 1 1 (List.map en_int x2), .inv 30 (recI l0 rec), .pin 29 6 u16, .pin 28 4 u15, .pin 27 3 u14]) := by
  intro m
  induction m with
  | zero => intro i19 i20 i21 i22 l23 h; exact none_no h
  | succ m ih =>
    intro i19 i20 i21 i22 l23 h
    rw [ev_train_search_exact_l2] at h
    refine TC.region ?_
    refine op0 (sp_lss rfl rfl rfl) rfl trivial rfl rfl ?_
    refine TL.nil ?_
    refine TC.seq ?_
    refine TC.cond (b := (decide (i19 < (((mlook q12.1 ((Int.tdiv x17.2 y18.2.1) * y18.2.2)).getD ([])).length : Int)))) rfl (fun h11 => ?_) (fun h11 => ?_)
    · have h := cond_t h h11
      refine TC.skip ?_
      refine TC.seq ?_
      refine TC.block ?_
      refine TC.seq ?_
      refine TC.region ?_
      obtain ⟨x24, h12, h13, h⟩ := idx_inv h
      refine op1 2 rfl (sp_indexS rfl rfl rfl isRo sl109 h12 (map_get _ h13)) rfl trivial rfl rfl ?_
      refine op1 2 rfl (sp_loadR (i := (i19 : Int).toNat) (j := 0) (ns := [.ro 34 1 (List.map en_int x24)]) rfl rfl isRo vt38 rfl (map_get _ h13) rfl (.s (.nil)) (nodup_of_B rfl)) rfl trivial rfl rfl ?_
      refine op0 (sp_assign rfl rfl) rfl trivial rfl rfl ?_
      refine TL.nil ?_
      obtain ⟨r29, h18, h⟩ := bind_inv h
      obtain ⟨r30, h19, h⟩ := bind_inv h
      refine drawJ 8 [⟨.ref 11, [], [.blk 4 [.ref 11] 52], []⟩, ⟨.ptr 32 0, [], [.blk 32 [.ref 31, .val (.int .i64 i20)] 125], []⟩, ⟨.ref 31, [], [.blk 32 [.ref 31, .val (.int .i64 i20)] 125], []⟩, ⟨.ref 41, [.ro 41 1 (List.map en_int r29)], [.ro 31 1 (List.map en_int x17.1)], []⟩, ⟨.ref 34, [], [], []⟩, ⟨.ref 42, [.ro 42 1 (List.map en_int r30)], [.ro 34 1 (List.map en_int x24)], []⟩, ⟨.agg [.ref 41, .ref 42], [], [], []⟩, ⟨.ref 43, [.row 43 57 2 (List.map en_api_Train ([(r29, r30)] : List ((List Int) × (List Int))))], [.ro 41 1 (List.map en_int r29), .ro 42 1 (List.map en_int r30)], []⟩] rfl ?_ rfl ?_ rfl ?_ ?_
      · kernel_rfl
      · kernel_rfl
      · exact DAll.op' (sp_loadB rfl isBlk rfl vt52 rfl) trivial rfl (From.ok (ps := [(none, 1)]) ⟨⟨rfl, rfl⟩, trivial⟩) (DAll.op' (sp_fieldAddrB rfl isBlk rfl ft125_0 vt38 (by decide)) trivial rfl (From.ok (ps := [(none, 2)]) ⟨⟨rfl, rfl⟩, trivial⟩) (DAll.op' (sp_loadB rfl isBlk rfl vt38 rfl) trivial rfl (From.ok (ps := [(none, 2)]) ⟨⟨rfl, rfl⟩, trivial⟩) (DAll.op' (OpSpec.froz (news := [.row 41 3 1 (List.map en_int r29)]) 0 rfl (sp_call (avs := [.ref 31]) (need := [.ro 31 1 (List.map en_int x17.1)]) (v := .ref 41) (news := [.row 41 3 1 (List.map en_int r29)]) rfl rfl rfl Try.call52 (atJ [(0, 31)] [(0, 41)] (fc_slices_Clone_Lint_int h18) rfl rfl) (.inl (roAll rfl)))) trivial rfl (From.ok (ps := [(none, 7)]) ⟨⟨rfl, rfl⟩, trivial⟩) (DAll.op' (sp_move rfl rfl) trivial rfl (From.ok (ps := []) trivial) (DAll.op' (OpSpec.froz (news := [.row 42 3 1 (List.map en_int r30)]) 0 rfl (sp_call (avs := [.ref 34]) (need := [.ro 34 1 (List.map en_int x24)]) (v := .ref 42) (news := [.row 42 3 1 (List.map en_int r30)]) rfl rfl rfl Try.call52 (atJ [(0, 34)] [(0, 42)] (fc_slices_Clone_Lint_int h19) rfl rfl) (.inl (roAll rfl)))) trivial rfl (From.ok (ps := [(none, 0)]) ⟨⟨rfl, rfl⟩, trivial⟩) (DAll.op' (sp_build (qs := [(0, .ref 41), (1, .ref 42)]) rfl bt57 rfl rfl rfl rfl) trivial rfl (From.ok (ps := []) trivial) (DAll.op' (sp_buildSlice (qs := [.agg [.ref 41, .ref 42]]) (need := [.ro 41 1 (List.map en_int r29), .ro 42 1 (List.map en_int r30)]) (els := List.map en_api_Train ([(r29, r30)] : List ((List Int) × (List Int)))) 43 rfl sl52 (by decide) (by decide) rfl rfl rfl (.s (mem_at 0 rfl) (.s (mem_at 1 rfl) (.nil))) (map_len fun _ => rfl) rfl rfl rfl) trivial rfl (From.ok (ps := [(some 3, 0), (some 5, 0)]) ⟨⟨_, rfl, rfl, rfl, rfl⟩, ⟨_, rfl, rfl, rfl, rfl⟩, trivial⟩) (.nil))))))))
      obtain ⟨h20, h⟩ := chk_inv h
      refine appM 9 0 (N := l23.length) (N2 := ([(r29, r30)] : List ((List Int) × (List Int))).length) 44 rfl rfl trivial rfl rfl rfl rfl rfl isOwn rfl sl52 (len_map _ _) (len_map _ _) h20 (map_app _ _ _) rfl ?_
      refine stoB 5 (cells' := [.ref 44]) rfl rfl trivial rfl rfl rfl rfl vt52 rfl rfl rfl ?_
      refine TL.nil ?_
      refine TC.inBlock ?_
      refine TC.region ?_
      obtain ⟨h21, h⟩ := chk_inv h
      refine op0 (sp_add rfl rfl rfl h21) rfl trivial rfl rfl ?_
      refine op0 (sp_move rfl rfl) rfl trivial rfl rfl ?_
      refine TL.nil ?_
      refine TC.inLoop ?_
      refine TC.seq ?_
      refine subJ [(11, 44)] (ih _ _ _ _ _ h) ?_ ?_ ?_
      · exact ⟨rfl, rfl, rfl, rfl, rfl, trivial⟩
      · exact ⟨mem_at 5 rfl, mem_at 6 rfl, mem_at 7 rfl, mem_at 8 rfl, mem_at 9 rfl, mem_at 0 rfl, mem_at 10 rfl, mem_at 11 rfl, mem_at 12 rfl, mem_at 13 rfl, mem_at 14 rfl, mem_at 15 rfl, mem_at 16 rfl, mem_at 17 rfl, trivial⟩
      · rfl
    · have h := cond_f h h11
      refine TC.exit rfl ?_
      refine TC.inBlock ?_
      cases h
      exact bodyEnd [] ⟨mem_at 10 rfl, mem_at 11 rfl, mem_at 12 rfl, mem_at 13 rfl, mem_at 5 rfl, mem_at 3 rfl, mem_at 7 rfl, mem_at 0 rfl, mem_at 4 rfl, mem_at 8 rfl, mem_at 9 rfl, trivial⟩ rfl
def ev_train_search_exact_r1 (n : Nat) (q12 : (((List (Int × ((List ((List Int))))))) × Nat)) (x17 : (List Int) × Int) (y18 : (List ((List Int) × (List Int))) × Int × Int) : Option (Nat × ((List ((List Int) × (List Int))) × Int × Int)) :=
  chk (y18.2.1 != 0) <| cond (decide ((0 : Int) < (Int.tmod x17.2 y18.2.1))) (some (0, (y18.1, y18.2.1, y18.2.2))) (chk (y18.2.1 != 0) <| chk (in64 (Int.tdiv x17.2 y18.2.1)) <| chk (in64 ((Int.tdiv x17.2 y18.2.1) * y18.2.2)) <| ev_train_search_exact_l2 n q12 x17 y18 n 0 x17.2 y18.2.1 y18.2.2 y18.1)
set_option maxRecDepth 100000 in
set_option maxHeartbeats 2000000 in
theorem ok_train_search_exact_r1 {n : Nat} {u16 : Value} {u15 : Value} {u14 : Value} {q12 : (((List (Int × ((List ((List Int))))))) × Nat)} {x1 : List Int} {x2 : List Int} {x17 : (List Int) × Int} {y18 : (List ((List Int) × (List Int))) × Int × Int} {r : Nat × ((List ((List Int) × (List Int))) × Int × Int)} (h : ev_train_search_exact_r1 n q12 x17 y18 = some r) (l0 : Nat) (rec : Loop) (hrd : rec.state = .ready) (w0 : World) (M0 R0 : Nat → Prop) : TC Try.prog ⟨w0, M0, R0⟩ ⟨69, some l0, []⟩ (RoundQ ⟨w0, M0, R0⟩ (.inv 30 (recI l0 (busyR rec)) :: [.pin 29 6 u16, .pin 28 4 u15, .pin 27 3 u14, .row 11 57 2 (List.map en_api_Train r.2.1), .blk 6 [.ref 5] 121, .any 5 (mapI mk121 false en_LLint q12.1).froz, .blk 4 [.ref 11] 52, .blk 3 [.ref 0, .ref 1, .val (.int .i64 r.2.2.1), .val (.int .i64 r.2.2.2)] 94, .ro 0 1 (List.map en_int x1), .ro 1 1 (List.map en_int x2)]) [] r.1) [.code (sub (bodyOf Try.f60) [1, 1, 1, 0, 1, 0, 0]), .beginRound, .code (sub (bodyOf Try.f60) [1, 1, 1, 0, 1, 0, 1])] (pSlots [33] (ye_functrain_counts_bool x17) [(2, .ptr 3 0), (4, .ptr 4 0), (5, .ptr 6 0)]) (.inv 30 (recI l0 rec) :: yn_functrain_counts_bool x17 ++ (fun y18 : (List ((List Int) × (List Int))) × Int × Int => [.pin 29 6 u16, .pin 28 4 u15, .pin 27 3 u14, .row 11 57 2 (List.map en_api_Train y18.1), .blk 6 [.ref 5] 121, .any 5 (mapI mk121 false en_LLint q12.1).froz, .blk 4 [.ref 11] 52, .blk 3 [.ref 0, .ref 1, .val (.int .i64 y18.2.1), .val (.int .i64 y18.2.2)] 94, .ro 0 1 (List.map en_int x1), .ro 1 1 (List.map en_int x2)]) y18) := by
  rw [ev_train_search_exact_r1] at h
  refine subJ (s' := [(2, .ptr 3 0), (4, .ptr 4 0), (5, .ptr 6 0), (33, .agg [.ref 31, .val (.int .i64 x17.2)])]) (V' := [.inv 30 (recI l0 rec), .ro 31 1 (List.map en_int x17.1), .pin 29 6 u16, .pin 28 4 u15, .pin 27 3 u14, .row 11 57 2 (List.map en_api_Train y18.1), .blk 6 [.ref 5] 121, .any 5 (mapI mk121 false en_LLint q12.1).froz, .blk 4 [.ref 11] 52, .blk 3 [.ref 0, .ref 1, .val (.int .i64 y18.2.1), .val (.int .i64 y18.2.2)] 94, .ro 0 1 (List.map en_int x1), .ro 1 1 (List.map en_int x2)]) [(31, 900)] ?_ ⟨rfl, rfl, rfl, rfl, trivial⟩ ⟨mem_at 0 rfl, mem_at 1 rfl, mem_at 2 rfl, mem_at 3 rfl, mem_at 4 rfl, mem_at 5 rfl, mem_at 6 rfl, mem_at 7 rfl, mem_at 8 rfl, mem_at 9 rfl, mem_at 10 rfl, mem_at 11 rfl, trivial⟩ rfl
  refine TC.region ?_
  refine op0 (sp_alloc 32 rfl Try.zeroValue125 rfl) rfl trivial rfl rfl ?_
  refine stoB 0 (cells' := [.ref 31, .val (.int .i64 x17.2)]) rfl rfl trivial rfl rfl rfl rfl vt125 rfl rfl rfl ?_
  refine TL.nil ?_
  refine TC.beginRound 1 rfl hrd ?_
  refine TC.block ?_
  refine TC.seq ?_
  refine TC.seq ?_
  refine TC.region ?_
  refine op1 0 rfl (sp_fieldAddrB rfl isBlk rfl ft125_1 vt3 (by decide)) rfl trivial rfl rfl ?_
  refine op1 0 rfl (sp_loadB rfl isBlk rfl vt3 rfl) rfl trivial rfl rfl ?_
  refine op1 10 rfl (sp_fieldAddrB rfl isBlk rfl ft94_1 vt26 (by decide)) rfl trivial rfl rfl ?_
  refine op1 10 rfl (sp_fieldAddrB rfl isBlk rfl ft26_0 vt3 (by decide)) rfl trivial rfl rfl ?_
  refine op1 10 rfl (sp_loadB rfl isBlk rfl vt3 rfl) rfl trivial rfl rfl ?_
  obtain ⟨h6, h⟩ := chk_inv h
  refine op0 (sp_rem rfl rfl rfl h6) rfl trivial rfl rfl ?_
  refine op0 (sp_gtr rfl rfl rfl) rfl trivial rfl rfl ?_
  refine TL.nil ?_
  refine TC.cond (b := (decide ((0 : Int) < (Int.tmod x17.2 y18.2.1)))) rfl (fun h7 => ?_) (fun h7 => ?_)
  · have h := cond_t h h7
    refine TC.exit rfl ?_
    cases h
    exact bodyEnd [] ⟨mem_at 1 rfl, mem_at 3 rfl, mem_at 4 rfl, mem_at 5 rfl, mem_at 6 rfl, mem_at 7 rfl, mem_at 8 rfl, mem_at 9 rfl, mem_at 10 rfl, mem_at 11 rfl, mem_at 12 rfl, trivial⟩ rfl
  · have h := cond_f h h7
    refine TC.skip ?_
    refine TC.seq ?_
    obtain ⟨h8, h⟩ := chk_inv h
    obtain ⟨h9, h⟩ := chk_inv h
    obtain ⟨h10, h⟩ := chk_inv h
    refine drawJ 14 [⟨.ref 5, [], [.blk 6 [.ref 5] 121], []⟩, ⟨.ptr 32 1, [], [.blk 32 [.ref 31, .val (.int .i64 x17.2)] 125], []⟩, ⟨.val (.int .i64 x17.2), [], [.blk 32 [.ref 31, .val (.int .i64 x17.2)] 125], []⟩, ⟨.ptr 3 2, [], [.blk 3 [.ref 0, .ref 1, .val (.int .i64 y18.2.1), .val (.int .i64 y18.2.2)] 94], []⟩, ⟨.ptr 3 2, [], [.blk 3 [.ref 0, .ref 1, .val (.int .i64 y18.2.1), .val (.int .i64 y18.2.2)] 94], []⟩, ⟨.val (.int .i64 y18.2.1), [], [.blk 3 [.ref 0, .ref 1, .val (.int .i64 y18.2.1), .val (.int .i64 y18.2.2)] 94], []⟩, ⟨.val (.int .i64 (Int.tdiv x17.2 y18.2.1)), [], [], []⟩, ⟨.ptr 3 2, [], [.blk 3 [.ref 0, .ref 1, .val (.int .i64 y18.2.1), .val (.int .i64 y18.2.2)] 94], []⟩, ⟨.ptr 3 3, [], [.blk 3 [.ref 0, .ref 1, .val (.int .i64 y18.2.1), .val (.int .i64 y18.2.2)] 94], []⟩, ⟨.val (.int .i64 y18.2.2), [], [.blk 3 [.ref 0, .ref 1, .val (.int .i64 y18.2.1), .val (.int .i64 y18.2.2)] 94], []⟩, ⟨.val (.int .i64 ((Int.tdiv x17.2 y18.2.1) * y18.2.2)), [], [], []⟩, ⟨.ref 33, [.ro 33 1 (List.map en_Lint ((mlook q12.1 ((Int.tdiv x17.2 y18.2.1) * y18.2.2)).getD ([])))], [.any 5 (mapI mk121 false en_LLint q12.1).froz], []⟩, ⟨.val (.int .i64 (((mlook q12.1 ((Int.tdiv x17.2 y18.2.1) * y18.2.2)).getD ([])).length : Int)), [], [.ro 33 1 (List.map en_Lint ((mlook q12.1 ((Int.tdiv x17.2 y18.2.1) * y18.2.2)).getD ([])))], []⟩, ⟨.val (.int .i64 0), [], [], []⟩] rfl ?_ rfl ?_ rfl ?_ ?_
    · kernel_rfl
    · kernel_rfl
    · exact DAll.op' (sp_loadB rfl isBlk rfl vt121 rfl) trivial rfl (From.ok (ps := [(none, 7)]) ⟨⟨rfl, rfl⟩, trivial⟩) (DAll.op' (sp_fieldAddrB rfl isBlk rfl ft125_1 vt3 (by decide)) trivial rfl (From.ok (ps := [(none, 0)]) ⟨⟨rfl, rfl⟩, trivial⟩) (DAll.op' (sp_loadB rfl isBlk rfl vt3 rfl) trivial rfl (From.ok (ps := [(none, 0)]) ⟨⟨rfl, rfl⟩, trivial⟩) (DAll.op' (sp_fieldAddrB rfl isBlk rfl ft94_1 vt26 (by decide)) trivial rfl (From.ok (ps := [(none, 10)]) ⟨⟨rfl, rfl⟩, trivial⟩) (DAll.op' (sp_fieldAddrB rfl isBlk rfl ft26_0 vt3 (by decide)) trivial rfl (From.ok (ps := [(none, 10)]) ⟨⟨rfl, rfl⟩, trivial⟩) (DAll.op' (sp_loadB rfl isBlk rfl vt3 rfl) trivial rfl (From.ok (ps := [(none, 10)]) ⟨⟨rfl, rfl⟩, trivial⟩) (DAll.op' (sp_quo rfl rfl rfl h8 h9) trivial rfl (From.ok (ps := []) trivial) (DAll.op' (sp_fieldAddrB rfl isBlk rfl ft94_1 vt26 (by decide)) trivial rfl (From.ok (ps := [(none, 10)]) ⟨⟨rfl, rfl⟩, trivial⟩) (DAll.op' (sp_fieldAddrB rfl isBlk rfl ft26_1 vt3 (by decide)) trivial rfl (From.ok (ps := [(none, 10)]) ⟨⟨rfl, rfl⟩, trivial⟩) (DAll.op' (sp_loadB rfl isBlk rfl vt3 rfl) trivial rfl (From.ok (ps := [(none, 10)]) ⟨⟨rfl, rfl⟩, trivial⟩) (DAll.op' (sp_mul rfl rfl rfl h10) trivial rfl (From.ok (ps := []) trivial) (DAll.op' (sp_lookup (cm := false) (v := .ref 33) (ns := [.ro 33 1 (List.map en_Lint ((mlook q12.1 ((Int.tdiv x17.2 y18.2.1) * y18.2.2)).getD ([])))]) ((Int.tdiv x17.2 y18.2.1) * y18.2.2) ([]) rfl rfl rfl (fun _ => rfl) isMapR km121 Try.zeroValue109 (fun W R => zok (ZL.s (ZL.nil)) rfl rfl W R) (.s (.nil)) rfl rfl) trivial rfl (From.ok (ps := [(none, 8)]) ⟨⟨rfl, rfl⟩, trivial⟩) (DAll.op' (sp_lenM (N := ((mlook q12.1 ((Int.tdiv x17.2 y18.2.1) * y18.2.2)).getD ([])).length) (len_map _ _) rfl rfl isRo Try.underlying109) trivial rfl (From.ok (ps := [(some 11, 0)]) ⟨⟨_, rfl, rfl, rfl, rfl⟩, trivial⟩) (DAll.op' (sp_move rfl rfl) trivial rfl (From.ok (ps := []) trivial) (.nil))))))))))))))
    refine TL.nil ?_
    refine TC.block ?_
    refine TC.loop ?_
    refine TC.seq ?_
    refine subJ [] (ok_train_search_exact_l2 (u16 := u16) (u15 := u15) (u14 := u14) (x1 := x1) (x2 := x2) _ _ _ _ _ _ h) ?_ ?_ ?_
    · exact ⟨rfl, rfl, rfl, rfl, rfl, trivial⟩
    · exact ⟨mem_at 10 rfl, mem_at 1 rfl, mem_at 0 rfl, mem_at 8 rfl, mem_at 11 rfl, mem_at 7 rfl, mem_at 3 rfl, mem_at 9 rfl, mem_at 12 rfl, mem_at 13 rfl, mem_at 2 rfl, mem_at 4 rfl, mem_at 5 rfl, mem_at 6 rfl, trivial⟩
    · rfl
def ev_train_search_exact (n : Nat) (x1 : List Int) (x2 : List Int) (x3 : Int) (x4 : Int) (pairs5 : Int) : Option ((List ((List Int) × (List Int)))) :=
  (ev_train_choose n x2 pairs5).bind fun r6 => (ev_train_choose_2 (loopStep (ev_train_search_exact_r0 n)) n (([] : List (Int × ((List ((List Int)))))), 0) r6.1 r6.2).bind fun q12 => cond (q12.2 == 0) ((ev_train_choose n x1 pairs5).bind fun r13 => (ev_train_choose_2 (loopStep (ev_train_search_exact_r1 n q12)) n ((([] : List ((List Int) × (List Int))), x3, x4), 0) r13.1 r13.2).bind fun q31 => cond (q31.2 == 0) (some q31.1.1) (none)) (none)
set_option maxRecDepth 100000 in
set_option maxHeartbeats 2000000 in
theorem ft_train_search_exact {n : Nat} {x1 : List Int} {x2 : List Int} {x3 : Int} {x4 : Int} {pairs5 : Int} {r : (List ((List Int) × (List Int)))} (h : ev_train_search_exact n x1 x2 x3 x4 pairs5 = some r) : FT Try.prog 60 [.agg [.ref 0, .ref 1, .val (.int .i64 x3), .val (.int .i64 x4)], .val (.int .i64 pairs5)] [] [.ro 0 1 (List.map en_int x1), .ro 1 1 (List.map en_int x2)] (.ref 500) [.row 500 57 2 (List.map en_api_Train r)] := by
  refine introM (nz := 69) 2 [] Try.func60 rfl rfl rfl rfl (fun w0 M0 R0 env0 => ?_)
  rw [ev_train_search_exact] at h
  refine TC.seq ?_
  refine TC.region ?_
  refine op0 (sp_box 3 rfl rfl rfl rfl rfl) rfl trivial rfl rfl ?_
  refine op0 (sp_alloc 4 rfl Try.zeroValue52 rfl) rfl trivial rfl rfl ?_
  refine TL.nil ?_
  refine TC.seq ?_
  refine TC.region ?_
  refine op0 (sp_makeMapO (ek := mk121) (E := 38) (size := 1) (en := en_Lint) 5 ([] : List (Int × ((List ((List Int)))))) rfl rfl) rfl trivial rfl rfl ?_
  refine op0 (sp_alloc 6 rfl Try.zeroValue121 rfl) rfl trivial rfl rfl ?_
  refine stoB 0 (cells' := [.ref 5]) rfl rfl trivial rfl rfl rfl rfl vt121 rfl rfl rfl ?_
  refine TL.nil ?_
  refine TC.seq ?_
  refine TC.seq ?_
  refine TC.region ?_
  refine op1 3 rfl (sp_fieldAddrB rfl isBlk rfl ft94_0 vt40 (by decide)) rfl trivial rfl rfl ?_
  refine op1 3 rfl (sp_fieldAddrB rfl isBlk rfl ft40_1 vt38 (by decide)) rfl trivial rfl rfl ?_
  refine op1 3 rfl (sp_loadB rfl isBlk rfl vt38 rfl) rfl trivial rfl rfl ?_
  refine op0 (sp_move rfl rfl) rfl trivial rfl rfl ?_
  obtain ⟨r6, h1, h⟩ := bind_inv h
  refine op1 6 rfl (sp_call (avs := [.ref 1, .val (.int .i64 pairs5)]) (need := [.ro 1 1 (List.map en_int x2)]) (v := .fn 95 [] [.ptr 7 0, .ptr 9 0]) (news := [.blk 7 [.fn 93 [] [.ptr 8 0, .ptr 7 0]] 142, .blk 8 [.val (.int .i64 r6.1)] 3, .blk 9 [.ref 10] 38, .ro 10 1 (List.map en_int r6.2)]) rfl rfl rfl Try.call76 (atJ [(0, 1)] [(0, 7), (1, 8), (2, 9), (3, 10)] (fc_train_choose h1) rfl rfl) (.inl (roAll rfl))) rfl trivial rfl rfl ?_
  refine TL.nil ?_
  refine TC.block ?_
  refine nilCellC 6 11 57 2 4 (List.map en_api_Train []) [.ref 11] rfl rfl rfl ?_
  refine TC.freeze 1 rfl ?_
  refine TC.freeze 2 rfl ?_
  refine TC.freeze 3 rfl ?_
  refine TC.pin 13 3 rfl rfl fun u7 => ?_
  refine TC.pin 14 4 rfl rfl fun u8 => ?_
  refine TC.pin 15 6 rfl rfl fun u9 => ?_
  obtain ⟨q12, h3, h⟩ := bind_inv h
  refine rangeO (T := []) (T' := []) (k := 12) (gm := 2) (grec := 16) (S := [(1, .val (.int .i64 pairs5)), (2, .ptr 3 0), (4, .ptr 4 0), (5, .ptr 6 0)]) (V0 := (fun y11 : (List (Int × ((List ((List Int)))))) => [.pin 15 6 u9, .pin 14 4 u8, .pin 13 3 u7, .row 11 57 2 (List.map en_api_Train ([] : List ((List Int) × (List Int)))), .blk 6 [.ref 5] 121, .inv 5 (mapO mk121 38 1 en_Lint y11 none), .blk 4 [.ref 11] 52, .blk 3 [.ref 0, .ref 1, .val (.int .i64 x3), .val (.int .i64 x4)] 94, .ro 0 1 (List.map en_int x1), .ro 1 1 (List.map en_int x2)])) (needI := [.rob 7 [.fn 93 [] [.ptr 8 0, .ptr 7 0]] 142, .rob 8 [.val (.int .i64 r6.1)] 3, .rob 9 [.ref 10] 38, .ro 10 1 (List.map en_int r6.2)]) (ps := [16]) (jl := []) (ea := ye_functrain_counts_bool) (en := yn_functrain_counts_bool) (f := (ev_train_search_exact_r0 n)) (s0 := (([] : List (Int × ((List ((List Int)))))), 0)) (yf := q12) (v := .tup []) (fi := []) (caps := [.ptr 7 0, .ptr 9 0])
    ⟨fun x y r hr l rec hrd w0 M0 R0 => ok_train_search_exact_r0 (u9 := u9) (u8 := u8) (u7 := u7) (x3 := x3) (x4 := x4) (x1 := x1) (x2 := x2) (pairs5 := pairs5) hr l rec hrd w0 M0 R0, ⟨rfl, rfl, rfl, rfl, trivial⟩, At.mem (is := [0, 1, 2, 3, 8, 9, 10, 11, 13, 14]) ⟨rfl, rfl, rfl, rfl, rfl, rfl, rfl, rfl, rfl, rfl, trivial⟩, At.mem (is := [4, 5, 6, 7]) ⟨rfl, rfl, rfl, rfl, trivial⟩, rfl, pinsIn [3, 4, 6] [2, 1, 0] ⟨⟨_, _, fun _ => rfl⟩, ⟨_, _, fun _ => rfl⟩, ⟨_, _, fun _ => rfl⟩, trivial⟩ rfl, rfl, fun _ => rfl, fun _ _ => rfl, fun _ => rfl, fun _ _ => rfl, fun _ => rfl, fun _ => rfl, fun _ => rfl, rfl, rfl, fun _ => rfl, rfl⟩
    rfl rfl Try.call95 (takesNil rfl) 12 rfl (fun I hI => atT [(0, 12), (1, 7), (2, 8), (3, 9), (4, 10)] [(0, 12)] (ft_train_choose_2 hI h3) rfl rfl rfl) (fun d => ?_)
  rcases cond_cases h with ⟨h4, h⟩ | ⟨h4, h⟩
  · refine done0 h4 ?_
    refine TC.inBlock ?_
    refine TC.seq ?_
    refine TC.seq ?_
    refine TC.region ?_
    refine op1 8 rfl (sp_fieldAddrB rfl isBlk rfl ft94_0 vt40 (by decide)) rfl trivial rfl rfl ?_
    refine op1 8 rfl (sp_fieldAddrB rfl isBlk rfl ft40_0 vt38 (by decide)) rfl trivial rfl rfl ?_
    refine op1 8 rfl (sp_loadB rfl isBlk rfl vt38 rfl) rfl trivial rfl rfl ?_
    refine op0 (sp_move rfl rfl) rfl trivial rfl rfl ?_
    obtain ⟨r13, h5, h⟩ := bind_inv h
    refine op1 9 rfl (sp_call (avs := [.ref 0, .val (.int .i64 pairs5)]) (need := [.ro 0 1 (List.map en_int x1)]) (v := .fn 95 [] [.ptr 22 0, .ptr 24 0]) (news := [.blk 22 [.fn 93 [] [.ptr 23 0, .ptr 22 0]] 142, .blk 23 [.val (.int .i64 r13.1)] 3, .blk 24 [.ref 25] 38, .ro 25 1 (List.map en_int r13.2)]) rfl rfl rfl Try.call76 (atJ [] [(0, 22), (1, 23), (2, 24), (3, 25)] (fc_train_choose h5) rfl rfl) (.inl (roAll rfl))) rfl trivial rfl rfl ?_
    refine TL.nil ?_
    refine TC.block ?_
    refine TC.freeze 0 rfl ?_
    refine TC.freeze 1 rfl ?_
    refine TC.freeze 2 rfl ?_
    refine TC.freezeO (ev := en_LLint) 10 rfl (fun _ => rfl) ?_
    refine TC.pin 27 3 rfl rfl fun u14 => ?_
    refine TC.pin 28 4 rfl rfl fun u15 => ?_
    refine TC.pin 29 6 rfl rfl fun u16 => ?_
    obtain ⟨q31, h22, h⟩ := bind_inv h
    refine rangeO (T := []) (T' := []) (k := 26) (gm := 2) (grec := 30) (S := [(2, .ptr 3 0), (4, .ptr 4 0), (5, .ptr 6 0)]) (V0 := (fun y18 : (List ((List Int) × (List Int))) × Int × Int => [.pin 29 6 u16, .pin 28 4 u15, .pin 27 3 u14, .row 11 57 2 (List.map en_api_Train y18.1), .blk 6 [.ref 5] 121, .any 5 (mapI mk121 false en_LLint q12.1).froz, .blk 4 [.ref 11] 52, .blk 3 [.ref 0, .ref 1, .val (.int .i64 y18.2.1), .val (.int .i64 y18.2.2)] 94, .ro 0 1 (List.map en_int x1), .ro 1 1 (List.map en_int x2)])) (needI := [.rob 22 [.fn 93 [] [.ptr 23 0, .ptr 22 0]] 142, .rob 23 [.val (.int .i64 r13.1)] 3, .rob 24 [.ref 25] 38, .ro 25 1 (List.map en_int r13.2)]) (ps := [33]) (jl := []) (ea := ye_functrain_counts_bool) (en := yn_functrain_counts_bool) (f := (ev_train_search_exact_r1 n q12)) (s0 := ((([] : List ((List Int) × (List Int))), x3, x4), 0)) (yf := q31) (v := .tup []) (fi := []) (caps := [.ptr 22 0, .ptr 24 0])
      ⟨fun x y r hr l rec hrd w0 M0 R0 => ok_train_search_exact_r1 (u16 := u16) (u15 := u15) (u14 := u14) (x1 := x1) (x2 := x2) hr l rec hrd w0 M0 R0, ⟨rfl, rfl, rfl, trivial⟩, At.mem (is := [0, 1, 2, 11, 12, 13, 14, 15, 16, 17]) ⟨rfl, rfl, rfl, rfl, rfl, rfl, rfl, rfl, rfl, rfl, trivial⟩, At.mem (is := [3, 4, 5, 6]) ⟨rfl, rfl, rfl, rfl, trivial⟩, rfl, pinsIn [3, 4, 6] [2, 1, 0] ⟨⟨_, _, fun _ => rfl⟩, ⟨_, _, fun _ => rfl⟩, ⟨_, _, fun _ => rfl⟩, trivial⟩ rfl, rfl, fun _ => rfl, fun _ _ => rfl, fun _ => rfl, fun _ _ => rfl, fun _ => rfl, fun _ => rfl, fun _ => rfl, rfl, rfl, fun _ => rfl, rfl⟩
      rfl rfl Try.call95 (takesNil rfl) 7 rfl (fun I hI => atT [(0, 26), (1, 22), (2, 23), (3, 24), (4, 25)] [(0, 26)] (ft_train_choose_2 hI h22) rfl rfl rfl) (fun d => ?_)
    rcases cond_cases h with ⟨h23, h⟩ | ⟨h23, h⟩
    · refine done0 h23 ?_
      refine TC.inBlock ?_
      refine TC.seq ?_
      refine TC.region ?_
      refine op1 7 rfl (sp_loadB rfl isBlk rfl vt52 rfl) rfl trivial rfl rfl ?_
      refine stoB 7 (cells' := [.ref 11]) rfl rfl trivial rfl rfl rfl rfl vt52 rfl rfl rfl ?_
      refine TL.nil ?_
      cases h
      exact retM [(500, 11)] 0 2 [] rfl (.cell rfl (mem_at 6 rfl) isBlk vt52 rfl (.nil)) rfl ⟨mem_at 3 rfl, trivial⟩ rfl rfl trivial rfl
    · exact none_no h
  · exact none_no h
theorem fc_train_search_exact {n : Nat} {x1 : List Int} {x2 : List Int} {x3 : Int} {x4 : Int} {pairs5 : Int} {r : (List ((List Int) × (List Int)))} (h : ev_train_search_exact n x1 x2 x3 x4 pairs5 = some r) : FC Try.prog 60 [.agg [.ref 0, .ref 1, .val (.int .i64 x3), .val (.int .i64 x4)], .val (.int .i64 pairs5)] [.ro 0 1 (List.map en_int x1), .ro 1 1 (List.map en_int x2)] (.ref 500) [.row 500 57 2 (List.map en_api_Train r)] := (ft_train_search_exact h).toFC rfl
/- train_Fewest -/
def ev_train_Fewest_l0 (n : Nat) (r5 : (List Int) × (List Int) × Int × Int × Int) : Nat → Int → Option ((List ((List Int) × (List Int))) × Int)
  | 0, _ => none
  | m + 1, i6 => cond (decide (i6 < 4)) (chk (in64 (i6 + 1)) <| (ev_train_search_exact n r5.1 r5.2.1 r5.2.2.1 r5.2.2.2.1 (i6 + 1)).bind fun r7 => cond (decide ((2000 : Int) < (r7.length : Int))) (some (([] : List ((List Int) × (List Int))), 5)) (cond (decide ((0 : Int) < (r7.length : Int))) (some (r7, 0)) (chk (in64 (i6 + 1)) <| ev_train_Fewest_l0 n r5 m (i6 + 1)))) (some (([] : List ((List Int) × (List Int))), 7))
set_option maxRecDepth 100000 in
set_option maxHeartbeats 2000000 in
theorem ok_train_Fewest_l0 {n : Nat} {w0 : World} {R0 : Nat → Prop} {env0 : Env} {r : (List ((List Int) × (List Int))) × Int} {r5 : (List Int) × (List Int) × Int × Int × Int} : ∀ (m : Nat) (i6 : Int), ev_train_Fewest_l0 n r5 m i6 = some r → TC Try.prog ⟨w0, fun _ => False, R0⟩ 36 (bodyPost Try.prog Try.f29 (Post ⟨w0, fun _ => False, R0⟩ env0 (.tup [.ref 0, .val (.int .i64 r.2)]) [.row 0 57 2 (List.map en_api_Train r.1)])) [.code (sub (bodyOf Try.f29) [1, 1, 1, 0, 1, 0, 0, 0]), .code (sub (bodyOf Try.f29) [1, 1, 1, 0, 1, 0, 0, 1]), .inLoop (sub (bodyOf Try.f29) [1, 1, 1, 0, 1, 0, 0]), .inBlock 0, .code (sub (bodyOf Try.f29) [1, 1, 1, 1])] ([(6, .ptr 6 0), (19, .val (.int .i64 i6))]) ([.blk 6 [.ref 4, .ref 5, .val (.int .i64 r5.2.2.1), .val (.int .i64 r5.2.2.2.1)] 94, .ro 4 1 (List.map en_int r5.1), .ro 5 1 (List.map en_int r5.2.1)]) := by
  intro m
  induction m with
  | zero => intro i6 h; exact none_no h
  | succ m ih =>
    intro i6 h
    rw [ev_train_Fewest_l0] at h
    refine TC.region ?_
    refine op0 (sp_lss rfl rfl rfl) rfl trivial rfl rfl ?_
    refine TL.nil ?_
    refine TC.seq ?_
    refine TC.cond (b := (decide (i6 < 4))) rfl (fun h3 => ?_) (fun h3 => ?_)
    · have h := cond_t h h3
      refine TC.skip ?_
      refine TC.seq ?_
      refine TC.block ?_
      refine TC.seq ?_
      refine TC.region ?_
      refine op0 (sp_move rfl rfl) rfl trivial rfl rfl ?_
      refine op0 (sp_assign rfl rfl) rfl trivial rfl rfl ?_
      refine TL.nil ?_
      refine TC.seq ?_
      refine TC.region ?_
      refine op1 0 rfl (sp_loadBA rfl isBlk rfl vt94 rfl rfl) rfl trivial rfl rfl ?_
      refine op0 (sp_move rfl rfl) rfl trivial rfl rfl ?_
      obtain ⟨h4, h⟩ := chk_inv h
      refine op0 (sp_add rfl rfl rfl h4) rfl trivial rfl rfl ?_
      obtain ⟨r7, h5, h⟩ := bind_inv h
      refine opN (need := [.ro 4 1 (List.map en_int r5.1), .ro 5 1 (List.map en_int r5.2.1)]) [1, 2] ⟨rfl, rfl, trivial⟩ (sp_call (avs := [.agg [.ref 4, .ref 5, .val (.int .i64 r5.2.2.1), .val (.int .i64 r5.2.2.2.1)], .val (.int .i64 (i6 + 1))]) (need := [.ro 4 1 (List.map en_int r5.1), .ro 5 1 (List.map en_int r5.2.1)]) (v := .ref 8) (news := [.row 8 57 2 (List.map en_api_Train r7)]) rfl rfl rfl Try.call60 (atJ [(0, 4), (1, 5)] [(500, 8)] (fc_train_search_exact h5) rfl rfl) (.inl (roAll rfl))) rfl trivial rfl rfl ?_
      refine op0 (sp_assign rfl rfl) rfl trivial rfl rfl ?_
      refine TL.nil ?_
      refine TC.block ?_
      refine TC.seq ?_
      refine TC.region ?_
      refine op0 (sp_move rfl rfl) rfl trivial rfl rfl ?_
      refine op1 0 rfl (sp_lenM (N := r7.length) (len_map _ _) rfl rfl isOwn Try.underlying52) rfl trivial rfl rfl ?_
      refine op0 (sp_gtr rfl rfl rfl) rfl trivial rfl rfl ?_
      refine op0 (sp_assign rfl rfl) rfl trivial rfl rfl ?_
      refine TL.nil ?_
      refine TC.cond (b := (decide ((2000 : Int) < (r7.length : Int)))) rfl (fun h6 => ?_) (fun h6 => ?_)
      · have h := cond_t h h6
        refine TC.seq ?_
        refine TC.region ?_
        refine op0 (sp_assign rfl rfl) rfl trivial rfl rfl ?_
        refine op0 (sp_assign rfl rfl) rfl trivial rfl rfl ?_
        refine TL.nil ?_
        refine nilRowC 4 9 57 2 (List.map en_api_Train []) rfl rfl rfl ?_
        cases h
        exact retJ [(0, 9)] (.tmp rfl (.tmp rfl .nil)) rfl ⟨mem_at 0 rfl, trivial⟩ rfl rfl
      · have h := cond_f h h6
        refine TC.seq ?_
        refine TC.region ?_
        refine op0 (sp_move rfl rfl) rfl trivial rfl rfl ?_
        refine op1 0 rfl (sp_lenM (N := r7.length) (len_map _ _) rfl rfl isOwn Try.underlying52) rfl trivial rfl rfl ?_
        refine op0 (sp_gtr rfl rfl rfl) rfl trivial rfl rfl ?_
        refine op0 (sp_assign rfl rfl) rfl trivial rfl rfl ?_
        refine TL.nil ?_
        refine TC.cond (b := (decide ((0 : Int) < (r7.length : Int)))) rfl (fun h7 => ?_) (fun h7 => ?_)
        · have h := cond_t h h7
          refine TC.seq ?_
          refine TC.region ?_
          refine op0 (sp_move rfl rfl) rfl trivial rfl rfl ?_
          refine op0 (sp_assign rfl rfl) rfl trivial rfl rfl ?_
          refine op0 (sp_assign rfl rfl) rfl trivial rfl rfl ?_
          refine TL.nil ?_
          cases h
          exact retJ [(0, 8)] (.tmp rfl (.tmp rfl .nil)) rfl ⟨mem_at 0 rfl, trivial⟩ rfl rfl
        · have h := cond_f h h7
          refine TC.skip ?_
          refine TC.inBlock ?_
          refine TC.inBlock ?_
          refine TC.region ?_
          obtain ⟨h8, h⟩ := chk_inv h
          refine op0 (sp_add rfl rfl rfl h8) rfl trivial rfl rfl ?_
          refine op0 (sp_move rfl rfl) rfl trivial rfl rfl ?_
          refine TL.nil ?_
          refine TC.inLoop ?_
          refine TC.seq ?_
          refine subJ [] (ih _ h) ?_ ?_ ?_
          · exact ⟨rfl, rfl, trivial⟩
          · exact ⟨mem_at 1 rfl, mem_at 2 rfl, mem_at 3 rfl, trivial⟩
          · rfl
    · have h := cond_f h h3
      refine TC.exit rfl ?_
      refine TC.seq ?_
      refine TC.region ?_
      refine op0 (sp_assign rfl rfl) rfl trivial rfl rfl ?_
      refine op0 (sp_assign rfl rfl) rfl trivial rfl rfl ?_
      refine TL.nil ?_
      refine nilRowC 4 10 57 2 (List.map en_api_Train []) rfl rfl rfl ?_
      cases h
      exact retJ [(0, 10)] (.tmp rfl (.tmp rfl .nil)) rfl ⟨mem_at 0 rfl, trivial⟩ rfl rfl
def ev_train_Fewest (n : Nat) (s1 : List Int) (s2 : List Int) (want3 : Int) (want4 : Int) : Option ((List ((List Int) × (List Int))) × Int) :=
  (ev_train_open n s1 s2 want3 want4).bind fun r5 => cond (r5.2.2.2.2 != 0) (some (([] : List ((List Int) × (List Int))), r5.2.2.2.2)) (ev_train_Fewest_l0 n r5 n 0)
set_option maxRecDepth 100000 in
set_option maxHeartbeats 2000000 in
theorem fc_train_Fewest {n : Nat} {s1 : List Int} {s2 : List Int} {want3 : Int} {want4 : Int} {r : (List ((List Int) × (List Int))) × Int} (h : ev_train_Fewest n s1 s2 want3 want4 = some r) : FC Try.prog 29 [.agg [.ref 0, .ref 1], .agg [.val (.int .i64 want3), .val (.int .i64 want4)]] [.ro 0 1 (List.map en_int s1), .ro 1 1 (List.map en_int s2)] (.tup [.ref 0, .val (.int .i64 r.2)]) [.row 0 57 2 (List.map en_api_Train r.1)] := by
  refine introJ (nz := 36) Try.func29 rfl rfl rfl (fun w0 R0 env0 => ?_)
  rw [ev_train_Fewest] at h
  refine TC.seq ?_
  refine TC.region ?_
  refine op0 (sp_box 2 rfl rfl rfl rfl rfl) rfl trivial rfl rfl ?_
  refine op0 (sp_box 3 rfl rfl rfl rfl rfl) rfl trivial rfl rfl ?_
  refine op0 (sp_assign rfl rfl) rfl trivial rfl rfl ?_
  refine op0 (sp_assign rfl rfl) rfl trivial rfl rfl ?_
  refine TL.nil ?_
  refine TC.seq ?_
  refine TC.region ?_
  refine op1 1 rfl (sp_loadBA rfl isBlk rfl vt40 rfl rfl) rfl trivial rfl rfl ?_
  refine op1 0 rfl (sp_loadBA rfl isBlk rfl vt26 rfl rfl) rfl trivial rfl rfl ?_
  obtain ⟨r5, h1, h⟩ := bind_inv h
  refine opN (need := [.ro 0 1 (List.map en_int s1), .ro 1 1 (List.map en_int s2)]) [2, 3] ⟨rfl, rfl, trivial⟩ (sp_call (avs := [.agg [.ref 0, .ref 1], .agg [.val (.int .i64 want3), .val (.int .i64 want4)]]) (need := [.ro 0 1 (List.map en_int s1), .ro 1 1 (List.map en_int s2)]) (v := .tup [.agg [.ref 4, .ref 5, .val (.int .i64 r5.2.2.1), .val (.int .i64 r5.2.2.2.1)], .val (.int .i64 r5.2.2.2.2)]) (news := [.ro 4 1 (List.map en_int r5.1), .ro 5 1 (List.map en_int r5.2.1)]) rfl rfl rfl Try.call53 (atJ [] [(0, 4), (1, 5)] (fc_train_open h1) rfl rfl) (.inl (roAll rfl))) rfl trivial rfl rfl ?_
  refine op0 (sp_move rfl rfl) rfl trivial rfl rfl ?_
  refine op0 (sp_extract rfl rfl rfl) rfl trivial rfl rfl ?_
  refine op0 (sp_extract rfl rfl rfl) rfl trivial rfl rfl ?_
  refine op0 (sp_alloc 6 rfl Try.zeroValue94 rfl) rfl trivial rfl rfl ?_
  refine stoB 0 (cells' := [.ref 4, .ref 5, .val (.int .i64 r5.2.2.1), .val (.int .i64 r5.2.2.2.1)]) rfl rfl trivial rfl rfl rfl rfl vt94 rfl rfl rfl ?_
  refine op0 (sp_assign rfl rfl) rfl trivial rfl rfl ?_
  refine TL.nil ?_
  refine TC.seq ?_
  refine TC.seq ?_
  refine TC.region ?_
  refine op0 (sp_move rfl rfl) rfl trivial rfl rfl ?_
  refine op0 (sp_neq rfl rfl rfl) rfl trivial rfl rfl ?_
  refine TL.nil ?_
  refine TC.cond (b := (r5.2.2.2.2 != 0)) rfl (fun h2 => ?_) (fun h2 => ?_)
  · have h := cond_t h h2
    refine TC.seq ?_
    refine TC.region ?_
    refine op0 (sp_move rfl rfl) rfl trivial rfl rfl ?_
    refine op0 (sp_assign rfl rfl) rfl trivial rfl rfl ?_
    refine op0 (sp_assign rfl rfl) rfl trivial rfl rfl ?_
    refine TL.nil ?_
    refine nilRowC 4 7 57 2 (List.map en_api_Train []) rfl rfl rfl ?_
    cases h
    exact retJ [(0, 7)] (.tmp rfl (.tmp rfl .nil)) rfl ⟨mem_at 0 rfl, trivial⟩ rfl rfl
  · have h := cond_f h h2
    refine TC.skip ?_
    refine TC.seq ?_
    refine TC.seq ?_
    refine TC.region ?_
    refine op0 (sp_move rfl rfl) rfl trivial rfl rfl ?_
    refine TL.nil ?_
    refine TC.block ?_
    refine TC.loop ?_
    refine TC.seq ?_
    refine subJ [] (ok_train_Fewest_l0 _ _ h) ?_ ?_ ?_
    · exact ⟨rfl, rfl, trivial⟩
    · exact ⟨mem_at 0 rfl, mem_at 1 rfl, mem_at 2 rfl, trivial⟩
    · rfl
/- train_primes -/
def ev_train_primes (n : Nat) (nn1 : Int) : Option Int :=
  some nn1
set_option maxRecDepth 100000 in
set_option maxHeartbeats 2000000 in
theorem fc_train_primes {n : Nat} {nn1 : Int} {r : Int} (h : ev_train_primes n nn1 = some r) : FC Try.prog 55 [.val (.int .i64 nn1)] [] (.fn 72 [] [.ptr 0 0]) [.blk 0 [.val (.int .i64 r)] 3] := by
  refine introJ (nz := 4) Try.func55 rfl rfl rfl (fun w0 R0 env0 => ?_)
  rw [ev_train_primes] at h
  refine TC.seq ?_
  refine TC.region ?_
  refine op0 (sp_box 0 rfl rfl rfl rfl rfl) rfl trivial rfl rfl ?_
  refine op0 (sp_assign rfl rfl) rfl trivial rfl rfl ?_
  refine TL.nil ?_
  refine TC.seq ?_
  refine TC.region ?_
  refine op0 (sp_makeFunc (fi := []) (ca := [.tmp 1]) (fa := []) (cb := [.ptr 0 0]) rfl rfl rfl) rfl trivial rfl rfl ?_
  refine op0 (sp_assign rfl rfl) rfl trivial rfl rfl ?_
  refine TL.nil ?_
  cases h
  exact retJ [] (.tmp rfl .nil) rfl ⟨mem_at 0 rfl, trivial⟩ rfl rfl
/- train_primes_1 -/
def ev_train_primes_1_l3 {σ1 : Type} (yb1 : Int → σ1 → Option (Bool × σ1)) (n : Nat) (i6 : Int) (k_train_primes_1_l0 : Int → Int → σ1 → Option (σ1 × Int)) : Nat → Int → σ1 → Option (σ1 × Int)
  | 0, _, _ => none
  | m + 1, i10, y11 => chk (i6 != 0) <| cond ((Int.tmod i10 i6) == 0) (chk (i6 != 0) <| chk (in64 (Int.tdiv i10 i6)) <| ev_train_primes_1_l3 yb1 n i6 k_train_primes_1_l0 m (Int.tdiv i10 i6) y11) (chk (in64 (i6 + 1)) <| k_train_primes_1_l0 (i6 + 1) i10 y11)
set_option maxRecDepth 100000 in
set_option maxHeartbeats 2000000 in
theorem ok_train_primes_1_l3 {σ1 : Type} {yb1 : Int → σ1 → Option (Bool × σ1)} {I1 : σ1 → Inv} (hI1 : Yields Try.prog ye_funcint_bool yn_funcint_bool yb1 I1) {n : Nat} {w0 : World} {M0 R0 : Nat → Prop} {env0 : Env} {df : List Deferred} {r : σ1 × Int} {i6 : Int} {k_train_primes_1_l0 : Int → Int → σ1 → Option (σ1 × Int)} (hk_train_primes_1_l0 : ∀ (i3 : Int) (i4 : Int) (y5 : σ1), k_train_primes_1_l0 i3 i4 y5 = some r → TC Try.prog ⟨w0, M0, R0⟩ ⟨31, none, df⟩ (bodyPostM Fence.wide 0 Try.prog Try.f72 (PostT ⟨w0, M0, R0⟩ env0 [0, 1] (.tup []) [.inv 0 (I1 r.1), .blk 1 [.val (.int .i64 r.2)] 3])) [.code (sub (bodyOf Try.f72) [1, 0, 0, 0, 0]), .code (sub (bodyOf Try.f72) [1, 0, 0, 0, 1]), .code (sub (bodyOf Try.f72) [1, 0, 0, 1]), .inLoop (sub (bodyOf Try.f72) [1, 0, 0]), .inBlock 0] ([(0, .ref 0), (1, .ptr 1 0), (3, .val (.int .i64 i3))]) ([.blk 1 [.val (.int .i64 i4)] 3, .inv 2 (marksI df), .pin 3 0 (env0 0), .pin 4 1 (env0 1), .inv 0 (I1 y5)])) : ∀ (m : Nat) (i10 : Int) (y11 : σ1), ev_train_primes_1_l3 yb1 n i6 k_train_primes_1_l0 m i10 y11 = some r → TC Try.prog ⟨w0, M0, R0⟩ ⟨31, none, df⟩ (bodyPostM Fence.wide 0 Try.prog Try.f72 (PostT ⟨w0, M0, R0⟩ env0 [0, 1] (.tup []) [.inv 0 (I1 r.1), .blk 1 [.val (.int .i64 r.2)] 3])) [.code (sub (bodyOf Try.f72) [1, 0, 0, 1, 0, 0, 1, 1, 0, 0, 0, 0]), .code (sub (bodyOf Try.f72) [1, 0, 0, 1, 0, 0, 1, 1, 0, 0, 0, 1]), .code (sub (bodyOf Try.f72) [1, 0, 0, 1, 0, 0, 1, 1, 0, 0, 1]), .inLoop (sub (bodyOf Try.f72) [1, 0, 0, 1, 0, 0, 1, 1, 0, 0]), .inBlock 2, .inBlock 1, .code (sub (bodyOf Try.f72) [1, 0, 0, 1, 1]), .inLoop (sub (bodyOf Try.f72) [1, 0, 0]), .inBlock 0] ([(0, .ref 0), (1, .ptr 1 0), (3, .val (.int .i64 i6))]) ([.blk 1 [.val (.int .i64 i10)] 3, .inv 0 (I1 y11), .inv 2 (marksI df), .pin 3 0 (env0 0), .pin 4 1 (env0 1)]) := by
  intro m
  induction m with
  | zero => intro i10 y11 h; exact none_no h
  | succ m ih =>
    intro i10 y11 h
    rw [ev_train_primes_1_l3] at h
    refine TC.region ?_
    refine op1 0 rfl (sp_loadB rfl isBlk rfl vt3 rfl) rfl trivial rfl rfl ?_
    refine op0 (sp_move rfl rfl) rfl trivial rfl rfl ?_
    obtain ⟨h8, h⟩ := chk_inv h
    refine op0 (sp_rem rfl rfl rfl h8) rfl trivial rfl rfl ?_
    refine op0 (sp_eql rfl rfl rfl) rfl trivial rfl rfl ?_
    refine TL.nil ?_
    refine TC.cond (b := ((Int.tmod i10 i6) == 0)) rfl (fun h9 => ?_) (fun h9 => ?_)
    · have h := cond_t h h9
      refine TC.skip ?_
      refine TC.block ?_
      refine TC.region ?_
      refine op1 0 rfl (sp_loadB rfl isBlk rfl vt3 rfl) rfl trivial rfl rfl ?_
      refine op0 (sp_move rfl rfl) rfl trivial rfl rfl ?_
      obtain ⟨h10, h⟩ := chk_inv h
      obtain ⟨h11, h⟩ := chk_inv h
      refine op0 (sp_quo rfl rfl rfl h10 h11) rfl trivial rfl rfl ?_
      refine stoB 0 (cells' := [.val (.int .i64 (Int.tdiv i10 i6))]) rfl rfl trivial rfl rfl rfl rfl vt3 rfl rfl rfl ?_
      refine TL.nil ?_
      refine TC.inBlock ?_
      refine TC.inLoop ?_
      refine TC.seq ?_
      refine TC.seq ?_
      refine subJ [] (ih _ _ h) ?_ ?_ ?_
      · exact ⟨rfl, rfl, rfl, trivial⟩
      · exact ⟨mem_at 0 rfl, mem_at 1 rfl, mem_at 2 rfl, mem_at 3 rfl, mem_at 4 rfl, trivial⟩
      · rfl
    · have h := cond_f h h9
      refine TC.exit rfl ?_
      refine TC.inBlock ?_
      refine TC.region ?_
      refine op0 (sp_move rfl rfl) rfl trivial rfl rfl ?_
      obtain ⟨h12, h⟩ := chk_inv h
      refine op0 (sp_add rfl rfl rfl h12) rfl trivial rfl rfl ?_
      refine op0 (sp_assign rfl rfl) rfl trivial rfl rfl ?_
      refine TL.nil ?_
      refine TC.inLoop ?_
      refine TC.seq ?_
      refine TC.seq ?_
      refine subJ [] (hk_train_primes_1_l0 _ _ _ h) ?_ ?_ ?_
      · exact ⟨rfl, rfl, rfl, trivial⟩
      · exact ⟨mem_at 0 rfl, mem_at 2 rfl, mem_at 3 rfl, mem_at 4 rfl, mem_at 1 rfl, trivial⟩
      · rfl
def ev_train_primes_1_j2 {σ1 : Type} (yb1 : Int → σ1 → Option (Bool × σ1)) (n : Nat) (i6 : Int) (i4 : Int) (k_train_primes_1_l0 : Int → Int → σ1 → Option (σ1 × Int)) (y9 : σ1) : Option (σ1 × Int) :=
  ev_train_primes_1_l3 yb1 n i6 k_train_primes_1_l0 n i4 y9
set_option maxRecDepth 100000 in
set_option maxHeartbeats 2000000 in
theorem ok_train_primes_1_j2 {σ1 : Type} {yb1 : Int → σ1 → Option (Bool × σ1)} {I1 : σ1 → Inv} (hI1 : Yields Try.prog ye_funcint_bool yn_funcint_bool yb1 I1) {n : Nat} {w0 : World} {M0 R0 : Nat → Prop} {env0 : Env} {df : List Deferred} {r : σ1 × Int} {i6 : Int} {i4 : Int} {k_train_primes_1_l0 : Int → Int → σ1 → Option (σ1 × Int)} {y9 : σ1} (hk_train_primes_1_l0 : ∀ (i3 : Int) (i4 : Int) (y5 : σ1), k_train_primes_1_l0 i3 i4 y5 = some r → TC Try.prog ⟨w0, M0, R0⟩ ⟨31, none, df⟩ (bodyPostM Fence.wide 0 Try.prog Try.f72 (PostT ⟨w0, M0, R0⟩ env0 [0, 1] (.tup []) [.inv 0 (I1 r.1), .blk 1 [.val (.int .i64 r.2)] 3])) [.code (sub (bodyOf Try.f72) [1, 0, 0, 0, 0]), .code (sub (bodyOf Try.f72) [1, 0, 0, 0, 1]), .code (sub (bodyOf Try.f72) [1, 0, 0, 1]), .inLoop (sub (bodyOf Try.f72) [1, 0, 0]), .inBlock 0] ([(0, .ref 0), (1, .ptr 1 0), (3, .val (.int .i64 i3))]) ([.blk 1 [.val (.int .i64 i4)] 3, .inv 2 (marksI df), .pin 3 0 (env0 0), .pin 4 1 (env0 1), .inv 0 (I1 y5)])) (h : ev_train_primes_1_j2 yb1 n i6 i4 k_train_primes_1_l0 y9 = some r) : TC Try.prog ⟨w0, M0, R0⟩ ⟨31, none, df⟩ (bodyPostM Fence.wide 0 Try.prog Try.f72 (PostT ⟨w0, M0, R0⟩ env0 [0, 1] (.tup []) [.inv 0 (I1 r.1), .blk 1 [.val (.int .i64 r.2)] 3])) [.code (sub (bodyOf Try.f72) [1, 0, 0, 1, 0, 0, 1, 0, 1, 1]), .code (sub (bodyOf Try.f72) [1, 0, 0, 1, 0, 0, 1, 1]), .inBlock 1, .code (sub (bodyOf Try.f72) [1, 0, 0, 1, 1]), .inLoop (sub (bodyOf Try.f72) [1, 0, 0]), .inBlock 0] ([(0, .ref 0), (1, .ptr 1 0), (3, .val (.int .i64 i6))]) ([.blk 1 [.val (.int .i64 i4)] 3, .inv 0 (I1 y9), .inv 2 (marksI df), .pin 3 0 (env0 0), .pin 4 1 (env0 1)]) := by
  rw [ev_train_primes_1_j2] at h
  refine TC.skip ?_
  refine TC.block ?_
  refine TC.loop ?_
  refine TC.seq ?_
  refine TC.seq ?_
  refine subJ [] (ok_train_primes_1_l3 hI1 hk_train_primes_1_l0 _ _ _ h) ?_ ?_ ?_
  · exact ⟨rfl, rfl, rfl, trivial⟩
  · exact ⟨mem_at 0 rfl, mem_at 1 rfl, mem_at 2 rfl, mem_at 3 rfl, mem_at 4 rfl, trivial⟩
  · rfl
def ev_train_primes_1_j1 {σ1 : Type} (yb1 : Int → σ1 → Option (Bool × σ1)) (n : Nat) (i4 : Int) (k_train_primes_1_l0 : Int → Int → σ1 → Option (σ1 × Int)) (i6 : Int) (y7 : σ1) : Option (σ1 × Int) :=
  chk (i6 != 0) <| cond ((Int.tmod i4 i6) == 0) ((yb1 i6 y7).bind fun r8 => cond (!r8.1) (some (r8.2, i4)) (ev_train_primes_1_j2 yb1 n i6 i4 k_train_primes_1_l0 r8.2)) (ev_train_primes_1_j2 yb1 n i6 i4 k_train_primes_1_l0 y7)
set_option maxRecDepth 100000 in
set_option maxHeartbeats 2000000 in
theorem ok_train_primes_1_j1 {σ1 : Type} {yb1 : Int → σ1 → Option (Bool × σ1)} {I1 : σ1 → Inv} (hI1 : Yields Try.prog ye_funcint_bool yn_funcint_bool yb1 I1) {n : Nat} {w0 : World} {M0 R0 : Nat → Prop} {env0 : Env} {df : List Deferred} {r : σ1 × Int} {i4 : Int} {k_train_primes_1_l0 : Int → Int → σ1 → Option (σ1 × Int)} {i6 : Int} {y7 : σ1} (hk_train_primes_1_l0 : ∀ (i3 : Int) (i4 : Int) (y5 : σ1), k_train_primes_1_l0 i3 i4 y5 = some r → TC Try.prog ⟨w0, M0, R0⟩ ⟨31, none, df⟩ (bodyPostM Fence.wide 0 Try.prog Try.f72 (PostT ⟨w0, M0, R0⟩ env0 [0, 1] (.tup []) [.inv 0 (I1 r.1), .blk 1 [.val (.int .i64 r.2)] 3])) [.code (sub (bodyOf Try.f72) [1, 0, 0, 0, 0]), .code (sub (bodyOf Try.f72) [1, 0, 0, 0, 1]), .code (sub (bodyOf Try.f72) [1, 0, 0, 1]), .inLoop (sub (bodyOf Try.f72) [1, 0, 0]), .inBlock 0] ([(0, .ref 0), (1, .ptr 1 0), (3, .val (.int .i64 i3))]) ([.blk 1 [.val (.int .i64 i4)] 3, .inv 2 (marksI df), .pin 3 0 (env0 0), .pin 4 1 (env0 1), .inv 0 (I1 y5)])) (h : ev_train_primes_1_j1 yb1 n i4 k_train_primes_1_l0 i6 y7 = some r) : TC Try.prog ⟨w0, M0, R0⟩ ⟨31, none, df⟩ (bodyPostM Fence.wide 0 Try.prog Try.f72 (PostT ⟨w0, M0, R0⟩ env0 [0, 1] (.tup []) [.inv 0 (I1 r.1), .blk 1 [.val (.int .i64 r.2)] 3])) [.code (sub (bodyOf Try.f72) [1, 0, 0, 1, 0, 0, 1, 0, 0]), .code (sub (bodyOf Try.f72) [1, 0, 0, 1, 0, 0, 1, 0, 1]), .code (sub (bodyOf Try.f72) [1, 0, 0, 1, 0, 0, 1, 1]), .inBlock 1, .code (sub (bodyOf Try.f72) [1, 0, 0, 1, 1]), .inLoop (sub (bodyOf Try.f72) [1, 0, 0]), .inBlock 0] ([(0, .ref 0), (1, .ptr 1 0), (3, .val (.int .i64 i6))]) ([.blk 1 [.val (.int .i64 i4)] 3, .inv 2 (marksI df), .pin 3 0 (env0 0), .pin 4 1 (env0 1), .inv 0 (I1 y7)]) := by
  rw [ev_train_primes_1_j1] at h
  refine TC.region ?_
  refine op1 0 rfl (sp_loadB rfl isBlk rfl vt3 rfl) rfl trivial rfl rfl ?_
  refine op0 (sp_move rfl rfl) rfl trivial rfl rfl ?_
  obtain ⟨h4, h⟩ := chk_inv h
  refine op0 (sp_rem rfl rfl rfl h4) rfl trivial rfl rfl ?_
  refine op0 (sp_eql rfl rfl rfl) rfl trivial rfl rfl ?_
  refine op0 (sp_move rfl rfl) rfl trivial rfl rfl ?_
  rcases cond_cases h with ⟨h5, h⟩ | ⟨h5, h⟩
  · refine (boolLit 18 rfl h5).2 ?_
    refine op0 (sp_move rfl rfl) rfl ⟨_, rfl, rfl⟩ rfl rfl ?_
    refine op0 (sp_move rfl rfl) rfl ⟨_, rfl, rfl⟩ rfl rfl ?_
    obtain ⟨r8, h6, h⟩ := bind_inv h
    refine opT (take := [.inv 0 (I1 y7)]) (need := []) (V' := [.inv 0 (I1 r8.2), .blk 1 [.val (.int .i64 i4)] 3, .inv 2 (marksI df), .pin 3 0 (env0 0), .pin 4 1 (env0 1)]) [4] [] (ts_yield hI1 (x := i6) (b := r8.1) (avs := [.val (.int .i64 i6)]) (need := []) [] h6 rfl rfl rfl rfl rfl rfl) ⟨_, rfl, rfl⟩ rfl ⟨rfl, trivial⟩ trivial rfl rfl ?_
    refine op0 (sp_not rfl rfl) rfl ⟨_, rfl, rfl⟩ rfl rfl ?_
    refine op0 (sp_pickT rfl rfl rfl) rfl trivial rfl rfl ?_
    refine TL.nil ?_
    refine TC.cond (b := (!r8.1)) rfl (fun h7 => ?_) (fun h7 => ?_)
    · have h := cond_t h h7
      cases h
      exact retM [] 2 2 [0, 1] rfl (.nil) rfl ⟨mem_at 0 rfl, mem_at 1 rfl, trivial⟩ rfl rfl ⟨⟨_, mem_at 2 rfl⟩, ⟨_, mem_at 3 rfl⟩, trivial⟩ rfl
    · have h := cond_f h h7
      refine subJ [] (ok_train_primes_1_j2 hI1 hk_train_primes_1_l0 h) ?_ ?_ ?_
      · exact ⟨rfl, rfl, rfl, trivial⟩
      · exact ⟨mem_at 1 rfl, mem_at 0 rfl, mem_at 2 rfl, mem_at 3 rfl, mem_at 4 rfl, trivial⟩
      · rfl
  · refine (boolLit 18 rfl h5).2 ?_
    refine opSkip rfl ⟨_, rfl, .inl rfl⟩ rfl ?_
    refine opSkip rfl ⟨_, rfl, .inl rfl⟩ rfl ?_
    refine opSkip rfl ⟨_, rfl, .inl rfl⟩ rfl ?_
    refine opSkip rfl ⟨_, rfl, .inl rfl⟩ rfl ?_
    refine op0 (sp_pickF rfl rfl rfl) rfl trivial rfl rfl ?_
    refine TL.nil ?_
    refine TC.condF rfl ?_
    refine subJ [] (ok_train_primes_1_j2 hI1 hk_train_primes_1_l0 h) ?_ ?_ ?_
    · exact ⟨rfl, rfl, rfl, trivial⟩
    · exact ⟨mem_at 0 rfl, mem_at 4 rfl, mem_at 1 rfl, mem_at 2 rfl, mem_at 3 rfl, trivial⟩
    · rfl
def ev_train_primes_1_l0 {σ1 : Type} (yb1 : Int → σ1 → Option (Bool × σ1)) (n : Nat) : Nat → Int → Int → σ1 → Option (σ1 × Int)
  | 0, _, _, _ => none
  | m + 1, i3, i4, y5 => cond (decide ((1 : Int) < i4)) (chk (in64 (i3 * i3)) <| cond (decide (i4 < (i3 * i3))) (ev_train_primes_1_j1 yb1 n i4 (fun i3q i4q y5q => ev_train_primes_1_l0 yb1 n m i3q i4q y5q) i4 y5) (ev_train_primes_1_j1 yb1 n i4 (fun i3q i4q y5q => ev_train_primes_1_l0 yb1 n m i3q i4q y5q) i3 y5)) (some (y5, i4))
set_option maxRecDepth 100000 in
set_option maxHeartbeats 2000000 in
theorem ok_train_primes_1_l0 {σ1 : Type} {yb1 : Int → σ1 → Option (Bool × σ1)} {I1 : σ1 → Inv} (hI1 : Yields Try.prog ye_funcint_bool yn_funcint_bool yb1 I1) {n : Nat} {w0 : World} {M0 R0 : Nat → Prop} {env0 : Env} {df : List Deferred} {r : σ1 × Int} : ∀ (m : Nat) (i3 : Int) (i4 : Int) (y5 : σ1), ev_train_primes_1_l0 yb1 n m i3 i4 y5 = some r → TC Try.prog ⟨w0, M0, R0⟩ ⟨31, none, df⟩ (bodyPostM Fence.wide 0 Try.prog Try.f72 (PostT ⟨w0, M0, R0⟩ env0 [0, 1] (.tup []) [.inv 0 (I1 r.1), .blk 1 [.val (.int .i64 r.2)] 3])) [.code (sub (bodyOf Try.f72) [1, 0, 0, 0, 0]), .code (sub (bodyOf Try.f72) [1, 0, 0, 0, 1]), .code (sub (bodyOf Try.f72) [1, 0, 0, 1]), .inLoop (sub (bodyOf Try.f72) [1, 0, 0]), .inBlock 0] ([(0, .ref 0), (1, .ptr 1 0), (3, .val (.int .i64 i3))]) ([.blk 1 [.val (.int .i64 i4)] 3, .inv 2 (marksI df), .pin 3 0 (env0 0), .pin 4 1 (env0 1), .inv 0 (I1 y5)]) := by
  intro m
  induction m with
  | zero => intro i3 i4 y5 h; exact none_no h
  | succ m ih =>
    intro i3 i4 y5 h
    rw [ev_train_primes_1_l0] at h
    refine TC.region ?_
    refine op1 0 rfl (sp_loadB rfl isBlk rfl vt3 rfl) rfl trivial rfl rfl ?_
    refine op0 (sp_gtr rfl rfl rfl) rfl trivial rfl rfl ?_
    refine TL.nil ?_
    refine TC.cond (b := (decide ((1 : Int) < i4))) rfl (fun h1 => ?_) (fun h1 => ?_)
    · have h := cond_t h h1
      refine TC.skip ?_
      refine TC.seq ?_
      refine TC.block ?_
      refine TC.seq ?_
      refine TC.seq ?_
      refine TC.region ?_
      refine op0 (sp_move rfl rfl) rfl trivial rfl rfl ?_
      refine op0 (sp_move rfl rfl) rfl trivial rfl rfl ?_
      obtain ⟨h2, h⟩ := chk_inv h
      refine op0 (sp_mul rfl rfl rfl h2) rfl trivial rfl rfl ?_
      refine op1 0 rfl (sp_loadB rfl isBlk rfl vt3 rfl) rfl trivial rfl rfl ?_
      refine op0 (sp_gtr rfl rfl rfl) rfl trivial rfl rfl ?_
      refine TL.nil ?_
      refine TC.cond (b := (decide (i4 < (i3 * i3)))) rfl (fun h3 => ?_) (fun h3 => ?_)
      · have h := cond_t h h3
        refine TC.region ?_
        refine op1 0 rfl (sp_loadB rfl isBlk rfl vt3 rfl) rfl trivial rfl rfl ?_
        refine op0 (sp_assign rfl rfl) rfl trivial rfl rfl ?_
        refine TL.nil ?_
        refine TC.seq ?_
        refine TC.seq ?_
        refine subJ [] (ok_train_primes_1_j1 hI1 ih h) ?_ ?_ ?_
        · exact ⟨rfl, rfl, rfl, trivial⟩
        · exact ⟨mem_at 0 rfl, mem_at 1 rfl, mem_at 2 rfl, mem_at 3 rfl, mem_at 4 rfl, trivial⟩
        · rfl
      · have h := cond_f h h3
        refine TC.skip ?_
        refine TC.seq ?_
        refine TC.seq ?_
        refine subJ [] (ok_train_primes_1_j1 hI1 ih h) ?_ ?_ ?_
        · exact ⟨rfl, rfl, rfl, trivial⟩
        · exact ⟨mem_at 0 rfl, mem_at 1 rfl, mem_at 2 rfl, mem_at 3 rfl, mem_at 4 rfl, trivial⟩
        · rfl
    · have h := cond_f h h1
      refine TC.exit rfl ?_
      cases h
      exact endM [] 1 2 [0, 1] rfl (.nil) rfl ⟨mem_at 3 rfl, mem_at 0 rfl, trivial⟩ rfl rfl ⟨⟨_, mem_at 1 rfl⟩, ⟨_, mem_at 2 rfl⟩, trivial⟩ rfl
def ev_train_primes_1 {σ1 : Type} (yb1 : Int → σ1 → Option (Bool × σ1)) (n : Nat) (y1 : σ1) (c2 : Int) : Option (σ1 × Int) :=
  ev_train_primes_1_l0 yb1 n n 2 c2 y1
set_option maxRecDepth 100000 in
set_option maxHeartbeats 2000000 in
theorem ft_train_primes_1 {σ1 : Type} {yb1 : Int → σ1 → Option (Bool × σ1)} {I1 : σ1 → Inv} (hI1 : Yields Try.prog ye_funcint_bool yn_funcint_bool yb1 I1) {n : Nat} {y1 : σ1} {c2 : Int} {r : σ1 × Int} (h : ev_train_primes_1 yb1 n y1 c2 = some r) : FT Try.prog 72 [.ref 0, .ptr 1 0] [.inv 0 (I1 y1), .blk 1 [.val (.int .i64 c2)] 3] [] (.tup []) [.inv 0 (I1 r.1), .blk 1 [.val (.int .i64 r.2)] 3] := by
  refine introM (nz := 31) 2 [(3, 0), (4, 1)] Try.func72 rfl rfl rfl rfl (fun w0 M0 R0 env0 => ?_)
  rw [ev_train_primes_1] at h
  refine TC.seq ?_
  refine TC.region ?_
  refine op0 (sp_assign rfl rfl) rfl trivial rfl rfl ?_
  refine TL.nil ?_
  refine TC.block ?_
  refine TC.loop ?_
  refine TC.seq ?_
  refine TC.seq ?_
  refine subJ [] (ok_train_primes_1_l0 hI1 _ _ _ _ h) ?_ ?_ ?_
  · exact ⟨rfl, rfl, rfl, trivial⟩
  · exact ⟨mem_at 4 rfl, mem_at 0 rfl, mem_at 1 rfl, mem_at 2 rfl, mem_at 3 rfl, trivial⟩
  · rfl
/- train_Missing_1_1 -/
def ev_train_Missing_1_1 (n : Nat) (c1 : Int) (c2 : Int) : Option Bool :=
  chk (c2 != 0) <| some ((Int.tmod c1 c2) == 0)
set_option maxRecDepth 100000 in
set_option maxHeartbeats 2000000 in
theorem fc_train_Missing_1_1 {n : Nat} {c1 : Int} {c2 : Int} {r : Bool} (h : ev_train_Missing_1_1 n c1 c2 = some r) : FC Try.prog 57 [.val (.int .i64 c1), .ptr 0 0] [.rob 0 [.val (.int .i64 c2)] 3] (.val (.bool r)) [] := by
  refine introJ (nz := 8) Try.func57 rfl rfl rfl (fun w0 R0 env0 => ?_)
  rw [ev_train_Missing_1_1] at h
  refine TC.seq ?_
  refine TC.region ?_
  refine op0 (sp_assign rfl rfl) rfl trivial rfl rfl ?_
  refine TL.nil ?_
  refine TC.seq ?_
  refine TC.region ?_
  refine op0 (sp_move rfl rfl) rfl trivial rfl rfl ?_
  refine op1 0 rfl (sp_loadB rfl isRob rfl vt3 rfl) rfl trivial rfl rfl ?_
  obtain ⟨h1, h⟩ := chk_inv h
  refine op0 (sp_rem rfl rfl rfl h1) rfl trivial rfl rfl ?_
  refine op0 (sp_eql rfl rfl rfl) rfl trivial rfl rfl ?_
  refine op0 (sp_assign rfl rfl) rfl trivial rfl rfl ?_
  refine TL.nil ?_
  cases h
  exact retJ [] (.tmp rfl .nil) rfl trivial rfl rfl
/- train_Missing_1 -/
def ev_train_Missing_1_r0 (n : Nat) (cutters2 : List Int) (x5 : Int) (y6 : (List Int)) : Option (Nat × ((List Int))) :=
  (ev_slices_ContainsFunc_Lint_int n cutters2 (fun a => ev_train_Missing_1_1 n a x5)).bind fun r7 => cond (!r7) (chk (room 8 (y6.length + ([x5] : List Int).length)) <| some (0, (y6 ++ ([x5] : List Int)))) (some (0, y6))
set_option maxRecDepth 100000 in
set_option maxHeartbeats 2000000 in
theorem ok_train_Missing_1_r0 {n : Nat} {env0 : Env} {u4 : Value} {cutters2 : List Int} {x5 : Int} {y6 : (List Int)} {r : Nat × ((List Int))} (h : ev_train_Missing_1_r0 n cutters2 x5 y6 = some r) (l0 : Nat) (rec : Loop) (hrd : rec.state = .ready) (w0 : World) (M0 R0 : Nat → Prop) : TC Try.prog ⟨w0, M0, R0⟩ ⟨17, some l0, []⟩ (RoundQ ⟨w0, M0, R0⟩ (.inv 9 (recI l0 (busyR rec)) :: [.pin 8 4 u4, .row 6 3 1 (List.map en_int r.2), .blk 4 [.ref 0] 38, .pin 3 1 (env0 1), .blk 1 [.ref 6] 38, .ro 0 1 (List.map en_int cutters2)]) [] r.1) [.code (sub (bodyOf Try.f54) [1, 1, 0, 0]), .beginRound, .code (sub (bodyOf Try.f54) [1, 1, 0, 1])] (pSlots [8] (ye_funcint_bool x5) [(2, .ptr 1 0), (4, .ptr 4 0)]) (.inv 9 (recI l0 rec) :: yn_funcint_bool x5 ++ (fun y6 : (List Int) => [.pin 8 4 u4, .row 6 3 1 (List.map en_int y6), .blk 4 [.ref 0] 38, .pin 3 1 (env0 1), .blk 1 [.ref 6] 38, .ro 0 1 (List.map en_int cutters2)]) y6) := by
  rw [ev_train_Missing_1_r0] at h
  refine subJ (s' := [(2, .ptr 1 0), (4, .ptr 4 0), (8, .val (.int .i64 x5))]) (V' := [.inv 9 (recI l0 rec), .pin 8 4 u4, .row 6 3 1 (List.map en_int y6), .blk 4 [.ref 0] 38, .pin 3 1 (env0 1), .blk 1 [.ref 6] 38, .ro 0 1 (List.map en_int cutters2)]) [] ?_ ⟨rfl, rfl, rfl, trivial⟩ ⟨mem_at 0 rfl, mem_at 1 rfl, mem_at 2 rfl, mem_at 3 rfl, mem_at 4 rfl, mem_at 5 rfl, mem_at 6 rfl, trivial⟩ rfl
  refine TC.region ?_
  refine op0 (sp_alloc 10 rfl Try.zeroValue3 rfl) rfl trivial rfl rfl ?_
  refine stoB 0 (cells' := [.val (.int .i64 x5)]) rfl rfl trivial rfl rfl rfl rfl vt3 rfl rfl rfl ?_
  refine TL.nil ?_
  refine TC.beginRound 1 rfl hrd ?_
  refine TC.block ?_
  refine TC.seq ?_
  refine TC.region ?_
  refine op1 4 rfl (sp_loadB rfl isBlk rfl vt38 rfl) rfl trivial rfl rfl ?_
  refine op0 (sp_makeFunc (fi := []) (ca := [.tmp 5]) (fa := []) (cb := [.ptr 10 0]) rfl rfl rfl) rfl trivial rfl rfl ?_
  obtain ⟨r7, h2, h⟩ := bind_inv h
  refine opN (need := [.ro 0 1 (List.map en_int cutters2), .blk 10 [.val (.int .i64 x5)] 3]) [7, 0] ⟨rfl, rfl, trivial⟩ (sp_call (avs := [.ref 0, .fn 57 [] [.ptr 10 0]]) (need := [.ro 0 1 (List.map en_int cutters2), .blk 10 [.val (.int .i64 x5)] 3]) (v := .val (.bool r7)) (news := []) rfl rfl rfl Try.call56 (FC.needJ (need := [.ro 0 1 (List.map en_int cutters2), .rob 10 [.val (.int .i64 x5)] 3]) (need' := [.rob 10 [.val (.int .i64 x5)] 3, .ro 0 1 (List.map en_int cutters2)]) [1, 0] ⟨rfl, rfl, trivial⟩ (FC.fnArg (args := [.ref 0, .ref 11]) (needC := [.rob 10 [.val (.int .i64 x5)] 3]) (need := [.ro 0 1 (List.map en_int cutters2)]) 1 (first := []) (caps := [.ptr 10 0]) (FC.needJ (need := [.any 11 (D.fn Try.prog fe_funcint_bool fd_funcint_bool (fun a => ev_train_Missing_1_1 n a x5)), .ro 0 1 (List.map en_int cutters2)]) (need' := [.ro 0 1 (List.map en_int cutters2), .any 11 (D.fn Try.prog fe_funcint_bool fd_funcint_bool (fun a => ev_train_Missing_1_1 n a x5))]) [1, 0] ⟨rfl, rfl, trivial⟩ (atJ [(1, 11)] [] (fc_slices_ContainsFunc_Lint_int h2) rfl rfl)) rfl Try.call57 (fun a b hab => atJ [(0, 10)] [] (fc_train_Missing_1_1 hab) rfl rfl) rfl (fun _ => rfl) (fun _ => rfl) rfl rfl rfl rfl rfl rfl rfl)) (.inr (fun x hx => nomatch hx))) rfl trivial rfl rfl ?_
  refine op0 (sp_not rfl rfl) rfl trivial rfl rfl ?_
  refine TL.nil ?_
  refine TC.cond (b := (!r7)) rfl (fun h3 => ?_) (fun h3 => ?_)
  · have h := cond_t h h3
    refine TC.region ?_
    refine op1 6 rfl (sp_loadB rfl isBlk rfl vt38 rfl) rfl trivial rfl rfl ?_
    refine op1 0 rfl (sp_loadB rfl isBlk rfl vt3 rfl) rfl trivial rfl rfl ?_
    refine op0 (sp_buildSlice (qs := [.val (.int .i64 x5)]) (need := []) (els := List.map en_int ([x5] : List Int)) 12 rfl sl38 (by decide) (by decide) rfl rfl rfl (.v (.nil)) (map_len fun _ => rfl) rfl rfl rfl) rfl trivial rfl rfl ?_
    obtain ⟨h4, h⟩ := chk_inv h
    refine appM 4 0 (N := y6.length) (N2 := ([x5] : List Int).length) 13 rfl rfl trivial rfl rfl rfl rfl rfl isOwn rfl sl38 (len_map _ _) (len_map _ _) h4 (map_app _ _ _) rfl ?_
    refine stoB 7 (cells' := [.ref 13]) rfl rfl trivial rfl rfl rfl rfl vt38 rfl rfl rfl ?_
    refine TL.nil ?_
    refine TC.inBlock ?_
    cases h
    exact bodyEnd [(6, 13)] ⟨mem_at 3 rfl, mem_at 4 rfl, mem_at 0 rfl, mem_at 5 rfl, mem_at 6 rfl, mem_at 7 rfl, mem_at 8 rfl, trivial⟩ rfl
  · have h := cond_f h h3
    refine TC.skip ?_
    refine TC.inBlock ?_
    cases h
    exact bodyEnd [] ⟨mem_at 1 rfl, mem_at 2 rfl, mem_at 3 rfl, mem_at 4 rfl, mem_at 5 rfl, mem_at 6 rfl, mem_at 7 rfl, trivial⟩ rfl
def ev_train_Missing_1 (n : Nat) (nn1 : Int) (cutters2 : List Int) : Option ((List Int)) :=
  (ev_train_primes n nn1).bind fun r3 => (ev_train_primes_1 (loopStep (ev_train_Missing_1_r0 n cutters2)) n (([] : List Int), 0) r3).bind fun q8 => cond (q8.1.2 == 0) (some q8.1.1) (none)
set_option maxRecDepth 100000 in
set_option maxHeartbeats 2000000 in
theorem ft_train_Missing_1 {n : Nat} {nn1 : Int} {cutters2 : List Int} {r : (List Int)} (h : ev_train_Missing_1 n nn1 cutters2 = some r) : FT Try.prog 54 [.val (.int .i64 nn1), .ref 0, .ptr 1 0] [.blk 1 [.val (.slice none 0 0)] 38] [.ro 0 1 (List.map en_int cutters2)] (.tup []) [.row 500 3 1 (List.map en_int r), .blk 1 [.ref 500] 38] := by
  refine introM (nz := 17) 2 [(3, 1)] Try.func54 rfl rfl rfl rfl (fun w0 M0 R0 env0 => ?_)
  rw [ev_train_Missing_1] at h
  refine TC.seq ?_
  refine TC.region ?_
  refine op0 (sp_box 4 rfl rfl rfl rfl rfl) rfl trivial rfl rfl ?_
  refine TL.nil ?_
  refine TC.seq ?_
  refine TC.region ?_
  refine op0 (sp_move rfl rfl) rfl trivial rfl rfl ?_
  obtain ⟨r3, h1, h⟩ := bind_inv h
  refine op0 (sp_call (avs := [.val (.int .i64 nn1)]) (need := []) (v := .fn 72 [] [.ptr 5 0]) (news := [.blk 5 [.val (.int .i64 r3)] 3]) rfl rfl rfl Try.call55 (atJ [] [(0, 5)] (fc_train_primes h1) rfl rfl) (.inl (roAll rfl))) rfl trivial rfl rfl ?_
  refine TL.nil ?_
  refine TC.block ?_
  refine nilCellC 4 6 3 1 1 (List.map en_int []) [.ref 6] rfl rfl rfl ?_
  refine TC.pin 8 4 rfl rfl fun u4 => ?_
  obtain ⟨q8, h5, h⟩ := bind_inv h
  refine rangeO (T := [.blk 5 [.val (.int .i64 r3)] 3]) (T' := [.blk 5 [.val (.int .i64 q8.2)] 3]) (k := 7) (gm := 2) (grec := 9) (S := [(2, .ptr 1 0), (4, .ptr 4 0)]) (V0 := (fun y6 : (List Int) => [.pin 8 4 u4, .row 6 3 1 (List.map en_int y6), .blk 4 [.ref 0] 38, .pin 3 1 (env0 1), .blk 1 [.ref 6] 38, .ro 0 1 (List.map en_int cutters2)])) (needI := []) (ps := [8]) (jl := []) (ea := ye_funcint_bool) (en := yn_funcint_bool) (f := (ev_train_Missing_1_r0 n cutters2)) (s0 := (([] : List Int), 0)) (yf := q8.1) (v := .tup []) (fi := []) (caps := [.ptr 5 0])
    ⟨fun x y r hr l rec hrd w0 M0 R0 => ok_train_Missing_1_r0 (u4 := u4) hr l rec hrd w0 M0 R0, ⟨rfl, rfl, trivial⟩, At.mem (is := [0, 1, 3, 5, 6, 7]) ⟨rfl, rfl, rfl, rfl, rfl, rfl, trivial⟩, At.mem (is := []) trivial, rfl, pinsIn [1, 4] [3, 0] ⟨⟨_, _, fun _ => rfl⟩, ⟨_, _, fun _ => rfl⟩, trivial⟩ rfl, rfl, fun _ => rfl, fun _ _ => rfl, fun _ => rfl, fun _ _ => rfl, fun _ => rfl, fun _ => rfl, fun _ => rfl, rfl, rfl, fun _ => rfl, rfl⟩
    rfl rfl Try.call72 ⟨At.mem (is := [2]) ⟨rfl, trivial⟩, rfl, rfl, rfl⟩ 4 rfl (fun I hI => atT [(0, 7), (1, 5)] [(0, 7), (1, 5)] (ft_train_primes_1 hI h5) rfl rfl rfl) (fun d => ?_)
  rcases cond_cases h with ⟨h6, h⟩ | ⟨h6, h⟩
  · refine done0 h6 ?_
    refine TC.inBlock ?_
    cases h
    exact endM [(500, 6)] 0 2 [1] rfl (.nil) rfl ⟨mem_at 1 rfl, mem_at 4 rfl, trivial⟩ rfl rfl ⟨⟨_, mem_at 3 rfl⟩, trivial⟩ rfl
  · exact none_no h
/- train_Missing_1 -/
def ev_train_Missing_1_v1_r0 (n : Nat) (cutters2 : List Int) (x6 : Int) (y7 : (List Int)) : Option (Nat × ((List Int))) :=
  (ev_slices_ContainsFunc_Lint_int n cutters2 (fun a => ev_train_Missing_1_1 n a x6)).bind fun r8 => cond (!r8) (chk (room 8 (y7.length + ([x6] : List Int).length)) <| some (0, (y7 ++ ([x6] : List Int)))) (some (0, y7))
set_option maxRecDepth 100000 in
set_option maxHeartbeats 2000000 in
theorem ok_train_Missing_1_v1_r0 {n : Nat} {env0 : Env} {u5 : Value} {cutters2 : List Int} {x6 : Int} {y7 : (List Int)} {r : Nat × ((List Int))} (h : ev_train_Missing_1_v1_r0 n cutters2 x6 y7 = some r) (l0 : Nat) (rec : Loop) (hrd : rec.state = .ready) (w0 : World) (M0 R0 : Nat → Prop) : TC Try.prog ⟨w0, M0, R0⟩ ⟨17, some l0, []⟩ (RoundQ ⟨w0, M0, R0⟩ (.inv 9 (recI l0 (busyR rec)) :: [.pin 8 5 u5, .blk 5 [.ref 0] 38, .pin 4 1 (env0 1), .blk 1 [.ref 2] 38, .row 2 3 1 (List.map en_int r.2), .ro 0 1 (List.map en_int cutters2)]) [] r.1) [.code (sub (bodyOf Try.f54) [1, 1, 0, 0]), .beginRound, .code (sub (bodyOf Try.f54) [1, 1, 0, 1])] (pSlots [8] (ye_funcint_bool x6) [(2, .ptr 1 0), (4, .ptr 5 0)]) (.inv 9 (recI l0 rec) :: yn_funcint_bool x6 ++ (fun y7 : (List Int) => [.pin 8 5 u5, .blk 5 [.ref 0] 38, .pin 4 1 (env0 1), .blk 1 [.ref 2] 38, .row 2 3 1 (List.map en_int y7), .ro 0 1 (List.map en_int cutters2)]) y7) := by
  rw [ev_train_Missing_1_v1_r0] at h
  refine subJ (s' := [(2, .ptr 1 0), (4, .ptr 5 0), (8, .val (.int .i64 x6))]) (V' := [.inv 9 (recI l0 rec), .pin 8 5 u5, .blk 5 [.ref 0] 38, .pin 4 1 (env0 1), .blk 1 [.ref 2] 38, .row 2 3 1 (List.map en_int y7), .ro 0 1 (List.map en_int cutters2)]) [] ?_ ⟨rfl, rfl, rfl, trivial⟩ ⟨mem_at 0 rfl, mem_at 1 rfl, mem_at 2 rfl, mem_at 3 rfl, mem_at 4 rfl, mem_at 5 rfl, mem_at 6 rfl, trivial⟩ rfl
  refine TC.region ?_
  refine op0 (sp_alloc 10 rfl Try.zeroValue3 rfl) rfl trivial rfl rfl ?_
  refine stoB 0 (cells' := [.val (.int .i64 x6)]) rfl rfl trivial rfl rfl rfl rfl vt3 rfl rfl rfl ?_
  refine TL.nil ?_
  refine TC.beginRound 1 rfl hrd ?_
  refine TC.block ?_
  refine TC.seq ?_
  refine TC.region ?_
  refine op1 3 rfl (sp_loadB rfl isBlk rfl vt38 rfl) rfl trivial rfl rfl ?_
  refine op0 (sp_makeFunc (fi := []) (ca := [.tmp 5]) (fa := []) (cb := [.ptr 10 0]) rfl rfl rfl) rfl trivial rfl rfl ?_
  obtain ⟨r8, h2, h⟩ := bind_inv h
  refine opN (need := [.ro 0 1 (List.map en_int cutters2), .blk 10 [.val (.int .i64 x6)] 3]) [7, 0] ⟨rfl, rfl, trivial⟩ (sp_call (avs := [.ref 0, .fn 57 [] [.ptr 10 0]]) (need := [.ro 0 1 (List.map en_int cutters2), .blk 10 [.val (.int .i64 x6)] 3]) (v := .val (.bool r8)) (news := []) rfl rfl rfl Try.call56 (FC.needJ (need := [.ro 0 1 (List.map en_int cutters2), .rob 10 [.val (.int .i64 x6)] 3]) (need' := [.rob 10 [.val (.int .i64 x6)] 3, .ro 0 1 (List.map en_int cutters2)]) [1, 0] ⟨rfl, rfl, trivial⟩ (FC.fnArg (args := [.ref 0, .ref 11]) (needC := [.rob 10 [.val (.int .i64 x6)] 3]) (need := [.ro 0 1 (List.map en_int cutters2)]) 1 (first := []) (caps := [.ptr 10 0]) (FC.needJ (need := [.any 11 (D.fn Try.prog fe_funcint_bool fd_funcint_bool (fun a => ev_train_Missing_1_1 n a x6)), .ro 0 1 (List.map en_int cutters2)]) (need' := [.ro 0 1 (List.map en_int cutters2), .any 11 (D.fn Try.prog fe_funcint_bool fd_funcint_bool (fun a => ev_train_Missing_1_1 n a x6))]) [1, 0] ⟨rfl, rfl, trivial⟩ (atJ [(1, 11)] [] (fc_slices_ContainsFunc_Lint_int h2) rfl rfl)) rfl Try.call57 (fun a b hab => atJ [(0, 10)] [] (fc_train_Missing_1_1 hab) rfl rfl) rfl (fun _ => rfl) (fun _ => rfl) rfl rfl rfl rfl rfl rfl rfl)) (.inr (fun x hx => nomatch hx))) rfl trivial rfl rfl ?_
  refine op0 (sp_not rfl rfl) rfl trivial rfl rfl ?_
  refine TL.nil ?_
  refine TC.cond (b := (!r8)) rfl (fun h3 => ?_) (fun h3 => ?_)
  · have h := cond_t h h3
    refine TC.region ?_
    refine op1 5 rfl (sp_loadB rfl isBlk rfl vt38 rfl) rfl trivial rfl rfl ?_
    refine op1 0 rfl (sp_loadB rfl isBlk rfl vt3 rfl) rfl trivial rfl rfl ?_
    refine op0 (sp_buildSlice (qs := [.val (.int .i64 x6)]) (need := []) (els := List.map en_int ([x6] : List Int)) 12 rfl sl38 (by decide) (by decide) rfl rfl rfl (.v (.nil)) (map_len fun _ => rfl) rfl rfl rfl) rfl trivial rfl rfl ?_
    obtain ⟨h4, h⟩ := chk_inv h
    refine appM 7 0 (N := y7.length) (N2 := ([x6] : List Int).length) 13 rfl rfl trivial rfl rfl rfl rfl rfl isOwn rfl sl38 (len_map _ _) (len_map _ _) h4 (map_app _ _ _) rfl ?_
    refine stoB 7 (cells' := [.ref 13]) rfl rfl trivial rfl rfl rfl rfl vt38 rfl rfl rfl ?_
    refine TL.nil ?_
    refine TC.inBlock ?_
    cases h
    exact bodyEnd [(2, 13)] ⟨mem_at 3 rfl, mem_at 4 rfl, mem_at 5 rfl, mem_at 6 rfl, mem_at 7 rfl, mem_at 0 rfl, mem_at 8 rfl, trivial⟩ rfl
  · have h := cond_f h h3
    refine TC.skip ?_
    refine TC.inBlock ?_
    cases h
    exact bodyEnd [] ⟨mem_at 1 rfl, mem_at 2 rfl, mem_at 3 rfl, mem_at 4 rfl, mem_at 5 rfl, mem_at 6 rfl, mem_at 7 rfl, trivial⟩ rfl
def ev_train_Missing_1_v1 (n : Nat) (nn1 : Int) (cutters2 : List Int) (c3 : List Int) : Option ((List Int)) :=
  (ev_train_primes n nn1).bind fun r4 => (ev_train_primes_1 (loopStep (ev_train_Missing_1_v1_r0 n cutters2)) n (c3, 0) r4).bind fun q9 => cond (q9.1.2 == 0) (some q9.1.1) (none)
set_option maxRecDepth 100000 in
set_option maxHeartbeats 2000000 in
theorem ft_train_Missing_1_v1 {n : Nat} {nn1 : Int} {cutters2 : List Int} {c3 : List Int} {r : (List Int)} (h : ev_train_Missing_1_v1 n nn1 cutters2 c3 = some r) : FT Try.prog 54 [.val (.int .i64 nn1), .ref 0, .ptr 1 0] [.blk 1 [.ref 2] 38, .row 2 3 1 (List.map en_int c3)] [.ro 0 1 (List.map en_int cutters2)] (.tup []) [.row 500 3 1 (List.map en_int r), .blk 1 [.ref 500] 38] := by
  refine introM (nz := 17) 3 [(4, 1)] Try.func54 rfl rfl rfl rfl (fun w0 M0 R0 env0 => ?_)
  rw [ev_train_Missing_1_v1] at h
  refine TC.seq ?_
  refine TC.region ?_
  refine op0 (sp_box 5 rfl rfl rfl rfl rfl) rfl trivial rfl rfl ?_
  refine TL.nil ?_
  refine TC.seq ?_
  refine TC.region ?_
  refine op0 (sp_move rfl rfl) rfl trivial rfl rfl ?_
  obtain ⟨r4, h1, h⟩ := bind_inv h
  refine op0 (sp_call (avs := [.val (.int .i64 nn1)]) (need := []) (v := .fn 72 [] [.ptr 6 0]) (news := [.blk 6 [.val (.int .i64 r4)] 3]) rfl rfl rfl Try.call55 (atJ [] [(0, 6)] (fc_train_primes h1) rfl rfl) (.inl (roAll rfl))) rfl trivial rfl rfl ?_
  refine TL.nil ?_
  refine TC.block ?_
  refine TC.pin 8 5 rfl rfl fun u5 => ?_
  obtain ⟨q9, h5, h⟩ := bind_inv h
  refine rangeO (T := [.blk 6 [.val (.int .i64 r4)] 3]) (T' := [.blk 6 [.val (.int .i64 q9.2)] 3]) (k := 7) (gm := 3) (grec := 9) (S := [(2, .ptr 1 0), (4, .ptr 5 0)]) (V0 := (fun y7 : (List Int) => [.pin 8 5 u5, .blk 5 [.ref 0] 38, .pin 4 1 (env0 1), .blk 1 [.ref 2] 38, .row 2 3 1 (List.map en_int y7), .ro 0 1 (List.map en_int cutters2)])) (needI := []) (ps := [8]) (jl := []) (ea := ye_funcint_bool) (en := yn_funcint_bool) (f := (ev_train_Missing_1_v1_r0 n cutters2)) (s0 := (c3, 0)) (yf := q9.1) (v := .tup []) (fi := []) (caps := [.ptr 6 0])
    ⟨fun x y r hr l rec hrd w0 M0 R0 => ok_train_Missing_1_v1_r0 (u5 := u5) hr l rec hrd w0 M0 R0, ⟨rfl, rfl, trivial⟩, At.mem (is := [0, 2, 4, 5, 6, 7]) ⟨rfl, rfl, rfl, rfl, rfl, rfl, trivial⟩, At.mem (is := []) trivial, rfl, pinsIn [1, 5] [2, 0] ⟨⟨_, _, fun _ => rfl⟩, ⟨_, _, fun _ => rfl⟩, trivial⟩ rfl, rfl, fun _ => rfl, fun _ _ => rfl, fun _ => rfl, fun _ _ => rfl, fun _ => rfl, fun _ => rfl, fun _ => rfl, rfl, rfl, fun _ => rfl, rfl⟩
    rfl rfl Try.call72 ⟨At.mem (is := [1]) ⟨rfl, trivial⟩, rfl, rfl, rfl⟩ 3 rfl (fun I hI => atT [(0, 7), (1, 6)] [(0, 7), (1, 6)] (ft_train_primes_1 hI h5) rfl rfl rfl) (fun d => ?_)
  rcases cond_cases h with ⟨h6, h⟩ | ⟨h6, h⟩
  · refine done0 h6 ?_
    refine TC.inBlock ?_
    cases h
    exact endM [(500, 2)] 0 3 [1] rfl (.nil) rfl ⟨mem_at 4 rfl, mem_at 3 rfl, trivial⟩ rfl rfl ⟨⟨_, mem_at 2 rfl⟩, trivial⟩ rfl
  · exact none_no h
/- train_Missing -/
def ev_train_Missing (n : Nat) (s1 : List Int) (s2 : List Int) (want3 : Int) (want4 : Int) : Option ((List Int) × Int) :=
  (ev_train_open n s1 s2 want3 want4).bind fun r5 => cond (r5.2.2.2.2 != 0) (some (([] : List Int), r5.2.2.2.2)) ((ev_train_Missing_1 n r5.2.2.1 r5.1).bind fun r6 => (ev_train_Missing_1_v1 n r5.2.2.2.1 r5.2.1 r6).bind fun r7 => (ev_slices_Sort_Lint_int n r7).bind fun r8 => some (r8, 0))
set_option maxRecDepth 100000 in
set_option maxHeartbeats 2000000 in
theorem fc_train_Missing {n : Nat} {s1 : List Int} {s2 : List Int} {want3 : Int} {want4 : Int} {r : (List Int) × Int} (h : ev_train_Missing n s1 s2 want3 want4 = some r) : FC Try.prog 21 [.agg [.ref 0, .ref 1], .agg [.val (.int .i64 want3), .val (.int .i64 want4)]] [.ro 0 1 (List.map en_int s1), .ro 1 1 (List.map en_int s2)] (.tup [.ref 0, .val (.int .i64 r.2)]) [.row 0 3 1 (List.map en_int r.1)] := by
  refine introJ (nz := 37) Try.func21 rfl rfl rfl (fun w0 R0 env0 => ?_)
  rw [ev_train_Missing] at h
  refine TC.seq ?_
  refine TC.region ?_
  refine op0 (sp_box 2 rfl rfl rfl rfl rfl) rfl trivial rfl rfl ?_
  refine op0 (sp_box 3 rfl rfl rfl rfl rfl) rfl trivial rfl rfl ?_
  refine op0 (sp_alloc 4 rfl Try.zeroValue38 rfl) rfl trivial rfl rfl ?_
  refine op0 (sp_assign rfl rfl) rfl trivial rfl rfl ?_
  refine TL.nil ?_
  refine TC.seq ?_
  refine TC.region ?_
  refine op1 2 rfl (sp_loadBA rfl isBlk rfl vt40 rfl rfl) rfl trivial rfl rfl ?_
  refine op1 1 rfl (sp_loadBA rfl isBlk rfl vt26 rfl rfl) rfl trivial rfl rfl ?_
  obtain ⟨r5, h1, h⟩ := bind_inv h
  refine opN (need := [.ro 0 1 (List.map en_int s1), .ro 1 1 (List.map en_int s2)]) [3, 4] ⟨rfl, rfl, trivial⟩ (sp_call (avs := [.agg [.ref 0, .ref 1], .agg [.val (.int .i64 want3), .val (.int .i64 want4)]]) (need := [.ro 0 1 (List.map en_int s1), .ro 1 1 (List.map en_int s2)]) (v := .tup [.agg [.ref 5, .ref 6, .val (.int .i64 r5.2.2.1), .val (.int .i64 r5.2.2.2.1)], .val (.int .i64 r5.2.2.2.2)]) (news := [.ro 5 1 (List.map en_int r5.1), .ro 6 1 (List.map en_int r5.2.1)]) rfl rfl rfl Try.call53 (atJ [] [(0, 5), (1, 6)] (fc_train_open h1) rfl rfl) (.inl (roAll rfl))) rfl trivial rfl rfl ?_
  refine op0 (sp_move rfl rfl) rfl trivial rfl rfl ?_
  refine op0 (sp_extract rfl rfl rfl) rfl trivial rfl rfl ?_
  refine op0 (sp_extract rfl rfl rfl) rfl trivial rfl rfl ?_
  refine op0 (sp_alloc 7 rfl Try.zeroValue94 rfl) rfl trivial rfl rfl ?_
  refine stoB 0 (cells' := [.ref 5, .ref 6, .val (.int .i64 r5.2.2.1), .val (.int .i64 r5.2.2.2.1)]) rfl rfl trivial rfl rfl rfl rfl vt94 rfl rfl rfl ?_
  refine op0 (sp_assign rfl rfl) rfl trivial rfl rfl ?_
  refine TL.nil ?_
  refine TC.seq ?_
  refine TC.seq ?_
  refine TC.region ?_
  refine op0 (sp_move rfl rfl) rfl trivial rfl rfl ?_
  refine op0 (sp_neq rfl rfl rfl) rfl trivial rfl rfl ?_
  refine TL.nil ?_
  refine TC.cond (b := (r5.2.2.2.2 != 0)) rfl (fun h2 => ?_) (fun h2 => ?_)
  · have h := cond_t h h2
    refine TC.seq ?_
    refine TC.region ?_
    refine op0 (sp_move rfl rfl) rfl trivial rfl rfl ?_
    refine stoB 3 (cells' := [.val (.slice none 0 0)]) rfl rfl trivial rfl rfl rfl rfl vt38 rfl rfl rfl ?_
    refine op0 (sp_assign rfl rfl) rfl trivial rfl rfl ?_
    refine TL.nil ?_
    refine nilCellC 3 8 3 1 4 (List.map en_int []) [.ref 8] rfl rfl rfl ?_
    cases h
    exact retJ [(0, 8)] (.cell rfl (mem_at 4 rfl) isBlk vt38 rfl (.tmp rfl .nil)) rfl ⟨mem_at 0 rfl, trivial⟩ rfl rfl
  · have h := cond_f h h2
    refine TC.skip ?_
    refine TC.seq ?_
    refine TC.region ?_
    refine op0 (sp_makeFunc (fi := []) (ca := [.tmp 4]) (fa := []) (cb := [.ptr 4 0]) rfl rfl rfl) rfl trivial rfl rfl ?_
    refine op0 (sp_assign rfl rfl) rfl trivial rfl rfl ?_
    refine TL.nil ?_
    refine TC.seq ?_
    refine TC.region ?_
    refine op0 (sp_move rfl rfl) rfl trivial rfl rfl ?_
    refine op1 0 rfl (sp_fieldAddrB rfl isBlk rfl ft94_1 vt26 (by decide)) rfl trivial rfl rfl ?_
    refine op1 0 rfl (sp_fieldAddrB rfl isBlk rfl ft26_0 vt3 (by decide)) rfl trivial rfl rfl ?_
    refine op1 0 rfl (sp_loadB rfl isBlk rfl vt3 rfl) rfl trivial rfl rfl ?_
    refine op1 0 rfl (sp_fieldAddrB rfl isBlk rfl ft94_0 vt40 (by decide)) rfl trivial rfl rfl ?_
    refine op1 0 rfl (sp_fieldAddrB rfl isBlk rfl ft40_0 vt38 (by decide)) rfl trivial rfl rfl ?_
    refine op1 0 rfl (sp_loadB rfl isBlk rfl vt38 rfl) rfl trivial rfl rfl ?_
    obtain ⟨r6, h3, h⟩ := bind_inv h
    refine opT (take := [.blk 4 [.val (.slice none 0 0)] 38]) (need := [.ro 5 1 (List.map en_int r5.1)]) (V' := [.row 9 3 1 (List.map en_int r6), .blk 4 [.ref 9] 38, .blk 7 [.ref 5, .ref 6, .val (.int .i64 r5.2.2.1), .val (.int .i64 r5.2.2.2.1)] 94, .ro 5 1 (List.map en_int r5.1), .ro 6 1 (List.map en_int r5.2.1), .blk 3 [.val (.int .i64 want3), .val (.int .i64 want4)] 26, .blk 2 [.ref 0, .ref 1] 40, .ro 0 1 (List.map en_int s1), .ro 1 1 (List.map en_int s2)]) [3] [1] (ts_call (avs := [.val (.int .i64 r5.2.2.1), .ref 5]) (take := [.blk 4 [.val (.slice none 0 0)] 38]) (need := [.ro 5 1 (List.map en_int r5.1)]) (v := .tup []) (news := [.row 9 3 1 (List.map en_int r6), .blk 4 [.ref 9] 38]) rfl rfl rfl Try.call54 (atT [(0, 5), (1, 4)] [(500, 9), (1, 4)] (ft_train_Missing_1 h3) rfl rfl rfl) rfl rfl) trivial rfl ⟨rfl, trivial⟩ ⟨rfl, trivial⟩ rfl rfl ?_
    refine TL.nil ?_
    refine TC.seq ?_
    refine TC.region ?_
    refine op0 (sp_move rfl rfl) rfl trivial rfl rfl ?_
    refine op1 2 rfl (sp_fieldAddrB rfl isBlk rfl ft94_1 vt26 (by decide)) rfl trivial rfl rfl ?_
    refine op1 2 rfl (sp_fieldAddrB rfl isBlk rfl ft26_1 vt3 (by decide)) rfl trivial rfl rfl ?_
    refine op1 2 rfl (sp_loadB rfl isBlk rfl vt3 rfl) rfl trivial rfl rfl ?_
    refine op1 2 rfl (sp_fieldAddrB rfl isBlk rfl ft94_0 vt40 (by decide)) rfl trivial rfl rfl ?_
    refine op1 2 rfl (sp_fieldAddrB rfl isBlk rfl ft40_1 vt38 (by decide)) rfl trivial rfl rfl ?_
    refine op1 2 rfl (sp_loadB rfl isBlk rfl vt38 rfl) rfl trivial rfl rfl ?_
    obtain ⟨r7, h4, h⟩ := bind_inv h
    refine opT (take := [.blk 4 [.ref 9] 38, .row 9 3 1 (List.map en_int r6)]) (need := [.ro 6 1 (List.map en_int r5.2.1)]) (V' := [.row 10 3 1 (List.map en_int r7), .blk 4 [.ref 10] 38, .blk 7 [.ref 5, .ref 6, .val (.int .i64 r5.2.2.1), .val (.int .i64 r5.2.2.2.1)] 94, .ro 5 1 (List.map en_int r5.1), .ro 6 1 (List.map en_int r5.2.1), .blk 3 [.val (.int .i64 want3), .val (.int .i64 want4)] 26, .blk 2 [.ref 0, .ref 1] 40, .ro 0 1 (List.map en_int s1), .ro 1 1 (List.map en_int s2)]) [1, 0] [4] (ts_call (avs := [.val (.int .i64 r5.2.2.2.1), .ref 6]) (take := [.blk 4 [.ref 9] 38, .row 9 3 1 (List.map en_int r6)]) (need := [.ro 6 1 (List.map en_int r5.2.1)]) (v := .tup []) (news := [.row 10 3 1 (List.map en_int r7), .blk 4 [.ref 10] 38]) rfl rfl rfl Try.call54 (atT [(0, 6), (1, 4), (2, 9)] [(500, 10), (1, 4)] (ft_train_Missing_1_v1 h4) rfl rfl rfl) rfl rfl) trivial rfl ⟨rfl, rfl, trivial⟩ ⟨rfl, trivial⟩ rfl rfl ?_
    refine TL.nil ?_
    refine TC.seq ?_
    refine TC.region ?_
    refine op1 1 rfl (sp_loadB rfl isBlk rfl vt38 rfl) rfl trivial rfl rfl ?_
    obtain ⟨r8, h5, h⟩ := bind_inv h
    refine opT (take := [.row 10 3 1 (List.map en_int r7)]) (need := []) (V' := [.row 10 3 1 (List.map en_int r8), .blk 4 [.ref 10] 38, .blk 7 [.ref 5, .ref 6, .val (.int .i64 r5.2.2.1), .val (.int .i64 r5.2.2.2.1)] 94, .ro 5 1 (List.map en_int r5.1), .ro 6 1 (List.map en_int r5.2.1), .blk 3 [.val (.int .i64 want3), .val (.int .i64 want4)] 26, .blk 2 [.ref 0, .ref 1] 40, .ro 0 1 (List.map en_int s1), .ro 1 1 (List.map en_int s2)]) [0] [] (ts_call (avs := [.ref 10]) (take := [.row 10 3 1 (List.map en_int r7)]) (need := []) (v := .tup []) (news := [.row 10 3 1 (List.map en_int r8)]) rfl rfl rfl Try.call58 (atT [(0, 10)] [(0, 10)] (ft_slices_Sort_Lint_int h5) rfl rfl rfl) rfl rfl) trivial rfl ⟨rfl, trivial⟩ trivial rfl rfl ?_
    refine TL.nil ?_
    refine TC.seq ?_
    refine TC.region ?_
    refine op1 1 rfl (sp_loadB rfl isBlk rfl vt38 rfl) rfl trivial rfl rfl ?_
    refine stoB 1 (cells' := [.ref 10]) rfl rfl trivial rfl rfl rfl rfl vt38 rfl rfl rfl ?_
    refine op0 (sp_assign rfl rfl) rfl trivial rfl rfl ?_
    refine TL.nil ?_
    cases h
    exact retJ [(0, 10)] (.cell rfl (mem_at 1 rfl) isBlk vt38 rfl (.tmp rfl .nil)) rfl ⟨mem_at 0 rfl, trivial⟩ rfl rfl
/- train_search_trains -/
def ev_train_search_trains (n : Nat) (x1 : List Int) (x2 : List Int) (x3 : Int) (x4 : Int) (most5 : Int) : Option (Int × (List Int) × (List Int) × Int × Int) :=
  some (most5, x1, x2, x3, x4)
set_option maxRecDepth 100000 in
set_option maxHeartbeats 2000000 in
theorem fc_train_search_trains {n : Nat} {x1 : List Int} {x2 : List Int} {x3 : Int} {x4 : Int} {most5 : Int} {r : Int × (List Int) × (List Int) × Int × Int} (h : ev_train_search_trains n x1 x2 x3 x4 most5 = some r) : FC Try.prog 63 [.agg [.ref 0, .ref 1, .val (.int .i64 x3), .val (.int .i64 x4)], .val (.int .i64 most5)] [.ro 0 1 (List.map en_int x1), .ro 1 1 (List.map en_int x2)] (.fn 79 [] [.ptr 0 0, .ptr 1 0]) [.blk 0 [.val (.int .i64 r.1)] 3, .blk 1 [.ref 2, .ref 3, .val (.int .i64 r.2.2.2.1), .val (.int .i64 r.2.2.2.2)] 94, .ro 2 1 (List.map en_int r.2.1), .ro 3 1 (List.map en_int r.2.2.1)] := by
  refine introJ (nz := 6) Try.func63 rfl rfl rfl (fun w0 R0 env0 => ?_)
  rw [ev_train_search_trains] at h
  refine TC.seq ?_
  refine TC.region ?_
  refine op0 (sp_box 2 rfl rfl rfl rfl rfl) rfl trivial rfl rfl ?_
  refine op0 (sp_box 3 rfl rfl rfl rfl rfl) rfl trivial rfl rfl ?_
  refine op0 (sp_assign rfl rfl) rfl trivial rfl rfl ?_
  refine TL.nil ?_
  refine TC.seq ?_
  refine TC.region ?_
  refine op0 (sp_makeFunc (fi := []) (ca := [.tmp 3, .tmp 2]) (fa := []) (cb := [.ptr 3 0, .ptr 2 0]) rfl rfl rfl) rfl trivial rfl rfl ?_
  refine op0 (sp_assign rfl rfl) rfl trivial rfl rfl ?_
  refine TL.nil ?_
  cases h
  exact retJ [(0, 3), (1, 2), (2, 0), (3, 1)] (.tmp rfl .nil) rfl ⟨mem_at 0 rfl, mem_at 1 rfl, mem_at 2 rfl, mem_at 3 rfl, trivial⟩ rfl rfl
/- train_search_trains_1 -/
def ev_train_search_trains_1_r2 {σ1 : Type} (yb1 : ((List Int) × (List Int) × Int × Int) → σ1 → Option (Bool × σ1)) (n : Nat) (x17 : (List Int) × Int) (i9 : Int) (i8 : Int) (x21 : (List Int) × Int) (y22 : σ1) : Option (Nat × σ1) :=
  chk (in64 (x17.2 * i9)) <| chk (in64 (x21.2 * i8)) <| chk (in64 ((x17.2 * i9) - (x21.2 * i8))) <| chk (in64 (0 - ((x17.2 * i9) - (x21.2 * i8)))) <| (yb1 (x17.1, x21.1, (max ((x17.2 * i9) - (x21.2 * i8)) (0 - ((x17.2 * i9) - (x21.2 * i8)))), x21.2) y22).bind fun r23 => cond (!r23.1) (some (1, r23.2)) (some (0, r23.2))
set_option maxRecDepth 100000 in
set_option maxHeartbeats 2000000 in
theorem ok_train_search_trains_1_r2 {σ1 : Type} {yb1 : ((List Int) × (List Int) × Int × Int) → σ1 → Option (Bool × σ1)} {I1 : σ1 → Inv} (hI1 : Yields Try.prog ye_functrain_off_bool yn_functrain_off_bool yb1 I1) {n : Nat} {env0 : Env} {u20 : Value} {x17 : (List Int) × Int} {u16 : Value} {u15 : Value} {u14 : Value} {i7 : Int} {i8 : Int} {i9 : Int} {l10 : List Int} {l11 : List Int} {x21 : (List Int) × Int} {y22 : σ1} {r : Nat × σ1} (h : ev_train_search_trains_1_r2 yb1 n x17 i9 i8 x21 y22 = some r) (l0 : Nat) (rec : Loop) (hrd : rec.state = .ready) (w0 : World) (M0 R0 : Nat → Prop) : TC Try.prog ⟨w0, M0, R0⟩ ⟨55, some l0, []⟩ (RoundQ ⟨w0, M0, R0⟩ (.inv 26 (recI l0 (busyR rec)) :: [.pin 25 19 u20, .blk 19 [.ref 18, .val (.int .i64 x17.2)] 125, .ro 18 1 (List.map en_int x17.1), .pin 16 8 u16, .pin 15 7 u15, .pin 14 2 u14, .blk 8 [.val (.int .i64 i7)] 3, .rob 2 [.ref 3, .ref 4, .val (.int .i64 i8), .val (.int .i64 i9)] 94, .blk 7 [.ref 0] 126, .ro 3 1 (List.map en_int l10), .ro 4 1 (List.map en_int l11), .pin 6 0 (env0 0), .inv 0 (I1 r.2)]) [.ret] r.1) [.code (sub (bodyOf Try.f79) [1, 1, 0, 0, 1, 1, 0, 0, 1, 1, 0, 1, 0, 1, 0, 0]), .beginRound, .code (sub (bodyOf Try.f79) [1, 1, 0, 0, 1, 1, 0, 0, 1, 1, 0, 1, 0, 1, 0, 1])] (pSlots [25] (ye_functrain_counts_bool x21) [(2, .ptr 2 0), (3, .ptr 7 0), (5, .ptr 19 0)]) (.inv 26 (recI l0 rec) :: yn_functrain_counts_bool x21 ++ (fun y22 : σ1 => [.pin 25 19 u20, .blk 19 [.ref 18, .val (.int .i64 x17.2)] 125, .ro 18 1 (List.map en_int x17.1), .pin 16 8 u16, .pin 15 7 u15, .pin 14 2 u14, .blk 8 [.val (.int .i64 i7)] 3, .rob 2 [.ref 3, .ref 4, .val (.int .i64 i8), .val (.int .i64 i9)] 94, .blk 7 [.ref 0] 126, .ro 3 1 (List.map en_int l10), .ro 4 1 (List.map en_int l11), .pin 6 0 (env0 0), .inv 0 (I1 y22)]) y22) := by
  rw [ev_train_search_trains_1_r2] at h
  refine subJ (s' := [(2, .ptr 2 0), (3, .ptr 7 0), (5, .ptr 19 0), (25, .agg [.ref 27, .val (.int .i64 x21.2)])]) (V' := [.inv 26 (recI l0 rec), .ro 27 1 (List.map en_int x21.1), .pin 25 19 u20, .blk 19 [.ref 18, .val (.int .i64 x17.2)] 125, .ro 18 1 (List.map en_int x17.1), .pin 16 8 u16, .pin 15 7 u15, .pin 14 2 u14, .blk 8 [.val (.int .i64 i7)] 3, .rob 2 [.ref 3, .ref 4, .val (.int .i64 i8), .val (.int .i64 i9)] 94, .blk 7 [.ref 0] 126, .ro 3 1 (List.map en_int l10), .ro 4 1 (List.map en_int l11), .pin 6 0 (env0 0), .inv 0 (I1 y22)]) [(27, 900)] ?_ ⟨rfl, rfl, rfl, rfl, trivial⟩ ⟨mem_at 0 rfl, mem_at 1 rfl, mem_at 2 rfl, mem_at 3 rfl, mem_at 4 rfl, mem_at 5 rfl, mem_at 6 rfl, mem_at 7 rfl, mem_at 8 rfl, mem_at 9 rfl, mem_at 10 rfl, mem_at 11 rfl, mem_at 12 rfl, mem_at 13 rfl, mem_at 14 rfl, trivial⟩ rfl
  refine TC.region ?_
  refine op0 (sp_alloc 28 rfl Try.zeroValue125 rfl) rfl trivial rfl rfl ?_
  refine stoB 0 (cells' := [.ref 27, .val (.int .i64 x21.2)]) rfl rfl trivial rfl rfl rfl rfl vt125 rfl rfl rfl ?_
  refine TL.nil ?_
  refine TC.beginRound 1 rfl hrd ?_
  refine TC.block ?_
  refine TC.seq ?_
  refine TC.region ?_
  refine op1 4 rfl (sp_fieldAddrB rfl isBlk rfl ft125_1 vt3 (by decide)) rfl trivial rfl rfl ?_
  refine op1 4 rfl (sp_loadB rfl isBlk rfl vt3 rfl) rfl trivial rfl rfl ?_
  refine op1 10 rfl (sp_fieldAddrB rfl isRob rfl ft94_1 vt26 (by decide)) rfl trivial rfl rfl ?_
  refine op1 10 rfl (sp_fieldAddrB rfl isRob rfl ft26_1 vt3 (by decide)) rfl trivial rfl rfl ?_
  refine op1 10 rfl (sp_loadB rfl isRob rfl vt3 rfl) rfl trivial rfl rfl ?_
  obtain ⟨h6, h⟩ := chk_inv h
  refine op0 (sp_mul rfl rfl rfl h6) rfl trivial rfl rfl ?_
  refine op1 0 rfl (sp_fieldAddrB rfl isBlk rfl ft125_1 vt3 (by decide)) rfl trivial rfl rfl ?_
  refine op1 0 rfl (sp_loadB rfl isBlk rfl vt3 rfl) rfl trivial rfl rfl ?_
  refine op1 10 rfl (sp_fieldAddrB rfl isRob rfl ft94_1 vt26 (by decide)) rfl trivial rfl rfl ?_
  refine op1 10 rfl (sp_fieldAddrB rfl isRob rfl ft26_0 vt3 (by decide)) rfl trivial rfl rfl ?_
  refine op1 10 rfl (sp_loadB rfl isRob rfl vt3 rfl) rfl trivial rfl rfl ?_
  obtain ⟨h7, h⟩ := chk_inv h
  refine op0 (sp_mul rfl rfl rfl h7) rfl trivial rfl rfl ?_
  obtain ⟨h8, h⟩ := chk_inv h
  refine op0 (sp_sub rfl rfl rfl h8) rfl trivial rfl rfl ?_
  refine op0 (sp_assign rfl rfl) rfl trivial rfl rfl ?_
  refine TL.nil ?_
  refine TC.seq ?_
  refine TC.region ?_
  refine op1 11 rfl (sp_loadB rfl isBlk rfl vt126 rfl) rfl trivial rfl rfl ?_
  refine op1 4 rfl (sp_fieldAddrB rfl isBlk rfl ft125_0 vt38 (by decide)) rfl trivial rfl rfl ?_
  refine op1 4 rfl (sp_loadB rfl isBlk rfl vt38 rfl) rfl trivial rfl rfl ?_
  refine op1 0 rfl (sp_fieldAddrB rfl isBlk rfl ft125_0 vt38 (by decide)) rfl trivial rfl rfl ?_
  refine op1 0 rfl (sp_loadB rfl isBlk rfl vt38 rfl) rfl trivial rfl rfl ?_
  refine op0 (sp_build (qs := [(0, .ref 18), (1, .ref 27)]) rfl bt57 rfl rfl rfl rfl) rfl trivial rfl rfl ?_
  refine op0 (sp_move rfl rfl) rfl trivial rfl rfl ?_
  refine op0 (sp_move rfl rfl) rfl trivial rfl rfl ?_
  obtain ⟨h9, h⟩ := chk_inv h
  refine op0 (sp_neg rfl rfl h9) rfl trivial rfl rfl ?_
  refine op0 (sp_max rfl rfl rfl) rfl trivial rfl rfl ?_
  refine op1 0 rfl (sp_fieldAddrB rfl isBlk rfl ft125_1 vt3 (by decide)) rfl trivial rfl rfl ?_
  refine op1 0 rfl (sp_loadB rfl isBlk rfl vt3 rfl) rfl trivial rfl rfl ?_
  refine op0 (sp_build (qs := [(0, .agg [.ref 18, .ref 27]), (1, .val (.int .i64 (max ((x17.2 * i9) - (x21.2 * i8)) (0 - ((x17.2 * i9) - (x21.2 * i8)))))), (2, .val (.int .i64 x21.2))]) rfl bt106 rfl rfl rfl rfl) rfl trivial rfl rfl ?_
  obtain ⟨r23, h10, h⟩ := bind_inv h
  refine opT (take := [.inv 0 (I1 y22)]) (need := [.ro 18 1 (List.map en_int x17.1), .ro 27 1 (List.map en_int x21.1)]) (V' := [.inv 0 (I1 r23.2), .blk 28 [.ref 27, .val (.int .i64 x21.2)] 125, .inv 26 (recI l0 (busyR rec)), .ro 27 1 (List.map en_int x21.1), .pin 25 19 u20, .blk 19 [.ref 18, .val (.int .i64 x17.2)] 125, .ro 18 1 (List.map en_int x17.1), .pin 16 8 u16, .pin 15 7 u15, .pin 14 2 u14, .blk 8 [.val (.int .i64 i7)] 3, .rob 2 [.ref 3, .ref 4, .val (.int .i64 i8), .val (.int .i64 i9)] 94, .blk 7 [.ref 0] 126, .ro 3 1 (List.map en_int l10), .ro 4 1 (List.map en_int l11), .pin 6 0 (env0 0)]) [15] [5, 2] (ts_yield hI1 (x := (x17.1, x21.1, (max ((x17.2 * i9) - (x21.2 * i8)) (0 - ((x17.2 * i9) - (x21.2 * i8)))), x21.2)) (b := r23.1) (avs := [.agg [.ref 18, .ref 27, .val (.int .i64 (max ((x17.2 * i9) - (x21.2 * i8)) (0 - ((x17.2 * i9) - (x21.2 * i8))))), .val (.int .i64 x21.2)]]) (need := [.ro 18 1 (List.map en_int x17.1), .ro 27 1 (List.map en_int x21.1)]) [(900, 18), (901, 27)] h10 rfl rfl rfl rfl rfl rfl) trivial rfl ⟨rfl, trivial⟩ ⟨rfl, rfl, trivial⟩ rfl rfl ?_
  refine op0 (sp_not rfl rfl) rfl trivial rfl rfl ?_
  refine TL.nil ?_
  refine TC.cond (b := (!r23.1)) rfl (fun h11 => ?_) (fun h11 => ?_)
  · have h := cond_t h h11
    cases h
    exact bodyRet (j := 1) rfl [] ⟨mem_at 2 rfl, mem_at 4 rfl, mem_at 5 rfl, mem_at 6 rfl, mem_at 7 rfl, mem_at 8 rfl, mem_at 9 rfl, mem_at 10 rfl, mem_at 11 rfl, mem_at 12 rfl, mem_at 13 rfl, mem_at 14 rfl, mem_at 15 rfl, mem_at 0 rfl, trivial⟩ rfl
  · have h := cond_f h h11
    refine TC.skip ?_
    refine TC.inBlock ?_
    cases h
    exact bodyEnd [] ⟨mem_at 2 rfl, mem_at 4 rfl, mem_at 5 rfl, mem_at 6 rfl, mem_at 7 rfl, mem_at 8 rfl, mem_at 9 rfl, mem_at 10 rfl, mem_at 11 rfl, mem_at 12 rfl, mem_at 13 rfl, mem_at 14 rfl, mem_at 15 rfl, mem_at 0 rfl, trivial⟩ rfl
def ev_train_search_trains_1_r1 {σ1 : Type} (yb1 : ((List Int) × (List Int) × Int × Int) → σ1 → Option (Bool × σ1)) (n : Nat) (i7 : Int) (l11 : List Int) (i9 : Int) (i8 : Int) (x17 : (List Int) × Int) (y18 : σ1) : Option (Nat × σ1) :=
  chk (in64 (i7 + 1)) <| (ev_train_choose n l11 (i7 + 1)).bind fun r19 => (ev_train_choose_2 (loopStep (ev_train_search_trains_1_r2 yb1 n x17 i9 i8)) n (y18, 0) r19.1 r19.2).bind fun q24 => cond (q24.2 == 0) (some (0, q24.1)) (cond (q24.2 == 1) (some (1, q24.1)) (none))
set_option maxRecDepth 100000 in
set_option maxHeartbeats 2000000 in
theorem ok_train_search_trains_1_r1 {σ1 : Type} {yb1 : ((List Int) × (List Int) × Int × Int) → σ1 → Option (Bool × σ1)} {I1 : σ1 → Inv} (hI1 : Yields Try.prog ye_functrain_off_bool yn_functrain_off_bool yb1 I1) {n : Nat} {env0 : Env} {u16 : Value} {u15 : Value} {u14 : Value} {i7 : Int} {i8 : Int} {i9 : Int} {l10 : List Int} {l11 : List Int} {c2 : Int} {x17 : (List Int) × Int} {y18 : σ1} {r : Nat × σ1} (h : ev_train_search_trains_1_r1 yb1 n i7 l11 i9 i8 x17 y18 = some r) (l0 : Nat) (rec : Loop) (hrd : rec.state = .ready) (w0 : World) (M0 R0 : Nat → Prop) : TC Try.prog ⟨w0, M0, R0⟩ ⟨55, some l0, []⟩ (RoundQ ⟨w0, M0, R0⟩ (.inv 17 (recI l0 (busyR rec)) :: [.pin 16 8 u16, .pin 15 7 u15, .pin 14 2 u14, .blk 8 [.val (.int .i64 i7)] 3, .rob 2 [.ref 3, .ref 4, .val (.int .i64 i8), .val (.int .i64 i9)] 94, .blk 7 [.ref 0] 126, .ro 3 1 (List.map en_int l10), .ro 4 1 (List.map en_int l11), .pin 6 0 (env0 0), .inv 0 (I1 r.2)]) [.ret] r.1) [.code (sub (bodyOf Try.f79) [1, 1, 0, 0, 1, 1, 0, 0, 1, 1, 0, 0]), .beginRound, .code (sub (bodyOf Try.f79) [1, 1, 0, 0, 1, 1, 0, 0, 1, 1, 0, 1])] (pSlots [18] (ye_functrain_counts_bool x17) [(2, .ptr 2 0), (3, .ptr 7 0), (4, .ptr 8 0), (8, .val (.int .i64 c2)), (9, .val (.int .i64 i7))]) (.inv 17 (recI l0 rec) :: yn_functrain_counts_bool x17 ++ (fun y18 : σ1 => [.pin 16 8 u16, .pin 15 7 u15, .pin 14 2 u14, .blk 8 [.val (.int .i64 i7)] 3, .rob 2 [.ref 3, .ref 4, .val (.int .i64 i8), .val (.int .i64 i9)] 94, .blk 7 [.ref 0] 126, .ro 3 1 (List.map en_int l10), .ro 4 1 (List.map en_int l11), .pin 6 0 (env0 0), .inv 0 (I1 y18)]) y18) := by
  rw [ev_train_search_trains_1_r1] at h
  refine subJ (s' := [(2, .ptr 2 0), (3, .ptr 7 0), (4, .ptr 8 0), (8, .val (.int .i64 c2)), (9, .val (.int .i64 i7)), (18, .agg [.ref 18, .val (.int .i64 x17.2)])]) (V' := [.inv 17 (recI l0 rec), .ro 18 1 (List.map en_int x17.1), .pin 16 8 u16, .pin 15 7 u15, .pin 14 2 u14, .blk 8 [.val (.int .i64 i7)] 3, .rob 2 [.ref 3, .ref 4, .val (.int .i64 i8), .val (.int .i64 i9)] 94, .blk 7 [.ref 0] 126, .ro 3 1 (List.map en_int l10), .ro 4 1 (List.map en_int l11), .pin 6 0 (env0 0), .inv 0 (I1 y18)]) [(18, 900)] ?_ ⟨rfl, rfl, rfl, rfl, rfl, rfl, trivial⟩ ⟨mem_at 0 rfl, mem_at 1 rfl, mem_at 2 rfl, mem_at 3 rfl, mem_at 4 rfl, mem_at 5 rfl, mem_at 6 rfl, mem_at 7 rfl, mem_at 8 rfl, mem_at 9 rfl, mem_at 10 rfl, mem_at 11 rfl, trivial⟩ rfl
  refine TC.region ?_
  refine op0 (sp_alloc 19 rfl Try.zeroValue125 rfl) rfl trivial rfl rfl ?_
  refine stoB 0 (cells' := [.ref 18, .val (.int .i64 x17.2)]) rfl rfl trivial rfl rfl rfl rfl vt125 rfl rfl rfl ?_
  refine TL.nil ?_
  refine TC.beginRound 1 rfl hrd ?_
  refine TC.block ?_
  refine TC.seq ?_
  refine TC.region ?_
  refine op1 7 rfl (sp_fieldAddrB rfl isRob rfl ft94_0 vt40 (by decide)) rfl trivial rfl rfl ?_
  refine op1 7 rfl (sp_fieldAddrB rfl isRob rfl ft40_1 vt38 (by decide)) rfl trivial rfl rfl ?_
  refine op1 7 rfl (sp_loadB rfl isRob rfl vt38 rfl) rfl trivial rfl rfl ?_
  refine op1 6 rfl (sp_loadB rfl isBlk rfl vt3 rfl) rfl trivial rfl rfl ?_
  obtain ⟨h4, h⟩ := chk_inv h
  refine op0 (sp_add rfl rfl rfl h4) rfl trivial rfl rfl ?_
  obtain ⟨r19, h5, h⟩ := bind_inv h
  refine op1 10 rfl (sp_call (avs := [.ref 4, .val (.int .i64 (i7 + 1))]) (need := [.ro 4 1 (List.map en_int l11)]) (v := .fn 95 [] [.ptr 20 0, .ptr 22 0]) (news := [.blk 20 [.fn 93 [] [.ptr 21 0, .ptr 20 0]] 142, .blk 21 [.val (.int .i64 r19.1)] 3, .blk 22 [.ref 23] 38, .ro 23 1 (List.map en_int r19.2)]) rfl rfl rfl Try.call76 (atJ [(0, 4)] [(0, 20), (1, 21), (2, 22), (3, 23)] (fc_train_choose h5) rfl rfl) (.inl (roAll rfl))) rfl trivial rfl rfl ?_
  refine TL.nil ?_
  refine TC.block ?_
  refine TC.freeze 0 rfl ?_
  refine TC.freeze 1 rfl ?_
  refine TC.freeze 2 rfl ?_
  refine TC.pin 25 19 rfl rfl fun u20 => ?_
  obtain ⟨q24, h12, h⟩ := bind_inv h
  refine rangeN (T := []) (T' := []) (k := 24) (gm := 17) (grec := 26) (S := [(2, .ptr 2 0), (3, .ptr 7 0), (5, .ptr 19 0)]) (V0 := (fun y22 : σ1 => [.pin 25 19 u20, .blk 19 [.ref 18, .val (.int .i64 x17.2)] 125, .ro 18 1 (List.map en_int x17.1), .pin 16 8 u16, .pin 15 7 u15, .pin 14 2 u14, .blk 8 [.val (.int .i64 i7)] 3, .rob 2 [.ref 3, .ref 4, .val (.int .i64 i8), .val (.int .i64 i9)] 94, .blk 7 [.ref 0] 126, .ro 3 1 (List.map en_int l10), .ro 4 1 (List.map en_int l11), .pin 6 0 (env0 0), .inv 0 (I1 y22)])) (needI := [.rob 20 [.fn 93 [] [.ptr 21 0, .ptr 20 0]] 142, .rob 21 [.val (.int .i64 r19.1)] 3, .rob 22 [.ref 23] 38, .ro 23 1 (List.map en_int r19.2)]) (ps := [25]) (jl := [.ret]) (ea := ye_functrain_counts_bool) (en := yn_functrain_counts_bool) (f := (ev_train_search_trains_1_r2 yb1 n x17 i9 i8)) (s0 := (y18, 0)) (yf := q24) (v := .tup []) (fi := []) (caps := [.ptr 20 0, .ptr 22 0])
    ⟨fun x y r hr l rec hrd w0 M0 R0 => ok_train_search_trains_1_r2 hI1 (u20 := u20) (u16 := u16) (u15 := u15) (u14 := u14) (i7 := i7) (l10 := l10) (l11 := l11) hr l rec hrd w0 M0 R0, ⟨rfl, rfl, rfl, trivial⟩, At.mem (is := [0, 5, 7, 8, 9, 10, 11, 12, 13, 14, 15, 16, 17]) ⟨rfl, rfl, rfl, rfl, rfl, rfl, rfl, rfl, rfl, rfl, rfl, rfl, rfl, trivial⟩, At.mem (is := [1, 2, 3, 4]) ⟨rfl, rfl, rfl, rfl, trivial⟩, rfl, pinsIn [2, 7, 19] [5, 4, 0] ⟨⟨_, _, fun _ => rfl⟩, ⟨_, _, fun _ => rfl⟩, ⟨_, _, fun _ => rfl⟩, trivial⟩ rfl, rfl, fun _ => rfl, fun _ _ => rfl, fun _ => rfl, fun _ _ => rfl, fun _ => rfl, fun _ => rfl, fun _ => rfl, rfl, rfl, fun _ => rfl, rfl⟩
    rfl rfl Try.call95 (takesNil rfl) 6 rfl (fun I hI => atT [(0, 24), (1, 20), (2, 21), (3, 22), (4, 23)] [(0, 24)] (ft_train_choose_2 hI h12) rfl rfl rfl) ?_
  rcases cond_cases h with ⟨h13, h⟩ | ⟨h13, h⟩
  · refine done0 h13 ?_
    refine TC.inBlock ?_
    refine TC.inBlock ?_
    cases h
    exact bodyEnd [] ⟨mem_at 0 rfl, mem_at 4 rfl, mem_at 5 rfl, mem_at 6 rfl, mem_at 7 rfl, mem_at 8 rfl, mem_at 9 rfl, mem_at 10 rfl, mem_at 11 rfl, mem_at 12 rfl, mem_at 13 rfl, trivial⟩ rfl
  · rcases cond_cases h with ⟨h14, h⟩ | ⟨h14, h⟩
    · refine doneJ 1 h14 rfl ?_
      cases h
      exact bodyRet (j := 1) rfl [] ⟨mem_at 0 rfl, mem_at 4 rfl, mem_at 5 rfl, mem_at 6 rfl, mem_at 7 rfl, mem_at 8 rfl, mem_at 9 rfl, mem_at 10 rfl, mem_at 11 rfl, mem_at 12 rfl, mem_at 13 rfl, trivial⟩ rfl
    · exact none_no h
def ev_train_search_trains_1_l0 {σ1 : Type} (yb1 : ((List Int) × (List Int) × Int × Int) → σ1 → Option (Bool × σ1)) (n : Nat) (c2 : Int) : Nat → Int → Int → Int → (List Int) → (List Int) → σ1 → Option σ1
  | 0, _, _, _, _, _, _ => none
  | m + 1, i7, i8, i9, l10, l11, y12 => cond (decide (i7 < c2)) (chk (in64 (i7 + 1)) <| (ev_train_choose n l10 (i7 + 1)).bind fun r13 => (ev_train_choose_2 (loopStep (ev_train_search_trains_1_r1 yb1 n i7 l11 i9 i8)) n (y12, 0) r13.1 r13.2).bind fun q25 => cond (q25.2 == 0) (chk (in64 (i7 + 1)) <| ev_train_search_trains_1_l0 yb1 n c2 m (i7 + 1) i8 i9 l10 l11 q25.1) (cond (q25.2 == 1) (some q25.1) (none))) (some y12)
set_option maxRecDepth 100000 in
set_option maxHeartbeats 2000000 in
theorem ok_train_search_trains_1_l0 {σ1 : Type} {yb1 : ((List Int) × (List Int) × Int × Int) → σ1 → Option (Bool × σ1)} {I1 : σ1 → Inv} (hI1 : Yields Try.prog ye_functrain_off_bool yn_functrain_off_bool yb1 I1) {n : Nat} {w0 : World} {M0 R0 : Nat → Prop} {env0 : Env} {df : List Deferred} {r : σ1} {c2 : Int} : ∀ (m : Nat) (i7 : Int) (i8 : Int) (i9 : Int) (l10 : List Int) (l11 : List Int) (y12 : σ1), ev_train_search_trains_1_l0 yb1 n c2 m i7 i8 i9 l10 l11 y12 = some r → TC Try.prog ⟨w0, M0, R0⟩ ⟨55, none, df⟩ (bodyPostM Fence.wide 0 Try.prog Try.f79 (PostT ⟨w0, M0, R0⟩ env0 [0] (.tup []) [.inv 0 (I1 r)])) [.code (sub (bodyOf Try.f79) [1, 1, 0, 0, 0]), .code (sub (bodyOf Try.f79) [1, 1, 0, 0, 1]), .inLoop (sub (bodyOf Try.f79) [1, 1, 0, 0]), .inBlock 0] ([(2, .ptr 2 0), (3, .ptr 7 0), (8, .val (.int .i64 c2)), (9, .val (.int .i64 i7))]) ([.rob 2 [.ref 3, .ref 4, .val (.int .i64 i8), .val (.int .i64 i9)] 94, .blk 7 [.ref 0] 126, .ro 3 1 (List.map en_int l10), .ro 4 1 (List.map en_int l11), .inv 5 (marksI df), .pin 6 0 (env0 0), .inv 0 (I1 y12)]) := by
  intro m
  induction m generalizing df with
  | zero => intro i7 i8 i9 l10 l11 y12 h; exact none_no h
  | succ m ih =>
    intro i7 i8 i9 l10 l11 y12 h
    rw [ev_train_search_trains_1_l0] at h
    refine TC.region ?_
    refine op0 (sp_lss rfl rfl rfl) rfl trivial rfl rfl ?_
    refine TL.nil ?_
    refine TC.seq ?_
    refine TC.cond (b := (decide (i7 < c2))) rfl (fun h1 => ?_) (fun h1 => ?_)
    · have h := cond_t h h1
      refine TC.skip ?_
      refine TC.seq ?_
      refine TC.block ?_
      refine TC.seq ?_
      refine TC.region ?_
      refine op0 (sp_move rfl rfl) rfl trivial rfl rfl ?_
      refine op0 (sp_alloc 8 rfl Try.zeroValue3 rfl) rfl trivial rfl rfl ?_
      refine stoB 0 (cells' := [.val (.int .i64 i7)]) rfl rfl trivial rfl rfl rfl rfl vt3 rfl rfl rfl ?_
      refine TL.nil ?_
      refine TC.seq ?_
      refine TC.region ?_
      refine op1 1 rfl (sp_fieldAddrB rfl isRob rfl ft94_0 vt40 (by decide)) rfl trivial rfl rfl ?_
      refine op1 1 rfl (sp_fieldAddrB rfl isRob rfl ft40_0 vt38 (by decide)) rfl trivial rfl rfl ?_
      refine op1 1 rfl (sp_loadB rfl isRob rfl vt38 rfl) rfl trivial rfl rfl ?_
      refine op1 0 rfl (sp_loadB rfl isBlk rfl vt3 rfl) rfl trivial rfl rfl ?_
      obtain ⟨h2, h⟩ := chk_inv h
      refine op0 (sp_add rfl rfl rfl h2) rfl trivial rfl rfl ?_
      obtain ⟨r13, h3, h⟩ := bind_inv h
      refine op1 3 rfl (sp_call (avs := [.ref 3, .val (.int .i64 (i7 + 1))]) (need := [.ro 3 1 (List.map en_int l10)]) (v := .fn 95 [] [.ptr 9 0, .ptr 11 0]) (news := [.blk 9 [.fn 93 [] [.ptr 10 0, .ptr 9 0]] 142, .blk 10 [.val (.int .i64 r13.1)] 3, .blk 11 [.ref 12] 38, .ro 12 1 (List.map en_int r13.2)]) rfl rfl rfl Try.call76 (atJ [(0, 3)] [(0, 9), (1, 10), (2, 11), (3, 12)] (fc_train_choose h3) rfl rfl) (.inl (roAll rfl))) rfl trivial rfl rfl ?_
      refine TL.nil ?_
      refine TC.block ?_
      refine TC.freeze 0 rfl ?_
      refine TC.freeze 1 rfl ?_
      refine TC.freeze 2 rfl ?_
      refine TC.pin 14 2 rfl rfl fun u14 => ?_
      refine TC.pin 15 7 rfl rfl fun u15 => ?_
      refine TC.pin 16 8 rfl rfl fun u16 => ?_
      obtain ⟨q25, h15, h⟩ := bind_inv h
      refine rangeO (T := []) (T' := []) (k := 13) (gm := 5) (grec := 17) (S := [(2, .ptr 2 0), (3, .ptr 7 0), (4, .ptr 8 0), (8, .val (.int .i64 c2)), (9, .val (.int .i64 i7))]) (V0 := (fun y18 : σ1 => [.pin 16 8 u16, .pin 15 7 u15, .pin 14 2 u14, .blk 8 [.val (.int .i64 i7)] 3, .rob 2 [.ref 3, .ref 4, .val (.int .i64 i8), .val (.int .i64 i9)] 94, .blk 7 [.ref 0] 126, .ro 3 1 (List.map en_int l10), .ro 4 1 (List.map en_int l11), .pin 6 0 (env0 0), .inv 0 (I1 y18)])) (needI := [.rob 9 [.fn 93 [] [.ptr 10 0, .ptr 9 0]] 142, .rob 10 [.val (.int .i64 r13.1)] 3, .rob 11 [.ref 12] 38, .ro 12 1 (List.map en_int r13.2)]) (ps := [18]) (jl := [.ret]) (ea := ye_functrain_counts_bool) (en := yn_functrain_counts_bool) (f := (ev_train_search_trains_1_r1 yb1 n i7 l11 i9 i8)) (s0 := (y12, 0)) (yf := q25) (v := .tup []) (fi := []) (caps := [.ptr 9 0, .ptr 11 0])
        ⟨fun x y r hr l rec hrd w0 M0 R0 => ok_train_search_trains_1_r1 hI1 (u16 := u16) (u15 := u15) (u14 := u14) (l10 := l10) (c2 := c2) hr l rec hrd w0 M0 R0, ⟨rfl, rfl, rfl, rfl, rfl, trivial⟩, At.mem (is := [0, 1, 2, 7, 8, 9, 10, 11, 13, 14]) ⟨rfl, rfl, rfl, rfl, rfl, rfl, rfl, rfl, rfl, rfl, trivial⟩, At.mem (is := [3, 4, 5, 6]) ⟨rfl, rfl, rfl, rfl, trivial⟩, rfl, pinsIn [2, 7, 8] [2, 1, 0] ⟨⟨_, _, fun _ => rfl⟩, ⟨_, _, fun _ => rfl⟩, ⟨_, _, fun _ => rfl⟩, trivial⟩ rfl, rfl, fun _ => rfl, fun _ _ => rfl, fun _ => rfl, fun _ _ => rfl, fun _ => rfl, fun _ => rfl, fun _ => rfl, rfl, rfl, fun _ => rfl, rfl⟩
        rfl rfl Try.call95 (takesNil rfl) 12 rfl (fun I hI => atT [(0, 13), (1, 9), (2, 10), (3, 11), (4, 12)] [(0, 13)] (ft_train_choose_2 hI h15) rfl rfl rfl) (fun d => ?_)
      rcases cond_cases h with ⟨h16, h⟩ | ⟨h16, h⟩
      · refine done0 h16 ?_
        refine TC.inBlock ?_
        refine TC.inBlock ?_
        refine TC.region ?_
        obtain ⟨h17, h⟩ := chk_inv h
        refine op0 (sp_add rfl rfl rfl h17) rfl trivial rfl rfl ?_
        refine op0 (sp_move rfl rfl) rfl trivial rfl rfl ?_
        refine TL.nil ?_
        refine TC.inLoop ?_
        refine TC.seq ?_
        refine subJ [] (ih _ _ _ _ _ _ h) ?_ ?_ ?_
        · exact ⟨rfl, rfl, rfl, rfl, trivial⟩
        · exact ⟨mem_at 5 rfl, mem_at 6 rfl, mem_at 7 rfl, mem_at 8 rfl, mem_at 0 rfl, mem_at 9 rfl, mem_at 10 rfl, trivial⟩
        · rfl
      · rcases cond_cases h with ⟨h18, h⟩ | ⟨h18, h⟩
        · refine doneJ 1 h18 rfl ?_
          cases h
          exact retM [] 0 5 [0] rfl (.nil) rfl ⟨mem_at 9 rfl, trivial⟩ rfl rfl ⟨⟨_, mem_at 8 rfl⟩, trivial⟩ rfl
        · exact none_no h
    · have h := cond_f h h1
      refine TC.exit rfl ?_
      cases h
      exact endM [] 4 5 [0] rfl (.nil) rfl ⟨mem_at 5 rfl, trivial⟩ rfl rfl ⟨⟨_, mem_at 4 rfl⟩, trivial⟩ rfl
def ev_train_search_trains_1 {σ1 : Type} (yb1 : ((List Int) × (List Int) × Int × Int) → σ1 → Option (Bool × σ1)) (n : Nat) (y1 : σ1) (c2 : Int) (c3 : List Int) (c4 : List Int) (c5 : Int) (c6 : Int) : Option σ1 :=
  ev_train_search_trains_1_l0 yb1 n c2 n 0 c5 c6 c3 c4 y1
set_option maxRecDepth 100000 in
set_option maxHeartbeats 2000000 in
theorem ft_train_search_trains_1 {σ1 : Type} {yb1 : ((List Int) × (List Int) × Int × Int) → σ1 → Option (Bool × σ1)} {I1 : σ1 → Inv} (hI1 : Yields Try.prog ye_functrain_off_bool yn_functrain_off_bool yb1 I1) {n : Nat} {y1 : σ1} {c2 : Int} {c3 : List Int} {c4 : List Int} {c5 : Int} {c6 : Int} {r : σ1} (h : ev_train_search_trains_1 yb1 n y1 c2 c3 c4 c5 c6 = some r) : FT Try.prog 79 [.ref 0, .ptr 1 0, .ptr 2 0] [.inv 0 (I1 y1)] [.rob 1 [.val (.int .i64 c2)] 3, .rob 2 [.ref 3, .ref 4, .val (.int .i64 c5), .val (.int .i64 c6)] 94, .ro 3 1 (List.map en_int c3), .ro 4 1 (List.map en_int c4)] (.tup []) [.inv 0 (I1 r)] := by
  refine introM (nz := 55) 5 [(6, 0)] Try.func79 rfl rfl rfl rfl (fun w0 M0 R0 env0 => ?_)
  rw [ev_train_search_trains_1] at h
  refine TC.seq ?_
  refine TC.region ?_
  refine op0 (sp_box 7 rfl rfl rfl rfl rfl) rfl trivial rfl rfl ?_
  refine TL.nil ?_
  refine TC.seq ?_
  refine TC.region ?_
  refine op1 4 rfl (sp_loadB rfl isRob rfl vt3 rfl) rfl trivial rfl rfl ?_
  refine op0 (sp_move rfl rfl) rfl trivial rfl rfl ?_
  refine TL.nil ?_
  refine TC.block ?_
  refine TC.loop ?_
  refine TC.seq ?_
  refine subJ [] (ok_train_search_trains_1_l0 hI1 _ _ _ _ _ _ _ h) ?_ ?_ ?_
  · exact ⟨rfl, rfl, rfl, rfl, trivial⟩
  · exact ⟨mem_at 5 rfl, mem_at 0 rfl, mem_at 6 rfl, mem_at 7 rfl, mem_at 1 rfl, mem_at 2 rfl, mem_at 3 rfl, trivial⟩
  · rfl
/- train_Near -/
def ev_train_Near_r0 (n : Nat) (x11 : (List Int) × (List Int) × Int × Int) (y12 : (List Int) × (List Int) × Int × Int) : Option (Nat × ((List Int) × (List Int) × Int × Int)) :=
  cond (y12.2.2.2 == 0) (some (0, (x11.2.1, x11.1, x11.2.2.1, x11.2.2.2))) (chk (in64 (x11.2.2.1 * y12.2.2.2)) <| chk (in64 (y12.2.2.1 * x11.2.2.2)) <| cond (decide ((x11.2.2.1 * y12.2.2.2) < (y12.2.2.1 * x11.2.2.2))) (some (0, (x11.2.1, x11.1, x11.2.2.1, x11.2.2.2))) (some (0, (y12.1, y12.2.1, y12.2.2.1, y12.2.2.2))))
set_option maxRecDepth 100000 in
set_option maxHeartbeats 2000000 in
theorem ok_train_Near_r0 {n : Nat} {u10 : Value} {u9 : Value} {x11 : (List Int) × (List Int) × Int × Int} {y12 : (List Int) × (List Int) × Int × Int} {r : Nat × ((List Int) × (List Int) × Int × Int)} (h : ev_train_Near_r0 n x11 y12 = some r) (l0 : Nat) (rec : Loop) (hrd : rec.state = .ready) (w0 : World) (M0 R0 : Nat → Prop) : TC Try.prog ⟨w0, M0, R0⟩ ⟨53, some l0, []⟩ (RoundQ ⟨w0, M0, R0⟩ (.inv 26 (recI l0 (busyR rec)) :: [.pin 25 14 u10, .pin 24 5 u9, .ro 22 1 (List.map en_int r.2.1), .ro 21 1 (List.map en_int r.2.2.1), .row 20 3 1 (List.map en_int ([] : List Int)), .row 19 3 1 (List.map en_int ([] : List Int)), .blk 14 [.ref 21, .ref 22, .val (.int .i64 r.2.2.2.1), .val (.int .i64 r.2.2.2.2)] 106, .blk 5 [.ref 19, .ref 20] 57]) [] r.1) [.code (sub (bodyOf Try.f32) [1, 1, 1, 1, 0, 1, 0, 0]), .beginRound, .code (sub (bodyOf Try.f32) [1, 1, 1, 1, 0, 1, 0, 1])] (pSlots [33] (ye_functrain_off_bool x11) [(6, .ptr 5 0), (10, .ptr 14 0)]) (.inv 26 (recI l0 rec) :: yn_functrain_off_bool x11 ++ (fun y12 : (List Int) × (List Int) × Int × Int => [.pin 25 14 u10, .pin 24 5 u9, .ro 22 1 (List.map en_int y12.1), .ro 21 1 (List.map en_int y12.2.1), .row 20 3 1 (List.map en_int ([] : List Int)), .row 19 3 1 (List.map en_int ([] : List Int)), .blk 14 [.ref 21, .ref 22, .val (.int .i64 y12.2.2.1), .val (.int .i64 y12.2.2.2)] 106, .blk 5 [.ref 19, .ref 20] 57]) y12) := by
  rw [ev_train_Near_r0] at h
  refine subJ (s' := [(6, .ptr 5 0), (10, .ptr 14 0), (33, .agg [.ref 27, .ref 28, .val (.int .i64 x11.2.2.1), .val (.int .i64 x11.2.2.2)])]) (V' := [.inv 26 (recI l0 rec), .ro 27 1 (List.map en_int x11.1), .ro 28 1 (List.map en_int x11.2.1), .pin 25 14 u10, .pin 24 5 u9, .ro 22 1 (List.map en_int y12.1), .ro 21 1 (List.map en_int y12.2.1), .row 20 3 1 (List.map en_int ([] : List Int)), .row 19 3 1 (List.map en_int ([] : List Int)), .blk 14 [.ref 21, .ref 22, .val (.int .i64 y12.2.2.1), .val (.int .i64 y12.2.2.2)] 106, .blk 5 [.ref 19, .ref 20] 57]) [(27, 900), (28, 901)] ?_ ⟨rfl, rfl, rfl, trivial⟩ ⟨mem_at 0 rfl, mem_at 1 rfl, mem_at 2 rfl, mem_at 3 rfl, mem_at 4 rfl, mem_at 5 rfl, mem_at 6 rfl, mem_at 7 rfl, mem_at 8 rfl, mem_at 9 rfl, mem_at 10 rfl, trivial⟩ rfl
  refine TC.region ?_
  refine op0 (sp_alloc 29 rfl Try.zeroValue106 rfl) rfl trivial rfl rfl ?_
  refine stoB 0 (cells' := [.ref 27, .ref 28, .val (.int .i64 x11.2.2.1), .val (.int .i64 x11.2.2.2)]) rfl rfl trivial rfl rfl rfl rfl vt106 rfl rfl rfl ?_
  refine TL.nil ?_
  refine TC.beginRound 1 rfl hrd ?_
  refine TC.block ?_
  refine TC.seq ?_
  refine TC.region ?_
  refine op1 10 rfl (sp_fieldAddrB rfl isBlk rfl ft106_2 vt3 (by decide)) rfl trivial rfl rfl ?_
  refine op1 10 rfl (sp_loadB rfl isBlk rfl vt3 rfl) rfl trivial rfl rfl ?_
  refine op0 (sp_eql rfl rfl rfl) rfl trivial rfl rfl ?_
  refine op0 (sp_move rfl rfl) rfl trivial rfl rfl ?_
  rcases cond_cases h with ⟨h6, h⟩ | ⟨h6, h⟩
  · refine (boolLit 37 rfl h6).2 ?_
    refine opSkip rfl ⟨_, rfl, .inl rfl⟩ rfl ?_
    refine opSkip rfl ⟨_, rfl, .inl rfl⟩ rfl ?_
    refine opSkip rfl ⟨_, rfl, .inl rfl⟩ rfl ?_
    refine opSkip rfl ⟨_, rfl, .inl rfl⟩ rfl ?_
    refine opSkip rfl ⟨_, rfl, .inl rfl⟩ rfl ?_
    refine opSkip rfl ⟨_, rfl, .inl rfl⟩ rfl ?_
    refine opSkip rfl ⟨_, rfl, .inl rfl⟩ rfl ?_
    refine opSkip rfl ⟨_, rfl, .inl rfl⟩ rfl ?_
    refine opSkip rfl ⟨_, rfl, .inl rfl⟩ rfl ?_
    refine opSkip rfl ⟨_, rfl, .inl rfl⟩ rfl ?_
    refine opSkip rfl ⟨_, rfl, .inl rfl⟩ rfl ?_
    refine op0 (sp_pickT rfl rfl rfl) rfl trivial rfl rfl ?_
    refine TL.nil ?_
    refine TC.condT rfl ?_
    refine TC.region ?_
    refine op1 0 rfl (sp_loadBA rfl isBlk rfl vt106 rfl rfl) rfl trivial rfl rfl ?_
    refine stoB 10 (cells' := [.ref 27, .ref 28, .val (.int .i64 x11.2.2.1), .val (.int .i64 x11.2.2.2)]) rfl rfl trivial rfl rfl rfl rfl vt106 rfl rfl rfl ?_
    refine TL.nil ?_
    refine TC.inBlock ?_
    cases h
    exact bodyEnd [(21, 27), (22, 28)] ⟨mem_at 1 rfl, mem_at 4 rfl, mem_at 5 rfl, mem_at 3 rfl, mem_at 2 rfl, mem_at 8 rfl, mem_at 9 rfl, mem_at 10 rfl, mem_at 11 rfl, trivial⟩ rfl
  · refine (boolLit 37 rfl h6).2 ?_
    refine op1 0 rfl (sp_fieldAddrB rfl isBlk rfl ft106_1 vt3 (by decide)) rfl ⟨_, rfl, rfl⟩ rfl rfl ?_
    refine op1 0 rfl (sp_loadB rfl isBlk rfl vt3 rfl) rfl ⟨_, rfl, rfl⟩ rfl rfl ?_
    refine op1 10 rfl (sp_fieldAddrB rfl isBlk rfl ft106_2 vt3 (by decide)) rfl ⟨_, rfl, rfl⟩ rfl rfl ?_
    refine op1 10 rfl (sp_loadB rfl isBlk rfl vt3 rfl) rfl ⟨_, rfl, rfl⟩ rfl rfl ?_
    obtain ⟨h7, h⟩ := chk_inv h
    refine op0 (sp_mul rfl rfl rfl h7) rfl ⟨_, rfl, rfl⟩ rfl rfl ?_
    refine op1 10 rfl (sp_fieldAddrB rfl isBlk rfl ft106_1 vt3 (by decide)) rfl ⟨_, rfl, rfl⟩ rfl rfl ?_
    refine op1 10 rfl (sp_loadB rfl isBlk rfl vt3 rfl) rfl ⟨_, rfl, rfl⟩ rfl rfl ?_
    refine op1 0 rfl (sp_fieldAddrB rfl isBlk rfl ft106_2 vt3 (by decide)) rfl ⟨_, rfl, rfl⟩ rfl rfl ?_
    refine op1 0 rfl (sp_loadB rfl isBlk rfl vt3 rfl) rfl ⟨_, rfl, rfl⟩ rfl rfl ?_
    obtain ⟨h8, h⟩ := chk_inv h
    refine op0 (sp_mul rfl rfl rfl h8) rfl ⟨_, rfl, rfl⟩ rfl rfl ?_
    refine op0 (sp_lss rfl rfl rfl) rfl ⟨_, rfl, rfl⟩ rfl rfl ?_
    refine op0 (sp_pickF rfl rfl rfl) rfl trivial rfl rfl ?_
    refine TL.nil ?_
    refine TC.cond (b := (decide ((x11.2.2.1 * y12.2.2.2) < (y12.2.2.1 * x11.2.2.2)))) rfl (fun h9 => ?_) (fun h9 => ?_)
    · have h := cond_t h h9
      refine TC.region ?_
      refine op1 0 rfl (sp_loadBA rfl isBlk rfl vt106 rfl rfl) rfl trivial rfl rfl ?_
      refine stoB 10 (cells' := [.ref 27, .ref 28, .val (.int .i64 x11.2.2.1), .val (.int .i64 x11.2.2.2)]) rfl rfl trivial rfl rfl rfl rfl vt106 rfl rfl rfl ?_
      refine TL.nil ?_
      refine TC.inBlock ?_
      cases h
      exact bodyEnd [(21, 27), (22, 28)] ⟨mem_at 1 rfl, mem_at 4 rfl, mem_at 5 rfl, mem_at 3 rfl, mem_at 2 rfl, mem_at 8 rfl, mem_at 9 rfl, mem_at 10 rfl, mem_at 11 rfl, trivial⟩ rfl
    · have h := cond_f h h9
      refine TC.skip ?_
      refine TC.inBlock ?_
      cases h
      exact bodyEnd [] ⟨mem_at 1 rfl, mem_at 4 rfl, mem_at 5 rfl, mem_at 6 rfl, mem_at 7 rfl, mem_at 8 rfl, mem_at 9 rfl, mem_at 10 rfl, mem_at 11 rfl, trivial⟩ rfl
def ev_train_Near (n : Nat) (s1 : List Int) (s2 : List Int) (want3 : Int) (want4 : Int) (pairs5 : Int) : Option ((List Int) × (List Int) × Int) :=
  (ev_train_open n s1 s2 want3 want4).bind fun r6 => cond (r6.2.2.2.2 != 0) (some (([] : List Int), ([] : List Int), r6.2.2.2.2)) ((ev_train_within n 1 2 ([pairs5] : List Int)).bind fun r7 => cond (!r7) (some (([] : List Int), ([] : List Int), 3)) ((ev_train_search_trains n r6.1 r6.2.1 r6.2.2.1 r6.2.2.2.1 pairs5).bind fun r8 => (ev_train_search_trains_1 (loopStep (ev_train_Near_r0 n)) n ((([] : List Int), ([] : List Int), 0, 0), 0) r8.1 r8.2.1 r8.2.2.1 r8.2.2.2.1 r8.2.2.2.2).bind fun q13 => cond (q13.2 == 0) (some (q13.1.2.1, q13.1.1, 0)) (none)))
set_option maxRecDepth 100000 in
set_option maxHeartbeats 2000000 in
theorem ft_train_Near {n : Nat} {s1 : List Int} {s2 : List Int} {want3 : Int} {want4 : Int} {pairs5 : Int} {r : (List Int) × (List Int) × Int} (h : ev_train_Near n s1 s2 want3 want4 pairs5 = some r) : FT Try.prog 32 [.agg [.ref 0, .ref 1], .agg [.val (.int .i64 want3), .val (.int .i64 want4)], .val (.int .i64 pairs5)] [] [.ro 0 1 (List.map en_int s1), .ro 1 1 (List.map en_int s2)] (.tup [.agg [.ref 500, .ref 501], .val (.int .i64 r.2.2)]) [.ro 500 1 (List.map en_int r.1), .ro 501 1 (List.map en_int r.2.1)] := by
  refine introM (nz := 53) 2 [] Try.func32 rfl rfl rfl rfl (fun w0 M0 R0 env0 => ?_)
  rw [ev_train_Near] at h
  refine TC.seq ?_
  refine TC.region ?_
  refine op0 (sp_box 3 rfl rfl rfl rfl rfl) rfl trivial rfl rfl ?_
  refine op0 (sp_box 4 rfl rfl rfl rfl rfl) rfl trivial rfl rfl ?_
  refine op0 (sp_alloc 5 rfl Try.zeroValue57 rfl) rfl trivial rfl rfl ?_
  refine op0 (sp_assign rfl rfl) rfl trivial rfl rfl ?_
  refine TL.nil ?_
  refine TC.seq ?_
  refine TC.region ?_
  refine op1 2 rfl (sp_loadBA rfl isBlk rfl vt40 rfl rfl) rfl trivial rfl rfl ?_
  refine op1 1 rfl (sp_loadBA rfl isBlk rfl vt26 rfl rfl) rfl trivial rfl rfl ?_
  obtain ⟨r6, h1, h⟩ := bind_inv h
  refine opN (need := [.ro 0 1 (List.map en_int s1), .ro 1 1 (List.map en_int s2)]) [4, 5] ⟨rfl, rfl, trivial⟩ (sp_call (avs := [.agg [.ref 0, .ref 1], .agg [.val (.int .i64 want3), .val (.int .i64 want4)]]) (need := [.ro 0 1 (List.map en_int s1), .ro 1 1 (List.map en_int s2)]) (v := .tup [.agg [.ref 6, .ref 7, .val (.int .i64 r6.2.2.1), .val (.int .i64 r6.2.2.2.1)], .val (.int .i64 r6.2.2.2.2)]) (news := [.ro 6 1 (List.map en_int r6.1), .ro 7 1 (List.map en_int r6.2.1)]) rfl rfl rfl Try.call53 (atJ [] [(0, 6), (1, 7)] (fc_train_open h1) rfl rfl) (.inl (roAll rfl))) rfl trivial rfl rfl ?_
  refine op0 (sp_move rfl rfl) rfl trivial rfl rfl ?_
  refine op0 (sp_extract rfl rfl rfl) rfl trivial rfl rfl ?_
  refine op0 (sp_extract rfl rfl rfl) rfl trivial rfl rfl ?_
  refine op0 (sp_alloc 8 rfl Try.zeroValue94 rfl) rfl trivial rfl rfl ?_
  refine stoB 0 (cells' := [.ref 6, .ref 7, .val (.int .i64 r6.2.2.1), .val (.int .i64 r6.2.2.2.1)]) rfl rfl trivial rfl rfl rfl rfl vt94 rfl rfl rfl ?_
  refine op0 (sp_assign rfl rfl) rfl trivial rfl rfl ?_
  refine TL.nil ?_
  refine TC.seq ?_
  refine TC.block ?_
  refine TC.seq ?_
  refine TC.region ?_
  refine op0 (sp_move rfl rfl) rfl trivial rfl rfl ?_
  refine op0 (sp_neq rfl rfl rfl) rfl trivial rfl rfl ?_
  refine op0 (sp_assign rfl rfl) rfl trivial rfl rfl ?_
  refine TL.nil ?_
  refine TC.cond (b := (r6.2.2.2.2 != 0)) rfl (fun h2 => ?_) (fun h2 => ?_)
  · have h := cond_t h h2
    refine TC.seq ?_
    refine TC.region ?_
    refine op0 (sp_build (qs := []) rfl bt57 rfl rfl rfl rfl) rfl trivial rfl rfl ?_
    refine op0 (sp_move rfl rfl) rfl trivial rfl rfl ?_
    refine stoB 3 (cells' := [.val (.slice none 0 0), .val (.slice none 0 0)]) rfl rfl trivial rfl rfl rfl rfl vt57 rfl rfl rfl ?_
    refine op0 (sp_assign rfl rfl) rfl trivial rfl rfl ?_
    refine TL.nil ?_
    refine nilCellC 3 9 3 1 5 (List.map en_int []) [.ref 9, .val (.slice none 0 0)] rfl rfl rfl ?_
    refine nilCellC 4 10 3 1 5 (List.map en_int []) [.ref 9, .ref 10] rfl rfl rfl ?_
    refine TC.freeze 1 rfl ?_
    refine TC.freeze 0 rfl ?_
    cases h
    exact retM [(500, 9), (501, 10)] 8 2 [] rfl (.cells rfl (mem_at 5 rfl) isBlk vt57 rfl rfl (.tmp rfl .nil)) rfl ⟨mem_at 1 rfl, mem_at 0 rfl, trivial⟩ rfl rfl trivial rfl
  · have h := cond_f h h2
    refine TC.seq ?_
    refine TC.region ?_
    refine op0 (sp_move rfl rfl) rfl trivial rfl rfl ?_
    refine op0 (sp_buildSlice (qs := [.val (.int .i64 pairs5)]) (need := []) (els := List.map en_int ([pairs5] : List Int)) 11 rfl sl38 (by decide) (by decide) rfl rfl rfl (.v (.nil)) (map_len fun _ => rfl) rfl rfl rfl) rfl trivial rfl rfl ?_
    obtain ⟨r7, h3, h⟩ := bind_inv h
    refine op1 0 rfl (sp_call (avs := [.val (.int .i64 1), .val (.int .i64 2), .ref 11]) (need := [.row 11 3 1 (List.map en_int ([pairs5] : List Int))]) (v := .val (.bool r7)) (news := []) rfl rfl rfl Try.call62 (atJ [(0, 11)] [] (fc_train_within h3) rfl rfl) (.inr (fun x hx => nomatch hx))) rfl trivial rfl rfl ?_
    refine op0 (sp_not rfl rfl) rfl trivial rfl rfl ?_
    refine op0 (sp_assign rfl rfl) rfl trivial rfl rfl ?_
    refine TL.nil ?_
    refine TC.cond (b := (!r7)) rfl (fun h4 => ?_) (fun h4 => ?_)
    · have h := cond_t h h4
      refine TC.seq ?_
      refine TC.region ?_
      refine op0 (sp_build (qs := []) rfl bt57 rfl rfl rfl rfl) rfl trivial rfl rfl ?_
      refine stoB 4 (cells' := [.val (.slice none 0 0), .val (.slice none 0 0)]) rfl rfl trivial rfl rfl rfl rfl vt57 rfl rfl rfl ?_
      refine op0 (sp_assign rfl rfl) rfl trivial rfl rfl ?_
      refine TL.nil ?_
      refine nilCellC 4 12 3 1 5 (List.map en_int []) [.ref 12, .val (.slice none 0 0)] rfl rfl rfl ?_
      refine nilCellC 5 13 3 1 5 (List.map en_int []) [.ref 12, .ref 13] rfl rfl rfl ?_
      refine TC.freeze 1 rfl ?_
      refine TC.freeze 0 rfl ?_
      cases h
      exact retM [(500, 12), (501, 13)] 9 2 [] rfl (.cells rfl (mem_at 6 rfl) isBlk vt57 rfl rfl (.tmp rfl .nil)) rfl ⟨mem_at 1 rfl, mem_at 0 rfl, trivial⟩ rfl rfl trivial rfl
    · have h := cond_f h h4
      refine TC.skip ?_
      refine TC.inBlock ?_
      refine TC.seq ?_
      refine TC.region ?_
      refine op0 (sp_build (qs := []) rfl bt106 rfl rfl rfl rfl) rfl trivial rfl rfl ?_
      refine op0 (sp_alloc 14 rfl Try.zeroValue106 rfl) rfl trivial rfl rfl ?_
      refine stoB 0 (cells' := [.val (.slice none 0 0), .val (.slice none 0 0), .val (.int .i64 0), .val (.int .i64 0)]) rfl rfl trivial rfl rfl rfl rfl vt106 rfl rfl rfl ?_
      refine TL.nil ?_
      refine TC.seq ?_
      refine TC.seq ?_
      refine TC.region ?_
      refine op1 2 rfl (sp_loadBA rfl isBlk rfl vt94 rfl rfl) rfl trivial rfl rfl ?_
      refine op0 (sp_move rfl rfl) rfl trivial rfl rfl ?_
      obtain ⟨r8, h5, h⟩ := bind_inv h
      refine opN (need := [.ro 6 1 (List.map en_int r6.1), .ro 7 1 (List.map en_int r6.2.1)]) [3, 4] ⟨rfl, rfl, trivial⟩ (sp_call (avs := [.agg [.ref 6, .ref 7, .val (.int .i64 r6.2.2.1), .val (.int .i64 r6.2.2.2.1)], .val (.int .i64 pairs5)]) (need := [.ro 6 1 (List.map en_int r6.1), .ro 7 1 (List.map en_int r6.2.1)]) (v := .fn 79 [] [.ptr 15 0, .ptr 16 0]) (news := [.blk 15 [.val (.int .i64 r8.1)] 3, .blk 16 [.ref 17, .ref 18, .val (.int .i64 r8.2.2.2.1), .val (.int .i64 r8.2.2.2.2)] 94, .ro 17 1 (List.map en_int r8.2.1), .ro 18 1 (List.map en_int r8.2.2.1)]) rfl rfl rfl Try.call63 (atJ [(0, 6), (1, 7)] [(0, 15), (1, 16), (2, 17), (3, 18)] (fc_train_search_trains h5) rfl rfl) (.inl (roAll rfl))) rfl trivial rfl rfl ?_
      refine TL.nil ?_
      refine TC.block ?_
      refine nilCellC 9 19 3 1 5 (List.map en_int []) [.ref 19, .val (.slice none 0 0)] rfl rfl rfl ?_
      refine nilCellC 10 20 3 1 5 (List.map en_int []) [.ref 19, .ref 20] rfl rfl rfl ?_
      refine nilCellC 6 21 3 1 14 (List.map en_int []) [.ref 21, .val (.slice none 0 0), .val (.int .i64 0), .val (.int .i64 0)] rfl rfl rfl ?_
      refine nilCellC 7 22 3 1 14 (List.map en_int []) [.ref 21, .ref 22, .val (.int .i64 0), .val (.int .i64 0)] rfl rfl rfl ?_
      refine TC.freeze 4 rfl ?_
      refine TC.freeze 5 rfl ?_
      refine TC.freeze 1 rfl ?_
      refine TC.freeze 0 rfl ?_
      refine TC.pin 24 5 rfl rfl fun u9 => ?_
      refine TC.pin 25 14 rfl rfl fun u10 => ?_
      obtain ⟨q13, h10, h⟩ := bind_inv h
      refine rangeO (T := []) (T' := []) (k := 23) (gm := 2) (grec := 26) (S := [(6, .ptr 5 0), (10, .ptr 14 0)]) (V0 := (fun y12 : (List Int) × (List Int) × Int × Int => [.pin 25 14 u10, .pin 24 5 u9, .ro 22 1 (List.map en_int y12.1), .ro 21 1 (List.map en_int y12.2.1), .row 20 3 1 (List.map en_int ([] : List Int)), .row 19 3 1 (List.map en_int ([] : List Int)), .blk 14 [.ref 21, .ref 22, .val (.int .i64 y12.2.2.1), .val (.int .i64 y12.2.2.2)] 106, .blk 5 [.ref 19, .ref 20] 57])) (needI := [.rob 15 [.val (.int .i64 r8.1)] 3, .rob 16 [.ref 17, .ref 18, .val (.int .i64 r8.2.2.2.1), .val (.int .i64 r8.2.2.2.2)] 94, .ro 17 1 (List.map en_int r8.2.1), .ro 18 1 (List.map en_int r8.2.2.1)]) (ps := [33]) (jl := []) (ea := ye_functrain_off_bool) (en := yn_functrain_off_bool) (f := (ev_train_Near_r0 n)) (s0 := ((([] : List Int), ([] : List Int), 0, 0), 0)) (yf := q13) (v := .tup []) (fi := []) (caps := [.ptr 15 0, .ptr 16 0])
        ⟨fun x y r hr l rec hrd w0 M0 R0 => ok_train_Near_r0 (u10 := u10) (u9 := u9) hr l rec hrd w0 M0 R0, ⟨rfl, rfl, trivial⟩, At.mem (is := [0, 1, 2, 3, 4, 5, 10, 15]) ⟨rfl, rfl, rfl, rfl, rfl, rfl, rfl, rfl, trivial⟩, At.mem (is := [6, 7, 8, 9]) ⟨rfl, rfl, rfl, rfl, trivial⟩, rfl, pinsIn [5, 14] [1, 0] ⟨⟨_, _, fun _ => rfl⟩, ⟨_, _, fun _ => rfl⟩, trivial⟩ rfl, rfl, fun _ => rfl, fun _ _ => rfl, fun _ => rfl, fun _ _ => rfl, fun _ => rfl, fun _ => rfl, fun _ => rfl, rfl, rfl, fun _ => rfl, rfl⟩
        rfl rfl Try.call79 (takesNil rfl) 18 rfl (fun I hI => atT [(0, 23), (1, 15), (2, 16), (3, 17), (4, 18)] [(0, 23)] (ft_train_search_trains_1 hI h10) rfl rfl rfl) (fun d => ?_)
      rcases cond_cases h with ⟨h11, h⟩ | ⟨h11, h⟩
      · refine done0 h11 ?_
        refine TC.inBlock ?_
        refine TC.seq ?_
        refine TC.region ?_
        refine op1 7 rfl (sp_fieldAddrB rfl isBlk rfl ft106_0 vt57 (by decide)) rfl trivial rfl rfl ?_
        refine op1 7 rfl (sp_loadBA rfl isBlk rfl vt57 rfl rfl) rfl trivial rfl rfl ?_
        refine stoB 8 (cells' := [.ref 21, .ref 22]) rfl rfl trivial rfl rfl rfl rfl vt57 rfl rfl rfl ?_
        refine op0 (sp_assign rfl rfl) rfl trivial rfl rfl ?_
        refine TL.nil ?_
        cases h
        exact retM [(500, 21), (501, 22)] 0 2 [] rfl (.cells rfl (mem_at 7 rfl) isBlk vt57 rfl rfl (.tmp rfl .nil)) rfl ⟨mem_at 3 rfl, mem_at 2 rfl, trivial⟩ rfl rfl trivial rfl
      · exact none_no h
theorem fc_train_Near {n : Nat} {s1 : List Int} {s2 : List Int} {want3 : Int} {want4 : Int} {pairs5 : Int} {r : (List Int) × (List Int) × Int} (h : ev_train_Near n s1 s2 want3 want4 pairs5 = some r) : FC Try.prog 32 [.agg [.ref 0, .ref 1], .agg [.val (.int .i64 want3), .val (.int .i64 want4)], .val (.int .i64 pairs5)] [.ro 0 1 (List.map en_int s1), .ro 1 1 (List.map en_int s2)] (.tup [.agg [.ref 500, .ref 501], .val (.int .i64 r.2.2)]) [.ro 500 1 (List.map en_int r.1), .ro 501 1 (List.map en_int r.2.1)] := (ft_train_Near h).toFC rfl
end
end Go.Proofs.Ytabjhlfgcmmbfaa.Sy
