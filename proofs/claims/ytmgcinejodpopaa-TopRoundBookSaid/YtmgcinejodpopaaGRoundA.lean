/- What functions of the program compute, and that they do: printed by symgen.py. -/
import Derived.Test.YtmgcinejodpopaaGLib
set_option linter.unusedSimpArgs false
set_option linter.unusedVariables false
namespace Go.Proofs.Ytmgcinejodpopaa.Sy
open Go.RowKit
noncomputable section

/- round_areWays_1 -/
def ev_round_areWays_1 (n : Nat) (row1 : List Int) (c2 : Int) : Option Bool :=
  some ((row1.length : Int) != c2)
set_option maxRecDepth 100000 in
set_option maxHeartbeats 2000000 in
theorem fc_round_areWays_1 {n : Nat} {row1 : List Int} {c2 : Int} {r : Bool} (h : ev_round_areWays_1 n row1 c2 = some r) : FC Try.prog 237 [.ref 0, .ptr 1 0] [.ro 0 1 (List.map en_int row1), .rob 1 [.val (.int .i64 c2)] 3] (.val (.bool r)) [] := by
  refine introJ (nz := 8) Try.func237 rfl rfl rfl (fun w0 R0 env0 => ?_)
  rw [ev_round_areWays_1] at h
  refine TC.seq ?_
  refine TC.region ?_
  refine op0 (sp_assign rfl rfl) rfl trivial rfl rfl ?_
  refine TL.nil ?_
  refine TC.seq ?_
  refine TC.region ?_
  refine op0 (sp_move rfl rfl) rfl trivial rfl rfl ?_
  refine op1 0 rfl (sp_lenM (N := row1.length) (len_map _ _) rfl rfl isRo Try.underlying37) rfl trivial rfl rfl ?_
  refine op1 1 rfl (sp_loadB rfl isRob rfl vt3 rfl) rfl trivial rfl rfl ?_
  refine op0 (sp_neq rfl rfl rfl) rfl trivial rfl rfl ?_
  refine op0 (sp_assign rfl rfl) rfl trivial rfl rfl ?_
  refine TL.nil ?_
  cases h
  exact retJ [] (.tmp rfl .nil) rfl trivial rfl rfl
/- slices_IndexFunc_LLint_Lint -/
def ev_slices_IndexFunc_LLint_Lint_l0 (n : Nat) (s1 : List ((List Int))) (f2 : Int) : Nat → Int → Option Int
  | 0, _ => none
  | m + 1, i3 => cond (decide (i3 < (s1.length : Int))) (idx s1 i3 fun x4 => (ev_round_areWays_1 n x4 f2).bind fun r5 => cond r5 (some i3) (chk (in64 (i3 + 1)) <| ev_slices_IndexFunc_LLint_Lint_l0 n s1 f2 m (i3 + 1))) (some (-1))
set_option maxRecDepth 100000 in
set_option maxHeartbeats 2000000 in
theorem ok_slices_IndexFunc_LLint_Lint_l0 {n : Nat} {w0 : World} {R0 : Nat → Prop} {env0 : Env} {r : Int} {s1 : List ((List Int))} {f2 : Int} : ∀ (m : Nat) (i3 : Int), ev_slices_IndexFunc_LLint_Lint_l0 n s1 f2 m i3 = some r → TC Try.prog ⟨w0, fun _ => False, R0⟩ 19 (bodyPost Try.prog Try.f282 (Post ⟨w0, fun _ => False, R0⟩ env0 (.val (.int .i64 r)) [])) [.code (sub (bodyOf Try.f282) [1, 0, 1, 0, 0, 0]), .code (sub (bodyOf Try.f282) [1, 0, 1, 0, 0, 1]), .inLoop (sub (bodyOf Try.f282) [1, 0, 1, 0, 0]), .inBlock 0, .code (sub (bodyOf Try.f282) [1, 1])] ([(0, .ref 0), (1, .fn 237 [] [.ptr 1 0]), (7, .val (.int .i64 (s1.length : Int))), (8, .val (.int .i64 i3))]) ([.ro 0 1 (List.map en_Lint s1), .rob 1 [.val (.int .i64 f2)] 3]) := by
  intro m
  induction m with
  | zero => intro i3 h; exact none_no h
  | succ m ih =>
    intro i3 h
    rw [ev_slices_IndexFunc_LLint_Lint_l0] at h
    refine TC.region ?_
    refine op0 (sp_lss rfl rfl rfl) rfl trivial rfl rfl ?_
    refine TL.nil ?_
    refine TC.seq ?_
    refine TC.cond (b := (decide (i3 < (s1.length : Int)))) rfl (fun h1 => ?_) (fun h1 => ?_)
    · have h := cond_t h h1
      refine TC.skip ?_
      refine TC.seq ?_
      refine TC.block ?_
      refine TC.seq ?_
      refine TC.region ?_
      refine op0 (sp_move rfl rfl) rfl trivial rfl rfl ?_
      refine op0 (sp_assign rfl rfl) rfl trivial rfl rfl ?_
      refine TL.nil ?_
      refine TC.seq ?_
      refine TC.region ?_
      refine op0 (sp_move rfl rfl) rfl trivial rfl rfl ?_
      refine op0 (sp_move rfl rfl) rfl trivial rfl rfl ?_
      refine op0 (sp_move rfl rfl) rfl trivial rfl rfl ?_
      obtain ⟨x4, h2, h3, h⟩ := idx_inv h
      refine op1 0 rfl (sp_indexS rfl rfl rfl isRo sl71 h2 (map_get _ h3)) rfl trivial rfl rfl ?_
      refine op1 0 rfl (sp_loadR (i := (i3 : Int).toNat) (j := 0) (ns := [.ro 2 1 (List.map en_int x4)]) rfl rfl isRo vt37 rfl (map_get _ h3) rfl (.s (.nil)) (nodup_of_B rfl)) rfl trivial rfl rfl ?_
      obtain ⟨r5, h4, h⟩ := bind_inv h
      refine opN (need := [.ro 2 1 (List.map en_int x4), .rob 1 [.val (.int .i64 f2)] 3]) [0, 2] ⟨rfl, rfl, trivial⟩ (sp_call (avs := [.ref 2]) (need := [.ro 2 1 (List.map en_int x4), .rob 1 [.val (.int .i64 f2)] 3]) (v := .val (.bool r5)) (news := []) rfl rfl rfl Try.call237 (atJ [(0, 2)] [] (fc_round_areWays_1 h4) rfl rfl) (.inl (roAll rfl))) rfl trivial rfl rfl ?_
      refine TL.nil ?_
      refine TC.cond (b := r5) rfl (fun h5 => ?_) (fun h5 => ?_)
      · have h := cond_t h h5
        refine TC.seq ?_
        refine TC.region ?_
        refine op0 (sp_move rfl rfl) rfl trivial rfl rfl ?_
        refine op0 (sp_assign rfl rfl) rfl trivial rfl rfl ?_
        refine TL.nil ?_
        cases h
        exact retJ [] (.tmp rfl .nil) rfl trivial rfl rfl
      · have h := cond_f h h5
        refine TC.skip ?_
        refine TC.inBlock ?_
        refine TC.region ?_
        obtain ⟨h6, h⟩ := chk_inv h
        refine op0 (sp_add rfl rfl rfl h6) rfl trivial rfl rfl ?_
        refine op0 (sp_move rfl rfl) rfl trivial rfl rfl ?_
        refine TL.nil ?_
        refine TC.inLoop ?_
        refine TC.seq ?_
        refine subJ [] (ih _ h) ?_ ?_ ?_
        · exact ⟨rfl, rfl, rfl, rfl, trivial⟩
        · exact ⟨mem_at 1 rfl, mem_at 2 rfl, trivial⟩
        · rfl
    · have h := cond_f h h1
      refine TC.exit rfl ?_
      refine TC.seq ?_
      refine TC.region ?_
      refine op0 (sp_assign rfl rfl) rfl trivial rfl rfl ?_
      refine TL.nil ?_
      cases h
      exact retJ [] (.tmp rfl .nil) rfl trivial rfl rfl
def ev_slices_IndexFunc_LLint_Lint (n : Nat) (s1 : List ((List Int))) (f2 : Int) : Option Int :=
  ev_slices_IndexFunc_LLint_Lint_l0 n s1 f2 n 0
set_option maxRecDepth 100000 in
set_option maxHeartbeats 2000000 in
theorem fc_slices_IndexFunc_LLint_Lint {n : Nat} {s1 : List ((List Int))} {f2 : Int} {r : Int} (h : ev_slices_IndexFunc_LLint_Lint n s1 f2 = some r) : FC Try.prog 282 [.ref 0, .fn 237 [] [.ptr 1 0]] [.ro 0 1 (List.map en_Lint s1), .rob 1 [.val (.int .i64 f2)] 3] (.val (.int .i64 r)) [] := by
  refine introJ (nz := 19) Try.func282 rfl rfl rfl (fun w0 R0 env0 => ?_)
  rw [ev_slices_IndexFunc_LLint_Lint] at h
  refine TC.seq ?_
  refine TC.region ?_
  refine op0 (sp_assign rfl rfl) rfl trivial rfl rfl ?_
  refine TL.nil ?_
  refine TC.seq ?_
  refine TC.seq ?_
  refine TC.region ?_
  refine op0 (sp_move rfl rfl) rfl trivial rfl rfl ?_
  refine op1 0 rfl (sp_lenM (N := s1.length) (len_map _ _) rfl rfl isRo Try.underlying71) rfl trivial rfl rfl ?_
  refine op0 (sp_move rfl rfl) rfl trivial rfl rfl ?_
  refine TL.nil ?_
  refine TC.block ?_
  refine TC.loop ?_
  refine TC.seq ?_
  refine subJ [] (ok_slices_IndexFunc_LLint_Lint_l0 _ _ h) ?_ ?_ ?_
  · exact ⟨rfl, rfl, rfl, rfl, trivial⟩
  · exact ⟨mem_at 0 rfl, mem_at 1 rfl, trivial⟩
  · rfl
/- slices_ContainsFunc_LLint_Lint -/
def ev_slices_ContainsFunc_LLint_Lint (n : Nat) (s1 : List ((List Int))) (f2 : Int) : Option Bool :=
  (ev_slices_IndexFunc_LLint_Lint n s1 f2).bind fun r3 => some (decide ((0 : Int) ≤ r3))
set_option maxRecDepth 100000 in
set_option maxHeartbeats 2000000 in
theorem fc_slices_ContainsFunc_LLint_Lint {n : Nat} {s1 : List ((List Int))} {f2 : Int} {r : Bool} (h : ev_slices_ContainsFunc_LLint_Lint n s1 f2 = some r) : FC Try.prog 236 [.ref 0, .fn 237 [] [.ptr 1 0]] [.ro 0 1 (List.map en_Lint s1), .rob 1 [.val (.int .i64 f2)] 3] (.val (.bool r)) [] := by
  refine introJ (nz := 9) Try.func236 rfl rfl rfl (fun w0 R0 env0 => ?_)
  rw [ev_slices_ContainsFunc_LLint_Lint] at h
  refine TC.seq ?_
  refine TC.region ?_
  refine op0 (sp_assign rfl rfl) rfl trivial rfl rfl ?_
  refine TL.nil ?_
  refine TC.seq ?_
  refine TC.region ?_
  refine op0 (sp_move rfl rfl) rfl trivial rfl rfl ?_
  refine op0 (sp_move rfl rfl) rfl trivial rfl rfl ?_
  obtain ⟨r3, h1, h⟩ := bind_inv h
  refine opN (need := [.ro 0 1 (List.map en_Lint s1), .rob 1 [.val (.int .i64 f2)] 3]) [0, 1] ⟨rfl, rfl, trivial⟩ (sp_call (avs := [.ref 0, .fn 237 [] [.ptr 1 0]]) (need := [.ro 0 1 (List.map en_Lint s1), .rob 1 [.val (.int .i64 f2)] 3]) (v := .val (.int .i64 r3)) (news := []) rfl rfl rfl Try.call282 (atJ [] [] (fc_slices_IndexFunc_LLint_Lint h1) rfl rfl) (.inl (roAll rfl))) rfl trivial rfl rfl ?_
  refine op0 (sp_geq rfl rfl rfl) rfl trivial rfl rfl ?_
  refine op0 (sp_assign rfl rfl) rfl trivial rfl rfl ?_
  refine TL.nil ?_
  cases h
  exact retJ [] (.tmp rfl .nil) rfl trivial rfl rfl
/- round_areWays -/
def ev_round_areWays (n : Nat) (rr1 : List (Int × Int × Int × Int × Int)) (rr2 : List ((List Int))) (rr3 : List (Int × Int × Int × Int)) (rr4 : Int) (rr5 : Int) : Option Bool :=
  chk (in64 ((rr1.length : Int) + 1)) <| cond ((rr2.length : Int) == ((rr1.length : Int) + 1)) ((ev_slices_ContainsFunc_LLint_Lint n rr2 ((rr1.length : Int) + 1)).bind fun r6 => some (!r6)) (some false)
set_option maxRecDepth 100000 in
set_option maxHeartbeats 2000000 in
theorem fc_round_areWays {n : Nat} {rr1 : List (Int × Int × Int × Int × Int)} {rr2 : List ((List Int))} {rr3 : List (Int × Int × Int × Int)} {rr4 : Int} {rr5 : Int} {r : Bool} (h : ev_round_areWays n rr1 rr2 rr3 rr4 rr5 = some r) : FC Try.prog 152 [.agg [.ref 0, .ref 1, .ref 2, .val (.int .i64 rr4), .val (.int .i64 rr5)]] [.ro 0 5 (List.map en_api_RoundTower rr1), .ro 1 1 (List.map en_Lint rr2), .ro 2 4 (List.map en_api_RoundWinder rr3)] (.val (.bool r)) [] := by
  refine introJ (nz := 20) Try.func152 rfl rfl rfl (fun w0 R0 env0 => ?_)
  rw [ev_round_areWays] at h
  refine TC.seq ?_
  refine TC.region ?_
  refine op0 (sp_box 3 rfl rfl rfl rfl rfl) rfl trivial rfl rfl ?_
  refine op0 (sp_assign rfl rfl) rfl trivial rfl rfl ?_
  refine TL.nil ?_
  refine TC.seq ?_
  refine TC.region ?_
  refine op1 0 rfl (sp_fieldAddrB rfl isBlk rfl ft74_0 vt70 (by decide)) rfl trivial rfl rfl ?_
  refine op1 0 rfl (sp_loadB rfl isBlk rfl vt70 rfl) rfl trivial rfl rfl ?_
  refine op1 1 rfl (sp_lenM (N := rr1.length) (len_map _ _) rfl rfl isRo Try.underlying70) rfl trivial rfl rfl ?_
  obtain ⟨h1, h⟩ := chk_inv h
  refine op0 (sp_add rfl rfl rfl h1) rfl trivial rfl rfl ?_
  refine op0 (sp_alloc 4 rfl Try.zeroValue3 rfl) rfl trivial rfl rfl ?_
  refine stoB 0 (cells' := [.val (.int .i64 ((rr1.length : Int) + 1))]) rfl rfl trivial rfl rfl rfl rfl vt3 rfl rfl rfl ?_
  refine TL.nil ?_
  refine TC.seq ?_
  refine TC.region ?_
  refine op1 1 rfl (sp_fieldAddrB rfl isBlk rfl ft74_1 vt71 (by decide)) rfl trivial rfl rfl ?_
  refine op1 1 rfl (sp_loadB rfl isBlk rfl vt71 rfl) rfl trivial rfl rfl ?_
  refine op1 3 rfl (sp_lenM (N := rr2.length) (len_map _ _) rfl rfl isRo Try.underlying71) rfl trivial rfl rfl ?_
  refine op1 0 rfl (sp_loadB rfl isBlk rfl vt3 rfl) rfl trivial rfl rfl ?_
  refine op0 (sp_eql rfl rfl rfl) rfl trivial rfl rfl ?_
  refine op0 (sp_move rfl rfl) rfl trivial rfl rfl ?_
  rcases cond_cases h with ⟨h2, h⟩ | ⟨h2, h⟩
  · refine (boolLit 13 rfl h2).2 ?_
    refine op1 1 rfl (sp_fieldAddrB rfl isBlk rfl ft74_1 vt71 (by decide)) rfl ⟨_, rfl, rfl⟩ rfl rfl ?_
    refine op1 1 rfl (sp_loadB rfl isBlk rfl vt71 rfl) rfl ⟨_, rfl, rfl⟩ rfl rfl ?_
    refine op0 (sp_makeFunc (fi := []) (ca := [.tmp 3]) (fa := []) (cb := [.ptr 4 0]) rfl rfl rfl) rfl ⟨_, rfl, rfl⟩ rfl rfl ?_
    obtain ⟨r6, h3, h⟩ := bind_inv h
    refine opN (need := [.ro 1 1 (List.map en_Lint rr2), .blk 4 [.val (.int .i64 ((rr1.length : Int) + 1))] 3]) [3, 0] ⟨rfl, rfl, trivial⟩ (sp_call (avs := [.ref 1, .fn 237 [] [.ptr 4 0]]) (need := [.ro 1 1 (List.map en_Lint rr2), .blk 4 [.val (.int .i64 ((rr1.length : Int) + 1))] 3]) (v := .val (.bool r6)) (news := []) rfl rfl rfl Try.call236 (atJ [(0, 1), (1, 4)] [] (fc_slices_ContainsFunc_LLint_Lint h3) rfl rfl) (.inr (fun x hx => nomatch hx))) rfl ⟨_, rfl, rfl⟩ rfl rfl ?_
    refine op0 (sp_not rfl rfl) rfl ⟨_, rfl, rfl⟩ rfl rfl ?_
    refine op0 (sp_pickT rfl rfl rfl) rfl trivial rfl rfl ?_
    refine op0 (sp_assign rfl rfl) rfl trivial rfl rfl ?_
    refine TL.nil ?_
    cases h
    exact retJ [] (.tmp rfl .nil) rfl trivial rfl rfl
  · refine (boolLit 13 rfl h2).2 ?_
    refine opSkip rfl ⟨_, rfl, .inl rfl⟩ rfl ?_
    refine opSkip rfl ⟨_, rfl, .inl rfl⟩ rfl ?_
    refine opSkip rfl ⟨_, rfl, .inl rfl⟩ rfl ?_
    refine opSkip rfl ⟨_, rfl, .inl rfl⟩ rfl ?_
    refine opSkip rfl ⟨_, rfl, .inl rfl⟩ rfl ?_
    refine op0 (sp_pickF rfl rfl rfl) rfl trivial rfl rfl ?_
    refine op0 (sp_assign rfl rfl) rfl trivial rfl rfl ?_
    refine TL.nil ?_
    cases h
    exact retJ [] (.tmp rfl .nil) rfl trivial rfl rfl
/- round_within_1 -/
def ev_round_within_1 (n : Nat) (nn1 : Int) (c2 : Int) (c3 : Int) : Option Bool :=
  cond (decide (nn1 < c2)) (some true) (some (decide (c3 < nn1)))
set_option maxRecDepth 100000 in
set_option maxHeartbeats 2000000 in
theorem fc_round_within_1 {n : Nat} {nn1 : Int} {c2 : Int} {c3 : Int} {r : Bool} (h : ev_round_within_1 n nn1 c2 c3 = some r) : FC Try.prog 238 [.val (.int .i64 nn1), .ptr 0 0, .ptr 1 0] [.rob 0 [.val (.int .i64 c2)] 3, .rob 1 [.val (.int .i64 c3)] 3] (.val (.bool r)) [] := by
  refine introJ (nz := 13) Try.func238 rfl rfl rfl (fun w0 R0 env0 => ?_)
  rw [ev_round_within_1] at h
  refine TC.seq ?_
  refine TC.region ?_
  refine op0 (sp_assign rfl rfl) rfl trivial rfl rfl ?_
  refine TL.nil ?_
  refine TC.seq ?_
  refine TC.region ?_
  refine op0 (sp_move rfl rfl) rfl trivial rfl rfl ?_
  refine op1 0 rfl (sp_loadB rfl isRob rfl vt3 rfl) rfl trivial rfl rfl ?_
  refine op0 (sp_lss rfl rfl rfl) rfl trivial rfl rfl ?_
  refine op0 (sp_move rfl rfl) rfl trivial rfl rfl ?_
  rcases cond_cases h with ⟨h1, h⟩ | ⟨h1, h⟩
  · refine (boolLit 8 rfl h1).2 ?_
    refine opSkip rfl ⟨_, rfl, .inl rfl⟩ rfl ?_
    refine opSkip rfl ⟨_, rfl, .inl rfl⟩ rfl ?_
    refine opSkip rfl ⟨_, rfl, .inl rfl⟩ rfl ?_
    refine op0 (sp_pickT rfl rfl rfl) rfl trivial rfl rfl ?_
    refine op0 (sp_assign rfl rfl) rfl trivial rfl rfl ?_
    refine TL.nil ?_
    cases h
    exact retJ [] (.tmp rfl .nil) rfl trivial rfl rfl
  · refine (boolLit 8 rfl h1).2 ?_
    refine op0 (sp_move rfl rfl) rfl ⟨_, rfl, rfl⟩ rfl rfl ?_
    refine op1 1 rfl (sp_loadB rfl isRob rfl vt3 rfl) rfl ⟨_, rfl, rfl⟩ rfl rfl ?_
    refine op0 (sp_gtr rfl rfl rfl) rfl ⟨_, rfl, rfl⟩ rfl rfl ?_
    refine op0 (sp_pickF rfl rfl rfl) rfl trivial rfl rfl ?_
    refine op0 (sp_assign rfl rfl) rfl trivial rfl rfl ?_
    refine TL.nil ?_
    cases h
    exact retJ [] (.tmp rfl .nil) rfl trivial rfl rfl
/- round_within -/
def ev_round_within (n : Nat) (least1 : Int) (most2 : Int) (l3 : List Int) : Option Bool :=
  (ev_slices_ContainsFunc_Lint_int n l3 (fun a => ev_round_within_1 n a least1 most2)).bind fun r4 => some (!r4)
set_option maxRecDepth 100000 in
set_option maxHeartbeats 2000000 in
theorem fc_round_within {n : Nat} {least1 : Int} {most2 : Int} {l3 : List Int} {r : Bool} (h : ev_round_within n least1 most2 l3 = some r) : FC Try.prog 153 [.val (.int .i64 least1), .val (.int .i64 most2), .ref 0] [.ro 0 1 (List.map en_int l3)] (.val (.bool r)) [] := by
  refine introJ (nz := 11) Try.func153 rfl rfl rfl (fun w0 R0 env0 => ?_)
  rw [ev_round_within] at h
  refine TC.seq ?_
  refine TC.region ?_
  refine op0 (sp_box 1 rfl rfl rfl rfl rfl) rfl trivial rfl rfl ?_
  refine op0 (sp_box 2 rfl rfl rfl rfl rfl) rfl trivial rfl rfl ?_
  refine op0 (sp_assign rfl rfl) rfl trivial rfl rfl ?_
  refine TL.nil ?_
  refine TC.seq ?_
  refine TC.region ?_
  refine op0 (sp_move rfl rfl) rfl trivial rfl rfl ?_
  refine op0 (sp_makeFunc (fi := []) (ca := [.tmp 3, .tmp 4]) (fa := []) (cb := [.ptr 1 0, .ptr 2 0]) rfl rfl rfl) rfl trivial rfl rfl ?_
  obtain ⟨r4, h1, h⟩ := bind_inv h
  refine opN (need := [.ro 0 1 (List.map en_int l3), .blk 1 [.val (.int .i64 least1)] 3, .blk 2 [.val (.int .i64 most2)] 3]) [2, 1, 0] ⟨rfl, rfl, rfl, trivial⟩ (sp_call (avs := [.ref 0, .fn 238 [] [.ptr 1 0, .ptr 2 0]]) (need := [.ro 0 1 (List.map en_int l3), .blk 1 [.val (.int .i64 least1)] 3, .blk 2 [.val (.int .i64 most2)] 3]) (v := .val (.bool r4)) (news := []) rfl rfl rfl Try.call133 (FC.needJ (need := [.ro 0 1 (List.map en_int l3), .rob 1 [.val (.int .i64 least1)] 3, .rob 2 [.val (.int .i64 most2)] 3]) (need' := [.rob 1 [.val (.int .i64 least1)] 3, .rob 2 [.val (.int .i64 most2)] 3, .ro 0 1 (List.map en_int l3)]) [1, 2, 0] ⟨rfl, rfl, rfl, trivial⟩ (FC.fnArg (args := [.ref 0, .ref 3]) (needC := [.rob 1 [.val (.int .i64 least1)] 3, .rob 2 [.val (.int .i64 most2)] 3]) (need := [.ro 0 1 (List.map en_int l3)]) 1 (first := []) (caps := [.ptr 1 0, .ptr 2 0]) (FC.needJ (need := [.any 3 (D.fn Try.prog fe_funcint_bool fd_funcint_bool (fun a => ev_round_within_1 n a least1 most2)), .ro 0 1 (List.map en_int l3)]) (need' := [.ro 0 1 (List.map en_int l3), .any 3 (D.fn Try.prog fe_funcint_bool fd_funcint_bool (fun a => ev_round_within_1 n a least1 most2))]) [1, 0] ⟨rfl, rfl, trivial⟩ (atJ [(1, 3)] [] (fc_slices_ContainsFunc_Lint_int h1) rfl rfl)) rfl Try.call238 (fun a b hab => atJ [(0, 1), (1, 2)] [] (fc_round_within_1 hab) rfl rfl) rfl (fun _ => rfl) (fun _ => rfl) rfl rfl rfl rfl rfl rfl rfl)) (.inr (fun x hx => nomatch hx))) rfl trivial rfl rfl ?_
  refine op0 (sp_not rfl rfl) rfl trivial rfl rfl ?_
  refine op0 (sp_assign rfl rfl) rfl trivial rfl rfl ?_
  refine TL.nil ?_
  cases h
  exact retJ [] (.tmp rfl .nil) rfl trivial rfl rfl
/- round_not_api_RoundTower -/
def ev_round_not_api_RoundTower (n : Nat) (is1 : (Int × Int × Int × Int × Int) → Option Bool) : Option (((Int × Int × Int × Int × Int) → Option Bool)) :=
  some is1
set_option maxRecDepth 100000 in
set_option maxHeartbeats 2000000 in
theorem fc_round_not_api_RoundTower {n : Nat} {is1 : (Int × Int × Int × Int × Int) → Option Bool} {r : ((Int × Int × Int × Int × Int) → Option Bool)} (h : ev_round_not_api_RoundTower n is1 = some r) : FC Try.prog 155 [.ref 0] [.any 0 (D.fn Try.prog fe_funcapi_RoundTower_bool fd_funcapi_RoundTower_bool is1)] (.fn 240 [] [.ptr 0 0]) [.blk 0 [.ref 1] 301, .any 1 (D.fn Try.prog fe_funcapi_RoundTower_bool fd_funcapi_RoundTower_bool r)] := by
  refine introJ (nz := 4) Try.func155 rfl rfl rfl (fun w0 R0 env0 => ?_)
  rw [ev_round_not_api_RoundTower] at h
  refine TC.seq ?_
  refine TC.region ?_
  refine op0 (sp_box 1 rfl rfl rfl rfl rfl) rfl trivial rfl rfl ?_
  refine op0 (sp_assign rfl rfl) rfl trivial rfl rfl ?_
  refine TL.nil ?_
  refine TC.seq ?_
  refine TC.region ?_
  refine op0 (sp_makeFunc (fi := []) (ca := [.tmp 1]) (fa := []) (cb := [.ptr 1 0]) rfl rfl rfl) rfl trivial rfl rfl ?_
  refine op0 (sp_assign rfl rfl) rfl trivial rfl rfl ?_
  refine TL.nil ?_
  cases h
  exact retJ [(0, 1), (1, 0)] (.tmp rfl .nil) rfl ⟨mem_at 0 rfl, mem_at 1 rfl, trivial⟩ rfl rfl
/- round_isTower -/
def ev_round_isTower (n : Nat) (t1 : Int) (t2 : Int) (t3 : Int) (t4 : Int) (t5 : Int) : Option Bool :=
  (ev_round_within n 0 120 ([t1, t2] : List Int)).bind fun r6 => cond r6 ((ev_round_within n 0 1000 ([t4] : List Int)).bind fun r7 => cond r7 ((ev_round_within n 1 30 ([t5] : List Int)).bind fun r8 => some r8) (some false)) (some false)
set_option maxRecDepth 100000 in
set_option maxHeartbeats 2000000 in
theorem fc_round_isTower {n : Nat} {t1 : Int} {t2 : Int} {t3 : Int} {t4 : Int} {t5 : Int} {r : Bool} (h : ev_round_isTower n t1 t2 t3 t4 t5 = some r) : FC Try.prog 156 [.agg [.val (.int .i64 t1), .val (.int .i64 t2), .val (.int .u16 t3), .val (.int .i64 t4), .val (.int .i64 t5)]] [] (.val (.bool r)) [] := by
  refine introJ (nz := 21) Try.func156 rfl rfl rfl (fun w0 R0 env0 => ?_)
  rw [ev_round_isTower] at h
  refine TC.seq ?_
  refine TC.region ?_
  refine op0 (sp_box 0 rfl rfl rfl rfl rfl) rfl trivial rfl rfl ?_
  refine op0 (sp_assign rfl rfl) rfl trivial rfl rfl ?_
  refine TL.nil ?_
  refine TC.seq ?_
  refine TC.region ?_
  refine op1 0 rfl (sp_fieldAddrB rfl isBlk rfl ft218_0 vt3 (by decide)) rfl trivial rfl rfl ?_
  refine op1 0 rfl (sp_loadB rfl isBlk rfl vt3 rfl) rfl trivial rfl rfl ?_
  refine op1 0 rfl (sp_fieldAddrB rfl isBlk rfl ft218_1 vt3 (by decide)) rfl trivial rfl rfl ?_
  refine op1 0 rfl (sp_loadB rfl isBlk rfl vt3 rfl) rfl trivial rfl rfl ?_
  refine op0 (sp_buildSlice (qs := [.val (.int .i64 t1), .val (.int .i64 t2)]) (need := []) (els := List.map en_int ([t1, t2] : List Int)) 1 rfl sl37 (by decide) (by decide) rfl rfl rfl (.v (.v (.nil))) (map_len fun _ => rfl) rfl rfl rfl) rfl trivial rfl rfl ?_
  obtain ⟨r6, h1, h⟩ := bind_inv h
  refine op1 0 rfl (sp_call (avs := [.val (.int .i64 0), .val (.int .i64 120), .ref 1]) (need := [.row 1 3 1 (List.map en_int ([t1, t2] : List Int))]) (v := .val (.bool r6)) (news := []) rfl rfl rfl Try.call153 (atJ [(0, 1)] [] (fc_round_within h1) rfl rfl) (.inr (fun x hx => nomatch hx))) rfl trivial rfl rfl ?_
  refine op0 (sp_move rfl rfl) rfl trivial rfl rfl ?_
  rcases cond_cases h with ⟨h2, h⟩ | ⟨h2, h⟩
  · refine (boolLit 9 rfl h2).2 ?_
    refine op1 1 rfl (sp_fieldAddrB rfl isBlk rfl ft218_3 vt3 (by decide)) rfl ⟨_, rfl, rfl⟩ rfl rfl ?_
    refine op1 1 rfl (sp_loadB rfl isBlk rfl vt3 rfl) rfl ⟨_, rfl, rfl⟩ rfl rfl ?_
    refine op0 (sp_buildSlice (qs := [.val (.int .i64 t4)]) (need := []) (els := List.map en_int ([t4] : List Int)) 2 rfl sl37 (by decide) (by decide) rfl rfl rfl (.v (.nil)) (map_len fun _ => rfl) rfl rfl rfl) rfl ⟨_, rfl, rfl⟩ rfl rfl ?_
    obtain ⟨r7, h3, h⟩ := bind_inv h
    refine op1 0 rfl (sp_call (avs := [.val (.int .i64 0), .val (.int .i64 1000), .ref 2]) (need := [.row 2 3 1 (List.map en_int ([t4] : List Int))]) (v := .val (.bool r7)) (news := []) rfl rfl rfl Try.call153 (atJ [(0, 2)] [] (fc_round_within h3) rfl rfl) (.inr (fun x hx => nomatch hx))) rfl ⟨_, rfl, rfl⟩ rfl rfl ?_
    refine op0 (sp_pickT rfl rfl rfl) rfl trivial rfl rfl ?_
    refine op0 (sp_move rfl rfl) rfl trivial rfl rfl ?_
    rcases cond_cases h with ⟨h4, h⟩ | ⟨h4, h⟩
    · refine (boolLit 15 rfl h4).2 ?_
      refine op1 2 rfl (sp_fieldAddrB rfl isBlk rfl ft218_4 vt3 (by decide)) rfl ⟨_, rfl, rfl⟩ rfl rfl ?_
      refine op1 2 rfl (sp_loadB rfl isBlk rfl vt3 rfl) rfl ⟨_, rfl, rfl⟩ rfl rfl ?_
      refine op0 (sp_buildSlice (qs := [.val (.int .i64 t5)]) (need := []) (els := List.map en_int ([t5] : List Int)) 3 rfl sl37 (by decide) (by decide) rfl rfl rfl (.v (.nil)) (map_len fun _ => rfl) rfl rfl rfl) rfl ⟨_, rfl, rfl⟩ rfl rfl ?_
      obtain ⟨r8, h5, h⟩ := bind_inv h
      refine op1 0 rfl (sp_call (avs := [.val (.int .i64 1), .val (.int .i64 30), .ref 3]) (need := [.row 3 3 1 (List.map en_int ([t5] : List Int))]) (v := .val (.bool r8)) (news := []) rfl rfl rfl Try.call153 (atJ [(0, 3)] [] (fc_round_within h5) rfl rfl) (.inr (fun x hx => nomatch hx))) rfl ⟨_, rfl, rfl⟩ rfl rfl ?_
      refine op0 (sp_pickT rfl rfl rfl) rfl trivial rfl rfl ?_
      refine op0 (sp_assign rfl rfl) rfl trivial rfl rfl ?_
      refine TL.nil ?_
      cases h
      exact retJ [] (.tmp rfl .nil) rfl trivial rfl rfl
    · refine (boolLit 15 rfl h4).2 ?_
      refine opSkip rfl ⟨_, rfl, .inl rfl⟩ rfl ?_
      refine opSkip rfl ⟨_, rfl, .inl rfl⟩ rfl ?_
      refine opSkip rfl ⟨_, rfl, .inl rfl⟩ rfl ?_
      refine opSkip rfl ⟨_, rfl, .inl rfl⟩ rfl ?_
      refine op0 (sp_pickF rfl rfl rfl) rfl trivial rfl rfl ?_
      refine op0 (sp_assign rfl rfl) rfl trivial rfl rfl ?_
      refine TL.nil ?_
      cases h
      exact retJ [] (.tmp rfl .nil) rfl trivial rfl rfl
  · refine (boolLit 9 rfl h2).2 ?_
    refine opSkip rfl ⟨_, rfl, .inl rfl⟩ rfl ?_
    refine opSkip rfl ⟨_, rfl, .inl rfl⟩ rfl ?_
    refine opSkip rfl ⟨_, rfl, .inl rfl⟩ rfl ?_
    refine opSkip rfl ⟨_, rfl, .inl rfl⟩ rfl ?_
    refine op0 (sp_pickF rfl rfl rfl) rfl trivial rfl rfl ?_
    refine op0 (sp_move rfl rfl) rfl trivial rfl rfl ?_
    refine opSkip rfl ⟨_, rfl, .inl rfl⟩ rfl ?_
    refine opSkip rfl ⟨_, rfl, .inl rfl⟩ rfl ?_
    refine opSkip rfl ⟨_, rfl, .inl rfl⟩ rfl ?_
    refine opSkip rfl ⟨_, rfl, .inl rfl⟩ rfl ?_
    refine op0 (sp_pickF rfl rfl rfl) rfl trivial rfl rfl ?_
    refine op0 (sp_assign rfl rfl) rfl trivial rfl rfl ?_
    refine TL.nil ?_
    cases h
    exact retJ [] (.tmp rfl .nil) rfl trivial rfl rfl
/- round_not_api_RoundTower_1 -/
def ev_round_not_api_RoundTower_1 (n : Nat) (x1 : Int) (x2 : Int) (x3 : Int) (x4 : Int) (x5 : Int) (c6 : (Int × Int × Int × Int × Int) → Option Bool) : Option Bool :=
  (c6 (x1, x2, x3, x4, x5)).bind fun r7 => some (!r7)
set_option maxRecDepth 100000 in
set_option maxHeartbeats 2000000 in
theorem fc_round_not_api_RoundTower_1 {n : Nat} {x1 : Int} {x2 : Int} {x3 : Int} {x4 : Int} {x5 : Int} {c6 : (Int × Int × Int × Int × Int) → Option Bool} {r : Bool} (h : ev_round_not_api_RoundTower_1 n x1 x2 x3 x4 x5 c6 = some r) : FC Try.prog 240 [.agg [.val (.int .i64 x1), .val (.int .i64 x2), .val (.int .u16 x3), .val (.int .i64 x4), .val (.int .i64 x5)], .ptr 0 0] [.rob 0 [.ref 1] 301, .any 1 (D.fn Try.prog fe_funcapi_RoundTower_bool fd_funcapi_RoundTower_bool c6)] (.val (.bool r)) [] := by
  refine introJ (nz := 8) Try.func240 rfl rfl rfl (fun w0 R0 env0 => ?_)
  rw [ev_round_not_api_RoundTower_1] at h
  refine TC.seq ?_
  refine TC.region ?_
  refine op0 (sp_box 2 rfl rfl rfl rfl rfl) rfl trivial rfl rfl ?_
  refine op0 (sp_assign rfl rfl) rfl trivial rfl rfl ?_
  refine TL.nil ?_
  refine TC.seq ?_
  refine TC.region ?_
  refine op1 1 rfl (sp_loadB rfl isRob rfl vt301 rfl) rfl trivial rfl rfl ?_
  refine op1 0 rfl (sp_loadBA rfl isBlk rfl vt218 rfl rfl) rfl trivial rfl rfl ?_
  obtain ⟨r7, h1, h⟩ := bind_inv h
  refine op1 2 rfl (sp_callF (avs := [.agg [.val (.int .i64 x1), .val (.int .i64 x2), .val (.int .u16 x3), .val (.int .i64 x4), .val (.int .i64 x5)]]) (v := .val (.bool r7)) (x1, x2, x3, x4, x5) rfl rfl rfl rfl rfl h1) rfl trivial rfl rfl ?_
  refine op0 (sp_not rfl rfl) rfl trivial rfl rfl ?_
  refine op0 (sp_assign rfl rfl) rfl trivial rfl rfl ?_
  refine TL.nil ?_
  cases h
  exact retJ [] (.tmp rfl .nil) rfl trivial rfl rfl
/- round_not_api_RoundWinder -/
def ev_round_not_api_RoundWinder (n : Nat) (is1 : (Int × Int × Int × Int) → Option Bool) : Option (((Int × Int × Int × Int) → Option Bool)) :=
  some is1
set_option maxRecDepth 100000 in
set_option maxHeartbeats 2000000 in
theorem fc_round_not_api_RoundWinder {n : Nat} {is1 : (Int × Int × Int × Int) → Option Bool} {r : ((Int × Int × Int × Int) → Option Bool)} (h : ev_round_not_api_RoundWinder n is1 = some r) : FC Try.prog 158 [.ref 0] [.any 0 (D.fn Try.prog fe_funcapi_RoundWinder_bool fd_funcapi_RoundWinder_bool is1)] (.fn 242 [] [.ptr 0 0]) [.blk 0 [.ref 1] 304, .any 1 (D.fn Try.prog fe_funcapi_RoundWinder_bool fd_funcapi_RoundWinder_bool r)] := by
  refine introJ (nz := 4) Try.func158 rfl rfl rfl (fun w0 R0 env0 => ?_)
  rw [ev_round_not_api_RoundWinder] at h
  refine TC.seq ?_
  refine TC.region ?_
  refine op0 (sp_box 1 rfl rfl rfl rfl rfl) rfl trivial rfl rfl ?_
  refine op0 (sp_assign rfl rfl) rfl trivial rfl rfl ?_
  refine TL.nil ?_
  refine TC.seq ?_
  refine TC.region ?_
  refine op0 (sp_makeFunc (fi := []) (ca := [.tmp 1]) (fa := []) (cb := [.ptr 1 0]) rfl rfl rfl) rfl trivial rfl rfl ?_
  refine op0 (sp_assign rfl rfl) rfl trivial rfl rfl ?_
  refine TL.nil ?_
  cases h
  exact retJ [(0, 1), (1, 0)] (.tmp rfl .nil) rfl ⟨mem_at 0 rfl, mem_at 1 rfl, trivial⟩ rfl rfl
/- round_isWinder -/
def ev_round_isWinder (n : Nat) (w1 : Int) (w2 : Int) (w3 : Int) (w4 : Int) : Option Bool :=
  (ev_round_within n 0 8000 ([w2] : List Int)).bind fun r5 => cond r5 ((ev_round_within n 1 1440 ([w3, w4] : List Int)).bind fun r6 => some r6) (some false)
set_option maxRecDepth 100000 in
set_option maxHeartbeats 2000000 in
theorem fc_round_isWinder {n : Nat} {w1 : Int} {w2 : Int} {w3 : Int} {w4 : Int} {r : Bool} (h : ev_round_isWinder n w1 w2 w3 w4 = some r) : FC Try.prog 159 [.agg [.val (.int .u16 w1), .val (.int .i64 w2), .val (.int .i64 w3), .val (.int .i64 w4)]] [] (.val (.bool r)) [] := by
  refine introJ (nz := 15) Try.func159 rfl rfl rfl (fun w0 R0 env0 => ?_)
  rw [ev_round_isWinder] at h
  refine TC.seq ?_
  refine TC.region ?_
  refine op0 (sp_box 0 rfl rfl rfl rfl rfl) rfl trivial rfl rfl ?_
  refine op0 (sp_assign rfl rfl) rfl trivial rfl rfl ?_
  refine TL.nil ?_
  refine TC.seq ?_
  refine TC.region ?_
  refine op1 0 rfl (sp_fieldAddrB rfl isBlk rfl ft213_1 vt3 (by decide)) rfl trivial rfl rfl ?_
  refine op1 0 rfl (sp_loadB rfl isBlk rfl vt3 rfl) rfl trivial rfl rfl ?_
  refine op0 (sp_buildSlice (qs := [.val (.int .i64 w2)]) (need := []) (els := List.map en_int ([w2] : List Int)) 1 rfl sl37 (by decide) (by decide) rfl rfl rfl (.v (.nil)) (map_len fun _ => rfl) rfl rfl rfl) rfl trivial rfl rfl ?_
  obtain ⟨r5, h1, h⟩ := bind_inv h
  refine op1 0 rfl (sp_call (avs := [.val (.int .i64 0), .val (.int .i64 8000), .ref 1]) (need := [.row 1 3 1 (List.map en_int ([w2] : List Int))]) (v := .val (.bool r5)) (news := []) rfl rfl rfl Try.call153 (atJ [(0, 1)] [] (fc_round_within h1) rfl rfl) (.inr (fun x hx => nomatch hx))) rfl trivial rfl rfl ?_
  refine op0 (sp_move rfl rfl) rfl trivial rfl rfl ?_
  rcases cond_cases h with ⟨h2, h⟩ | ⟨h2, h⟩
  · refine (boolLit 7 rfl h2).2 ?_
    refine op1 1 rfl (sp_fieldAddrB rfl isBlk rfl ft213_2 vt3 (by decide)) rfl ⟨_, rfl, rfl⟩ rfl rfl ?_
    refine op1 1 rfl (sp_loadB rfl isBlk rfl vt3 rfl) rfl ⟨_, rfl, rfl⟩ rfl rfl ?_
    refine op1 1 rfl (sp_fieldAddrB rfl isBlk rfl ft213_3 vt3 (by decide)) rfl ⟨_, rfl, rfl⟩ rfl rfl ?_
    refine op1 1 rfl (sp_loadB rfl isBlk rfl vt3 rfl) rfl ⟨_, rfl, rfl⟩ rfl rfl ?_
    refine op0 (sp_buildSlice (qs := [.val (.int .i64 w3), .val (.int .i64 w4)]) (need := []) (els := List.map en_int ([w3, w4] : List Int)) 2 rfl sl37 (by decide) (by decide) rfl rfl rfl (.v (.v (.nil))) (map_len fun _ => rfl) rfl rfl rfl) rfl ⟨_, rfl, rfl⟩ rfl rfl ?_
    obtain ⟨r6, h3, h⟩ := bind_inv h
    refine op1 0 rfl (sp_call (avs := [.val (.int .i64 1), .val (.int .i64 1440), .ref 2]) (need := [.row 2 3 1 (List.map en_int ([w3, w4] : List Int))]) (v := .val (.bool r6)) (news := []) rfl rfl rfl Try.call153 (atJ [(0, 2)] [] (fc_round_within h3) rfl rfl) (.inr (fun x hx => nomatch hx))) rfl ⟨_, rfl, rfl⟩ rfl rfl ?_
    refine op0 (sp_pickT rfl rfl rfl) rfl trivial rfl rfl ?_
    refine op0 (sp_assign rfl rfl) rfl trivial rfl rfl ?_
    refine TL.nil ?_
    cases h
    exact retJ [] (.tmp rfl .nil) rfl trivial rfl rfl
  · refine (boolLit 7 rfl h2).2 ?_
    refine opSkip rfl ⟨_, rfl, .inl rfl⟩ rfl ?_
    refine opSkip rfl ⟨_, rfl, .inl rfl⟩ rfl ?_
    refine opSkip rfl ⟨_, rfl, .inl rfl⟩ rfl ?_
    refine opSkip rfl ⟨_, rfl, .inl rfl⟩ rfl ?_
    refine opSkip rfl ⟨_, rfl, .inl rfl⟩ rfl ?_
    refine opSkip rfl ⟨_, rfl, .inl rfl⟩ rfl ?_
    refine op0 (sp_pickF rfl rfl rfl) rfl trivial rfl rfl ?_
    refine op0 (sp_assign rfl rfl) rfl trivial rfl rfl ?_
    refine TL.nil ?_
    cases h
    exact retJ [] (.tmp rfl .nil) rfl trivial rfl rfl
/- round_not_api_RoundWinder_1 -/
def ev_round_not_api_RoundWinder_1 (n : Nat) (x1 : Int) (x2 : Int) (x3 : Int) (x4 : Int) (c5 : (Int × Int × Int × Int) → Option Bool) : Option Bool :=
  (c5 (x1, x2, x3, x4)).bind fun r6 => some (!r6)
set_option maxRecDepth 100000 in
set_option maxHeartbeats 2000000 in
theorem fc_round_not_api_RoundWinder_1 {n : Nat} {x1 : Int} {x2 : Int} {x3 : Int} {x4 : Int} {c5 : (Int × Int × Int × Int) → Option Bool} {r : Bool} (h : ev_round_not_api_RoundWinder_1 n x1 x2 x3 x4 c5 = some r) : FC Try.prog 242 [.agg [.val (.int .u16 x1), .val (.int .i64 x2), .val (.int .i64 x3), .val (.int .i64 x4)], .ptr 0 0] [.rob 0 [.ref 1] 304, .any 1 (D.fn Try.prog fe_funcapi_RoundWinder_bool fd_funcapi_RoundWinder_bool c5)] (.val (.bool r)) [] := by
  refine introJ (nz := 8) Try.func242 rfl rfl rfl (fun w0 R0 env0 => ?_)
  rw [ev_round_not_api_RoundWinder_1] at h
  refine TC.seq ?_
  refine TC.region ?_
  refine op0 (sp_box 2 rfl rfl rfl rfl rfl) rfl trivial rfl rfl ?_
  refine op0 (sp_assign rfl rfl) rfl trivial rfl rfl ?_
  refine TL.nil ?_
  refine TC.seq ?_
  refine TC.region ?_
  refine op1 1 rfl (sp_loadB rfl isRob rfl vt304 rfl) rfl trivial rfl rfl ?_
  refine op1 0 rfl (sp_loadBA rfl isBlk rfl vt213 rfl rfl) rfl trivial rfl rfl ?_
  obtain ⟨r6, h1, h⟩ := bind_inv h
  refine op1 2 rfl (sp_callF (avs := [.agg [.val (.int .u16 x1), .val (.int .i64 x2), .val (.int .i64 x3), .val (.int .i64 x4)]]) (v := .val (.bool r6)) (x1, x2, x3, x4) rfl rfl rfl rfl rfl h1) rfl trivial rfl rfl ?_
  refine op0 (sp_not rfl rfl) rfl trivial rfl rfl ?_
  refine op0 (sp_assign rfl rfl) rfl trivial rfl rfl ?_
  refine TL.nil ?_
  cases h
  exact retJ [] (.tmp rfl .nil) rfl trivial rfl rfl
/- round_Check -/
def ev_round_Check_l1 (n : Nat) (rr2 : List ((List Int))) (rr1 : List (Int × Int × Int × Int × Int)) (rr3 : List (Int × Int × Int × Int)) (rr4 : Int) (rr5 : Int) : Nat → Int → Option Int
  | 0, _ => none
  | m + 1, i9 => cond (decide (i9 < (rr2.length : Int))) (idx rr2 i9 fun x10 => (ev_round_within n 0 1440 x10).bind fun r11 => cond (!r11) (some 2) (idx x10 i9 fun x12 => cond (x12 != 0) (some 2) (chk (in64 (i9 + 1)) <| ev_round_Check_l1 n rr2 rr1 rr3 rr4 rr5 m (i9 + 1)))) (cond ((rr1.length : Int) == 0) (some 2) ((ev_round_not_api_RoundTower n (fun a => ev_round_isTower n a.1 a.2.1 a.2.2.1 a.2.2.2.1 a.2.2.2.2)).bind fun r13 => (ev_slices_ContainsFunc_Lapi_RoundTower_api_RoundTower n rr1 (fun a => ev_round_not_api_RoundTower_1 n a.1 a.2.1 a.2.2.1 a.2.2.2.1 a.2.2.2.2 r13)).bind fun r14 => cond r14 (some 2) (cond ((rr3.length : Int) == 0) (some 2) ((ev_round_not_api_RoundWinder n (fun a => ev_round_isWinder n a.1 a.2.1 a.2.2.1 a.2.2.2)).bind fun r15 => (ev_slices_ContainsFunc_Lapi_RoundWinder_api_RoundWinder n rr3 (fun a => ev_round_not_api_RoundWinder_1 n a.1 a.2.1 a.2.2.1 a.2.2.2 r15)).bind fun r16 => cond r16 (some 2) ((ev_round_within n 1 1440 ([rr4] : List Int)).bind fun r17 => cond (!r17) (some 2) ((ev_round_within n 0 1000 ([rr5] : List Int)).bind fun r18 => cond (!r18) (some 2) (some 0)))))))
set_option maxRecDepth 100000 in
set_option maxHeartbeats 2000000 in
theorem ok_round_Check_l1 {n : Nat} {w0 : World} {R0 : Nat → Prop} {env0 : Env} {r : Int} {rr2 : List ((List Int))} {rr4 : Int} {rr5 : Int} {rr1 : List (Int × Int × Int × Int × Int)} {rr3 : List (Int × Int × Int × Int)} : ∀ (m : Nat) (i9 : Int), ev_round_Check_l1 n rr2 rr1 rr3 rr4 rr5 m i9 = some r → TC Try.prog ⟨w0, fun _ => False, R0⟩ 73 (bodyPost Try.prog Try.f87 (Post ⟨w0, fun _ => False, R0⟩ env0 (.val (.int .i64 r)) [])) [.code (sub (bodyOf Try.f87) [1, 1, 0, 1, 0, 0, 0]), .code (sub (bodyOf Try.f87) [1, 1, 0, 1, 0, 0, 1]), .inLoop (sub (bodyOf Try.f87) [1, 1, 0, 1, 0, 0]), .inBlock 1, .code (sub (bodyOf Try.f87) [1, 1, 1])] ([(1, .ptr 3 0), (19, .ref 1), (20, .val (.int .i64 (rr2.length : Int))), (21, .val (.int .i64 i9))]) ([.blk 3 [.ref 0, .ref 1, .ref 2, .val (.int .i64 rr4), .val (.int .i64 rr5)] 74, .ro 1 1 (List.map en_Lint rr2), .ro 0 5 (List.map en_api_RoundTower rr1), .ro 2 4 (List.map en_api_RoundWinder rr3)]) := by
  intro m
  induction m with
  | zero => intro i9 h; exact none_no h
  | succ m ih =>
    intro i9 h
    rw [ev_round_Check_l1] at h
    refine TC.region ?_
    refine op0 (sp_lss rfl rfl rfl) rfl trivial rfl rfl ?_
    refine TL.nil ?_
    refine TC.seq ?_
    refine TC.cond (b := (decide (i9 < (rr2.length : Int)))) rfl (fun h5 => ?_) (fun h5 => ?_)
    · have h := cond_t h h5
      refine TC.skip ?_
      refine TC.seq ?_
      refine TC.block ?_
      refine TC.seq ?_
      refine TC.region ?_
      refine op0 (sp_move rfl rfl) rfl trivial rfl rfl ?_
      obtain ⟨x10, h6, h7, h⟩ := idx_inv h
      refine op1 1 rfl (sp_indexS rfl rfl rfl isRo sl71 h6 (map_get _ h7)) rfl trivial rfl rfl ?_
      refine op1 1 rfl (sp_loadR (i := (i9 : Int).toNat) (j := 0) (ns := [.ro 4 1 (List.map en_int x10)]) rfl rfl isRo vt37 rfl (map_get _ h7) rfl (.s (.nil)) (nodup_of_B rfl)) rfl trivial rfl rfl ?_
      refine op0 (sp_assign rfl rfl) rfl trivial rfl rfl ?_
      refine op0 (sp_assign rfl rfl) rfl trivial rfl rfl ?_
      refine TL.nil ?_
      refine TC.seq ?_
      refine TC.region ?_
      refine op0 (sp_move rfl rfl) rfl trivial rfl rfl ?_
      obtain ⟨r11, h8, h⟩ := bind_inv h
      refine op1 0 rfl (sp_call (avs := [.val (.int .i64 0), .val (.int .i64 1440), .ref 4]) (need := [.ro 4 1 (List.map en_int x10)]) (v := .val (.bool r11)) (news := []) rfl rfl rfl Try.call153 (atJ [(0, 4)] [] (fc_round_within h8) rfl rfl) (.inl (roAll rfl))) rfl trivial rfl rfl ?_
      refine op0 (sp_not rfl rfl) rfl trivial rfl rfl ?_
      refine op0 (sp_move rfl rfl) rfl trivial rfl rfl ?_
      rcases cond_cases h with ⟨h9, h⟩ | ⟨h9, h⟩
      · refine (boolLit 29 rfl h9).2 ?_
        refine opSkip rfl ⟨_, rfl, .inl rfl⟩ rfl ?_
        refine opSkip rfl ⟨_, rfl, .inl rfl⟩ rfl ?_
        refine opSkip rfl ⟨_, rfl, .inl rfl⟩ rfl ?_
        refine opSkip rfl ⟨_, rfl, .inl rfl⟩ rfl ?_
        refine opSkip rfl ⟨_, rfl, .inl rfl⟩ rfl ?_
        refine op0 (sp_pickT rfl rfl rfl) rfl trivial rfl rfl ?_
        refine TL.nil ?_
        refine TC.condT rfl ?_
        refine TC.seq ?_
        refine TC.region ?_
        refine op0 (sp_assign rfl rfl) rfl trivial rfl rfl ?_
        refine TL.nil ?_
        cases h
        exact retJ [] (.tmp rfl .nil) rfl trivial rfl rfl
      · refine (boolLit 29 rfl h9).2 ?_
        refine op0 (sp_move rfl rfl) rfl ⟨_, rfl, rfl⟩ rfl rfl ?_
        refine op0 (sp_move rfl rfl) rfl ⟨_, rfl, rfl⟩ rfl rfl ?_
        obtain ⟨x12, h10, h11, h⟩ := idx_inv h
        refine op1 0 rfl (sp_indexS rfl rfl rfl isRo sl37 h10 (map_get _ h11)) rfl ⟨_, rfl, rfl⟩ rfl rfl ?_
        refine op1 0 rfl (sp_loadR (i := (i9 : Int).toNat) (j := 0) rfl rfl isRo vt3 rfl (map_get _ h11) rfl (.v (.nil)) (nodup_of_B rfl)) rfl ⟨_, rfl, rfl⟩ rfl rfl ?_
        refine op0 (sp_neq rfl rfl rfl) rfl ⟨_, rfl, rfl⟩ rfl rfl ?_
        refine op0 (sp_pickF rfl rfl rfl) rfl trivial rfl rfl ?_
        refine TL.nil ?_
        refine TC.cond (b := (x12 != 0)) rfl (fun h12 => ?_) (fun h12 => ?_)
        · have h := cond_t h h12
          refine TC.seq ?_
          refine TC.region ?_
          refine op0 (sp_assign rfl rfl) rfl trivial rfl rfl ?_
          refine TL.nil ?_
          cases h
          exact retJ [] (.tmp rfl .nil) rfl trivial rfl rfl
        · have h := cond_f h h12
          refine TC.skip ?_
          refine TC.inBlock ?_
          refine TC.region ?_
          obtain ⟨h13, h⟩ := chk_inv h
          refine op0 (sp_add rfl rfl rfl h13) rfl trivial rfl rfl ?_
          refine op0 (sp_move rfl rfl) rfl trivial rfl rfl ?_
          refine TL.nil ?_
          refine TC.inLoop ?_
          refine TC.seq ?_
          refine subJ [] (ih _ h) ?_ ?_ ?_
          · exact ⟨rfl, rfl, rfl, rfl, trivial⟩
          · exact ⟨mem_at 1 rfl, mem_at 2 rfl, mem_at 3 rfl, mem_at 4 rfl, trivial⟩
          · rfl
    · have h := cond_f h h5
      refine TC.exit rfl ?_
      refine TC.seq ?_
      refine TC.seq ?_
      rcases cond_cases h with ⟨h14, h⟩ | ⟨h14, h⟩
      · refine drawJ 20 [⟨.ptr 3 0, [], [.blk 3 [.ref 0, .ref 1, .ref 2, .val (.int .i64 rr4), .val (.int .i64 rr5)] 74], []⟩, ⟨.ref 0, [], [.blk 3 [.ref 0, .ref 1, .ref 2, .val (.int .i64 rr4), .val (.int .i64 rr5)] 74], []⟩, ⟨.val (.int .i64 (rr1.length : Int)), [], [.ro 0 5 (List.map en_api_RoundTower rr1)], []⟩, ⟨.val (.bool ((rr1.length : Int) == 0)), [], [], []⟩, ⟨.val (.bool true), [], [], []⟩, ⟨.val (undef), [], [], []⟩, ⟨.val (undef), [], [], []⟩, ⟨.val (undef), [], [], []⟩, ⟨.val (undef), [], [], []⟩, ⟨.val (.bool true), [], [], []⟩, ⟨.val (.bool true), [], [], []⟩, ⟨.val (undef), [], [], []⟩, ⟨.val (undef), [], [], []⟩, ⟨.val (undef), [], [], []⟩, ⟨.val (undef), [], [], []⟩, ⟨.val (.bool true), [], [], []⟩, ⟨.val (.bool true), [], [], []⟩, ⟨.val (undef), [], [], []⟩, ⟨.val (undef), [], [], []⟩, ⟨.val (undef), [], [], []⟩] rfl ?_ rfl ?_ rfl ?_ ?_
        · kernel_rfl
        · kernel_rfl
        · exact DAll.op' (sp_fieldAddrB rfl isBlk rfl ft74_0 vt70 (by decide)) trivial rfl (From.ok (ps := [(none, 0)]) ⟨⟨rfl, by kernel_rfl⟩, trivial⟩) (DAll.op' (sp_loadB rfl isBlk rfl vt70 rfl) trivial rfl (From.ok (ps := [(none, 0)]) ⟨⟨rfl, by kernel_rfl⟩, trivial⟩) (DAll.op' (sp_lenM (N := rr1.length) (len_map _ _) rfl rfl isRo Try.underlying70) trivial rfl (From.ok (ps := [(none, 2)]) ⟨⟨rfl, by kernel_rfl⟩, trivial⟩) (DAll.op' (sp_eql rfl rfl rfl) trivial rfl (From.ok (ps := []) trivial) (DAll.op' (sp_castB h14 (sp_move rfl rfl)) trivial rfl (From.ok (ps := []) trivial) (.skip ⟨_, rfl, .inl rfl⟩ rfl rfl rfl (.skip ⟨_, rfl, .inl rfl⟩ rfl rfl rfl (.skip ⟨_, rfl, .inl rfl⟩ rfl rfl rfl (.skip ⟨_, rfl, .inl rfl⟩ rfl rfl rfl (DAll.op' (sp_pickT rfl rfl rfl) trivial rfl (From.ok (ps := []) trivial) (DAll.op' (sp_move rfl rfl) trivial rfl (From.ok (ps := []) trivial) (.skip ⟨_, rfl, .inl rfl⟩ rfl rfl rfl (.skip ⟨_, rfl, .inl rfl⟩ rfl rfl rfl (.skip ⟨_, rfl, .inl rfl⟩ rfl rfl rfl (.skip ⟨_, rfl, .inl rfl⟩ rfl rfl rfl (DAll.op' (sp_pickT rfl rfl rfl) trivial rfl (From.ok (ps := []) trivial) (DAll.op' (sp_move rfl rfl) trivial rfl (From.ok (ps := []) trivial) (.skip ⟨_, rfl, .inl rfl⟩ rfl rfl rfl (.skip ⟨_, rfl, .inl rfl⟩ rfl rfl rfl (.skip ⟨_, rfl, .inl rfl⟩ rfl rfl rfl (.nil))))))))))))))))))))
        refine opSkip rfl ⟨_, rfl, .inl rfl⟩ rfl ?_
        refine op0 (sp_pickT rfl rfl rfl) rfl trivial rfl rfl ?_
        refine op0 (sp_move rfl rfl) rfl trivial rfl rfl ?_
        refine opSkip rfl ⟨_, rfl, .inl rfl⟩ rfl ?_
        refine opSkip rfl ⟨_, rfl, .inl rfl⟩ rfl ?_
        refine opSkip rfl ⟨_, rfl, .inl rfl⟩ rfl ?_
        refine opSkip rfl ⟨_, rfl, .inl rfl⟩ rfl ?_
        refine opSkip rfl ⟨_, rfl, .inl rfl⟩ rfl ?_
        refine op0 (sp_pickT rfl rfl rfl) rfl trivial rfl rfl ?_
        refine op0 (sp_move rfl rfl) rfl trivial rfl rfl ?_
        refine opSkip rfl ⟨_, rfl, .inl rfl⟩ rfl ?_
        refine opSkip rfl ⟨_, rfl, .inl rfl⟩ rfl ?_
        refine opSkip rfl ⟨_, rfl, .inl rfl⟩ rfl ?_
        refine opSkip rfl ⟨_, rfl, .inl rfl⟩ rfl ?_
        refine opSkip rfl ⟨_, rfl, .inl rfl⟩ rfl ?_
        refine op0 (sp_pickT rfl rfl rfl) rfl trivial rfl rfl ?_
        refine TL.nil ?_
        refine TC.condT rfl ?_
        refine TC.seq ?_
        refine TC.region ?_
        refine op0 (sp_assign rfl rfl) rfl trivial rfl rfl ?_
        refine TL.nil ?_
        cases h
        exact retJ [] (.tmp rfl .nil) rfl trivial rfl rfl
      · obtain ⟨r13, h15, h⟩ := bind_inv h
        obtain ⟨r14, h16, h⟩ := bind_inv h
        rcases cond_cases h with ⟨h17, h⟩ | ⟨h17, h⟩
        · refine drawJ 20 [⟨.ptr 3 0, [], [.blk 3 [.ref 0, .ref 1, .ref 2, .val (.int .i64 rr4), .val (.int .i64 rr5)] 74], []⟩, ⟨.ref 0, [], [.blk 3 [.ref 0, .ref 1, .ref 2, .val (.int .i64 rr4), .val (.int .i64 rr5)] 74], []⟩, ⟨.val (.int .i64 (rr1.length : Int)), [], [.ro 0 5 (List.map en_api_RoundTower rr1)], []⟩, ⟨.val (.bool ((rr1.length : Int) == 0)), [], [], []⟩, ⟨.val (.bool false), [], [], []⟩, ⟨.ptr 3 0, [], [.blk 3 [.ref 0, .ref 1, .ref 2, .val (.int .i64 rr4), .val (.int .i64 rr5)] 74], []⟩, ⟨.ref 0, [], [.blk 3 [.ref 0, .ref 1, .ref 2, .val (.int .i64 rr4), .val (.int .i64 rr5)] 74], []⟩, ⟨.fn 240 [] [.ptr 6 0], [.blk 6 [.ref 7] 301, .any 7 (D.fn Try.prog fe_funcapi_RoundTower_bool fd_funcapi_RoundTower_bool r13)], [], []⟩, ⟨.val (.bool r14), [], [.ro 0 5 (List.map en_api_RoundTower rr1), .blk 6 [.ref 7] 301, .any 7 (D.fn Try.prog fe_funcapi_RoundTower_bool fd_funcapi_RoundTower_bool r13)], []⟩, ⟨.val (.bool r14), [], [], []⟩, ⟨.val (.bool true), [], [], []⟩, ⟨.val (undef), [], [], []⟩, ⟨.val (undef), [], [], []⟩, ⟨.val (undef), [], [], []⟩, ⟨.val (undef), [], [], []⟩, ⟨.val (.bool true), [], [], []⟩, ⟨.val (.bool true), [], [], []⟩, ⟨.val (undef), [], [], []⟩, ⟨.val (undef), [], [], []⟩, ⟨.val (undef), [], [], []⟩] rfl ?_ rfl ?_ rfl ?_ ?_
          · kernel_rfl
          · kernel_rfl
          · exact DAll.op' (sp_fieldAddrB rfl isBlk rfl ft74_0 vt70 (by decide)) trivial rfl (From.ok (ps := [(none, 0)]) ⟨⟨rfl, by kernel_rfl⟩, trivial⟩) (DAll.op' (sp_loadB rfl isBlk rfl vt70 rfl) trivial rfl (From.ok (ps := [(none, 0)]) ⟨⟨rfl, by kernel_rfl⟩, trivial⟩) (DAll.op' (sp_lenM (N := rr1.length) (len_map _ _) rfl rfl isRo Try.underlying70) trivial rfl (From.ok (ps := [(none, 2)]) ⟨⟨rfl, by kernel_rfl⟩, trivial⟩) (DAll.op' (sp_eql rfl rfl rfl) trivial rfl (From.ok (ps := []) trivial) (DAll.op' (sp_castB h14 (sp_move rfl rfl)) trivial rfl (From.ok (ps := []) trivial) (DAll.op' (sp_fieldAddrB rfl isBlk rfl ft74_0 vt70 (by decide)) ⟨_, rfl, rfl⟩ rfl (From.ok (ps := [(none, 0)]) ⟨⟨rfl, by kernel_rfl⟩, trivial⟩) (DAll.op' (sp_loadB rfl isBlk rfl vt70 rfl) ⟨_, rfl, rfl⟩ rfl (From.ok (ps := [(none, 0)]) ⟨⟨rfl, by kernel_rfl⟩, trivial⟩) (DAll.op' (sp_call (avs := [.fn 156 [] []]) (need := []) (v := .fn 240 [] [.ptr 6 0]) (news := [.blk 6 [.ref 7] 301, .any 7 (D.fn Try.prog fe_funcapi_RoundTower_bool fd_funcapi_RoundTower_bool r13)]) rfl rfl rfl Try.call155 (FC.fnArg (args := [.ref 5]) (needC := []) (need := []) 0 (first := []) (caps := []) (atJ [(0, 5)] [(0, 6), (1, 7)] (fc_round_not_api_RoundTower h15) rfl rfl) rfl Try.call156 (fun a b hab => atJ [] [] (fc_round_isTower hab) rfl rfl) rfl (fun _ => rfl) (fun _ => rfl) rfl rfl rfl rfl rfl rfl rfl) (.inl (roAll rfl))) ⟨_, rfl, rfl⟩ rfl (From.ok (ps := []) trivial) (DAll.op' (sp_call (avs := [.ref 0, .fn 240 [] [.ptr 6 0]]) (need := [.ro 0 5 (List.map en_api_RoundTower rr1), .blk 6 [.ref 7] 301, .any 7 (D.fn Try.prog fe_funcapi_RoundTower_bool fd_funcapi_RoundTower_bool r13)]) (v := .val (.bool r14)) (news := []) rfl rfl rfl Try.call154 (FC.needJ (need := [.ro 0 5 (List.map en_api_RoundTower rr1), .rob 6 [.ref 7] 301, .any 7 (D.fn Try.prog fe_funcapi_RoundTower_bool fd_funcapi_RoundTower_bool r13)]) (need' := [.rob 6 [.ref 7] 301, .any 7 (D.fn Try.prog fe_funcapi_RoundTower_bool fd_funcapi_RoundTower_bool r13), .ro 0 5 (List.map en_api_RoundTower rr1)]) [1, 2, 0] ⟨rfl, rfl, rfl, trivial⟩ (FC.fnArg (args := [.ref 0, .ref 8]) (needC := [.rob 6 [.ref 7] 301, .any 7 (D.fn Try.prog fe_funcapi_RoundTower_bool fd_funcapi_RoundTower_bool r13)]) (need := [.ro 0 5 (List.map en_api_RoundTower rr1)]) 1 (first := []) (caps := [.ptr 6 0]) (FC.needJ (need := [.any 8 (D.fn Try.prog fe_funcapi_RoundTower_bool fd_funcapi_RoundTower_bool (fun a => ev_round_not_api_RoundTower_1 n a.1 a.2.1 a.2.2.1 a.2.2.2.1 a.2.2.2.2 r13)), .ro 0 5 (List.map en_api_RoundTower rr1)]) (need' := [.ro 0 5 (List.map en_api_RoundTower rr1), .any 8 (D.fn Try.prog fe_funcapi_RoundTower_bool fd_funcapi_RoundTower_bool (fun a => ev_round_not_api_RoundTower_1 n a.1 a.2.1 a.2.2.1 a.2.2.2.1 a.2.2.2.2 r13))]) [1, 0] ⟨rfl, rfl, trivial⟩ (atJ [(1, 8)] [] (fc_slices_ContainsFunc_Lapi_RoundTower_api_RoundTower h16) rfl rfl)) rfl Try.call240 (fun a b hab => atJ [(0, 6), (1, 7)] [] (fc_round_not_api_RoundTower_1 hab) rfl rfl) rfl (fun _ => rfl) (fun _ => rfl) rfl rfl rfl rfl rfl rfl rfl)) (.inr (fun x hx => nomatch hx))) ⟨_, rfl, rfl⟩ rfl (From.ok (ps := [(none, 2), (some 7, 0), (some 7, 1)]) ⟨⟨rfl, by kernel_rfl⟩, ⟨_, rfl, by kernel_rfl, rfl, by kernel_rfl⟩, ⟨_, rfl, by kernel_rfl, rfl, by kernel_rfl⟩, trivial⟩) (DAll.op' (sp_pickF rfl rfl rfl) trivial rfl (From.ok (ps := []) trivial) (DAll.op' (sp_castB h17 (sp_move rfl rfl)) trivial rfl (From.ok (ps := []) trivial) (.skip ⟨_, rfl, .inl rfl⟩ rfl rfl rfl (.skip ⟨_, rfl, .inl rfl⟩ rfl rfl rfl (.skip ⟨_, rfl, .inl rfl⟩ rfl rfl rfl (.skip ⟨_, rfl, .inl rfl⟩ rfl rfl rfl (DAll.op' (sp_pickT rfl rfl rfl) trivial rfl (From.ok (ps := []) trivial) (DAll.op' (sp_move rfl rfl) trivial rfl (From.ok (ps := []) trivial) (.skip ⟨_, rfl, .inl rfl⟩ rfl rfl rfl (.skip ⟨_, rfl, .inl rfl⟩ rfl rfl rfl (.skip ⟨_, rfl, .inl rfl⟩ rfl rfl rfl (.nil))))))))))))))))))))
          refine opSkip rfl ⟨_, rfl, .inl rfl⟩ rfl ?_
          refine op0 (sp_pickT rfl rfl rfl) rfl trivial rfl rfl ?_
          refine op0 (sp_move rfl rfl) rfl trivial rfl rfl ?_
          refine opSkip rfl ⟨_, rfl, .inl rfl⟩ rfl ?_
          refine opSkip rfl ⟨_, rfl, .inl rfl⟩ rfl ?_
          refine opSkip rfl ⟨_, rfl, .inl rfl⟩ rfl ?_
          refine opSkip rfl ⟨_, rfl, .inl rfl⟩ rfl ?_
          refine opSkip rfl ⟨_, rfl, .inl rfl⟩ rfl ?_
          refine op0 (sp_pickT rfl rfl rfl) rfl trivial rfl rfl ?_
          refine op0 (sp_move rfl rfl) rfl trivial rfl rfl ?_
          refine opSkip rfl ⟨_, rfl, .inl rfl⟩ rfl ?_
          refine opSkip rfl ⟨_, rfl, .inl rfl⟩ rfl ?_
          refine opSkip rfl ⟨_, rfl, .inl rfl⟩ rfl ?_
          refine opSkip rfl ⟨_, rfl, .inl rfl⟩ rfl ?_
          refine opSkip rfl ⟨_, rfl, .inl rfl⟩ rfl ?_
          refine op0 (sp_pickT rfl rfl rfl) rfl trivial rfl rfl ?_
          refine TL.nil ?_
          refine TC.condT rfl ?_
          refine TC.seq ?_
          refine TC.region ?_
          refine op0 (sp_assign rfl rfl) rfl trivial rfl rfl ?_
          refine TL.nil ?_
          cases h
          exact retJ [] (.tmp rfl .nil) rfl trivial rfl rfl
        · rcases cond_cases h with ⟨h18, h⟩ | ⟨h18, h⟩
          · refine drawJ 20 [⟨.ptr 3 0, [], [.blk 3 [.ref 0, .ref 1, .ref 2, .val (.int .i64 rr4), .val (.int .i64 rr5)] 74], []⟩, ⟨.ref 0, [], [.blk 3 [.ref 0, .ref 1, .ref 2, .val (.int .i64 rr4), .val (.int .i64 rr5)] 74], []⟩, ⟨.val (.int .i64 (rr1.length : Int)), [], [.ro 0 5 (List.map en_api_RoundTower rr1)], []⟩, ⟨.val (.bool ((rr1.length : Int) == 0)), [], [], []⟩, ⟨.val (.bool false), [], [], []⟩, ⟨.ptr 3 0, [], [.blk 3 [.ref 0, .ref 1, .ref 2, .val (.int .i64 rr4), .val (.int .i64 rr5)] 74], []⟩, ⟨.ref 0, [], [.blk 3 [.ref 0, .ref 1, .ref 2, .val (.int .i64 rr4), .val (.int .i64 rr5)] 74], []⟩, ⟨.fn 240 [] [.ptr 6 0], [.blk 6 [.ref 7] 301, .any 7 (D.fn Try.prog fe_funcapi_RoundTower_bool fd_funcapi_RoundTower_bool r13)], [], []⟩, ⟨.val (.bool r14), [], [.ro 0 5 (List.map en_api_RoundTower rr1), .blk 6 [.ref 7] 301, .any 7 (D.fn Try.prog fe_funcapi_RoundTower_bool fd_funcapi_RoundTower_bool r13)], []⟩, ⟨.val (.bool r14), [], [], []⟩, ⟨.val (.bool false), [], [], []⟩, ⟨.ptr 3 2, [], [.blk 3 [.ref 0, .ref 1, .ref 2, .val (.int .i64 rr4), .val (.int .i64 rr5)] 74], []⟩, ⟨.ref 2, [], [.blk 3 [.ref 0, .ref 1, .ref 2, .val (.int .i64 rr4), .val (.int .i64 rr5)] 74], []⟩, ⟨.val (.int .i64 (rr3.length : Int)), [], [.ro 2 4 (List.map en_api_RoundWinder rr3)], []⟩, ⟨.val (.bool ((rr3.length : Int) == 0)), [], [], []⟩, ⟨.val (.bool ((rr3.length : Int) == 0)), [], [], []⟩, ⟨.val (.bool true), [], [], []⟩, ⟨.val (undef), [], [], []⟩, ⟨.val (undef), [], [], []⟩, ⟨.val (undef), [], [], []⟩] rfl ?_ rfl ?_ rfl ?_ ?_
            · kernel_rfl
            · kernel_rfl
            · exact DAll.op' (sp_fieldAddrB rfl isBlk rfl ft74_0 vt70 (by decide)) trivial rfl (From.ok (ps := [(none, 0)]) ⟨⟨rfl, by kernel_rfl⟩, trivial⟩) (DAll.op' (sp_loadB rfl isBlk rfl vt70 rfl) trivial rfl (From.ok (ps := [(none, 0)]) ⟨⟨rfl, by kernel_rfl⟩, trivial⟩) (DAll.op' (sp_lenM (N := rr1.length) (len_map _ _) rfl rfl isRo Try.underlying70) trivial rfl (From.ok (ps := [(none, 2)]) ⟨⟨rfl, by kernel_rfl⟩, trivial⟩) (DAll.op' (sp_eql rfl rfl rfl) trivial rfl (From.ok (ps := []) trivial) (DAll.op' (sp_castB h14 (sp_move rfl rfl)) trivial rfl (From.ok (ps := []) trivial) (DAll.op' (sp_fieldAddrB rfl isBlk rfl ft74_0 vt70 (by decide)) ⟨_, rfl, rfl⟩ rfl (From.ok (ps := [(none, 0)]) ⟨⟨rfl, by kernel_rfl⟩, trivial⟩) (DAll.op' (sp_loadB rfl isBlk rfl vt70 rfl) ⟨_, rfl, rfl⟩ rfl (From.ok (ps := [(none, 0)]) ⟨⟨rfl, by kernel_rfl⟩, trivial⟩) (DAll.op' (sp_call (avs := [.fn 156 [] []]) (need := []) (v := .fn 240 [] [.ptr 6 0]) (news := [.blk 6 [.ref 7] 301, .any 7 (D.fn Try.prog fe_funcapi_RoundTower_bool fd_funcapi_RoundTower_bool r13)]) rfl rfl rfl Try.call155 (FC.fnArg (args := [.ref 5]) (needC := []) (need := []) 0 (first := []) (caps := []) (atJ [(0, 5)] [(0, 6), (1, 7)] (fc_round_not_api_RoundTower h15) rfl rfl) rfl Try.call156 (fun a b hab => atJ [] [] (fc_round_isTower hab) rfl rfl) rfl (fun _ => rfl) (fun _ => rfl) rfl rfl rfl rfl rfl rfl rfl) (.inl (roAll rfl))) ⟨_, rfl, rfl⟩ rfl (From.ok (ps := []) trivial) (DAll.op' (sp_call (avs := [.ref 0, .fn 240 [] [.ptr 6 0]]) (need := [.ro 0 5 (List.map en_api_RoundTower rr1), .blk 6 [.ref 7] 301, .any 7 (D.fn Try.prog fe_funcapi_RoundTower_bool fd_funcapi_RoundTower_bool r13)]) (v := .val (.bool r14)) (news := []) rfl rfl rfl Try.call154 (FC.needJ (need := [.ro 0 5 (List.map en_api_RoundTower rr1), .rob 6 [.ref 7] 301, .any 7 (D.fn Try.prog fe_funcapi_RoundTower_bool fd_funcapi_RoundTower_bool r13)]) (need' := [.rob 6 [.ref 7] 301, .any 7 (D.fn Try.prog fe_funcapi_RoundTower_bool fd_funcapi_RoundTower_bool r13), .ro 0 5 (List.map en_api_RoundTower rr1)]) [1, 2, 0] ⟨rfl, rfl, rfl, trivial⟩ (FC.fnArg (args := [.ref 0, .ref 8]) (needC := [.rob 6 [.ref 7] 301, .any 7 (D.fn Try.prog fe_funcapi_RoundTower_bool fd_funcapi_RoundTower_bool r13)]) (need := [.ro 0 5 (List.map en_api_RoundTower rr1)]) 1 (first := []) (caps := [.ptr 6 0]) (FC.needJ (need := [.any 8 (D.fn Try.prog fe_funcapi_RoundTower_bool fd_funcapi_RoundTower_bool (fun a => ev_round_not_api_RoundTower_1 n a.1 a.2.1 a.2.2.1 a.2.2.2.1 a.2.2.2.2 r13)), .ro 0 5 (List.map en_api_RoundTower rr1)]) (need' := [.ro 0 5 (List.map en_api_RoundTower rr1), .any 8 (D.fn Try.prog fe_funcapi_RoundTower_bool fd_funcapi_RoundTower_bool (fun a => ev_round_not_api_RoundTower_1 n a.1 a.2.1 a.2.2.1 a.2.2.2.1 a.2.2.2.2 r13))]) [1, 0] ⟨rfl, rfl, trivial⟩ (atJ [(1, 8)] [] (fc_slices_ContainsFunc_Lapi_RoundTower_api_RoundTower h16) rfl rfl)) rfl Try.call240 (fun a b hab => atJ [(0, 6), (1, 7)] [] (fc_round_not_api_RoundTower_1 hab) rfl rfl) rfl (fun _ => rfl) (fun _ => rfl) rfl rfl rfl rfl rfl rfl rfl)) (.inr (fun x hx => nomatch hx))) ⟨_, rfl, rfl⟩ rfl (From.ok (ps := [(none, 2), (some 7, 0), (some 7, 1)]) ⟨⟨rfl, by kernel_rfl⟩, ⟨_, rfl, by kernel_rfl, rfl, by kernel_rfl⟩, ⟨_, rfl, by kernel_rfl, rfl, by kernel_rfl⟩, trivial⟩) (DAll.op' (sp_pickF rfl rfl rfl) trivial rfl (From.ok (ps := []) trivial) (DAll.op' (sp_castB h17 (sp_move rfl rfl)) trivial rfl (From.ok (ps := []) trivial) (DAll.op' (sp_fieldAddrB rfl isBlk rfl ft74_2 vt72 (by decide)) ⟨_, rfl, rfl⟩ rfl (From.ok (ps := [(none, 0)]) ⟨⟨rfl, by kernel_rfl⟩, trivial⟩) (DAll.op' (sp_loadB rfl isBlk rfl vt72 rfl) ⟨_, rfl, rfl⟩ rfl (From.ok (ps := [(none, 0)]) ⟨⟨rfl, by kernel_rfl⟩, trivial⟩) (DAll.op' (sp_lenM (N := rr3.length) (len_map _ _) rfl rfl isRo Try.underlying72) ⟨_, rfl, rfl⟩ rfl (From.ok (ps := [(none, 3)]) ⟨⟨rfl, by kernel_rfl⟩, trivial⟩) (DAll.op' (sp_eql rfl rfl rfl) ⟨_, rfl, rfl⟩ rfl (From.ok (ps := []) trivial) (DAll.op' (sp_pickF rfl rfl rfl) trivial rfl (From.ok (ps := []) trivial) (DAll.op' (sp_castB h18 (sp_move rfl rfl)) trivial rfl (From.ok (ps := []) trivial) (.skip ⟨_, rfl, .inl rfl⟩ rfl rfl rfl (.skip ⟨_, rfl, .inl rfl⟩ rfl rfl rfl (.skip ⟨_, rfl, .inl rfl⟩ rfl rfl rfl (.nil))))))))))))))))))))
            refine opSkip rfl ⟨_, rfl, .inl rfl⟩ rfl ?_
            refine op0 (sp_pickT rfl rfl rfl) rfl trivial rfl rfl ?_
            refine op0 (sp_move rfl rfl) rfl trivial rfl rfl ?_
            refine opSkip rfl ⟨_, rfl, .inl rfl⟩ rfl ?_
            refine opSkip rfl ⟨_, rfl, .inl rfl⟩ rfl ?_
            refine opSkip rfl ⟨_, rfl, .inl rfl⟩ rfl ?_
            refine opSkip rfl ⟨_, rfl, .inl rfl⟩ rfl ?_
            refine opSkip rfl ⟨_, rfl, .inl rfl⟩ rfl ?_
            refine op0 (sp_pickT rfl rfl rfl) rfl trivial rfl rfl ?_
            refine op0 (sp_move rfl rfl) rfl trivial rfl rfl ?_
            refine opSkip rfl ⟨_, rfl, .inl rfl⟩ rfl ?_
            refine opSkip rfl ⟨_, rfl, .inl rfl⟩ rfl ?_
            refine opSkip rfl ⟨_, rfl, .inl rfl⟩ rfl ?_
            refine opSkip rfl ⟨_, rfl, .inl rfl⟩ rfl ?_
            refine opSkip rfl ⟨_, rfl, .inl rfl⟩ rfl ?_
            refine op0 (sp_pickT rfl rfl rfl) rfl trivial rfl rfl ?_
            refine TL.nil ?_
            refine TC.condT rfl ?_
            refine TC.seq ?_
            refine TC.region ?_
            refine op0 (sp_assign rfl rfl) rfl trivial rfl rfl ?_
            refine TL.nil ?_
            cases h
            exact retJ [] (.tmp rfl .nil) rfl trivial rfl rfl
          · obtain ⟨r15, h19, h⟩ := bind_inv h
            refine drawJ 20 [⟨.ptr 3 0, [], [.blk 3 [.ref 0, .ref 1, .ref 2, .val (.int .i64 rr4), .val (.int .i64 rr5)] 74], []⟩, ⟨.ref 0, [], [.blk 3 [.ref 0, .ref 1, .ref 2, .val (.int .i64 rr4), .val (.int .i64 rr5)] 74], []⟩, ⟨.val (.int .i64 (rr1.length : Int)), [], [.ro 0 5 (List.map en_api_RoundTower rr1)], []⟩, ⟨.val (.bool ((rr1.length : Int) == 0)), [], [], []⟩, ⟨.val (.bool false), [], [], []⟩, ⟨.ptr 3 0, [], [.blk 3 [.ref 0, .ref 1, .ref 2, .val (.int .i64 rr4), .val (.int .i64 rr5)] 74], []⟩, ⟨.ref 0, [], [.blk 3 [.ref 0, .ref 1, .ref 2, .val (.int .i64 rr4), .val (.int .i64 rr5)] 74], []⟩, ⟨.fn 240 [] [.ptr 6 0], [.blk 6 [.ref 7] 301, .any 7 (D.fn Try.prog fe_funcapi_RoundTower_bool fd_funcapi_RoundTower_bool r13)], [], []⟩, ⟨.val (.bool r14), [], [.ro 0 5 (List.map en_api_RoundTower rr1), .blk 6 [.ref 7] 301, .any 7 (D.fn Try.prog fe_funcapi_RoundTower_bool fd_funcapi_RoundTower_bool r13)], []⟩, ⟨.val (.bool r14), [], [], []⟩, ⟨.val (.bool false), [], [], []⟩, ⟨.ptr 3 2, [], [.blk 3 [.ref 0, .ref 1, .ref 2, .val (.int .i64 rr4), .val (.int .i64 rr5)] 74], []⟩, ⟨.ref 2, [], [.blk 3 [.ref 0, .ref 1, .ref 2, .val (.int .i64 rr4), .val (.int .i64 rr5)] 74], []⟩, ⟨.val (.int .i64 (rr3.length : Int)), [], [.ro 2 4 (List.map en_api_RoundWinder rr3)], []⟩, ⟨.val (.bool ((rr3.length : Int) == 0)), [], [], []⟩, ⟨.val (.bool ((rr3.length : Int) == 0)), [], [], []⟩, ⟨.val (.bool false), [], [], []⟩, ⟨.ptr 3 2, [], [.blk 3 [.ref 0, .ref 1, .ref 2, .val (.int .i64 rr4), .val (.int .i64 rr5)] 74], []⟩, ⟨.ref 2, [], [.blk 3 [.ref 0, .ref 1, .ref 2, .val (.int .i64 rr4), .val (.int .i64 rr5)] 74], []⟩, ⟨.fn 242 [] [.ptr 10 0], [.blk 10 [.ref 11] 304, .any 11 (D.fn Try.prog fe_funcapi_RoundWinder_bool fd_funcapi_RoundWinder_bool r15)], [], []⟩] rfl ?_ rfl ?_ rfl ?_ ?_
            · kernel_rfl
            · kernel_rfl
            · exact DAll.op' (sp_fieldAddrB rfl isBlk rfl ft74_0 vt70 (by decide)) trivial rfl (From.ok (ps := [(none, 0)]) ⟨⟨rfl, by kernel_rfl⟩, trivial⟩) (DAll.op' (sp_loadB rfl isBlk rfl vt70 rfl) trivial rfl (From.ok (ps := [(none, 0)]) ⟨⟨rfl, by kernel_rfl⟩, trivial⟩) (DAll.op' (sp_lenM (N := rr1.length) (len_map _ _) rfl rfl isRo Try.underlying70) trivial rfl (From.ok (ps := [(none, 2)]) ⟨⟨rfl, by kernel_rfl⟩, trivial⟩) (DAll.op' (sp_eql rfl rfl rfl) trivial rfl (From.ok (ps := []) trivial) (DAll.op' (sp_castB h14 (sp_move rfl rfl)) trivial rfl (From.ok (ps := []) trivial) (DAll.op' (sp_fieldAddrB rfl isBlk rfl ft74_0 vt70 (by decide)) ⟨_, rfl, rfl⟩ rfl (From.ok (ps := [(none, 0)]) ⟨⟨rfl, by kernel_rfl⟩, trivial⟩) (DAll.op' (sp_loadB rfl isBlk rfl vt70 rfl) ⟨_, rfl, rfl⟩ rfl (From.ok (ps := [(none, 0)]) ⟨⟨rfl, by kernel_rfl⟩, trivial⟩) (DAll.op' (sp_call (avs := [.fn 156 [] []]) (need := []) (v := .fn 240 [] [.ptr 6 0]) (news := [.blk 6 [.ref 7] 301, .any 7 (D.fn Try.prog fe_funcapi_RoundTower_bool fd_funcapi_RoundTower_bool r13)]) rfl rfl rfl Try.call155 (FC.fnArg (args := [.ref 5]) (needC := []) (need := []) 0 (first := []) (caps := []) (atJ [(0, 5)] [(0, 6), (1, 7)] (fc_round_not_api_RoundTower h15) rfl rfl) rfl Try.call156 (fun a b hab => atJ [] [] (fc_round_isTower hab) rfl rfl) rfl (fun _ => rfl) (fun _ => rfl) rfl rfl rfl rfl rfl rfl rfl) (.inl (roAll rfl))) ⟨_, rfl, rfl⟩ rfl (From.ok (ps := []) trivial) (DAll.op' (sp_call (avs := [.ref 0, .fn 240 [] [.ptr 6 0]]) (need := [.ro 0 5 (List.map en_api_RoundTower rr1), .blk 6 [.ref 7] 301, .any 7 (D.fn Try.prog fe_funcapi_RoundTower_bool fd_funcapi_RoundTower_bool r13)]) (v := .val (.bool r14)) (news := []) rfl rfl rfl Try.call154 (FC.needJ (need := [.ro 0 5 (List.map en_api_RoundTower rr1), .rob 6 [.ref 7] 301, .any 7 (D.fn Try.prog fe_funcapi_RoundTower_bool fd_funcapi_RoundTower_bool r13)]) (need' := [.rob 6 [.ref 7] 301, .any 7 (D.fn Try.prog fe_funcapi_RoundTower_bool fd_funcapi_RoundTower_bool r13), .ro 0 5 (List.map en_api_RoundTower rr1)]) [1, 2, 0] ⟨rfl, rfl, rfl, trivial⟩ (FC.fnArg (args := [.ref 0, .ref 8]) (needC := [.rob 6 [.ref 7] 301, .any 7 (D.fn Try.prog fe_funcapi_RoundTower_bool fd_funcapi_RoundTower_bool r13)]) (need := [.ro 0 5 (List.map en_api_RoundTower rr1)]) 1 (first := []) (caps := [.ptr 6 0]) (FC.needJ (need := [.any 8 (D.fn Try.prog fe_funcapi_RoundTower_bool fd_funcapi_RoundTower_bool (fun a => ev_round_not_api_RoundTower_1 n a.1 a.2.1 a.2.2.1 a.2.2.2.1 a.2.2.2.2 r13)), .ro 0 5 (List.map en_api_RoundTower rr1)]) (need' := [.ro 0 5 (List.map en_api_RoundTower rr1), .any 8 (D.fn Try.prog fe_funcapi_RoundTower_bool fd_funcapi_RoundTower_bool (fun a => ev_round_not_api_RoundTower_1 n a.1 a.2.1 a.2.2.1 a.2.2.2.1 a.2.2.2.2 r13))]) [1, 0] ⟨rfl, rfl, trivial⟩ (atJ [(1, 8)] [] (fc_slices_ContainsFunc_Lapi_RoundTower_api_RoundTower h16) rfl rfl)) rfl Try.call240 (fun a b hab => atJ [(0, 6), (1, 7)] [] (fc_round_not_api_RoundTower_1 hab) rfl rfl) rfl (fun _ => rfl) (fun _ => rfl) rfl rfl rfl rfl rfl rfl rfl)) (.inr (fun x hx => nomatch hx))) ⟨_, rfl, rfl⟩ rfl (From.ok (ps := [(none, 2), (some 7, 0), (some 7, 1)]) ⟨⟨rfl, by kernel_rfl⟩, ⟨_, rfl, by kernel_rfl, rfl, by kernel_rfl⟩, ⟨_, rfl, by kernel_rfl, rfl, by kernel_rfl⟩, trivial⟩) (DAll.op' (sp_pickF rfl rfl rfl) trivial rfl (From.ok (ps := []) trivial) (DAll.op' (sp_castB h17 (sp_move rfl rfl)) trivial rfl (From.ok (ps := []) trivial) (DAll.op' (sp_fieldAddrB rfl isBlk rfl ft74_2 vt72 (by decide)) ⟨_, rfl, rfl⟩ rfl (From.ok (ps := [(none, 0)]) ⟨⟨rfl, by kernel_rfl⟩, trivial⟩) (DAll.op' (sp_loadB rfl isBlk rfl vt72 rfl) ⟨_, rfl, rfl⟩ rfl (From.ok (ps := [(none, 0)]) ⟨⟨rfl, by kernel_rfl⟩, trivial⟩) (DAll.op' (sp_lenM (N := rr3.length) (len_map _ _) rfl rfl isRo Try.underlying72) ⟨_, rfl, rfl⟩ rfl (From.ok (ps := [(none, 3)]) ⟨⟨rfl, by kernel_rfl⟩, trivial⟩) (DAll.op' (sp_eql rfl rfl rfl) ⟨_, rfl, rfl⟩ rfl (From.ok (ps := []) trivial) (DAll.op' (sp_pickF rfl rfl rfl) trivial rfl (From.ok (ps := []) trivial) (DAll.op' (sp_castB h18 (sp_move rfl rfl)) trivial rfl (From.ok (ps := []) trivial) (DAll.op' (sp_fieldAddrB rfl isBlk rfl ft74_2 vt72 (by decide)) ⟨_, rfl, rfl⟩ rfl (From.ok (ps := [(none, 0)]) ⟨⟨rfl, by kernel_rfl⟩, trivial⟩) (DAll.op' (sp_loadB rfl isBlk rfl vt72 rfl) ⟨_, rfl, rfl⟩ rfl (From.ok (ps := [(none, 0)]) ⟨⟨rfl, by kernel_rfl⟩, trivial⟩) (DAll.op' (sp_call (avs := [.fn 159 [] []]) (need := []) (v := .fn 242 [] [.ptr 10 0]) (news := [.blk 10 [.ref 11] 304, .any 11 (D.fn Try.prog fe_funcapi_RoundWinder_bool fd_funcapi_RoundWinder_bool r15)]) rfl rfl rfl Try.call158 (FC.fnArg (args := [.ref 9]) (needC := []) (need := []) 0 (first := []) (caps := []) (atJ [(0, 9)] [(0, 10), (1, 11)] (fc_round_not_api_RoundWinder h19) rfl rfl) rfl Try.call159 (fun a b hab => atJ [] [] (fc_round_isWinder hab) rfl rfl) rfl (fun _ => rfl) (fun _ => rfl) rfl rfl rfl rfl rfl rfl rfl) (.inl (roAll rfl))) ⟨_, rfl, rfl⟩ rfl (From.ok (ps := []) trivial) (.nil))))))))))))))))))))
            obtain ⟨r16, h20, h⟩ := bind_inv h
            refine opN (need := [.ro 2 4 (List.map en_api_RoundWinder rr3), .blk 10 [.ref 11] 304, .any 11 (D.fn Try.prog fe_funcapi_RoundWinder_bool fd_funcapi_RoundWinder_bool r15)]) [7, 0, 1] ⟨rfl, rfl, rfl, trivial⟩ (sp_call (avs := [.ref 2, .fn 242 [] [.ptr 10 0]]) (need := [.ro 2 4 (List.map en_api_RoundWinder rr3), .blk 10 [.ref 11] 304, .any 11 (D.fn Try.prog fe_funcapi_RoundWinder_bool fd_funcapi_RoundWinder_bool r15)]) (v := .val (.bool r16)) (news := []) rfl rfl rfl Try.call157 (FC.needJ (need := [.ro 2 4 (List.map en_api_RoundWinder rr3), .rob 10 [.ref 11] 304, .any 11 (D.fn Try.prog fe_funcapi_RoundWinder_bool fd_funcapi_RoundWinder_bool r15)]) (need' := [.rob 10 [.ref 11] 304, .any 11 (D.fn Try.prog fe_funcapi_RoundWinder_bool fd_funcapi_RoundWinder_bool r15), .ro 2 4 (List.map en_api_RoundWinder rr3)]) [1, 2, 0] ⟨rfl, rfl, rfl, trivial⟩ (FC.fnArg (args := [.ref 2, .ref 12]) (needC := [.rob 10 [.ref 11] 304, .any 11 (D.fn Try.prog fe_funcapi_RoundWinder_bool fd_funcapi_RoundWinder_bool r15)]) (need := [.ro 2 4 (List.map en_api_RoundWinder rr3)]) 1 (first := []) (caps := [.ptr 10 0]) (FC.needJ (need := [.any 12 (D.fn Try.prog fe_funcapi_RoundWinder_bool fd_funcapi_RoundWinder_bool (fun a => ev_round_not_api_RoundWinder_1 n a.1 a.2.1 a.2.2.1 a.2.2.2 r15)), .ro 2 4 (List.map en_api_RoundWinder rr3)]) (need' := [.ro 2 4 (List.map en_api_RoundWinder rr3), .any 12 (D.fn Try.prog fe_funcapi_RoundWinder_bool fd_funcapi_RoundWinder_bool (fun a => ev_round_not_api_RoundWinder_1 n a.1 a.2.1 a.2.2.1 a.2.2.2 r15))]) [1, 0] ⟨rfl, rfl, trivial⟩ (atJ [(0, 2), (1, 12)] [] (fc_slices_ContainsFunc_Lapi_RoundWinder_api_RoundWinder h20) rfl rfl)) rfl Try.call242 (fun a b hab => atJ [(0, 10), (1, 11)] [] (fc_round_not_api_RoundWinder_1 hab) rfl rfl) rfl (fun _ => rfl) (fun _ => rfl) rfl rfl rfl rfl rfl rfl rfl)) (.inr (fun x hx => nomatch hx))) rfl ⟨_, rfl, rfl⟩ rfl rfl ?_
            refine op0 (sp_pickF rfl rfl rfl) rfl trivial rfl rfl ?_
            refine op0 (sp_move rfl rfl) rfl trivial rfl rfl ?_
            rcases cond_cases h with ⟨h21, h⟩ | ⟨h21, h⟩
            · refine (boolLit 59 rfl h21).2 ?_
              refine opSkip rfl ⟨_, rfl, .inl rfl⟩ rfl ?_
              refine opSkip rfl ⟨_, rfl, .inl rfl⟩ rfl ?_
              refine opSkip rfl ⟨_, rfl, .inl rfl⟩ rfl ?_
              refine opSkip rfl ⟨_, rfl, .inl rfl⟩ rfl ?_
              refine opSkip rfl ⟨_, rfl, .inl rfl⟩ rfl ?_
              refine op0 (sp_pickT rfl rfl rfl) rfl trivial rfl rfl ?_
              refine op0 (sp_move rfl rfl) rfl trivial rfl rfl ?_
              refine opSkip rfl ⟨_, rfl, .inl rfl⟩ rfl ?_
              refine opSkip rfl ⟨_, rfl, .inl rfl⟩ rfl ?_
              refine opSkip rfl ⟨_, rfl, .inl rfl⟩ rfl ?_
              refine opSkip rfl ⟨_, rfl, .inl rfl⟩ rfl ?_
              refine opSkip rfl ⟨_, rfl, .inl rfl⟩ rfl ?_
              refine op0 (sp_pickT rfl rfl rfl) rfl trivial rfl rfl ?_
              refine TL.nil ?_
              refine TC.condT rfl ?_
              refine TC.seq ?_
              refine TC.region ?_
              refine op0 (sp_assign rfl rfl) rfl trivial rfl rfl ?_
              refine TL.nil ?_
              cases h
              exact retJ [] (.tmp rfl .nil) rfl trivial rfl rfl
            · refine (boolLit 59 rfl h21).2 ?_
              refine op1 4 rfl (sp_fieldAddrB rfl isBlk rfl ft74_3 vt3 (by decide)) rfl ⟨_, rfl, rfl⟩ rfl rfl ?_
              refine op1 4 rfl (sp_loadB rfl isBlk rfl vt3 rfl) rfl ⟨_, rfl, rfl⟩ rfl rfl ?_
              refine op0 (sp_buildSlice (qs := [.val (.int .i64 rr4)]) (need := []) (els := List.map en_int ([rr4] : List Int)) 13 rfl sl37 (by decide) (by decide) rfl rfl rfl (.v (.nil)) (map_len fun _ => rfl) rfl rfl rfl) rfl ⟨_, rfl, rfl⟩ rfl rfl ?_
              obtain ⟨r17, h22, h⟩ := bind_inv h
              refine op1 0 rfl (sp_call (avs := [.val (.int .i64 1), .val (.int .i64 1440), .ref 13]) (need := [.row 13 3 1 (List.map en_int ([rr4] : List Int))]) (v := .val (.bool r17)) (news := []) rfl rfl rfl Try.call153 (atJ [(0, 13)] [] (fc_round_within h22) rfl rfl) (.inr (fun x hx => nomatch hx))) rfl ⟨_, rfl, rfl⟩ rfl rfl ?_
              refine op0 (sp_not rfl rfl) rfl ⟨_, rfl, rfl⟩ rfl rfl ?_
              refine op0 (sp_pickF rfl rfl rfl) rfl trivial rfl rfl ?_
              refine op0 (sp_move rfl rfl) rfl trivial rfl rfl ?_
              rcases cond_cases h with ⟨h23, h⟩ | ⟨h23, h⟩
              · refine (boolLit 66 rfl h23).2 ?_
                refine opSkip rfl ⟨_, rfl, .inl rfl⟩ rfl ?_
                refine opSkip rfl ⟨_, rfl, .inl rfl⟩ rfl ?_
                refine opSkip rfl ⟨_, rfl, .inl rfl⟩ rfl ?_
                refine opSkip rfl ⟨_, rfl, .inl rfl⟩ rfl ?_
                refine opSkip rfl ⟨_, rfl, .inl rfl⟩ rfl ?_
                refine op0 (sp_pickT rfl rfl rfl) rfl trivial rfl rfl ?_
                refine TL.nil ?_
                refine TC.condT rfl ?_
                refine TC.seq ?_
                refine TC.region ?_
                refine op0 (sp_assign rfl rfl) rfl trivial rfl rfl ?_
                refine TL.nil ?_
                cases h
                exact retJ [] (.tmp rfl .nil) rfl trivial rfl rfl
              · refine (boolLit 66 rfl h23).2 ?_
                refine op1 5 rfl (sp_fieldAddrB rfl isBlk rfl ft74_4 vt3 (by decide)) rfl ⟨_, rfl, rfl⟩ rfl rfl ?_
                refine op1 5 rfl (sp_loadB rfl isBlk rfl vt3 rfl) rfl ⟨_, rfl, rfl⟩ rfl rfl ?_
                refine op0 (sp_buildSlice (qs := [.val (.int .i64 rr5)]) (need := []) (els := List.map en_int ([rr5] : List Int)) 14 rfl sl37 (by decide) (by decide) rfl rfl rfl (.v (.nil)) (map_len fun _ => rfl) rfl rfl rfl) rfl ⟨_, rfl, rfl⟩ rfl rfl ?_
                obtain ⟨r18, h24, h⟩ := bind_inv h
                refine op1 0 rfl (sp_call (avs := [.val (.int .i64 0), .val (.int .i64 1000), .ref 14]) (need := [.row 14 3 1 (List.map en_int ([rr5] : List Int))]) (v := .val (.bool r18)) (news := []) rfl rfl rfl Try.call153 (atJ [(0, 14)] [] (fc_round_within h24) rfl rfl) (.inr (fun x hx => nomatch hx))) rfl ⟨_, rfl, rfl⟩ rfl rfl ?_
                refine op0 (sp_not rfl rfl) rfl ⟨_, rfl, rfl⟩ rfl rfl ?_
                refine op0 (sp_pickF rfl rfl rfl) rfl trivial rfl rfl ?_
                refine TL.nil ?_
                refine TC.cond (b := (!r18)) rfl (fun h25 => ?_) (fun h25 => ?_)
                · have h := cond_t h h25
                  refine TC.seq ?_
                  refine TC.region ?_
                  refine op0 (sp_assign rfl rfl) rfl trivial rfl rfl ?_
                  refine TL.nil ?_
                  cases h
                  exact retJ [] (.tmp rfl .nil) rfl trivial rfl rfl
                · have h := cond_f h h25
                  refine TC.skip ?_
                  refine TC.seq ?_
                  refine TC.region ?_
                  refine op0 (sp_assign rfl rfl) rfl trivial rfl rfl ?_
                  refine TL.nil ?_
                  cases h
                  exact retJ [] (.tmp rfl .nil) rfl trivial rfl rfl
def ev_round_Check_j0 (n : Nat) (rr1 : List (Int × Int × Int × Int × Int)) (rr2 : List ((List Int))) (rr3 : List (Int × Int × Int × Int)) (rr4 : Int) (rr5 : Int) (b6 : Bool) : Option Int :=
  cond b6 (some 5) ((ev_round_areWays n rr1 rr2 rr3 rr4 rr5).bind fun r7 => cond (!r7) (some 4) (ev_round_Check_l1 n rr2 rr1 rr3 rr4 rr5 n 0))
set_option maxRecDepth 100000 in
set_option maxHeartbeats 2000000 in
theorem ok_round_Check_j0 {n : Nat} {w0 : World} {R0 : Nat → Prop} {env0 : Env} {r : Int} {rr4 : Int} {rr5 : Int} {rr1 : List (Int × Int × Int × Int × Int)} {rr2 : List ((List Int))} {rr3 : List (Int × Int × Int × Int)} {b6 : Bool} (h : ev_round_Check_j0 n rr1 rr2 rr3 rr4 rr5 b6 = some r) : TC Try.prog ⟨w0, fun _ => False, R0⟩ 73 (bodyPost Try.prog Try.f87 (Post ⟨w0, fun _ => False, R0⟩ env0 (.val (.int .i64 r)) [])) [.code (sub (bodyOf Try.f87) [1, 0, 0, 1]), .inBlock 0, .code (sub (bodyOf Try.f87) [1, 1])] ([(1, .ptr 3 0), (5, .val (.bool b6))]) ([.blk 3 [.ref 0, .ref 1, .ref 2, .val (.int .i64 rr4), .val (.int .i64 rr5)] 74, .ro 0 5 (List.map en_api_RoundTower rr1), .ro 1 1 (List.map en_Lint rr2), .ro 2 4 (List.map en_api_RoundWinder rr3)]) := by
  rw [ev_round_Check_j0] at h
  refine TC.cond (b := b6) rfl (fun h2 => ?_) (fun h2 => ?_)
  · have h := cond_t h h2
    refine TC.seq ?_
    refine TC.region ?_
    refine op0 (sp_assign rfl rfl) rfl trivial rfl rfl ?_
    refine TL.nil ?_
    cases h
    exact retJ [] (.tmp rfl .nil) rfl trivial rfl rfl
  · have h := cond_f h h2
    refine TC.seq ?_
    refine TC.region ?_
    refine op1 0 rfl (sp_loadBA rfl isBlk rfl vt74 rfl rfl) rfl trivial rfl rfl ?_
    obtain ⟨r7, h3, h⟩ := bind_inv h
    refine opN (need := [.ro 0 5 (List.map en_api_RoundTower rr1), .ro 1 1 (List.map en_Lint rr2), .ro 2 4 (List.map en_api_RoundWinder rr3)]) [1, 2, 3] ⟨rfl, rfl, rfl, trivial⟩ (sp_call (avs := [.agg [.ref 0, .ref 1, .ref 2, .val (.int .i64 rr4), .val (.int .i64 rr5)]]) (need := [.ro 0 5 (List.map en_api_RoundTower rr1), .ro 1 1 (List.map en_Lint rr2), .ro 2 4 (List.map en_api_RoundWinder rr3)]) (v := .val (.bool r7)) (news := []) rfl rfl rfl Try.call152 (atJ [] [] (fc_round_areWays h3) rfl rfl) (.inl (roAll rfl))) rfl trivial rfl rfl ?_
    refine op0 (sp_not rfl rfl) rfl trivial rfl rfl ?_
    refine op0 (sp_assign rfl rfl) rfl trivial rfl rfl ?_
    refine TL.nil ?_
    refine TC.cond (b := (!r7)) rfl (fun h4 => ?_) (fun h4 => ?_)
    · have h := cond_t h h4
      refine TC.seq ?_
      refine TC.region ?_
      refine op0 (sp_assign rfl rfl) rfl trivial rfl rfl ?_
      refine TL.nil ?_
      cases h
      exact retJ [] (.tmp rfl .nil) rfl trivial rfl rfl
    · have h := cond_f h h4
      refine TC.skip ?_
      refine TC.inBlock ?_
      refine TC.seq ?_
      refine TC.seq ?_
      refine TC.region ?_
      refine op1 0 rfl (sp_fieldAddrB rfl isBlk rfl ft74_1 vt71 (by decide)) rfl trivial rfl rfl ?_
      refine op1 0 rfl (sp_loadB rfl isBlk rfl vt71 rfl) rfl trivial rfl rfl ?_
      refine op1 2 rfl (sp_lenM (N := rr2.length) (len_map _ _) rfl rfl isRo Try.underlying71) rfl trivial rfl rfl ?_
      refine op0 (sp_move rfl rfl) rfl trivial rfl rfl ?_
      refine TL.nil ?_
      refine TC.block ?_
      refine TC.loop ?_
      refine TC.seq ?_
      refine subJ [] (ok_round_Check_l1 _ _ h) ?_ ?_ ?_
      · exact ⟨rfl, rfl, rfl, rfl, trivial⟩
      · exact ⟨mem_at 0 rfl, mem_at 2 rfl, mem_at 1 rfl, mem_at 3 rfl, trivial⟩
      · rfl
def ev_round_Check (n : Nat) (rr1 : List (Int × Int × Int × Int × Int)) (rr2 : List ((List Int))) (rr3 : List (Int × Int × Int × Int)) (rr4 : Int) (rr5 : Int) : Option Int :=
  cond (decide ((8 : Int) < (rr1.length : Int))) (ev_round_Check_j0 n rr1 rr2 rr3 rr4 rr5 (decide ((8 : Int) < (rr1.length : Int)))) (ev_round_Check_j0 n rr1 rr2 rr3 rr4 rr5 (decide ((4 : Int) < (rr3.length : Int))))
set_option maxRecDepth 100000 in
set_option maxHeartbeats 2000000 in
theorem fc_round_Check {n : Nat} {rr1 : List (Int × Int × Int × Int × Int)} {rr2 : List ((List Int))} {rr3 : List (Int × Int × Int × Int)} {rr4 : Int} {rr5 : Int} {r : Int} (h : ev_round_Check n rr1 rr2 rr3 rr4 rr5 = some r) : FC Try.prog 87 [.agg [.ref 0, .ref 1, .ref 2, .val (.int .i64 rr4), .val (.int .i64 rr5)]] [.ro 0 5 (List.map en_api_RoundTower rr1), .ro 1 1 (List.map en_Lint rr2), .ro 2 4 (List.map en_api_RoundWinder rr3)] (.val (.int .i64 r)) [] := by
  refine introJ (nz := 73) Try.func87 rfl rfl rfl (fun w0 R0 env0 => ?_)
  rw [ev_round_Check] at h
  refine TC.seq ?_
  refine TC.region ?_
  refine op0 (sp_box 3 rfl rfl rfl rfl rfl) rfl trivial rfl rfl ?_
  refine op0 (sp_assign rfl rfl) rfl trivial rfl rfl ?_
  refine TL.nil ?_
  refine TC.seq ?_
  refine TC.block ?_
  refine TC.seq ?_
  refine TC.seq ?_
  refine TC.region ?_
  refine op1 0 rfl (sp_fieldAddrB rfl isBlk rfl ft74_0 vt70 (by decide)) rfl trivial rfl rfl ?_
  refine op1 0 rfl (sp_loadB rfl isBlk rfl vt70 rfl) rfl trivial rfl rfl ?_
  refine op1 1 rfl (sp_lenM (N := rr1.length) (len_map _ _) rfl rfl isRo Try.underlying70) rfl trivial rfl rfl ?_
  refine op0 (sp_gtr rfl rfl rfl) rfl trivial rfl rfl ?_
  refine op0 (sp_assign rfl rfl) rfl trivial rfl rfl ?_
  refine TL.nil ?_
  refine TC.cond (b := (decide ((8 : Int) < (rr1.length : Int)))) rfl (fun h1 => ?_) (fun h1 => ?_)
  · have h := cond_t h h1
    refine TC.skip ?_
    refine subJ [] (ok_round_Check_j0 h) ?_ ?_ ?_
    · exact ⟨rfl, rfl, trivial⟩
    · exact ⟨mem_at 0 rfl, mem_at 1 rfl, mem_at 2 rfl, mem_at 3 rfl, trivial⟩
    · rfl
  · have h := cond_f h h1
    refine TC.region ?_
    refine op1 0 rfl (sp_fieldAddrB rfl isBlk rfl ft74_2 vt72 (by decide)) rfl trivial rfl rfl ?_
    refine op1 0 rfl (sp_loadB rfl isBlk rfl vt72 rfl) rfl trivial rfl rfl ?_
    refine op1 3 rfl (sp_lenM (N := rr3.length) (len_map _ _) rfl rfl isRo Try.underlying72) rfl trivial rfl rfl ?_
    refine op0 (sp_gtr rfl rfl rfl) rfl trivial rfl rfl ?_
    refine op0 (sp_assign rfl rfl) rfl trivial rfl rfl ?_
    refine TL.nil ?_
    refine subJ [] (ok_round_Check_j0 h) ?_ ?_ ?_
    · exact ⟨rfl, rfl, trivial⟩
    · exact ⟨mem_at 0 rfl, mem_at 1 rfl, mem_at 2 rfl, mem_at 3 rfl, trivial⟩
    · rfl
/- round_checkDays -/
def ev_round_checkDays_j1 (n : Nat) (x16 : Int × (List Int)) (i9 : Int) (i10 : Int) (i11 : Int) (l12 : List (Int × (List Int))) (l13 : List (Int × Int × Int × Int × Int)) (l14 : List ((List Int))) (l15 : List (Int × Int × Int × Int)) (k_round_checkDays_l0 : Int → Int → Int → Int → (List (Int × (List Int))) → (List (Int × Int × Int × Int × Int)) → (List ((List Int))) → (List (Int × Int × Int × Int)) → Option Int) : Option Int :=
  (ev_slices_Values_Lint_int n x16.2).bind fun r19 => (ev_slices_Sorted_int n r19).bind fun r20 => (ev_slices_Compact_Lint_int n r20).bind fun r21 => cond (decide ((r21.length : Int) < (x16.2.length : Int))) (some 2) (chk (in64 (i9 + 1)) <| k_round_checkDays_l0 x16.1 (i9 + 1) i10 i11 l12 l13 l14 l15)
set_option maxRecDepth 100000 in
set_option maxHeartbeats 2000000 in
theorem ok_round_checkDays_j1 {n : Nat} {w0 : World} {R0 : Nat → Prop} {env0 : Env} {r : Int} {days6 : List (Int × (List Int))} {x16 : Int × (List Int)} {i9 : Int} {i10 : Int} {i11 : Int} {l12 : List (Int × (List Int))} {l13 : List (Int × Int × Int × Int × Int)} {l14 : List ((List Int))} {l15 : List (Int × Int × Int × Int)} {k_round_checkDays_l0 : Int → Int → Int → Int → (List (Int × (List Int))) → (List (Int × Int × Int × Int × Int)) → (List ((List Int))) → (List (Int × Int × Int × Int)) → Option Int} (hk_round_checkDays_l0 : ∀ (i7 : Int) (i9 : Int) (i10 : Int) (i11 : Int) (l12 : List (Int × (List Int))) (l13 : List (Int × Int × Int × Int × Int)) (l14 : List ((List Int))) (l15 : List (Int × Int × Int × Int)), k_round_checkDays_l0 i7 i9 i10 i11 l12 l13 l14 l15 = some r → TC Try.prog ⟨w0, fun _ => False, R0⟩ 49 (bodyPost Try.prog Try.f214 (Post ⟨w0, fun _ => False, R0⟩ env0 (.val (.int .i64 r)) [])) [.code (sub (bodyOf Try.f214) [1, 1, 1, 0, 1, 0, 0, 0]), .code (sub (bodyOf Try.f214) [1, 1, 1, 0, 1, 0, 0, 1]), .inLoop (sub (bodyOf Try.f214) [1, 1, 1, 0, 1, 0, 0]), .inBlock 0, .code (sub (bodyOf Try.f214) [1, 1, 1, 1])] ([(2, .ptr 4 0), (5, .val (.int .i64 i7)), (12, .ref 3), (13, .val (.int .i64 (days6.length : Int))), (14, .val (.int .i64 i9))]) ([.blk 4 [.ref 0, .ref 1, .ref 2, .val (.int .i64 i10), .val (.int .i64 i11)] 74, .ro 3 2 (List.map en_api_RoundDay l12), .ro 0 5 (List.map en_api_RoundTower l13), .ro 1 1 (List.map en_Lint l14), .ro 2 4 (List.map en_api_RoundWinder l15)])) (h : ev_round_checkDays_j1 n x16 i9 i10 i11 l12 l13 l14 l15 k_round_checkDays_l0 = some r) : TC Try.prog ⟨w0, fun _ => False, R0⟩ 49 (bodyPost Try.prog Try.f214 (Post ⟨w0, fun _ => False, R0⟩ env0 (.val (.int .i64 r)) [])) [.code (sub (bodyOf Try.f214) [1, 1, 1, 0, 1, 0, 0, 1, 1, 0, 0, 1, 0, 1, 1]), .code (sub (bodyOf Try.f214) [1, 1, 1, 0, 1, 0, 0, 1, 1, 0, 0, 1, 1]), .inBlock 1, .code (sub (bodyOf Try.f214) [1, 1, 1, 0, 1, 0, 0, 1, 1, 1]), .inLoop (sub (bodyOf Try.f214) [1, 1, 1, 0, 1, 0, 0]), .inBlock 0, .code (sub (bodyOf Try.f214) [1, 1, 1, 1])] ([(2, .ptr 4 0), (7, .ptr 6 0), (12, .ref 3), (13, .val (.int .i64 (days6.length : Int))), (14, .val (.int .i64 i9))]) ([.blk 4 [.ref 0, .ref 1, .ref 2, .val (.int .i64 i10), .val (.int .i64 i11)] 74, .blk 6 [.val (.int .i64 x16.1), .ref 5] 147, .ro 3 2 (List.map en_api_RoundDay l12), .ro 0 5 (List.map en_api_RoundTower l13), .ro 1 1 (List.map en_Lint l14), .ro 2 4 (List.map en_api_RoundWinder l15), .ro 5 1 (List.map en_int x16.2)]) := by
  rw [ev_round_checkDays_j1] at h
  refine TC.skip ?_
  refine TC.seq ?_
  refine TC.seq ?_
  refine TC.region ?_
  refine op1 1 rfl (sp_fieldAddrB rfl isBlk rfl ft147_1 vt37 (by decide)) rfl trivial rfl rfl ?_
  refine op1 1 rfl (sp_loadB rfl isBlk rfl vt37 rfl) rfl trivial rfl rfl ?_
  obtain ⟨r19, h11, h⟩ := bind_inv h
  refine op1 6 rfl (sp_call (avs := [.ref 5]) (need := [.ro 5 1 (List.map en_int x16.2)]) (v := .fn 150 [] [.ptr 8 0]) (news := [.blk 8 [.ref 9] 37, .ro 9 1 (List.map en_int r19)]) rfl rfl rfl Try.call85 (atJ [(0, 5)] [(0, 8), (1, 9)] (fc_slices_Values_Lint_int h11) rfl rfl) (.inl (roAll rfl))) rfl trivial rfl rfl ?_
  obtain ⟨r20, h12, h⟩ := bind_inv h
  refine opN (need := [.blk 8 [.ref 9] 37, .ro 9 1 (List.map en_int r19)]) [0, 1] ⟨rfl, rfl, trivial⟩ (sp_call (avs := [.fn 150 [] [.ptr 8 0]]) (need := [.blk 8 [.ref 9] 37, .ro 9 1 (List.map en_int r19)]) (v := .ref 10) (news := [.row 10 3 1 (List.map en_int r20)]) rfl rfl rfl Try.call272 (atJ [(0, 8), (1, 9)] [(0, 10)] (fc_slices_Sorted_int h12) rfl rfl) (.inr (List.forall_mem_cons.2 ⟨indep_map en_int_flat, (by simp)⟩))) rfl trivial rfl rfl ?_
  refine op0 (sp_assign rfl rfl) rfl trivial rfl rfl ?_
  refine TL.nil ?_
  refine TC.seq ?_
  obtain ⟨r21, h13, h⟩ := bind_inv h
  refine drawJ 6 [⟨.ref 10, [], [], []⟩, ⟨.ref 11, [.row 11 3 1 (List.map en_int r21)], [], [.row 10 3 1 (List.map en_int r20)]⟩, ⟨.val (.int .i64 (r21.length : Int)), [], [.row 11 3 1 (List.map en_int r21)], []⟩, ⟨.ptr 6 1, [], [.blk 6 [.val (.int .i64 x16.1), .ref 5] 147], []⟩, ⟨.ref 5, [], [.blk 6 [.val (.int .i64 x16.1), .ref 5] 147], []⟩, ⟨.val (.int .i64 (x16.2.length : Int)), [], [.ro 5 1 (List.map en_int x16.2)], []⟩] rfl ?_ rfl ?_ rfl ?_ ?_
  · kernel_rfl
  · kernel_rfl
  · exact DAll.op' (sp_move rfl rfl) trivial rfl (From.ok (ps := []) trivial) (DAll.opT (ts_call (avs := [.ref 10]) (take := [.row 10 3 1 (List.map en_int r20)]) (need := []) (v := .ref 11) (news := [.row 11 3 1 (List.map en_int r21)]) rfl rfl rfl Try.call223 (atT [(0, 10)] [(500, 11)] (ft_slices_Compact_Lint_int h13) rfl rfl rfl) rfl rfl) trivial (From.ok (ps := [(none, 0)]) ⟨⟨rfl, by kernel_rfl⟩, trivial⟩) (From.ok (ps := []) trivial) (DAll.op' (sp_lenM (N := r21.length) (len_map _ _) rfl rfl isOwn Try.underlying37) trivial rfl (From.ok (ps := [(some 1, 0)]) ⟨⟨_, rfl, by kernel_rfl, rfl, by kernel_rfl⟩, trivial⟩) (DAll.op' (sp_fieldAddrB rfl isBlk rfl ft147_1 vt37 (by decide)) trivial rfl (From.ok (ps := [(none, 4)]) ⟨⟨rfl, by kernel_rfl⟩, trivial⟩) (DAll.op' (sp_loadB rfl isBlk rfl vt37 rfl) trivial rfl (From.ok (ps := [(none, 4)]) ⟨⟨rfl, by kernel_rfl⟩, trivial⟩) (DAll.op' (sp_lenM (N := x16.2.length) (len_map _ _) rfl rfl isRo Try.underlying37) trivial rfl (From.ok (ps := [(none, 9)]) ⟨⟨rfl, by kernel_rfl⟩, trivial⟩) (.nil))))))
  refine op0 (sp_lss rfl rfl rfl) rfl trivial rfl rfl ?_
  refine TL.nil ?_
  refine TC.cond (b := (decide ((r21.length : Int) < (x16.2.length : Int)))) rfl (fun h14 => ?_) (fun h14 => ?_)
  · have h := cond_t h h14
    refine TC.seq ?_
    refine TC.region ?_
    refine op0 (sp_assign rfl rfl) rfl trivial rfl rfl ?_
    refine TL.nil ?_
    cases h
    exact retJ [] (.tmp rfl .nil) rfl trivial rfl rfl
  · have h := cond_f h h14
    refine TC.skip ?_
    refine TC.region ?_
    refine op1 4 rfl (sp_fieldAddrB rfl isBlk rfl ft147_0 vt3 (by decide)) rfl trivial rfl rfl ?_
    refine op1 4 rfl (sp_loadB rfl isBlk rfl vt3 rfl) rfl trivial rfl rfl ?_
    refine op0 (sp_assign rfl rfl) rfl trivial rfl rfl ?_
    refine TL.nil ?_
    refine TC.inBlock ?_
    refine TC.region ?_
    obtain ⟨h15, h⟩ := chk_inv h
    refine op0 (sp_add rfl rfl rfl h15) rfl trivial rfl rfl ?_
    refine op0 (sp_move rfl rfl) rfl trivial rfl rfl ?_
    refine TL.nil ?_
    refine TC.inLoop ?_
    refine TC.seq ?_
    refine subJ [] (hk_round_checkDays_l0 _ _ _ _ _ _ _ _ h) ?_ ?_ ?_
    · exact ⟨rfl, rfl, rfl, rfl, rfl, trivial⟩
    · exact ⟨mem_at 3 rfl, mem_at 5 rfl, mem_at 6 rfl, mem_at 7 rfl, mem_at 8 rfl, trivial⟩
    · rfl
def ev_round_checkDays_l0 (n : Nat) (days6 : List (Int × (List Int))) : Nat → Int → Int → Int → Int → (List (Int × (List Int))) → (List (Int × Int × Int × Int × Int)) → (List ((List Int))) → (List (Int × Int × Int × Int)) → Option Int
  | 0, _, _, _, _, _, _, _, _ => none
  | m + 1, i7, i9, i10, i11, l12, l13, l14, l15 => cond (decide (i9 < (days6.length : Int))) (idx l12 i9 fun x16 => chk (in64 (i7 + 1)) <| (ev_round_within n (i7 + 1) 36524 ([x16.1] : List Int)).bind fun r17 => cond (!r17) (some 2) (chk (in64 ((l13.length : Int) - 1)) <| (ev_round_within n 0 ((l13.length : Int) - 1) x16.2).bind fun r18 => cond (!r18) (some 2) (ev_round_checkDays_j1 n x16 i9 i10 i11 l12 l13 l14 l15 (fun i7q i9q i10q i11q l12q l13q l14q l15q => ev_round_checkDays_l0 n days6 m i7q i9q i10q i11q l12q l13q l14q l15q)))) (some 0)
set_option maxRecDepth 100000 in
set_option maxHeartbeats 2000000 in
theorem ok_round_checkDays_l0 {n : Nat} {w0 : World} {R0 : Nat → Prop} {env0 : Env} {r : Int} {days6 : List (Int × (List Int))} : ∀ (m : Nat) (i7 : Int) (i9 : Int) (i10 : Int) (i11 : Int) (l12 : List (Int × (List Int))) (l13 : List (Int × Int × Int × Int × Int)) (l14 : List ((List Int))) (l15 : List (Int × Int × Int × Int)), ev_round_checkDays_l0 n days6 m i7 i9 i10 i11 l12 l13 l14 l15 = some r → TC Try.prog ⟨w0, fun _ => False, R0⟩ 49 (bodyPost Try.prog Try.f214 (Post ⟨w0, fun _ => False, R0⟩ env0 (.val (.int .i64 r)) [])) [.code (sub (bodyOf Try.f214) [1, 1, 1, 0, 1, 0, 0, 0]), .code (sub (bodyOf Try.f214) [1, 1, 1, 0, 1, 0, 0, 1]), .inLoop (sub (bodyOf Try.f214) [1, 1, 1, 0, 1, 0, 0]), .inBlock 0, .code (sub (bodyOf Try.f214) [1, 1, 1, 1])] ([(2, .ptr 4 0), (5, .val (.int .i64 i7)), (12, .ref 3), (13, .val (.int .i64 (days6.length : Int))), (14, .val (.int .i64 i9))]) ([.blk 4 [.ref 0, .ref 1, .ref 2, .val (.int .i64 i10), .val (.int .i64 i11)] 74, .ro 3 2 (List.map en_api_RoundDay l12), .ro 0 5 (List.map en_api_RoundTower l13), .ro 1 1 (List.map en_Lint l14), .ro 2 4 (List.map en_api_RoundWinder l15)]) := by
  intro m
  induction m with
  | zero => intro i7 i9 i10 i11 l12 l13 l14 l15 h; exact none_no h
  | succ m ih =>
    intro i7 i9 i10 i11 l12 l13 l14 l15 h
    rw [ev_round_checkDays_l0] at h
    refine TC.region ?_
    refine op0 (sp_lss rfl rfl rfl) rfl trivial rfl rfl ?_
    refine TL.nil ?_
    refine TC.seq ?_
    refine TC.cond (b := (decide (i9 < (days6.length : Int)))) rfl (fun h2 => ?_) (fun h2 => ?_)
    · have h := cond_t h h2
      refine TC.skip ?_
      refine TC.seq ?_
      refine TC.block ?_
      refine TC.seq ?_
      refine TC.region ?_
      obtain ⟨x16, h3, h4, h⟩ := idx_inv h
      refine op1 1 rfl (sp_indexS rfl rfl rfl isRo sl143 h3 (map_get _ h4)) rfl trivial rfl rfl ?_
      refine op1 1 rfl (sp_loadRA (i := (i9 : Int).toNat) (j := 0) (as_ := [.val (.int .i64 x16.1), .ref 5]) (ns := [.ro 5 1 (List.map en_int x16.2)]) rfl rfl isRo vt147 rfl (map_get _ h4) rfl rfl (by decide) (.v (.s (.nil))) (nodup_of_B rfl)) rfl trivial rfl rfl ?_
      refine op0 (sp_alloc 6 rfl Try.zeroValue147 rfl) rfl trivial rfl rfl ?_
      refine stoB 0 (cells' := [.val (.int .i64 x16.1), .ref 5]) rfl rfl trivial rfl rfl rfl rfl vt147 rfl rfl rfl ?_
      refine TL.nil ?_
      refine TC.seq ?_
      refine TC.seq ?_
      refine TC.region ?_
      refine op0 (sp_move rfl rfl) rfl trivial rfl rfl ?_
      obtain ⟨h5, h⟩ := chk_inv h
      refine op0 (sp_add rfl rfl rfl h5) rfl trivial rfl rfl ?_
      refine op1 0 rfl (sp_fieldAddrB rfl isBlk rfl ft147_0 vt3 (by decide)) rfl trivial rfl rfl ?_
      refine op1 0 rfl (sp_loadB rfl isBlk rfl vt3 rfl) rfl trivial rfl rfl ?_
      refine op0 (sp_buildSlice (qs := [.val (.int .i64 x16.1)]) (need := []) (els := List.map en_int ([x16.1] : List Int)) 7 rfl sl37 (by decide) (by decide) rfl rfl rfl (.v (.nil)) (map_len fun _ => rfl) rfl rfl rfl) rfl trivial rfl rfl ?_
      obtain ⟨r17, h6, h⟩ := bind_inv h
      refine op1 0 rfl (sp_call (avs := [.val (.int .i64 (i7 + 1)), .val (.int .i64 36524), .ref 7]) (need := [.row 7 3 1 (List.map en_int ([x16.1] : List Int))]) (v := .val (.bool r17)) (news := []) rfl rfl rfl Try.call153 (atJ [(0, 7)] [] (fc_round_within h6) rfl rfl) (.inr (fun x hx => nomatch hx))) rfl trivial rfl rfl ?_
      refine op0 (sp_not rfl rfl) rfl trivial rfl rfl ?_
      refine op0 (sp_move rfl rfl) rfl trivial rfl rfl ?_
      rcases cond_cases h with ⟨h7, h⟩ | ⟨h7, h⟩
      · refine (boolLit 25 rfl h7).2 ?_
        refine opSkip rfl ⟨_, rfl, .inl rfl⟩ rfl ?_
        refine opSkip rfl ⟨_, rfl, .inl rfl⟩ rfl ?_
        refine opSkip rfl ⟨_, rfl, .inl rfl⟩ rfl ?_
        refine opSkip rfl ⟨_, rfl, .inl rfl⟩ rfl ?_
        refine opSkip rfl ⟨_, rfl, .inl rfl⟩ rfl ?_
        refine opSkip rfl ⟨_, rfl, .inl rfl⟩ rfl ?_
        refine opSkip rfl ⟨_, rfl, .inl rfl⟩ rfl ?_
        refine opSkip rfl ⟨_, rfl, .inl rfl⟩ rfl ?_
        refine op0 (sp_pickT rfl rfl rfl) rfl trivial rfl rfl ?_
        refine TL.nil ?_
        refine TC.condT rfl ?_
        refine TC.seq ?_
        refine TC.region ?_
        refine op0 (sp_assign rfl rfl) rfl trivial rfl rfl ?_
        refine TL.nil ?_
        cases h
        exact retJ [] (.tmp rfl .nil) rfl trivial rfl rfl
      · refine (boolLit 25 rfl h7).2 ?_
        refine op1 3 rfl (sp_fieldAddrB rfl isBlk rfl ft74_0 vt70 (by decide)) rfl ⟨_, rfl, rfl⟩ rfl rfl ?_
        refine op1 3 rfl (sp_loadB rfl isBlk rfl vt70 rfl) rfl ⟨_, rfl, rfl⟩ rfl rfl ?_
        refine op1 5 rfl (sp_lenM (N := l13.length) (len_map _ _) rfl rfl isRo Try.underlying70) rfl ⟨_, rfl, rfl⟩ rfl rfl ?_
        obtain ⟨h8, h⟩ := chk_inv h
        refine op0 (sp_sub rfl rfl rfl h8) rfl ⟨_, rfl, rfl⟩ rfl rfl ?_
        refine op1 1 rfl (sp_fieldAddrB rfl isBlk rfl ft147_1 vt37 (by decide)) rfl ⟨_, rfl, rfl⟩ rfl rfl ?_
        refine op1 1 rfl (sp_loadB rfl isBlk rfl vt37 rfl) rfl ⟨_, rfl, rfl⟩ rfl rfl ?_
        obtain ⟨r18, h9, h⟩ := bind_inv h
        refine op1 2 rfl (sp_call (avs := [.val (.int .i64 0), .val (.int .i64 ((l13.length : Int) - 1)), .ref 5]) (need := [.ro 5 1 (List.map en_int x16.2)]) (v := .val (.bool r18)) (news := []) rfl rfl rfl Try.call153 (atJ [(0, 5)] [] (fc_round_within h9) rfl rfl) (.inl (roAll rfl))) rfl ⟨_, rfl, rfl⟩ rfl rfl ?_
        refine op0 (sp_not rfl rfl) rfl ⟨_, rfl, rfl⟩ rfl rfl ?_
        refine op0 (sp_pickF rfl rfl rfl) rfl trivial rfl rfl ?_
        refine TL.nil ?_
        refine TC.cond (b := (!r18)) rfl (fun h10 => ?_) (fun h10 => ?_)
        · have h := cond_t h h10
          refine TC.seq ?_
          refine TC.region ?_
          refine op0 (sp_assign rfl rfl) rfl trivial rfl rfl ?_
          refine TL.nil ?_
          cases h
          exact retJ [] (.tmp rfl .nil) rfl trivial rfl rfl
        · have h := cond_f h h10
          refine subJ [] (ok_round_checkDays_j1 (days6 := days6) ih h) ?_ ?_ ?_
          · exact ⟨rfl, rfl, rfl, rfl, rfl, trivial⟩
          · exact ⟨mem_at 3 rfl, mem_at 1 rfl, mem_at 4 rfl, mem_at 5 rfl, mem_at 6 rfl, mem_at 7 rfl, mem_at 2 rfl, trivial⟩
          · rfl
    · have h := cond_f h h2
      refine TC.exit rfl ?_
      refine TC.seq ?_
      refine TC.region ?_
      refine op0 (sp_assign rfl rfl) rfl trivial rfl rfl ?_
      refine TL.nil ?_
      cases h
      exact retJ [] (.tmp rfl .nil) rfl trivial rfl rfl
def ev_round_checkDays (n : Nat) (rr1 : List (Int × Int × Int × Int × Int)) (rr2 : List ((List Int))) (rr3 : List (Int × Int × Int × Int)) (rr4 : Int) (rr5 : Int) (days6 : List (Int × (List Int))) : Option Int :=
  cond (decide ((400 : Int) < (days6.length : Int))) (some 5) (ev_round_checkDays_l0 n days6 n 0 0 rr4 rr5 days6 rr1 rr2 rr3)
set_option maxRecDepth 100000 in
set_option maxHeartbeats 2000000 in
theorem fc_round_checkDays {n : Nat} {rr1 : List (Int × Int × Int × Int × Int)} {rr2 : List ((List Int))} {rr3 : List (Int × Int × Int × Int)} {rr4 : Int} {rr5 : Int} {days6 : List (Int × (List Int))} {r : Int} (h : ev_round_checkDays n rr1 rr2 rr3 rr4 rr5 days6 = some r) : FC Try.prog 214 [.agg [.ref 0, .ref 1, .ref 2, .val (.int .i64 rr4), .val (.int .i64 rr5)], .ref 3] [.ro 0 5 (List.map en_api_RoundTower rr1), .ro 1 1 (List.map en_Lint rr2), .ro 2 4 (List.map en_api_RoundWinder rr3), .ro 3 2 (List.map en_api_RoundDay days6)] (.val (.int .i64 r)) [] := by
  refine introJ (nz := 49) Try.func214 rfl rfl rfl (fun w0 R0 env0 => ?_)
  rw [ev_round_checkDays] at h
  refine TC.seq ?_
  refine TC.region ?_
  refine op0 (sp_box 4 rfl rfl rfl rfl rfl) rfl trivial rfl rfl ?_
  refine op0 (sp_assign rfl rfl) rfl trivial rfl rfl ?_
  refine TL.nil ?_
  refine TC.seq ?_
  refine TC.seq ?_
  refine TC.region ?_
  refine op0 (sp_move rfl rfl) rfl trivial rfl rfl ?_
  refine op1 4 rfl (sp_lenM (N := days6.length) (len_map _ _) rfl rfl isRo Try.underlying143) rfl trivial rfl rfl ?_
  refine op0 (sp_gtr rfl rfl rfl) rfl trivial rfl rfl ?_
  refine TL.nil ?_
  refine TC.cond (b := (decide ((400 : Int) < (days6.length : Int)))) rfl (fun h1 => ?_) (fun h1 => ?_)
  · have h := cond_t h h1
    refine TC.seq ?_
    refine TC.region ?_
    refine op0 (sp_assign rfl rfl) rfl trivial rfl rfl ?_
    refine TL.nil ?_
    cases h
    exact retJ [] (.tmp rfl .nil) rfl trivial rfl rfl
  · have h := cond_f h h1
    refine TC.skip ?_
    refine TC.seq ?_
    refine TC.region ?_
    refine op0 (sp_assign rfl rfl) rfl trivial rfl rfl ?_
    refine TL.nil ?_
    refine TC.seq ?_
    refine TC.seq ?_
    refine TC.region ?_
    refine op0 (sp_move rfl rfl) rfl trivial rfl rfl ?_
    refine op1 4 rfl (sp_lenM (N := days6.length) (len_map _ _) rfl rfl isRo Try.underlying143) rfl trivial rfl rfl ?_
    refine op0 (sp_move rfl rfl) rfl trivial rfl rfl ?_
    refine TL.nil ?_
    refine TC.block ?_
    refine TC.loop ?_
    refine TC.seq ?_
    refine subJ [] (ok_round_checkDays_l0 _ _ _ _ _ _ _ _ _ h) ?_ ?_ ?_
    · exact ⟨rfl, rfl, rfl, rfl, rfl, trivial⟩
    · exact ⟨mem_at 0 rfl, mem_at 4 rfl, mem_at 1 rfl, mem_at 2 rfl, mem_at 3 rfl, trivial⟩
    · rfl
/- round_isDay -/
def ev_round_isDay (n : Nat) (nn1 : Int) : Option Bool :=
  (ev_round_within n 0 36524 ([nn1] : List Int)).bind fun r2 => some r2
set_option maxRecDepth 100000 in
set_option maxHeartbeats 2000000 in
theorem fc_round_isDay {n : Nat} {nn1 : Int} {r : Bool} (h : ev_round_isDay n nn1 = some r) : FC Try.prog 215 [.val (.int .i64 nn1)] [] (.val (.bool r)) [] := by
  refine introJ (nz := 6) Try.func215 rfl rfl rfl (fun w0 R0 env0 => ?_)
  rw [ev_round_isDay] at h
  refine TC.seq ?_
  refine TC.region ?_
  refine op0 (sp_assign rfl rfl) rfl trivial rfl rfl ?_
  refine TL.nil ?_
  refine TC.seq ?_
  refine TC.region ?_
  refine op0 (sp_move rfl rfl) rfl trivial rfl rfl ?_
  refine op0 (sp_buildSlice (qs := [.val (.int .i64 nn1)]) (need := []) (els := List.map en_int ([nn1] : List Int)) 0 rfl sl37 (by decide) (by decide) rfl rfl rfl (.v (.nil)) (map_len fun _ => rfl) rfl rfl rfl) rfl trivial rfl rfl ?_
  obtain ⟨r2, h1, h⟩ := bind_inv h
  refine op1 0 rfl (sp_call (avs := [.val (.int .i64 0), .val (.int .i64 36524), .ref 0]) (need := [.row 0 3 1 (List.map en_int ([nn1] : List Int))]) (v := .val (.bool r2)) (news := []) rfl rfl rfl Try.call153 (atJ [] [] (fc_round_within h1) rfl rfl) (.inr (fun x hx => nomatch hx))) rfl trivial rfl rfl ?_
  refine op0 (sp_assign rfl rfl) rfl trivial rfl rfl ?_
  refine TL.nil ?_
  cases h
  exact retJ [] (.tmp rfl .nil) rfl trivial rfl rfl
/- round_open -/
def ev_round_open_l3 (n : Nat) (rr1 : List (Int × Int × Int × Int × Int)) : Nat → (List Int) → Int → (List (Int × Int × Int × Int × Int)) → Option ((List Int) × Int)
  | 0, _, _, _ => none
  | m + 1, l13, i14, l15 => cond (decide (i14 < (rr1.length : Int))) (idx l15 i14 fun x16 => chk (room 8 (l13.length + ([x16.2.2.2.2] : List Int).length)) <| chk (in64 (i14 + 1)) <| ev_round_open_l3 n rr1 m (l13 ++ ([x16.2.2.2.2] : List Int)) (i14 + 1) l15) (some (l13, 0))
set_option maxRecDepth 100000 in
set_option maxHeartbeats 2000000 in
theorem ok_round_open_l3 {n : Nat} {w0 : World} {R0 : Nat → Prop} {env0 : Env} {r : (List Int) × Int} {rr1 : List (Int × Int × Int × Int × Int)} : ∀ (m : Nat) (l13 : List Int) (i14 : Int) (l15 : List (Int × Int × Int × Int × Int)), ev_round_open_l3 n rr1 m l13 i14 l15 = some r → TC Try.prog ⟨w0, fun _ => False, R0⟩ 41 (bodyPost Try.prog Try.f122 (Post ⟨w0, fun _ => False, R0⟩ env0 (.tup [.ref 0, .val (.int .i64 r.2)]) [.row 0 3 1 (List.map en_int r.1)])) [.code (sub (bodyOf Try.f122) [1, 1, 1, 1, 1, 0, 1, 0, 0, 0]), .code (sub (bodyOf Try.f122) [1, 1, 1, 1, 1, 0, 1, 0, 0, 1]), .inLoop (sub (bodyOf Try.f122) [1, 1, 1, 1, 1, 0, 1, 0, 0]), .inBlock 0, .code (sub (bodyOf Try.f122) [1, 1, 1, 1, 1, 1])] ([(6, .ref 6), (28, .ref 0), (29, .val (.int .i64 (rr1.length : Int))), (30, .val (.int .i64 i14))]) ([.row 6 3 1 (List.map en_int l13), .ro 0 5 (List.map en_api_RoundTower l15)]) := by
  intro m
  induction m with
  | zero => intro l13 i14 l15 h; exact none_no h
  | succ m ih =>
    intro l13 i14 l15 h
    rw [ev_round_open_l3] at h
    refine TC.region ?_
    refine op0 (sp_lss rfl rfl rfl) rfl trivial rfl rfl ?_
    refine TL.nil ?_
    refine TC.seq ?_
    refine TC.cond (b := (decide (i14 < (rr1.length : Int)))) rfl (fun h8 => ?_) (fun h8 => ?_)
    · have h := cond_t h h8
      refine TC.skip ?_
      refine TC.seq ?_
      refine TC.block ?_
      refine TC.seq ?_
      refine TC.region ?_
      obtain ⟨x16, h9, h10, h⟩ := idx_inv h
      refine op1 1 rfl (sp_indexS rfl rfl rfl isRo sl70 h9 (map_get _ h10)) rfl trivial rfl rfl ?_
      refine op1 1 rfl (sp_loadRA (i := (i14 : Int).toNat) (j := 0) (as_ := [.val (.int .i64 x16.1), .val (.int .i64 x16.2.1), .val (.int .u16 x16.2.2.1), .val (.int .i64 x16.2.2.2.1), .val (.int .i64 x16.2.2.2.2)]) (ns := []) rfl rfl isRo vt218 rfl (map_get _ h10) rfl rfl (by decide) (.v (.v (.v (.v (.v (.nil)))))) (nodup_of_B rfl)) rfl trivial rfl rfl ?_
      refine op0 (sp_alloc 7 rfl Try.zeroValue218 rfl) rfl trivial rfl rfl ?_
      refine stoB 0 (cells' := [.val (.int .i64 x16.1), .val (.int .i64 x16.2.1), .val (.int .u16 x16.2.2.1), .val (.int .i64 x16.2.2.2.1), .val (.int .i64 x16.2.2.2.2)]) rfl rfl trivial rfl rfl rfl rfl vt218 rfl rfl rfl ?_
      refine TL.nil ?_
      refine TC.region ?_
      refine op0 (sp_move rfl rfl) rfl trivial rfl rfl ?_
      refine op1 0 rfl (sp_fieldAddrB rfl isBlk rfl ft218_4 vt3 (by decide)) rfl trivial rfl rfl ?_
      refine op1 0 rfl (sp_loadB rfl isBlk rfl vt3 rfl) rfl trivial rfl rfl ?_
      refine op0 (sp_buildSlice (qs := [.val (.int .i64 x16.2.2.2.2)]) (need := []) (els := List.map en_int ([x16.2.2.2.2] : List Int)) 8 rfl sl271 (by decide) (by decide) rfl rfl rfl (.v (.nil)) (map_len fun _ => rfl) rfl rfl rfl) rfl trivial rfl rfl ?_
      obtain ⟨h11, h⟩ := chk_inv h
      refine appM 2 0 (N := l13.length) (N2 := ([x16.2.2.2.2] : List Int).length) 9 rfl rfl trivial rfl rfl rfl rfl rfl isOwn rfl sl271 (len_map _ _) (len_map _ _) h11 (map_app _ _ _) rfl ?_
      refine op0 (sp_assign rfl rfl) rfl trivial rfl rfl ?_
      refine TL.nil ?_
      refine TC.inBlock ?_
      refine TC.region ?_
      obtain ⟨h12, h⟩ := chk_inv h
      refine op0 (sp_add rfl rfl rfl h12) rfl trivial rfl rfl ?_
      refine op0 (sp_move rfl rfl) rfl trivial rfl rfl ?_
      refine TL.nil ?_
      refine TC.inLoop ?_
      refine TC.seq ?_
      refine subJ [(6, 9)] (ih _ _ _ h) ?_ ?_ ?_
      · exact ⟨rfl, rfl, rfl, rfl, trivial⟩
      · exact ⟨mem_at 0 rfl, mem_at 3 rfl, trivial⟩
      · rfl
    · have h := cond_f h h8
      refine TC.exit rfl ?_
      refine TC.seq ?_
      refine TC.region ?_
      refine op0 (sp_move rfl rfl) rfl trivial rfl rfl ?_
      refine op0 (sp_assign rfl rfl) rfl trivial rfl rfl ?_
      refine op0 (sp_assign rfl rfl) rfl trivial rfl rfl ?_
      refine TL.nil ?_
      cases h
      exact retJ [(0, 6)] (.tmp rfl (.tmp rfl .nil)) rfl ⟨mem_at 0 rfl, trivial⟩ rfl rfl
def ev_round_open_j2 (n : Nat) (rr1 : List (Int × Int × Int × Int × Int)) (i12 : Int) : Option ((List Int) × Int) :=
  cond (i12 != 0) (some (([] : List Int), i12)) (ev_round_open_l3 n rr1 n ([] : List Int) 0 rr1)
set_option maxRecDepth 100000 in
set_option maxHeartbeats 2000000 in
theorem ok_round_open_j2 {n : Nat} {w0 : World} {R0 : Nat → Prop} {env0 : Env} {r : (List Int) × Int} {rr4 : Int} {rr5 : Int} {rr1 : List (Int × Int × Int × Int × Int)} {rr2 : List ((List Int))} {rr3 : List (Int × Int × Int × Int)} {i12 : Int} (h : ev_round_open_j2 n rr1 i12 = some r) : TC Try.prog ⟨w0, fun _ => False, R0⟩ 41 (bodyPost Try.prog Try.f122 (Post ⟨w0, fun _ => False, R0⟩ env0 (.tup [.ref 0, .val (.int .i64 r.2)]) [.row 0 3 1 (List.map en_int r.1)])) [.code (sub (bodyOf Try.f122) [1, 1, 1, 1, 0, 0]), .code (sub (bodyOf Try.f122) [1, 1, 1, 1, 0, 1]), .code (sub (bodyOf Try.f122) [1, 1, 1, 1, 1])] ([(3, .ptr 4 0), (6, .val (.slice none 0 0)), (7, .val (.int .i64 i12))]) ([.blk 4 [.ref 0, .ref 1, .ref 2, .val (.int .i64 rr4), .val (.int .i64 rr5)] 74, .ro 0 5 (List.map en_api_RoundTower rr1), .ro 1 1 (List.map en_Lint rr2), .ro 2 4 (List.map en_api_RoundWinder rr3)]) := by
  rw [ev_round_open_j2] at h
  refine TC.region ?_
  refine op0 (sp_move rfl rfl) rfl trivial rfl rfl ?_
  refine op0 (sp_neq rfl rfl rfl) rfl trivial rfl rfl ?_
  refine TL.nil ?_
  refine TC.cond (b := (i12 != 0)) rfl (fun h7 => ?_) (fun h7 => ?_)
  · have h := cond_t h h7
    refine TC.seq ?_
    refine TC.region ?_
    refine op0 (sp_move rfl rfl) rfl trivial rfl rfl ?_
    refine op0 (sp_assign rfl rfl) rfl trivial rfl rfl ?_
    refine op0 (sp_assign rfl rfl) rfl trivial rfl rfl ?_
    refine TL.nil ?_
    refine nilRowC 6 5 3 1 (List.map en_int []) rfl rfl rfl ?_
    cases h
    exact retJ [(0, 5)] (.tmp rfl (.tmp rfl .nil)) rfl ⟨mem_at 0 rfl, trivial⟩ rfl rfl
  · have h := cond_f h h7
    refine TC.skip ?_
    refine TC.seq ?_
    refine TC.seq ?_
    refine TC.region ?_
    refine op1 0 rfl (sp_fieldAddrB rfl isBlk rfl ft74_0 vt70 (by decide)) rfl trivial rfl rfl ?_
    refine op1 0 rfl (sp_loadB rfl isBlk rfl vt70 rfl) rfl trivial rfl rfl ?_
    refine op1 1 rfl (sp_lenM (N := rr1.length) (len_map _ _) rfl rfl isRo Try.underlying70) rfl trivial rfl rfl ?_
    refine op0 (sp_move rfl rfl) rfl trivial rfl rfl ?_
    refine TL.nil ?_
    refine TC.block ?_
    refine TC.loop ?_
    refine TC.seq ?_
    refine nilRowC 6 10 3 1 (List.map en_int []) rfl rfl rfl ?_
    refine subJ [(6, 10)] (ok_round_open_l3 _ _ _ _ h) ?_ ?_ ?_
    · exact ⟨rfl, rfl, rfl, rfl, trivial⟩
    · exact ⟨mem_at 0 rfl, mem_at 2 rfl, trivial⟩
    · rfl
def ev_round_open_j1 (n : Nat) (rr1 : List (Int × Int × Int × Int × Int)) : Option ((List Int) × Int) :=
  ev_round_open_j2 n rr1 3
set_option maxRecDepth 100000 in
set_option maxHeartbeats 2000000 in
theorem ok_round_open_j1 {n : Nat} {w0 : World} {R0 : Nat → Prop} {env0 : Env} {r : (List Int) × Int} {rr4 : Int} {rr5 : Int} {rr1 : List (Int × Int × Int × Int × Int)} {rr2 : List ((List Int))} {rr3 : List (Int × Int × Int × Int)} (h : ev_round_open_j1 n rr1 = some r) : TC Try.prog ⟨w0, fun _ => False, R0⟩ 41 (bodyPost Try.prog Try.f122 (Post ⟨w0, fun _ => False, R0⟩ env0 (.tup [.ref 0, .val (.int .i64 r.2)]) [.row 0 3 1 (List.map en_int r.1)])) [.code (sub (bodyOf Try.f122) [1, 1, 1, 0, 1, 0]), .code (sub (bodyOf Try.f122) [1, 1, 1, 1])] ([(3, .ptr 4 0), (6, .val (.slice none 0 0))]) ([.blk 4 [.ref 0, .ref 1, .ref 2, .val (.int .i64 rr4), .val (.int .i64 rr5)] 74, .ro 0 5 (List.map en_api_RoundTower rr1), .ro 1 1 (List.map en_Lint rr2), .ro 2 4 (List.map en_api_RoundWinder rr3)]) := by
  rw [ev_round_open_j1] at h
  refine TC.region ?_
  refine op0 (sp_assign rfl rfl) rfl trivial rfl rfl ?_
  refine TL.nil ?_
  refine TC.seq ?_
  refine TC.seq ?_
  refine subJ [] (ok_round_open_j2 (rr4 := rr4) (rr5 := rr5) (rr2 := rr2) (rr3 := rr3) h) ?_ ?_ ?_
  · exact ⟨rfl, rfl, rfl, trivial⟩
  · exact ⟨mem_at 0 rfl, mem_at 1 rfl, mem_at 2 rfl, mem_at 3 rfl, trivial⟩
  · rfl
def ev_round_open_j4 (n : Nat) (rr1 : List (Int × Int × Int × Int × Int)) (i10 : Int) : Option ((List Int) × Int) :=
  ev_round_open_j2 n rr1 i10
set_option maxRecDepth 100000 in
set_option maxHeartbeats 2000000 in
theorem ok_round_open_j4 {n : Nat} {w0 : World} {R0 : Nat → Prop} {env0 : Env} {r : (List Int) × Int} {i10 : Int} {rr4 : Int} {rr5 : Int} {rr1 : List (Int × Int × Int × Int × Int)} {rr2 : List ((List Int))} {rr3 : List (Int × Int × Int × Int)} (h : ev_round_open_j4 n rr1 i10 = some r) : TC Try.prog ⟨w0, fun _ => False, R0⟩ 41 (bodyPost Try.prog Try.f122 (Post ⟨w0, fun _ => False, R0⟩ env0 (.tup [.ref 0, .val (.int .i64 r.2)]) [.row 0 3 1 (List.map en_int r.1)])) [.code (sub (bodyOf Try.f122) [1, 1, 1, 0, 1, 1]), .code (sub (bodyOf Try.f122) [1, 1, 1, 1])] ([(3, .ptr 4 0), (6, .val (.slice none 0 0)), (7, .val (.int .i64 i10))]) ([.blk 4 [.ref 0, .ref 1, .ref 2, .val (.int .i64 rr4), .val (.int .i64 rr5)] 74, .ro 0 5 (List.map en_api_RoundTower rr1), .ro 1 1 (List.map en_Lint rr2), .ro 2 4 (List.map en_api_RoundWinder rr3)]) := by
  rw [ev_round_open_j4] at h
  refine TC.skip ?_
  refine TC.seq ?_
  refine TC.seq ?_
  refine subJ [] (ok_round_open_j2 (rr4 := rr4) (rr5 := rr5) (rr2 := rr2) (rr3 := rr3) h) ?_ ?_ ?_
  · exact ⟨rfl, rfl, rfl, trivial⟩
  · exact ⟨mem_at 0 rfl, mem_at 1 rfl, mem_at 2 rfl, mem_at 3 rfl, trivial⟩
  · rfl
def ev_round_open_j0 (n : Nat) (day7 : Int) (rr1 : List (Int × Int × Int × Int × Int)) (i10 : Int) : Option ((List Int) × Int) :=
  cond (i10 == 0) ((ev_round_isDay n day7).bind fun r11 => cond (!r11) (ev_round_open_j1 n rr1) (ev_round_open_j4 n rr1 i10)) (ev_round_open_j4 n rr1 i10)
set_option maxRecDepth 100000 in
set_option maxHeartbeats 2000000 in
theorem ok_round_open_j0 {n : Nat} {w0 : World} {R0 : Nat → Prop} {env0 : Env} {r : (List Int) × Int} {day7 : Int} {rr4 : Int} {rr5 : Int} {rr1 : List (Int × Int × Int × Int × Int)} {rr2 : List ((List Int))} {rr3 : List (Int × Int × Int × Int)} {i10 : Int} (h : ev_round_open_j0 n day7 rr1 i10 = some r) : TC Try.prog ⟨w0, fun _ => False, R0⟩ 41 (bodyPost Try.prog Try.f122 (Post ⟨w0, fun _ => False, R0⟩ env0 (.tup [.ref 0, .val (.int .i64 r.2)]) [.row 0 3 1 (List.map en_int r.1)])) [.code (sub (bodyOf Try.f122) [1, 1, 1, 0, 0]), .code (sub (bodyOf Try.f122) [1, 1, 1, 0, 1]), .code (sub (bodyOf Try.f122) [1, 1, 1, 1])] ([(2, .val (.int .i64 day7)), (3, .ptr 4 0), (6, .val (.slice none 0 0)), (7, .val (.int .i64 i10))]) ([.blk 4 [.ref 0, .ref 1, .ref 2, .val (.int .i64 rr4), .val (.int .i64 rr5)] 74, .ro 0 5 (List.map en_api_RoundTower rr1), .ro 1 1 (List.map en_Lint rr2), .ro 2 4 (List.map en_api_RoundWinder rr3)]) := by
  rw [ev_round_open_j0] at h
  refine TC.region ?_
  refine op0 (sp_move rfl rfl) rfl trivial rfl rfl ?_
  refine op0 (sp_eql rfl rfl rfl) rfl trivial rfl rfl ?_
  refine op0 (sp_move rfl rfl) rfl trivial rfl rfl ?_
  rcases cond_cases h with ⟨h4, h⟩ | ⟨h4, h⟩
  · refine (boolLit 19 rfl h4).2 ?_
    refine op0 (sp_move rfl rfl) rfl ⟨_, rfl, rfl⟩ rfl rfl ?_
    obtain ⟨r11, h5, h⟩ := bind_inv h
    refine op0 (sp_call (avs := [.val (.int .i64 day7)]) (need := []) (v := .val (.bool r11)) (news := []) rfl rfl rfl Try.call215 (atJ [] [] (fc_round_isDay h5) rfl rfl) (.inl (roAll rfl))) rfl ⟨_, rfl, rfl⟩ rfl rfl ?_
    refine op0 (sp_not rfl rfl) rfl ⟨_, rfl, rfl⟩ rfl rfl ?_
    refine op0 (sp_pickT rfl rfl rfl) rfl trivial rfl rfl ?_
    refine TL.nil ?_
    refine TC.cond (b := (!r11)) rfl (fun h6 => ?_) (fun h6 => ?_)
    · have h := cond_t h h6
      refine subJ [] (ok_round_open_j1 (rr4 := rr4) (rr5 := rr5) (rr2 := rr2) (rr3 := rr3) h) ?_ ?_ ?_
      · exact ⟨rfl, rfl, trivial⟩
      · exact ⟨mem_at 0 rfl, mem_at 1 rfl, mem_at 2 rfl, mem_at 3 rfl, trivial⟩
      · rfl
    · have h := cond_f h h6
      refine subJ [] (ok_round_open_j4 (rr4 := rr4) (rr5 := rr5) (rr2 := rr2) (rr3 := rr3) h) ?_ ?_ ?_
      · exact ⟨rfl, rfl, rfl, trivial⟩
      · exact ⟨mem_at 0 rfl, mem_at 1 rfl, mem_at 2 rfl, mem_at 3 rfl, trivial⟩
      · rfl
  · refine (boolLit 19 rfl h4).2 ?_
    refine opSkip rfl ⟨_, rfl, .inl rfl⟩ rfl ?_
    refine opSkip rfl ⟨_, rfl, .inl rfl⟩ rfl ?_
    refine opSkip rfl ⟨_, rfl, .inl rfl⟩ rfl ?_
    refine op0 (sp_pickF rfl rfl rfl) rfl trivial rfl rfl ?_
    refine TL.nil ?_
    refine TC.condF rfl ?_
    refine subJ [] (ok_round_open_j4 (rr4 := rr4) (rr5 := rr5) (rr2 := rr2) (rr3 := rr3) h) ?_ ?_ ?_
    · exact ⟨rfl, rfl, rfl, trivial⟩
    · exact ⟨mem_at 0 rfl, mem_at 1 rfl, mem_at 2 rfl, mem_at 3 rfl, trivial⟩
    · rfl
def ev_round_open (n : Nat) (rr1 : List (Int × Int × Int × Int × Int)) (rr2 : List ((List Int))) (rr3 : List (Int × Int × Int × Int)) (rr4 : Int) (rr5 : Int) (days6 : List (Int × (List Int))) (day7 : Int) : Option ((List Int) × Int) :=
  (ev_round_Check n rr1 rr2 rr3 rr4 rr5).bind fun r8 => cond (r8 == 0) ((ev_round_checkDays n rr1 rr2 rr3 rr4 rr5 days6).bind fun r9 => ev_round_open_j0 n day7 rr1 r9) (ev_round_open_j0 n day7 rr1 r8)
set_option maxRecDepth 100000 in
set_option maxHeartbeats 2000000 in
theorem fc_round_open {n : Nat} {rr1 : List (Int × Int × Int × Int × Int)} {rr2 : List ((List Int))} {rr3 : List (Int × Int × Int × Int)} {rr4 : Int} {rr5 : Int} {days6 : List (Int × (List Int))} {day7 : Int} {r : (List Int) × Int} (h : ev_round_open n rr1 rr2 rr3 rr4 rr5 days6 day7 = some r) : FC Try.prog 122 [.agg [.ref 0, .ref 1, .ref 2, .val (.int .i64 rr4), .val (.int .i64 rr5)], .ref 3, .val (.int .i64 day7)] [.ro 0 5 (List.map en_api_RoundTower rr1), .ro 1 1 (List.map en_Lint rr2), .ro 2 4 (List.map en_api_RoundWinder rr3), .ro 3 2 (List.map en_api_RoundDay days6)] (.tup [.ref 0, .val (.int .i64 r.2)]) [.row 0 3 1 (List.map en_int r.1)] := by
  refine introJ (nz := 41) Try.func122 rfl rfl rfl (fun w0 R0 env0 => ?_)
  rw [ev_round_open] at h
  refine TC.seq ?_
  refine TC.region ?_
  refine op0 (sp_box 4 rfl rfl rfl rfl rfl) rfl trivial rfl rfl ?_
  refine op0 (sp_assign rfl rfl) rfl trivial rfl rfl ?_
  refine op0 (sp_assign rfl rfl) rfl trivial rfl rfl ?_
  refine TL.nil ?_
  refine TC.seq ?_
  refine TC.region ?_
  refine op1 0 rfl (sp_loadBA rfl isBlk rfl vt74 rfl rfl) rfl trivial rfl rfl ?_
  obtain ⟨r8, h1, h⟩ := bind_inv h
  refine opN (need := [.ro 0 5 (List.map en_api_RoundTower rr1), .ro 1 1 (List.map en_Lint rr2), .ro 2 4 (List.map en_api_RoundWinder rr3)]) [1, 2, 3] ⟨rfl, rfl, rfl, trivial⟩ (sp_call (avs := [.agg [.ref 0, .ref 1, .ref 2, .val (.int .i64 rr4), .val (.int .i64 rr5)]]) (need := [.ro 0 5 (List.map en_api_RoundTower rr1), .ro 1 1 (List.map en_Lint rr2), .ro 2 4 (List.map en_api_RoundWinder rr3)]) (v := .val (.int .i64 r8)) (news := []) rfl rfl rfl Try.call87 (atJ [] [] (fc_round_Check h1) rfl rfl) (.inl (roAll rfl))) rfl trivial rfl rfl ?_
  refine op0 (sp_assign rfl rfl) rfl trivial rfl rfl ?_
  refine TL.nil ?_
  refine TC.seq ?_
  refine TC.seq ?_
  refine TC.region ?_
  refine op0 (sp_move rfl rfl) rfl trivial rfl rfl ?_
  refine op0 (sp_eql rfl rfl rfl) rfl trivial rfl rfl ?_
  refine TL.nil ?_
  refine TC.cond (b := (r8 == 0)) rfl (fun h2 => ?_) (fun h2 => ?_)
  · have h := cond_t h h2
    refine TC.region ?_
    refine op1 0 rfl (sp_loadBA rfl isBlk rfl vt74 rfl rfl) rfl trivial rfl rfl ?_
    refine op0 (sp_move rfl rfl) rfl trivial rfl rfl ?_
    obtain ⟨r9, h3, h⟩ := bind_inv h
    refine opN (need := [.ro 0 5 (List.map en_api_RoundTower rr1), .ro 1 1 (List.map en_Lint rr2), .ro 2 4 (List.map en_api_RoundWinder rr3), .ro 3 2 (List.map en_api_RoundDay days6)]) [1, 2, 3, 4] ⟨rfl, rfl, rfl, rfl, trivial⟩ (sp_call (avs := [.agg [.ref 0, .ref 1, .ref 2, .val (.int .i64 rr4), .val (.int .i64 rr5)], .ref 3]) (need := [.ro 0 5 (List.map en_api_RoundTower rr1), .ro 1 1 (List.map en_Lint rr2), .ro 2 4 (List.map en_api_RoundWinder rr3), .ro 3 2 (List.map en_api_RoundDay days6)]) (v := .val (.int .i64 r9)) (news := []) rfl rfl rfl Try.call214 (atJ [] [] (fc_round_checkDays h3) rfl rfl) (.inl (roAll rfl))) rfl trivial rfl rfl ?_
    refine op0 (sp_assign rfl rfl) rfl trivial rfl rfl ?_
    refine TL.nil ?_
    refine TC.seq ?_
    refine TC.seq ?_
    refine subJ [] (ok_round_open_j0 (rr4 := rr4) (rr5 := rr5) (rr2 := rr2) (rr3 := rr3) h) ?_ ?_ ?_
    · exact ⟨rfl, rfl, rfl, rfl, trivial⟩
    · exact ⟨mem_at 0 rfl, mem_at 1 rfl, mem_at 2 rfl, mem_at 3 rfl, trivial⟩
    · rfl
  · have h := cond_f h h2
    refine TC.skip ?_
    refine TC.seq ?_
    refine TC.seq ?_
    refine subJ [] (ok_round_open_j0 (rr4 := rr4) (rr5 := rr5) (rr2 := rr2) (rr3 := rr3) h) ?_ ?_ ?_
    · exact ⟨rfl, rfl, rfl, rfl, trivial⟩
    · exact ⟨mem_at 0 rfl, mem_at 1 rfl, mem_at 2 rfl, mem_at 3 rfl, trivial⟩
    · rfl
/- round_clocks_first -/
def ev_round_clocks_first (n : Nat) (c1 : List Int) : Option (Int × Int) :=
  (ev_slices_Min_round_clocks_int n c1).bind fun r2 => (ev_slices_Index_round_clocks_int n c1 r2).bind fun r3 => some (r3, r2)
set_option maxRecDepth 100000 in
set_option maxHeartbeats 2000000 in
theorem fc_round_clocks_first {n : Nat} {c1 : List Int} {r : Int × Int} (h : ev_round_clocks_first n c1 = some r) : FC Try.prog 123 [.ref 0] [.ro 0 1 (List.map en_int c1)] (.tup [.val (.int .i64 r.1), .val (.int .i64 r.2)]) [] := by
  refine introJ (nz := 10) Try.func123 rfl rfl rfl (fun w0 R0 env0 => ?_)
  rw [ev_round_clocks_first] at h
  refine TC.seq ?_
  refine TC.region ?_
  refine op0 (sp_assign rfl rfl) rfl trivial rfl rfl ?_
  refine op0 (sp_assign rfl rfl) rfl trivial rfl rfl ?_
  refine TL.nil ?_
  refine TC.seq ?_
  refine TC.region ?_
  refine op0 (sp_move rfl rfl) rfl trivial rfl rfl ?_
  obtain ⟨r2, h1, h⟩ := bind_inv h
  refine op1 0 rfl (sp_call (avs := [.ref 0]) (need := [.ro 0 1 (List.map en_int c1)]) (v := .val (.int .i64 r2)) (news := []) rfl rfl rfl Try.call216 (atJ [] [] (fc_slices_Min_round_clocks_int h1) rfl rfl) (.inl (roAll rfl))) rfl trivial rfl rfl ?_
  refine op0 (sp_assign rfl rfl) rfl trivial rfl rfl ?_
  refine TL.nil ?_
  refine TC.seq ?_
  refine TC.region ?_
  refine op0 (sp_move rfl rfl) rfl trivial rfl rfl ?_
  refine op0 (sp_move rfl rfl) rfl trivial rfl rfl ?_
  obtain ⟨r3, h2, h⟩ := bind_inv h
  refine op1 0 rfl (sp_call (avs := [.ref 0, .val (.int .i64 r2)]) (need := [.ro 0 1 (List.map en_int c1)]) (v := .val (.int .i64 r3)) (news := []) rfl rfl rfl Try.call217 (atJ [] [] (fc_slices_Index_round_clocks_int h2) rfl rfl) (.inl (roAll rfl))) rfl trivial rfl rfl ?_
  refine op0 (sp_move rfl rfl) rfl trivial rfl rfl ?_
  refine op0 (sp_assign rfl rfl) rfl trivial rfl rfl ?_
  refine op0 (sp_assign rfl rfl) rfl trivial rfl rfl ?_
  refine TL.nil ?_
  cases h
  exact retJ [] (.tmp rfl (.tmp rfl .nil)) rfl trivial rfl rfl
/- round_clocks_wind -/
def ev_round_clocks_wind_l0 (n : Nat) (d8 : List Int) : Nat → Int → (List Int) → Int → Int → Int → (List Int) → (List (Int × Int × Int × Int × Int)) → (List ((List Int))) → (List (Int × Int × Int × Int)) → Option ((List Int))
  | 0, _, _, _, _, _, _, _, _, _ => none
  | m + 1, i9, l10, i11, i12, i13, l14, l15, l16, l17 => cond (decide (i9 < (d8.length : Int))) (idx l14 i9 fun x18 => idx l15 x18 fun x19 => chk (in64 (i13 + x19.2.2.2.2)) <| idx l10 x18 fun x20 => chk (in64 (i9 + 1)) <| ev_round_clocks_wind_l0 n d8 m (i9 + 1) (List.set l10 (x18 : Int).toNat (i13 + x19.2.2.2.2)) i11 i12 i13 l14 l15 l16 l17) (some l10)
set_option maxRecDepth 100000 in
set_option maxHeartbeats 2000000 in
theorem ok_round_clocks_wind_l0 {n : Nat} {w0 : World} {M0 R0 : Nat → Prop} {env0 : Env} {df : List Deferred} {r : (List Int)} {d8 : List Int} : ∀ (m : Nat) (i9 : Int) (l10 : List Int) (i11 : Int) (i12 : Int) (i13 : Int) (l14 : List Int) (l15 : List (Int × Int × Int × Int × Int)) (l16 : List ((List Int))) (l17 : List (Int × Int × Int × Int)), ev_round_clocks_wind_l0 n d8 m i9 l10 i11 i12 i13 l14 l15 l16 l17 = some r → TC Try.prog ⟨w0, M0, R0⟩ ⟨28, none, df⟩ (bodyPostM Fence.wide 0 Try.prog Try.f124 (PostT ⟨w0, M0, R0⟩ env0 [0] (.tup []) [.row 0 3 1 (List.map en_int r)])) [.code (sub (bodyOf Try.f124) [1, 1, 0, 0, 0]), .code (sub (bodyOf Try.f124) [1, 1, 0, 0, 1]), .inLoop (sub (bodyOf Try.f124) [1, 1, 0, 0]), .inBlock 0] ([(0, .ref 0), (4, .ptr 7 0), (5, .ptr 8 0), (9, .ref 4), (10, .val (.int .i64 (d8.length : Int))), (11, .val (.int .i64 i9))]) ([.row 0 3 1 (List.map en_int l10), .blk 7 [.ref 1, .ref 2, .ref 3, .val (.int .i64 i11), .val (.int .i64 i12)] 74, .blk 8 [.val (.int .i64 i13), .ref 4] 147, .ro 4 1 (List.map en_int l14), .ro 1 5 (List.map en_api_RoundTower l15), .ro 2 1 (List.map en_Lint l16), .ro 3 4 (List.map en_api_RoundWinder l17), .inv 5 (marksI df), .pin 6 0 (env0 0)]) := by
  intro m
  induction m with
  | zero => intro i9 l10 i11 i12 i13 l14 l15 l16 l17 h; exact none_no h
  | succ m ih =>
    intro i9 l10 i11 i12 i13 l14 l15 l16 l17 h
    rw [ev_round_clocks_wind_l0] at h
    refine TC.region ?_
    refine op0 (sp_lss rfl rfl rfl) rfl trivial rfl rfl ?_
    refine TL.nil ?_
    refine TC.seq ?_
    refine TC.cond (b := (decide (i9 < (d8.length : Int)))) rfl (fun h1 => ?_) (fun h1 => ?_)
    · have h := cond_t h h1
      refine TC.skip ?_
      refine TC.seq ?_
      refine TC.block ?_
      refine TC.seq ?_
      refine TC.region ?_
      obtain ⟨x18, h2, h3, h⟩ := idx_inv h
      refine op1 3 rfl (sp_indexS rfl rfl rfl isRo sl37 h2 (map_get _ h3)) rfl trivial rfl rfl ?_
      refine op1 3 rfl (sp_loadR (i := (i9 : Int).toNat) (j := 0) rfl rfl isRo vt3 rfl (map_get _ h3) rfl (.v (.nil)) (nodup_of_B rfl)) rfl trivial rfl rfl ?_
      refine op0 (sp_assign rfl rfl) rfl trivial rfl rfl ?_
      refine TL.nil ?_
      obtain ⟨x19, h4, h5, h⟩ := idx_inv h
      obtain ⟨h6, h⟩ := chk_inv h
      refine drawJ 11 [⟨.ref 0, [], [], []⟩, ⟨.val (.int .i64 x18), [], [], []⟩, ⟨.ptr 8 0, [], [.blk 8 [.val (.int .i64 i13), .ref 4] 147], []⟩, ⟨.val (.int .i64 i13), [], [.blk 8 [.val (.int .i64 i13), .ref 4] 147], []⟩, ⟨.ptr 7 0, [], [.blk 7 [.ref 1, .ref 2, .ref 3, .val (.int .i64 i11), .val (.int .i64 i12)] 74], []⟩, ⟨.ref 1, [], [.blk 7 [.ref 1, .ref 2, .ref 3, .val (.int .i64 i11), .val (.int .i64 i12)] 74], []⟩, ⟨.val (.int .i64 x18), [], [], []⟩, ⟨.cell 1 ((x18 : Int).toNat * 5), [], [.ro 1 5 (List.map en_api_RoundTower l15)], []⟩, ⟨.cell 1 ((x18 : Int).toNat * 5 + 4), [], [.ro 1 5 (List.map en_api_RoundTower l15)], []⟩, ⟨.val (.int .i64 x19.2.2.2.2), [], [.ro 1 5 (List.map en_api_RoundTower l15)], []⟩, ⟨.val (.int .i64 (i13 + x19.2.2.2.2)), [], [], []⟩] rfl ?_ rfl ?_ rfl ?_ ?_
      · kernel_rfl
      · kernel_rfl
      · exact DAll.op' (sp_move rfl rfl) trivial rfl (From.ok (ps := []) trivial) (DAll.op' (sp_move rfl rfl) trivial rfl (From.ok (ps := []) trivial) (DAll.op' (sp_fieldAddrB rfl isBlk rfl ft147_0 vt3 (by decide)) trivial rfl (From.ok (ps := [(none, 2)]) ⟨⟨rfl, rfl⟩, trivial⟩) (DAll.op' (sp_loadB rfl isBlk rfl vt3 rfl) trivial rfl (From.ok (ps := [(none, 2)]) ⟨⟨rfl, rfl⟩, trivial⟩) (DAll.op' (sp_fieldAddrB rfl isBlk rfl ft74_0 vt70 (by decide)) trivial rfl (From.ok (ps := [(none, 1)]) ⟨⟨rfl, rfl⟩, trivial⟩) (DAll.op' (sp_loadB rfl isBlk rfl vt70 rfl) trivial rfl (From.ok (ps := [(none, 1)]) ⟨⟨rfl, rfl⟩, trivial⟩) (DAll.op' (sp_move rfl rfl) trivial rfl (From.ok (ps := []) trivial) (DAll.op' (sp_indexS rfl rfl rfl isRo sl70 h4 (map_get _ h5)) trivial rfl (From.ok (ps := [(none, 4)]) ⟨⟨rfl, rfl⟩, trivial⟩) (DAll.op' (sp_fieldAddrR (i := (x18 : Int).toNat) rfl rfl isRo ft218_4 vt3 (by decide) (map_get _ h5) (fun h => nomatch h)) trivial rfl (From.ok (ps := [(none, 4)]) ⟨⟨rfl, rfl⟩, trivial⟩) (DAll.op' (sp_loadR (i := (x18 : Int).toNat) (j := 4) rfl rfl isRo vt3 rfl (map_get _ h5) rfl (.v (.nil)) (nodup_of_B rfl)) trivial rfl (From.ok (ps := [(none, 4)]) ⟨⟨rfl, rfl⟩, trivial⟩) (DAll.op' (sp_add rfl rfl rfl h6) trivial rfl (From.ok (ps := []) trivial) (.nil)))))))))))
      obtain ⟨x20, h7, h8, h⟩ := idx_inv h
      refine op1 0 rfl (sp_indexS rfl rfl rfl isOwn sl271 h7 (map_get _ h8)) rfl trivial rfl rfl ?_
      refine stoR 0 ((x18 : Int).toNat) 0 (need := []) [] rfl rfl trivial rfl rfl rfl rfl vt3 rfl rfl (map_get _ h8) rfl rfl trivial (.v (.nil)) (map_set l10 en_int ((x18 : Int).toNat) (i13 + x19.2.2.2.2)) ?_
      refine TL.nil ?_
      refine TC.inBlock ?_
      refine TC.region ?_
      obtain ⟨h9, h⟩ := chk_inv h
      refine op0 (sp_add rfl rfl rfl h9) rfl trivial rfl rfl ?_
      refine op0 (sp_move rfl rfl) rfl trivial rfl rfl ?_
      refine TL.nil ?_
      refine TC.inLoop ?_
      refine TC.seq ?_
      refine subJ [] (ih _ _ _ _ _ _ _ _ _ h) ?_ ?_ ?_
      · exact ⟨rfl, rfl, rfl, rfl, rfl, rfl, trivial⟩
      · exact ⟨mem_at 0 rfl, mem_at 1 rfl, mem_at 2 rfl, mem_at 3 rfl, mem_at 4 rfl, mem_at 5 rfl, mem_at 6 rfl, mem_at 7 rfl, mem_at 8 rfl, trivial⟩
      · rfl
    · have h := cond_f h h1
      refine TC.exit rfl ?_
      cases h
      exact endM [] 7 5 [0] rfl (.nil) rfl ⟨mem_at 0 rfl, trivial⟩ rfl rfl ⟨⟨_, mem_at 7 rfl⟩, trivial⟩ rfl
def ev_round_clocks_wind (n : Nat) (c1 : List Int) (rr2 : List (Int × Int × Int × Int × Int)) (rr3 : List ((List Int))) (rr4 : List (Int × Int × Int × Int)) (rr5 : Int) (rr6 : Int) (d7 : Int) (d8 : List Int) : Option ((List Int)) :=
  ev_round_clocks_wind_l0 n d8 n 0 c1 rr5 rr6 d7 d8 rr2 rr3 rr4
set_option maxRecDepth 100000 in
set_option maxHeartbeats 2000000 in
theorem ft_round_clocks_wind {n : Nat} {c1 : List Int} {rr2 : List (Int × Int × Int × Int × Int)} {rr3 : List ((List Int))} {rr4 : List (Int × Int × Int × Int)} {rr5 : Int} {rr6 : Int} {d7 : Int} {d8 : List Int} {r : (List Int)} (h : ev_round_clocks_wind n c1 rr2 rr3 rr4 rr5 rr6 d7 d8 = some r) : FT Try.prog 124 [.ref 0, .agg [.ref 1, .ref 2, .ref 3, .val (.int .i64 rr5), .val (.int .i64 rr6)], .agg [.val (.int .i64 d7), .ref 4]] [.row 0 3 1 (List.map en_int c1)] [.ro 1 5 (List.map en_api_RoundTower rr2), .ro 2 1 (List.map en_Lint rr3), .ro 3 4 (List.map en_api_RoundWinder rr4), .ro 4 1 (List.map en_int d8)] (.tup []) [.row 0 3 1 (List.map en_int r)] := by
  refine introM (nz := 28) 5 [(6, 0)] Try.func124 rfl rfl rfl rfl (fun w0 M0 R0 env0 => ?_)
  rw [ev_round_clocks_wind] at h
  refine TC.seq ?_
  refine TC.region ?_
  refine op0 (sp_box 7 rfl rfl rfl rfl rfl) rfl trivial rfl rfl ?_
  refine op0 (sp_box 8 rfl rfl rfl rfl rfl) rfl trivial rfl rfl ?_
  refine TL.nil ?_
  refine TC.seq ?_
  refine TC.region ?_
  refine op1 0 rfl (sp_fieldAddrB rfl isBlk rfl ft147_1 vt37 (by decide)) rfl trivial rfl rfl ?_
  refine op1 0 rfl (sp_loadB rfl isBlk rfl vt37 rfl) rfl trivial rfl rfl ?_
  refine op1 8 rfl (sp_lenM (N := d8.length) (len_map _ _) rfl rfl isRo Try.underlying37) rfl trivial rfl rfl ?_
  refine op0 (sp_move rfl rfl) rfl trivial rfl rfl ?_
  refine TL.nil ?_
  refine TC.block ?_
  refine TC.loop ?_
  refine TC.seq ?_
  refine subJ [] (ok_round_clocks_wind_l0 _ _ _ _ _ _ _ _ _ _ h) ?_ ?_ ?_
  · exact ⟨rfl, rfl, rfl, rfl, rfl, rfl, trivial⟩
  · exact ⟨mem_at 4 rfl, mem_at 1 rfl, mem_at 0 rfl, mem_at 8 rfl, mem_at 5 rfl, mem_at 6 rfl, mem_at 7 rfl, mem_at 2 rfl, mem_at 3 rfl, trivial⟩
  · rfl
/- round_Stops -/
def ev_round_Stops_j1 (n : Nat) (until7 : Int) (l19 : List Int) : Option (Int × Int × Int) :=
  (ev_round_clocks_first n l19).bind fun r20 => cond (decide (until7 < r20.2)) (some ((-1), 0, 0)) (some (r20.1, r20.2, 0))
set_option maxRecDepth 100000 in
set_option maxHeartbeats 2000000 in
theorem ok_round_Stops_j1 {n : Nat} {w0 : World} {R0 : Nat → Prop} {env0 : Env} {r : Int × Int × Int} {until7 : Int} {l19 : List Int} (h : ev_round_Stops_j1 n until7 l19 = some r) : TC Try.prog ⟨w0, fun _ => False, R0⟩ 71 (bodyPost Try.prog Try.f52 (Post ⟨w0, fun _ => False, R0⟩ env0 (.tup [.val (.int .i64 r.1), .val (.int .i64 r.2.1), .val (.int .i64 r.2.2)]) [])) [.code (sub (bodyOf Try.f52) [1, 1, 1, 1, 0, 0]), .code (sub (bodyOf Try.f52) [1, 1, 1, 1, 0, 1]), .code (sub (bodyOf Try.f52) [1, 1, 1, 1, 1])] ([(2, .val (.int .i64 until7)), (9, .ref 5)]) ([.row 5 3 1 (List.map en_int l19)]) := by
  rw [ev_round_Stops_j1] at h
  refine TC.region ?_
  refine op0 (sp_move rfl rfl) rfl trivial rfl rfl ?_
  obtain ⟨r20, h8, h⟩ := bind_inv h
  refine op1 0 rfl (sp_call (avs := [.ref 5]) (need := [.row 5 3 1 (List.map en_int l19)]) (v := .tup [.val (.int .i64 r20.1), .val (.int .i64 r20.2)]) (news := []) rfl rfl rfl Try.call123 (atJ [(0, 5)] [] (fc_round_clocks_first h8) rfl rfl) (.inr (fun x hx => nomatch hx))) rfl trivial rfl rfl ?_
  refine op0 (sp_move rfl rfl) rfl trivial rfl rfl ?_
  refine op0 (sp_extract rfl rfl rfl) rfl trivial rfl rfl ?_
  refine op0 (sp_extract rfl rfl rfl) rfl trivial rfl rfl ?_
  refine op0 (sp_assign rfl rfl) rfl trivial rfl rfl ?_
  refine op0 (sp_assign rfl rfl) rfl trivial rfl rfl ?_
  refine TL.nil ?_
  refine TC.seq ?_
  refine TC.region ?_
  refine op0 (sp_move rfl rfl) rfl trivial rfl rfl ?_
  refine op0 (sp_move rfl rfl) rfl trivial rfl rfl ?_
  refine op0 (sp_gtr rfl rfl rfl) rfl trivial rfl rfl ?_
  refine TL.nil ?_
  refine TC.cond (b := (decide (until7 < r20.2))) rfl (fun h9 => ?_) (fun h9 => ?_)
  · have h := cond_t h h9
    refine TC.seq ?_
    refine TC.region ?_
    refine op0 (sp_assign rfl rfl) rfl trivial rfl rfl ?_
    refine op0 (sp_assign rfl rfl) rfl trivial rfl rfl ?_
    refine op0 (sp_assign rfl rfl) rfl trivial rfl rfl ?_
    refine TL.nil ?_
    cases h
    exact retJ [] (.tmp rfl (.tmp rfl (.tmp rfl .nil))) rfl trivial rfl rfl
  · have h := cond_f h h9
    refine TC.skip ?_
    refine TC.seq ?_
    refine TC.region ?_
    refine op0 (sp_move rfl rfl) rfl trivial rfl rfl ?_
    refine op0 (sp_move rfl rfl) rfl trivial rfl rfl ?_
    refine op0 (sp_assign rfl rfl) rfl trivial rfl rfl ?_
    refine op0 (sp_assign rfl rfl) rfl trivial rfl rfl ?_
    refine op0 (sp_assign rfl rfl) rfl trivial rfl rfl ?_
    refine TL.nil ?_
    cases h
    exact retJ [] (.tmp rfl (.tmp rfl (.tmp rfl .nil))) rfl trivial rfl rfl
def ev_round_Stops_l0 (n : Nat) (days6 : List (Int × (List Int))) (until7 : Int) : Nat → Int → Int → Int → (List Int) → (List (Int × (List Int))) → (List (Int × Int × Int × Int × Int)) → (List ((List Int))) → (List (Int × Int × Int × Int)) → Option (Int × Int × Int)
  | 0, _, _, _, _, _, _, _, _ => none
  | m + 1, i9, i10, i11, l12, l13, l14, l15, l16 => cond (decide (i9 < (days6.length : Int))) (idx l13 i9 fun x17 => (ev_round_clocks_first n l12).bind fun r18 => cond (decide (r18.2 < x17.1)) (ev_round_Stops_j1 n until7 l12) (cond (decide (until7 < x17.1)) (ev_round_Stops_j1 n until7 l12) ((ev_round_clocks_wind n l12 l14 l15 l16 i10 i11 x17.1 x17.2).bind fun r21 => (ev_round_clocks_first n r21).bind fun r22 => cond (decide (r22.2 ≤ x17.1)) (some (r22.1, r22.2, 0)) (chk (in64 (i9 + 1)) <| ev_round_Stops_l0 n days6 until7 m (i9 + 1) i10 i11 r21 l13 l14 l15 l16)))) (ev_round_Stops_j1 n until7 l12)
set_option maxRecDepth 100000 in
set_option maxHeartbeats 2000000 in
theorem ok_round_Stops_l0 {n : Nat} {w0 : World} {R0 : Nat → Prop} {env0 : Env} {r : Int × Int × Int} {until7 : Int} {days6 : List (Int × (List Int))} : ∀ (m : Nat) (i9 : Int) (i10 : Int) (i11 : Int) (l12 : List Int) (l13 : List (Int × (List Int))) (l14 : List (Int × Int × Int × Int × Int)) (l15 : List ((List Int))) (l16 : List (Int × Int × Int × Int)), ev_round_Stops_l0 n days6 until7 m i9 i10 i11 l12 l13 l14 l15 l16 = some r → TC Try.prog ⟨w0, fun _ => False, R0⟩ 71 (bodyPost Try.prog Try.f52 (Post ⟨w0, fun _ => False, R0⟩ env0 (.tup [.val (.int .i64 r.1), .val (.int .i64 r.2.1), .val (.int .i64 r.2.2)]) [])) [.code (sub (bodyOf Try.f52) [1, 1, 1, 0, 1, 0, 0, 0]), .code (sub (bodyOf Try.f52) [1, 1, 1, 0, 1, 0, 0, 1]), .inLoop (sub (bodyOf Try.f52) [1, 1, 1, 0, 1, 0, 0]), .inBlock 0, .code (sub (bodyOf Try.f52) [1, 1, 1, 1])] ([(2, .val (.int .i64 until7)), (3, .ptr 4 0), (9, .ref 5), (26, .ref 3), (27, .val (.int .i64 (days6.length : Int))), (28, .val (.int .i64 i9))]) ([.blk 4 [.ref 0, .ref 1, .ref 2, .val (.int .i64 i10), .val (.int .i64 i11)] 74, .row 5 3 1 (List.map en_int l12), .ro 3 2 (List.map en_api_RoundDay l13), .ro 0 5 (List.map en_api_RoundTower l14), .ro 1 1 (List.map en_Lint l15), .ro 2 4 (List.map en_api_RoundWinder l16)]) := by
  intro m
  induction m with
  | zero => intro i9 i10 i11 l12 l13 l14 l15 l16 h; exact none_no h
  | succ m ih =>
    intro i9 i10 i11 l12 l13 l14 l15 l16 h
    rw [ev_round_Stops_l0] at h
    refine TC.region ?_
    refine op0 (sp_lss rfl rfl rfl) rfl trivial rfl rfl ?_
    refine TL.nil ?_
    refine TC.seq ?_
    refine TC.cond (b := (decide (i9 < (days6.length : Int)))) rfl (fun h3 => ?_) (fun h3 => ?_)
    · have h := cond_t h h3
      refine TC.skip ?_
      refine TC.seq ?_
      refine TC.block ?_
      refine TC.seq ?_
      refine TC.region ?_
      obtain ⟨x17, h4, h5, h⟩ := idx_inv h
      refine op1 2 rfl (sp_indexS rfl rfl rfl isRo sl143 h4 (map_get _ h5)) rfl trivial rfl rfl ?_
      refine op1 2 rfl (sp_loadRA (i := (i9 : Int).toNat) (j := 0) (as_ := [.val (.int .i64 x17.1), .ref 6]) (ns := [.ro 6 1 (List.map en_int x17.2)]) rfl rfl isRo vt147 rfl (map_get _ h5) rfl rfl (by decide) (.v (.s (.nil))) (nodup_of_B rfl)) rfl trivial rfl rfl ?_
      refine op0 (sp_alloc 7 rfl Try.zeroValue147 rfl) rfl trivial rfl rfl ?_
      refine stoB 0 (cells' := [.val (.int .i64 x17.1), .ref 6]) rfl rfl trivial rfl rfl rfl rfl vt147 rfl rfl rfl ?_
      refine TL.nil ?_
      refine TC.seq ?_
      refine TC.seq ?_
      refine TC.region ?_
      refine op0 (sp_move rfl rfl) rfl trivial rfl rfl ?_
      obtain ⟨r18, h6, h⟩ := bind_inv h
      refine op1 3 rfl (sp_call (avs := [.ref 5]) (need := [.row 5 3 1 (List.map en_int l12)]) (v := .tup [.val (.int .i64 r18.1), .val (.int .i64 r18.2)]) (news := []) rfl rfl rfl Try.call123 (atJ [(0, 5)] [] (fc_round_clocks_first h6) rfl rfl) (.inr (fun x hx => nomatch hx))) rfl trivial rfl rfl ?_
      refine op0 (sp_move rfl rfl) rfl trivial rfl rfl ?_
      refine op0 (sp_extract rfl rfl rfl) rfl trivial rfl rfl ?_
      refine op0 (sp_extract rfl rfl rfl) rfl trivial rfl rfl ?_
      refine op0 (sp_assign rfl rfl) rfl trivial rfl rfl ?_
      refine op0 (sp_assign rfl rfl) rfl trivial rfl rfl ?_
      refine TL.nil ?_
      refine TC.seq ?_
      refine TC.region ?_
      refine op0 (sp_move rfl rfl) rfl trivial rfl rfl ?_
      refine op1 0 rfl (sp_fieldAddrB rfl isBlk rfl ft147_0 vt3 (by decide)) rfl trivial rfl rfl ?_
      refine op1 0 rfl (sp_loadB rfl isBlk rfl vt3 rfl) rfl trivial rfl rfl ?_
      refine op0 (sp_lss rfl rfl rfl) rfl trivial rfl rfl ?_
      refine TL.nil ?_
      refine TC.cond (b := (decide (r18.2 < x17.1))) rfl (fun h7 => ?_) (fun h7 => ?_)
      · have h := cond_t h h7
        refine TC.exit rfl ?_
        refine TC.seq ?_
        refine TC.seq ?_
        refine subJ [] (ok_round_Stops_j1 h) ?_ ?_ ?_
        · exact ⟨rfl, rfl, trivial⟩
        · exact ⟨mem_at 3 rfl, trivial⟩
        · rfl
      · have h := cond_f h h7
        refine TC.skip ?_
        refine TC.seq ?_
        refine TC.seq ?_
        refine TC.region ?_
        refine op1 0 rfl (sp_fieldAddrB rfl isBlk rfl ft147_0 vt3 (by decide)) rfl trivial rfl rfl ?_
        refine op1 0 rfl (sp_loadB rfl isBlk rfl vt3 rfl) rfl trivial rfl rfl ?_
        refine op0 (sp_move rfl rfl) rfl trivial rfl rfl ?_
        refine op0 (sp_gtr rfl rfl rfl) rfl trivial rfl rfl ?_
        refine TL.nil ?_
        refine TC.cond (b := (decide (until7 < x17.1))) rfl (fun h10 => ?_) (fun h10 => ?_)
        · have h := cond_t h h10
          refine TC.exit rfl ?_
          refine TC.seq ?_
          refine TC.seq ?_
          refine subJ [] (ok_round_Stops_j1 h) ?_ ?_ ?_
          · exact ⟨rfl, rfl, trivial⟩
          · exact ⟨mem_at 3 rfl, trivial⟩
          · rfl
        · have h := cond_f h h10
          refine TC.skip ?_
          refine TC.seq ?_
          refine TC.region ?_
          refine op0 (sp_move rfl rfl) rfl trivial rfl rfl ?_
          refine op1 2 rfl (sp_loadBA rfl isBlk rfl vt74 rfl rfl) rfl trivial rfl rfl ?_
          refine op1 0 rfl (sp_loadBA rfl isBlk rfl vt147 rfl rfl) rfl trivial rfl rfl ?_
          obtain ⟨r21, h11, h⟩ := bind_inv h
          refine opT (take := [.row 5 3 1 (List.map en_int l12)]) (need := [.ro 0 5 (List.map en_api_RoundTower l14), .ro 1 1 (List.map en_Lint l15), .ro 2 4 (List.map en_api_RoundWinder l16), .ro 6 1 (List.map en_int x17.2)]) (V' := [.row 5 3 1 (List.map en_int r21), .blk 7 [.val (.int .i64 x17.1), .ref 6] 147, .ro 6 1 (List.map en_int x17.2), .blk 4 [.ref 0, .ref 1, .ref 2, .val (.int .i64 i10), .val (.int .i64 i11)] 74, .ro 3 2 (List.map en_api_RoundDay l13), .ro 0 5 (List.map en_api_RoundTower l14), .ro 1 1 (List.map en_Lint l15), .ro 2 4 (List.map en_api_RoundWinder l16)]) [3] [5, 6, 7, 1] (ts_call (avs := [.ref 5, .agg [.ref 0, .ref 1, .ref 2, .val (.int .i64 i10), .val (.int .i64 i11)], .agg [.val (.int .i64 x17.1), .ref 6]]) (take := [.row 5 3 1 (List.map en_int l12)]) (need := [.ro 0 5 (List.map en_api_RoundTower l14), .ro 1 1 (List.map en_Lint l15), .ro 2 4 (List.map en_api_RoundWinder l16), .ro 6 1 (List.map en_int x17.2)]) (v := .tup []) (news := [.row 5 3 1 (List.map en_int r21)]) rfl rfl rfl Try.call124 (atT [(0, 5), (1, 0), (2, 1), (3, 2), (4, 6)] [(0, 5)] (ft_round_clocks_wind h11) rfl rfl rfl) rfl rfl) trivial rfl ⟨rfl, trivial⟩ ⟨rfl, rfl, rfl, rfl, trivial⟩ rfl rfl ?_
          refine TL.nil ?_
          refine TC.seq ?_
          refine TC.region ?_
          refine op0 (sp_move rfl rfl) rfl trivial rfl rfl ?_
          obtain ⟨r22, h12, h⟩ := bind_inv h
          refine op1 0 rfl (sp_call (avs := [.ref 5]) (need := [.row 5 3 1 (List.map en_int r21)]) (v := .tup [.val (.int .i64 r22.1), .val (.int .i64 r22.2)]) (news := []) rfl rfl rfl Try.call123 (atJ [(0, 5)] [] (fc_round_clocks_first h12) rfl rfl) (.inr (fun x hx => nomatch hx))) rfl trivial rfl rfl ?_
          refine op0 (sp_move rfl rfl) rfl trivial rfl rfl ?_
          refine op0 (sp_extract rfl rfl rfl) rfl trivial rfl rfl ?_
          refine op0 (sp_extract rfl rfl rfl) rfl trivial rfl rfl ?_
          refine op0 (sp_assign rfl rfl) rfl trivial rfl rfl ?_
          refine op0 (sp_assign rfl rfl) rfl trivial rfl rfl ?_
          refine TL.nil ?_
          refine TC.seq ?_
          refine TC.region ?_
          refine op0 (sp_move rfl rfl) rfl trivial rfl rfl ?_
          refine op1 1 rfl (sp_fieldAddrB rfl isBlk rfl ft147_0 vt3 (by decide)) rfl trivial rfl rfl ?_
          refine op1 1 rfl (sp_loadB rfl isBlk rfl vt3 rfl) rfl trivial rfl rfl ?_
          refine op0 (sp_leq rfl rfl rfl) rfl trivial rfl rfl ?_
          refine TL.nil ?_
          refine TC.cond (b := (decide (r22.2 ≤ x17.1))) rfl (fun h13 => ?_) (fun h13 => ?_)
          · have h := cond_t h h13
            refine TC.seq ?_
            refine TC.region ?_
            refine op0 (sp_move rfl rfl) rfl trivial rfl rfl ?_
            refine op0 (sp_move rfl rfl) rfl trivial rfl rfl ?_
            refine op0 (sp_assign rfl rfl) rfl trivial rfl rfl ?_
            refine op0 (sp_assign rfl rfl) rfl trivial rfl rfl ?_
            refine op0 (sp_assign rfl rfl) rfl trivial rfl rfl ?_
            refine TL.nil ?_
            cases h
            exact retJ [] (.tmp rfl (.tmp rfl (.tmp rfl .nil))) rfl trivial rfl rfl
          · have h := cond_f h h13
            refine TC.skip ?_
            refine TC.inBlock ?_
            refine TC.region ?_
            obtain ⟨h14, h⟩ := chk_inv h
            refine op0 (sp_add rfl rfl rfl h14) rfl trivial rfl rfl ?_
            refine op0 (sp_move rfl rfl) rfl trivial rfl rfl ?_
            refine TL.nil ?_
            refine TC.inLoop ?_
            refine TC.seq ?_
            refine subJ [] (ih _ _ _ _ _ _ _ _ h) ?_ ?_ ?_
            · exact ⟨rfl, rfl, rfl, rfl, rfl, rfl, trivial⟩
            · exact ⟨mem_at 3 rfl, mem_at 0 rfl, mem_at 4 rfl, mem_at 5 rfl, mem_at 6 rfl, mem_at 7 rfl, trivial⟩
            · rfl
    · have h := cond_f h h3
      refine TC.exit rfl ?_
      refine TC.seq ?_
      refine TC.seq ?_
      refine subJ [] (ok_round_Stops_j1 h) ?_ ?_ ?_
      · exact ⟨rfl, rfl, trivial⟩
      · exact ⟨mem_at 1 rfl, trivial⟩
      · rfl
def ev_round_Stops (n : Nat) (rr1 : List (Int × Int × Int × Int × Int)) (rr2 : List ((List Int))) (rr3 : List (Int × Int × Int × Int)) (rr4 : Int) (rr5 : Int) (days6 : List (Int × (List Int))) (until7 : Int) : Option (Int × Int × Int) :=
  (ev_round_open n rr1 rr2 rr3 rr4 rr5 days6 until7).bind fun r8 => cond (r8.2 != 0) (some (0, 0, r8.2)) (ev_round_Stops_l0 n days6 until7 n 0 rr4 rr5 r8.1 days6 rr1 rr2 rr3)
set_option maxRecDepth 100000 in
set_option maxHeartbeats 2000000 in
theorem fc_round_Stops {n : Nat} {rr1 : List (Int × Int × Int × Int × Int)} {rr2 : List ((List Int))} {rr3 : List (Int × Int × Int × Int)} {rr4 : Int} {rr5 : Int} {days6 : List (Int × (List Int))} {until7 : Int} {r : Int × Int × Int} (h : ev_round_Stops n rr1 rr2 rr3 rr4 rr5 days6 until7 = some r) : FC Try.prog 52 [.agg [.ref 0, .ref 1, .ref 2, .val (.int .i64 rr4), .val (.int .i64 rr5)], .ref 3, .val (.int .i64 until7)] [.ro 0 5 (List.map en_api_RoundTower rr1), .ro 1 1 (List.map en_Lint rr2), .ro 2 4 (List.map en_api_RoundWinder rr3), .ro 3 2 (List.map en_api_RoundDay days6)] (.tup [.val (.int .i64 r.1), .val (.int .i64 r.2.1), .val (.int .i64 r.2.2)]) [] := by
  refine introJ (nz := 71) Try.func52 rfl rfl rfl (fun w0 R0 env0 => ?_)
  rw [ev_round_Stops] at h
  refine TC.seq ?_
  refine TC.region ?_
  refine op0 (sp_box 4 rfl rfl rfl rfl rfl) rfl trivial rfl rfl ?_
  refine op0 (sp_assign rfl rfl) rfl trivial rfl rfl ?_
  refine op0 (sp_assign rfl rfl) rfl trivial rfl rfl ?_
  refine op0 (sp_assign rfl rfl) rfl trivial rfl rfl ?_
  refine TL.nil ?_
  refine TC.seq ?_
  refine TC.region ?_
  refine op1 0 rfl (sp_loadBA rfl isBlk rfl vt74 rfl rfl) rfl trivial rfl rfl ?_
  refine op0 (sp_move rfl rfl) rfl trivial rfl rfl ?_
  refine op0 (sp_move rfl rfl) rfl trivial rfl rfl ?_
  obtain ⟨r8, h1, h⟩ := bind_inv h
  refine opN (need := [.ro 0 5 (List.map en_api_RoundTower rr1), .ro 1 1 (List.map en_Lint rr2), .ro 2 4 (List.map en_api_RoundWinder rr3), .ro 3 2 (List.map en_api_RoundDay days6)]) [1, 2, 3, 4] ⟨rfl, rfl, rfl, rfl, trivial⟩ (sp_call (avs := [.agg [.ref 0, .ref 1, .ref 2, .val (.int .i64 rr4), .val (.int .i64 rr5)], .ref 3, .val (.int .i64 until7)]) (need := [.ro 0 5 (List.map en_api_RoundTower rr1), .ro 1 1 (List.map en_Lint rr2), .ro 2 4 (List.map en_api_RoundWinder rr3), .ro 3 2 (List.map en_api_RoundDay days6)]) (v := .tup [.ref 5, .val (.int .i64 r8.2)]) (news := [.row 5 3 1 (List.map en_int r8.1)]) rfl rfl rfl Try.call122 (atJ [] [(0, 5)] (fc_round_open h1) rfl rfl) (.inl (roAll rfl))) rfl trivial rfl rfl ?_
  refine op0 (sp_move rfl rfl) rfl trivial rfl rfl ?_
  refine op0 (sp_extract rfl rfl rfl) rfl trivial rfl rfl ?_
  refine op0 (sp_extract rfl rfl rfl) rfl trivial rfl rfl ?_
  refine op0 (sp_assign rfl rfl) rfl trivial rfl rfl ?_
  refine op0 (sp_assign rfl rfl) rfl trivial rfl rfl ?_
  refine TL.nil ?_
  refine TC.seq ?_
  refine TC.seq ?_
  refine TC.region ?_
  refine op0 (sp_move rfl rfl) rfl trivial rfl rfl ?_
  refine op0 (sp_neq rfl rfl rfl) rfl trivial rfl rfl ?_
  refine TL.nil ?_
  refine TC.cond (b := (r8.2 != 0)) rfl (fun h2 => ?_) (fun h2 => ?_)
  · have h := cond_t h h2
    refine TC.seq ?_
    refine TC.region ?_
    refine op0 (sp_move rfl rfl) rfl trivial rfl rfl ?_
    refine op0 (sp_assign rfl rfl) rfl trivial rfl rfl ?_
    refine op0 (sp_assign rfl rfl) rfl trivial rfl rfl ?_
    refine op0 (sp_assign rfl rfl) rfl trivial rfl rfl ?_
    refine TL.nil ?_
    cases h
    exact retJ [] (.tmp rfl (.tmp rfl (.tmp rfl .nil))) rfl trivial rfl rfl
  · have h := cond_f h h2
    refine TC.skip ?_
    refine TC.seq ?_
    refine TC.seq ?_
    refine TC.region ?_
    refine op0 (sp_move rfl rfl) rfl trivial rfl rfl ?_
    refine op1 5 rfl (sp_lenM (N := days6.length) (len_map _ _) rfl rfl isRo Try.underlying143) rfl trivial rfl rfl ?_
    refine op0 (sp_move rfl rfl) rfl trivial rfl rfl ?_
    refine TL.nil ?_
    refine TC.block ?_
    refine TC.loop ?_
    refine TC.seq ?_
    refine subJ [] (ok_round_Stops_l0 _ _ _ _ _ _ _ _ _ h) ?_ ?_ ?_
    · exact ⟨rfl, rfl, rfl, rfl, rfl, rfl, trivial⟩
    · exact ⟨mem_at 1 rfl, mem_at 0 rfl, mem_at 5 rfl, mem_at 2 rfl, mem_at 3 rfl, mem_at 4 rfl, trivial⟩
    · rfl
/- round_Left -/
def ev_round_Left_l1 (n : Nat) (l12 : List Int) (day7 : Int) : Nat → Int → (List Int) → Option ((List Int) × Int)
  | 0, _, _ => none
  | m + 1, i19, l20 => cond (decide (i19 < (l12.length : Int))) (idx l20 i19 fun x21 => chk (in64 (x21 - day7)) <| chk (in64 (i19 + 1)) <| ev_round_Left_l1 n l12 day7 m (i19 + 1) (List.set l20 (i19 : Int).toNat (x21 - day7))) (some (l20, 0))
set_option maxRecDepth 100000 in
set_option maxHeartbeats 2000000 in
theorem ok_round_Left_l1 {n : Nat} {w0 : World} {R0 : Nat → Prop} {env0 : Env} {r : (List Int) × Int} {day7 : Int} {l12 : List Int} : ∀ (m : Nat) (i19 : Int) (l20 : List Int), ev_round_Left_l1 n l12 day7 m i19 l20 = some r → TC Try.prog ⟨w0, fun _ => False, R0⟩ 52 (bodyPost Try.prog Try.f53 (Post ⟨w0, fun _ => False, R0⟩ env0 (.tup [.ref 0, .val (.int .i64 r.2)]) [.row 0 3 1 (List.map en_int r.1)])) [.code (sub (bodyOf Try.f53) [1, 1, 1, 1, 0, 1, 0, 0, 0]), .code (sub (bodyOf Try.f53) [1, 1, 1, 1, 0, 1, 0, 0, 1]), .inLoop (sub (bodyOf Try.f53) [1, 1, 1, 1, 0, 1, 0, 0]), .inBlock 2, .code (sub (bodyOf Try.f53) [1, 1, 1, 1, 1])] ([(2, .val (.int .i64 day7)), (8, .ref 5), (39, .val (.int .i64 (l12.length : Int))), (40, .val (.int .i64 i19))]) ([.row 5 3 1 (List.map en_int l20)]) := by
  intro m
  induction m with
  | zero => intro i19 l20 h; exact none_no h
  | succ m ih =>
    intro i19 l20 h
    rw [ev_round_Left_l1] at h
    refine TC.region ?_
    refine op0 (sp_lss rfl rfl rfl) rfl trivial rfl rfl ?_
    refine TL.nil ?_
    refine TC.seq ?_
    refine TC.cond (b := (decide (i19 < (l12.length : Int)))) rfl (fun h10 => ?_) (fun h10 => ?_)
    · have h := cond_t h h10
      refine TC.skip ?_
      refine TC.seq ?_
      refine TC.block ?_
      refine TC.seq ?_
      refine TC.region ?_
      refine op0 (sp_move rfl rfl) rfl trivial rfl rfl ?_
      refine op0 (sp_assign rfl rfl) rfl trivial rfl rfl ?_
      refine TL.nil ?_
      refine TC.region ?_
      refine op0 (sp_move rfl rfl) rfl trivial rfl rfl ?_
      refine op0 (sp_move rfl rfl) rfl trivial rfl rfl ?_
      obtain ⟨x21, h11, h12, h⟩ := idx_inv h
      refine op1 0 rfl (sp_indexS rfl rfl rfl isOwn sl271 h11 (map_get _ h12)) rfl trivial rfl rfl ?_
      refine op1 0 rfl (sp_loadR (i := (i19 : Int).toNat) (j := 0) rfl rfl isOwn vt3 rfl (map_get _ h12) rfl (.v (.nil)) (nodup_of_B rfl)) rfl trivial rfl rfl ?_
      refine op0 (sp_move rfl rfl) rfl trivial rfl rfl ?_
      obtain ⟨h13, h⟩ := chk_inv h
      refine op0 (sp_sub rfl rfl rfl h13) rfl trivial rfl rfl ?_
      refine op1 0 rfl (sp_indexS rfl rfl rfl isOwn sl271 h11 (map_get _ h12)) rfl trivial rfl rfl ?_
      refine stoR 0 ((i19 : Int).toNat) 0 (need := []) [] rfl rfl trivial rfl rfl rfl rfl vt3 rfl rfl (map_get _ h12) rfl rfl trivial (.v (.nil)) (map_set l20 en_int ((i19 : Int).toNat) (x21 - day7)) ?_
      refine TL.nil ?_
      refine TC.inBlock ?_
      refine TC.region ?_
      obtain ⟨h14, h⟩ := chk_inv h
      refine op0 (sp_add rfl rfl rfl h14) rfl trivial rfl rfl ?_
      refine op0 (sp_move rfl rfl) rfl trivial rfl rfl ?_
      refine TL.nil ?_
      refine TC.inLoop ?_
      refine TC.seq ?_
      refine subJ [] (ih _ _ h) ?_ ?_ ?_
      · exact ⟨rfl, rfl, rfl, rfl, trivial⟩
      · exact ⟨mem_at 0 rfl, trivial⟩
      · rfl
    · have h := cond_f h h10
      refine TC.exit rfl ?_
      refine TC.seq ?_
      refine TC.region ?_
      refine op0 (sp_move rfl rfl) rfl trivial rfl rfl ?_
      refine op0 (sp_assign rfl rfl) rfl trivial rfl rfl ?_
      refine op0 (sp_assign rfl rfl) rfl trivial rfl rfl ?_
      refine TL.nil ?_
      cases h
      exact retJ [(0, 5)] (.tmp rfl (.tmp rfl .nil)) rfl ⟨mem_at 0 rfl, trivial⟩ rfl rfl
def ev_round_Left_l0 (n : Nat) (days6 : List (Int × (List Int))) (day7 : Int) : Nat → Int → Int → Int → (List Int) → (List (Int × (List Int))) → (List (Int × Int × Int × Int × Int)) → (List ((List Int))) → (List (Int × Int × Int × Int)) → Option ((List Int) × Int)
  | 0, _, _, _, _, _, _, _, _ => none
  | m + 1, i9, i10, i11, l12, l13, l14, l15, l16 => cond (decide (i9 < (days6.length : Int))) (idx l13 i9 fun x17 => cond (decide (x17.1 ≤ day7)) ((ev_round_clocks_wind n l12 l14 l15 l16 i10 i11 x17.1 x17.2).bind fun r18 => chk (in64 (i9 + 1)) <| ev_round_Left_l0 n days6 day7 m (i9 + 1) i10 i11 r18 l13 l14 l15 l16) (chk (in64 (i9 + 1)) <| ev_round_Left_l0 n days6 day7 m (i9 + 1) i10 i11 l12 l13 l14 l15 l16)) (ev_round_Left_l1 n l12 day7 n 0 l12)
set_option maxRecDepth 100000 in
set_option maxHeartbeats 2000000 in
theorem ok_round_Left_l0 {n : Nat} {w0 : World} {R0 : Nat → Prop} {env0 : Env} {r : (List Int) × Int} {day7 : Int} {days6 : List (Int × (List Int))} : ∀ (m : Nat) (i9 : Int) (i10 : Int) (i11 : Int) (l12 : List Int) (l13 : List (Int × (List Int))) (l14 : List (Int × Int × Int × Int × Int)) (l15 : List ((List Int))) (l16 : List (Int × Int × Int × Int)), ev_round_Left_l0 n days6 day7 m i9 i10 i11 l12 l13 l14 l15 l16 = some r → TC Try.prog ⟨w0, fun _ => False, R0⟩ 52 (bodyPost Try.prog Try.f53 (Post ⟨w0, fun _ => False, R0⟩ env0 (.tup [.ref 0, .val (.int .i64 r.2)]) [.row 0 3 1 (List.map en_int r.1)])) [.code (sub (bodyOf Try.f53) [1, 1, 1, 0, 1, 0, 0, 0]), .code (sub (bodyOf Try.f53) [1, 1, 1, 0, 1, 0, 0, 1]), .inLoop (sub (bodyOf Try.f53) [1, 1, 1, 0, 1, 0, 0]), .inBlock 0, .code (sub (bodyOf Try.f53) [1, 1, 1, 1])] ([(2, .val (.int .i64 day7)), (3, .ptr 4 0), (8, .ref 5), (23, .ref 3), (24, .val (.int .i64 (days6.length : Int))), (25, .val (.int .i64 i9))]) ([.blk 4 [.ref 0, .ref 1, .ref 2, .val (.int .i64 i10), .val (.int .i64 i11)] 74, .row 5 3 1 (List.map en_int l12), .ro 3 2 (List.map en_api_RoundDay l13), .ro 0 5 (List.map en_api_RoundTower l14), .ro 1 1 (List.map en_Lint l15), .ro 2 4 (List.map en_api_RoundWinder l16)]) := by
  intro m
  induction m with
  | zero => intro i9 i10 i11 l12 l13 l14 l15 l16 h; exact none_no h
  | succ m ih =>
    intro i9 i10 i11 l12 l13 l14 l15 l16 h
    rw [ev_round_Left_l0] at h
    refine TC.region ?_
    refine op0 (sp_lss rfl rfl rfl) rfl trivial rfl rfl ?_
    refine TL.nil ?_
    refine TC.seq ?_
    refine TC.cond (b := (decide (i9 < (days6.length : Int)))) rfl (fun h3 => ?_) (fun h3 => ?_)
    · have h := cond_t h h3
      refine TC.skip ?_
      refine TC.seq ?_
      refine TC.block ?_
      refine TC.seq ?_
      refine TC.region ?_
      obtain ⟨x17, h4, h5, h⟩ := idx_inv h
      refine op1 2 rfl (sp_indexS rfl rfl rfl isRo sl143 h4 (map_get _ h5)) rfl trivial rfl rfl ?_
      refine op1 2 rfl (sp_loadRA (i := (i9 : Int).toNat) (j := 0) (as_ := [.val (.int .i64 x17.1), .ref 7]) (ns := [.ro 7 1 (List.map en_int x17.2)]) rfl rfl isRo vt147 rfl (map_get _ h5) rfl rfl (by decide) (.v (.s (.nil))) (nodup_of_B rfl)) rfl trivial rfl rfl ?_
      refine op0 (sp_alloc 8 rfl Try.zeroValue147 rfl) rfl trivial rfl rfl ?_
      refine stoB 0 (cells' := [.val (.int .i64 x17.1), .ref 7]) rfl rfl trivial rfl rfl rfl rfl vt147 rfl rfl rfl ?_
      refine TL.nil ?_
      refine TC.seq ?_
      refine TC.region ?_
      refine op1 0 rfl (sp_fieldAddrB rfl isBlk rfl ft147_0 vt3 (by decide)) rfl trivial rfl rfl ?_
      refine op1 0 rfl (sp_loadB rfl isBlk rfl vt3 rfl) rfl trivial rfl rfl ?_
      refine op0 (sp_move rfl rfl) rfl trivial rfl rfl ?_
      refine op0 (sp_leq rfl rfl rfl) rfl trivial rfl rfl ?_
      refine TL.nil ?_
      refine TC.cond (b := (decide (x17.1 ≤ day7))) rfl (fun h6 => ?_) (fun h6 => ?_)
      · have h := cond_t h h6
        refine TC.region ?_
        refine op0 (sp_move rfl rfl) rfl trivial rfl rfl ?_
        refine op1 2 rfl (sp_loadBA rfl isBlk rfl vt74 rfl rfl) rfl trivial rfl rfl ?_
        refine op1 0 rfl (sp_loadBA rfl isBlk rfl vt147 rfl rfl) rfl trivial rfl rfl ?_
        obtain ⟨r18, h7, h⟩ := bind_inv h
        refine opT (take := [.row 5 3 1 (List.map en_int l12)]) (need := [.ro 0 5 (List.map en_api_RoundTower l14), .ro 1 1 (List.map en_Lint l15), .ro 2 4 (List.map en_api_RoundWinder l16), .ro 7 1 (List.map en_int x17.2)]) (V' := [.row 5 3 1 (List.map en_int r18), .blk 8 [.val (.int .i64 x17.1), .ref 7] 147, .ro 7 1 (List.map en_int x17.2), .blk 4 [.ref 0, .ref 1, .ref 2, .val (.int .i64 i10), .val (.int .i64 i11)] 74, .ro 3 2 (List.map en_api_RoundDay l13), .ro 0 5 (List.map en_api_RoundTower l14), .ro 1 1 (List.map en_Lint l15), .ro 2 4 (List.map en_api_RoundWinder l16)]) [3] [5, 6, 7, 1] (ts_call (avs := [.ref 5, .agg [.ref 0, .ref 1, .ref 2, .val (.int .i64 i10), .val (.int .i64 i11)], .agg [.val (.int .i64 x17.1), .ref 7]]) (take := [.row 5 3 1 (List.map en_int l12)]) (need := [.ro 0 5 (List.map en_api_RoundTower l14), .ro 1 1 (List.map en_Lint l15), .ro 2 4 (List.map en_api_RoundWinder l16), .ro 7 1 (List.map en_int x17.2)]) (v := .tup []) (news := [.row 5 3 1 (List.map en_int r18)]) rfl rfl rfl Try.call124 (atT [(0, 5), (1, 0), (2, 1), (3, 2), (4, 7)] [(0, 5)] (ft_round_clocks_wind h7) rfl rfl rfl) rfl rfl) trivial rfl ⟨rfl, trivial⟩ ⟨rfl, rfl, rfl, rfl, trivial⟩ rfl rfl ?_
        refine TL.nil ?_
        refine TC.inBlock ?_
        refine TC.region ?_
        obtain ⟨h8, h⟩ := chk_inv h
        refine op0 (sp_add rfl rfl rfl h8) rfl trivial rfl rfl ?_
        refine op0 (sp_move rfl rfl) rfl trivial rfl rfl ?_
        refine TL.nil ?_
        refine TC.inLoop ?_
        refine TC.seq ?_
        refine subJ [] (ih _ _ _ _ _ _ _ _ h) ?_ ?_ ?_
        · exact ⟨rfl, rfl, rfl, rfl, rfl, rfl, trivial⟩
        · exact ⟨mem_at 3 rfl, mem_at 0 rfl, mem_at 4 rfl, mem_at 5 rfl, mem_at 6 rfl, mem_at 7 rfl, trivial⟩
        · rfl
      · have h := cond_f h h6
        refine TC.skip ?_
        refine TC.inBlock ?_
        refine TC.region ?_
        obtain ⟨h9, h⟩ := chk_inv h
        refine op0 (sp_add rfl rfl rfl h9) rfl trivial rfl rfl ?_
        refine op0 (sp_move rfl rfl) rfl trivial rfl rfl ?_
        refine TL.nil ?_
        refine TC.inLoop ?_
        refine TC.seq ?_
        refine subJ [] (ih _ _ _ _ _ _ _ _ h) ?_ ?_ ?_
        · exact ⟨rfl, rfl, rfl, rfl, rfl, rfl, trivial⟩
        · exact ⟨mem_at 2 rfl, mem_at 3 rfl, mem_at 4 rfl, mem_at 5 rfl, mem_at 6 rfl, mem_at 7 rfl, trivial⟩
        · rfl
    · have h := cond_f h h3
      refine TC.exit rfl ?_
      refine TC.seq ?_
      refine TC.seq ?_
      refine TC.region ?_
      refine op0 (sp_move rfl rfl) rfl trivial rfl rfl ?_
      refine op1 1 rfl (sp_lenM (N := l12.length) (len_map _ _) rfl rfl isOwn Try.underlying271) rfl trivial rfl rfl ?_
      refine op0 (sp_move rfl rfl) rfl trivial rfl rfl ?_
      refine TL.nil ?_
      refine TC.block ?_
      refine TC.loop ?_
      refine TC.seq ?_
      refine subJ [] (ok_round_Left_l1 _ _ _ h) ?_ ?_ ?_
      · exact ⟨rfl, rfl, rfl, rfl, trivial⟩
      · exact ⟨mem_at 1 rfl, trivial⟩
      · rfl
def ev_round_Left (n : Nat) (rr1 : List (Int × Int × Int × Int × Int)) (rr2 : List ((List Int))) (rr3 : List (Int × Int × Int × Int)) (rr4 : Int) (rr5 : Int) (days6 : List (Int × (List Int))) (day7 : Int) : Option ((List Int) × Int) :=
  (ev_round_open n rr1 rr2 rr3 rr4 rr5 days6 day7).bind fun r8 => cond (r8.2 != 0) (some (([] : List Int), r8.2)) (ev_round_Left_l0 n days6 day7 n 0 rr4 rr5 r8.1 days6 rr1 rr2 rr3)
set_option maxRecDepth 100000 in
set_option maxHeartbeats 2000000 in
theorem fc_round_Left {n : Nat} {rr1 : List (Int × Int × Int × Int × Int)} {rr2 : List ((List Int))} {rr3 : List (Int × Int × Int × Int)} {rr4 : Int} {rr5 : Int} {days6 : List (Int × (List Int))} {day7 : Int} {r : (List Int) × Int} (h : ev_round_Left n rr1 rr2 rr3 rr4 rr5 days6 day7 = some r) : FC Try.prog 53 [.agg [.ref 0, .ref 1, .ref 2, .val (.int .i64 rr4), .val (.int .i64 rr5)], .ref 3, .val (.int .i64 day7)] [.ro 0 5 (List.map en_api_RoundTower rr1), .ro 1 1 (List.map en_Lint rr2), .ro 2 4 (List.map en_api_RoundWinder rr3), .ro 3 2 (List.map en_api_RoundDay days6)] (.tup [.ref 0, .val (.int .i64 r.2)]) [.row 0 3 1 (List.map en_int r.1)] := by
  refine introJ (nz := 52) Try.func53 rfl rfl rfl (fun w0 R0 env0 => ?_)
  rw [ev_round_Left] at h
  refine TC.seq ?_
  refine TC.region ?_
  refine op0 (sp_box 4 rfl rfl rfl rfl rfl) rfl trivial rfl rfl ?_
  refine op0 (sp_assign rfl rfl) rfl trivial rfl rfl ?_
  refine op0 (sp_assign rfl rfl) rfl trivial rfl rfl ?_
  refine TL.nil ?_
  refine TC.seq ?_
  refine TC.region ?_
  refine op1 0 rfl (sp_loadBA rfl isBlk rfl vt74 rfl rfl) rfl trivial rfl rfl ?_
  refine op0 (sp_move rfl rfl) rfl trivial rfl rfl ?_
  refine op0 (sp_move rfl rfl) rfl trivial rfl rfl ?_
  obtain ⟨r8, h1, h⟩ := bind_inv h
  refine opN (need := [.ro 0 5 (List.map en_api_RoundTower rr1), .ro 1 1 (List.map en_Lint rr2), .ro 2 4 (List.map en_api_RoundWinder rr3), .ro 3 2 (List.map en_api_RoundDay days6)]) [1, 2, 3, 4] ⟨rfl, rfl, rfl, rfl, trivial⟩ (sp_call (avs := [.agg [.ref 0, .ref 1, .ref 2, .val (.int .i64 rr4), .val (.int .i64 rr5)], .ref 3, .val (.int .i64 day7)]) (need := [.ro 0 5 (List.map en_api_RoundTower rr1), .ro 1 1 (List.map en_Lint rr2), .ro 2 4 (List.map en_api_RoundWinder rr3), .ro 3 2 (List.map en_api_RoundDay days6)]) (v := .tup [.ref 5, .val (.int .i64 r8.2)]) (news := [.row 5 3 1 (List.map en_int r8.1)]) rfl rfl rfl Try.call122 (atJ [] [(0, 5)] (fc_round_open h1) rfl rfl) (.inl (roAll rfl))) rfl trivial rfl rfl ?_
  refine op0 (sp_move rfl rfl) rfl trivial rfl rfl ?_
  refine op0 (sp_extract rfl rfl rfl) rfl trivial rfl rfl ?_
  refine op0 (sp_extract rfl rfl rfl) rfl trivial rfl rfl ?_
  refine op0 (sp_assign rfl rfl) rfl trivial rfl rfl ?_
  refine op0 (sp_assign rfl rfl) rfl trivial rfl rfl ?_
  refine TL.nil ?_
  refine TC.seq ?_
  refine TC.seq ?_
  refine TC.region ?_
  refine op0 (sp_move rfl rfl) rfl trivial rfl rfl ?_
  refine op0 (sp_neq rfl rfl rfl) rfl trivial rfl rfl ?_
  refine TL.nil ?_
  refine TC.cond (b := (r8.2 != 0)) rfl (fun h2 => ?_) (fun h2 => ?_)
  · have h := cond_t h h2
    refine TC.seq ?_
    refine TC.region ?_
    refine op0 (sp_move rfl rfl) rfl trivial rfl rfl ?_
    refine op0 (sp_assign rfl rfl) rfl trivial rfl rfl ?_
    refine op0 (sp_assign rfl rfl) rfl trivial rfl rfl ?_
    refine TL.nil ?_
    refine nilRowC 6 6 3 1 (List.map en_int []) rfl rfl rfl ?_
    cases h
    exact retJ [(0, 6)] (.tmp rfl (.tmp rfl .nil)) rfl ⟨mem_at 0 rfl, trivial⟩ rfl rfl
  · have h := cond_f h h2
    refine TC.skip ?_
    refine TC.seq ?_
    refine TC.seq ?_
    refine TC.region ?_
    refine op0 (sp_move rfl rfl) rfl trivial rfl rfl ?_
    refine op1 5 rfl (sp_lenM (N := days6.length) (len_map _ _) rfl rfl isRo Try.underlying143) rfl trivial rfl rfl ?_
    refine op0 (sp_move rfl rfl) rfl trivial rfl rfl ?_
    refine TL.nil ?_
    refine TC.block ?_
    refine TC.loop ?_
    refine TC.seq ?_
    refine subJ [] (ok_round_Left_l0 _ _ _ _ _ _ _ _ _ h) ?_ ?_ ?_
    · exact ⟨rfl, rfl, rfl, rfl, rfl, rfl, trivial⟩
    · exact ⟨mem_at 1 rfl, mem_at 0 rfl, mem_at 5 rfl, mem_at 2 rfl, mem_at 3 rfl, mem_at 4 rfl, trivial⟩
    · rfl
/- round_isNumber -/
def ev_round_isNumber (n : Nat) (rr1 : List (Int × Int × Int × Int × Int)) (rr2 : List ((List Int))) (rr3 : List (Int × Int × Int × Int)) (rr4 : Int) (rr5 : Int) (winder6 : Int) : Option Bool :=
  chk (in64 ((rr3.length : Int) - 1)) <| (ev_round_within n 0 ((rr3.length : Int) - 1) ([winder6] : List Int)).bind fun r7 => some r7
set_option maxRecDepth 100000 in
set_option maxHeartbeats 2000000 in
theorem fc_round_isNumber {n : Nat} {rr1 : List (Int × Int × Int × Int × Int)} {rr2 : List ((List Int))} {rr3 : List (Int × Int × Int × Int)} {rr4 : Int} {rr5 : Int} {winder6 : Int} {r : Bool} (h : ev_round_isNumber n rr1 rr2 rr3 rr4 rr5 winder6 = some r) : FC Try.prog 88 [.agg [.ref 0, .ref 1, .ref 2, .val (.int .i64 rr4), .val (.int .i64 rr5)], .val (.int .i64 winder6)] [.ro 0 5 (List.map en_api_RoundTower rr1), .ro 1 1 (List.map en_Lint rr2), .ro 2 4 (List.map en_api_RoundWinder rr3)] (.val (.bool r)) [] := by
  refine introJ (nz := 12) Try.func88 rfl rfl rfl (fun w0 R0 env0 => ?_)
  rw [ev_round_isNumber] at h
  refine TC.seq ?_
  refine TC.region ?_
  refine op0 (sp_box 3 rfl rfl rfl rfl rfl) rfl trivial rfl rfl ?_
  refine op0 (sp_assign rfl rfl) rfl trivial rfl rfl ?_
  refine TL.nil ?_
  refine TC.seq ?_
  refine TC.region ?_
  refine op1 0 rfl (sp_fieldAddrB rfl isBlk rfl ft74_2 vt72 (by decide)) rfl trivial rfl rfl ?_
  refine op1 0 rfl (sp_loadB rfl isBlk rfl vt72 rfl) rfl trivial rfl rfl ?_
  refine op1 3 rfl (sp_lenM (N := rr3.length) (len_map _ _) rfl rfl isRo Try.underlying72) rfl trivial rfl rfl ?_
  obtain ⟨h1, h⟩ := chk_inv h
  refine op0 (sp_sub rfl rfl rfl h1) rfl trivial rfl rfl ?_
  refine op0 (sp_move rfl rfl) rfl trivial rfl rfl ?_
  refine op0 (sp_buildSlice (qs := [.val (.int .i64 winder6)]) (need := []) (els := List.map en_int ([winder6] : List Int)) 4 rfl sl37 (by decide) (by decide) rfl rfl rfl (.v (.nil)) (map_len fun _ => rfl) rfl rfl rfl) rfl trivial rfl rfl ?_
  obtain ⟨r7, h2, h⟩ := bind_inv h
  refine op1 0 rfl (sp_call (avs := [.val (.int .i64 0), .val (.int .i64 ((rr3.length : Int) - 1)), .ref 4]) (need := [.row 4 3 1 (List.map en_int ([winder6] : List Int))]) (v := .val (.bool r7)) (news := []) rfl rfl rfl Try.call153 (atJ [(0, 4)] [] (fc_round_within h2) rfl rfl) (.inr (fun x hx => nomatch hx))) rfl trivial rfl rfl ?_
  refine op0 (sp_assign rfl rfl) rfl trivial rfl rfl ?_
  refine TL.nil ?_
  cases h
  exact retJ [] (.tmp rfl .nil) rfl trivial rfl rfl
/- round_works -/
def ev_round_works (n : Nat) (rr1 : List (Int × Int × Int × Int × Int)) (rr2 : List ((List Int))) (rr3 : List (Int × Int × Int × Int)) (rr4 : Int) (rr5 : Int) : Option Int :=
  some (rr1.length : Int)
set_option maxRecDepth 100000 in
set_option maxHeartbeats 2000000 in
theorem fc_round_works {n : Nat} {rr1 : List (Int × Int × Int × Int × Int)} {rr2 : List ((List Int))} {rr3 : List (Int × Int × Int × Int)} {rr4 : Int} {rr5 : Int} {r : Int} (h : ev_round_works n rr1 rr2 rr3 rr4 rr5 = some r) : FC Try.prog 163 [.agg [.ref 0, .ref 1, .ref 2, .val (.int .i64 rr4), .val (.int .i64 rr5)]] [.ro 0 5 (List.map en_api_RoundTower rr1), .ro 1 1 (List.map en_Lint rr2), .ro 2 4 (List.map en_api_RoundWinder rr3)] (.val (.int .i64 r)) [] := by
  refine introJ (nz := 6) Try.func163 rfl rfl rfl (fun w0 R0 env0 => ?_)
  rw [ev_round_works] at h
  refine TC.seq ?_
  refine TC.region ?_
  refine op0 (sp_box 3 rfl rfl rfl rfl rfl) rfl trivial rfl rfl ?_
  refine op0 (sp_assign rfl rfl) rfl trivial rfl rfl ?_
  refine TL.nil ?_
  refine TC.seq ?_
  refine TC.region ?_
  refine op1 0 rfl (sp_fieldAddrB rfl isBlk rfl ft74_0 vt70 (by decide)) rfl trivial rfl rfl ?_
  refine op1 0 rfl (sp_loadB rfl isBlk rfl vt70 rfl) rfl trivial rfl rfl ?_
  refine op1 1 rfl (sp_lenM (N := rr1.length) (len_map _ _) rfl rfl isRo Try.underlying70) rfl trivial rfl rfl ?_
  refine op0 (sp_assign rfl rfl) rfl trivial rfl rfl ?_
  refine TL.nil ?_
  cases h
  exact retJ [] (.tmp rfl .nil) rfl trivial rfl rfl
/- round_start -/
def ev_round_start (n : Nat) (rr1 : List (Int × Int × Int × Int × Int)) (rr2 : List ((List Int))) (rr3 : List (Int × Int × Int × Int)) (rr4 : Int) (rr5 : Int) (winder6 : Int) : Option ((List (Int × Int × Int × Int × Int)) × (List ((List Int))) × (List (Int × Int × Int × Int)) × Int × Int × Int × Int × Int × Int × Int × Int × Int × Int × Int) :=
  idx rr3 winder6 fun x7 => (ev_round_works n rr1 rr2 rr3 rr4 rr5).bind fun r8 => some (rr1, rr2, rr3, rr4, rr5, x7.1, x7.2.1, x7.2.2.1, x7.2.2.2, r8, 0, 0, 0, 0)
set_option maxRecDepth 100000 in
set_option maxHeartbeats 2000000 in
theorem fc_round_start {n : Nat} {rr1 : List (Int × Int × Int × Int × Int)} {rr2 : List ((List Int))} {rr3 : List (Int × Int × Int × Int)} {rr4 : Int} {rr5 : Int} {winder6 : Int} {r : (List (Int × Int × Int × Int × Int)) × (List ((List Int))) × (List (Int × Int × Int × Int)) × Int × Int × Int × Int × Int × Int × Int × Int × Int × Int × Int} (h : ev_round_start n rr1 rr2 rr3 rr4 rr5 winder6 = some r) : FC Try.prog 91 [.agg [.ref 0, .ref 1, .ref 2, .val (.int .i64 rr4), .val (.int .i64 rr5)], .val (.int .i64 winder6)] [.ro 0 5 (List.map en_api_RoundTower rr1), .ro 1 1 (List.map en_Lint rr2), .ro 2 4 (List.map en_api_RoundWinder rr3)] (.agg [.ref 0, .ref 1, .ref 2, .val (.int .i64 r.2.2.2.1), .val (.int .i64 r.2.2.2.2.1), .val (.int .u16 r.2.2.2.2.2.1), .val (.int .i64 r.2.2.2.2.2.2.1), .val (.int .i64 r.2.2.2.2.2.2.2.1), .val (.int .i64 r.2.2.2.2.2.2.2.2.1), .val (.int .i64 r.2.2.2.2.2.2.2.2.2.1), .val (.int .i64 r.2.2.2.2.2.2.2.2.2.2.1), .val (.int .i64 r.2.2.2.2.2.2.2.2.2.2.2.1), .val (.int .i64 r.2.2.2.2.2.2.2.2.2.2.2.2.1), .val (.int .i64 r.2.2.2.2.2.2.2.2.2.2.2.2.2)]) [.ro 0 5 (List.map en_api_RoundTower r.1), .ro 1 1 (List.map en_Lint r.2.1), .ro 2 4 (List.map en_api_RoundWinder r.2.2.1)] := by
  refine introJ (nz := 14) Try.func91 rfl rfl rfl (fun w0 R0 env0 => ?_)
  rw [ev_round_start] at h
  refine TC.seq ?_
  refine TC.region ?_
  refine op0 (sp_box 3 rfl rfl rfl rfl rfl) rfl trivial rfl rfl ?_
  refine op0 (sp_alloc 4 rfl Try.zeroValue215 rfl) rfl trivial rfl rfl ?_
  refine TL.nil ?_
  refine TC.seq ?_
  obtain ⟨x7, h1, h2, h⟩ := idx_inv h
  obtain ⟨r8, h3, h⟩ := bind_inv h
  refine drawJ 8 [⟨.agg [.ref 0, .ref 1, .ref 2, .val (.int .i64 rr4), .val (.int .i64 rr5)], [], [.blk 3 [.ref 0, .ref 1, .ref 2, .val (.int .i64 rr4), .val (.int .i64 rr5)] 74], []⟩, ⟨.ptr 3 2, [], [.blk 3 [.ref 0, .ref 1, .ref 2, .val (.int .i64 rr4), .val (.int .i64 rr5)] 74], []⟩, ⟨.ref 2, [], [.blk 3 [.ref 0, .ref 1, .ref 2, .val (.int .i64 rr4), .val (.int .i64 rr5)] 74], []⟩, ⟨.val (.int .i64 winder6), [], [], []⟩, ⟨.cell 2 ((winder6 : Int).toNat * 4), [], [.ro 2 4 (List.map en_api_RoundWinder rr3)], []⟩, ⟨.agg [.val (.int .u16 x7.1), .val (.int .i64 x7.2.1), .val (.int .i64 x7.2.2.1), .val (.int .i64 x7.2.2.2)], [], [.ro 2 4 (List.map en_api_RoundWinder rr3)], []⟩, ⟨.agg [.ref 0, .ref 1, .ref 2, .val (.int .i64 rr4), .val (.int .i64 rr5)], [], [.blk 3 [.ref 0, .ref 1, .ref 2, .val (.int .i64 rr4), .val (.int .i64 rr5)] 74], []⟩, ⟨.val (.int .i64 r8), [], [.ro 0 5 (List.map en_api_RoundTower rr1), .ro 1 1 (List.map en_Lint rr2), .ro 2 4 (List.map en_api_RoundWinder rr3)], []⟩] rfl ?_ rfl ?_ rfl ?_ ?_
  · kernel_rfl
  · kernel_rfl
  · exact DAll.op' (sp_loadBA rfl isBlk rfl vt74 rfl rfl) trivial rfl (From.ok (ps := [(none, 1)]) ⟨⟨rfl, rfl⟩, trivial⟩) (DAll.op' (sp_fieldAddrB rfl isBlk rfl ft74_2 vt72 (by decide)) trivial rfl (From.ok (ps := [(none, 1)]) ⟨⟨rfl, rfl⟩, trivial⟩) (DAll.op' (sp_loadB rfl isBlk rfl vt72 rfl) trivial rfl (From.ok (ps := [(none, 1)]) ⟨⟨rfl, rfl⟩, trivial⟩) (DAll.op' (sp_move rfl rfl) trivial rfl (From.ok (ps := []) trivial) (DAll.op' (sp_indexS rfl rfl rfl isRo sl72 h1 (map_get _ h2)) trivial rfl (From.ok (ps := [(none, 4)]) ⟨⟨rfl, rfl⟩, trivial⟩) (DAll.op' (sp_loadRA (i := (winder6 : Int).toNat) (j := 0) (as_ := [.val (.int .u16 x7.1), .val (.int .i64 x7.2.1), .val (.int .i64 x7.2.2.1), .val (.int .i64 x7.2.2.2)]) (ns := []) rfl rfl isRo vt213 rfl (map_get _ h2) rfl rfl (by decide) (.v (.v (.v (.v (.nil))))) (nodup_of_B rfl)) trivial rfl (From.ok (ps := [(none, 4)]) ⟨⟨rfl, rfl⟩, trivial⟩) (DAll.op' (sp_loadBA rfl isBlk rfl vt74 rfl rfl) trivial rfl (From.ok (ps := [(none, 1)]) ⟨⟨rfl, rfl⟩, trivial⟩) (DAll.op' (sp_call (avs := [.agg [.ref 0, .ref 1, .ref 2, .val (.int .i64 rr4), .val (.int .i64 rr5)]]) (need := [.ro 0 5 (List.map en_api_RoundTower rr1), .ro 1 1 (List.map en_Lint rr2), .ro 2 4 (List.map en_api_RoundWinder rr3)]) (v := .val (.int .i64 r8)) (news := []) rfl rfl rfl Try.call163 (atJ [] [] (fc_round_works h3) rfl rfl) (.inl (roAll rfl))) trivial rfl (From.ok (ps := [(none, 2), (none, 3), (none, 4)]) ⟨⟨rfl, rfl⟩, ⟨rfl, rfl⟩, ⟨rfl, rfl⟩, trivial⟩) (.nil))))))))
  refine op0 (sp_build (qs := [(0, .agg [.ref 0, .ref 1, .ref 2, .val (.int .i64 rr4), .val (.int .i64 rr5)]), (1, .agg [.val (.int .u16 x7.1), .val (.int .i64 x7.2.1), .val (.int .i64 x7.2.2.1), .val (.int .i64 x7.2.2.2)]), (2, .val (.int .i64 r8))]) rfl bt215 rfl rfl rfl rfl) rfl trivial rfl rfl ?_
  refine stoB 0 (cells' := [.ref 0, .ref 1, .ref 2, .val (.int .i64 rr4), .val (.int .i64 rr5), .val (.int .u16 x7.1), .val (.int .i64 x7.2.1), .val (.int .i64 x7.2.2.1), .val (.int .i64 x7.2.2.2), .val (.int .i64 r8), .val (.int .i64 0), .val (.int .i64 0), .val (.int .i64 0), .val (.int .i64 0)]) rfl rfl trivial rfl rfl rfl rfl vt215 rfl rfl rfl ?_
  refine TL.nil ?_
  cases h
  exact retJ [] (.cells rfl (mem_at 0 rfl) isBlk vt215 rfl rfl (.nil)) rfl ⟨mem_at 2 rfl, mem_at 3 rfl, mem_at 4 rfl, trivial⟩ rfl rfl
/- round_walker_late -/
def ev_round_walker_late (n : Nat) (w1 : List (Int × Int × Int × Int × Int)) (w2 : List ((List Int))) (w3 : List (Int × Int × Int × Int)) (w4 : Int) (w5 : Int) (w6 : Int) (w7 : Int) (w8 : Int) (w9 : Int) (w10 : Int) (w11 : Int) (w12 : Int) (w13 : Int) (w14 : Int) : Option Int :=
  cond (decide (w8 < w14)) (some 110) (some 0)
set_option maxRecDepth 100000 in
set_option maxHeartbeats 2000000 in
theorem fc_round_walker_late {n : Nat} {w1 : List (Int × Int × Int × Int × Int)} {w2 : List ((List Int))} {w3 : List (Int × Int × Int × Int)} {w4 : Int} {w5 : Int} {w6 : Int} {w7 : Int} {w8 : Int} {w9 : Int} {w10 : Int} {w11 : Int} {w12 : Int} {w13 : Int} {w14 : Int} {r : Int} (h : ev_round_walker_late n w1 w2 w3 w4 w5 w6 w7 w8 w9 w10 w11 w12 w13 w14 = some r) : FC Try.prog 243 [.agg [.ref 0, .ref 1, .ref 2, .val (.int .i64 w4), .val (.int .i64 w5), .val (.int .u16 w6), .val (.int .i64 w7), .val (.int .i64 w8), .val (.int .i64 w9), .val (.int .i64 w10), .val (.int .i64 w11), .val (.int .i64 w12), .val (.int .i64 w13), .val (.int .i64 w14)]] [.ro 0 5 (List.map en_api_RoundTower w1), .ro 1 1 (List.map en_Lint w2), .ro 2 4 (List.map en_api_RoundWinder w3)] (.val (.int .i64 r)) [] := by
  refine introJ (nz := 9) Try.func243 rfl rfl rfl (fun w0 R0 env0 => ?_)
  rw [ev_round_walker_late] at h
  refine TC.seq ?_
  refine TC.region ?_
  refine op0 (sp_box 3 rfl rfl rfl rfl rfl) rfl trivial rfl rfl ?_
  refine op0 (sp_assign rfl rfl) rfl trivial rfl rfl ?_
  refine TL.nil ?_
  refine TC.seq ?_
  refine TC.seq ?_
  refine TC.region ?_
  refine op1 0 rfl (sp_fieldAddrB rfl isBlk rfl ft215_6 vt3 (by decide)) rfl trivial rfl rfl ?_
  refine op1 0 rfl (sp_loadB rfl isBlk rfl vt3 rfl) rfl trivial rfl rfl ?_
  refine op1 0 rfl (sp_fieldAddrB rfl isBlk rfl ft215_1 vt213 (by decide)) rfl trivial rfl rfl ?_
  refine op1 0 rfl (sp_fieldAddrB rfl isBlk rfl ft213_2 vt3 (by decide)) rfl trivial rfl rfl ?_
  refine op1 0 rfl (sp_loadB rfl isBlk rfl vt3 rfl) rfl trivial rfl rfl ?_
  refine op0 (sp_gtr rfl rfl rfl) rfl trivial rfl rfl ?_
  refine TL.nil ?_
  refine TC.cond (b := (decide (w8 < w14))) rfl (fun h1 => ?_) (fun h1 => ?_)
  · have h := cond_t h h1
    refine TC.seq ?_
    refine TC.region ?_
    refine op0 (sp_assign rfl rfl) rfl trivial rfl rfl ?_
    refine TL.nil ?_
    cases h
    exact retJ [] (.tmp rfl .nil) rfl trivial rfl rfl
  · have h := cond_f h h1
    refine TC.skip ?_
    refine TC.seq ?_
    refine TC.region ?_
    refine op0 (sp_assign rfl rfl) rfl trivial rfl rfl ?_
    refine TL.nil ?_
    cases h
    exact retJ [] (.tmp rfl .nil) rfl trivial rfl rfl
/- p_round_walker_rest -/
def ev_p_round_walker_rest (n : Nat) (w1 : List (Int × Int × Int × Int × Int)) (w2 : List ((List Int))) (w3 : List (Int × Int × Int × Int)) (w4 : Int) (w5 : Int) (w6 : Int) (w7 : Int) (w8 : Int) (w9 : Int) (w10 : Int) (w11 : Int) (w12 : Int) (w13 : Int) (w14 : Int) : Option (Int × (List (Int × Int × Int × Int × Int)) × (List ((List Int))) × (List (Int × Int × Int × Int)) × Int × Int × Int × Int × Int × Int × Int × Int × Int × Int × Int) :=
  chk (in64 (w14 + w4)) <| (ev_round_walker_late n w1 w2 w3 w4 w5 w6 w7 w8 w9 w10 w11 w12 0 (w14 + w4)).bind fun r15 => some (r15, w1, w2, w3, w4, w5, w6, w7, w8, w9, w10, w11, w12, 0, (w14 + w4))
set_option maxRecDepth 100000 in
set_option maxHeartbeats 2000000 in
theorem ft_p_round_walker_rest {n : Nat} {w1 : List (Int × Int × Int × Int × Int)} {w2 : List ((List Int))} {w3 : List (Int × Int × Int × Int)} {w4 : Int} {w5 : Int} {w6 : Int} {w7 : Int} {w8 : Int} {w9 : Int} {w10 : Int} {w11 : Int} {w12 : Int} {w13 : Int} {w14 : Int} {r : Int × (List (Int × Int × Int × Int × Int)) × (List ((List Int))) × (List (Int × Int × Int × Int)) × Int × Int × Int × Int × Int × Int × Int × Int × Int × Int × Int} (h : ev_p_round_walker_rest n w1 w2 w3 w4 w5 w6 w7 w8 w9 w10 w11 w12 w13 w14 = some r) : FT Try.prog 164 [.ptr 0 0] [.blk 0 [.ref 1, .ref 2, .ref 3, .val (.int .i64 w4), .val (.int .i64 w5), .val (.int .u16 w6), .val (.int .i64 w7), .val (.int .i64 w8), .val (.int .i64 w9), .val (.int .i64 w10), .val (.int .i64 w11), .val (.int .i64 w12), .val (.int .i64 w13), .val (.int .i64 w14)] 215] [.ro 1 5 (List.map en_api_RoundTower w1), .ro 2 1 (List.map en_Lint w2), .ro 3 4 (List.map en_api_RoundWinder w3)] (.val (.int .i64 r.1)) [.ro 500 5 (List.map en_api_RoundTower r.2.1), .ro 501 1 (List.map en_Lint r.2.2.1), .ro 502 4 (List.map en_api_RoundWinder r.2.2.2.1), .blk 0 [.ref 500, .ref 501, .ref 502, .val (.int .i64 r.2.2.2.2.1), .val (.int .i64 r.2.2.2.2.2.1), .val (.int .u16 r.2.2.2.2.2.2.1), .val (.int .i64 r.2.2.2.2.2.2.2.1), .val (.int .i64 r.2.2.2.2.2.2.2.2.1), .val (.int .i64 r.2.2.2.2.2.2.2.2.2.1), .val (.int .i64 r.2.2.2.2.2.2.2.2.2.2.1), .val (.int .i64 r.2.2.2.2.2.2.2.2.2.2.2.1), .val (.int .i64 r.2.2.2.2.2.2.2.2.2.2.2.2.1), .val (.int .i64 r.2.2.2.2.2.2.2.2.2.2.2.2.2.1), .val (.int .i64 r.2.2.2.2.2.2.2.2.2.2.2.2.2.2)] 215] := by
  refine introM (nz := 23) 4 [(5, 0)] Try.func164 rfl rfl rfl rfl (fun w0 M0 R0 env0 => ?_)
  rw [ev_p_round_walker_rest] at h
  refine TC.seq ?_
  refine TC.region ?_
  refine op0 (sp_assign rfl rfl) rfl trivial rfl rfl ?_
  refine TL.nil ?_
  refine TC.seq ?_
  obtain ⟨h1, h⟩ := chk_inv h
  refine drawJ 15 [⟨.ptr 0 0, [], [], []⟩, ⟨.ptr 0 0, [], [], []⟩, ⟨.ptr 0 0, [], [], []⟩, ⟨.ptr 0 0, [], [.blk 0 [.ref 1, .ref 2, .ref 3, .val (.int .i64 w4), .val (.int .i64 w5), .val (.int .u16 w6), .val (.int .i64 w7), .val (.int .i64 w8), .val (.int .i64 w9), .val (.int .i64 w10), .val (.int .i64 w11), .val (.int .i64 w12), .val (.int .i64 w13), .val (.int .i64 w14)] 215], []⟩, ⟨.ptr 0 13, [], [.blk 0 [.ref 1, .ref 2, .ref 3, .val (.int .i64 w4), .val (.int .i64 w5), .val (.int .u16 w6), .val (.int .i64 w7), .val (.int .i64 w8), .val (.int .i64 w9), .val (.int .i64 w10), .val (.int .i64 w11), .val (.int .i64 w12), .val (.int .i64 w13), .val (.int .i64 w14)] 215], []⟩, ⟨.val (.int .i64 w14), [], [.blk 0 [.ref 1, .ref 2, .ref 3, .val (.int .i64 w4), .val (.int .i64 w5), .val (.int .u16 w6), .val (.int .i64 w7), .val (.int .i64 w8), .val (.int .i64 w9), .val (.int .i64 w10), .val (.int .i64 w11), .val (.int .i64 w12), .val (.int .i64 w13), .val (.int .i64 w14)] 215], []⟩, ⟨.ptr 0 0, [], [], []⟩, ⟨.ptr 0 0, [], [.blk 0 [.ref 1, .ref 2, .ref 3, .val (.int .i64 w4), .val (.int .i64 w5), .val (.int .u16 w6), .val (.int .i64 w7), .val (.int .i64 w8), .val (.int .i64 w9), .val (.int .i64 w10), .val (.int .i64 w11), .val (.int .i64 w12), .val (.int .i64 w13), .val (.int .i64 w14)] 215], []⟩, ⟨.ptr 0 0, [], [.blk 0 [.ref 1, .ref 2, .ref 3, .val (.int .i64 w4), .val (.int .i64 w5), .val (.int .u16 w6), .val (.int .i64 w7), .val (.int .i64 w8), .val (.int .i64 w9), .val (.int .i64 w10), .val (.int .i64 w11), .val (.int .i64 w12), .val (.int .i64 w13), .val (.int .i64 w14)] 215], []⟩, ⟨.ptr 0 3, [], [.blk 0 [.ref 1, .ref 2, .ref 3, .val (.int .i64 w4), .val (.int .i64 w5), .val (.int .u16 w6), .val (.int .i64 w7), .val (.int .i64 w8), .val (.int .i64 w9), .val (.int .i64 w10), .val (.int .i64 w11), .val (.int .i64 w12), .val (.int .i64 w13), .val (.int .i64 w14)] 215], []⟩, ⟨.val (.int .i64 w4), [], [.blk 0 [.ref 1, .ref 2, .ref 3, .val (.int .i64 w4), .val (.int .i64 w5), .val (.int .u16 w6), .val (.int .i64 w7), .val (.int .i64 w8), .val (.int .i64 w9), .val (.int .i64 w10), .val (.int .i64 w11), .val (.int .i64 w12), .val (.int .i64 w13), .val (.int .i64 w14)] 215], []⟩, ⟨.val (.int .i64 (w14 + w4)), [], [], []⟩, ⟨.ptr 0 0, [], [.blk 0 [.ref 1, .ref 2, .ref 3, .val (.int .i64 w4), .val (.int .i64 w5), .val (.int .u16 w6), .val (.int .i64 w7), .val (.int .i64 w8), .val (.int .i64 w9), .val (.int .i64 w10), .val (.int .i64 w11), .val (.int .i64 w12), .val (.int .i64 w13), .val (.int .i64 w14)] 215], []⟩, ⟨.ptr 0 12, [], [.blk 0 [.ref 1, .ref 2, .ref 3, .val (.int .i64 w4), .val (.int .i64 w5), .val (.int .u16 w6), .val (.int .i64 w7), .val (.int .i64 w8), .val (.int .i64 w9), .val (.int .i64 w10), .val (.int .i64 w11), .val (.int .i64 w12), .val (.int .i64 w13), .val (.int .i64 w14)] 215], []⟩, ⟨.val (undef), [.blk 0 [.ref 1, .ref 2, .ref 3, .val (.int .i64 w4), .val (.int .i64 w5), .val (.int .u16 w6), .val (.int .i64 w7), .val (.int .i64 w8), .val (.int .i64 w9), .val (.int .i64 w10), .val (.int .i64 w11), .val (.int .i64 w12), .val (.int .i64 0), .val (.int .i64 w14)] 215], [], [.blk 0 [.ref 1, .ref 2, .ref 3, .val (.int .i64 w4), .val (.int .i64 w5), .val (.int .u16 w6), .val (.int .i64 w7), .val (.int .i64 w8), .val (.int .i64 w9), .val (.int .i64 w10), .val (.int .i64 w11), .val (.int .i64 w12), .val (.int .i64 w13), .val (.int .i64 w14)] 215]⟩] rfl ?_ rfl ?_ rfl ?_ ?_
  · kernel_rfl
  · kernel_rfl
  · exact DAll.op' (sp_move rfl rfl) trivial rfl (From.ok (ps := []) trivial) (DAll.op' (sp_move rfl rfl) trivial rfl (From.ok (ps := []) trivial) (DAll.op' (sp_move rfl rfl) trivial rfl (From.ok (ps := []) trivial) (DAll.op' (sp_nilCheck rfl isBlk rfl) trivial rfl (From.ok (ps := [(none, 2)]) ⟨⟨rfl, by kernel_rfl⟩, trivial⟩) (DAll.op' (sp_fieldAddrB rfl isBlk rfl ft215_6 vt3 (by decide)) trivial rfl (From.ok (ps := [(none, 2)]) ⟨⟨rfl, by kernel_rfl⟩, trivial⟩) (DAll.op' (sp_loadB rfl isBlk rfl vt3 rfl) trivial rfl (From.ok (ps := [(none, 2)]) ⟨⟨rfl, by kernel_rfl⟩, trivial⟩) (DAll.op' (sp_move rfl rfl) trivial rfl (From.ok (ps := []) trivial) (DAll.op' (sp_nilCheck rfl isBlk rfl) trivial rfl (From.ok (ps := [(none, 2)]) ⟨⟨rfl, by kernel_rfl⟩, trivial⟩) (DAll.op' (sp_fieldAddrB rfl isBlk rfl ft215_0 vt74 (by decide)) trivial rfl (From.ok (ps := [(none, 2)]) ⟨⟨rfl, by kernel_rfl⟩, trivial⟩) (DAll.op' (sp_fieldAddrB rfl isBlk rfl ft74_3 vt3 (by decide)) trivial rfl (From.ok (ps := [(none, 2)]) ⟨⟨rfl, by kernel_rfl⟩, trivial⟩) (DAll.op' (sp_loadB rfl isBlk rfl vt3 rfl) trivial rfl (From.ok (ps := [(none, 2)]) ⟨⟨rfl, by kernel_rfl⟩, trivial⟩) (DAll.op' (sp_add rfl rfl rfl h1) trivial rfl (From.ok (ps := []) trivial) (DAll.op' (sp_nilCheck rfl isBlk rfl) trivial rfl (From.ok (ps := [(none, 2)]) ⟨⟨rfl, by kernel_rfl⟩, trivial⟩) (DAll.op' (sp_fieldAddrB rfl isBlk rfl ft215_5 vt3 (by decide)) trivial rfl (From.ok (ps := [(none, 2)]) ⟨⟨rfl, by kernel_rfl⟩, trivial⟩) (DAll.opT (ts_storeB (off := 12) (cells' := [.ref 1, .ref 2, .ref 3, .val (.int .i64 w4), .val (.int .i64 w5), .val (.int .u16 w6), .val (.int .i64 w7), .val (.int .i64 w8), .val (.int .i64 w9), .val (.int .i64 w10), .val (.int .i64 w11), .val (.int .i64 w12), .val (.int .i64 0), .val (.int .i64 w14)]) rfl rfl rfl rfl vt3 rfl rfl rfl) trivial (From.ok (ps := [(none, 2)]) ⟨⟨rfl, by kernel_rfl⟩, trivial⟩) (From.ok (ps := []) trivial) (.nil)))))))))))))))
  refine op1 0 rfl (sp_nilCheck rfl isBlk rfl) rfl trivial rfl rfl ?_
  refine op1 0 rfl (sp_fieldAddrB rfl isBlk rfl ft215_6 vt3 (by decide)) rfl trivial rfl rfl ?_
  refine stoB 0 (cells' := [.ref 1, .ref 2, .ref 3, .val (.int .i64 w4), .val (.int .i64 w5), .val (.int .u16 w6), .val (.int .i64 w7), .val (.int .i64 w8), .val (.int .i64 w9), .val (.int .i64 w10), .val (.int .i64 w11), .val (.int .i64 w12), .val (.int .i64 0), .val (.int .i64 (w14 + w4))]) rfl rfl trivial rfl rfl rfl rfl vt3 rfl rfl rfl ?_
  refine TL.nil ?_
  refine TC.seq ?_
  refine TC.region ?_
  refine op0 (sp_move rfl rfl) rfl trivial rfl rfl ?_
  refine op1 0 rfl (sp_nilCheck rfl isBlk rfl) rfl trivial rfl rfl ?_
  refine op1 0 rfl (sp_loadBA rfl isBlk rfl vt215 rfl rfl) rfl trivial rfl rfl ?_
  obtain ⟨r15, h2, h⟩ := bind_inv h
  refine opN (need := [.ro 1 5 (List.map en_api_RoundTower w1), .ro 2 1 (List.map en_Lint w2), .ro 3 4 (List.map en_api_RoundWinder w3)]) [3, 4, 5] ⟨rfl, rfl, rfl, trivial⟩ (sp_call (avs := [.agg [.ref 1, .ref 2, .ref 3, .val (.int .i64 w4), .val (.int .i64 w5), .val (.int .u16 w6), .val (.int .i64 w7), .val (.int .i64 w8), .val (.int .i64 w9), .val (.int .i64 w10), .val (.int .i64 w11), .val (.int .i64 w12), .val (.int .i64 0), .val (.int .i64 (w14 + w4))]]) (need := [.ro 1 5 (List.map en_api_RoundTower w1), .ro 2 1 (List.map en_Lint w2), .ro 3 4 (List.map en_api_RoundWinder w3)]) (v := .val (.int .i64 r15)) (news := []) rfl rfl rfl Try.call243 (atJ [(0, 1), (1, 2), (2, 3)] [] (fc_round_walker_late h2) rfl rfl) (.inl (roAll rfl))) rfl trivial rfl rfl ?_
  refine op0 (sp_assign rfl rfl) rfl trivial rfl rfl ?_
  refine TL.nil ?_
  cases h
  exact retM [(500, 1), (501, 2), (502, 3)] 1 4 [0] rfl (.tmp rfl .nil) rfl ⟨mem_at 2 rfl, mem_at 3 rfl, mem_at 4 rfl, mem_at 0 rfl, trivial⟩ rfl rfl ⟨⟨_, mem_at 1 rfl⟩, trivial⟩ rfl
/- round_set_has -/
def ev_round_set_has (n : Nat) (s1 : Int) (tower2 : Int) : Option Bool :=
  chk (decide (0 ≤ tower2)) <| some ((bitK .i64 .and (s1 / (shK .i64 tower2 : Int)) 1) == 1)
set_option maxRecDepth 100000 in
set_option maxHeartbeats 2000000 in
theorem fc_round_set_has {n : Nat} {s1 : Int} {tower2 : Int} {r : Bool} (h : ev_round_set_has n s1 tower2 = some r) : FC Try.prog 160 [.val (.int .i64 s1), .val (.int .i64 tower2)] [] (.val (.bool r)) [] := by
  refine introJ (nz := 10) Try.func160 rfl rfl rfl (fun w0 R0 env0 => ?_)
  rw [ev_round_set_has] at h
  refine TC.seq ?_
  refine TC.region ?_
  refine op0 (sp_assign rfl rfl) rfl trivial rfl rfl ?_
  refine TL.nil ?_
  refine TC.seq ?_
  refine TC.region ?_
  refine op0 (sp_move rfl rfl) rfl trivial rfl rfl ?_
  refine op0 (sp_move rfl rfl) rfl trivial rfl rfl ?_
  obtain ⟨h1, h⟩ := chk_inv h
  refine op0 (sp_shr rfl rfl rfl h1) rfl trivial rfl rfl ?_
  refine op0 (sp_bit .and rfl rfl rfl rfl) rfl trivial rfl rfl ?_
  refine op0 (sp_eql rfl rfl rfl) rfl trivial rfl rfl ?_
  refine op0 (sp_assign rfl rfl) rfl trivial rfl rfl ?_
  refine TL.nil ?_
  cases h
  exact retJ [] (.tmp rfl .nil) rfl trivial rfl rfl
/- round_set_with -/
def ev_round_set_with (n : Nat) (s1 : Int) (tower2 : Int) : Option Int :=
  chk (decide (0 ≤ tower2)) <| chk (in64 ((1 : Int) * (shK .i64 tower2 : Int))) <| some (bitK .i64 .or s1 ((1 : Int) * (shK .i64 tower2 : Int)))
set_option maxRecDepth 100000 in
set_option maxHeartbeats 2000000 in
theorem fc_round_set_with {n : Nat} {s1 : Int} {tower2 : Int} {r : Int} (h : ev_round_set_with n s1 tower2 = some r) : FC Try.prog 161 [.val (.int .i64 s1), .val (.int .i64 tower2)] [] (.val (.int .i64 r)) [] := by
  refine introJ (nz := 9) Try.func161 rfl rfl rfl (fun w0 R0 env0 => ?_)
  rw [ev_round_set_with] at h
  refine TC.seq ?_
  refine TC.region ?_
  refine op0 (sp_assign rfl rfl) rfl trivial rfl rfl ?_
  refine TL.nil ?_
  refine TC.seq ?_
  refine TC.region ?_
  refine op0 (sp_move rfl rfl) rfl trivial rfl rfl ?_
  refine op0 (sp_move rfl rfl) rfl trivial rfl rfl ?_
  obtain ⟨h1, h⟩ := chk_inv h
  obtain ⟨h2, h⟩ := chk_inv h
  refine op0 (sp_shl rfl rfl rfl h1 h2) rfl trivial rfl rfl ?_
  refine op0 (sp_bit .or rfl rfl rfl rfl) rfl trivial rfl rfl ?_
  refine op0 (sp_assign rfl rfl) rfl trivial rfl rfl ?_
  refine TL.nil ?_
  cases h
  exact retJ [] (.tmp rfl .nil) rfl trivial rfl rfl
/- p_round_walker_work -/
def ev_p_round_walker_work (n : Nat) (w1 : List (Int × Int × Int × Int × Int)) (w2 : List ((List Int))) (w3 : List (Int × Int × Int × Int)) (w4 : Int) (w5 : Int) (w6 : Int) (w7 : Int) (w8 : Int) (w9 : Int) (w10 : Int) (w11 : Int) (w12 : Int) (w13 : Int) (w14 : Int) (minutes15 : Int) : Option (Int × (List (Int × Int × Int × Int × Int)) × (List ((List Int))) × (List (Int × Int × Int × Int)) × Int × Int × Int × Int × Int × Int × Int × Int × Int × Int × Int) :=
  chk (in64 (w13 + minutes15)) <| chk (in64 (w14 + minutes15)) <| cond (decide (w9 < (w13 + minutes15))) (some (111, w1, w2, w3, w4, w5, w6, w7, w8, w9, w10, w11, w12, (w13 + minutes15), (w14 + minutes15))) ((ev_round_walker_late n w1 w2 w3 w4 w5 w6 w7 w8 w9 w10 w11 w12 (w13 + minutes15) (w14 + minutes15)).bind fun r16 => some (r16, w1, w2, w3, w4, w5, w6, w7, w8, w9, w10, w11, w12, (w13 + minutes15), (w14 + minutes15)))
set_option maxRecDepth 100000 in
set_option maxHeartbeats 2000000 in
theorem ft_p_round_walker_work {n : Nat} {w1 : List (Int × Int × Int × Int × Int)} {w2 : List ((List Int))} {w3 : List (Int × Int × Int × Int)} {w4 : Int} {w5 : Int} {w6 : Int} {w7 : Int} {w8 : Int} {w9 : Int} {w10 : Int} {w11 : Int} {w12 : Int} {w13 : Int} {w14 : Int} {minutes15 : Int} {r : Int × (List (Int × Int × Int × Int × Int)) × (List ((List Int))) × (List (Int × Int × Int × Int)) × Int × Int × Int × Int × Int × Int × Int × Int × Int × Int × Int} (h : ev_p_round_walker_work n w1 w2 w3 w4 w5 w6 w7 w8 w9 w10 w11 w12 w13 w14 minutes15 = some r) : FT Try.prog 166 [.ptr 0 0, .val (.int .i64 minutes15)] [.blk 0 [.ref 1, .ref 2, .ref 3, .val (.int .i64 w4), .val (.int .i64 w5), .val (.int .u16 w6), .val (.int .i64 w7), .val (.int .i64 w8), .val (.int .i64 w9), .val (.int .i64 w10), .val (.int .i64 w11), .val (.int .i64 w12), .val (.int .i64 w13), .val (.int .i64 w14)] 215] [.ro 1 5 (List.map en_api_RoundTower w1), .ro 2 1 (List.map en_Lint w2), .ro 3 4 (List.map en_api_RoundWinder w3)] (.val (.int .i64 r.1)) [.ro 500 5 (List.map en_api_RoundTower r.2.1), .ro 501 1 (List.map en_Lint r.2.2.1), .ro 502 4 (List.map en_api_RoundWinder r.2.2.2.1), .blk 0 [.ref 500, .ref 501, .ref 502, .val (.int .i64 r.2.2.2.2.1), .val (.int .i64 r.2.2.2.2.2.1), .val (.int .u16 r.2.2.2.2.2.2.1), .val (.int .i64 r.2.2.2.2.2.2.2.1), .val (.int .i64 r.2.2.2.2.2.2.2.2.1), .val (.int .i64 r.2.2.2.2.2.2.2.2.2.1), .val (.int .i64 r.2.2.2.2.2.2.2.2.2.2.1), .val (.int .i64 r.2.2.2.2.2.2.2.2.2.2.2.1), .val (.int .i64 r.2.2.2.2.2.2.2.2.2.2.2.2.1), .val (.int .i64 r.2.2.2.2.2.2.2.2.2.2.2.2.2.1), .val (.int .i64 r.2.2.2.2.2.2.2.2.2.2.2.2.2.2)] 215] := by
  refine introM (nz := 37) 4 [(5, 0)] Try.func166 rfl rfl rfl rfl (fun w0 M0 R0 env0 => ?_)
  rw [ev_p_round_walker_work] at h
  refine TC.seq ?_
  refine TC.region ?_
  refine op0 (sp_assign rfl rfl) rfl trivial rfl rfl ?_
  refine TL.nil ?_
  refine TC.seq ?_
  obtain ⟨h1, h⟩ := chk_inv h
  obtain ⟨h2, h⟩ := chk_inv h
  refine drawJ 17 [⟨.ptr 0 0, [], [], []⟩, ⟨.ptr 0 0, [], [], []⟩, ⟨.ptr 0 0, [], [], []⟩, ⟨.ptr 0 0, [], [.blk 0 [.ref 1, .ref 2, .ref 3, .val (.int .i64 w4), .val (.int .i64 w5), .val (.int .u16 w6), .val (.int .i64 w7), .val (.int .i64 w8), .val (.int .i64 w9), .val (.int .i64 w10), .val (.int .i64 w11), .val (.int .i64 w12), .val (.int .i64 w13), .val (.int .i64 w14)] 215], []⟩, ⟨.ptr 0 12, [], [.blk 0 [.ref 1, .ref 2, .ref 3, .val (.int .i64 w4), .val (.int .i64 w5), .val (.int .u16 w6), .val (.int .i64 w7), .val (.int .i64 w8), .val (.int .i64 w9), .val (.int .i64 w10), .val (.int .i64 w11), .val (.int .i64 w12), .val (.int .i64 w13), .val (.int .i64 w14)] 215], []⟩, ⟨.val (.int .i64 w13), [], [.blk 0 [.ref 1, .ref 2, .ref 3, .val (.int .i64 w4), .val (.int .i64 w5), .val (.int .u16 w6), .val (.int .i64 w7), .val (.int .i64 w8), .val (.int .i64 w9), .val (.int .i64 w10), .val (.int .i64 w11), .val (.int .i64 w12), .val (.int .i64 w13), .val (.int .i64 w14)] 215], []⟩, ⟨.val (.int .i64 minutes15), [], [], []⟩, ⟨.val (.int .i64 (w13 + minutes15)), [], [], []⟩, ⟨.ptr 0 0, [], [], []⟩, ⟨.ptr 0 0, [], [.blk 0 [.ref 1, .ref 2, .ref 3, .val (.int .i64 w4), .val (.int .i64 w5), .val (.int .u16 w6), .val (.int .i64 w7), .val (.int .i64 w8), .val (.int .i64 w9), .val (.int .i64 w10), .val (.int .i64 w11), .val (.int .i64 w12), .val (.int .i64 w13), .val (.int .i64 w14)] 215], []⟩, ⟨.ptr 0 13, [], [.blk 0 [.ref 1, .ref 2, .ref 3, .val (.int .i64 w4), .val (.int .i64 w5), .val (.int .u16 w6), .val (.int .i64 w7), .val (.int .i64 w8), .val (.int .i64 w9), .val (.int .i64 w10), .val (.int .i64 w11), .val (.int .i64 w12), .val (.int .i64 w13), .val (.int .i64 w14)] 215], []⟩, ⟨.val (.int .i64 w14), [], [.blk 0 [.ref 1, .ref 2, .ref 3, .val (.int .i64 w4), .val (.int .i64 w5), .val (.int .u16 w6), .val (.int .i64 w7), .val (.int .i64 w8), .val (.int .i64 w9), .val (.int .i64 w10), .val (.int .i64 w11), .val (.int .i64 w12), .val (.int .i64 w13), .val (.int .i64 w14)] 215], []⟩, ⟨.val (.int .i64 minutes15), [], [], []⟩, ⟨.val (.int .i64 (w14 + minutes15)), [], [], []⟩, ⟨.ptr 0 0, [], [.blk 0 [.ref 1, .ref 2, .ref 3, .val (.int .i64 w4), .val (.int .i64 w5), .val (.int .u16 w6), .val (.int .i64 w7), .val (.int .i64 w8), .val (.int .i64 w9), .val (.int .i64 w10), .val (.int .i64 w11), .val (.int .i64 w12), .val (.int .i64 w13), .val (.int .i64 w14)] 215], []⟩, ⟨.ptr 0 12, [], [.blk 0 [.ref 1, .ref 2, .ref 3, .val (.int .i64 w4), .val (.int .i64 w5), .val (.int .u16 w6), .val (.int .i64 w7), .val (.int .i64 w8), .val (.int .i64 w9), .val (.int .i64 w10), .val (.int .i64 w11), .val (.int .i64 w12), .val (.int .i64 w13), .val (.int .i64 w14)] 215], []⟩, ⟨.val (undef), [.blk 0 [.ref 1, .ref 2, .ref 3, .val (.int .i64 w4), .val (.int .i64 w5), .val (.int .u16 w6), .val (.int .i64 w7), .val (.int .i64 w8), .val (.int .i64 w9), .val (.int .i64 w10), .val (.int .i64 w11), .val (.int .i64 w12), .val (.int .i64 (w13 + minutes15)), .val (.int .i64 w14)] 215], [], [.blk 0 [.ref 1, .ref 2, .ref 3, .val (.int .i64 w4), .val (.int .i64 w5), .val (.int .u16 w6), .val (.int .i64 w7), .val (.int .i64 w8), .val (.int .i64 w9), .val (.int .i64 w10), .val (.int .i64 w11), .val (.int .i64 w12), .val (.int .i64 w13), .val (.int .i64 w14)] 215]⟩] rfl ?_ rfl ?_ rfl ?_ ?_
  · kernel_rfl
  · kernel_rfl
  · exact DAll.op' (sp_move rfl rfl) trivial rfl (From.ok (ps := []) trivial) (DAll.op' (sp_move rfl rfl) trivial rfl (From.ok (ps := []) trivial) (DAll.op' (sp_move rfl rfl) trivial rfl (From.ok (ps := []) trivial) (DAll.op' (sp_nilCheck rfl isBlk rfl) trivial rfl (From.ok (ps := [(none, 2)]) ⟨⟨rfl, by kernel_rfl⟩, trivial⟩) (DAll.op' (sp_fieldAddrB rfl isBlk rfl ft215_5 vt3 (by decide)) trivial rfl (From.ok (ps := [(none, 2)]) ⟨⟨rfl, by kernel_rfl⟩, trivial⟩) (DAll.op' (sp_loadB rfl isBlk rfl vt3 rfl) trivial rfl (From.ok (ps := [(none, 2)]) ⟨⟨rfl, by kernel_rfl⟩, trivial⟩) (DAll.op' (sp_move rfl rfl) trivial rfl (From.ok (ps := []) trivial) (DAll.op' (sp_add rfl rfl rfl h1) trivial rfl (From.ok (ps := []) trivial) (DAll.op' (sp_move rfl rfl) trivial rfl (From.ok (ps := []) trivial) (DAll.op' (sp_nilCheck rfl isBlk rfl) trivial rfl (From.ok (ps := [(none, 2)]) ⟨⟨rfl, by kernel_rfl⟩, trivial⟩) (DAll.op' (sp_fieldAddrB rfl isBlk rfl ft215_6 vt3 (by decide)) trivial rfl (From.ok (ps := [(none, 2)]) ⟨⟨rfl, by kernel_rfl⟩, trivial⟩) (DAll.op' (sp_loadB rfl isBlk rfl vt3 rfl) trivial rfl (From.ok (ps := [(none, 2)]) ⟨⟨rfl, by kernel_rfl⟩, trivial⟩) (DAll.op' (sp_move rfl rfl) trivial rfl (From.ok (ps := []) trivial) (DAll.op' (sp_add rfl rfl rfl h2) trivial rfl (From.ok (ps := []) trivial) (DAll.op' (sp_nilCheck rfl isBlk rfl) trivial rfl (From.ok (ps := [(none, 2)]) ⟨⟨rfl, by kernel_rfl⟩, trivial⟩) (DAll.op' (sp_fieldAddrB rfl isBlk rfl ft215_5 vt3 (by decide)) trivial rfl (From.ok (ps := [(none, 2)]) ⟨⟨rfl, by kernel_rfl⟩, trivial⟩) (DAll.opT (ts_storeB (off := 12) (cells' := [.ref 1, .ref 2, .ref 3, .val (.int .i64 w4), .val (.int .i64 w5), .val (.int .u16 w6), .val (.int .i64 w7), .val (.int .i64 w8), .val (.int .i64 w9), .val (.int .i64 w10), .val (.int .i64 w11), .val (.int .i64 w12), .val (.int .i64 (w13 + minutes15)), .val (.int .i64 w14)]) rfl rfl rfl rfl vt3 rfl rfl rfl) trivial (From.ok (ps := [(none, 2)]) ⟨⟨rfl, by kernel_rfl⟩, trivial⟩) (From.ok (ps := []) trivial) (.nil)))))))))))))))))
  refine op1 0 rfl (sp_nilCheck rfl isBlk rfl) rfl trivial rfl rfl ?_
  refine op1 0 rfl (sp_fieldAddrB rfl isBlk rfl ft215_6 vt3 (by decide)) rfl trivial rfl rfl ?_
  refine stoB 0 (cells' := [.ref 1, .ref 2, .ref 3, .val (.int .i64 w4), .val (.int .i64 w5), .val (.int .u16 w6), .val (.int .i64 w7), .val (.int .i64 w8), .val (.int .i64 w9), .val (.int .i64 w10), .val (.int .i64 w11), .val (.int .i64 w12), .val (.int .i64 (w13 + minutes15)), .val (.int .i64 (w14 + minutes15))]) rfl rfl trivial rfl rfl rfl rfl vt3 rfl rfl rfl ?_
  refine TL.nil ?_
  refine TC.seq ?_
  refine TC.seq ?_
  refine drawJ 9 [⟨.ptr 0 0, [], [], []⟩, ⟨.ptr 0 0, [], [.blk 0 [.ref 1, .ref 2, .ref 3, .val (.int .i64 w4), .val (.int .i64 w5), .val (.int .u16 w6), .val (.int .i64 w7), .val (.int .i64 w8), .val (.int .i64 w9), .val (.int .i64 w10), .val (.int .i64 w11), .val (.int .i64 w12), .val (.int .i64 (w13 + minutes15)), .val (.int .i64 (w14 + minutes15))] 215], []⟩, ⟨.ptr 0 12, [], [.blk 0 [.ref 1, .ref 2, .ref 3, .val (.int .i64 w4), .val (.int .i64 w5), .val (.int .u16 w6), .val (.int .i64 w7), .val (.int .i64 w8), .val (.int .i64 w9), .val (.int .i64 w10), .val (.int .i64 w11), .val (.int .i64 w12), .val (.int .i64 (w13 + minutes15)), .val (.int .i64 (w14 + minutes15))] 215], []⟩, ⟨.val (.int .i64 (w13 + minutes15)), [], [.blk 0 [.ref 1, .ref 2, .ref 3, .val (.int .i64 w4), .val (.int .i64 w5), .val (.int .u16 w6), .val (.int .i64 w7), .val (.int .i64 w8), .val (.int .i64 w9), .val (.int .i64 w10), .val (.int .i64 w11), .val (.int .i64 w12), .val (.int .i64 (w13 + minutes15)), .val (.int .i64 (w14 + minutes15))] 215], []⟩, ⟨.ptr 0 0, [], [], []⟩, ⟨.ptr 0 0, [], [.blk 0 [.ref 1, .ref 2, .ref 3, .val (.int .i64 w4), .val (.int .i64 w5), .val (.int .u16 w6), .val (.int .i64 w7), .val (.int .i64 w8), .val (.int .i64 w9), .val (.int .i64 w10), .val (.int .i64 w11), .val (.int .i64 w12), .val (.int .i64 (w13 + minutes15)), .val (.int .i64 (w14 + minutes15))] 215], []⟩, ⟨.ptr 0 5, [], [.blk 0 [.ref 1, .ref 2, .ref 3, .val (.int .i64 w4), .val (.int .i64 w5), .val (.int .u16 w6), .val (.int .i64 w7), .val (.int .i64 w8), .val (.int .i64 w9), .val (.int .i64 w10), .val (.int .i64 w11), .val (.int .i64 w12), .val (.int .i64 (w13 + minutes15)), .val (.int .i64 (w14 + minutes15))] 215], []⟩, ⟨.ptr 0 8, [], [.blk 0 [.ref 1, .ref 2, .ref 3, .val (.int .i64 w4), .val (.int .i64 w5), .val (.int .u16 w6), .val (.int .i64 w7), .val (.int .i64 w8), .val (.int .i64 w9), .val (.int .i64 w10), .val (.int .i64 w11), .val (.int .i64 w12), .val (.int .i64 (w13 + minutes15)), .val (.int .i64 (w14 + minutes15))] 215], []⟩, ⟨.val (.int .i64 w9), [], [.blk 0 [.ref 1, .ref 2, .ref 3, .val (.int .i64 w4), .val (.int .i64 w5), .val (.int .u16 w6), .val (.int .i64 w7), .val (.int .i64 w8), .val (.int .i64 w9), .val (.int .i64 w10), .val (.int .i64 w11), .val (.int .i64 w12), .val (.int .i64 (w13 + minutes15)), .val (.int .i64 (w14 + minutes15))] 215], []⟩] rfl ?_ rfl ?_ rfl ?_ ?_
  · kernel_rfl
  · kernel_rfl
  · exact DAll.op' (sp_move rfl rfl) trivial rfl (From.ok (ps := []) trivial) (DAll.op' (sp_nilCheck rfl isBlk rfl) trivial rfl (From.ok (ps := [(none, 0)]) ⟨⟨rfl, rfl⟩, trivial⟩) (DAll.op' (sp_fieldAddrB rfl isBlk rfl ft215_5 vt3 (by decide)) trivial rfl (From.ok (ps := [(none, 0)]) ⟨⟨rfl, rfl⟩, trivial⟩) (DAll.op' (sp_loadB rfl isBlk rfl vt3 rfl) trivial rfl (From.ok (ps := [(none, 0)]) ⟨⟨rfl, rfl⟩, trivial⟩) (DAll.op' (sp_move rfl rfl) trivial rfl (From.ok (ps := []) trivial) (DAll.op' (sp_nilCheck rfl isBlk rfl) trivial rfl (From.ok (ps := [(none, 0)]) ⟨⟨rfl, rfl⟩, trivial⟩) (DAll.op' (sp_fieldAddrB rfl isBlk rfl ft215_1 vt213 (by decide)) trivial rfl (From.ok (ps := [(none, 0)]) ⟨⟨rfl, rfl⟩, trivial⟩) (DAll.op' (sp_fieldAddrB rfl isBlk rfl ft213_3 vt3 (by decide)) trivial rfl (From.ok (ps := [(none, 0)]) ⟨⟨rfl, rfl⟩, trivial⟩) (DAll.op' (sp_loadB rfl isBlk rfl vt3 rfl) trivial rfl (From.ok (ps := [(none, 0)]) ⟨⟨rfl, rfl⟩, trivial⟩) (.nil)))))))))
  refine op0 (sp_gtr rfl rfl rfl) rfl trivial rfl rfl ?_
  refine TL.nil ?_
  refine TC.cond (b := (decide (w9 < (w13 + minutes15)))) rfl (fun h3 => ?_) (fun h3 => ?_)
  · have h := cond_t h h3
    refine TC.seq ?_
    refine TC.region ?_
    refine op0 (sp_assign rfl rfl) rfl trivial rfl rfl ?_
    refine TL.nil ?_
    cases h
    exact retM [(500, 1), (501, 2), (502, 3)] 1 4 [0] rfl (.tmp rfl .nil) rfl ⟨mem_at 2 rfl, mem_at 3 rfl, mem_at 4 rfl, mem_at 0 rfl, trivial⟩ rfl rfl ⟨⟨_, mem_at 1 rfl⟩, trivial⟩ rfl
  · have h := cond_f h h3
    refine TC.skip ?_
    refine TC.seq ?_
    refine TC.region ?_
    refine op0 (sp_move rfl rfl) rfl trivial rfl rfl ?_
    refine op1 0 rfl (sp_nilCheck rfl isBlk rfl) rfl trivial rfl rfl ?_
    refine op1 0 rfl (sp_loadBA rfl isBlk rfl vt215 rfl rfl) rfl trivial rfl rfl ?_
    obtain ⟨r16, h4, h⟩ := bind_inv h
    refine opN (need := [.ro 1 5 (List.map en_api_RoundTower w1), .ro 2 1 (List.map en_Lint w2), .ro 3 4 (List.map en_api_RoundWinder w3)]) [3, 4, 5] ⟨rfl, rfl, rfl, trivial⟩ (sp_call (avs := [.agg [.ref 1, .ref 2, .ref 3, .val (.int .i64 w4), .val (.int .i64 w5), .val (.int .u16 w6), .val (.int .i64 w7), .val (.int .i64 w8), .val (.int .i64 w9), .val (.int .i64 w10), .val (.int .i64 w11), .val (.int .i64 w12), .val (.int .i64 (w13 + minutes15)), .val (.int .i64 (w14 + minutes15))]]) (need := [.ro 1 5 (List.map en_api_RoundTower w1), .ro 2 1 (List.map en_Lint w2), .ro 3 4 (List.map en_api_RoundWinder w3)]) (v := .val (.int .i64 r16)) (news := []) rfl rfl rfl Try.call243 (atJ [(0, 1), (1, 2), (2, 3)] [] (fc_round_walker_late h4) rfl rfl) (.inl (roAll rfl))) rfl trivial rfl rfl ?_
    refine op0 (sp_assign rfl rfl) rfl trivial rfl rfl ?_
    refine TL.nil ?_
    cases h
    exact retM [(500, 1), (501, 2), (502, 3)] 1 4 [0] rfl (.tmp rfl .nil) rfl ⟨mem_at 2 rfl, mem_at 3 rfl, mem_at 4 rfl, mem_at 0 rfl, trivial⟩ rfl rfl ⟨⟨_, mem_at 1 rfl⟩, trivial⟩ rfl
/- p_round_walker_visit -/
def ev_p_round_walker_visit (n : Nat) (w1 : List (Int × Int × Int × Int × Int)) (w2 : List ((List Int))) (w3 : List (Int × Int × Int × Int)) (w4 : Int) (w5 : Int) (w6 : Int) (w7 : Int) (w8 : Int) (w9 : Int) (w10 : Int) (w11 : Int) (w12 : Int) (w13 : Int) (w14 : Int) (tower15 : Int) : Option (Int × (List (Int × Int × Int × Int × Int)) × (List ((List Int))) × (List (Int × Int × Int × Int)) × Int × Int × Int × Int × Int × Int × Int × Int × Int × Int × Int) :=
  idx w1 tower15 fun x16 => chk (in64 (w12 + x16.2.2.2.1)) <| (ev_round_set_has n w11 tower15).bind fun r17 => cond r17 (some (6, w1, w2, w3, w4, w5, w6, w7, w8, w9, w10, w11, (w12 + x16.2.2.2.1), w13, w14)) (cond ((bitK .u16 .andNot x16.2.2.1 w6) != 0) (some (112, w1, w2, w3, w4, w5, w6, w7, w8, w9, w10, w11, (w12 + x16.2.2.2.1), w13, w14)) (cond (decide (w7 < (w12 + x16.2.2.2.1))) (some (113, w1, w2, w3, w4, w5, w6, w7, w8, w9, w10, w11, (w12 + x16.2.2.2.1), w13, w14)) (idx w2 w10 fun x18 => idx x18 tower15 fun x19 => (ev_round_set_with n w11 tower15).bind fun r20 => chk (in64 (x19 + x16.1)) <| chk (in64 ((x19 + x16.1) + x16.2.1)) <| (ev_p_round_walker_work n w1 w2 w3 w4 w5 w6 w7 w8 w9 tower15 r20 (w12 + x16.2.2.2.1) w13 w14 ((x19 + x16.1) + x16.2.1)).bind fun r21 => some (r21.1, r21.2.1, r21.2.2.1, r21.2.2.2.1, r21.2.2.2.2.1, r21.2.2.2.2.2.1, r21.2.2.2.2.2.2.1, r21.2.2.2.2.2.2.2.1, r21.2.2.2.2.2.2.2.2.1, r21.2.2.2.2.2.2.2.2.2.1, r21.2.2.2.2.2.2.2.2.2.2.1, r21.2.2.2.2.2.2.2.2.2.2.2.1, r21.2.2.2.2.2.2.2.2.2.2.2.2.1, r21.2.2.2.2.2.2.2.2.2.2.2.2.2.1, r21.2.2.2.2.2.2.2.2.2.2.2.2.2.2))))
set_option maxRecDepth 100000 in
set_option maxHeartbeats 2000000 in
theorem ft_p_round_walker_visit {n : Nat} {w1 : List (Int × Int × Int × Int × Int)} {w2 : List ((List Int))} {w3 : List (Int × Int × Int × Int)} {w4 : Int} {w5 : Int} {w6 : Int} {w7 : Int} {w8 : Int} {w9 : Int} {w10 : Int} {w11 : Int} {w12 : Int} {w13 : Int} {w14 : Int} {tower15 : Int} {r : Int × (List (Int × Int × Int × Int × Int)) × (List ((List Int))) × (List (Int × Int × Int × Int)) × Int × Int × Int × Int × Int × Int × Int × Int × Int × Int × Int} (h : ev_p_round_walker_visit n w1 w2 w3 w4 w5 w6 w7 w8 w9 w10 w11 w12 w13 w14 tower15 = some r) : FT Try.prog 165 [.ptr 0 0, .val (.int .i64 tower15)] [.blk 0 [.ref 1, .ref 2, .ref 3, .val (.int .i64 w4), .val (.int .i64 w5), .val (.int .u16 w6), .val (.int .i64 w7), .val (.int .i64 w8), .val (.int .i64 w9), .val (.int .i64 w10), .val (.int .i64 w11), .val (.int .i64 w12), .val (.int .i64 w13), .val (.int .i64 w14)] 215] [.ro 1 5 (List.map en_api_RoundTower w1), .ro 2 1 (List.map en_Lint w2), .ro 3 4 (List.map en_api_RoundWinder w3)] (.val (.int .i64 r.1)) [.ro 500 5 (List.map en_api_RoundTower r.2.1), .ro 501 1 (List.map en_Lint r.2.2.1), .ro 502 4 (List.map en_api_RoundWinder r.2.2.2.1), .blk 0 [.ref 500, .ref 501, .ref 502, .val (.int .i64 r.2.2.2.2.1), .val (.int .i64 r.2.2.2.2.2.1), .val (.int .u16 r.2.2.2.2.2.2.1), .val (.int .i64 r.2.2.2.2.2.2.2.1), .val (.int .i64 r.2.2.2.2.2.2.2.2.1), .val (.int .i64 r.2.2.2.2.2.2.2.2.2.1), .val (.int .i64 r.2.2.2.2.2.2.2.2.2.2.1), .val (.int .i64 r.2.2.2.2.2.2.2.2.2.2.2.1), .val (.int .i64 r.2.2.2.2.2.2.2.2.2.2.2.2.1), .val (.int .i64 r.2.2.2.2.2.2.2.2.2.2.2.2.2.1), .val (.int .i64 r.2.2.2.2.2.2.2.2.2.2.2.2.2.2)] 215] := by
  refine introM (nz := 88) 4 [(5, 0)] Try.func165 rfl rfl rfl rfl (fun w0 M0 R0 env0 => ?_)
  rw [ev_p_round_walker_visit] at h
  refine TC.seq ?_
  refine TC.region ?_
  refine op0 (sp_assign rfl rfl) rfl trivial rfl rfl ?_
  refine TL.nil ?_
  refine TC.seq ?_
  refine TC.region ?_
  refine op0 (sp_move rfl rfl) rfl trivial rfl rfl ?_
  refine op1 2 rfl (sp_nilCheck rfl isBlk rfl) rfl trivial rfl rfl ?_
  refine op1 2 rfl (sp_fieldAddrB rfl isBlk rfl ft215_0 vt74 (by decide)) rfl trivial rfl rfl ?_
  refine op1 2 rfl (sp_fieldAddrB rfl isBlk rfl ft74_0 vt70 (by decide)) rfl trivial rfl rfl ?_
  refine op1 2 rfl (sp_loadB rfl isBlk rfl vt70 rfl) rfl trivial rfl rfl ?_
  refine op0 (sp_move rfl rfl) rfl trivial rfl rfl ?_
  obtain ⟨x16, h1, h2, h⟩ := idx_inv h
  refine op1 3 rfl (sp_indexS rfl rfl rfl isRo sl70 h1 (map_get _ h2)) rfl trivial rfl rfl ?_
  refine op1 3 rfl (sp_loadRA (i := (tower15 : Int).toNat) (j := 0) (as_ := [.val (.int .i64 x16.1), .val (.int .i64 x16.2.1), .val (.int .u16 x16.2.2.1), .val (.int .i64 x16.2.2.2.1), .val (.int .i64 x16.2.2.2.2)]) (ns := []) rfl rfl isRo vt218 rfl (map_get _ h2) rfl rfl (by decide) (.v (.v (.v (.v (.v (.nil)))))) (nodup_of_B rfl)) rfl trivial rfl rfl ?_
  refine op0 (sp_alloc 6 rfl Try.zeroValue218 rfl) rfl trivial rfl rfl ?_
  refine stoB 0 (cells' := [.val (.int .i64 x16.1), .val (.int .i64 x16.2.1), .val (.int .u16 x16.2.2.1), .val (.int .i64 x16.2.2.2.1), .val (.int .i64 x16.2.2.2.2)]) rfl rfl trivial rfl rfl rfl rfl vt218 rfl rfl rfl ?_
  refine TL.nil ?_
  refine TC.seq ?_
  refine drawJ 6 [⟨.ptr 0 0, [], [], []⟩, ⟨.ptr 0 0, [], [.blk 0 [.ref 1, .ref 2, .ref 3, .val (.int .i64 w4), .val (.int .i64 w5), .val (.int .u16 w6), .val (.int .i64 w7), .val (.int .i64 w8), .val (.int .i64 w9), .val (.int .i64 w10), .val (.int .i64 w11), .val (.int .i64 w12), .val (.int .i64 w13), .val (.int .i64 w14)] 215], []⟩, ⟨.ptr 0 11, [], [.blk 0 [.ref 1, .ref 2, .ref 3, .val (.int .i64 w4), .val (.int .i64 w5), .val (.int .u16 w6), .val (.int .i64 w7), .val (.int .i64 w8), .val (.int .i64 w9), .val (.int .i64 w10), .val (.int .i64 w11), .val (.int .i64 w12), .val (.int .i64 w13), .val (.int .i64 w14)] 215], []⟩, ⟨.val (.int .i64 w12), [], [.blk 0 [.ref 1, .ref 2, .ref 3, .val (.int .i64 w4), .val (.int .i64 w5), .val (.int .u16 w6), .val (.int .i64 w7), .val (.int .i64 w8), .val (.int .i64 w9), .val (.int .i64 w10), .val (.int .i64 w11), .val (.int .i64 w12), .val (.int .i64 w13), .val (.int .i64 w14)] 215], []⟩, ⟨.ptr 6 3, [], [.blk 6 [.val (.int .i64 x16.1), .val (.int .i64 x16.2.1), .val (.int .u16 x16.2.2.1), .val (.int .i64 x16.2.2.2.1), .val (.int .i64 x16.2.2.2.2)] 218], []⟩, ⟨.val (.int .i64 x16.2.2.2.1), [], [.blk 6 [.val (.int .i64 x16.1), .val (.int .i64 x16.2.1), .val (.int .u16 x16.2.2.1), .val (.int .i64 x16.2.2.2.1), .val (.int .i64 x16.2.2.2.2)] 218], []⟩] rfl ?_ rfl ?_ rfl ?_ ?_
  · kernel_rfl
  · kernel_rfl
  · exact DAll.op' (sp_move rfl rfl) trivial rfl (From.ok (ps := []) trivial) (DAll.op' (sp_nilCheck rfl isBlk rfl) trivial rfl (From.ok (ps := [(none, 3)]) ⟨⟨rfl, rfl⟩, trivial⟩) (DAll.op' (sp_fieldAddrB rfl isBlk rfl ft215_4 vt3 (by decide)) trivial rfl (From.ok (ps := [(none, 3)]) ⟨⟨rfl, rfl⟩, trivial⟩) (DAll.op' (sp_loadB rfl isBlk rfl vt3 rfl) trivial rfl (From.ok (ps := [(none, 3)]) ⟨⟨rfl, rfl⟩, trivial⟩) (DAll.op' (sp_fieldAddrB rfl isBlk rfl ft218_3 vt3 (by decide)) trivial rfl (From.ok (ps := [(none, 0)]) ⟨⟨rfl, rfl⟩, trivial⟩) (DAll.op' (sp_loadB rfl isBlk rfl vt3 rfl) trivial rfl (From.ok (ps := [(none, 0)]) ⟨⟨rfl, rfl⟩, trivial⟩) (.nil))))))
  obtain ⟨h3, h⟩ := chk_inv h
  refine op0 (sp_add rfl rfl rfl h3) rfl trivial rfl rfl ?_
  refine op1 3 rfl (sp_nilCheck rfl isBlk rfl) rfl trivial rfl rfl ?_
  refine op1 3 rfl (sp_fieldAddrB rfl isBlk rfl ft215_4 vt3 (by decide)) rfl trivial rfl rfl ?_
  refine stoB 3 (cells' := [.ref 1, .ref 2, .ref 3, .val (.int .i64 w4), .val (.int .i64 w5), .val (.int .u16 w6), .val (.int .i64 w7), .val (.int .i64 w8), .val (.int .i64 w9), .val (.int .i64 w10), .val (.int .i64 w11), .val (.int .i64 (w12 + x16.2.2.2.1)), .val (.int .i64 w13), .val (.int .i64 w14)]) rfl rfl trivial rfl rfl rfl rfl vt3 rfl rfl rfl ?_
  refine TL.nil ?_
  refine TC.seq ?_
  refine TC.block ?_
  refine TC.seq ?_
  refine TC.region ?_
  refine op0 (sp_move rfl rfl) rfl trivial rfl rfl ?_
  refine op1 3 rfl (sp_nilCheck rfl isBlk rfl) rfl trivial rfl rfl ?_
  refine op1 3 rfl (sp_fieldAddrB rfl isBlk rfl ft215_3 vt205 (by decide)) rfl trivial rfl rfl ?_
  refine op1 3 rfl (sp_loadB rfl isBlk rfl vt205 rfl) rfl trivial rfl rfl ?_
  refine op0 (sp_move rfl rfl) rfl trivial rfl rfl ?_
  obtain ⟨r17, h4, h⟩ := bind_inv h
  refine op0 (sp_call (avs := [.val (.int .i64 w11), .val (.int .i64 tower15)]) (need := []) (v := .val (.bool r17)) (news := []) rfl rfl rfl Try.call160 (atJ [] [] (fc_round_set_has h4) rfl rfl) (.inl (roAll rfl))) rfl trivial rfl rfl ?_
  refine op0 (sp_assign rfl rfl) rfl trivial rfl rfl ?_
  refine TL.nil ?_
  refine TC.cond (b := r17) rfl (fun h5 => ?_) (fun h5 => ?_)
  · have h := cond_t h h5
    refine TC.seq ?_
    refine TC.region ?_
    refine op0 (sp_assign rfl rfl) rfl trivial rfl rfl ?_
    refine TL.nil ?_
    cases h
    exact retM [(500, 1), (501, 2), (502, 3)] 1 4 [0] rfl (.tmp rfl .nil) rfl ⟨mem_at 3 rfl, mem_at 4 rfl, mem_at 5 rfl, mem_at 2 rfl, trivial⟩ rfl rfl ⟨⟨_, mem_at 1 rfl⟩, trivial⟩ rfl
  · have h := cond_f h h5
    refine TC.seq ?_
    refine drawJ 7 [⟨.ptr 6 2, [], [.blk 6 [.val (.int .i64 x16.1), .val (.int .i64 x16.2.1), .val (.int .u16 x16.2.2.1), .val (.int .i64 x16.2.2.2.1), .val (.int .i64 x16.2.2.2.2)] 218], []⟩, ⟨.val (.int .u16 x16.2.2.1), [], [.blk 6 [.val (.int .i64 x16.1), .val (.int .i64 x16.2.1), .val (.int .u16 x16.2.2.1), .val (.int .i64 x16.2.2.2.1), .val (.int .i64 x16.2.2.2.2)] 218], []⟩, ⟨.ptr 0 0, [], [], []⟩, ⟨.ptr 0 0, [], [.blk 0 [.ref 1, .ref 2, .ref 3, .val (.int .i64 w4), .val (.int .i64 w5), .val (.int .u16 w6), .val (.int .i64 w7), .val (.int .i64 w8), .val (.int .i64 w9), .val (.int .i64 w10), .val (.int .i64 w11), .val (.int .i64 (w12 + x16.2.2.2.1)), .val (.int .i64 w13), .val (.int .i64 w14)] 215], []⟩, ⟨.ptr 0 5, [], [.blk 0 [.ref 1, .ref 2, .ref 3, .val (.int .i64 w4), .val (.int .i64 w5), .val (.int .u16 w6), .val (.int .i64 w7), .val (.int .i64 w8), .val (.int .i64 w9), .val (.int .i64 w10), .val (.int .i64 w11), .val (.int .i64 (w12 + x16.2.2.2.1)), .val (.int .i64 w13), .val (.int .i64 w14)] 215], []⟩, ⟨.ptr 0 5, [], [.blk 0 [.ref 1, .ref 2, .ref 3, .val (.int .i64 w4), .val (.int .i64 w5), .val (.int .u16 w6), .val (.int .i64 w7), .val (.int .i64 w8), .val (.int .i64 w9), .val (.int .i64 w10), .val (.int .i64 w11), .val (.int .i64 (w12 + x16.2.2.2.1)), .val (.int .i64 w13), .val (.int .i64 w14)] 215], []⟩, ⟨.val (.int .u16 w6), [], [.blk 0 [.ref 1, .ref 2, .ref 3, .val (.int .i64 w4), .val (.int .i64 w5), .val (.int .u16 w6), .val (.int .i64 w7), .val (.int .i64 w8), .val (.int .i64 w9), .val (.int .i64 w10), .val (.int .i64 w11), .val (.int .i64 (w12 + x16.2.2.2.1)), .val (.int .i64 w13), .val (.int .i64 w14)] 215], []⟩] rfl ?_ rfl ?_ rfl ?_ ?_
    · kernel_rfl
    · kernel_rfl
    · exact DAll.op' (sp_fieldAddrB rfl isBlk rfl ft218_2 vt22 (by decide)) trivial rfl (From.ok (ps := [(none, 0)]) ⟨⟨rfl, rfl⟩, trivial⟩) (DAll.op' (sp_loadB rfl isBlk rfl vt22 rfl) trivial rfl (From.ok (ps := [(none, 0)]) ⟨⟨rfl, rfl⟩, trivial⟩) (DAll.op' (sp_move rfl rfl) trivial rfl (From.ok (ps := []) trivial) (DAll.op' (sp_nilCheck rfl isBlk rfl) trivial rfl (From.ok (ps := [(none, 3)]) ⟨⟨rfl, rfl⟩, trivial⟩) (DAll.op' (sp_fieldAddrB rfl isBlk rfl ft215_1 vt213 (by decide)) trivial rfl (From.ok (ps := [(none, 3)]) ⟨⟨rfl, rfl⟩, trivial⟩) (DAll.op' (sp_fieldAddrB rfl isBlk rfl ft213_0 vt22 (by decide)) trivial rfl (From.ok (ps := [(none, 3)]) ⟨⟨rfl, rfl⟩, trivial⟩) (DAll.op' (sp_loadB rfl isBlk rfl vt22 rfl) trivial rfl (From.ok (ps := [(none, 3)]) ⟨⟨rfl, rfl⟩, trivial⟩) (.nil)))))))
    refine op0 (sp_bit .andNot rfl rfl rfl rfl) rfl trivial rfl rfl ?_
    refine op0 (sp_neq rfl rfl rfl) rfl trivial rfl rfl ?_
    refine op0 (sp_assign rfl rfl) rfl trivial rfl rfl ?_
    refine TL.nil ?_
    refine TC.cond (b := ((bitK .u16 .andNot x16.2.2.1 w6) != 0)) rfl (fun h6 => ?_) (fun h6 => ?_)
    · have h := cond_t h h6
      refine TC.seq ?_
      refine TC.region ?_
      refine op0 (sp_assign rfl rfl) rfl trivial rfl rfl ?_
      refine TL.nil ?_
      cases h
      exact retM [(500, 1), (501, 2), (502, 3)] 1 4 [0] rfl (.tmp rfl .nil) rfl ⟨mem_at 3 rfl, mem_at 4 rfl, mem_at 5 rfl, mem_at 2 rfl, trivial⟩ rfl rfl ⟨⟨_, mem_at 1 rfl⟩, trivial⟩ rfl
    · have h := cond_f h h6
      refine TC.seq ?_
      refine drawJ 9 [⟨.ptr 0 0, [], [], []⟩, ⟨.ptr 0 0, [], [.blk 0 [.ref 1, .ref 2, .ref 3, .val (.int .i64 w4), .val (.int .i64 w5), .val (.int .u16 w6), .val (.int .i64 w7), .val (.int .i64 w8), .val (.int .i64 w9), .val (.int .i64 w10), .val (.int .i64 w11), .val (.int .i64 (w12 + x16.2.2.2.1)), .val (.int .i64 w13), .val (.int .i64 w14)] 215], []⟩, ⟨.ptr 0 11, [], [.blk 0 [.ref 1, .ref 2, .ref 3, .val (.int .i64 w4), .val (.int .i64 w5), .val (.int .u16 w6), .val (.int .i64 w7), .val (.int .i64 w8), .val (.int .i64 w9), .val (.int .i64 w10), .val (.int .i64 w11), .val (.int .i64 (w12 + x16.2.2.2.1)), .val (.int .i64 w13), .val (.int .i64 w14)] 215], []⟩, ⟨.val (.int .i64 (w12 + x16.2.2.2.1)), [], [.blk 0 [.ref 1, .ref 2, .ref 3, .val (.int .i64 w4), .val (.int .i64 w5), .val (.int .u16 w6), .val (.int .i64 w7), .val (.int .i64 w8), .val (.int .i64 w9), .val (.int .i64 w10), .val (.int .i64 w11), .val (.int .i64 (w12 + x16.2.2.2.1)), .val (.int .i64 w13), .val (.int .i64 w14)] 215], []⟩, ⟨.ptr 0 0, [], [], []⟩, ⟨.ptr 0 0, [], [.blk 0 [.ref 1, .ref 2, .ref 3, .val (.int .i64 w4), .val (.int .i64 w5), .val (.int .u16 w6), .val (.int .i64 w7), .val (.int .i64 w8), .val (.int .i64 w9), .val (.int .i64 w10), .val (.int .i64 w11), .val (.int .i64 (w12 + x16.2.2.2.1)), .val (.int .i64 w13), .val (.int .i64 w14)] 215], []⟩, ⟨.ptr 0 5, [], [.blk 0 [.ref 1, .ref 2, .ref 3, .val (.int .i64 w4), .val (.int .i64 w5), .val (.int .u16 w6), .val (.int .i64 w7), .val (.int .i64 w8), .val (.int .i64 w9), .val (.int .i64 w10), .val (.int .i64 w11), .val (.int .i64 (w12 + x16.2.2.2.1)), .val (.int .i64 w13), .val (.int .i64 w14)] 215], []⟩, ⟨.ptr 0 6, [], [.blk 0 [.ref 1, .ref 2, .ref 3, .val (.int .i64 w4), .val (.int .i64 w5), .val (.int .u16 w6), .val (.int .i64 w7), .val (.int .i64 w8), .val (.int .i64 w9), .val (.int .i64 w10), .val (.int .i64 w11), .val (.int .i64 (w12 + x16.2.2.2.1)), .val (.int .i64 w13), .val (.int .i64 w14)] 215], []⟩, ⟨.val (.int .i64 w7), [], [.blk 0 [.ref 1, .ref 2, .ref 3, .val (.int .i64 w4), .val (.int .i64 w5), .val (.int .u16 w6), .val (.int .i64 w7), .val (.int .i64 w8), .val (.int .i64 w9), .val (.int .i64 w10), .val (.int .i64 w11), .val (.int .i64 (w12 + x16.2.2.2.1)), .val (.int .i64 w13), .val (.int .i64 w14)] 215], []⟩] rfl ?_ rfl ?_ rfl ?_ ?_
      · kernel_rfl
      · kernel_rfl
      · exact DAll.op' (sp_move rfl rfl) trivial rfl (From.ok (ps := []) trivial) (DAll.op' (sp_nilCheck rfl isBlk rfl) trivial rfl (From.ok (ps := [(none, 3)]) ⟨⟨rfl, rfl⟩, trivial⟩) (DAll.op' (sp_fieldAddrB rfl isBlk rfl ft215_4 vt3 (by decide)) trivial rfl (From.ok (ps := [(none, 3)]) ⟨⟨rfl, rfl⟩, trivial⟩) (DAll.op' (sp_loadB rfl isBlk rfl vt3 rfl) trivial rfl (From.ok (ps := [(none, 3)]) ⟨⟨rfl, rfl⟩, trivial⟩) (DAll.op' (sp_move rfl rfl) trivial rfl (From.ok (ps := []) trivial) (DAll.op' (sp_nilCheck rfl isBlk rfl) trivial rfl (From.ok (ps := [(none, 3)]) ⟨⟨rfl, rfl⟩, trivial⟩) (DAll.op' (sp_fieldAddrB rfl isBlk rfl ft215_1 vt213 (by decide)) trivial rfl (From.ok (ps := [(none, 3)]) ⟨⟨rfl, rfl⟩, trivial⟩) (DAll.op' (sp_fieldAddrB rfl isBlk rfl ft213_1 vt3 (by decide)) trivial rfl (From.ok (ps := [(none, 3)]) ⟨⟨rfl, rfl⟩, trivial⟩) (DAll.op' (sp_loadB rfl isBlk rfl vt3 rfl) trivial rfl (From.ok (ps := [(none, 3)]) ⟨⟨rfl, rfl⟩, trivial⟩) (.nil)))))))))
      refine op0 (sp_gtr rfl rfl rfl) rfl trivial rfl rfl ?_
      refine op0 (sp_assign rfl rfl) rfl trivial rfl rfl ?_
      refine TL.nil ?_
      refine TC.cond (b := (decide (w7 < (w12 + x16.2.2.2.1)))) rfl (fun h7 => ?_) (fun h7 => ?_)
      · have h := cond_t h h7
        refine TC.seq ?_
        refine TC.region ?_
        refine op0 (sp_assign rfl rfl) rfl trivial rfl rfl ?_
        refine TL.nil ?_
        cases h
        exact retM [(500, 1), (501, 2), (502, 3)] 1 4 [0] rfl (.tmp rfl .nil) rfl ⟨mem_at 3 rfl, mem_at 4 rfl, mem_at 5 rfl, mem_at 2 rfl, trivial⟩ rfl rfl ⟨⟨_, mem_at 1 rfl⟩, trivial⟩ rfl
      · have h := cond_f h h7
        refine TC.skip ?_
        refine TC.inBlock ?_
        refine TC.seq ?_
        obtain ⟨x18, h8, h9, h⟩ := idx_inv h
        refine drawJ 12 [⟨.ptr 0 0, [], [], []⟩, ⟨.ptr 0 0, [], [.blk 0 [.ref 1, .ref 2, .ref 3, .val (.int .i64 w4), .val (.int .i64 w5), .val (.int .u16 w6), .val (.int .i64 w7), .val (.int .i64 w8), .val (.int .i64 w9), .val (.int .i64 w10), .val (.int .i64 w11), .val (.int .i64 (w12 + x16.2.2.2.1)), .val (.int .i64 w13), .val (.int .i64 w14)] 215], []⟩, ⟨.ptr 0 0, [], [.blk 0 [.ref 1, .ref 2, .ref 3, .val (.int .i64 w4), .val (.int .i64 w5), .val (.int .u16 w6), .val (.int .i64 w7), .val (.int .i64 w8), .val (.int .i64 w9), .val (.int .i64 w10), .val (.int .i64 w11), .val (.int .i64 (w12 + x16.2.2.2.1)), .val (.int .i64 w13), .val (.int .i64 w14)] 215], []⟩, ⟨.ptr 0 1, [], [.blk 0 [.ref 1, .ref 2, .ref 3, .val (.int .i64 w4), .val (.int .i64 w5), .val (.int .u16 w6), .val (.int .i64 w7), .val (.int .i64 w8), .val (.int .i64 w9), .val (.int .i64 w10), .val (.int .i64 w11), .val (.int .i64 (w12 + x16.2.2.2.1)), .val (.int .i64 w13), .val (.int .i64 w14)] 215], []⟩, ⟨.ref 2, [], [.blk 0 [.ref 1, .ref 2, .ref 3, .val (.int .i64 w4), .val (.int .i64 w5), .val (.int .u16 w6), .val (.int .i64 w7), .val (.int .i64 w8), .val (.int .i64 w9), .val (.int .i64 w10), .val (.int .i64 w11), .val (.int .i64 (w12 + x16.2.2.2.1)), .val (.int .i64 w13), .val (.int .i64 w14)] 215], []⟩, ⟨.ptr 0 0, [], [], []⟩, ⟨.ptr 0 0, [], [.blk 0 [.ref 1, .ref 2, .ref 3, .val (.int .i64 w4), .val (.int .i64 w5), .val (.int .u16 w6), .val (.int .i64 w7), .val (.int .i64 w8), .val (.int .i64 w9), .val (.int .i64 w10), .val (.int .i64 w11), .val (.int .i64 (w12 + x16.2.2.2.1)), .val (.int .i64 w13), .val (.int .i64 w14)] 215], []⟩, ⟨.ptr 0 9, [], [.blk 0 [.ref 1, .ref 2, .ref 3, .val (.int .i64 w4), .val (.int .i64 w5), .val (.int .u16 w6), .val (.int .i64 w7), .val (.int .i64 w8), .val (.int .i64 w9), .val (.int .i64 w10), .val (.int .i64 w11), .val (.int .i64 (w12 + x16.2.2.2.1)), .val (.int .i64 w13), .val (.int .i64 w14)] 215], []⟩, ⟨.val (.int .i64 w10), [], [.blk 0 [.ref 1, .ref 2, .ref 3, .val (.int .i64 w4), .val (.int .i64 w5), .val (.int .u16 w6), .val (.int .i64 w7), .val (.int .i64 w8), .val (.int .i64 w9), .val (.int .i64 w10), .val (.int .i64 w11), .val (.int .i64 (w12 + x16.2.2.2.1)), .val (.int .i64 w13), .val (.int .i64 w14)] 215], []⟩, ⟨.cell 2 ((w10 : Int).toNat * 1), [], [.ro 2 1 (List.map en_Lint w2)], []⟩, ⟨.ref 7, [.ro 7 1 (List.map en_int x18)], [.ro 2 1 (List.map en_Lint w2)], []⟩, ⟨.val (.int .i64 tower15), [], [], []⟩] rfl ?_ rfl ?_ rfl ?_ ?_
        · kernel_rfl
        · kernel_rfl
        · exact DAll.op' (sp_move rfl rfl) trivial rfl (From.ok (ps := []) trivial) (DAll.op' (sp_nilCheck rfl isBlk rfl) trivial rfl (From.ok (ps := [(none, 3)]) ⟨⟨rfl, rfl⟩, trivial⟩) (DAll.op' (sp_fieldAddrB rfl isBlk rfl ft215_0 vt74 (by decide)) trivial rfl (From.ok (ps := [(none, 3)]) ⟨⟨rfl, rfl⟩, trivial⟩) (DAll.op' (sp_fieldAddrB rfl isBlk rfl ft74_1 vt71 (by decide)) trivial rfl (From.ok (ps := [(none, 3)]) ⟨⟨rfl, rfl⟩, trivial⟩) (DAll.op' (sp_loadB rfl isBlk rfl vt71 rfl) trivial rfl (From.ok (ps := [(none, 3)]) ⟨⟨rfl, rfl⟩, trivial⟩) (DAll.op' (sp_move rfl rfl) trivial rfl (From.ok (ps := []) trivial) (DAll.op' (sp_nilCheck rfl isBlk rfl) trivial rfl (From.ok (ps := [(none, 3)]) ⟨⟨rfl, rfl⟩, trivial⟩) (DAll.op' (sp_fieldAddrB rfl isBlk rfl ft215_2 vt3 (by decide)) trivial rfl (From.ok (ps := [(none, 3)]) ⟨⟨rfl, rfl⟩, trivial⟩) (DAll.op' (sp_loadB rfl isBlk rfl vt3 rfl) trivial rfl (From.ok (ps := [(none, 3)]) ⟨⟨rfl, rfl⟩, trivial⟩) (DAll.op' (sp_indexS rfl rfl rfl isRo sl71 h8 (map_get _ h9)) trivial rfl (From.ok (ps := [(none, 5)]) ⟨⟨rfl, rfl⟩, trivial⟩) (DAll.op' (sp_loadR (i := (w10 : Int).toNat) (j := 0) (ns := [.ro 7 1 (List.map en_int x18)]) rfl rfl isRo vt37 rfl (map_get _ h9) rfl (.s (.nil)) (nodup_of_B rfl)) trivial rfl (From.ok (ps := [(none, 5)]) ⟨⟨rfl, rfl⟩, trivial⟩) (DAll.op' (sp_move rfl rfl) trivial rfl (From.ok (ps := []) trivial) (.nil))))))))))))
        obtain ⟨x19, h10, h11, h⟩ := idx_inv h
        refine op1 0 rfl (sp_indexS rfl rfl rfl isRo sl37 h10 (map_get _ h11)) rfl trivial rfl rfl ?_
        refine op1 0 rfl (sp_loadR (i := (tower15 : Int).toNat) (j := 0) rfl rfl isRo vt3 rfl (map_get _ h11) rfl (.v (.nil)) (nodup_of_B rfl)) rfl trivial rfl rfl ?_
        refine op0 (sp_assign rfl rfl) rfl trivial rfl rfl ?_
        refine TL.nil ?_
        refine TC.seq ?_
        refine TC.region ?_
        refine op0 (sp_move rfl rfl) rfl trivial rfl rfl ?_
        refine op0 (sp_move rfl rfl) rfl trivial rfl rfl ?_
        refine op0 (sp_move rfl rfl) rfl trivial rfl rfl ?_
        refine op0 (sp_move rfl rfl) rfl trivial rfl rfl ?_
        refine op1 4 rfl (sp_nilCheck rfl isBlk rfl) rfl trivial rfl rfl ?_
        refine op1 4 rfl (sp_fieldAddrB rfl isBlk rfl ft215_3 vt205 (by decide)) rfl trivial rfl rfl ?_
        refine op1 4 rfl (sp_loadB rfl isBlk rfl vt205 rfl) rfl trivial rfl rfl ?_
        refine op0 (sp_move rfl rfl) rfl trivial rfl rfl ?_
        obtain ⟨r20, h12, h⟩ := bind_inv h
        refine op0 (sp_call (avs := [.val (.int .i64 w11), .val (.int .i64 tower15)]) (need := []) (v := .val (.int .i64 r20)) (news := []) rfl rfl rfl Try.call161 (atJ [] [] (fc_round_set_with h12) rfl rfl) (.inl (roAll rfl))) rfl trivial rfl rfl ?_
        refine op1 4 rfl (sp_nilCheck rfl isBlk rfl) rfl trivial rfl rfl ?_
        refine op1 4 rfl (sp_fieldAddrB rfl isBlk rfl ft215_2 vt3 (by decide)) rfl trivial rfl rfl ?_
        refine stoB 4 (cells' := [.ref 1, .ref 2, .ref 3, .val (.int .i64 w4), .val (.int .i64 w5), .val (.int .u16 w6), .val (.int .i64 w7), .val (.int .i64 w8), .val (.int .i64 w9), .val (.int .i64 tower15), .val (.int .i64 w11), .val (.int .i64 (w12 + x16.2.2.2.1)), .val (.int .i64 w13), .val (.int .i64 w14)]) rfl rfl trivial rfl rfl rfl rfl vt3 rfl rfl rfl ?_
        refine op1 4 rfl (sp_nilCheck rfl isBlk rfl) rfl trivial rfl rfl ?_
        refine op1 4 rfl (sp_fieldAddrB rfl isBlk rfl ft215_3 vt205 (by decide)) rfl trivial rfl rfl ?_
        refine stoB 4 (cells' := [.ref 1, .ref 2, .ref 3, .val (.int .i64 w4), .val (.int .i64 w5), .val (.int .u16 w6), .val (.int .i64 w7), .val (.int .i64 w8), .val (.int .i64 w9), .val (.int .i64 tower15), .val (.int .i64 r20), .val (.int .i64 (w12 + x16.2.2.2.1)), .val (.int .i64 w13), .val (.int .i64 w14)]) rfl rfl trivial rfl rfl rfl rfl vt205 rfl rfl rfl ?_
        refine TL.nil ?_
        refine TC.seq ?_
        refine TC.region ?_
        refine op0 (sp_move rfl rfl) rfl trivial rfl rfl ?_
        refine op0 (sp_move rfl rfl) rfl trivial rfl rfl ?_
        refine op1 1 rfl (sp_fieldAddrB rfl isBlk rfl ft218_0 vt3 (by decide)) rfl trivial rfl rfl ?_
        refine op1 1 rfl (sp_loadB rfl isBlk rfl vt3 rfl) rfl trivial rfl rfl ?_
        obtain ⟨h13, h⟩ := chk_inv h
        refine op0 (sp_add rfl rfl rfl h13) rfl trivial rfl rfl ?_
        refine op1 1 rfl (sp_fieldAddrB rfl isBlk rfl ft218_1 vt3 (by decide)) rfl trivial rfl rfl ?_
        refine op1 1 rfl (sp_loadB rfl isBlk rfl vt3 rfl) rfl trivial rfl rfl ?_
        obtain ⟨h14, h⟩ := chk_inv h
        refine op0 (sp_add rfl rfl rfl h14) rfl trivial rfl rfl ?_
        obtain ⟨r21, h15, h⟩ := bind_inv h
        refine opT (take := [.blk 0 [.ref 1, .ref 2, .ref 3, .val (.int .i64 w4), .val (.int .i64 w5), .val (.int .u16 w6), .val (.int .i64 w7), .val (.int .i64 w8), .val (.int .i64 w9), .val (.int .i64 tower15), .val (.int .i64 r20), .val (.int .i64 (w12 + x16.2.2.2.1)), .val (.int .i64 w13), .val (.int .i64 w14)] 215]) (need := [.ro 1 5 (List.map en_api_RoundTower w1), .ro 2 1 (List.map en_Lint w2), .ro 3 4 (List.map en_api_RoundWinder w3)]) (V' := [.ro 8 5 (List.map en_api_RoundTower r21.2.1), .ro 9 1 (List.map en_Lint r21.2.2.1), .ro 10 4 (List.map en_api_RoundWinder r21.2.2.2.1), .blk 0 [.ref 8, .ref 9, .ref 10, .val (.int .i64 r21.2.2.2.2.1), .val (.int .i64 r21.2.2.2.2.2.1), .val (.int .u16 r21.2.2.2.2.2.2.1), .val (.int .i64 r21.2.2.2.2.2.2.2.1), .val (.int .i64 r21.2.2.2.2.2.2.2.2.1), .val (.int .i64 r21.2.2.2.2.2.2.2.2.2.1), .val (.int .i64 r21.2.2.2.2.2.2.2.2.2.2.1), .val (.int .i64 r21.2.2.2.2.2.2.2.2.2.2.2.1), .val (.int .i64 r21.2.2.2.2.2.2.2.2.2.2.2.2.1), .val (.int .i64 r21.2.2.2.2.2.2.2.2.2.2.2.2.2.1), .val (.int .i64 r21.2.2.2.2.2.2.2.2.2.2.2.2.2.2)] 215, .ro 7 1 (List.map en_int x18), .blk 6 [.val (.int .i64 x16.1), .val (.int .i64 x16.2.1), .val (.int .u16 x16.2.2.1), .val (.int .i64 x16.2.2.2.1), .val (.int .i64 x16.2.2.2.2)] 218, .inv 4 (marksI []), .pin 5 0 (env0 0), .ro 1 5 (List.map en_api_RoundTower w1), .ro 2 1 (List.map en_Lint w2), .ro 3 4 (List.map en_api_RoundWinder w3)]) [4] [5, 6, 7] (ts_call (avs := [.ptr 0 0, .val (.int .i64 ((x19 + x16.1) + x16.2.1))]) (take := [.blk 0 [.ref 1, .ref 2, .ref 3, .val (.int .i64 w4), .val (.int .i64 w5), .val (.int .u16 w6), .val (.int .i64 w7), .val (.int .i64 w8), .val (.int .i64 w9), .val (.int .i64 tower15), .val (.int .i64 r20), .val (.int .i64 (w12 + x16.2.2.2.1)), .val (.int .i64 w13), .val (.int .i64 w14)] 215]) (need := [.ro 1 5 (List.map en_api_RoundTower w1), .ro 2 1 (List.map en_Lint w2), .ro 3 4 (List.map en_api_RoundWinder w3)]) (v := .val (.int .i64 r21.1)) (news := [.ro 8 5 (List.map en_api_RoundTower r21.2.1), .ro 9 1 (List.map en_Lint r21.2.2.1), .ro 10 4 (List.map en_api_RoundWinder r21.2.2.2.1), .blk 0 [.ref 8, .ref 9, .ref 10, .val (.int .i64 r21.2.2.2.2.1), .val (.int .i64 r21.2.2.2.2.2.1), .val (.int .u16 r21.2.2.2.2.2.2.1), .val (.int .i64 r21.2.2.2.2.2.2.2.1), .val (.int .i64 r21.2.2.2.2.2.2.2.2.1), .val (.int .i64 r21.2.2.2.2.2.2.2.2.2.1), .val (.int .i64 r21.2.2.2.2.2.2.2.2.2.2.1), .val (.int .i64 r21.2.2.2.2.2.2.2.2.2.2.2.1), .val (.int .i64 r21.2.2.2.2.2.2.2.2.2.2.2.2.1), .val (.int .i64 r21.2.2.2.2.2.2.2.2.2.2.2.2.2.1), .val (.int .i64 r21.2.2.2.2.2.2.2.2.2.2.2.2.2.2)] 215]) rfl rfl rfl Try.call166 (atT [] [(500, 8), (501, 9), (502, 10)] (ft_p_round_walker_work h15) rfl rfl rfl) rfl rfl) trivial rfl ⟨rfl, trivial⟩ ⟨rfl, rfl, rfl, trivial⟩ rfl rfl ?_
        refine op0 (sp_assign rfl rfl) rfl trivial rfl rfl ?_
        refine TL.nil ?_
        cases h
        exact retM [(500, 8), (501, 9), (502, 10)] 6 4 [0] rfl (.tmp rfl .nil) rfl ⟨mem_at 0 rfl, mem_at 1 rfl, mem_at 2 rfl, mem_at 3 rfl, trivial⟩ rfl rfl ⟨⟨_, mem_at 6 rfl⟩, trivial⟩ rfl
/- p_round_walker_step -/
def ev_p_round_walker_step (n : Nat) (w1 : List (Int × Int × Int × Int × Int)) (w2 : List ((List Int))) (w3 : List (Int × Int × Int × Int)) (w4 : Int) (w5 : Int) (w6 : Int) (w7 : Int) (w8 : Int) (w9 : Int) (w10 : Int) (w11 : Int) (w12 : Int) (w13 : Int) (w14 : Int) (nn15 : Int) : Option (Int × (List (Int × Int × Int × Int × Int)) × (List ((List Int))) × (List (Int × Int × Int × Int)) × Int × Int × Int × Int × Int × Int × Int × Int × Int × Int × Int) :=
  cond (nn15 == (-1)) ((ev_p_round_walker_rest n w1 w2 w3 w4 w5 w6 w7 w8 w9 w10 w11 w12 w13 w14).bind fun r16 => some (r16.1, r16.2.1, r16.2.2.1, r16.2.2.2.1, r16.2.2.2.2.1, r16.2.2.2.2.2.1, r16.2.2.2.2.2.2.1, r16.2.2.2.2.2.2.2.1, r16.2.2.2.2.2.2.2.2.1, r16.2.2.2.2.2.2.2.2.2.1, r16.2.2.2.2.2.2.2.2.2.2.1, r16.2.2.2.2.2.2.2.2.2.2.2.1, r16.2.2.2.2.2.2.2.2.2.2.2.2.1, r16.2.2.2.2.2.2.2.2.2.2.2.2.2.1, r16.2.2.2.2.2.2.2.2.2.2.2.2.2.2)) (chk (in64 ((w1.length : Int) - 1)) <| (ev_round_within n 0 ((w1.length : Int) - 1) ([nn15] : List Int)).bind fun r17 => cond (!r17) (some (2, w1, w2, w3, w4, w5, w6, w7, w8, w9, w10, w11, w12, w13, w14)) ((ev_p_round_walker_visit n w1 w2 w3 w4 w5 w6 w7 w8 w9 w10 w11 w12 w13 w14 nn15).bind fun r18 => some (r18.1, r18.2.1, r18.2.2.1, r18.2.2.2.1, r18.2.2.2.2.1, r18.2.2.2.2.2.1, r18.2.2.2.2.2.2.1, r18.2.2.2.2.2.2.2.1, r18.2.2.2.2.2.2.2.2.1, r18.2.2.2.2.2.2.2.2.2.1, r18.2.2.2.2.2.2.2.2.2.2.1, r18.2.2.2.2.2.2.2.2.2.2.2.1, r18.2.2.2.2.2.2.2.2.2.2.2.2.1, r18.2.2.2.2.2.2.2.2.2.2.2.2.2.1, r18.2.2.2.2.2.2.2.2.2.2.2.2.2.2)))
set_option maxRecDepth 100000 in
set_option maxHeartbeats 2000000 in
theorem ft_p_round_walker_step {n : Nat} {w1 : List (Int × Int × Int × Int × Int)} {w2 : List ((List Int))} {w3 : List (Int × Int × Int × Int)} {w4 : Int} {w5 : Int} {w6 : Int} {w7 : Int} {w8 : Int} {w9 : Int} {w10 : Int} {w11 : Int} {w12 : Int} {w13 : Int} {w14 : Int} {nn15 : Int} {r : Int × (List (Int × Int × Int × Int × Int)) × (List ((List Int))) × (List (Int × Int × Int × Int)) × Int × Int × Int × Int × Int × Int × Int × Int × Int × Int × Int} (h : ev_p_round_walker_step n w1 w2 w3 w4 w5 w6 w7 w8 w9 w10 w11 w12 w13 w14 nn15 = some r) : FT Try.prog 92 [.ptr 0 0, .val (.int .i64 nn15)] [.blk 0 [.ref 1, .ref 2, .ref 3, .val (.int .i64 w4), .val (.int .i64 w5), .val (.int .u16 w6), .val (.int .i64 w7), .val (.int .i64 w8), .val (.int .i64 w9), .val (.int .i64 w10), .val (.int .i64 w11), .val (.int .i64 w12), .val (.int .i64 w13), .val (.int .i64 w14)] 215] [.ro 1 5 (List.map en_api_RoundTower w1), .ro 2 1 (List.map en_Lint w2), .ro 3 4 (List.map en_api_RoundWinder w3)] (.val (.int .i64 r.1)) [.ro 500 5 (List.map en_api_RoundTower r.2.1), .ro 501 1 (List.map en_Lint r.2.2.1), .ro 502 4 (List.map en_api_RoundWinder r.2.2.2.1), .blk 0 [.ref 500, .ref 501, .ref 502, .val (.int .i64 r.2.2.2.2.1), .val (.int .i64 r.2.2.2.2.2.1), .val (.int .u16 r.2.2.2.2.2.2.1), .val (.int .i64 r.2.2.2.2.2.2.2.1), .val (.int .i64 r.2.2.2.2.2.2.2.2.1), .val (.int .i64 r.2.2.2.2.2.2.2.2.2.1), .val (.int .i64 r.2.2.2.2.2.2.2.2.2.2.1), .val (.int .i64 r.2.2.2.2.2.2.2.2.2.2.2.1), .val (.int .i64 r.2.2.2.2.2.2.2.2.2.2.2.2.1), .val (.int .i64 r.2.2.2.2.2.2.2.2.2.2.2.2.2.1), .val (.int .i64 r.2.2.2.2.2.2.2.2.2.2.2.2.2.2)] 215] := by
  refine introM (nz := 25) 4 [(5, 0)] Try.func92 rfl rfl rfl rfl (fun w0 M0 R0 env0 => ?_)
  rw [ev_p_round_walker_step] at h
  refine TC.seq ?_
  refine TC.region ?_
  refine op0 (sp_assign rfl rfl) rfl trivial rfl rfl ?_
  refine TL.nil ?_
  refine TC.seq ?_
  refine TC.block ?_
  refine TC.seq ?_
  refine TC.region ?_
  refine op0 (sp_move rfl rfl) rfl trivial rfl rfl ?_
  refine op0 (sp_eql rfl rfl rfl) rfl trivial rfl rfl ?_
  refine op0 (sp_assign rfl rfl) rfl trivial rfl rfl ?_
  refine TL.nil ?_
  refine TC.cond (b := (nn15 == (-1))) rfl (fun h1 => ?_) (fun h1 => ?_)
  · have h := cond_t h h1
    refine TC.seq ?_
    refine TC.region ?_
    refine op0 (sp_move rfl rfl) rfl trivial rfl rfl ?_
    obtain ⟨r16, h2, h⟩ := bind_inv h
    refine opT (take := [.blk 0 [.ref 1, .ref 2, .ref 3, .val (.int .i64 w4), .val (.int .i64 w5), .val (.int .u16 w6), .val (.int .i64 w7), .val (.int .i64 w8), .val (.int .i64 w9), .val (.int .i64 w10), .val (.int .i64 w11), .val (.int .i64 w12), .val (.int .i64 w13), .val (.int .i64 w14)] 215]) (need := [.ro 1 5 (List.map en_api_RoundTower w1), .ro 2 1 (List.map en_Lint w2), .ro 3 4 (List.map en_api_RoundWinder w3)]) (V' := [.ro 6 5 (List.map en_api_RoundTower r16.2.1), .ro 7 1 (List.map en_Lint r16.2.2.1), .ro 8 4 (List.map en_api_RoundWinder r16.2.2.2.1), .blk 0 [.ref 6, .ref 7, .ref 8, .val (.int .i64 r16.2.2.2.2.1), .val (.int .i64 r16.2.2.2.2.2.1), .val (.int .u16 r16.2.2.2.2.2.2.1), .val (.int .i64 r16.2.2.2.2.2.2.2.1), .val (.int .i64 r16.2.2.2.2.2.2.2.2.1), .val (.int .i64 r16.2.2.2.2.2.2.2.2.2.1), .val (.int .i64 r16.2.2.2.2.2.2.2.2.2.2.1), .val (.int .i64 r16.2.2.2.2.2.2.2.2.2.2.2.1), .val (.int .i64 r16.2.2.2.2.2.2.2.2.2.2.2.2.1), .val (.int .i64 r16.2.2.2.2.2.2.2.2.2.2.2.2.2.1), .val (.int .i64 r16.2.2.2.2.2.2.2.2.2.2.2.2.2.2)] 215, .inv 4 (marksI []), .pin 5 0 (env0 0), .ro 1 5 (List.map en_api_RoundTower w1), .ro 2 1 (List.map en_Lint w2), .ro 3 4 (List.map en_api_RoundWinder w3)]) [2] [3, 4, 5] (ts_call (avs := [.ptr 0 0]) (take := [.blk 0 [.ref 1, .ref 2, .ref 3, .val (.int .i64 w4), .val (.int .i64 w5), .val (.int .u16 w6), .val (.int .i64 w7), .val (.int .i64 w8), .val (.int .i64 w9), .val (.int .i64 w10), .val (.int .i64 w11), .val (.int .i64 w12), .val (.int .i64 w13), .val (.int .i64 w14)] 215]) (need := [.ro 1 5 (List.map en_api_RoundTower w1), .ro 2 1 (List.map en_Lint w2), .ro 3 4 (List.map en_api_RoundWinder w3)]) (v := .val (.int .i64 r16.1)) (news := [.ro 6 5 (List.map en_api_RoundTower r16.2.1), .ro 7 1 (List.map en_Lint r16.2.2.1), .ro 8 4 (List.map en_api_RoundWinder r16.2.2.2.1), .blk 0 [.ref 6, .ref 7, .ref 8, .val (.int .i64 r16.2.2.2.2.1), .val (.int .i64 r16.2.2.2.2.2.1), .val (.int .u16 r16.2.2.2.2.2.2.1), .val (.int .i64 r16.2.2.2.2.2.2.2.1), .val (.int .i64 r16.2.2.2.2.2.2.2.2.1), .val (.int .i64 r16.2.2.2.2.2.2.2.2.2.1), .val (.int .i64 r16.2.2.2.2.2.2.2.2.2.2.1), .val (.int .i64 r16.2.2.2.2.2.2.2.2.2.2.2.1), .val (.int .i64 r16.2.2.2.2.2.2.2.2.2.2.2.2.1), .val (.int .i64 r16.2.2.2.2.2.2.2.2.2.2.2.2.2.1), .val (.int .i64 r16.2.2.2.2.2.2.2.2.2.2.2.2.2.2)] 215]) rfl rfl rfl Try.call164 (atT [] [(500, 6), (501, 7), (502, 8)] (ft_p_round_walker_rest h2) rfl rfl rfl) rfl rfl) trivial rfl ⟨rfl, trivial⟩ ⟨rfl, rfl, rfl, trivial⟩ rfl rfl ?_
    refine op0 (sp_assign rfl rfl) rfl trivial rfl rfl ?_
    refine TL.nil ?_
    cases h
    exact retM [(500, 6), (501, 7), (502, 8)] 4 4 [0] rfl (.tmp rfl .nil) rfl ⟨mem_at 0 rfl, mem_at 1 rfl, mem_at 2 rfl, mem_at 3 rfl, trivial⟩ rfl rfl ⟨⟨_, mem_at 4 rfl⟩, trivial⟩ rfl
  · have h := cond_f h h1
    refine TC.seq ?_
    refine TC.region ?_
    refine op0 (sp_move rfl rfl) rfl trivial rfl rfl ?_
    refine op1 2 rfl (sp_nilCheck rfl isBlk rfl) rfl trivial rfl rfl ?_
    refine op1 2 rfl (sp_fieldAddrB rfl isBlk rfl ft215_0 vt74 (by decide)) rfl trivial rfl rfl ?_
    refine op1 2 rfl (sp_fieldAddrB rfl isBlk rfl ft74_0 vt70 (by decide)) rfl trivial rfl rfl ?_
    refine op1 2 rfl (sp_loadB rfl isBlk rfl vt70 rfl) rfl trivial rfl rfl ?_
    refine op1 3 rfl (sp_lenM (N := w1.length) (len_map _ _) rfl rfl isRo Try.underlying70) rfl trivial rfl rfl ?_
    obtain ⟨h3, h⟩ := chk_inv h
    refine op0 (sp_sub rfl rfl rfl h3) rfl trivial rfl rfl ?_
    refine op0 (sp_move rfl rfl) rfl trivial rfl rfl ?_
    refine op0 (sp_buildSlice (qs := [.val (.int .i64 nn15)]) (need := []) (els := List.map en_int ([nn15] : List Int)) 9 rfl sl37 (by decide) (by decide) rfl rfl rfl (.v (.nil)) (map_len fun _ => rfl) rfl rfl rfl) rfl trivial rfl rfl ?_
    obtain ⟨r17, h4, h⟩ := bind_inv h
    refine op1 0 rfl (sp_call (avs := [.val (.int .i64 0), .val (.int .i64 ((w1.length : Int) - 1)), .ref 9]) (need := [.row 9 3 1 (List.map en_int ([nn15] : List Int))]) (v := .val (.bool r17)) (news := []) rfl rfl rfl Try.call153 (atJ [(0, 9)] [] (fc_round_within h4) rfl rfl) (.inr (fun x hx => nomatch hx))) rfl trivial rfl rfl ?_
    refine op0 (sp_not rfl rfl) rfl trivial rfl rfl ?_
    refine op0 (sp_assign rfl rfl) rfl trivial rfl rfl ?_
    refine TL.nil ?_
    refine TC.cond (b := (!r17)) rfl (fun h5 => ?_) (fun h5 => ?_)
    · have h := cond_t h h5
      refine TC.seq ?_
      refine TC.region ?_
      refine op0 (sp_assign rfl rfl) rfl trivial rfl rfl ?_
      refine TL.nil ?_
      cases h
      exact retM [(500, 1), (501, 2), (502, 3)] 1 4 [0] rfl (.tmp rfl .nil) rfl ⟨mem_at 3 rfl, mem_at 4 rfl, mem_at 5 rfl, mem_at 2 rfl, trivial⟩ rfl rfl ⟨⟨_, mem_at 1 rfl⟩, trivial⟩ rfl
    · have h := cond_f h h5
      refine TC.skip ?_
      refine TC.inBlock ?_
      refine TC.seq ?_
      refine TC.region ?_
      refine op0 (sp_move rfl rfl) rfl trivial rfl rfl ?_
      refine op0 (sp_move rfl rfl) rfl trivial rfl rfl ?_
      obtain ⟨r18, h6, h⟩ := bind_inv h
      refine opT (take := [.blk 0 [.ref 1, .ref 2, .ref 3, .val (.int .i64 w4), .val (.int .i64 w5), .val (.int .u16 w6), .val (.int .i64 w7), .val (.int .i64 w8), .val (.int .i64 w9), .val (.int .i64 w10), .val (.int .i64 w11), .val (.int .i64 w12), .val (.int .i64 w13), .val (.int .i64 w14)] 215]) (need := [.ro 1 5 (List.map en_api_RoundTower w1), .ro 2 1 (List.map en_Lint w2), .ro 3 4 (List.map en_api_RoundWinder w3)]) (V' := [.ro 10 5 (List.map en_api_RoundTower r18.2.1), .ro 11 1 (List.map en_Lint r18.2.2.1), .ro 12 4 (List.map en_api_RoundWinder r18.2.2.2.1), .blk 0 [.ref 10, .ref 11, .ref 12, .val (.int .i64 r18.2.2.2.2.1), .val (.int .i64 r18.2.2.2.2.2.1), .val (.int .u16 r18.2.2.2.2.2.2.1), .val (.int .i64 r18.2.2.2.2.2.2.2.1), .val (.int .i64 r18.2.2.2.2.2.2.2.2.1), .val (.int .i64 r18.2.2.2.2.2.2.2.2.2.1), .val (.int .i64 r18.2.2.2.2.2.2.2.2.2.2.1), .val (.int .i64 r18.2.2.2.2.2.2.2.2.2.2.2.1), .val (.int .i64 r18.2.2.2.2.2.2.2.2.2.2.2.2.1), .val (.int .i64 r18.2.2.2.2.2.2.2.2.2.2.2.2.2.1), .val (.int .i64 r18.2.2.2.2.2.2.2.2.2.2.2.2.2.2)] 215, .row 9 3 1 (List.map en_int ([nn15] : List Int)), .inv 4 (marksI []), .pin 5 0 (env0 0), .ro 1 5 (List.map en_api_RoundTower w1), .ro 2 1 (List.map en_Lint w2), .ro 3 4 (List.map en_api_RoundWinder w3)]) [3] [4, 5, 6] (ts_call (avs := [.ptr 0 0, .val (.int .i64 nn15)]) (take := [.blk 0 [.ref 1, .ref 2, .ref 3, .val (.int .i64 w4), .val (.int .i64 w5), .val (.int .u16 w6), .val (.int .i64 w7), .val (.int .i64 w8), .val (.int .i64 w9), .val (.int .i64 w10), .val (.int .i64 w11), .val (.int .i64 w12), .val (.int .i64 w13), .val (.int .i64 w14)] 215]) (need := [.ro 1 5 (List.map en_api_RoundTower w1), .ro 2 1 (List.map en_Lint w2), .ro 3 4 (List.map en_api_RoundWinder w3)]) (v := .val (.int .i64 r18.1)) (news := [.ro 10 5 (List.map en_api_RoundTower r18.2.1), .ro 11 1 (List.map en_Lint r18.2.2.1), .ro 12 4 (List.map en_api_RoundWinder r18.2.2.2.1), .blk 0 [.ref 10, .ref 11, .ref 12, .val (.int .i64 r18.2.2.2.2.1), .val (.int .i64 r18.2.2.2.2.2.1), .val (.int .u16 r18.2.2.2.2.2.2.1), .val (.int .i64 r18.2.2.2.2.2.2.2.1), .val (.int .i64 r18.2.2.2.2.2.2.2.2.1), .val (.int .i64 r18.2.2.2.2.2.2.2.2.2.1), .val (.int .i64 r18.2.2.2.2.2.2.2.2.2.2.1), .val (.int .i64 r18.2.2.2.2.2.2.2.2.2.2.2.1), .val (.int .i64 r18.2.2.2.2.2.2.2.2.2.2.2.2.1), .val (.int .i64 r18.2.2.2.2.2.2.2.2.2.2.2.2.2.1), .val (.int .i64 r18.2.2.2.2.2.2.2.2.2.2.2.2.2.2)] 215]) rfl rfl rfl Try.call165 (atT [] [(500, 10), (501, 11), (502, 12)] (ft_p_round_walker_visit h6) rfl rfl rfl) rfl rfl) trivial rfl ⟨rfl, trivial⟩ ⟨rfl, rfl, rfl, trivial⟩ rfl rfl ?_
      refine op0 (sp_assign rfl rfl) rfl trivial rfl rfl ?_
      refine TL.nil ?_
      cases h
      exact retM [(500, 10), (501, 11), (502, 12)] 5 4 [0] rfl (.tmp rfl .nil) rfl ⟨mem_at 0 rfl, mem_at 1 rfl, mem_at 2 rfl, mem_at 3 rfl, trivial⟩ rfl rfl ⟨⟨_, mem_at 5 rfl⟩, trivial⟩ rfl
end
end Go.Proofs.Ytmgcinejodpopaa.Sy
