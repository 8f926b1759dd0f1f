/- What functions of the program compute, and that they do: printed by symgen.py. -/
import Derived.Test.YtohjpfkcahlfkaaPlGLib
set_option linter.unusedSimpArgs false
set_option linter.unusedVariables false
namespace Go.Proofs.Ytohjpfkcahlfkaa.Sy
open Go.RowKit
noncomputable section
set_option maxRecDepth 100000
set_option maxHeartbeats 2000000
def ev_round_areWays_1 (n : Nat) (row1 : List Int) (c2 : Int) : Option Bool :=
  some ((row1.length : Int) != c2)
theorem fc_round_areWays_1 {n : Nat} {row1 : List Int} {c2 : Int} {r : Bool} (h : ev_round_areWays_1 n row1 c2 = some r) : FC Try.prog 76 [.ref 0, .ptr 1 0] [.ro 0 1 (List.map en_int row1), .rob 1 [vi c2] 3] (.val (.bool r)) [] := by
  refine introJ (nz := 8) Try.func76 rfl rfl rfl (fun w0 R0 env0 => ?_)
  rw [ev_round_areWays_1] at h
  refine TC.seq ?_
  refine TC.region ?_
  refine op0 (sp_assign rfl rfl) rfl trivial rfl rfl ?_
  refine TL.nil ?_
  refine TC.seq ?_
  refine TC.region ?_
  refine op0 (sp_move rfl rfl) rfl trivial rfl rfl ?_
  refine op1 0 rfl (sp_lenM (N := row1.length) (len_map _ _) rfl rfl isRo Try.underlying30) rfl trivial rfl rfl ?_
  refine op1 1 rfl (sp_loadB rfl isRob rfl vt3 rfl) rfl trivial rfl rfl ?_
  refine op0 (sp_neq rfl rfl rfl) rfl trivial rfl rfl ?_
  refine op0 (sp_assign rfl rfl) rfl trivial rfl rfl ?_
  refine TL.nil ?_
  cases h
  exact retJ [] (.tmp rfl .nil) rfl trivial rfl rfl
def ev_slices_IndexFunc_LLint_Lint_l0 (n : Nat) (s1 : List ((List Int))) (f2 : Int) : Nat → Int → Option Int
  | 0, _ => none
  | m + 1, i3 => cond (decide (i3 < (s1.length : Int))) (idx s1 i3 fun x4 => (ev_round_areWays_1 n x4 f2).bind fun r5 => cond r5 (some i3) (chk (in64 (i3 + 1)) <| ev_slices_IndexFunc_LLint_Lint_l0 n s1 f2 m (i3 + 1))) (some (-1))
theorem ok_slices_IndexFunc_LLint_Lint_l0 {n : Nat} {w0 : World} {R0 : Nat → Prop} {env0 : Env} {r : Int} {s1 : List ((List Int))} {f2 : Int} : ∀ (m : Nat) (i3 : Int), ev_slices_IndexFunc_LLint_Lint_l0 n s1 f2 m i3 = some r → TC Try.prog ⟨w0, fun _ => False, R0⟩ 19 (bodyPost Try.prog Try.f88 (Post ⟨w0, fun _ => False, R0⟩ env0 (vi r) [])) [.code (sub (bodyOf Try.f88) [1, 0, 1, 0, 0, 0]), .code (sub (bodyOf Try.f88) [1, 0, 1, 0, 0, 1]), .inLoop (sub (bodyOf Try.f88) [1, 0, 1, 0, 0]), .inBlock 0, .code (sub (bodyOf Try.f88) [1, 1])] ([(0, .ref 0), (1, .fn 76 [] [.ptr 1 0]), (7, vi (s1.length : Int)), (8, vi i3)]) ([.ro 0 1 (List.map en_Lint s1), .rob 1 [vi f2] 3]) := by
  intro m
  induction m with
  | zero => intro i3 h; exact none_no h
  | succ m ih =>
    intro i3 h
    rw [ev_slices_IndexFunc_LLint_Lint_l0] at h
    refine TC.region ?_
    refine op0 (sp_lss rfl rfl rfl) rfl trivial rfl rfl ?_
    refine TL.nil ?_
    refine TC.seq ?_
    refine TC.cond (b := (decide (i3 < (s1.length : Int)))) rfl (fun h1 => ?_) (fun h1 => ?_)
    · have h := cond_t h h1
      refine TC.skip ?_
      refine TC.seq ?_
      refine TC.block ?_
      refine TC.seq ?_
      refine TC.region ?_
      refine op0 (sp_move rfl rfl) rfl trivial rfl rfl ?_
      refine op0 (sp_assign rfl rfl) rfl trivial rfl rfl ?_
      refine TL.nil ?_
      refine TC.seq ?_
      refine TC.region ?_
      refine op0 (sp_move rfl rfl) rfl trivial rfl rfl ?_
      refine op0 (sp_move rfl rfl) rfl trivial rfl rfl ?_
      refine op0 (sp_move rfl rfl) rfl trivial rfl rfl ?_
      obtain ⟨x4, h2, h3, h⟩ := idx_inv h
      refine op1 0 rfl (sp_indexS rfl rfl rfl isRo sl23 h2 (map_get _ h3)) rfl trivial rfl rfl ?_
      refine op1 0 rfl (sp_loadR (i := (i3 : Int).toNat) (j := 0) (ns := [.ro 2 1 (List.map en_int x4)]) rfl rfl isRo vt30 rfl (map_get _ h3) rfl (.s (.nil)) (nodup_of_B rfl)) rfl trivial rfl rfl ?_
      obtain ⟨r5, h4, h⟩ := bind_inv h
      refine opN (need := [.ro 2 1 (List.map en_int x4), .rob 1 [vi f2] 3]) [0, 2] ⟨rfl, rfl, trivial⟩ (sp_call (avs := [.ref 2]) (need := [.ro 2 1 (List.map en_int x4), .rob 1 [vi f2] 3]) (v := .val (.bool r5)) (news := []) rfl rfl rfl Try.call76 (atJ [(0, 2)] [] (fc_round_areWays_1 h4) rfl rfl) (.inl (roAll rfl))) rfl trivial rfl rfl ?_
      refine TL.nil ?_
      refine TC.cond (b := r5) rfl (fun h5 => ?_) (fun h5 => ?_)
      · have h := cond_t h h5
        refine TC.seq ?_
        refine TC.region ?_
        refine op0 (sp_move rfl rfl) rfl trivial rfl rfl ?_
        refine op0 (sp_assign rfl rfl) rfl trivial rfl rfl ?_
        refine TL.nil ?_
        cases h
        exact retJ [] (.tmp rfl .nil) rfl trivial rfl rfl
      · have h := cond_f h h5
        refine TC.skip ?_
        refine TC.inBlock ?_
        refine TC.region ?_
        obtain ⟨h6, h⟩ := chk_inv h
        refine op0 (sp_add rfl rfl rfl h6) rfl trivial rfl rfl ?_
        refine op0 (sp_move rfl rfl) rfl trivial rfl rfl ?_
        refine TL.nil ?_
        refine TC.inLoop ?_
        refine TC.seq ?_
        refine subJ [] (ih _ h) ?_ ?_ ?_
        · exact ⟨rfl, rfl, rfl, rfl, trivial⟩
        · exact ⟨mem_at 1 rfl, mem_at 2 rfl, trivial⟩
        · rfl
    · have h := cond_f h h1
      refine TC.exit rfl ?_
      refine TC.seq ?_
      refine TC.region ?_
      refine op0 (sp_assign rfl rfl) rfl trivial rfl rfl ?_
      refine TL.nil ?_
      cases h
      exact retJ [] (.tmp rfl .nil) rfl trivial rfl rfl
def ev_slices_IndexFunc_LLint_Lint (n : Nat) (s1 : List ((List Int))) (f2 : Int) : Option Int :=
  ev_slices_IndexFunc_LLint_Lint_l0 n s1 f2 n 0
theorem fc_slices_IndexFunc_LLint_Lint {n : Nat} {s1 : List ((List Int))} {f2 : Int} {r : Int} (h : ev_slices_IndexFunc_LLint_Lint n s1 f2 = some r) : FC Try.prog 88 [.ref 0, .fn 76 [] [.ptr 1 0]] [.ro 0 1 (List.map en_Lint s1), .rob 1 [vi f2] 3] (vi r) [] := by
  refine introJ (nz := 19) Try.func88 rfl rfl rfl (fun w0 R0 env0 => ?_)
  rw [ev_slices_IndexFunc_LLint_Lint] at h
  refine TC.seq ?_
  refine TC.region ?_
  refine op0 (sp_assign rfl rfl) rfl trivial rfl rfl ?_
  refine TL.nil ?_
  refine TC.seq ?_
  refine TC.seq ?_
  refine TC.region ?_
  refine op0 (sp_move rfl rfl) rfl trivial rfl rfl ?_
  refine op1 0 rfl (sp_lenM (N := s1.length) (len_map _ _) rfl rfl isRo Try.underlying23) rfl trivial rfl rfl ?_
  refine op0 (sp_move rfl rfl) rfl trivial rfl rfl ?_
  refine TL.nil ?_
  refine TC.block ?_
  refine TC.loop ?_
  refine TC.seq ?_
  refine subJ [] (ok_slices_IndexFunc_LLint_Lint_l0 _ _ h) ?_ ?_ ?_
  · exact ⟨rfl, rfl, rfl, rfl, trivial⟩
  · exact ⟨mem_at 0 rfl, mem_at 1 rfl, trivial⟩
  · rfl
def ev_slices_ContainsFunc_LLint_Lint (n : Nat) (s1 : List ((List Int))) (f2 : Int) : Option Bool :=
  (ev_slices_IndexFunc_LLint_Lint n s1 f2).bind fun r3 => some (decide ((0 : Int) ≤ r3))
theorem fc_slices_ContainsFunc_LLint_Lint {n : Nat} {s1 : List ((List Int))} {f2 : Int} {r : Bool} (h : ev_slices_ContainsFunc_LLint_Lint n s1 f2 = some r) : FC Try.prog 75 [.ref 0, .fn 76 [] [.ptr 1 0]] [.ro 0 1 (List.map en_Lint s1), .rob 1 [vi f2] 3] (.val (.bool r)) [] := by
  refine introJ (nz := 9) Try.func75 rfl rfl rfl (fun w0 R0 env0 => ?_)
  rw [ev_slices_ContainsFunc_LLint_Lint] at h
  refine TC.seq ?_
  refine TC.region ?_
  refine op0 (sp_assign rfl rfl) rfl trivial rfl rfl ?_
  refine TL.nil ?_
  refine TC.seq ?_
  refine TC.region ?_
  refine op0 (sp_move rfl rfl) rfl trivial rfl rfl ?_
  refine op0 (sp_move rfl rfl) rfl trivial rfl rfl ?_
  obtain ⟨r3, h1, h⟩ := bind_inv h
  refine opN (need := [.ro 0 1 (List.map en_Lint s1), .rob 1 [vi f2] 3]) [0, 1] ⟨rfl, rfl, trivial⟩ (sp_call (avs := [.ref 0, .fn 76 [] [.ptr 1 0]]) (need := [.ro 0 1 (List.map en_Lint s1), .rob 1 [vi f2] 3]) (v := vi r3) (news := []) rfl rfl rfl Try.call88 (atJ [] [] (fc_slices_IndexFunc_LLint_Lint h1) rfl rfl) (.inl (roAll rfl))) rfl trivial rfl rfl ?_
  refine op0 (sp_geq rfl rfl rfl) rfl trivial rfl rfl ?_
  refine op0 (sp_assign rfl rfl) rfl trivial rfl rfl ?_
  refine TL.nil ?_
  cases h
  exact retJ [] (.tmp rfl .nil) rfl trivial rfl rfl
def ev_round_areWays (n : Nat) (rr1 : List (Int × Int × Int × Int × Int)) (rr2 : List ((List Int))) (rr3 : List (Int × Int × Int × Int)) (rr4 : Int) (rr5 : Int) : Option Bool :=
  chk (in64 ((rr1.length : Int) + 1)) <| cond ((rr2.length : Int) == ((rr1.length : Int) + 1)) ((ev_slices_ContainsFunc_LLint_Lint n rr2 ((rr1.length : Int) + 1)).bind fun r6 => some (!r6)) (some false)
theorem fc_round_areWays {n : Nat} {rr1 : List (Int × Int × Int × Int × Int)} {rr2 : List ((List Int))} {rr3 : List (Int × Int × Int × Int)} {rr4 : Int} {rr5 : Int} {r : Bool} (h : ev_round_areWays n rr1 rr2 rr3 rr4 rr5 = some r) : FC Try.prog 47 [.agg [.ref 0, .ref 1, .ref 2, vi rr4, vi rr5]] [.ro 0 5 (List.map en_api_RoundTower rr1), .ro 1 1 (List.map en_Lint rr2), .ro 2 4 (List.map en_api_RoundWinder rr3)] (.val (.bool r)) [] := by
  refine introJ (nz := 20) Try.func47 rfl rfl rfl (fun w0 R0 env0 => ?_)
  rw [ev_round_areWays] at h
  refine TC.seq ?_
  refine TC.region ?_
  refine op0 (sp_box 3 rfl rfl rfl rfl rfl) rfl trivial rfl rfl ?_
  refine op0 (sp_assign rfl rfl) rfl trivial rfl rfl ?_
  refine TL.nil ?_
  refine TC.seq ?_
  refine TC.region ?_
  refine op1 0 rfl (sp_fieldAddrB rfl isBlk rfl ft26_0 vt22 (by decide)) rfl trivial rfl rfl ?_
  refine op1 0 rfl (sp_loadB rfl isBlk rfl vt22 rfl) rfl trivial rfl rfl ?_
  refine op1 1 rfl (sp_lenM (N := rr1.length) (len_map _ _) rfl rfl isRo Try.underlying22) rfl trivial rfl rfl ?_
  obtain ⟨h1, h⟩ := chk_inv h
  refine op0 (sp_add rfl rfl rfl h1) rfl trivial rfl rfl ?_
  refine op0 (sp_alloc 4 rfl Try.zeroValue3 rfl) rfl trivial rfl rfl ?_
  refine stoB 0 (cells' := [vi ((rr1.length : Int) + 1)]) rfl rfl trivial rfl rfl rfl rfl vt3 rfl rfl rfl ?_
  refine TL.nil ?_
  refine TC.seq ?_
  refine TC.region ?_
  refine op1 1 rfl (sp_fieldAddrB rfl isBlk rfl ft26_1 vt23 (by decide)) rfl trivial rfl rfl ?_
  refine op1 1 rfl (sp_loadB rfl isBlk rfl vt23 rfl) rfl trivial rfl rfl ?_
  refine op1 3 rfl (sp_lenM (N := rr2.length) (len_map _ _) rfl rfl isRo Try.underlying23) rfl trivial rfl rfl ?_
  refine op1 0 rfl (sp_loadB rfl isBlk rfl vt3 rfl) rfl trivial rfl rfl ?_
  refine op0 (sp_eql rfl rfl rfl) rfl trivial rfl rfl ?_
  refine op0 (sp_move rfl rfl) rfl trivial rfl rfl ?_
  rcases cond_cases h with ⟨h2, h⟩ | ⟨h2, h⟩
  · refine (boolLit 13 rfl h2).2 ?_
    refine op1 1 rfl (sp_fieldAddrB rfl isBlk rfl ft26_1 vt23 (by decide)) rfl ⟨_, rfl, rfl⟩ rfl rfl ?_
    refine op1 1 rfl (sp_loadB rfl isBlk rfl vt23 rfl) rfl ⟨_, rfl, rfl⟩ rfl rfl ?_
    refine op0 (sp_makeFunc (fi := []) (ca := [.tmp 3]) (fa := []) (cb := [.ptr 4 0]) rfl rfl rfl) rfl ⟨_, rfl, rfl⟩ rfl rfl ?_
    obtain ⟨r6, h3, h⟩ := bind_inv h
    refine opN (need := [.ro 1 1 (List.map en_Lint rr2), .blk 4 [vi ((rr1.length : Int) + 1)] 3]) [3, 0] ⟨rfl, rfl, trivial⟩ (sp_call (avs := [.ref 1, .fn 76 [] [.ptr 4 0]]) (need := [.ro 1 1 (List.map en_Lint rr2), .blk 4 [vi ((rr1.length : Int) + 1)] 3]) (v := .val (.bool r6)) (news := []) rfl rfl rfl Try.call75 (atJ [(0, 1), (1, 4)] [] (fc_slices_ContainsFunc_LLint_Lint h3) rfl rfl) (.inr (fun x hx => nomatch hx))) rfl ⟨_, rfl, rfl⟩ rfl rfl ?_
    refine op0 (sp_not rfl rfl) rfl ⟨_, rfl, rfl⟩ rfl rfl ?_
    refine op0 (sp_pickT rfl rfl rfl) rfl trivial rfl rfl ?_
    refine op0 (sp_assign rfl rfl) rfl trivial rfl rfl ?_
    refine TL.nil ?_
    cases h
    exact retJ [] (.tmp rfl .nil) rfl trivial rfl rfl
  · refine (boolLit 13 rfl h2).2 ?_
    refine opSkip rfl ⟨_, rfl, .inl rfl⟩ rfl ?_
    refine opSkip rfl ⟨_, rfl, .inl rfl⟩ rfl ?_
    refine opSkip rfl ⟨_, rfl, .inl rfl⟩ rfl ?_
    refine opSkip rfl ⟨_, rfl, .inl rfl⟩ rfl ?_
    refine opSkip rfl ⟨_, rfl, .inl rfl⟩ rfl ?_
    refine op0 (sp_pickF rfl rfl rfl) rfl trivial rfl rfl ?_
    refine op0 (sp_assign rfl rfl) rfl trivial rfl rfl ?_
    refine TL.nil ?_
    cases h
    exact retJ [] (.tmp rfl .nil) rfl trivial rfl rfl
def ev_round_within_1 (n : Nat) (nn1 : Int) (c2 : Int) (c3 : Int) : Option Bool :=
  cond (decide (nn1 < c2)) (some true) (some (decide (c3 < nn1)))
theorem fc_round_within_1 {n : Nat} {nn1 : Int} {c2 : Int} {c3 : Int} {r : Bool} (h : ev_round_within_1 n nn1 c2 c3 = some r) : FC Try.prog 78 [vi nn1, .ptr 0 0, .ptr 1 0] [.rob 0 [vi c2] 3, .rob 1 [vi c3] 3] (.val (.bool r)) [] := by
  refine introJ (nz := 13) Try.func78 rfl rfl rfl (fun w0 R0 env0 => ?_)
  rw [ev_round_within_1] at h
  refine TC.seq ?_
  refine TC.region ?_
  refine op0 (sp_assign rfl rfl) rfl trivial rfl rfl ?_
  refine TL.nil ?_
  refine TC.seq ?_
  refine TC.region ?_
  refine op0 (sp_move rfl rfl) rfl trivial rfl rfl ?_
  refine op1 0 rfl (sp_loadB rfl isRob rfl vt3 rfl) rfl trivial rfl rfl ?_
  refine op0 (sp_lss rfl rfl rfl) rfl trivial rfl rfl ?_
  refine op0 (sp_move rfl rfl) rfl trivial rfl rfl ?_
  rcases cond_cases h with ⟨h1, h⟩ | ⟨h1, h⟩
  · refine (boolLit 8 rfl h1).2 ?_
    refine opSkip rfl ⟨_, rfl, .inl rfl⟩ rfl ?_
    refine opSkip rfl ⟨_, rfl, .inl rfl⟩ rfl ?_
    refine opSkip rfl ⟨_, rfl, .inl rfl⟩ rfl ?_
    refine op0 (sp_pickT rfl rfl rfl) rfl trivial rfl rfl ?_
    refine op0 (sp_assign rfl rfl) rfl trivial rfl rfl ?_
    refine TL.nil ?_
    cases h
    exact retJ [] (.tmp rfl .nil) rfl trivial rfl rfl
  · refine (boolLit 8 rfl h1).2 ?_
    refine op0 (sp_move rfl rfl) rfl ⟨_, rfl, rfl⟩ rfl rfl ?_
    refine op1 1 rfl (sp_loadB rfl isRob rfl vt3 rfl) rfl ⟨_, rfl, rfl⟩ rfl rfl ?_
    refine op0 (sp_gtr rfl rfl rfl) rfl ⟨_, rfl, rfl⟩ rfl rfl ?_
    refine op0 (sp_pickF rfl rfl rfl) rfl trivial rfl rfl ?_
    refine op0 (sp_assign rfl rfl) rfl trivial rfl rfl ?_
    refine TL.nil ?_
    cases h
    exact retJ [] (.tmp rfl .nil) rfl trivial rfl rfl
def ev_round_within (n : Nat) (least1 : Int) (most2 : Int) (l3 : List Int) : Option Bool :=
  (ev_slices_ContainsFunc_Lint_int n l3 (fun a => ev_round_within_1 n a least1 most2)).bind fun r4 => some (!r4)
theorem fc_round_within {n : Nat} {least1 : Int} {most2 : Int} {l3 : List Int} {r : Bool} (h : ev_round_within n least1 most2 l3 = some r) : FC Try.prog 48 [vi least1, vi most2, .ref 0] [.ro 0 1 (List.map en_int l3)] (.val (.bool r)) [] := by
  refine introJ (nz := 11) Try.func48 rfl rfl rfl (fun w0 R0 env0 => ?_)
  rw [ev_round_within] at h
  refine TC.seq ?_
  refine TC.region ?_
  refine op0 (sp_box 1 rfl rfl rfl rfl rfl) rfl trivial rfl rfl ?_
  refine op0 (sp_box 2 rfl rfl rfl rfl rfl) rfl trivial rfl rfl ?_
  refine op0 (sp_assign rfl rfl) rfl trivial rfl rfl ?_
  refine TL.nil ?_
  refine TC.seq ?_
  refine TC.region ?_
  refine op0 (sp_move rfl rfl) rfl trivial rfl rfl ?_
  refine op0 (sp_makeFunc (fi := []) (ca := [.tmp 3, .tmp 4]) (fa := []) (cb := [.ptr 1 0, .ptr 2 0]) rfl rfl rfl) rfl trivial rfl rfl ?_
  obtain ⟨r4, h1, h⟩ := bind_inv h
  refine opN (need := [.ro 0 1 (List.map en_int l3), .blk 1 [vi least1] 3, .blk 2 [vi most2] 3]) [2, 1, 0] ⟨rfl, rfl, rfl, trivial⟩ (sp_call (avs := [.ref 0, .fn 78 [] [.ptr 1 0, .ptr 2 0]]) (need := [.ro 0 1 (List.map en_int l3), .blk 1 [vi least1] 3, .blk 2 [vi most2] 3]) (v := .val (.bool r4)) (news := []) rfl rfl rfl Try.call77 (FC.needJ (need := [.ro 0 1 (List.map en_int l3), .rob 1 [vi least1] 3, .rob 2 [vi most2] 3]) (need' := [.rob 1 [vi least1] 3, .rob 2 [vi most2] 3, .ro 0 1 (List.map en_int l3)]) [1, 2, 0] ⟨rfl, rfl, rfl, trivial⟩ (FC.fnArg (args := [.ref 0, .ref 3]) (needC := [.rob 1 [vi least1] 3, .rob 2 [vi most2] 3]) (need := [.ro 0 1 (List.map en_int l3)]) 1 (first := []) (caps := [.ptr 1 0, .ptr 2 0]) (FC.needJ (need := [.any 3 (D.fn Try.prog fe_funcint_bool fd_funcint_bool (fun a => ev_round_within_1 n a least1 most2)), .ro 0 1 (List.map en_int l3)]) (need' := [.ro 0 1 (List.map en_int l3), .any 3 (D.fn Try.prog fe_funcint_bool fd_funcint_bool (fun a => ev_round_within_1 n a least1 most2))]) [1, 0] ⟨rfl, rfl, trivial⟩ (atJ [(1, 3)] [] (fc_slices_ContainsFunc_Lint_int h1) rfl rfl)) rfl Try.call78 (fun a b hab => atJ [(0, 1), (1, 2)] [] (fc_round_within_1 hab) rfl rfl) rfl (fun _ => rfl) (fun _ => rfl) rfl rfl rfl rfl rfl rfl rfl)) (.inr (fun x hx => nomatch hx))) rfl trivial rfl rfl ?_
  refine op0 (sp_not rfl rfl) rfl trivial rfl rfl ?_
  refine op0 (sp_assign rfl rfl) rfl trivial rfl rfl ?_
  refine TL.nil ?_
  cases h
  exact retJ [] (.tmp rfl .nil) rfl trivial rfl rfl
def ev_round_not_api_RoundTower (n : Nat) (is1 : (Int × Int × Int × Int × Int) → Option Bool) : Option (((Int × Int × Int × Int × Int) → Option Bool)) :=
  some is1
theorem fc_round_not_api_RoundTower {n : Nat} {is1 : (Int × Int × Int × Int × Int) → Option Bool} {r : ((Int × Int × Int × Int × Int) → Option Bool)} (h : ev_round_not_api_RoundTower n is1 = some r) : FC Try.prog 50 [.ref 0] [.any 0 (D.fn Try.prog fe_funcapi_RoundTower_bool fd_funcapi_RoundTower_bool is1)] (.fn 80 [] [.ptr 0 0]) [.blk 0 [.ref 1] 118, .any 1 (D.fn Try.prog fe_funcapi_RoundTower_bool fd_funcapi_RoundTower_bool r)] := by
  refine introJ (nz := 4) Try.func50 rfl rfl rfl (fun w0 R0 env0 => ?_)
  rw [ev_round_not_api_RoundTower] at h
  refine TC.seq ?_
  refine TC.region ?_
  refine op0 (sp_box 1 rfl rfl rfl rfl rfl) rfl trivial rfl rfl ?_
  refine op0 (sp_assign rfl rfl) rfl trivial rfl rfl ?_
  refine TL.nil ?_
  refine TC.seq ?_
  refine TC.region ?_
  refine op0 (sp_makeFunc (fi := []) (ca := [.tmp 1]) (fa := []) (cb := [.ptr 1 0]) rfl rfl rfl) rfl trivial rfl rfl ?_
  refine op0 (sp_assign rfl rfl) rfl trivial rfl rfl ?_
  refine TL.nil ?_
  cases h
  exact retJ [(0, 1), (1, 0)] (.tmp rfl .nil) rfl ⟨mem_at 0 rfl, mem_at 1 rfl, trivial⟩ rfl rfl
def ev_round_isTower (n : Nat) (t1 : Int) (t2 : Int) (t3 : Int) (t4 : Int) (t5 : Int) : Option Bool :=
  (ev_round_within n 0 120 ([t1, t2] : List Int)).bind fun r6 => cond r6 ((ev_round_within n 0 1000 ([t4] : List Int)).bind fun r7 => cond r7 ((ev_round_within n 1 30 ([t5] : List Int)).bind fun r8 => some r8) (some false)) (some false)
theorem fc_round_isTower {n : Nat} {t1 : Int} {t2 : Int} {t3 : Int} {t4 : Int} {t5 : Int} {r : Bool} (h : ev_round_isTower n t1 t2 t3 t4 t5 = some r) : FC Try.prog 51 [.agg [vi t1, vi t2, .val (.int .u16 t3), vi t4, vi t5]] [] (.val (.bool r)) [] := by
  refine introJ (nz := 21) Try.func51 rfl rfl rfl (fun w0 R0 env0 => ?_)
  rw [ev_round_isTower] at h
  refine TC.seq ?_
  refine TC.region ?_
  refine op0 (sp_box 0 rfl rfl rfl rfl rfl) rfl trivial rfl rfl ?_
  refine op0 (sp_assign rfl rfl) rfl trivial rfl rfl ?_
  refine TL.nil ?_
  refine TC.seq ?_
  refine TC.region ?_
  refine op1 0 rfl (sp_fieldAddrB rfl isBlk rfl ft46_0 vt3 (by decide)) rfl trivial rfl rfl ?_
  refine op1 0 rfl (sp_loadB rfl isBlk rfl vt3 rfl) rfl trivial rfl rfl ?_
  refine op1 0 rfl (sp_fieldAddrB rfl isBlk rfl ft46_1 vt3 (by decide)) rfl trivial rfl rfl ?_
  refine op1 0 rfl (sp_loadB rfl isBlk rfl vt3 rfl) rfl trivial rfl rfl ?_
  refine op0 (sp_buildSlice (qs := [vi t1, vi t2]) (need := []) (els := List.map en_int ([t1, t2] : List Int)) 1 rfl sl30 (by decide) (by decide) rfl rfl rfl (.v (.v (.nil))) (map_len fun _ => rfl) rfl rfl rfl) rfl trivial rfl rfl ?_
  obtain ⟨r6, h1, h⟩ := bind_inv h
  refine op1 0 rfl (sp_call (avs := [vi 0, vi 120, .ref 1]) (need := [.row 1 3 1 (List.map en_int ([t1, t2] : List Int))]) (v := .val (.bool r6)) (news := []) rfl rfl rfl Try.call48 (atJ [(0, 1)] [] (fc_round_within h1) rfl rfl) (.inr (fun x hx => nomatch hx))) rfl trivial rfl rfl ?_
  refine op0 (sp_move rfl rfl) rfl trivial rfl rfl ?_
  rcases cond_cases h with ⟨h2, h⟩ | ⟨h2, h⟩
  · refine (boolLit 9 rfl h2).2 ?_
    refine op1 1 rfl (sp_fieldAddrB rfl isBlk rfl ft46_3 vt3 (by decide)) rfl ⟨_, rfl, rfl⟩ rfl rfl ?_
    refine op1 1 rfl (sp_loadB rfl isBlk rfl vt3 rfl) rfl ⟨_, rfl, rfl⟩ rfl rfl ?_
    refine op0 (sp_buildSlice (qs := [vi t4]) (need := []) (els := List.map en_int ([t4] : List Int)) 2 rfl sl30 (by decide) (by decide) rfl rfl rfl (.v (.nil)) (map_len fun _ => rfl) rfl rfl rfl) rfl ⟨_, rfl, rfl⟩ rfl rfl ?_
    obtain ⟨r7, h3, h⟩ := bind_inv h
    refine op1 0 rfl (sp_call (avs := [vi 0, vi 1000, .ref 2]) (need := [.row 2 3 1 (List.map en_int ([t4] : List Int))]) (v := .val (.bool r7)) (news := []) rfl rfl rfl Try.call48 (atJ [(0, 2)] [] (fc_round_within h3) rfl rfl) (.inr (fun x hx => nomatch hx))) rfl ⟨_, rfl, rfl⟩ rfl rfl ?_
    refine op0 (sp_pickT rfl rfl rfl) rfl trivial rfl rfl ?_
    refine op0 (sp_move rfl rfl) rfl trivial rfl rfl ?_
    rcases cond_cases h with ⟨h4, h⟩ | ⟨h4, h⟩
    · refine (boolLit 15 rfl h4).2 ?_
      refine op1 2 rfl (sp_fieldAddrB rfl isBlk rfl ft46_4 vt3 (by decide)) rfl ⟨_, rfl, rfl⟩ rfl rfl ?_
      refine op1 2 rfl (sp_loadB rfl isBlk rfl vt3 rfl) rfl ⟨_, rfl, rfl⟩ rfl rfl ?_
      refine op0 (sp_buildSlice (qs := [vi t5]) (need := []) (els := List.map en_int ([t5] : List Int)) 3 rfl sl30 (by decide) (by decide) rfl rfl rfl (.v (.nil)) (map_len fun _ => rfl) rfl rfl rfl) rfl ⟨_, rfl, rfl⟩ rfl rfl ?_
      obtain ⟨r8, h5, h⟩ := bind_inv h
      refine op1 0 rfl (sp_call (avs := [vi 1, vi 30, .ref 3]) (need := [.row 3 3 1 (List.map en_int ([t5] : List Int))]) (v := .val (.bool r8)) (news := []) rfl rfl rfl Try.call48 (atJ [(0, 3)] [] (fc_round_within h5) rfl rfl) (.inr (fun x hx => nomatch hx))) rfl ⟨_, rfl, rfl⟩ rfl rfl ?_
      refine op0 (sp_pickT rfl rfl rfl) rfl trivial rfl rfl ?_
      refine op0 (sp_assign rfl rfl) rfl trivial rfl rfl ?_
      refine TL.nil ?_
      cases h
      exact retJ [] (.tmp rfl .nil) rfl trivial rfl rfl
    · refine (boolLit 15 rfl h4).2 ?_
      refine opSkip rfl ⟨_, rfl, .inl rfl⟩ rfl ?_
      refine opSkip rfl ⟨_, rfl, .inl rfl⟩ rfl ?_
      refine opSkip rfl ⟨_, rfl, .inl rfl⟩ rfl ?_
      refine opSkip rfl ⟨_, rfl, .inl rfl⟩ rfl ?_
      refine op0 (sp_pickF rfl rfl rfl) rfl trivial rfl rfl ?_
      refine op0 (sp_assign rfl rfl) rfl trivial rfl rfl ?_
      refine TL.nil ?_
      cases h
      exact retJ [] (.tmp rfl .nil) rfl trivial rfl rfl
  · refine (boolLit 9 rfl h2).2 ?_
    refine opSkip rfl ⟨_, rfl, .inl rfl⟩ rfl ?_
    refine opSkip rfl ⟨_, rfl, .inl rfl⟩ rfl ?_
    refine opSkip rfl ⟨_, rfl, .inl rfl⟩ rfl ?_
    refine opSkip rfl ⟨_, rfl, .inl rfl⟩ rfl ?_
    refine op0 (sp_pickF rfl rfl rfl) rfl trivial rfl rfl ?_
    refine op0 (sp_move rfl rfl) rfl trivial rfl rfl ?_
    refine opSkip rfl ⟨_, rfl, .inl rfl⟩ rfl ?_
    refine opSkip rfl ⟨_, rfl, .inl rfl⟩ rfl ?_
    refine opSkip rfl ⟨_, rfl, .inl rfl⟩ rfl ?_
    refine opSkip rfl ⟨_, rfl, .inl rfl⟩ rfl ?_
    refine op0 (sp_pickF rfl rfl rfl) rfl trivial rfl rfl ?_
    refine op0 (sp_assign rfl rfl) rfl trivial rfl rfl ?_
    refine TL.nil ?_
    cases h
    exact retJ [] (.tmp rfl .nil) rfl trivial rfl rfl
def ev_round_not_api_RoundTower_1 (n : Nat) (x1 : Int) (x2 : Int) (x3 : Int) (x4 : Int) (x5 : Int) (c6 : (Int × Int × Int × Int × Int) → Option Bool) : Option Bool :=
  (c6 (x1, x2, x3, x4, x5)).bind fun r7 => some (!r7)
theorem fc_round_not_api_RoundTower_1 {n : Nat} {x1 : Int} {x2 : Int} {x3 : Int} {x4 : Int} {x5 : Int} {c6 : (Int × Int × Int × Int × Int) → Option Bool} {r : Bool} (h : ev_round_not_api_RoundTower_1 n x1 x2 x3 x4 x5 c6 = some r) : FC Try.prog 80 [.agg [vi x1, vi x2, .val (.int .u16 x3), vi x4, vi x5], .ptr 0 0] [.rob 0 [.ref 1] 118, .any 1 (D.fn Try.prog fe_funcapi_RoundTower_bool fd_funcapi_RoundTower_bool c6)] (.val (.bool r)) [] := by
  refine introJ (nz := 8) Try.func80 rfl rfl rfl (fun w0 R0 env0 => ?_)
  rw [ev_round_not_api_RoundTower_1] at h
  refine TC.seq ?_
  refine TC.region ?_
  refine op0 (sp_box 2 rfl rfl rfl rfl rfl) rfl trivial rfl rfl ?_
  refine op0 (sp_assign rfl rfl) rfl trivial rfl rfl ?_
  refine TL.nil ?_
  refine TC.seq ?_
  refine TC.region ?_
  refine op1 1 rfl (sp_loadB rfl isRob rfl vt118 rfl) rfl trivial rfl rfl ?_
  refine op1 0 rfl (sp_loadBA rfl isBlk rfl vt46 rfl rfl) rfl trivial rfl rfl ?_
  obtain ⟨r7, h1, h⟩ := bind_inv h
  refine op1 2 rfl (sp_callF (avs := [.agg [vi x1, vi x2, .val (.int .u16 x3), vi x4, vi x5]]) (v := .val (.bool r7)) (x1, x2, x3, x4, x5) rfl rfl rfl rfl rfl h1) rfl trivial rfl rfl ?_
  refine op0 (sp_not rfl rfl) rfl trivial rfl rfl ?_
  refine op0 (sp_assign rfl rfl) rfl trivial rfl rfl ?_
  refine TL.nil ?_
  cases h
  exact retJ [] (.tmp rfl .nil) rfl trivial rfl rfl
def ev_round_not_api_RoundWinder (n : Nat) (is1 : (Int × Int × Int × Int) → Option Bool) : Option (((Int × Int × Int × Int) → Option Bool)) :=
  some is1
theorem fc_round_not_api_RoundWinder {n : Nat} {is1 : (Int × Int × Int × Int) → Option Bool} {r : ((Int × Int × Int × Int) → Option Bool)} (h : ev_round_not_api_RoundWinder n is1 = some r) : FC Try.prog 53 [.ref 0] [.any 0 (D.fn Try.prog fe_funcapi_RoundWinder_bool fd_funcapi_RoundWinder_bool is1)] (.fn 82 [] [.ptr 0 0]) [.blk 0 [.ref 1] 121, .any 1 (D.fn Try.prog fe_funcapi_RoundWinder_bool fd_funcapi_RoundWinder_bool r)] := by
  refine introJ (nz := 4) Try.func53 rfl rfl rfl (fun w0 R0 env0 => ?_)
  rw [ev_round_not_api_RoundWinder] at h
  refine TC.seq ?_
  refine TC.region ?_
  refine op0 (sp_box 1 rfl rfl rfl rfl rfl) rfl trivial rfl rfl ?_
  refine op0 (sp_assign rfl rfl) rfl trivial rfl rfl ?_
  refine TL.nil ?_
  refine TC.seq ?_
  refine TC.region ?_
  refine op0 (sp_makeFunc (fi := []) (ca := [.tmp 1]) (fa := []) (cb := [.ptr 1 0]) rfl rfl rfl) rfl trivial rfl rfl ?_
  refine op0 (sp_assign rfl rfl) rfl trivial rfl rfl ?_
  refine TL.nil ?_
  cases h
  exact retJ [(0, 1), (1, 0)] (.tmp rfl .nil) rfl ⟨mem_at 0 rfl, mem_at 1 rfl, trivial⟩ rfl rfl
def ev_round_isWinder (n : Nat) (w1 : Int) (w2 : Int) (w3 : Int) (w4 : Int) : Option Bool :=
  (ev_round_within n 0 8000 ([w2] : List Int)).bind fun r5 => cond r5 ((ev_round_within n 1 1440 ([w3, w4] : List Int)).bind fun r6 => some r6) (some false)
theorem fc_round_isWinder {n : Nat} {w1 : Int} {w2 : Int} {w3 : Int} {w4 : Int} {r : Bool} (h : ev_round_isWinder n w1 w2 w3 w4 = some r) : FC Try.prog 54 [.agg [.val (.int .u16 w1), vi w2, vi w3, vi w4]] [] (.val (.bool r)) [] := by
  refine introJ (nz := 15) Try.func54 rfl rfl rfl (fun w0 R0 env0 => ?_)
  rw [ev_round_isWinder] at h
  refine TC.seq ?_
  refine TC.region ?_
  refine op0 (sp_box 0 rfl rfl rfl rfl rfl) rfl trivial rfl rfl ?_
  refine op0 (sp_assign rfl rfl) rfl trivial rfl rfl ?_
  refine TL.nil ?_
  refine TC.seq ?_
  refine TC.region ?_
  refine op1 0 rfl (sp_fieldAddrB rfl isBlk rfl ft76_1 vt3 (by decide)) rfl trivial rfl rfl ?_
  refine op1 0 rfl (sp_loadB rfl isBlk rfl vt3 rfl) rfl trivial rfl rfl ?_
  refine op0 (sp_buildSlice (qs := [vi w2]) (need := []) (els := List.map en_int ([w2] : List Int)) 1 rfl sl30 (by decide) (by decide) rfl rfl rfl (.v (.nil)) (map_len fun _ => rfl) rfl rfl rfl) rfl trivial rfl rfl ?_
  obtain ⟨r5, h1, h⟩ := bind_inv h
  refine op1 0 rfl (sp_call (avs := [vi 0, vi 8000, .ref 1]) (need := [.row 1 3 1 (List.map en_int ([w2] : List Int))]) (v := .val (.bool r5)) (news := []) rfl rfl rfl Try.call48 (atJ [(0, 1)] [] (fc_round_within h1) rfl rfl) (.inr (fun x hx => nomatch hx))) rfl trivial rfl rfl ?_
  refine op0 (sp_move rfl rfl) rfl trivial rfl rfl ?_
  rcases cond_cases h with ⟨h2, h⟩ | ⟨h2, h⟩
  · refine (boolLit 7 rfl h2).2 ?_
    refine op1 1 rfl (sp_fieldAddrB rfl isBlk rfl ft76_2 vt3 (by decide)) rfl ⟨_, rfl, rfl⟩ rfl rfl ?_
    refine op1 1 rfl (sp_loadB rfl isBlk rfl vt3 rfl) rfl ⟨_, rfl, rfl⟩ rfl rfl ?_
    refine op1 1 rfl (sp_fieldAddrB rfl isBlk rfl ft76_3 vt3 (by decide)) rfl ⟨_, rfl, rfl⟩ rfl rfl ?_
    refine op1 1 rfl (sp_loadB rfl isBlk rfl vt3 rfl) rfl ⟨_, rfl, rfl⟩ rfl rfl ?_
    refine op0 (sp_buildSlice (qs := [vi w3, vi w4]) (need := []) (els := List.map en_int ([w3, w4] : List Int)) 2 rfl sl30 (by decide) (by decide) rfl rfl rfl (.v (.v (.nil))) (map_len fun _ => rfl) rfl rfl rfl) rfl ⟨_, rfl, rfl⟩ rfl rfl ?_
    obtain ⟨r6, h3, h⟩ := bind_inv h
    refine op1 0 rfl (sp_call (avs := [vi 1, vi 1440, .ref 2]) (need := [.row 2 3 1 (List.map en_int ([w3, w4] : List Int))]) (v := .val (.bool r6)) (news := []) rfl rfl rfl Try.call48 (atJ [(0, 2)] [] (fc_round_within h3) rfl rfl) (.inr (fun x hx => nomatch hx))) rfl ⟨_, rfl, rfl⟩ rfl rfl ?_
    refine op0 (sp_pickT rfl rfl rfl) rfl trivial rfl rfl ?_
    refine op0 (sp_assign rfl rfl) rfl trivial rfl rfl ?_
    refine TL.nil ?_
    cases h
    exact retJ [] (.tmp rfl .nil) rfl trivial rfl rfl
  · refine (boolLit 7 rfl h2).2 ?_
    refine opSkip rfl ⟨_, rfl, .inl rfl⟩ rfl ?_
    refine opSkip rfl ⟨_, rfl, .inl rfl⟩ rfl ?_
    refine opSkip rfl ⟨_, rfl, .inl rfl⟩ rfl ?_
    refine opSkip rfl ⟨_, rfl, .inl rfl⟩ rfl ?_
    refine opSkip rfl ⟨_, rfl, .inl rfl⟩ rfl ?_
    refine opSkip rfl ⟨_, rfl, .inl rfl⟩ rfl ?_
    refine op0 (sp_pickF rfl rfl rfl) rfl trivial rfl rfl ?_
    refine op0 (sp_assign rfl rfl) rfl trivial rfl rfl ?_
    refine TL.nil ?_
    cases h
    exact retJ [] (.tmp rfl .nil) rfl trivial rfl rfl
def ev_round_not_api_RoundWinder_1 (n : Nat) (x1 : Int) (x2 : Int) (x3 : Int) (x4 : Int) (c5 : (Int × Int × Int × Int) → Option Bool) : Option Bool :=
  (c5 (x1, x2, x3, x4)).bind fun r6 => some (!r6)
theorem fc_round_not_api_RoundWinder_1 {n : Nat} {x1 : Int} {x2 : Int} {x3 : Int} {x4 : Int} {c5 : (Int × Int × Int × Int) → Option Bool} {r : Bool} (h : ev_round_not_api_RoundWinder_1 n x1 x2 x3 x4 c5 = some r) : FC Try.prog 82 [.agg [.val (.int .u16 x1), vi x2, vi x3, vi x4], .ptr 0 0] [.rob 0 [.ref 1] 121, .any 1 (D.fn Try.prog fe_funcapi_RoundWinder_bool fd_funcapi_RoundWinder_bool c5)] (.val (.bool r)) [] := by
  refine introJ (nz := 8) Try.func82 rfl rfl rfl (fun w0 R0 env0 => ?_)
  rw [ev_round_not_api_RoundWinder_1] at h
  refine TC.seq ?_
  refine TC.region ?_
  refine op0 (sp_box 2 rfl rfl rfl rfl rfl) rfl trivial rfl rfl ?_
  refine op0 (sp_assign rfl rfl) rfl trivial rfl rfl ?_
  refine TL.nil ?_
  refine TC.seq ?_
  refine TC.region ?_
  refine op1 1 rfl (sp_loadB rfl isRob rfl vt121 rfl) rfl trivial rfl rfl ?_
  refine op1 0 rfl (sp_loadBA rfl isBlk rfl vt76 rfl rfl) rfl trivial rfl rfl ?_
  obtain ⟨r6, h1, h⟩ := bind_inv h
  refine op1 2 rfl (sp_callF (avs := [.agg [.val (.int .u16 x1), vi x2, vi x3, vi x4]]) (v := .val (.bool r6)) (x1, x2, x3, x4) rfl rfl rfl rfl rfl h1) rfl trivial rfl rfl ?_
  refine op0 (sp_not rfl rfl) rfl trivial rfl rfl ?_
  refine op0 (sp_assign rfl rfl) rfl trivial rfl rfl ?_
  refine TL.nil ?_
  cases h
  exact retJ [] (.tmp rfl .nil) rfl trivial rfl rfl
def ev_round_Check_l1 (n : Nat) (rr2 : List ((List Int))) (rr1 : List (Int × Int × Int × Int × Int)) (rr3 : List (Int × Int × Int × Int)) (rr4 : Int) (rr5 : Int) : Nat → Int → Option Int
  | 0, _ => none
  | m + 1, i9 => cond (decide (i9 < (rr2.length : Int))) (idx rr2 i9 fun x10 => (ev_round_within n 0 1440 x10).bind fun r11 => cond (!r11) (some 2) (idx x10 i9 fun x12 => cond (x12 != 0) (some 2) (chk (in64 (i9 + 1)) <| ev_round_Check_l1 n rr2 rr1 rr3 rr4 rr5 m (i9 + 1)))) (cond ((rr1.length : Int) == 0) (some 2) ((ev_round_not_api_RoundTower n (fun a => ev_round_isTower n a.1 a.2.1 a.2.2.1 a.2.2.2.1 a.2.2.2.2)).bind fun r13 => (ev_slices_ContainsFunc_Lapi_RoundTower_api_RoundTower n rr1 (fun a => ev_round_not_api_RoundTower_1 n a.1 a.2.1 a.2.2.1 a.2.2.2.1 a.2.2.2.2 r13)).bind fun r14 => cond r14 (some 2) (cond ((rr3.length : Int) == 0) (some 2) ((ev_round_not_api_RoundWinder n (fun a => ev_round_isWinder n a.1 a.2.1 a.2.2.1 a.2.2.2)).bind fun r15 => (ev_slices_ContainsFunc_Lapi_RoundWinder_api_RoundWinder n rr3 (fun a => ev_round_not_api_RoundWinder_1 n a.1 a.2.1 a.2.2.1 a.2.2.2 r15)).bind fun r16 => cond r16 (some 2) ((ev_round_within n 1 1440 ([rr4] : List Int)).bind fun r17 => cond (!r17) (some 2) ((ev_round_within n 0 1000 ([rr5] : List Int)).bind fun r18 => cond (!r18) (some 2) (some 0)))))))
theorem ok_round_Check_l1 {n : Nat} {w0 : World} {R0 : Nat → Prop} {env0 : Env} {r : Int} {rr2 : List ((List Int))} {rr4 : Int} {rr5 : Int} {rr1 : List (Int × Int × Int × Int × Int)} {rr3 : List (Int × Int × Int × Int)} : ∀ (m : Nat) (i9 : Int), ev_round_Check_l1 n rr2 rr1 rr3 rr4 rr5 m i9 = some r → TC Try.prog ⟨w0, fun _ => False, R0⟩ 73 (bodyPost Try.prog Try.f33 (Post ⟨w0, fun _ => False, R0⟩ env0 (vi r) [])) [.code (sub (bodyOf Try.f33) [1, 1, 0, 1, 0, 0, 0]), .code (sub (bodyOf Try.f33) [1, 1, 0, 1, 0, 0, 1]), .inLoop (sub (bodyOf Try.f33) [1, 1, 0, 1, 0, 0]), .inBlock 1, .code (sub (bodyOf Try.f33) [1, 1, 1])] ([(1, .ptr 3 0), (19, .ref 1), (20, vi (rr2.length : Int)), (21, vi i9)]) ([.blk 3 [.ref 0, .ref 1, .ref 2, vi rr4, vi rr5] 26, .ro 1 1 (List.map en_Lint rr2), .ro 0 5 (List.map en_api_RoundTower rr1), .ro 2 4 (List.map en_api_RoundWinder rr3)]) := by
  intro m
  induction m with
  | zero => intro i9 h; exact none_no h
  | succ m ih =>
    intro i9 h
    rw [ev_round_Check_l1] at h
    refine TC.region ?_
    refine op0 (sp_lss rfl rfl rfl) rfl trivial rfl rfl ?_
    refine TL.nil ?_
    refine TC.seq ?_
    refine TC.cond (b := (decide (i9 < (rr2.length : Int)))) rfl (fun h5 => ?_) (fun h5 => ?_)
    · have h := cond_t h h5
      refine TC.skip ?_
      refine TC.seq ?_
      refine TC.block ?_
      refine TC.seq ?_
      refine TC.region ?_
      refine op0 (sp_move rfl rfl) rfl trivial rfl rfl ?_
      obtain ⟨x10, h6, h7, h⟩ := idx_inv h
      refine op1 1 rfl (sp_indexS rfl rfl rfl isRo sl23 h6 (map_get _ h7)) rfl trivial rfl rfl ?_
      refine op1 1 rfl (sp_loadR (i := (i9 : Int).toNat) (j := 0) (ns := [.ro 4 1 (List.map en_int x10)]) rfl rfl isRo vt30 rfl (map_get _ h7) rfl (.s (.nil)) (nodup_of_B rfl)) rfl trivial rfl rfl ?_
      refine op0 (sp_assign rfl rfl) rfl trivial rfl rfl ?_
      refine op0 (sp_assign rfl rfl) rfl trivial rfl rfl ?_
      refine TL.nil ?_
      refine TC.seq ?_
      refine TC.region ?_
      refine op0 (sp_move rfl rfl) rfl trivial rfl rfl ?_
      obtain ⟨r11, h8, h⟩ := bind_inv h
      refine op1 0 rfl (sp_call (avs := [vi 0, vi 1440, .ref 4]) (need := [.ro 4 1 (List.map en_int x10)]) (v := .val (.bool r11)) (news := []) rfl rfl rfl Try.call48 (atJ [(0, 4)] [] (fc_round_within h8) rfl rfl) (.inl (roAll rfl))) rfl trivial rfl rfl ?_
      refine op0 (sp_not rfl rfl) rfl trivial rfl rfl ?_
      refine op0 (sp_move rfl rfl) rfl trivial rfl rfl ?_
      rcases cond_cases h with ⟨h9, h⟩ | ⟨h9, h⟩
      · refine (boolLit 29 rfl h9).2 ?_
        refine opSkip rfl ⟨_, rfl, .inl rfl⟩ rfl ?_
        refine opSkip rfl ⟨_, rfl, .inl rfl⟩ rfl ?_
        refine opSkip rfl ⟨_, rfl, .inl rfl⟩ rfl ?_
        refine opSkip rfl ⟨_, rfl, .inl rfl⟩ rfl ?_
        refine opSkip rfl ⟨_, rfl, .inl rfl⟩ rfl ?_
        refine op0 (sp_pickT rfl rfl rfl) rfl trivial rfl rfl ?_
        refine TL.nil ?_
        refine TC.condT rfl ?_
        refine TC.seq ?_
        refine TC.region ?_
        refine op0 (sp_assign rfl rfl) rfl trivial rfl rfl ?_
        refine TL.nil ?_
        cases h
        exact retJ [] (.tmp rfl .nil) rfl trivial rfl rfl
      · refine (boolLit 29 rfl h9).2 ?_
        refine op0 (sp_move rfl rfl) rfl ⟨_, rfl, rfl⟩ rfl rfl ?_
        refine op0 (sp_move rfl rfl) rfl ⟨_, rfl, rfl⟩ rfl rfl ?_
        obtain ⟨x12, h10, h11, h⟩ := idx_inv h
        refine op1 0 rfl (sp_indexS rfl rfl rfl isRo sl30 h10 (map_get _ h11)) rfl ⟨_, rfl, rfl⟩ rfl rfl ?_
        refine op1 0 rfl (sp_loadR (i := (i9 : Int).toNat) (j := 0) rfl rfl isRo vt3 rfl (map_get _ h11) rfl (.v (.nil)) (nodup_of_B rfl)) rfl ⟨_, rfl, rfl⟩ rfl rfl ?_
        refine op0 (sp_neq rfl rfl rfl) rfl ⟨_, rfl, rfl⟩ rfl rfl ?_
        refine op0 (sp_pickF rfl rfl rfl) rfl trivial rfl rfl ?_
        refine TL.nil ?_
        refine TC.cond (b := (x12 != 0)) rfl (fun h12 => ?_) (fun h12 => ?_)
        · have h := cond_t h h12
          refine TC.seq ?_
          refine TC.region ?_
          refine op0 (sp_assign rfl rfl) rfl trivial rfl rfl ?_
          refine TL.nil ?_
          cases h
          exact retJ [] (.tmp rfl .nil) rfl trivial rfl rfl
        · have h := cond_f h h12
          refine TC.skip ?_
          refine TC.inBlock ?_
          refine TC.region ?_
          obtain ⟨h13, h⟩ := chk_inv h
          refine op0 (sp_add rfl rfl rfl h13) rfl trivial rfl rfl ?_
          refine op0 (sp_move rfl rfl) rfl trivial rfl rfl ?_
          refine TL.nil ?_
          refine TC.inLoop ?_
          refine TC.seq ?_
          refine subJ [] (ih _ h) ?_ ?_ ?_
          · exact ⟨rfl, rfl, rfl, rfl, trivial⟩
          · exact ⟨mem_at 1 rfl, mem_at 2 rfl, mem_at 3 rfl, mem_at 4 rfl, trivial⟩
          · rfl
    · have h := cond_f h h5
      refine TC.exit rfl ?_
      refine TC.seq ?_
      refine TC.seq ?_
      rcases cond_cases h with ⟨h14, h⟩ | ⟨h14, h⟩
      · refine drawJ 20 [⟨.ptr 3 0, [], [.blk 3 [.ref 0, .ref 1, .ref 2, vi rr4, vi rr5] 26], []⟩, ⟨.ref 0, [], [.blk 3 [.ref 0, .ref 1, .ref 2, vi rr4, vi rr5] 26], []⟩, ⟨vi (rr1.length : Int), [], [.ro 0 5 (List.map en_api_RoundTower rr1)], []⟩, ⟨.val (.bool ((rr1.length : Int) == 0)), [], [], []⟩, ⟨.val (.bool true), [], [], []⟩, ⟨.val (undef), [], [], []⟩, ⟨.val (undef), [], [], []⟩, ⟨.val (undef), [], [], []⟩, ⟨.val (undef), [], [], []⟩, ⟨.val (.bool true), [], [], []⟩, ⟨.val (.bool true), [], [], []⟩, ⟨.val (undef), [], [], []⟩, ⟨.val (undef), [], [], []⟩, ⟨.val (undef), [], [], []⟩, ⟨.val (undef), [], [], []⟩, ⟨.val (.bool true), [], [], []⟩, ⟨.val (.bool true), [], [], []⟩, ⟨.val (undef), [], [], []⟩, ⟨.val (undef), [], [], []⟩, ⟨.val (undef), [], [], []⟩] rfl ?_ rfl ?_ rfl ?_ ?_
        · kernel_rfl
        · kernel_rfl
        · exact DAll.op' (sp_fieldAddrB rfl isBlk rfl ft26_0 vt22 (by decide)) trivial rfl (From.ok (ps := [(none, 0)]) ⟨⟨rfl, by kernel_rfl⟩, trivial⟩) (DAll.op' (sp_loadB rfl isBlk rfl vt22 rfl) trivial rfl (From.ok (ps := [(none, 0)]) ⟨⟨rfl, by kernel_rfl⟩, trivial⟩) (DAll.op' (sp_lenM (N := rr1.length) (len_map _ _) rfl rfl isRo Try.underlying22) trivial rfl (From.ok (ps := [(none, 2)]) ⟨⟨rfl, by kernel_rfl⟩, trivial⟩) (DAll.op' (sp_eql rfl rfl rfl) trivial rfl (From.ok (ps := []) trivial) (DAll.op' (sp_castB h14 (sp_move rfl rfl)) trivial rfl (From.ok (ps := []) trivial) (.skip ⟨_, rfl, .inl rfl⟩ rfl rfl rfl (.skip ⟨_, rfl, .inl rfl⟩ rfl rfl rfl (.skip ⟨_, rfl, .inl rfl⟩ rfl rfl rfl (.skip ⟨_, rfl, .inl rfl⟩ rfl rfl rfl (DAll.op' (sp_pickT rfl rfl rfl) trivial rfl (From.ok (ps := []) trivial) (DAll.op' (sp_move rfl rfl) trivial rfl (From.ok (ps := []) trivial) (.skip ⟨_, rfl, .inl rfl⟩ rfl rfl rfl (.skip ⟨_, rfl, .inl rfl⟩ rfl rfl rfl (.skip ⟨_, rfl, .inl rfl⟩ rfl rfl rfl (.skip ⟨_, rfl, .inl rfl⟩ rfl rfl rfl (DAll.op' (sp_pickT rfl rfl rfl) trivial rfl (From.ok (ps := []) trivial) (DAll.op' (sp_move rfl rfl) trivial rfl (From.ok (ps := []) trivial) (.skip ⟨_, rfl, .inl rfl⟩ rfl rfl rfl (.skip ⟨_, rfl, .inl rfl⟩ rfl rfl rfl (.skip ⟨_, rfl, .inl rfl⟩ rfl rfl rfl (.nil))))))))))))))))))))
        refine opSkip rfl ⟨_, rfl, .inl rfl⟩ rfl ?_
        refine op0 (sp_pickT rfl rfl rfl) rfl trivial rfl rfl ?_
        refine op0 (sp_move rfl rfl) rfl trivial rfl rfl ?_
        refine opSkip rfl ⟨_, rfl, .inl rfl⟩ rfl ?_
        refine opSkip rfl ⟨_, rfl, .inl rfl⟩ rfl ?_
        refine opSkip rfl ⟨_, rfl, .inl rfl⟩ rfl ?_
        refine opSkip rfl ⟨_, rfl, .inl rfl⟩ rfl ?_
        refine opSkip rfl ⟨_, rfl, .inl rfl⟩ rfl ?_
        refine op0 (sp_pickT rfl rfl rfl) rfl trivial rfl rfl ?_
        refine op0 (sp_move rfl rfl) rfl trivial rfl rfl ?_
        refine opSkip rfl ⟨_, rfl, .inl rfl⟩ rfl ?_
        refine opSkip rfl ⟨_, rfl, .inl rfl⟩ rfl ?_
        refine opSkip rfl ⟨_, rfl, .inl rfl⟩ rfl ?_
        refine opSkip rfl ⟨_, rfl, .inl rfl⟩ rfl ?_
        refine opSkip rfl ⟨_, rfl, .inl rfl⟩ rfl ?_
        refine op0 (sp_pickT rfl rfl rfl) rfl trivial rfl rfl ?_
        refine TL.nil ?_
        refine TC.condT rfl ?_
        refine TC.seq ?_
        refine TC.region ?_
        refine op0 (sp_assign rfl rfl) rfl trivial rfl rfl ?_
        refine TL.nil ?_
        cases h
        exact retJ [] (.tmp rfl .nil) rfl trivial rfl rfl
      · obtain ⟨r13, h15, h⟩ := bind_inv h
        obtain ⟨r14, h16, h⟩ := bind_inv h
        rcases cond_cases h with ⟨h17, h⟩ | ⟨h17, h⟩
        · refine drawJ 20 [⟨.ptr 3 0, [], [.blk 3 [.ref 0, .ref 1, .ref 2, vi rr4, vi rr5] 26], []⟩, ⟨.ref 0, [], [.blk 3 [.ref 0, .ref 1, .ref 2, vi rr4, vi rr5] 26], []⟩, ⟨vi (rr1.length : Int), [], [.ro 0 5 (List.map en_api_RoundTower rr1)], []⟩, ⟨.val (.bool ((rr1.length : Int) == 0)), [], [], []⟩, ⟨.val (.bool false), [], [], []⟩, ⟨.ptr 3 0, [], [.blk 3 [.ref 0, .ref 1, .ref 2, vi rr4, vi rr5] 26], []⟩, ⟨.ref 0, [], [.blk 3 [.ref 0, .ref 1, .ref 2, vi rr4, vi rr5] 26], []⟩, ⟨.fn 80 [] [.ptr 6 0], [.blk 6 [.ref 7] 118, .any 7 (D.fn Try.prog fe_funcapi_RoundTower_bool fd_funcapi_RoundTower_bool r13)], [], []⟩, ⟨.val (.bool r14), [], [.ro 0 5 (List.map en_api_RoundTower rr1), .blk 6 [.ref 7] 118, .any 7 (D.fn Try.prog fe_funcapi_RoundTower_bool fd_funcapi_RoundTower_bool r13)], []⟩, ⟨.val (.bool r14), [], [], []⟩, ⟨.val (.bool true), [], [], []⟩, ⟨.val (undef), [], [], []⟩, ⟨.val (undef), [], [], []⟩, ⟨.val (undef), [], [], []⟩, ⟨.val (undef), [], [], []⟩, ⟨.val (.bool true), [], [], []⟩, ⟨.val (.bool true), [], [], []⟩, ⟨.val (undef), [], [], []⟩, ⟨.val (undef), [], [], []⟩, ⟨.val (undef), [], [], []⟩] rfl ?_ rfl ?_ rfl ?_ ?_
          · kernel_rfl
          · kernel_rfl
          · exact DAll.op' (sp_fieldAddrB rfl isBlk rfl ft26_0 vt22 (by decide)) trivial rfl (From.ok (ps := [(none, 0)]) ⟨⟨rfl, by kernel_rfl⟩, trivial⟩) (DAll.op' (sp_loadB rfl isBlk rfl vt22 rfl) trivial rfl (From.ok (ps := [(none, 0)]) ⟨⟨rfl, by kernel_rfl⟩, trivial⟩) (DAll.op' (sp_lenM (N := rr1.length) (len_map _ _) rfl rfl isRo Try.underlying22) trivial rfl (From.ok (ps := [(none, 2)]) ⟨⟨rfl, by kernel_rfl⟩, trivial⟩) (DAll.op' (sp_eql rfl rfl rfl) trivial rfl (From.ok (ps := []) trivial) (DAll.op' (sp_castB h14 (sp_move rfl rfl)) trivial rfl (From.ok (ps := []) trivial) (DAll.op' (sp_fieldAddrB rfl isBlk rfl ft26_0 vt22 (by decide)) ⟨_, rfl, rfl⟩ rfl (From.ok (ps := [(none, 0)]) ⟨⟨rfl, by kernel_rfl⟩, trivial⟩) (DAll.op' (sp_loadB rfl isBlk rfl vt22 rfl) ⟨_, rfl, rfl⟩ rfl (From.ok (ps := [(none, 0)]) ⟨⟨rfl, by kernel_rfl⟩, trivial⟩) (DAll.op' (sp_call (avs := [.fn 51 [] []]) (need := []) (v := .fn 80 [] [.ptr 6 0]) (news := [.blk 6 [.ref 7] 118, .any 7 (D.fn Try.prog fe_funcapi_RoundTower_bool fd_funcapi_RoundTower_bool r13)]) rfl rfl rfl Try.call50 (FC.fnArg (args := [.ref 5]) (needC := []) (need := []) 0 (first := []) (caps := []) (atJ [(0, 5)] [(0, 6), (1, 7)] (fc_round_not_api_RoundTower h15) rfl rfl) rfl Try.call51 (fun a b hab => atJ [] [] (fc_round_isTower hab) rfl rfl) rfl (fun _ => rfl) (fun _ => rfl) rfl rfl rfl rfl rfl rfl rfl) (.inl (roAll rfl))) ⟨_, rfl, rfl⟩ rfl (From.ok (ps := []) trivial) (DAll.op' (sp_call (avs := [.ref 0, .fn 80 [] [.ptr 6 0]]) (need := [.ro 0 5 (List.map en_api_RoundTower rr1), .blk 6 [.ref 7] 118, .any 7 (D.fn Try.prog fe_funcapi_RoundTower_bool fd_funcapi_RoundTower_bool r13)]) (v := .val (.bool r14)) (news := []) rfl rfl rfl Try.call49 (FC.needJ (need := [.ro 0 5 (List.map en_api_RoundTower rr1), .rob 6 [.ref 7] 118, .any 7 (D.fn Try.prog fe_funcapi_RoundTower_bool fd_funcapi_RoundTower_bool r13)]) (need' := [.rob 6 [.ref 7] 118, .any 7 (D.fn Try.prog fe_funcapi_RoundTower_bool fd_funcapi_RoundTower_bool r13), .ro 0 5 (List.map en_api_RoundTower rr1)]) [1, 2, 0] ⟨rfl, rfl, rfl, trivial⟩ (FC.fnArg (args := [.ref 0, .ref 8]) (needC := [.rob 6 [.ref 7] 118, .any 7 (D.fn Try.prog fe_funcapi_RoundTower_bool fd_funcapi_RoundTower_bool r13)]) (need := [.ro 0 5 (List.map en_api_RoundTower rr1)]) 1 (first := []) (caps := [.ptr 6 0]) (FC.needJ (need := [.any 8 (D.fn Try.prog fe_funcapi_RoundTower_bool fd_funcapi_RoundTower_bool (fun a => ev_round_not_api_RoundTower_1 n a.1 a.2.1 a.2.2.1 a.2.2.2.1 a.2.2.2.2 r13)), .ro 0 5 (List.map en_api_RoundTower rr1)]) (need' := [.ro 0 5 (List.map en_api_RoundTower rr1), .any 8 (D.fn Try.prog fe_funcapi_RoundTower_bool fd_funcapi_RoundTower_bool (fun a => ev_round_not_api_RoundTower_1 n a.1 a.2.1 a.2.2.1 a.2.2.2.1 a.2.2.2.2 r13))]) [1, 0] ⟨rfl, rfl, trivial⟩ (atJ [(1, 8)] [] (fc_slices_ContainsFunc_Lapi_RoundTower_api_RoundTower h16) rfl rfl)) rfl Try.call80 (fun a b hab => atJ [(0, 6), (1, 7)] [] (fc_round_not_api_RoundTower_1 hab) rfl rfl) rfl (fun _ => rfl) (fun _ => rfl) rfl rfl rfl rfl rfl rfl rfl)) (.inr (fun x hx => nomatch hx))) ⟨_, rfl, rfl⟩ rfl (From.ok (ps := [(none, 2), (some 7, 0), (some 7, 1)]) ⟨⟨rfl, by kernel_rfl⟩, ⟨_, rfl, by kernel_rfl, rfl, by kernel_rfl⟩, ⟨_, rfl, by kernel_rfl, rfl, by kernel_rfl⟩, trivial⟩) (DAll.op' (sp_pickF rfl rfl rfl) trivial rfl (From.ok (ps := []) trivial) (DAll.op' (sp_castB h17 (sp_move rfl rfl)) trivial rfl (From.ok (ps := []) trivial) (.skip ⟨_, rfl, .inl rfl⟩ rfl rfl rfl (.skip ⟨_, rfl, .inl rfl⟩ rfl rfl rfl (.skip ⟨_, rfl, .inl rfl⟩ rfl rfl rfl (.skip ⟨_, rfl, .inl rfl⟩ rfl rfl rfl (DAll.op' (sp_pickT rfl rfl rfl) trivial rfl (From.ok (ps := []) trivial) (DAll.op' (sp_move rfl rfl) trivial rfl (From.ok (ps := []) trivial) (.skip ⟨_, rfl, .inl rfl⟩ rfl rfl rfl (.skip ⟨_, rfl, .inl rfl⟩ rfl rfl rfl (.skip ⟨_, rfl, .inl rfl⟩ rfl rfl rfl (.nil))))))))))))))))))))
          refine opSkip rfl ⟨_, rfl, .inl rfl⟩ rfl ?_
          refine op0 (sp_pickT rfl rfl rfl) rfl trivial rfl rfl ?_
          refine op0 (sp_move rfl rfl) rfl trivial rfl rfl ?_
          refine opSkip rfl ⟨_, rfl, .inl rfl⟩ rfl ?_
          refine opSkip rfl ⟨_, rfl, .inl rfl⟩ rfl ?_
          refine opSkip rfl ⟨_, rfl, .inl rfl⟩ rfl ?_
          refine opSkip rfl ⟨_, rfl, .inl rfl⟩ rfl ?_
          refine opSkip rfl ⟨_, rfl, .inl rfl⟩ rfl ?_
          refine op0 (sp_pickT rfl rfl rfl) rfl trivial rfl rfl ?_
          refine op0 (sp_move rfl rfl) rfl trivial rfl rfl ?_
          refine opSkip rfl ⟨_, rfl, .inl rfl⟩ rfl ?_
          refine opSkip rfl ⟨_, rfl, .inl rfl⟩ rfl ?_
          refine opSkip rfl ⟨_, rfl, .inl rfl⟩ rfl ?_
          refine opSkip rfl ⟨_, rfl, .inl rfl⟩ rfl ?_
          refine opSkip rfl ⟨_, rfl, .inl rfl⟩ rfl ?_
          refine op0 (sp_pickT rfl rfl rfl) rfl trivial rfl rfl ?_
          refine TL.nil ?_
          refine TC.condT rfl ?_
          refine TC.seq ?_
          refine TC.region ?_
          refine op0 (sp_assign rfl rfl) rfl trivial rfl rfl ?_
          refine TL.nil ?_
          cases h
          exact retJ [] (.tmp rfl .nil) rfl trivial rfl rfl
        · rcases cond_cases h with ⟨h18, h⟩ | ⟨h18, h⟩
          · refine drawJ 20 [⟨.ptr 3 0, [], [.blk 3 [.ref 0, .ref 1, .ref 2, vi rr4, vi rr5] 26], []⟩, ⟨.ref 0, [], [.blk 3 [.ref 0, .ref 1, .ref 2, vi rr4, vi rr5] 26], []⟩, ⟨vi (rr1.length : Int), [], [.ro 0 5 (List.map en_api_RoundTower rr1)], []⟩, ⟨.val (.bool ((rr1.length : Int) == 0)), [], [], []⟩, ⟨.val (.bool false), [], [], []⟩, ⟨.ptr 3 0, [], [.blk 3 [.ref 0, .ref 1, .ref 2, vi rr4, vi rr5] 26], []⟩, ⟨.ref 0, [], [.blk 3 [.ref 0, .ref 1, .ref 2, vi rr4, vi rr5] 26], []⟩, ⟨.fn 80 [] [.ptr 6 0], [.blk 6 [.ref 7] 118, .any 7 (D.fn Try.prog fe_funcapi_RoundTower_bool fd_funcapi_RoundTower_bool r13)], [], []⟩, ⟨.val (.bool r14), [], [.ro 0 5 (List.map en_api_RoundTower rr1), .blk 6 [.ref 7] 118, .any 7 (D.fn Try.prog fe_funcapi_RoundTower_bool fd_funcapi_RoundTower_bool r13)], []⟩, ⟨.val (.bool r14), [], [], []⟩, ⟨.val (.bool false), [], [], []⟩, ⟨.ptr 3 2, [], [.blk 3 [.ref 0, .ref 1, .ref 2, vi rr4, vi rr5] 26], []⟩, ⟨.ref 2, [], [.blk 3 [.ref 0, .ref 1, .ref 2, vi rr4, vi rr5] 26], []⟩, ⟨vi (rr3.length : Int), [], [.ro 2 4 (List.map en_api_RoundWinder rr3)], []⟩, ⟨.val (.bool ((rr3.length : Int) == 0)), [], [], []⟩, ⟨.val (.bool ((rr3.length : Int) == 0)), [], [], []⟩, ⟨.val (.bool true), [], [], []⟩, ⟨.val (undef), [], [], []⟩, ⟨.val (undef), [], [], []⟩, ⟨.val (undef), [], [], []⟩] rfl ?_ rfl ?_ rfl ?_ ?_
            · kernel_rfl
            · kernel_rfl
            · exact DAll.op' (sp_fieldAddrB rfl isBlk rfl ft26_0 vt22 (by decide)) trivial rfl (From.ok (ps := [(none, 0)]) ⟨⟨rfl, by kernel_rfl⟩, trivial⟩) (DAll.op' (sp_loadB rfl isBlk rfl vt22 rfl) trivial rfl (From.ok (ps := [(none, 0)]) ⟨⟨rfl, by kernel_rfl⟩, trivial⟩) (DAll.op' (sp_lenM (N := rr1.length) (len_map _ _) rfl rfl isRo Try.underlying22) trivial rfl (From.ok (ps := [(none, 2)]) ⟨⟨rfl, by kernel_rfl⟩, trivial⟩) (DAll.op' (sp_eql rfl rfl rfl) trivial rfl (From.ok (ps := []) trivial) (DAll.op' (sp_castB h14 (sp_move rfl rfl)) trivial rfl (From.ok (ps := []) trivial) (DAll.op' (sp_fieldAddrB rfl isBlk rfl ft26_0 vt22 (by decide)) ⟨_, rfl, rfl⟩ rfl (From.ok (ps := [(none, 0)]) ⟨⟨rfl, by kernel_rfl⟩, trivial⟩) (DAll.op' (sp_loadB rfl isBlk rfl vt22 rfl) ⟨_, rfl, rfl⟩ rfl (From.ok (ps := [(none, 0)]) ⟨⟨rfl, by kernel_rfl⟩, trivial⟩) (DAll.op' (sp_call (avs := [.fn 51 [] []]) (need := []) (v := .fn 80 [] [.ptr 6 0]) (news := [.blk 6 [.ref 7] 118, .any 7 (D.fn Try.prog fe_funcapi_RoundTower_bool fd_funcapi_RoundTower_bool r13)]) rfl rfl rfl Try.call50 (FC.fnArg (args := [.ref 5]) (needC := []) (need := []) 0 (first := []) (caps := []) (atJ [(0, 5)] [(0, 6), (1, 7)] (fc_round_not_api_RoundTower h15) rfl rfl) rfl Try.call51 (fun a b hab => atJ [] [] (fc_round_isTower hab) rfl rfl) rfl (fun _ => rfl) (fun _ => rfl) rfl rfl rfl rfl rfl rfl rfl) (.inl (roAll rfl))) ⟨_, rfl, rfl⟩ rfl (From.ok (ps := []) trivial) (DAll.op' (sp_call (avs := [.ref 0, .fn 80 [] [.ptr 6 0]]) (need := [.ro 0 5 (List.map en_api_RoundTower rr1), .blk 6 [.ref 7] 118, .any 7 (D.fn Try.prog fe_funcapi_RoundTower_bool fd_funcapi_RoundTower_bool r13)]) (v := .val (.bool r14)) (news := []) rfl rfl rfl Try.call49 (FC.needJ (need := [.ro 0 5 (List.map en_api_RoundTower rr1), .rob 6 [.ref 7] 118, .any 7 (D.fn Try.prog fe_funcapi_RoundTower_bool fd_funcapi_RoundTower_bool r13)]) (need' := [.rob 6 [.ref 7] 118, .any 7 (D.fn Try.prog fe_funcapi_RoundTower_bool fd_funcapi_RoundTower_bool r13), .ro 0 5 (List.map en_api_RoundTower rr1)]) [1, 2, 0] ⟨rfl, rfl, rfl, trivial⟩ (FC.fnArg (args := [.ref 0, .ref 8]) (needC := [.rob 6 [.ref 7] 118, .any 7 (D.fn Try.prog fe_funcapi_RoundTower_bool fd_funcapi_RoundTower_bool r13)]) (need := [.ro 0 5 (List.map en_api_RoundTower rr1)]) 1 (first := []) (caps := [.ptr 6 0]) (FC.needJ (need := [.any 8 (D.fn Try.prog fe_funcapi_RoundTower_bool fd_funcapi_RoundTower_bool (fun a => ev_round_not_api_RoundTower_1 n a.1 a.2.1 a.2.2.1 a.2.2.2.1 a.2.2.2.2 r13)), .ro 0 5 (List.map en_api_RoundTower rr1)]) (need' := [.ro 0 5 (List.map en_api_RoundTower rr1), .any 8 (D.fn Try.prog fe_funcapi_RoundTower_bool fd_funcapi_RoundTower_bool (fun a => ev_round_not_api_RoundTower_1 n a.1 a.2.1 a.2.2.1 a.2.2.2.1 a.2.2.2.2 r13))]) [1, 0] ⟨rfl, rfl, trivial⟩ (atJ [(1, 8)] [] (fc_slices_ContainsFunc_Lapi_RoundTower_api_RoundTower h16) rfl rfl)) rfl Try.call80 (fun a b hab => atJ [(0, 6), (1, 7)] [] (fc_round_not_api_RoundTower_1 hab) rfl rfl) rfl (fun _ => rfl) (fun _ => rfl) rfl rfl rfl rfl rfl rfl rfl)) (.inr (fun x hx => nomatch hx))) ⟨_, rfl, rfl⟩ rfl (From.ok (ps := [(none, 2), (some 7, 0), (some 7, 1)]) ⟨⟨rfl, by kernel_rfl⟩, ⟨_, rfl, by kernel_rfl, rfl, by kernel_rfl⟩, ⟨_, rfl, by kernel_rfl, rfl, by kernel_rfl⟩, trivial⟩) (DAll.op' (sp_pickF rfl rfl rfl) trivial rfl (From.ok (ps := []) trivial) (DAll.op' (sp_castB h17 (sp_move rfl rfl)) trivial rfl (From.ok (ps := []) trivial) (DAll.op' (sp_fieldAddrB rfl isBlk rfl ft26_2 vt24 (by decide)) ⟨_, rfl, rfl⟩ rfl (From.ok (ps := [(none, 0)]) ⟨⟨rfl, by kernel_rfl⟩, trivial⟩) (DAll.op' (sp_loadB rfl isBlk rfl vt24 rfl) ⟨_, rfl, rfl⟩ rfl (From.ok (ps := [(none, 0)]) ⟨⟨rfl, by kernel_rfl⟩, trivial⟩) (DAll.op' (sp_lenM (N := rr3.length) (len_map _ _) rfl rfl isRo Try.underlying24) ⟨_, rfl, rfl⟩ rfl (From.ok (ps := [(none, 3)]) ⟨⟨rfl, by kernel_rfl⟩, trivial⟩) (DAll.op' (sp_eql rfl rfl rfl) ⟨_, rfl, rfl⟩ rfl (From.ok (ps := []) trivial) (DAll.op' (sp_pickF rfl rfl rfl) trivial rfl (From.ok (ps := []) trivial) (DAll.op' (sp_castB h18 (sp_move rfl rfl)) trivial rfl (From.ok (ps := []) trivial) (.skip ⟨_, rfl, .inl rfl⟩ rfl rfl rfl (.skip ⟨_, rfl, .inl rfl⟩ rfl rfl rfl (.skip ⟨_, rfl, .inl rfl⟩ rfl rfl rfl (.nil))))))))))))))))))))
            refine opSkip rfl ⟨_, rfl, .inl rfl⟩ rfl ?_
            refine op0 (sp_pickT rfl rfl rfl) rfl trivial rfl rfl ?_
            refine op0 (sp_move rfl rfl) rfl trivial rfl rfl ?_
            refine opSkip rfl ⟨_, rfl, .inl rfl⟩ rfl ?_
            refine opSkip rfl ⟨_, rfl, .inl rfl⟩ rfl ?_
            refine opSkip rfl ⟨_, rfl, .inl rfl⟩ rfl ?_
            refine opSkip rfl ⟨_, rfl, .inl rfl⟩ rfl ?_
            refine opSkip rfl ⟨_, rfl, .inl rfl⟩ rfl ?_
            refine op0 (sp_pickT rfl rfl rfl) rfl trivial rfl rfl ?_
            refine op0 (sp_move rfl rfl) rfl trivial rfl rfl ?_
            refine opSkip rfl ⟨_, rfl, .inl rfl⟩ rfl ?_
            refine opSkip rfl ⟨_, rfl, .inl rfl⟩ rfl ?_
            refine opSkip rfl ⟨_, rfl, .inl rfl⟩ rfl ?_
            refine opSkip rfl ⟨_, rfl, .inl rfl⟩ rfl ?_
            refine opSkip rfl ⟨_, rfl, .inl rfl⟩ rfl ?_
            refine op0 (sp_pickT rfl rfl rfl) rfl trivial rfl rfl ?_
            refine TL.nil ?_
            refine TC.condT rfl ?_
            refine TC.seq ?_
            refine TC.region ?_
            refine op0 (sp_assign rfl rfl) rfl trivial rfl rfl ?_
            refine TL.nil ?_
            cases h
            exact retJ [] (.tmp rfl .nil) rfl trivial rfl rfl
          · obtain ⟨r15, h19, h⟩ := bind_inv h
            refine drawJ 20 [⟨.ptr 3 0, [], [.blk 3 [.ref 0, .ref 1, .ref 2, vi rr4, vi rr5] 26], []⟩, ⟨.ref 0, [], [.blk 3 [.ref 0, .ref 1, .ref 2, vi rr4, vi rr5] 26], []⟩, ⟨vi (rr1.length : Int), [], [.ro 0 5 (List.map en_api_RoundTower rr1)], []⟩, ⟨.val (.bool ((rr1.length : Int) == 0)), [], [], []⟩, ⟨.val (.bool false), [], [], []⟩, ⟨.ptr 3 0, [], [.blk 3 [.ref 0, .ref 1, .ref 2, vi rr4, vi rr5] 26], []⟩, ⟨.ref 0, [], [.blk 3 [.ref 0, .ref 1, .ref 2, vi rr4, vi rr5] 26], []⟩, ⟨.fn 80 [] [.ptr 6 0], [.blk 6 [.ref 7] 118, .any 7 (D.fn Try.prog fe_funcapi_RoundTower_bool fd_funcapi_RoundTower_bool r13)], [], []⟩, ⟨.val (.bool r14), [], [.ro 0 5 (List.map en_api_RoundTower rr1), .blk 6 [.ref 7] 118, .any 7 (D.fn Try.prog fe_funcapi_RoundTower_bool fd_funcapi_RoundTower_bool r13)], []⟩, ⟨.val (.bool r14), [], [], []⟩, ⟨.val (.bool false), [], [], []⟩, ⟨.ptr 3 2, [], [.blk 3 [.ref 0, .ref 1, .ref 2, vi rr4, vi rr5] 26], []⟩, ⟨.ref 2, [], [.blk 3 [.ref 0, .ref 1, .ref 2, vi rr4, vi rr5] 26], []⟩, ⟨vi (rr3.length : Int), [], [.ro 2 4 (List.map en_api_RoundWinder rr3)], []⟩, ⟨.val (.bool ((rr3.length : Int) == 0)), [], [], []⟩, ⟨.val (.bool ((rr3.length : Int) == 0)), [], [], []⟩, ⟨.val (.bool false), [], [], []⟩, ⟨.ptr 3 2, [], [.blk 3 [.ref 0, .ref 1, .ref 2, vi rr4, vi rr5] 26], []⟩, ⟨.ref 2, [], [.blk 3 [.ref 0, .ref 1, .ref 2, vi rr4, vi rr5] 26], []⟩, ⟨.fn 82 [] [.ptr 10 0], [.blk 10 [.ref 11] 121, .any 11 (D.fn Try.prog fe_funcapi_RoundWinder_bool fd_funcapi_RoundWinder_bool r15)], [], []⟩] rfl ?_ rfl ?_ rfl ?_ ?_
            · kernel_rfl
            · kernel_rfl
            · exact DAll.op' (sp_fieldAddrB rfl isBlk rfl ft26_0 vt22 (by decide)) trivial rfl (From.ok (ps := [(none, 0)]) ⟨⟨rfl, by kernel_rfl⟩, trivial⟩) (DAll.op' (sp_loadB rfl isBlk rfl vt22 rfl) trivial rfl (From.ok (ps := [(none, 0)]) ⟨⟨rfl, by kernel_rfl⟩, trivial⟩) (DAll.op' (sp_lenM (N := rr1.length) (len_map _ _) rfl rfl isRo Try.underlying22) trivial rfl (From.ok (ps := [(none, 2)]) ⟨⟨rfl, by kernel_rfl⟩, trivial⟩) (DAll.op' (sp_eql rfl rfl rfl) trivial rfl (From.ok (ps := []) trivial) (DAll.op' (sp_castB h14 (sp_move rfl rfl)) trivial rfl (From.ok (ps := []) trivial) (DAll.op' (sp_fieldAddrB rfl isBlk rfl ft26_0 vt22 (by decide)) ⟨_, rfl, rfl⟩ rfl (From.ok (ps := [(none, 0)]) ⟨⟨rfl, by kernel_rfl⟩, trivial⟩) (DAll.op' (sp_loadB rfl isBlk rfl vt22 rfl) ⟨_, rfl, rfl⟩ rfl (From.ok (ps := [(none, 0)]) ⟨⟨rfl, by kernel_rfl⟩, trivial⟩) (DAll.op' (sp_call (avs := [.fn 51 [] []]) (need := []) (v := .fn 80 [] [.ptr 6 0]) (news := [.blk 6 [.ref 7] 118, .any 7 (D.fn Try.prog fe_funcapi_RoundTower_bool fd_funcapi_RoundTower_bool r13)]) rfl rfl rfl Try.call50 (FC.fnArg (args := [.ref 5]) (needC := []) (need := []) 0 (first := []) (caps := []) (atJ [(0, 5)] [(0, 6), (1, 7)] (fc_round_not_api_RoundTower h15) rfl rfl) rfl Try.call51 (fun a b hab => atJ [] [] (fc_round_isTower hab) rfl rfl) rfl (fun _ => rfl) (fun _ => rfl) rfl rfl rfl rfl rfl rfl rfl) (.inl (roAll rfl))) ⟨_, rfl, rfl⟩ rfl (From.ok (ps := []) trivial) (DAll.op' (sp_call (avs := [.ref 0, .fn 80 [] [.ptr 6 0]]) (need := [.ro 0 5 (List.map en_api_RoundTower rr1), .blk 6 [.ref 7] 118, .any 7 (D.fn Try.prog fe_funcapi_RoundTower_bool fd_funcapi_RoundTower_bool r13)]) (v := .val (.bool r14)) (news := []) rfl rfl rfl Try.call49 (FC.needJ (need := [.ro 0 5 (List.map en_api_RoundTower rr1), .rob 6 [.ref 7] 118, .any 7 (D.fn Try.prog fe_funcapi_RoundTower_bool fd_funcapi_RoundTower_bool r13)]) (need' := [.rob 6 [.ref 7] 118, .any 7 (D.fn Try.prog fe_funcapi_RoundTower_bool fd_funcapi_RoundTower_bool r13), .ro 0 5 (List.map en_api_RoundTower rr1)]) [1, 2, 0] ⟨rfl, rfl, rfl, trivial⟩ (FC.fnArg (args := [.ref 0, .ref 8]) (needC := [.rob 6 [.ref 7] 118, .any 7 (D.fn Try.prog fe_funcapi_RoundTower_bool fd_funcapi_RoundTower_bool r13)]) (need := [.ro 0 5 (List.map en_api_RoundTower rr1)]) 1 (first := []) (caps := [.ptr 6 0]) (FC.needJ (need := [.any 8 (D.fn Try.prog fe_funcapi_RoundTower_bool fd_funcapi_RoundTower_bool (fun a => ev_round_not_api_RoundTower_1 n a.1 a.2.1 a.2.2.1 a.2.2.2.1 a.2.2.2.2 r13)), .ro 0 5 (List.map en_api_RoundTower rr1)]) (need' := [.ro 0 5 (List.map en_api_RoundTower rr1), .any 8 (D.fn Try.prog fe_funcapi_RoundTower_bool fd_funcapi_RoundTower_bool (fun a => ev_round_not_api_RoundTower_1 n a.1 a.2.1 a.2.2.1 a.2.2.2.1 a.2.2.2.2 r13))]) [1, 0] ⟨rfl, rfl, trivial⟩ (atJ [(1, 8)] [] (fc_slices_ContainsFunc_Lapi_RoundTower_api_RoundTower h16) rfl rfl)) rfl Try.call80 (fun a b hab => atJ [(0, 6), (1, 7)] [] (fc_round_not_api_RoundTower_1 hab) rfl rfl) rfl (fun _ => rfl) (fun _ => rfl) rfl rfl rfl rfl rfl rfl rfl)) (.inr (fun x hx => nomatch hx))) ⟨_, rfl, rfl⟩ rfl (From.ok (ps := [(none, 2), (some 7, 0), (some 7, 1)]) ⟨⟨rfl, by kernel_rfl⟩, ⟨_, rfl, by kernel_rfl, rfl, by kernel_rfl⟩, ⟨_, rfl, by kernel_rfl, rfl, by kernel_rfl⟩, trivial⟩) (DAll.op' (sp_pickF rfl rfl rfl) trivial rfl (From.ok (ps := []) trivial) (DAll.op' (sp_castB h17 (sp_move rfl rfl)) trivial rfl (From.ok (ps := []) trivial) (DAll.op' (sp_fieldAddrB rfl isBlk rfl ft26_2 vt24 (by decide)) ⟨_, rfl, rfl⟩ rfl (From.ok (ps := [(none, 0)]) ⟨⟨rfl, by kernel_rfl⟩, trivial⟩) (DAll.op' (sp_loadB rfl isBlk rfl vt24 rfl) ⟨_, rfl, rfl⟩ rfl (From.ok (ps := [(none, 0)]) ⟨⟨rfl, by kernel_rfl⟩, trivial⟩) (DAll.op' (sp_lenM (N := rr3.length) (len_map _ _) rfl rfl isRo Try.underlying24) ⟨_, rfl, rfl⟩ rfl (From.ok (ps := [(none, 3)]) ⟨⟨rfl, by kernel_rfl⟩, trivial⟩) (DAll.op' (sp_eql rfl rfl rfl) ⟨_, rfl, rfl⟩ rfl (From.ok (ps := []) trivial) (DAll.op' (sp_pickF rfl rfl rfl) trivial rfl (From.ok (ps := []) trivial) (DAll.op' (sp_castB h18 (sp_move rfl rfl)) trivial rfl (From.ok (ps := []) trivial) (DAll.op' (sp_fieldAddrB rfl isBlk rfl ft26_2 vt24 (by decide)) ⟨_, rfl, rfl⟩ rfl (From.ok (ps := [(none, 0)]) ⟨⟨rfl, by kernel_rfl⟩, trivial⟩) (DAll.op' (sp_loadB rfl isBlk rfl vt24 rfl) ⟨_, rfl, rfl⟩ rfl (From.ok (ps := [(none, 0)]) ⟨⟨rfl, by kernel_rfl⟩, trivial⟩) (DAll.op' (sp_call (avs := [.fn 54 [] []]) (need := []) (v := .fn 82 [] [.ptr 10 0]) (news := [.blk 10 [.ref 11] 121, .any 11 (D.fn Try.prog fe_funcapi_RoundWinder_bool fd_funcapi_RoundWinder_bool r15)]) rfl rfl rfl Try.call53 (FC.fnArg (args := [.ref 9]) (needC := []) (need := []) 0 (first := []) (caps := []) (atJ [(0, 9)] [(0, 10), (1, 11)] (fc_round_not_api_RoundWinder h19) rfl rfl) rfl Try.call54 (fun a b hab => atJ [] [] (fc_round_isWinder hab) rfl rfl) rfl (fun _ => rfl) (fun _ => rfl) rfl rfl rfl rfl rfl rfl rfl) (.inl (roAll rfl))) ⟨_, rfl, rfl⟩ rfl (From.ok (ps := []) trivial) (.nil))))))))))))))))))))
            obtain ⟨r16, h20, h⟩ := bind_inv h
            refine opN (need := [.ro 2 4 (List.map en_api_RoundWinder rr3), .blk 10 [.ref 11] 121, .any 11 (D.fn Try.prog fe_funcapi_RoundWinder_bool fd_funcapi_RoundWinder_bool r15)]) [7, 0, 1] ⟨rfl, rfl, rfl, trivial⟩ (sp_call (avs := [.ref 2, .fn 82 [] [.ptr 10 0]]) (need := [.ro 2 4 (List.map en_api_RoundWinder rr3), .blk 10 [.ref 11] 121, .any 11 (D.fn Try.prog fe_funcapi_RoundWinder_bool fd_funcapi_RoundWinder_bool r15)]) (v := .val (.bool r16)) (news := []) rfl rfl rfl Try.call52 (FC.needJ (need := [.ro 2 4 (List.map en_api_RoundWinder rr3), .rob 10 [.ref 11] 121, .any 11 (D.fn Try.prog fe_funcapi_RoundWinder_bool fd_funcapi_RoundWinder_bool r15)]) (need' := [.rob 10 [.ref 11] 121, .any 11 (D.fn Try.prog fe_funcapi_RoundWinder_bool fd_funcapi_RoundWinder_bool r15), .ro 2 4 (List.map en_api_RoundWinder rr3)]) [1, 2, 0] ⟨rfl, rfl, rfl, trivial⟩ (FC.fnArg (args := [.ref 2, .ref 12]) (needC := [.rob 10 [.ref 11] 121, .any 11 (D.fn Try.prog fe_funcapi_RoundWinder_bool fd_funcapi_RoundWinder_bool r15)]) (need := [.ro 2 4 (List.map en_api_RoundWinder rr3)]) 1 (first := []) (caps := [.ptr 10 0]) (FC.needJ (need := [.any 12 (D.fn Try.prog fe_funcapi_RoundWinder_bool fd_funcapi_RoundWinder_bool (fun a => ev_round_not_api_RoundWinder_1 n a.1 a.2.1 a.2.2.1 a.2.2.2 r15)), .ro 2 4 (List.map en_api_RoundWinder rr3)]) (need' := [.ro 2 4 (List.map en_api_RoundWinder rr3), .any 12 (D.fn Try.prog fe_funcapi_RoundWinder_bool fd_funcapi_RoundWinder_bool (fun a => ev_round_not_api_RoundWinder_1 n a.1 a.2.1 a.2.2.1 a.2.2.2 r15))]) [1, 0] ⟨rfl, rfl, trivial⟩ (atJ [(0, 2), (1, 12)] [] (fc_slices_ContainsFunc_Lapi_RoundWinder_api_RoundWinder h20) rfl rfl)) rfl Try.call82 (fun a b hab => atJ [(0, 10), (1, 11)] [] (fc_round_not_api_RoundWinder_1 hab) rfl rfl) rfl (fun _ => rfl) (fun _ => rfl) rfl rfl rfl rfl rfl rfl rfl)) (.inr (fun x hx => nomatch hx))) rfl ⟨_, rfl, rfl⟩ rfl rfl ?_
            refine op0 (sp_pickF rfl rfl rfl) rfl trivial rfl rfl ?_
            refine op0 (sp_move rfl rfl) rfl trivial rfl rfl ?_
            rcases cond_cases h with ⟨h21, h⟩ | ⟨h21, h⟩
            · refine (boolLit 59 rfl h21).2 ?_
              refine opSkip rfl ⟨_, rfl, .inl rfl⟩ rfl ?_
              refine opSkip rfl ⟨_, rfl, .inl rfl⟩ rfl ?_
              refine opSkip rfl ⟨_, rfl, .inl rfl⟩ rfl ?_
              refine opSkip rfl ⟨_, rfl, .inl rfl⟩ rfl ?_
              refine opSkip rfl ⟨_, rfl, .inl rfl⟩ rfl ?_
              refine op0 (sp_pickT rfl rfl rfl) rfl trivial rfl rfl ?_
              refine op0 (sp_move rfl rfl) rfl trivial rfl rfl ?_
              refine opSkip rfl ⟨_, rfl, .inl rfl⟩ rfl ?_
              refine opSkip rfl ⟨_, rfl, .inl rfl⟩ rfl ?_
              refine opSkip rfl ⟨_, rfl, .inl rfl⟩ rfl ?_
              refine opSkip rfl ⟨_, rfl, .inl rfl⟩ rfl ?_
              refine opSkip rfl ⟨_, rfl, .inl rfl⟩ rfl ?_
              refine op0 (sp_pickT rfl rfl rfl) rfl trivial rfl rfl ?_
              refine TL.nil ?_
              refine TC.condT rfl ?_
              refine TC.seq ?_
              refine TC.region ?_
              refine op0 (sp_assign rfl rfl) rfl trivial rfl rfl ?_
              refine TL.nil ?_
              cases h
              exact retJ [] (.tmp rfl .nil) rfl trivial rfl rfl
            · refine (boolLit 59 rfl h21).2 ?_
              refine op1 4 rfl (sp_fieldAddrB rfl isBlk rfl ft26_3 vt3 (by decide)) rfl ⟨_, rfl, rfl⟩ rfl rfl ?_
              refine op1 4 rfl (sp_loadB rfl isBlk rfl vt3 rfl) rfl ⟨_, rfl, rfl⟩ rfl rfl ?_
              refine op0 (sp_buildSlice (qs := [vi rr4]) (need := []) (els := List.map en_int ([rr4] : List Int)) 13 rfl sl30 (by decide) (by decide) rfl rfl rfl (.v (.nil)) (map_len fun _ => rfl) rfl rfl rfl) rfl ⟨_, rfl, rfl⟩ rfl rfl ?_
              obtain ⟨r17, h22, h⟩ := bind_inv h
              refine op1 0 rfl (sp_call (avs := [vi 1, vi 1440, .ref 13]) (need := [.row 13 3 1 (List.map en_int ([rr4] : List Int))]) (v := .val (.bool r17)) (news := []) rfl rfl rfl Try.call48 (atJ [(0, 13)] [] (fc_round_within h22) rfl rfl) (.inr (fun x hx => nomatch hx))) rfl ⟨_, rfl, rfl⟩ rfl rfl ?_
              refine op0 (sp_not rfl rfl) rfl ⟨_, rfl, rfl⟩ rfl rfl ?_
              refine op0 (sp_pickF rfl rfl rfl) rfl trivial rfl rfl ?_
              refine op0 (sp_move rfl rfl) rfl trivial rfl rfl ?_
              rcases cond_cases h with ⟨h23, h⟩ | ⟨h23, h⟩
              · refine (boolLit 66 rfl h23).2 ?_
                refine opSkip rfl ⟨_, rfl, .inl rfl⟩ rfl ?_
                refine opSkip rfl ⟨_, rfl, .inl rfl⟩ rfl ?_
                refine opSkip rfl ⟨_, rfl, .inl rfl⟩ rfl ?_
                refine opSkip rfl ⟨_, rfl, .inl rfl⟩ rfl ?_
                refine opSkip rfl ⟨_, rfl, .inl rfl⟩ rfl ?_
                refine op0 (sp_pickT rfl rfl rfl) rfl trivial rfl rfl ?_
                refine TL.nil ?_
                refine TC.condT rfl ?_
                refine TC.seq ?_
                refine TC.region ?_
                refine op0 (sp_assign rfl rfl) rfl trivial rfl rfl ?_
                refine TL.nil ?_
                cases h
                exact retJ [] (.tmp rfl .nil) rfl trivial rfl rfl
              · refine (boolLit 66 rfl h23).2 ?_
                refine op1 5 rfl (sp_fieldAddrB rfl isBlk rfl ft26_4 vt3 (by decide)) rfl ⟨_, rfl, rfl⟩ rfl rfl ?_
                refine op1 5 rfl (sp_loadB rfl isBlk rfl vt3 rfl) rfl ⟨_, rfl, rfl⟩ rfl rfl ?_
                refine op0 (sp_buildSlice (qs := [vi rr5]) (need := []) (els := List.map en_int ([rr5] : List Int)) 14 rfl sl30 (by decide) (by decide) rfl rfl rfl (.v (.nil)) (map_len fun _ => rfl) rfl rfl rfl) rfl ⟨_, rfl, rfl⟩ rfl rfl ?_
                obtain ⟨r18, h24, h⟩ := bind_inv h
                refine op1 0 rfl (sp_call (avs := [vi 0, vi 1000, .ref 14]) (need := [.row 14 3 1 (List.map en_int ([rr5] : List Int))]) (v := .val (.bool r18)) (news := []) rfl rfl rfl Try.call48 (atJ [(0, 14)] [] (fc_round_within h24) rfl rfl) (.inr (fun x hx => nomatch hx))) rfl ⟨_, rfl, rfl⟩ rfl rfl ?_
                refine op0 (sp_not rfl rfl) rfl ⟨_, rfl, rfl⟩ rfl rfl ?_
                refine op0 (sp_pickF rfl rfl rfl) rfl trivial rfl rfl ?_
                refine TL.nil ?_
                refine TC.cond (b := (!r18)) rfl (fun h25 => ?_) (fun h25 => ?_)
                · have h := cond_t h h25
                  refine TC.seq ?_
                  refine TC.region ?_
                  refine op0 (sp_assign rfl rfl) rfl trivial rfl rfl ?_
                  refine TL.nil ?_
                  cases h
                  exact retJ [] (.tmp rfl .nil) rfl trivial rfl rfl
                · have h := cond_f h h25
                  refine TC.skip ?_
                  refine TC.seq ?_
                  refine TC.region ?_
                  refine op0 (sp_assign rfl rfl) rfl trivial rfl rfl ?_
                  refine TL.nil ?_
                  cases h
                  exact retJ [] (.tmp rfl .nil) rfl trivial rfl rfl
def ev_round_Check_j0 (n : Nat) (rr1 : List (Int × Int × Int × Int × Int)) (rr2 : List ((List Int))) (rr3 : List (Int × Int × Int × Int)) (rr4 : Int) (rr5 : Int) (b6 : Bool) : Option Int :=
  cond b6 (some 5) ((ev_round_areWays n rr1 rr2 rr3 rr4 rr5).bind fun r7 => cond (!r7) (some 4) (ev_round_Check_l1 n rr2 rr1 rr3 rr4 rr5 n 0))
theorem ok_round_Check_j0 {n : Nat} {w0 : World} {R0 : Nat → Prop} {env0 : Env} {r : Int} {rr4 : Int} {rr5 : Int} {rr1 : List (Int × Int × Int × Int × Int)} {rr2 : List ((List Int))} {rr3 : List (Int × Int × Int × Int)} {b6 : Bool} (h : ev_round_Check_j0 n rr1 rr2 rr3 rr4 rr5 b6 = some r) : TC Try.prog ⟨w0, fun _ => False, R0⟩ 73 (bodyPost Try.prog Try.f33 (Post ⟨w0, fun _ => False, R0⟩ env0 (vi r) [])) [.code (sub (bodyOf Try.f33) [1, 0, 0, 1]), .inBlock 0, .code (sub (bodyOf Try.f33) [1, 1])] ([(1, .ptr 3 0), (5, .val (.bool b6))]) ([.blk 3 [.ref 0, .ref 1, .ref 2, vi rr4, vi rr5] 26, .ro 0 5 (List.map en_api_RoundTower rr1), .ro 1 1 (List.map en_Lint rr2), .ro 2 4 (List.map en_api_RoundWinder rr3)]) := by
  rw [ev_round_Check_j0] at h
  refine TC.cond (b := b6) rfl (fun h2 => ?_) (fun h2 => ?_)
  · have h := cond_t h h2
    refine TC.seq ?_
    refine TC.region ?_
    refine op0 (sp_assign rfl rfl) rfl trivial rfl rfl ?_
    refine TL.nil ?_
    cases h
    exact retJ [] (.tmp rfl .nil) rfl trivial rfl rfl
  · have h := cond_f h h2
    refine TC.seq ?_
    refine TC.region ?_
    refine op1 0 rfl (sp_loadBA rfl isBlk rfl vt26 rfl rfl) rfl trivial rfl rfl ?_
    obtain ⟨r7, h3, h⟩ := bind_inv h
    refine opN (need := [.ro 0 5 (List.map en_api_RoundTower rr1), .ro 1 1 (List.map en_Lint rr2), .ro 2 4 (List.map en_api_RoundWinder rr3)]) [1, 2, 3] ⟨rfl, rfl, rfl, trivial⟩ (sp_call (avs := [.agg [.ref 0, .ref 1, .ref 2, vi rr4, vi rr5]]) (need := [.ro 0 5 (List.map en_api_RoundTower rr1), .ro 1 1 (List.map en_Lint rr2), .ro 2 4 (List.map en_api_RoundWinder rr3)]) (v := .val (.bool r7)) (news := []) rfl rfl rfl Try.call47 (atJ [] [] (fc_round_areWays h3) rfl rfl) (.inl (roAll rfl))) rfl trivial rfl rfl ?_
    refine op0 (sp_not rfl rfl) rfl trivial rfl rfl ?_
    refine op0 (sp_assign rfl rfl) rfl trivial rfl rfl ?_
    refine TL.nil ?_
    refine TC.cond (b := (!r7)) rfl (fun h4 => ?_) (fun h4 => ?_)
    · have h := cond_t h h4
      refine TC.seq ?_
      refine TC.region ?_
      refine op0 (sp_assign rfl rfl) rfl trivial rfl rfl ?_
      refine TL.nil ?_
      cases h
      exact retJ [] (.tmp rfl .nil) rfl trivial rfl rfl
    · have h := cond_f h h4
      refine TC.skip ?_
      refine TC.inBlock ?_
      refine TC.seq ?_
      refine TC.seq ?_
      refine TC.region ?_
      refine op1 0 rfl (sp_fieldAddrB rfl isBlk rfl ft26_1 vt23 (by decide)) rfl trivial rfl rfl ?_
      refine op1 0 rfl (sp_loadB rfl isBlk rfl vt23 rfl) rfl trivial rfl rfl ?_
      refine op1 2 rfl (sp_lenM (N := rr2.length) (len_map _ _) rfl rfl isRo Try.underlying23) rfl trivial rfl rfl ?_
      refine op0 (sp_move rfl rfl) rfl trivial rfl rfl ?_
      refine TL.nil ?_
      refine TC.block ?_
      refine TC.loop ?_
      refine TC.seq ?_
      refine subJ [] (ok_round_Check_l1 _ _ h) ?_ ?_ ?_
      · exact ⟨rfl, rfl, rfl, rfl, trivial⟩
      · exact ⟨mem_at 0 rfl, mem_at 2 rfl, mem_at 1 rfl, mem_at 3 rfl, trivial⟩
      · rfl
def ev_round_Check (n : Nat) (rr1 : List (Int × Int × Int × Int × Int)) (rr2 : List ((List Int))) (rr3 : List (Int × Int × Int × Int)) (rr4 : Int) (rr5 : Int) : Option Int :=
  cond (decide ((8 : Int) < (rr1.length : Int))) (ev_round_Check_j0 n rr1 rr2 rr3 rr4 rr5 (decide ((8 : Int) < (rr1.length : Int)))) (ev_round_Check_j0 n rr1 rr2 rr3 rr4 rr5 (decide ((4 : Int) < (rr3.length : Int))))
theorem fc_round_Check {n : Nat} {rr1 : List (Int × Int × Int × Int × Int)} {rr2 : List ((List Int))} {rr3 : List (Int × Int × Int × Int)} {rr4 : Int} {rr5 : Int} {r : Int} (h : ev_round_Check n rr1 rr2 rr3 rr4 rr5 = some r) : FC Try.prog 33 [.agg [.ref 0, .ref 1, .ref 2, vi rr4, vi rr5]] [.ro 0 5 (List.map en_api_RoundTower rr1), .ro 1 1 (List.map en_Lint rr2), .ro 2 4 (List.map en_api_RoundWinder rr3)] (vi r) [] := by
  refine introJ (nz := 73) Try.func33 rfl rfl rfl (fun w0 R0 env0 => ?_)
  rw [ev_round_Check] at h
  refine TC.seq ?_
  refine TC.region ?_
  refine op0 (sp_box 3 rfl rfl rfl rfl rfl) rfl trivial rfl rfl ?_
  refine op0 (sp_assign rfl rfl) rfl trivial rfl rfl ?_
  refine TL.nil ?_
  refine TC.seq ?_
  refine TC.block ?_
  refine TC.seq ?_
  refine TC.seq ?_
  refine TC.region ?_
  refine op1 0 rfl (sp_fieldAddrB rfl isBlk rfl ft26_0 vt22 (by decide)) rfl trivial rfl rfl ?_
  refine op1 0 rfl (sp_loadB rfl isBlk rfl vt22 rfl) rfl trivial rfl rfl ?_
  refine op1 1 rfl (sp_lenM (N := rr1.length) (len_map _ _) rfl rfl isRo Try.underlying22) rfl trivial rfl rfl ?_
  refine op0 (sp_gtr rfl rfl rfl) rfl trivial rfl rfl ?_
  refine op0 (sp_assign rfl rfl) rfl trivial rfl rfl ?_
  refine TL.nil ?_
  refine TC.cond (b := (decide ((8 : Int) < (rr1.length : Int)))) rfl (fun h1 => ?_) (fun h1 => ?_)
  · have h := cond_t h h1
    refine TC.skip ?_
    refine subJ [] (ok_round_Check_j0 h) ?_ ?_ ?_
    · exact ⟨rfl, rfl, trivial⟩
    · exact ⟨mem_at 0 rfl, mem_at 1 rfl, mem_at 2 rfl, mem_at 3 rfl, trivial⟩
    · rfl
  · have h := cond_f h h1
    refine TC.region ?_
    refine op1 0 rfl (sp_fieldAddrB rfl isBlk rfl ft26_2 vt24 (by decide)) rfl trivial rfl rfl ?_
    refine op1 0 rfl (sp_loadB rfl isBlk rfl vt24 rfl) rfl trivial rfl rfl ?_
    refine op1 3 rfl (sp_lenM (N := rr3.length) (len_map _ _) rfl rfl isRo Try.underlying24) rfl trivial rfl rfl ?_
    refine op0 (sp_gtr rfl rfl rfl) rfl trivial rfl rfl ?_
    refine op0 (sp_assign rfl rfl) rfl trivial rfl rfl ?_
    refine TL.nil ?_
    refine subJ [] (ok_round_Check_j0 h) ?_ ?_ ?_
    · exact ⟨rfl, rfl, trivial⟩
    · exact ⟨mem_at 0 rfl, mem_at 1 rfl, mem_at 2 rfl, mem_at 3 rfl, trivial⟩
    · rfl
def ev_round_isNumber (n : Nat) (rr1 : List (Int × Int × Int × Int × Int)) (rr2 : List ((List Int))) (rr3 : List (Int × Int × Int × Int)) (rr4 : Int) (rr5 : Int) (winder6 : Int) : Option Bool :=
  chk (in64 ((rr3.length : Int) - 1)) <| (ev_round_within n 0 ((rr3.length : Int) - 1) ([winder6] : List Int)).bind fun r7 => some r7
theorem fc_round_isNumber {n : Nat} {rr1 : List (Int × Int × Int × Int × Int)} {rr2 : List ((List Int))} {rr3 : List (Int × Int × Int × Int)} {rr4 : Int} {rr5 : Int} {winder6 : Int} {r : Bool} (h : ev_round_isNumber n rr1 rr2 rr3 rr4 rr5 winder6 = some r) : FC Try.prog 34 [.agg [.ref 0, .ref 1, .ref 2, vi rr4, vi rr5], vi winder6] [.ro 0 5 (List.map en_api_RoundTower rr1), .ro 1 1 (List.map en_Lint rr2), .ro 2 4 (List.map en_api_RoundWinder rr3)] (.val (.bool r)) [] := by
  refine introJ (nz := 12) Try.func34 rfl rfl rfl (fun w0 R0 env0 => ?_)
  rw [ev_round_isNumber] at h
  refine TC.seq ?_
  refine TC.region ?_
  refine op0 (sp_box 3 rfl rfl rfl rfl rfl) rfl trivial rfl rfl ?_
  refine op0 (sp_assign rfl rfl) rfl trivial rfl rfl ?_
  refine TL.nil ?_
  refine TC.seq ?_
  refine TC.region ?_
  refine op1 0 rfl (sp_fieldAddrB rfl isBlk rfl ft26_2 vt24 (by decide)) rfl trivial rfl rfl ?_
  refine op1 0 rfl (sp_loadB rfl isBlk rfl vt24 rfl) rfl trivial rfl rfl ?_
  refine op1 3 rfl (sp_lenM (N := rr3.length) (len_map _ _) rfl rfl isRo Try.underlying24) rfl trivial rfl rfl ?_
  obtain ⟨h1, h⟩ := chk_inv h
  refine op0 (sp_sub rfl rfl rfl h1) rfl trivial rfl rfl ?_
  refine op0 (sp_move rfl rfl) rfl trivial rfl rfl ?_
  refine op0 (sp_buildSlice (qs := [vi winder6]) (need := []) (els := List.map en_int ([winder6] : List Int)) 4 rfl sl30 (by decide) (by decide) rfl rfl rfl (.v (.nil)) (map_len fun _ => rfl) rfl rfl rfl) rfl trivial rfl rfl ?_
  obtain ⟨r7, h2, h⟩ := bind_inv h
  refine op1 0 rfl (sp_call (avs := [vi 0, vi ((rr3.length : Int) - 1), .ref 4]) (need := [.row 4 3 1 (List.map en_int ([winder6] : List Int))]) (v := .val (.bool r7)) (news := []) rfl rfl rfl Try.call48 (atJ [(0, 4)] [] (fc_round_within h2) rfl rfl) (.inr (fun x hx => nomatch hx))) rfl trivial rfl rfl ?_
  refine op0 (sp_assign rfl rfl) rfl trivial rfl rfl ?_
  refine TL.nil ?_
  cases h
  exact retJ [] (.tmp rfl .nil) rfl trivial rfl rfl
def ev_round_works (n : Nat) (rr1 : List (Int × Int × Int × Int × Int)) (rr2 : List ((List Int))) (rr3 : List (Int × Int × Int × Int)) (rr4 : Int) (rr5 : Int) : Option Int :=
  some (rr1.length : Int)
theorem fc_round_works {n : Nat} {rr1 : List (Int × Int × Int × Int × Int)} {rr2 : List ((List Int))} {rr3 : List (Int × Int × Int × Int)} {rr4 : Int} {rr5 : Int} {r : Int} (h : ev_round_works n rr1 rr2 rr3 rr4 rr5 = some r) : FC Try.prog 59 [.agg [.ref 0, .ref 1, .ref 2, vi rr4, vi rr5]] [.ro 0 5 (List.map en_api_RoundTower rr1), .ro 1 1 (List.map en_Lint rr2), .ro 2 4 (List.map en_api_RoundWinder rr3)] (vi r) [] := by
  refine introJ (nz := 6) Try.func59 rfl rfl rfl (fun w0 R0 env0 => ?_)
  rw [ev_round_works] at h
  refine TC.seq ?_
  refine TC.region ?_
  refine op0 (sp_box 3 rfl rfl rfl rfl rfl) rfl trivial rfl rfl ?_
  refine op0 (sp_assign rfl rfl) rfl trivial rfl rfl ?_
  refine TL.nil ?_
  refine TC.seq ?_
  refine TC.region ?_
  refine op1 0 rfl (sp_fieldAddrB rfl isBlk rfl ft26_0 vt22 (by decide)) rfl trivial rfl rfl ?_
  refine op1 0 rfl (sp_loadB rfl isBlk rfl vt22 rfl) rfl trivial rfl rfl ?_
  refine op1 1 rfl (sp_lenM (N := rr1.length) (len_map _ _) rfl rfl isRo Try.underlying22) rfl trivial rfl rfl ?_
  refine op0 (sp_assign rfl rfl) rfl trivial rfl rfl ?_
  refine TL.nil ?_
  cases h
  exact retJ [] (.tmp rfl .nil) rfl trivial rfl rfl
def ev_round_start (n : Nat) (rr1 : List (Int × Int × Int × Int × Int)) (rr2 : List ((List Int))) (rr3 : List (Int × Int × Int × Int)) (rr4 : Int) (rr5 : Int) (winder6 : Int) : Option ((List (Int × Int × Int × Int × Int)) × (List ((List Int))) × (List (Int × Int × Int × Int)) × Int × Int × Int × Int × Int × Int × Int × Int × Int × Int × Int) :=
  idx rr3 winder6 fun x7 => (ev_round_works n rr1 rr2 rr3 rr4 rr5).bind fun r8 => some (rr1, rr2, rr3, rr4, rr5, x7.1, x7.2.1, x7.2.2.1, x7.2.2.2, r8, 0, 0, 0, 0)
theorem fc_round_start {n : Nat} {rr1 : List (Int × Int × Int × Int × Int)} {rr2 : List ((List Int))} {rr3 : List (Int × Int × Int × Int)} {rr4 : Int} {rr5 : Int} {winder6 : Int} {r : (List (Int × Int × Int × Int × Int)) × (List ((List Int))) × (List (Int × Int × Int × Int)) × Int × Int × Int × Int × Int × Int × Int × Int × Int × Int × Int} (h : ev_round_start n rr1 rr2 rr3 rr4 rr5 winder6 = some r) : FC Try.prog 37 [.agg [.ref 0, .ref 1, .ref 2, vi rr4, vi rr5], vi winder6] [.ro 0 5 (List.map en_api_RoundTower rr1), .ro 1 1 (List.map en_Lint rr2), .ro 2 4 (List.map en_api_RoundWinder rr3)] (.agg [.ref 0, .ref 1, .ref 2, vi r.2.2.2.1, vi r.2.2.2.2.1, .val (.int .u16 r.2.2.2.2.2.1), vi r.2.2.2.2.2.2.1, vi r.2.2.2.2.2.2.2.1, vi r.2.2.2.2.2.2.2.2.1, vi r.2.2.2.2.2.2.2.2.2.1, vi r.2.2.2.2.2.2.2.2.2.2.1, vi r.2.2.2.2.2.2.2.2.2.2.2.1, vi r.2.2.2.2.2.2.2.2.2.2.2.2.1, vi r.2.2.2.2.2.2.2.2.2.2.2.2.2]) [.ro 0 5 (List.map en_api_RoundTower r.1), .ro 1 1 (List.map en_Lint r.2.1), .ro 2 4 (List.map en_api_RoundWinder r.2.2.1)] := by
  refine introJ (nz := 14) Try.func37 rfl rfl rfl (fun w0 R0 env0 => ?_)
  rw [ev_round_start] at h
  refine TC.seq ?_
  refine TC.region ?_
  refine op0 (sp_box 3 rfl rfl rfl rfl rfl) rfl trivial rfl rfl ?_
  refine op0 (sp_alloc 4 rfl Try.zeroValue100 rfl) rfl trivial rfl rfl ?_
  refine TL.nil ?_
  refine TC.seq ?_
  obtain ⟨x7, h1, h2, h⟩ := idx_inv h
  obtain ⟨r8, h3, h⟩ := bind_inv h
  refine drawJ 8 [⟨.agg [.ref 0, .ref 1, .ref 2, vi rr4, vi rr5], [], [.blk 3 [.ref 0, .ref 1, .ref 2, vi rr4, vi rr5] 26], []⟩, ⟨.ptr 3 2, [], [.blk 3 [.ref 0, .ref 1, .ref 2, vi rr4, vi rr5] 26], []⟩, ⟨.ref 2, [], [.blk 3 [.ref 0, .ref 1, .ref 2, vi rr4, vi rr5] 26], []⟩, ⟨vi winder6, [], [], []⟩, ⟨.cell 2 ((winder6 : Int).toNat * 4), [], [.ro 2 4 (List.map en_api_RoundWinder rr3)], []⟩, ⟨.agg [.val (.int .u16 x7.1), vi x7.2.1, vi x7.2.2.1, vi x7.2.2.2], [], [.ro 2 4 (List.map en_api_RoundWinder rr3)], []⟩, ⟨.agg [.ref 0, .ref 1, .ref 2, vi rr4, vi rr5], [], [.blk 3 [.ref 0, .ref 1, .ref 2, vi rr4, vi rr5] 26], []⟩, ⟨vi r8, [], [.ro 0 5 (List.map en_api_RoundTower rr1), .ro 1 1 (List.map en_Lint rr2), .ro 2 4 (List.map en_api_RoundWinder rr3)], []⟩] rfl ?_ rfl ?_ rfl ?_ ?_
  · kernel_rfl
  · kernel_rfl
  · exact DAll.op' (sp_loadBA rfl isBlk rfl vt26 rfl rfl) trivial rfl (From.ok (ps := [(none, 1)]) ⟨⟨rfl, rfl⟩, trivial⟩) (DAll.op' (sp_fieldAddrB rfl isBlk rfl ft26_2 vt24 (by decide)) trivial rfl (From.ok (ps := [(none, 1)]) ⟨⟨rfl, rfl⟩, trivial⟩) (DAll.op' (sp_loadB rfl isBlk rfl vt24 rfl) trivial rfl (From.ok (ps := [(none, 1)]) ⟨⟨rfl, rfl⟩, trivial⟩) (DAll.op' (sp_move rfl rfl) trivial rfl (From.ok (ps := []) trivial) (DAll.op' (sp_indexS rfl rfl rfl isRo sl24 h1 (map_get _ h2)) trivial rfl (From.ok (ps := [(none, 4)]) ⟨⟨rfl, rfl⟩, trivial⟩) (DAll.op' (sp_loadRA (i := (winder6 : Int).toNat) (j := 0) (as_ := [.val (.int .u16 x7.1), vi x7.2.1, vi x7.2.2.1, vi x7.2.2.2]) (ns := []) rfl rfl isRo vt76 rfl (map_get _ h2) rfl rfl (by decide) (.v (.v (.v (.v (.nil))))) (nodup_of_B rfl)) trivial rfl (From.ok (ps := [(none, 4)]) ⟨⟨rfl, rfl⟩, trivial⟩) (DAll.op' (sp_loadBA rfl isBlk rfl vt26 rfl rfl) trivial rfl (From.ok (ps := [(none, 1)]) ⟨⟨rfl, rfl⟩, trivial⟩) (DAll.op' (sp_call (avs := [.agg [.ref 0, .ref 1, .ref 2, vi rr4, vi rr5]]) (need := [.ro 0 5 (List.map en_api_RoundTower rr1), .ro 1 1 (List.map en_Lint rr2), .ro 2 4 (List.map en_api_RoundWinder rr3)]) (v := vi r8) (news := []) rfl rfl rfl Try.call59 (atJ [] [] (fc_round_works h3) rfl rfl) (.inl (roAll rfl))) trivial rfl (From.ok (ps := [(none, 2), (none, 3), (none, 4)]) ⟨⟨rfl, rfl⟩, ⟨rfl, rfl⟩, ⟨rfl, rfl⟩, trivial⟩) (.nil))))))))
  refine op0 (sp_build (qs := [(0, .agg [.ref 0, .ref 1, .ref 2, vi rr4, vi rr5]), (1, .agg [.val (.int .u16 x7.1), vi x7.2.1, vi x7.2.2.1, vi x7.2.2.2]), (2, vi r8)]) rfl bt100 rfl rfl rfl rfl) rfl trivial rfl rfl ?_
  refine stoB 0 (cells' := [.ref 0, .ref 1, .ref 2, vi rr4, vi rr5, .val (.int .u16 x7.1), vi x7.2.1, vi x7.2.2.1, vi x7.2.2.2, vi r8, vi 0, vi 0, vi 0, vi 0]) rfl rfl trivial rfl rfl rfl rfl vt100 rfl rfl rfl ?_
  refine TL.nil ?_
  cases h
  exact retJ [] (.cells rfl (mem_at 0 rfl) isBlk vt100 rfl rfl (.nil)) rfl ⟨mem_at 2 rfl, mem_at 3 rfl, mem_at 4 rfl, trivial⟩ rfl rfl
def ev_round_walker_late (n : Nat) (w1 : List (Int × Int × Int × Int × Int)) (w2 : List ((List Int))) (w3 : List (Int × Int × Int × Int)) (w4 : Int) (w5 : Int) (w6 : Int) (w7 : Int) (w8 : Int) (w9 : Int) (w10 : Int) (w11 : Int) (w12 : Int) (w13 : Int) (w14 : Int) : Option Int :=
  cond (decide (w8 < w14)) (some 110) (some 0)
theorem fc_round_walker_late {n : Nat} {w1 : List (Int × Int × Int × Int × Int)} {w2 : List ((List Int))} {w3 : List (Int × Int × Int × Int)} {w4 : Int} {w5 : Int} {w6 : Int} {w7 : Int} {w8 : Int} {w9 : Int} {w10 : Int} {w11 : Int} {w12 : Int} {w13 : Int} {w14 : Int} {r : Int} (h : ev_round_walker_late n w1 w2 w3 w4 w5 w6 w7 w8 w9 w10 w11 w12 w13 w14 = some r) : FC Try.prog 83 [.agg [.ref 0, .ref 1, .ref 2, vi w4, vi w5, .val (.int .u16 w6), vi w7, vi w8, vi w9, vi w10, vi w11, vi w12, vi w13, vi w14]] [.ro 0 5 (List.map en_api_RoundTower w1), .ro 1 1 (List.map en_Lint w2), .ro 2 4 (List.map en_api_RoundWinder w3)] (vi r) [] := by
  refine introJ (nz := 9) Try.func83 rfl rfl rfl (fun w0 R0 env0 => ?_)
  rw [ev_round_walker_late] at h
  refine TC.seq ?_
  refine TC.region ?_
  refine op0 (sp_box 3 rfl rfl rfl rfl rfl) rfl trivial rfl rfl ?_
  refine op0 (sp_assign rfl rfl) rfl trivial rfl rfl ?_
  refine TL.nil ?_
  refine TC.seq ?_
  refine TC.seq ?_
  refine TC.region ?_
  refine op1 0 rfl (sp_fieldAddrB rfl isBlk rfl ft100_6 vt3 (by decide)) rfl trivial rfl rfl ?_
  refine op1 0 rfl (sp_loadB rfl isBlk rfl vt3 rfl) rfl trivial rfl rfl ?_
  refine op1 0 rfl (sp_fieldAddrB rfl isBlk rfl ft100_1 vt76 (by decide)) rfl trivial rfl rfl ?_
  refine op1 0 rfl (sp_fieldAddrB rfl isBlk rfl ft76_2 vt3 (by decide)) rfl trivial rfl rfl ?_
  refine op1 0 rfl (sp_loadB rfl isBlk rfl vt3 rfl) rfl trivial rfl rfl ?_
  refine op0 (sp_gtr rfl rfl rfl) rfl trivial rfl rfl ?_
  refine TL.nil ?_
  refine TC.cond (b := (decide (w8 < w14))) rfl (fun h1 => ?_) (fun h1 => ?_)
  · have h := cond_t h h1
    refine TC.seq ?_
    refine TC.region ?_
    refine op0 (sp_assign rfl rfl) rfl trivial rfl rfl ?_
    refine TL.nil ?_
    cases h
    exact retJ [] (.tmp rfl .nil) rfl trivial rfl rfl
  · have h := cond_f h h1
    refine TC.skip ?_
    refine TC.seq ?_
    refine TC.region ?_
    refine op0 (sp_assign rfl rfl) rfl trivial rfl rfl ?_
    refine TL.nil ?_
    cases h
    exact retJ [] (.tmp rfl .nil) rfl trivial rfl rfl
def ev_p_round_walker_rest (n : Nat) (w1 : List (Int × Int × Int × Int × Int)) (w2 : List ((List Int))) (w3 : List (Int × Int × Int × Int)) (w4 : Int) (w5 : Int) (w6 : Int) (w7 : Int) (w8 : Int) (w9 : Int) (w10 : Int) (w11 : Int) (w12 : Int) (w13 : Int) (w14 : Int) : Option (Int × (List (Int × Int × Int × Int × Int)) × (List ((List Int))) × (List (Int × Int × Int × Int)) × Int × Int × Int × Int × Int × Int × Int × Int × Int × Int × Int) :=
  chk (in64 (w14 + w4)) <| (ev_round_walker_late n w1 w2 w3 w4 w5 w6 w7 w8 w9 w10 w11 w12 0 (w14 + w4)).bind fun r15 => some (r15, w1, w2, w3, w4, w5, w6, w7, w8, w9, w10, w11, w12, 0, (w14 + w4))
theorem ft_p_round_walker_rest {n : Nat} {w1 : List (Int × Int × Int × Int × Int)} {w2 : List ((List Int))} {w3 : List (Int × Int × Int × Int)} {w4 : Int} {w5 : Int} {w6 : Int} {w7 : Int} {w8 : Int} {w9 : Int} {w10 : Int} {w11 : Int} {w12 : Int} {w13 : Int} {w14 : Int} {r : Int × (List (Int × Int × Int × Int × Int)) × (List ((List Int))) × (List (Int × Int × Int × Int)) × Int × Int × Int × Int × Int × Int × Int × Int × Int × Int × Int} (h : ev_p_round_walker_rest n w1 w2 w3 w4 w5 w6 w7 w8 w9 w10 w11 w12 w13 w14 = some r) : FT Try.prog 60 [.ptr 0 0] [.blk 0 [.ref 1, .ref 2, .ref 3, vi w4, vi w5, .val (.int .u16 w6), vi w7, vi w8, vi w9, vi w10, vi w11, vi w12, vi w13, vi w14] 100] [.ro 1 5 (List.map en_api_RoundTower w1), .ro 2 1 (List.map en_Lint w2), .ro 3 4 (List.map en_api_RoundWinder w3)] (vi r.1) [.ro 500 5 (List.map en_api_RoundTower r.2.1), .ro 501 1 (List.map en_Lint r.2.2.1), .ro 502 4 (List.map en_api_RoundWinder r.2.2.2.1), .blk 0 [.ref 500, .ref 501, .ref 502, vi r.2.2.2.2.1, vi r.2.2.2.2.2.1, .val (.int .u16 r.2.2.2.2.2.2.1), vi r.2.2.2.2.2.2.2.1, vi r.2.2.2.2.2.2.2.2.1, vi r.2.2.2.2.2.2.2.2.2.1, vi r.2.2.2.2.2.2.2.2.2.2.1, vi r.2.2.2.2.2.2.2.2.2.2.2.1, vi r.2.2.2.2.2.2.2.2.2.2.2.2.1, vi r.2.2.2.2.2.2.2.2.2.2.2.2.2.1, vi r.2.2.2.2.2.2.2.2.2.2.2.2.2.2] 100] := by
  refine introM (nz := 23) 4 [(5, 0)] Try.func60 rfl rfl rfl rfl (fun w0 M0 R0 env0 => ?_)
  rw [ev_p_round_walker_rest] at h
  refine TC.seq ?_
  refine TC.region ?_
  refine op0 (sp_assign rfl rfl) rfl trivial rfl rfl ?_
  refine TL.nil ?_
  refine TC.seq ?_
  obtain ⟨h1, h⟩ := chk_inv h
  refine drawJ 15 [⟨.ptr 0 0, [], [], []⟩, ⟨.ptr 0 0, [], [], []⟩, ⟨.ptr 0 0, [], [], []⟩, ⟨.ptr 0 0, [], [.blk 0 [.ref 1, .ref 2, .ref 3, vi w4, vi w5, .val (.int .u16 w6), vi w7, vi w8, vi w9, vi w10, vi w11, vi w12, vi w13, vi w14] 100], []⟩, ⟨.ptr 0 13, [], [.blk 0 [.ref 1, .ref 2, .ref 3, vi w4, vi w5, .val (.int .u16 w6), vi w7, vi w8, vi w9, vi w10, vi w11, vi w12, vi w13, vi w14] 100], []⟩, ⟨vi w14, [], [.blk 0 [.ref 1, .ref 2, .ref 3, vi w4, vi w5, .val (.int .u16 w6), vi w7, vi w8, vi w9, vi w10, vi w11, vi w12, vi w13, vi w14] 100], []⟩, ⟨.ptr 0 0, [], [], []⟩, ⟨.ptr 0 0, [], [.blk 0 [.ref 1, .ref 2, .ref 3, vi w4, vi w5, .val (.int .u16 w6), vi w7, vi w8, vi w9, vi w10, vi w11, vi w12, vi w13, vi w14] 100], []⟩, ⟨.ptr 0 0, [], [.blk 0 [.ref 1, .ref 2, .ref 3, vi w4, vi w5, .val (.int .u16 w6), vi w7, vi w8, vi w9, vi w10, vi w11, vi w12, vi w13, vi w14] 100], []⟩, ⟨.ptr 0 3, [], [.blk 0 [.ref 1, .ref 2, .ref 3, vi w4, vi w5, .val (.int .u16 w6), vi w7, vi w8, vi w9, vi w10, vi w11, vi w12, vi w13, vi w14] 100], []⟩, ⟨vi w4, [], [.blk 0 [.ref 1, .ref 2, .ref 3, vi w4, vi w5, .val (.int .u16 w6), vi w7, vi w8, vi w9, vi w10, vi w11, vi w12, vi w13, vi w14] 100], []⟩, ⟨vi (w14 + w4), [], [], []⟩, ⟨.ptr 0 0, [], [.blk 0 [.ref 1, .ref 2, .ref 3, vi w4, vi w5, .val (.int .u16 w6), vi w7, vi w8, vi w9, vi w10, vi w11, vi w12, vi w13, vi w14] 100], []⟩, ⟨.ptr 0 12, [], [.blk 0 [.ref 1, .ref 2, .ref 3, vi w4, vi w5, .val (.int .u16 w6), vi w7, vi w8, vi w9, vi w10, vi w11, vi w12, vi w13, vi w14] 100], []⟩, ⟨.val (undef), [.blk 0 [.ref 1, .ref 2, .ref 3, vi w4, vi w5, .val (.int .u16 w6), vi w7, vi w8, vi w9, vi w10, vi w11, vi w12, vi 0, vi w14] 100], [], [.blk 0 [.ref 1, .ref 2, .ref 3, vi w4, vi w5, .val (.int .u16 w6), vi w7, vi w8, vi w9, vi w10, vi w11, vi w12, vi w13, vi w14] 100]⟩] rfl ?_ rfl ?_ rfl ?_ ?_
  · kernel_rfl
  · kernel_rfl
  · exact DAll.op' (sp_move rfl rfl) trivial rfl (From.ok (ps := []) trivial) (DAll.op' (sp_move rfl rfl) trivial rfl (From.ok (ps := []) trivial) (DAll.op' (sp_move rfl rfl) trivial rfl (From.ok (ps := []) trivial) (DAll.op' (sp_nilCheck rfl isBlk rfl) trivial rfl (From.ok (ps := [(none, 2)]) ⟨⟨rfl, by kernel_rfl⟩, trivial⟩) (DAll.op' (sp_fieldAddrB rfl isBlk rfl ft100_6 vt3 (by decide)) trivial rfl (From.ok (ps := [(none, 2)]) ⟨⟨rfl, by kernel_rfl⟩, trivial⟩) (DAll.op' (sp_loadB rfl isBlk rfl vt3 rfl) trivial rfl (From.ok (ps := [(none, 2)]) ⟨⟨rfl, by kernel_rfl⟩, trivial⟩) (DAll.op' (sp_move rfl rfl) trivial rfl (From.ok (ps := []) trivial) (DAll.op' (sp_nilCheck rfl isBlk rfl) trivial rfl (From.ok (ps := [(none, 2)]) ⟨⟨rfl, by kernel_rfl⟩, trivial⟩) (DAll.op' (sp_fieldAddrB rfl isBlk rfl ft100_0 vt26 (by decide)) trivial rfl (From.ok (ps := [(none, 2)]) ⟨⟨rfl, by kernel_rfl⟩, trivial⟩) (DAll.op' (sp_fieldAddrB rfl isBlk rfl ft26_3 vt3 (by decide)) trivial rfl (From.ok (ps := [(none, 2)]) ⟨⟨rfl, by kernel_rfl⟩, trivial⟩) (DAll.op' (sp_loadB rfl isBlk rfl vt3 rfl) trivial rfl (From.ok (ps := [(none, 2)]) ⟨⟨rfl, by kernel_rfl⟩, trivial⟩) (DAll.op' (sp_add rfl rfl rfl h1) trivial rfl (From.ok (ps := []) trivial) (DAll.op' (sp_nilCheck rfl isBlk rfl) trivial rfl (From.ok (ps := [(none, 2)]) ⟨⟨rfl, by kernel_rfl⟩, trivial⟩) (DAll.op' (sp_fieldAddrB rfl isBlk rfl ft100_5 vt3 (by decide)) trivial rfl (From.ok (ps := [(none, 2)]) ⟨⟨rfl, by kernel_rfl⟩, trivial⟩) (DAll.opT (ts_storeB (off := 12) (cells' := [.ref 1, .ref 2, .ref 3, vi w4, vi w5, .val (.int .u16 w6), vi w7, vi w8, vi w9, vi w10, vi w11, vi w12, vi 0, vi w14]) rfl rfl rfl rfl vt3 rfl rfl rfl) trivial (From.ok (ps := [(none, 2)]) ⟨⟨rfl, by kernel_rfl⟩, trivial⟩) (From.ok (ps := []) trivial) (.nil)))))))))))))))
  refine op1 0 rfl (sp_nilCheck rfl isBlk rfl) rfl trivial rfl rfl ?_
  refine op1 0 rfl (sp_fieldAddrB rfl isBlk rfl ft100_6 vt3 (by decide)) rfl trivial rfl rfl ?_
  refine stoB 0 (cells' := [.ref 1, .ref 2, .ref 3, vi w4, vi w5, .val (.int .u16 w6), vi w7, vi w8, vi w9, vi w10, vi w11, vi w12, vi 0, vi (w14 + w4)]) rfl rfl trivial rfl rfl rfl rfl vt3 rfl rfl rfl ?_
  refine TL.nil ?_
  refine TC.seq ?_
  refine TC.region ?_
  refine op0 (sp_move rfl rfl) rfl trivial rfl rfl ?_
  refine op1 0 rfl (sp_nilCheck rfl isBlk rfl) rfl trivial rfl rfl ?_
  refine op1 0 rfl (sp_loadBA rfl isBlk rfl vt100 rfl rfl) rfl trivial rfl rfl ?_
  obtain ⟨r15, h2, h⟩ := bind_inv h
  refine opN (need := [.ro 1 5 (List.map en_api_RoundTower w1), .ro 2 1 (List.map en_Lint w2), .ro 3 4 (List.map en_api_RoundWinder w3)]) [3, 4, 5] ⟨rfl, rfl, rfl, trivial⟩ (sp_call (avs := [.agg [.ref 1, .ref 2, .ref 3, vi w4, vi w5, .val (.int .u16 w6), vi w7, vi w8, vi w9, vi w10, vi w11, vi w12, vi 0, vi (w14 + w4)]]) (need := [.ro 1 5 (List.map en_api_RoundTower w1), .ro 2 1 (List.map en_Lint w2), .ro 3 4 (List.map en_api_RoundWinder w3)]) (v := vi r15) (news := []) rfl rfl rfl Try.call83 (atJ [(0, 1), (1, 2), (2, 3)] [] (fc_round_walker_late h2) rfl rfl) (.inl (roAll rfl))) rfl trivial rfl rfl ?_
  refine op0 (sp_assign rfl rfl) rfl trivial rfl rfl ?_
  refine TL.nil ?_
  cases h
  exact retM [(500, 1), (501, 2), (502, 3)] 1 4 [0] rfl (.tmp rfl .nil) rfl ⟨mem_at 2 rfl, mem_at 3 rfl, mem_at 4 rfl, mem_at 0 rfl, trivial⟩ rfl rfl ⟨⟨_, mem_at 1 rfl⟩, trivial⟩ rfl
def ev_round_set_has (n : Nat) (s1 : Int) (tower2 : Int) : Option Bool :=
  chk (decide (0 ≤ tower2)) <| some ((bitK .i64 .and (s1 / (shK .i64 tower2 : Int)) 1) == 1)
theorem fc_round_set_has {n : Nat} {s1 : Int} {tower2 : Int} {r : Bool} (h : ev_round_set_has n s1 tower2 = some r) : FC Try.prog 55 [vi s1, vi tower2] [] (.val (.bool r)) [] := by
  refine introJ (nz := 10) Try.func55 rfl rfl rfl (fun w0 R0 env0 => ?_)
  rw [ev_round_set_has] at h
  refine TC.seq ?_
  refine TC.region ?_
  refine op0 (sp_assign rfl rfl) rfl trivial rfl rfl ?_
  refine TL.nil ?_
  refine TC.seq ?_
  refine TC.region ?_
  refine op0 (sp_move rfl rfl) rfl trivial rfl rfl ?_
  refine op0 (sp_move rfl rfl) rfl trivial rfl rfl ?_
  obtain ⟨h1, h⟩ := chk_inv h
  refine op0 (sp_shr rfl rfl rfl h1) rfl trivial rfl rfl ?_
  refine op0 (sp_bit .and rfl rfl rfl rfl) rfl trivial rfl rfl ?_
  refine op0 (sp_eql rfl rfl rfl) rfl trivial rfl rfl ?_
  refine op0 (sp_assign rfl rfl) rfl trivial rfl rfl ?_
  refine TL.nil ?_
  cases h
  exact retJ [] (.tmp rfl .nil) rfl trivial rfl rfl
def ev_round_set_with (n : Nat) (s1 : Int) (tower2 : Int) : Option Int :=
  chk (decide (0 ≤ tower2)) <| chk (in64 ((1 : Int) * (shK .i64 tower2 : Int))) <| some (bitK .i64 .or s1 ((1 : Int) * (shK .i64 tower2 : Int)))
theorem fc_round_set_with {n : Nat} {s1 : Int} {tower2 : Int} {r : Int} (h : ev_round_set_with n s1 tower2 = some r) : FC Try.prog 56 [vi s1, vi tower2] [] (vi r) [] := by
  refine introJ (nz := 9) Try.func56 rfl rfl rfl (fun w0 R0 env0 => ?_)
  rw [ev_round_set_with] at h
  refine TC.seq ?_
  refine TC.region ?_
  refine op0 (sp_assign rfl rfl) rfl trivial rfl rfl ?_
  refine TL.nil ?_
  refine TC.seq ?_
  refine TC.region ?_
  refine op0 (sp_move rfl rfl) rfl trivial rfl rfl ?_
  refine op0 (sp_move rfl rfl) rfl trivial rfl rfl ?_
  obtain ⟨h1, h⟩ := chk_inv h
  obtain ⟨h2, h⟩ := chk_inv h
  refine op0 (sp_shl rfl rfl rfl h1 h2) rfl trivial rfl rfl ?_
  refine op0 (sp_bit .or rfl rfl rfl rfl) rfl trivial rfl rfl ?_
  refine op0 (sp_assign rfl rfl) rfl trivial rfl rfl ?_
  refine TL.nil ?_
  cases h
  exact retJ [] (.tmp rfl .nil) rfl trivial rfl rfl
def ev_p_round_walker_work (n : Nat) (w1 : List (Int × Int × Int × Int × Int)) (w2 : List ((List Int))) (w3 : List (Int × Int × Int × Int)) (w4 : Int) (w5 : Int) (w6 : Int) (w7 : Int) (w8 : Int) (w9 : Int) (w10 : Int) (w11 : Int) (w12 : Int) (w13 : Int) (w14 : Int) (minutes15 : Int) : Option (Int × (List (Int × Int × Int × Int × Int)) × (List ((List Int))) × (List (Int × Int × Int × Int)) × Int × Int × Int × Int × Int × Int × Int × Int × Int × Int × Int) :=
  chk (in64 (w13 + minutes15)) <| chk (in64 (w14 + minutes15)) <| cond (decide (w9 < (w13 + minutes15))) (some (111, w1, w2, w3, w4, w5, w6, w7, w8, w9, w10, w11, w12, (w13 + minutes15), (w14 + minutes15))) ((ev_round_walker_late n w1 w2 w3 w4 w5 w6 w7 w8 w9 w10 w11 w12 (w13 + minutes15) (w14 + minutes15)).bind fun r16 => some (r16, w1, w2, w3, w4, w5, w6, w7, w8, w9, w10, w11, w12, (w13 + minutes15), (w14 + minutes15)))
theorem ft_p_round_walker_work {n : Nat} {w1 : List (Int × Int × Int × Int × Int)} {w2 : List ((List Int))} {w3 : List (Int × Int × Int × Int)} {w4 : Int} {w5 : Int} {w6 : Int} {w7 : Int} {w8 : Int} {w9 : Int} {w10 : Int} {w11 : Int} {w12 : Int} {w13 : Int} {w14 : Int} {minutes15 : Int} {r : Int × (List (Int × Int × Int × Int × Int)) × (List ((List Int))) × (List (Int × Int × Int × Int)) × Int × Int × Int × Int × Int × Int × Int × Int × Int × Int × Int} (h : ev_p_round_walker_work n w1 w2 w3 w4 w5 w6 w7 w8 w9 w10 w11 w12 w13 w14 minutes15 = some r) : FT Try.prog 62 [.ptr 0 0, vi minutes15] [.blk 0 [.ref 1, .ref 2, .ref 3, vi w4, vi w5, .val (.int .u16 w6), vi w7, vi w8, vi w9, vi w10, vi w11, vi w12, vi w13, vi w14] 100] [.ro 1 5 (List.map en_api_RoundTower w1), .ro 2 1 (List.map en_Lint w2), .ro 3 4 (List.map en_api_RoundWinder w3)] (vi r.1) [.ro 500 5 (List.map en_api_RoundTower r.2.1), .ro 501 1 (List.map en_Lint r.2.2.1), .ro 502 4 (List.map en_api_RoundWinder r.2.2.2.1), .blk 0 [.ref 500, .ref 501, .ref 502, vi r.2.2.2.2.1, vi r.2.2.2.2.2.1, .val (.int .u16 r.2.2.2.2.2.2.1), vi r.2.2.2.2.2.2.2.1, vi r.2.2.2.2.2.2.2.2.1, vi r.2.2.2.2.2.2.2.2.2.1, vi r.2.2.2.2.2.2.2.2.2.2.1, vi r.2.2.2.2.2.2.2.2.2.2.2.1, vi r.2.2.2.2.2.2.2.2.2.2.2.2.1, vi r.2.2.2.2.2.2.2.2.2.2.2.2.2.1, vi r.2.2.2.2.2.2.2.2.2.2.2.2.2.2] 100] := by
  refine introM (nz := 37) 4 [(5, 0)] Try.func62 rfl rfl rfl rfl (fun w0 M0 R0 env0 => ?_)
  rw [ev_p_round_walker_work] at h
  refine TC.seq ?_
  refine TC.region ?_
  refine op0 (sp_assign rfl rfl) rfl trivial rfl rfl ?_
  refine TL.nil ?_
  refine TC.seq ?_
  obtain ⟨h1, h⟩ := chk_inv h
  obtain ⟨h2, h⟩ := chk_inv h
  refine drawJ 17 [⟨.ptr 0 0, [], [], []⟩, ⟨.ptr 0 0, [], [], []⟩, ⟨.ptr 0 0, [], [], []⟩, ⟨.ptr 0 0, [], [.blk 0 [.ref 1, .ref 2, .ref 3, vi w4, vi w5, .val (.int .u16 w6), vi w7, vi w8, vi w9, vi w10, vi w11, vi w12, vi w13, vi w14] 100], []⟩, ⟨.ptr 0 12, [], [.blk 0 [.ref 1, .ref 2, .ref 3, vi w4, vi w5, .val (.int .u16 w6), vi w7, vi w8, vi w9, vi w10, vi w11, vi w12, vi w13, vi w14] 100], []⟩, ⟨vi w13, [], [.blk 0 [.ref 1, .ref 2, .ref 3, vi w4, vi w5, .val (.int .u16 w6), vi w7, vi w8, vi w9, vi w10, vi w11, vi w12, vi w13, vi w14] 100], []⟩, ⟨vi minutes15, [], [], []⟩, ⟨vi (w13 + minutes15), [], [], []⟩, ⟨.ptr 0 0, [], [], []⟩, ⟨.ptr 0 0, [], [.blk 0 [.ref 1, .ref 2, .ref 3, vi w4, vi w5, .val (.int .u16 w6), vi w7, vi w8, vi w9, vi w10, vi w11, vi w12, vi w13, vi w14] 100], []⟩, ⟨.ptr 0 13, [], [.blk 0 [.ref 1, .ref 2, .ref 3, vi w4, vi w5, .val (.int .u16 w6), vi w7, vi w8, vi w9, vi w10, vi w11, vi w12, vi w13, vi w14] 100], []⟩, ⟨vi w14, [], [.blk 0 [.ref 1, .ref 2, .ref 3, vi w4, vi w5, .val (.int .u16 w6), vi w7, vi w8, vi w9, vi w10, vi w11, vi w12, vi w13, vi w14] 100], []⟩, ⟨vi minutes15, [], [], []⟩, ⟨vi (w14 + minutes15), [], [], []⟩, ⟨.ptr 0 0, [], [.blk 0 [.ref 1, .ref 2, .ref 3, vi w4, vi w5, .val (.int .u16 w6), vi w7, vi w8, vi w9, vi w10, vi w11, vi w12, vi w13, vi w14] 100], []⟩, ⟨.ptr 0 12, [], [.blk 0 [.ref 1, .ref 2, .ref 3, vi w4, vi w5, .val (.int .u16 w6), vi w7, vi w8, vi w9, vi w10, vi w11, vi w12, vi w13, vi w14] 100], []⟩, ⟨.val (undef), [.blk 0 [.ref 1, .ref 2, .ref 3, vi w4, vi w5, .val (.int .u16 w6), vi w7, vi w8, vi w9, vi w10, vi w11, vi w12, vi (w13 + minutes15), vi w14] 100], [], [.blk 0 [.ref 1, .ref 2, .ref 3, vi w4, vi w5, .val (.int .u16 w6), vi w7, vi w8, vi w9, vi w10, vi w11, vi w12, vi w13, vi w14] 100]⟩] rfl ?_ rfl ?_ rfl ?_ ?_
  · kernel_rfl
  · kernel_rfl
  · exact DAll.op' (sp_move rfl rfl) trivial rfl (From.ok (ps := []) trivial) (DAll.op' (sp_move rfl rfl) trivial rfl (From.ok (ps := []) trivial) (DAll.op' (sp_move rfl rfl) trivial rfl (From.ok (ps := []) trivial) (DAll.op' (sp_nilCheck rfl isBlk rfl) trivial rfl (From.ok (ps := [(none, 2)]) ⟨⟨rfl, by kernel_rfl⟩, trivial⟩) (DAll.op' (sp_fieldAddrB rfl isBlk rfl ft100_5 vt3 (by decide)) trivial rfl (From.ok (ps := [(none, 2)]) ⟨⟨rfl, by kernel_rfl⟩, trivial⟩) (DAll.op' (sp_loadB rfl isBlk rfl vt3 rfl) trivial rfl (From.ok (ps := [(none, 2)]) ⟨⟨rfl, by kernel_rfl⟩, trivial⟩) (DAll.op' (sp_move rfl rfl) trivial rfl (From.ok (ps := []) trivial) (DAll.op' (sp_add rfl rfl rfl h1) trivial rfl (From.ok (ps := []) trivial) (DAll.op' (sp_move rfl rfl) trivial rfl (From.ok (ps := []) trivial) (DAll.op' (sp_nilCheck rfl isBlk rfl) trivial rfl (From.ok (ps := [(none, 2)]) ⟨⟨rfl, by kernel_rfl⟩, trivial⟩) (DAll.op' (sp_fieldAddrB rfl isBlk rfl ft100_6 vt3 (by decide)) trivial rfl (From.ok (ps := [(none, 2)]) ⟨⟨rfl, by kernel_rfl⟩, trivial⟩) (DAll.op' (sp_loadB rfl isBlk rfl vt3 rfl) trivial rfl (From.ok (ps := [(none, 2)]) ⟨⟨rfl, by kernel_rfl⟩, trivial⟩) (DAll.op' (sp_move rfl rfl) trivial rfl (From.ok (ps := []) trivial) (DAll.op' (sp_add rfl rfl rfl h2) trivial rfl (From.ok (ps := []) trivial) (DAll.op' (sp_nilCheck rfl isBlk rfl) trivial rfl (From.ok (ps := [(none, 2)]) ⟨⟨rfl, by kernel_rfl⟩, trivial⟩) (DAll.op' (sp_fieldAddrB rfl isBlk rfl ft100_5 vt3 (by decide)) trivial rfl (From.ok (ps := [(none, 2)]) ⟨⟨rfl, by kernel_rfl⟩, trivial⟩) (DAll.opT (ts_storeB (off := 12) (cells' := [.ref 1, .ref 2, .ref 3, vi w4, vi w5, .val (.int .u16 w6), vi w7, vi w8, vi w9, vi w10, vi w11, vi w12, vi (w13 + minutes15), vi w14]) rfl rfl rfl rfl vt3 rfl rfl rfl) trivial (From.ok (ps := [(none, 2)]) ⟨⟨rfl, by kernel_rfl⟩, trivial⟩) (From.ok (ps := []) trivial) (.nil)))))))))))))))))
  refine op1 0 rfl (sp_nilCheck rfl isBlk rfl) rfl trivial rfl rfl ?_
  refine op1 0 rfl (sp_fieldAddrB rfl isBlk rfl ft100_6 vt3 (by decide)) rfl trivial rfl rfl ?_
  refine stoB 0 (cells' := [.ref 1, .ref 2, .ref 3, vi w4, vi w5, .val (.int .u16 w6), vi w7, vi w8, vi w9, vi w10, vi w11, vi w12, vi (w13 + minutes15), vi (w14 + minutes15)]) rfl rfl trivial rfl rfl rfl rfl vt3 rfl rfl rfl ?_
  refine TL.nil ?_
  refine TC.seq ?_
  refine TC.seq ?_
  refine drawJ 9 [⟨.ptr 0 0, [], [], []⟩, ⟨.ptr 0 0, [], [.blk 0 [.ref 1, .ref 2, .ref 3, vi w4, vi w5, .val (.int .u16 w6), vi w7, vi w8, vi w9, vi w10, vi w11, vi w12, vi (w13 + minutes15), vi (w14 + minutes15)] 100], []⟩, ⟨.ptr 0 12, [], [.blk 0 [.ref 1, .ref 2, .ref 3, vi w4, vi w5, .val (.int .u16 w6), vi w7, vi w8, vi w9, vi w10, vi w11, vi w12, vi (w13 + minutes15), vi (w14 + minutes15)] 100], []⟩, ⟨vi (w13 + minutes15), [], [.blk 0 [.ref 1, .ref 2, .ref 3, vi w4, vi w5, .val (.int .u16 w6), vi w7, vi w8, vi w9, vi w10, vi w11, vi w12, vi (w13 + minutes15), vi (w14 + minutes15)] 100], []⟩, ⟨.ptr 0 0, [], [], []⟩, ⟨.ptr 0 0, [], [.blk 0 [.ref 1, .ref 2, .ref 3, vi w4, vi w5, .val (.int .u16 w6), vi w7, vi w8, vi w9, vi w10, vi w11, vi w12, vi (w13 + minutes15), vi (w14 + minutes15)] 100], []⟩, ⟨.ptr 0 5, [], [.blk 0 [.ref 1, .ref 2, .ref 3, vi w4, vi w5, .val (.int .u16 w6), vi w7, vi w8, vi w9, vi w10, vi w11, vi w12, vi (w13 + minutes15), vi (w14 + minutes15)] 100], []⟩, ⟨.ptr 0 8, [], [.blk 0 [.ref 1, .ref 2, .ref 3, vi w4, vi w5, .val (.int .u16 w6), vi w7, vi w8, vi w9, vi w10, vi w11, vi w12, vi (w13 + minutes15), vi (w14 + minutes15)] 100], []⟩, ⟨vi w9, [], [.blk 0 [.ref 1, .ref 2, .ref 3, vi w4, vi w5, .val (.int .u16 w6), vi w7, vi w8, vi w9, vi w10, vi w11, vi w12, vi (w13 + minutes15), vi (w14 + minutes15)] 100], []⟩] rfl ?_ rfl ?_ rfl ?_ ?_
  · kernel_rfl
  · kernel_rfl
  · exact DAll.op' (sp_move rfl rfl) trivial rfl (From.ok (ps := []) trivial) (DAll.op' (sp_nilCheck rfl isBlk rfl) trivial rfl (From.ok (ps := [(none, 0)]) ⟨⟨rfl, rfl⟩, trivial⟩) (DAll.op' (sp_fieldAddrB rfl isBlk rfl ft100_5 vt3 (by decide)) trivial rfl (From.ok (ps := [(none, 0)]) ⟨⟨rfl, rfl⟩, trivial⟩) (DAll.op' (sp_loadB rfl isBlk rfl vt3 rfl) trivial rfl (From.ok (ps := [(none, 0)]) ⟨⟨rfl, rfl⟩, trivial⟩) (DAll.op' (sp_move rfl rfl) trivial rfl (From.ok (ps := []) trivial) (DAll.op' (sp_nilCheck rfl isBlk rfl) trivial rfl (From.ok (ps := [(none, 0)]) ⟨⟨rfl, rfl⟩, trivial⟩) (DAll.op' (sp_fieldAddrB rfl isBlk rfl ft100_1 vt76 (by decide)) trivial rfl (From.ok (ps := [(none, 0)]) ⟨⟨rfl, rfl⟩, trivial⟩) (DAll.op' (sp_fieldAddrB rfl isBlk rfl ft76_3 vt3 (by decide)) trivial rfl (From.ok (ps := [(none, 0)]) ⟨⟨rfl, rfl⟩, trivial⟩) (DAll.op' (sp_loadB rfl isBlk rfl vt3 rfl) trivial rfl (From.ok (ps := [(none, 0)]) ⟨⟨rfl, rfl⟩, trivial⟩) (.nil)))))))))
  refine op0 (sp_gtr rfl rfl rfl) rfl trivial rfl rfl ?_
  refine TL.nil ?_
  refine TC.cond (b := (decide (w9 < (w13 + minutes15)))) rfl (fun h3 => ?_) (fun h3 => ?_)
  · have h := cond_t h h3
    refine TC.seq ?_
    refine TC.region ?_
    refine op0 (sp_assign rfl rfl) rfl trivial rfl rfl ?_
    refine TL.nil ?_
    cases h
    exact retM [(500, 1), (501, 2), (502, 3)] 1 4 [0] rfl (.tmp rfl .nil) rfl ⟨mem_at 2 rfl, mem_at 3 rfl, mem_at 4 rfl, mem_at 0 rfl, trivial⟩ rfl rfl ⟨⟨_, mem_at 1 rfl⟩, trivial⟩ rfl
  · have h := cond_f h h3
    refine TC.skip ?_
    refine TC.seq ?_
    refine TC.region ?_
    refine op0 (sp_move rfl rfl) rfl trivial rfl rfl ?_
    refine op1 0 rfl (sp_nilCheck rfl isBlk rfl) rfl trivial rfl rfl ?_
    refine op1 0 rfl (sp_loadBA rfl isBlk rfl vt100 rfl rfl) rfl trivial rfl rfl ?_
    obtain ⟨r16, h4, h⟩ := bind_inv h
    refine opN (need := [.ro 1 5 (List.map en_api_RoundTower w1), .ro 2 1 (List.map en_Lint w2), .ro 3 4 (List.map en_api_RoundWinder w3)]) [3, 4, 5] ⟨rfl, rfl, rfl, trivial⟩ (sp_call (avs := [.agg [.ref 1, .ref 2, .ref 3, vi w4, vi w5, .val (.int .u16 w6), vi w7, vi w8, vi w9, vi w10, vi w11, vi w12, vi (w13 + minutes15), vi (w14 + minutes15)]]) (need := [.ro 1 5 (List.map en_api_RoundTower w1), .ro 2 1 (List.map en_Lint w2), .ro 3 4 (List.map en_api_RoundWinder w3)]) (v := vi r16) (news := []) rfl rfl rfl Try.call83 (atJ [(0, 1), (1, 2), (2, 3)] [] (fc_round_walker_late h4) rfl rfl) (.inl (roAll rfl))) rfl trivial rfl rfl ?_
    refine op0 (sp_assign rfl rfl) rfl trivial rfl rfl ?_
    refine TL.nil ?_
    cases h
    exact retM [(500, 1), (501, 2), (502, 3)] 1 4 [0] rfl (.tmp rfl .nil) rfl ⟨mem_at 2 rfl, mem_at 3 rfl, mem_at 4 rfl, mem_at 0 rfl, trivial⟩ rfl rfl ⟨⟨_, mem_at 1 rfl⟩, trivial⟩ rfl
def ev_p_round_walker_visit (n : Nat) (w1 : List (Int × Int × Int × Int × Int)) (w2 : List ((List Int))) (w3 : List (Int × Int × Int × Int)) (w4 : Int) (w5 : Int) (w6 : Int) (w7 : Int) (w8 : Int) (w9 : Int) (w10 : Int) (w11 : Int) (w12 : Int) (w13 : Int) (w14 : Int) (tower15 : Int) : Option (Int × (List (Int × Int × Int × Int × Int)) × (List ((List Int))) × (List (Int × Int × Int × Int)) × Int × Int × Int × Int × Int × Int × Int × Int × Int × Int × Int) :=
  idx w1 tower15 fun x16 => chk (in64 (w12 + x16.2.2.2.1)) <| (ev_round_set_has n w11 tower15).bind fun r17 => cond r17 (some (6, w1, w2, w3, w4, w5, w6, w7, w8, w9, w10, w11, (w12 + x16.2.2.2.1), w13, w14)) (cond ((bitK .u16 .andNot x16.2.2.1 w6) != 0) (some (112, w1, w2, w3, w4, w5, w6, w7, w8, w9, w10, w11, (w12 + x16.2.2.2.1), w13, w14)) (cond (decide (w7 < (w12 + x16.2.2.2.1))) (some (113, w1, w2, w3, w4, w5, w6, w7, w8, w9, w10, w11, (w12 + x16.2.2.2.1), w13, w14)) (idx w2 w10 fun x18 => idx x18 tower15 fun x19 => (ev_round_set_with n w11 tower15).bind fun r20 => chk (in64 (x19 + x16.1)) <| chk (in64 ((x19 + x16.1) + x16.2.1)) <| (ev_p_round_walker_work n w1 w2 w3 w4 w5 w6 w7 w8 w9 tower15 r20 (w12 + x16.2.2.2.1) w13 w14 ((x19 + x16.1) + x16.2.1)).bind fun r21 => some (r21.1, r21.2.1, r21.2.2.1, r21.2.2.2.1, r21.2.2.2.2.1, r21.2.2.2.2.2.1, r21.2.2.2.2.2.2.1, r21.2.2.2.2.2.2.2.1, r21.2.2.2.2.2.2.2.2.1, r21.2.2.2.2.2.2.2.2.2.1, r21.2.2.2.2.2.2.2.2.2.2.1, r21.2.2.2.2.2.2.2.2.2.2.2.1, r21.2.2.2.2.2.2.2.2.2.2.2.2.1, r21.2.2.2.2.2.2.2.2.2.2.2.2.2.1, r21.2.2.2.2.2.2.2.2.2.2.2.2.2.2))))
theorem ft_p_round_walker_visit {n : Nat} {w1 : List (Int × Int × Int × Int × Int)} {w2 : List ((List Int))} {w3 : List (Int × Int × Int × Int)} {w4 : Int} {w5 : Int} {w6 : Int} {w7 : Int} {w8 : Int} {w9 : Int} {w10 : Int} {w11 : Int} {w12 : Int} {w13 : Int} {w14 : Int} {tower15 : Int} {r : Int × (List (Int × Int × Int × Int × Int)) × (List ((List Int))) × (List (Int × Int × Int × Int)) × Int × Int × Int × Int × Int × Int × Int × Int × Int × Int × Int} (h : ev_p_round_walker_visit n w1 w2 w3 w4 w5 w6 w7 w8 w9 w10 w11 w12 w13 w14 tower15 = some r) : FT Try.prog 61 [.ptr 0 0, vi tower15] [.blk 0 [.ref 1, .ref 2, .ref 3, vi w4, vi w5, .val (.int .u16 w6), vi w7, vi w8, vi w9, vi w10, vi w11, vi w12, vi w13, vi w14] 100] [.ro 1 5 (List.map en_api_RoundTower w1), .ro 2 1 (List.map en_Lint w2), .ro 3 4 (List.map en_api_RoundWinder w3)] (vi r.1) [.ro 500 5 (List.map en_api_RoundTower r.2.1), .ro 501 1 (List.map en_Lint r.2.2.1), .ro 502 4 (List.map en_api_RoundWinder r.2.2.2.1), .blk 0 [.ref 500, .ref 501, .ref 502, vi r.2.2.2.2.1, vi r.2.2.2.2.2.1, .val (.int .u16 r.2.2.2.2.2.2.1), vi r.2.2.2.2.2.2.2.1, vi r.2.2.2.2.2.2.2.2.1, vi r.2.2.2.2.2.2.2.2.2.1, vi r.2.2.2.2.2.2.2.2.2.2.1, vi r.2.2.2.2.2.2.2.2.2.2.2.1, vi r.2.2.2.2.2.2.2.2.2.2.2.2.1, vi r.2.2.2.2.2.2.2.2.2.2.2.2.2.1, vi r.2.2.2.2.2.2.2.2.2.2.2.2.2.2] 100] := by
  refine introM (nz := 88) 4 [(5, 0)] Try.func61 rfl rfl rfl rfl (fun w0 M0 R0 env0 => ?_)
  rw [ev_p_round_walker_visit] at h
  refine TC.seq ?_
  refine TC.region ?_
  refine op0 (sp_assign rfl rfl) rfl trivial rfl rfl ?_
  refine TL.nil ?_
  refine TC.seq ?_
  refine TC.region ?_
  refine op0 (sp_move rfl rfl) rfl trivial rfl rfl ?_
  refine op1 2 rfl (sp_nilCheck rfl isBlk rfl) rfl trivial rfl rfl ?_
  refine op1 2 rfl (sp_fieldAddrB rfl isBlk rfl ft100_0 vt26 (by decide)) rfl trivial rfl rfl ?_
  refine op1 2 rfl (sp_fieldAddrB rfl isBlk rfl ft26_0 vt22 (by decide)) rfl trivial rfl rfl ?_
  refine op1 2 rfl (sp_loadB rfl isBlk rfl vt22 rfl) rfl trivial rfl rfl ?_
  refine op0 (sp_move rfl rfl) rfl trivial rfl rfl ?_
  obtain ⟨x16, h1, h2, h⟩ := idx_inv h
  refine op1 3 rfl (sp_indexS rfl rfl rfl isRo sl22 h1 (map_get _ h2)) rfl trivial rfl rfl ?_
  refine op1 3 rfl (sp_loadRA (i := (tower15 : Int).toNat) (j := 0) (as_ := [vi x16.1, vi x16.2.1, .val (.int .u16 x16.2.2.1), vi x16.2.2.2.1, vi x16.2.2.2.2]) (ns := []) rfl rfl isRo vt46 rfl (map_get _ h2) rfl rfl (by decide) (.v (.v (.v (.v (.v (.nil)))))) (nodup_of_B rfl)) rfl trivial rfl rfl ?_
  refine op0 (sp_alloc 6 rfl Try.zeroValue46 rfl) rfl trivial rfl rfl ?_
  refine stoB 0 (cells' := [vi x16.1, vi x16.2.1, .val (.int .u16 x16.2.2.1), vi x16.2.2.2.1, vi x16.2.2.2.2]) rfl rfl trivial rfl rfl rfl rfl vt46 rfl rfl rfl ?_
  refine TL.nil ?_
  refine TC.seq ?_
  refine drawJ 6 [⟨.ptr 0 0, [], [], []⟩, ⟨.ptr 0 0, [], [.blk 0 [.ref 1, .ref 2, .ref 3, vi w4, vi w5, .val (.int .u16 w6), vi w7, vi w8, vi w9, vi w10, vi w11, vi w12, vi w13, vi w14] 100], []⟩, ⟨.ptr 0 11, [], [.blk 0 [.ref 1, .ref 2, .ref 3, vi w4, vi w5, .val (.int .u16 w6), vi w7, vi w8, vi w9, vi w10, vi w11, vi w12, vi w13, vi w14] 100], []⟩, ⟨vi w12, [], [.blk 0 [.ref 1, .ref 2, .ref 3, vi w4, vi w5, .val (.int .u16 w6), vi w7, vi w8, vi w9, vi w10, vi w11, vi w12, vi w13, vi w14] 100], []⟩, ⟨.ptr 6 3, [], [.blk 6 [vi x16.1, vi x16.2.1, .val (.int .u16 x16.2.2.1), vi x16.2.2.2.1, vi x16.2.2.2.2] 46], []⟩, ⟨vi x16.2.2.2.1, [], [.blk 6 [vi x16.1, vi x16.2.1, .val (.int .u16 x16.2.2.1), vi x16.2.2.2.1, vi x16.2.2.2.2] 46], []⟩] rfl ?_ rfl ?_ rfl ?_ ?_
  · kernel_rfl
  · kernel_rfl
  · exact DAll.op' (sp_move rfl rfl) trivial rfl (From.ok (ps := []) trivial) (DAll.op' (sp_nilCheck rfl isBlk rfl) trivial rfl (From.ok (ps := [(none, 3)]) ⟨⟨rfl, rfl⟩, trivial⟩) (DAll.op' (sp_fieldAddrB rfl isBlk rfl ft100_4 vt3 (by decide)) trivial rfl (From.ok (ps := [(none, 3)]) ⟨⟨rfl, rfl⟩, trivial⟩) (DAll.op' (sp_loadB rfl isBlk rfl vt3 rfl) trivial rfl (From.ok (ps := [(none, 3)]) ⟨⟨rfl, rfl⟩, trivial⟩) (DAll.op' (sp_fieldAddrB rfl isBlk rfl ft46_3 vt3 (by decide)) trivial rfl (From.ok (ps := [(none, 0)]) ⟨⟨rfl, rfl⟩, trivial⟩) (DAll.op' (sp_loadB rfl isBlk rfl vt3 rfl) trivial rfl (From.ok (ps := [(none, 0)]) ⟨⟨rfl, rfl⟩, trivial⟩) (.nil))))))
  obtain ⟨h3, h⟩ := chk_inv h
  refine op0 (sp_add rfl rfl rfl h3) rfl trivial rfl rfl ?_
  refine op1 3 rfl (sp_nilCheck rfl isBlk rfl) rfl trivial rfl rfl ?_
  refine op1 3 rfl (sp_fieldAddrB rfl isBlk rfl ft100_4 vt3 (by decide)) rfl trivial rfl rfl ?_
  refine stoB 3 (cells' := [.ref 1, .ref 2, .ref 3, vi w4, vi w5, .val (.int .u16 w6), vi w7, vi w8, vi w9, vi w10, vi w11, vi (w12 + x16.2.2.2.1), vi w13, vi w14]) rfl rfl trivial rfl rfl rfl rfl vt3 rfl rfl rfl ?_
  refine TL.nil ?_
  refine TC.seq ?_
  refine TC.block ?_
  refine TC.seq ?_
  refine TC.region ?_
  refine op0 (sp_move rfl rfl) rfl trivial rfl rfl ?_
  refine op1 3 rfl (sp_nilCheck rfl isBlk rfl) rfl trivial rfl rfl ?_
  refine op1 3 rfl (sp_fieldAddrB rfl isBlk rfl ft100_3 vt92 (by decide)) rfl trivial rfl rfl ?_
  refine op1 3 rfl (sp_loadB rfl isBlk rfl vt92 rfl) rfl trivial rfl rfl ?_
  refine op0 (sp_move rfl rfl) rfl trivial rfl rfl ?_
  obtain ⟨r17, h4, h⟩ := bind_inv h
  refine op0 (sp_call (avs := [vi w11, vi tower15]) (need := []) (v := .val (.bool r17)) (news := []) rfl rfl rfl Try.call55 (atJ [] [] (fc_round_set_has h4) rfl rfl) (.inl (roAll rfl))) rfl trivial rfl rfl ?_
  refine op0 (sp_assign rfl rfl) rfl trivial rfl rfl ?_
  refine TL.nil ?_
  refine TC.cond (b := r17) rfl (fun h5 => ?_) (fun h5 => ?_)
  · have h := cond_t h h5
    refine TC.seq ?_
    refine TC.region ?_
    refine op0 (sp_assign rfl rfl) rfl trivial rfl rfl ?_
    refine TL.nil ?_
    cases h
    exact retM [(500, 1), (501, 2), (502, 3)] 1 4 [0] rfl (.tmp rfl .nil) rfl ⟨mem_at 3 rfl, mem_at 4 rfl, mem_at 5 rfl, mem_at 2 rfl, trivial⟩ rfl rfl ⟨⟨_, mem_at 1 rfl⟩, trivial⟩ rfl
  · have h := cond_f h h5
    refine TC.seq ?_
    refine drawJ 7 [⟨.ptr 6 2, [], [.blk 6 [vi x16.1, vi x16.2.1, .val (.int .u16 x16.2.2.1), vi x16.2.2.2.1, vi x16.2.2.2.2] 46], []⟩, ⟨.val (.int .u16 x16.2.2.1), [], [.blk 6 [vi x16.1, vi x16.2.1, .val (.int .u16 x16.2.2.1), vi x16.2.2.2.1, vi x16.2.2.2.2] 46], []⟩, ⟨.ptr 0 0, [], [], []⟩, ⟨.ptr 0 0, [], [.blk 0 [.ref 1, .ref 2, .ref 3, vi w4, vi w5, .val (.int .u16 w6), vi w7, vi w8, vi w9, vi w10, vi w11, vi (w12 + x16.2.2.2.1), vi w13, vi w14] 100], []⟩, ⟨.ptr 0 5, [], [.blk 0 [.ref 1, .ref 2, .ref 3, vi w4, vi w5, .val (.int .u16 w6), vi w7, vi w8, vi w9, vi w10, vi w11, vi (w12 + x16.2.2.2.1), vi w13, vi w14] 100], []⟩, ⟨.ptr 0 5, [], [.blk 0 [.ref 1, .ref 2, .ref 3, vi w4, vi w5, .val (.int .u16 w6), vi w7, vi w8, vi w9, vi w10, vi w11, vi (w12 + x16.2.2.2.1), vi w13, vi w14] 100], []⟩, ⟨.val (.int .u16 w6), [], [.blk 0 [.ref 1, .ref 2, .ref 3, vi w4, vi w5, .val (.int .u16 w6), vi w7, vi w8, vi w9, vi w10, vi w11, vi (w12 + x16.2.2.2.1), vi w13, vi w14] 100], []⟩] rfl ?_ rfl ?_ rfl ?_ ?_
    · kernel_rfl
    · kernel_rfl
    · exact DAll.op' (sp_fieldAddrB rfl isBlk rfl ft46_2 vt44 (by decide)) trivial rfl (From.ok (ps := [(none, 0)]) ⟨⟨rfl, rfl⟩, trivial⟩) (DAll.op' (sp_loadB rfl isBlk rfl vt44 rfl) trivial rfl (From.ok (ps := [(none, 0)]) ⟨⟨rfl, rfl⟩, trivial⟩) (DAll.op' (sp_move rfl rfl) trivial rfl (From.ok (ps := []) trivial) (DAll.op' (sp_nilCheck rfl isBlk rfl) trivial rfl (From.ok (ps := [(none, 3)]) ⟨⟨rfl, rfl⟩, trivial⟩) (DAll.op' (sp_fieldAddrB rfl isBlk rfl ft100_1 vt76 (by decide)) trivial rfl (From.ok (ps := [(none, 3)]) ⟨⟨rfl, rfl⟩, trivial⟩) (DAll.op' (sp_fieldAddrB rfl isBlk rfl ft76_0 vt44 (by decide)) trivial rfl (From.ok (ps := [(none, 3)]) ⟨⟨rfl, rfl⟩, trivial⟩) (DAll.op' (sp_loadB rfl isBlk rfl vt44 rfl) trivial rfl (From.ok (ps := [(none, 3)]) ⟨⟨rfl, rfl⟩, trivial⟩) (.nil)))))))
    refine op0 (sp_bit .andNot rfl rfl rfl rfl) rfl trivial rfl rfl ?_
    refine op0 (sp_neq rfl rfl rfl) rfl trivial rfl rfl ?_
    refine op0 (sp_assign rfl rfl) rfl trivial rfl rfl ?_
    refine TL.nil ?_
    refine TC.cond (b := ((bitK .u16 .andNot x16.2.2.1 w6) != 0)) rfl (fun h6 => ?_) (fun h6 => ?_)
    · have h := cond_t h h6
      refine TC.seq ?_
      refine TC.region ?_
      refine op0 (sp_assign rfl rfl) rfl trivial rfl rfl ?_
      refine TL.nil ?_
      cases h
      exact retM [(500, 1), (501, 2), (502, 3)] 1 4 [0] rfl (.tmp rfl .nil) rfl ⟨mem_at 3 rfl, mem_at 4 rfl, mem_at 5 rfl, mem_at 2 rfl, trivial⟩ rfl rfl ⟨⟨_, mem_at 1 rfl⟩, trivial⟩ rfl
    · have h := cond_f h h6
      refine TC.seq ?_
      refine drawJ 9 [⟨.ptr 0 0, [], [], []⟩, ⟨.ptr 0 0, [], [.blk 0 [.ref 1, .ref 2, .ref 3, vi w4, vi w5, .val (.int .u16 w6), vi w7, vi w8, vi w9, vi w10, vi w11, vi (w12 + x16.2.2.2.1), vi w13, vi w14] 100], []⟩, ⟨.ptr 0 11, [], [.blk 0 [.ref 1, .ref 2, .ref 3, vi w4, vi w5, .val (.int .u16 w6), vi w7, vi w8, vi w9, vi w10, vi w11, vi (w12 + x16.2.2.2.1), vi w13, vi w14] 100], []⟩, ⟨vi (w12 + x16.2.2.2.1), [], [.blk 0 [.ref 1, .ref 2, .ref 3, vi w4, vi w5, .val (.int .u16 w6), vi w7, vi w8, vi w9, vi w10, vi w11, vi (w12 + x16.2.2.2.1), vi w13, vi w14] 100], []⟩, ⟨.ptr 0 0, [], [], []⟩, ⟨.ptr 0 0, [], [.blk 0 [.ref 1, .ref 2, .ref 3, vi w4, vi w5, .val (.int .u16 w6), vi w7, vi w8, vi w9, vi w10, vi w11, vi (w12 + x16.2.2.2.1), vi w13, vi w14] 100], []⟩, ⟨.ptr 0 5, [], [.blk 0 [.ref 1, .ref 2, .ref 3, vi w4, vi w5, .val (.int .u16 w6), vi w7, vi w8, vi w9, vi w10, vi w11, vi (w12 + x16.2.2.2.1), vi w13, vi w14] 100], []⟩, ⟨.ptr 0 6, [], [.blk 0 [.ref 1, .ref 2, .ref 3, vi w4, vi w5, .val (.int .u16 w6), vi w7, vi w8, vi w9, vi w10, vi w11, vi (w12 + x16.2.2.2.1), vi w13, vi w14] 100], []⟩, ⟨vi w7, [], [.blk 0 [.ref 1, .ref 2, .ref 3, vi w4, vi w5, .val (.int .u16 w6), vi w7, vi w8, vi w9, vi w10, vi w11, vi (w12 + x16.2.2.2.1), vi w13, vi w14] 100], []⟩] rfl ?_ rfl ?_ rfl ?_ ?_
      · kernel_rfl
      · kernel_rfl
      · exact DAll.op' (sp_move rfl rfl) trivial rfl (From.ok (ps := []) trivial) (DAll.op' (sp_nilCheck rfl isBlk rfl) trivial rfl (From.ok (ps := [(none, 3)]) ⟨⟨rfl, rfl⟩, trivial⟩) (DAll.op' (sp_fieldAddrB rfl isBlk rfl ft100_4 vt3 (by decide)) trivial rfl (From.ok (ps := [(none, 3)]) ⟨⟨rfl, rfl⟩, trivial⟩) (DAll.op' (sp_loadB rfl isBlk rfl vt3 rfl) trivial rfl (From.ok (ps := [(none, 3)]) ⟨⟨rfl, rfl⟩, trivial⟩) (DAll.op' (sp_move rfl rfl) trivial rfl (From.ok (ps := []) trivial) (DAll.op' (sp_nilCheck rfl isBlk rfl) trivial rfl (From.ok (ps := [(none, 3)]) ⟨⟨rfl, rfl⟩, trivial⟩) (DAll.op' (sp_fieldAddrB rfl isBlk rfl ft100_1 vt76 (by decide)) trivial rfl (From.ok (ps := [(none, 3)]) ⟨⟨rfl, rfl⟩, trivial⟩) (DAll.op' (sp_fieldAddrB rfl isBlk rfl ft76_1 vt3 (by decide)) trivial rfl (From.ok (ps := [(none, 3)]) ⟨⟨rfl, rfl⟩, trivial⟩) (DAll.op' (sp_loadB rfl isBlk rfl vt3 rfl) trivial rfl (From.ok (ps := [(none, 3)]) ⟨⟨rfl, rfl⟩, trivial⟩) (.nil)))))))))
      refine op0 (sp_gtr rfl rfl rfl) rfl trivial rfl rfl ?_
      refine op0 (sp_assign rfl rfl) rfl trivial rfl rfl ?_
      refine TL.nil ?_
      refine TC.cond (b := (decide (w7 < (w12 + x16.2.2.2.1)))) rfl (fun h7 => ?_) (fun h7 => ?_)
      · have h := cond_t h h7
        refine TC.seq ?_
        refine TC.region ?_
        refine op0 (sp_assign rfl rfl) rfl trivial rfl rfl ?_
        refine TL.nil ?_
        cases h
        exact retM [(500, 1), (501, 2), (502, 3)] 1 4 [0] rfl (.tmp rfl .nil) rfl ⟨mem_at 3 rfl, mem_at 4 rfl, mem_at 5 rfl, mem_at 2 rfl, trivial⟩ rfl rfl ⟨⟨_, mem_at 1 rfl⟩, trivial⟩ rfl
      · have h := cond_f h h7
        refine TC.skip ?_
        refine TC.inBlock ?_
        refine TC.seq ?_
        obtain ⟨x18, h8, h9, h⟩ := idx_inv h
        refine drawJ 12 [⟨.ptr 0 0, [], [], []⟩, ⟨.ptr 0 0, [], [.blk 0 [.ref 1, .ref 2, .ref 3, vi w4, vi w5, .val (.int .u16 w6), vi w7, vi w8, vi w9, vi w10, vi w11, vi (w12 + x16.2.2.2.1), vi w13, vi w14] 100], []⟩, ⟨.ptr 0 0, [], [.blk 0 [.ref 1, .ref 2, .ref 3, vi w4, vi w5, .val (.int .u16 w6), vi w7, vi w8, vi w9, vi w10, vi w11, vi (w12 + x16.2.2.2.1), vi w13, vi w14] 100], []⟩, ⟨.ptr 0 1, [], [.blk 0 [.ref 1, .ref 2, .ref 3, vi w4, vi w5, .val (.int .u16 w6), vi w7, vi w8, vi w9, vi w10, vi w11, vi (w12 + x16.2.2.2.1), vi w13, vi w14] 100], []⟩, ⟨.ref 2, [], [.blk 0 [.ref 1, .ref 2, .ref 3, vi w4, vi w5, .val (.int .u16 w6), vi w7, vi w8, vi w9, vi w10, vi w11, vi (w12 + x16.2.2.2.1), vi w13, vi w14] 100], []⟩, ⟨.ptr 0 0, [], [], []⟩, ⟨.ptr 0 0, [], [.blk 0 [.ref 1, .ref 2, .ref 3, vi w4, vi w5, .val (.int .u16 w6), vi w7, vi w8, vi w9, vi w10, vi w11, vi (w12 + x16.2.2.2.1), vi w13, vi w14] 100], []⟩, ⟨.ptr 0 9, [], [.blk 0 [.ref 1, .ref 2, .ref 3, vi w4, vi w5, .val (.int .u16 w6), vi w7, vi w8, vi w9, vi w10, vi w11, vi (w12 + x16.2.2.2.1), vi w13, vi w14] 100], []⟩, ⟨vi w10, [], [.blk 0 [.ref 1, .ref 2, .ref 3, vi w4, vi w5, .val (.int .u16 w6), vi w7, vi w8, vi w9, vi w10, vi w11, vi (w12 + x16.2.2.2.1), vi w13, vi w14] 100], []⟩, ⟨.cell 2 ((w10 : Int).toNat * 1), [], [.ro 2 1 (List.map en_Lint w2)], []⟩, ⟨.ref 7, [.ro 7 1 (List.map en_int x18)], [.ro 2 1 (List.map en_Lint w2)], []⟩, ⟨vi tower15, [], [], []⟩] rfl ?_ rfl ?_ rfl ?_ ?_
        · kernel_rfl
        · kernel_rfl
        · exact DAll.op' (sp_move rfl rfl) trivial rfl (From.ok (ps := []) trivial) (DAll.op' (sp_nilCheck rfl isBlk rfl) trivial rfl (From.ok (ps := [(none, 3)]) ⟨⟨rfl, rfl⟩, trivial⟩) (DAll.op' (sp_fieldAddrB rfl isBlk rfl ft100_0 vt26 (by decide)) trivial rfl (From.ok (ps := [(none, 3)]) ⟨⟨rfl, rfl⟩, trivial⟩) (DAll.op' (sp_fieldAddrB rfl isBlk rfl ft26_1 vt23 (by decide)) trivial rfl (From.ok (ps := [(none, 3)]) ⟨⟨rfl, rfl⟩, trivial⟩) (DAll.op' (sp_loadB rfl isBlk rfl vt23 rfl) trivial rfl (From.ok (ps := [(none, 3)]) ⟨⟨rfl, rfl⟩, trivial⟩) (DAll.op' (sp_move rfl rfl) trivial rfl (From.ok (ps := []) trivial) (DAll.op' (sp_nilCheck rfl isBlk rfl) trivial rfl (From.ok (ps := [(none, 3)]) ⟨⟨rfl, rfl⟩, trivial⟩) (DAll.op' (sp_fieldAddrB rfl isBlk rfl ft100_2 vt3 (by decide)) trivial rfl (From.ok (ps := [(none, 3)]) ⟨⟨rfl, rfl⟩, trivial⟩) (DAll.op' (sp_loadB rfl isBlk rfl vt3 rfl) trivial rfl (From.ok (ps := [(none, 3)]) ⟨⟨rfl, rfl⟩, trivial⟩) (DAll.op' (sp_indexS rfl rfl rfl isRo sl23 h8 (map_get _ h9)) trivial rfl (From.ok (ps := [(none, 5)]) ⟨⟨rfl, rfl⟩, trivial⟩) (DAll.op' (sp_loadR (i := (w10 : Int).toNat) (j := 0) (ns := [.ro 7 1 (List.map en_int x18)]) rfl rfl isRo vt30 rfl (map_get _ h9) rfl (.s (.nil)) (nodup_of_B rfl)) trivial rfl (From.ok (ps := [(none, 5)]) ⟨⟨rfl, rfl⟩, trivial⟩) (DAll.op' (sp_move rfl rfl) trivial rfl (From.ok (ps := []) trivial) (.nil))))))))))))
        obtain ⟨x19, h10, h11, h⟩ := idx_inv h
        refine op1 0 rfl (sp_indexS rfl rfl rfl isRo sl30 h10 (map_get _ h11)) rfl trivial rfl rfl ?_
        refine op1 0 rfl (sp_loadR (i := (tower15 : Int).toNat) (j := 0) rfl rfl isRo vt3 rfl (map_get _ h11) rfl (.v (.nil)) (nodup_of_B rfl)) rfl trivial rfl rfl ?_
        refine op0 (sp_assign rfl rfl) rfl trivial rfl rfl ?_
        refine TL.nil ?_
        refine TC.seq ?_
        refine TC.region ?_
        refine op0 (sp_move rfl rfl) rfl trivial rfl rfl ?_
        refine op0 (sp_move rfl rfl) rfl trivial rfl rfl ?_
        refine op0 (sp_move rfl rfl) rfl trivial rfl rfl ?_
        refine op0 (sp_move rfl rfl) rfl trivial rfl rfl ?_
        refine op1 4 rfl (sp_nilCheck rfl isBlk rfl) rfl trivial rfl rfl ?_
        refine op1 4 rfl (sp_fieldAddrB rfl isBlk rfl ft100_3 vt92 (by decide)) rfl trivial rfl rfl ?_
        refine op1 4 rfl (sp_loadB rfl isBlk rfl vt92 rfl) rfl trivial rfl rfl ?_
        refine op0 (sp_move rfl rfl) rfl trivial rfl rfl ?_
        obtain ⟨r20, h12, h⟩ := bind_inv h
        refine op0 (sp_call (avs := [vi w11, vi tower15]) (need := []) (v := vi r20) (news := []) rfl rfl rfl Try.call56 (atJ [] [] (fc_round_set_with h12) rfl rfl) (.inl (roAll rfl))) rfl trivial rfl rfl ?_
        refine op1 4 rfl (sp_nilCheck rfl isBlk rfl) rfl trivial rfl rfl ?_
        refine op1 4 rfl (sp_fieldAddrB rfl isBlk rfl ft100_2 vt3 (by decide)) rfl trivial rfl rfl ?_
        refine stoB 4 (cells' := [.ref 1, .ref 2, .ref 3, vi w4, vi w5, .val (.int .u16 w6), vi w7, vi w8, vi w9, vi tower15, vi w11, vi (w12 + x16.2.2.2.1), vi w13, vi w14]) rfl rfl trivial rfl rfl rfl rfl vt3 rfl rfl rfl ?_
        refine op1 4 rfl (sp_nilCheck rfl isBlk rfl) rfl trivial rfl rfl ?_
        refine op1 4 rfl (sp_fieldAddrB rfl isBlk rfl ft100_3 vt92 (by decide)) rfl trivial rfl rfl ?_
        refine stoB 4 (cells' := [.ref 1, .ref 2, .ref 3, vi w4, vi w5, .val (.int .u16 w6), vi w7, vi w8, vi w9, vi tower15, vi r20, vi (w12 + x16.2.2.2.1), vi w13, vi w14]) rfl rfl trivial rfl rfl rfl rfl vt92 rfl rfl rfl ?_
        refine TL.nil ?_
        refine TC.seq ?_
        refine TC.region ?_
        refine op0 (sp_move rfl rfl) rfl trivial rfl rfl ?_
        refine op0 (sp_move rfl rfl) rfl trivial rfl rfl ?_
        refine op1 1 rfl (sp_fieldAddrB rfl isBlk rfl ft46_0 vt3 (by decide)) rfl trivial rfl rfl ?_
        refine op1 1 rfl (sp_loadB rfl isBlk rfl vt3 rfl) rfl trivial rfl rfl ?_
        obtain ⟨h13, h⟩ := chk_inv h
        refine op0 (sp_add rfl rfl rfl h13) rfl trivial rfl rfl ?_
        refine op1 1 rfl (sp_fieldAddrB rfl isBlk rfl ft46_1 vt3 (by decide)) rfl trivial rfl rfl ?_
        refine op1 1 rfl (sp_loadB rfl isBlk rfl vt3 rfl) rfl trivial rfl rfl ?_
        obtain ⟨h14, h⟩ := chk_inv h
        refine op0 (sp_add rfl rfl rfl h14) rfl trivial rfl rfl ?_
        obtain ⟨r21, h15, h⟩ := bind_inv h
        refine opT (take := [.blk 0 [.ref 1, .ref 2, .ref 3, vi w4, vi w5, .val (.int .u16 w6), vi w7, vi w8, vi w9, vi tower15, vi r20, vi (w12 + x16.2.2.2.1), vi w13, vi w14] 100]) (need := [.ro 1 5 (List.map en_api_RoundTower w1), .ro 2 1 (List.map en_Lint w2), .ro 3 4 (List.map en_api_RoundWinder w3)]) (V' := [.ro 8 5 (List.map en_api_RoundTower r21.2.1), .ro 9 1 (List.map en_Lint r21.2.2.1), .ro 10 4 (List.map en_api_RoundWinder r21.2.2.2.1), .blk 0 [.ref 8, .ref 9, .ref 10, vi r21.2.2.2.2.1, vi r21.2.2.2.2.2.1, .val (.int .u16 r21.2.2.2.2.2.2.1), vi r21.2.2.2.2.2.2.2.1, vi r21.2.2.2.2.2.2.2.2.1, vi r21.2.2.2.2.2.2.2.2.2.1, vi r21.2.2.2.2.2.2.2.2.2.2.1, vi r21.2.2.2.2.2.2.2.2.2.2.2.1, vi r21.2.2.2.2.2.2.2.2.2.2.2.2.1, vi r21.2.2.2.2.2.2.2.2.2.2.2.2.2.1, vi r21.2.2.2.2.2.2.2.2.2.2.2.2.2.2] 100, .ro 7 1 (List.map en_int x18), .blk 6 [vi x16.1, vi x16.2.1, .val (.int .u16 x16.2.2.1), vi x16.2.2.2.1, vi x16.2.2.2.2] 46, .inv 4 (marksI []), .pin 5 0 (env0 0), .ro 1 5 (List.map en_api_RoundTower w1), .ro 2 1 (List.map en_Lint w2), .ro 3 4 (List.map en_api_RoundWinder w3)]) [4] [5, 6, 7] (ts_call (avs := [.ptr 0 0, vi ((x19 + x16.1) + x16.2.1)]) (take := [.blk 0 [.ref 1, .ref 2, .ref 3, vi w4, vi w5, .val (.int .u16 w6), vi w7, vi w8, vi w9, vi tower15, vi r20, vi (w12 + x16.2.2.2.1), vi w13, vi w14] 100]) (need := [.ro 1 5 (List.map en_api_RoundTower w1), .ro 2 1 (List.map en_Lint w2), .ro 3 4 (List.map en_api_RoundWinder w3)]) (v := vi r21.1) (news := [.ro 8 5 (List.map en_api_RoundTower r21.2.1), .ro 9 1 (List.map en_Lint r21.2.2.1), .ro 10 4 (List.map en_api_RoundWinder r21.2.2.2.1), .blk 0 [.ref 8, .ref 9, .ref 10, vi r21.2.2.2.2.1, vi r21.2.2.2.2.2.1, .val (.int .u16 r21.2.2.2.2.2.2.1), vi r21.2.2.2.2.2.2.2.1, vi r21.2.2.2.2.2.2.2.2.1, vi r21.2.2.2.2.2.2.2.2.2.1, vi r21.2.2.2.2.2.2.2.2.2.2.1, vi r21.2.2.2.2.2.2.2.2.2.2.2.1, vi r21.2.2.2.2.2.2.2.2.2.2.2.2.1, vi r21.2.2.2.2.2.2.2.2.2.2.2.2.2.1, vi r21.2.2.2.2.2.2.2.2.2.2.2.2.2.2] 100]) rfl rfl rfl Try.call62 (atT [] [(500, 8), (501, 9), (502, 10)] (ft_p_round_walker_work h15) rfl rfl rfl) rfl rfl) trivial rfl ⟨rfl, trivial⟩ ⟨rfl, rfl, rfl, trivial⟩ rfl rfl ?_
        refine op0 (sp_assign rfl rfl) rfl trivial rfl rfl ?_
        refine TL.nil ?_
        cases h
        exact retM [(500, 8), (501, 9), (502, 10)] 6 4 [0] rfl (.tmp rfl .nil) rfl ⟨mem_at 0 rfl, mem_at 1 rfl, mem_at 2 rfl, mem_at 3 rfl, trivial⟩ rfl rfl ⟨⟨_, mem_at 6 rfl⟩, trivial⟩ rfl
def ev_p_round_walker_step (n : Nat) (w1 : List (Int × Int × Int × Int × Int)) (w2 : List ((List Int))) (w3 : List (Int × Int × Int × Int)) (w4 : Int) (w5 : Int) (w6 : Int) (w7 : Int) (w8 : Int) (w9 : Int) (w10 : Int) (w11 : Int) (w12 : Int) (w13 : Int) (w14 : Int) (nn15 : Int) : Option (Int × (List (Int × Int × Int × Int × Int)) × (List ((List Int))) × (List (Int × Int × Int × Int)) × Int × Int × Int × Int × Int × Int × Int × Int × Int × Int × Int) :=
  cond (nn15 == (-1)) ((ev_p_round_walker_rest n w1 w2 w3 w4 w5 w6 w7 w8 w9 w10 w11 w12 w13 w14).bind fun r16 => some (r16.1, r16.2.1, r16.2.2.1, r16.2.2.2.1, r16.2.2.2.2.1, r16.2.2.2.2.2.1, r16.2.2.2.2.2.2.1, r16.2.2.2.2.2.2.2.1, r16.2.2.2.2.2.2.2.2.1, r16.2.2.2.2.2.2.2.2.2.1, r16.2.2.2.2.2.2.2.2.2.2.1, r16.2.2.2.2.2.2.2.2.2.2.2.1, r16.2.2.2.2.2.2.2.2.2.2.2.2.1, r16.2.2.2.2.2.2.2.2.2.2.2.2.2.1, r16.2.2.2.2.2.2.2.2.2.2.2.2.2.2)) (chk (in64 ((w1.length : Int) - 1)) <| (ev_round_within n 0 ((w1.length : Int) - 1) ([nn15] : List Int)).bind fun r17 => cond (!r17) (some (2, w1, w2, w3, w4, w5, w6, w7, w8, w9, w10, w11, w12, w13, w14)) ((ev_p_round_walker_visit n w1 w2 w3 w4 w5 w6 w7 w8 w9 w10 w11 w12 w13 w14 nn15).bind fun r18 => some (r18.1, r18.2.1, r18.2.2.1, r18.2.2.2.1, r18.2.2.2.2.1, r18.2.2.2.2.2.1, r18.2.2.2.2.2.2.1, r18.2.2.2.2.2.2.2.1, r18.2.2.2.2.2.2.2.2.1, r18.2.2.2.2.2.2.2.2.2.1, r18.2.2.2.2.2.2.2.2.2.2.1, r18.2.2.2.2.2.2.2.2.2.2.2.1, r18.2.2.2.2.2.2.2.2.2.2.2.2.1, r18.2.2.2.2.2.2.2.2.2.2.2.2.2.1, r18.2.2.2.2.2.2.2.2.2.2.2.2.2.2)))
theorem ft_p_round_walker_step {n : Nat} {w1 : List (Int × Int × Int × Int × Int)} {w2 : List ((List Int))} {w3 : List (Int × Int × Int × Int)} {w4 : Int} {w5 : Int} {w6 : Int} {w7 : Int} {w8 : Int} {w9 : Int} {w10 : Int} {w11 : Int} {w12 : Int} {w13 : Int} {w14 : Int} {nn15 : Int} {r : Int × (List (Int × Int × Int × Int × Int)) × (List ((List Int))) × (List (Int × Int × Int × Int)) × Int × Int × Int × Int × Int × Int × Int × Int × Int × Int × Int} (h : ev_p_round_walker_step n w1 w2 w3 w4 w5 w6 w7 w8 w9 w10 w11 w12 w13 w14 nn15 = some r) : FT Try.prog 38 [.ptr 0 0, vi nn15] [.blk 0 [.ref 1, .ref 2, .ref 3, vi w4, vi w5, .val (.int .u16 w6), vi w7, vi w8, vi w9, vi w10, vi w11, vi w12, vi w13, vi w14] 100] [.ro 1 5 (List.map en_api_RoundTower w1), .ro 2 1 (List.map en_Lint w2), .ro 3 4 (List.map en_api_RoundWinder w3)] (vi r.1) [.ro 500 5 (List.map en_api_RoundTower r.2.1), .ro 501 1 (List.map en_Lint r.2.2.1), .ro 502 4 (List.map en_api_RoundWinder r.2.2.2.1), .blk 0 [.ref 500, .ref 501, .ref 502, vi r.2.2.2.2.1, vi r.2.2.2.2.2.1, .val (.int .u16 r.2.2.2.2.2.2.1), vi r.2.2.2.2.2.2.2.1, vi r.2.2.2.2.2.2.2.2.1, vi r.2.2.2.2.2.2.2.2.2.1, vi r.2.2.2.2.2.2.2.2.2.2.1, vi r.2.2.2.2.2.2.2.2.2.2.2.1, vi r.2.2.2.2.2.2.2.2.2.2.2.2.1, vi r.2.2.2.2.2.2.2.2.2.2.2.2.2.1, vi r.2.2.2.2.2.2.2.2.2.2.2.2.2.2] 100] := by
  refine introM (nz := 25) 4 [(5, 0)] Try.func38 rfl rfl rfl rfl (fun w0 M0 R0 env0 => ?_)
  rw [ev_p_round_walker_step] at h
  refine TC.seq ?_
  refine TC.region ?_
  refine op0 (sp_assign rfl rfl) rfl trivial rfl rfl ?_
  refine TL.nil ?_
  refine TC.seq ?_
  refine TC.block ?_
  refine TC.seq ?_
  refine TC.region ?_
  refine op0 (sp_move rfl rfl) rfl trivial rfl rfl ?_
  refine op0 (sp_eql rfl rfl rfl) rfl trivial rfl rfl ?_
  refine op0 (sp_assign rfl rfl) rfl trivial rfl rfl ?_
  refine TL.nil ?_
  refine TC.cond (b := (nn15 == (-1))) rfl (fun h1 => ?_) (fun h1 => ?_)
  · have h := cond_t h h1
    refine TC.seq ?_
    refine TC.region ?_
    refine op0 (sp_move rfl rfl) rfl trivial rfl rfl ?_
    obtain ⟨r16, h2, h⟩ := bind_inv h
    refine opT (take := [.blk 0 [.ref 1, .ref 2, .ref 3, vi w4, vi w5, .val (.int .u16 w6), vi w7, vi w8, vi w9, vi w10, vi w11, vi w12, vi w13, vi w14] 100]) (need := [.ro 1 5 (List.map en_api_RoundTower w1), .ro 2 1 (List.map en_Lint w2), .ro 3 4 (List.map en_api_RoundWinder w3)]) (V' := [.ro 6 5 (List.map en_api_RoundTower r16.2.1), .ro 7 1 (List.map en_Lint r16.2.2.1), .ro 8 4 (List.map en_api_RoundWinder r16.2.2.2.1), .blk 0 [.ref 6, .ref 7, .ref 8, vi r16.2.2.2.2.1, vi r16.2.2.2.2.2.1, .val (.int .u16 r16.2.2.2.2.2.2.1), vi r16.2.2.2.2.2.2.2.1, vi r16.2.2.2.2.2.2.2.2.1, vi r16.2.2.2.2.2.2.2.2.2.1, vi r16.2.2.2.2.2.2.2.2.2.2.1, vi r16.2.2.2.2.2.2.2.2.2.2.2.1, vi r16.2.2.2.2.2.2.2.2.2.2.2.2.1, vi r16.2.2.2.2.2.2.2.2.2.2.2.2.2.1, vi r16.2.2.2.2.2.2.2.2.2.2.2.2.2.2] 100, .inv 4 (marksI []), .pin 5 0 (env0 0), .ro 1 5 (List.map en_api_RoundTower w1), .ro 2 1 (List.map en_Lint w2), .ro 3 4 (List.map en_api_RoundWinder w3)]) [2] [3, 4, 5] (ts_call (avs := [.ptr 0 0]) (take := [.blk 0 [.ref 1, .ref 2, .ref 3, vi w4, vi w5, .val (.int .u16 w6), vi w7, vi w8, vi w9, vi w10, vi w11, vi w12, vi w13, vi w14] 100]) (need := [.ro 1 5 (List.map en_api_RoundTower w1), .ro 2 1 (List.map en_Lint w2), .ro 3 4 (List.map en_api_RoundWinder w3)]) (v := vi r16.1) (news := [.ro 6 5 (List.map en_api_RoundTower r16.2.1), .ro 7 1 (List.map en_Lint r16.2.2.1), .ro 8 4 (List.map en_api_RoundWinder r16.2.2.2.1), .blk 0 [.ref 6, .ref 7, .ref 8, vi r16.2.2.2.2.1, vi r16.2.2.2.2.2.1, .val (.int .u16 r16.2.2.2.2.2.2.1), vi r16.2.2.2.2.2.2.2.1, vi r16.2.2.2.2.2.2.2.2.1, vi r16.2.2.2.2.2.2.2.2.2.1, vi r16.2.2.2.2.2.2.2.2.2.2.1, vi r16.2.2.2.2.2.2.2.2.2.2.2.1, vi r16.2.2.2.2.2.2.2.2.2.2.2.2.1, vi r16.2.2.2.2.2.2.2.2.2.2.2.2.2.1, vi r16.2.2.2.2.2.2.2.2.2.2.2.2.2.2] 100]) rfl rfl rfl Try.call60 (atT [] [(500, 6), (501, 7), (502, 8)] (ft_p_round_walker_rest h2) rfl rfl rfl) rfl rfl) trivial rfl ⟨rfl, trivial⟩ ⟨rfl, rfl, rfl, trivial⟩ rfl rfl ?_
    refine op0 (sp_assign rfl rfl) rfl trivial rfl rfl ?_
    refine TL.nil ?_
    cases h
    exact retM [(500, 6), (501, 7), (502, 8)] 4 4 [0] rfl (.tmp rfl .nil) rfl ⟨mem_at 0 rfl, mem_at 1 rfl, mem_at 2 rfl, mem_at 3 rfl, trivial⟩ rfl rfl ⟨⟨_, mem_at 4 rfl⟩, trivial⟩ rfl
  · have h := cond_f h h1
    refine TC.seq ?_
    refine TC.region ?_
    refine op0 (sp_move rfl rfl) rfl trivial rfl rfl ?_
    refine op1 2 rfl (sp_nilCheck rfl isBlk rfl) rfl trivial rfl rfl ?_
    refine op1 2 rfl (sp_fieldAddrB rfl isBlk rfl ft100_0 vt26 (by decide)) rfl trivial rfl rfl ?_
    refine op1 2 rfl (sp_fieldAddrB rfl isBlk rfl ft26_0 vt22 (by decide)) rfl trivial rfl rfl ?_
    refine op1 2 rfl (sp_loadB rfl isBlk rfl vt22 rfl) rfl trivial rfl rfl ?_
    refine op1 3 rfl (sp_lenM (N := w1.length) (len_map _ _) rfl rfl isRo Try.underlying22) rfl trivial rfl rfl ?_
    obtain ⟨h3, h⟩ := chk_inv h
    refine op0 (sp_sub rfl rfl rfl h3) rfl trivial rfl rfl ?_
    refine op0 (sp_move rfl rfl) rfl trivial rfl rfl ?_
    refine op0 (sp_buildSlice (qs := [vi nn15]) (need := []) (els := List.map en_int ([nn15] : List Int)) 9 rfl sl30 (by decide) (by decide) rfl rfl rfl (.v (.nil)) (map_len fun _ => rfl) rfl rfl rfl) rfl trivial rfl rfl ?_
    obtain ⟨r17, h4, h⟩ := bind_inv h
    refine op1 0 rfl (sp_call (avs := [vi 0, vi ((w1.length : Int) - 1), .ref 9]) (need := [.row 9 3 1 (List.map en_int ([nn15] : List Int))]) (v := .val (.bool r17)) (news := []) rfl rfl rfl Try.call48 (atJ [(0, 9)] [] (fc_round_within h4) rfl rfl) (.inr (fun x hx => nomatch hx))) rfl trivial rfl rfl ?_
    refine op0 (sp_not rfl rfl) rfl trivial rfl rfl ?_
    refine op0 (sp_assign rfl rfl) rfl trivial rfl rfl ?_
    refine TL.nil ?_
    refine TC.cond (b := (!r17)) rfl (fun h5 => ?_) (fun h5 => ?_)
    · have h := cond_t h h5
      refine TC.seq ?_
      refine TC.region ?_
      refine op0 (sp_assign rfl rfl) rfl trivial rfl rfl ?_
      refine TL.nil ?_
      cases h
      exact retM [(500, 1), (501, 2), (502, 3)] 1 4 [0] rfl (.tmp rfl .nil) rfl ⟨mem_at 3 rfl, mem_at 4 rfl, mem_at 5 rfl, mem_at 2 rfl, trivial⟩ rfl rfl ⟨⟨_, mem_at 1 rfl⟩, trivial⟩ rfl
    · have h := cond_f h h5
      refine TC.skip ?_
      refine TC.inBlock ?_
      refine TC.seq ?_
      refine TC.region ?_
      refine op0 (sp_move rfl rfl) rfl trivial rfl rfl ?_
      refine op0 (sp_move rfl rfl) rfl trivial rfl rfl ?_
      obtain ⟨r18, h6, h⟩ := bind_inv h
      refine opT (take := [.blk 0 [.ref 1, .ref 2, .ref 3, vi w4, vi w5, .val (.int .u16 w6), vi w7, vi w8, vi w9, vi w10, vi w11, vi w12, vi w13, vi w14] 100]) (need := [.ro 1 5 (List.map en_api_RoundTower w1), .ro 2 1 (List.map en_Lint w2), .ro 3 4 (List.map en_api_RoundWinder w3)]) (V' := [.ro 10 5 (List.map en_api_RoundTower r18.2.1), .ro 11 1 (List.map en_Lint r18.2.2.1), .ro 12 4 (List.map en_api_RoundWinder r18.2.2.2.1), .blk 0 [.ref 10, .ref 11, .ref 12, vi r18.2.2.2.2.1, vi r18.2.2.2.2.2.1, .val (.int .u16 r18.2.2.2.2.2.2.1), vi r18.2.2.2.2.2.2.2.1, vi r18.2.2.2.2.2.2.2.2.1, vi r18.2.2.2.2.2.2.2.2.2.1, vi r18.2.2.2.2.2.2.2.2.2.2.1, vi r18.2.2.2.2.2.2.2.2.2.2.2.1, vi r18.2.2.2.2.2.2.2.2.2.2.2.2.1, vi r18.2.2.2.2.2.2.2.2.2.2.2.2.2.1, vi r18.2.2.2.2.2.2.2.2.2.2.2.2.2.2] 100, .row 9 3 1 (List.map en_int ([nn15] : List Int)), .inv 4 (marksI []), .pin 5 0 (env0 0), .ro 1 5 (List.map en_api_RoundTower w1), .ro 2 1 (List.map en_Lint w2), .ro 3 4 (List.map en_api_RoundWinder w3)]) [3] [4, 5, 6] (ts_call (avs := [.ptr 0 0, vi nn15]) (take := [.blk 0 [.ref 1, .ref 2, .ref 3, vi w4, vi w5, .val (.int .u16 w6), vi w7, vi w8, vi w9, vi w10, vi w11, vi w12, vi w13, vi w14] 100]) (need := [.ro 1 5 (List.map en_api_RoundTower w1), .ro 2 1 (List.map en_Lint w2), .ro 3 4 (List.map en_api_RoundWinder w3)]) (v := vi r18.1) (news := [.ro 10 5 (List.map en_api_RoundTower r18.2.1), .ro 11 1 (List.map en_Lint r18.2.2.1), .ro 12 4 (List.map en_api_RoundWinder r18.2.2.2.1), .blk 0 [.ref 10, .ref 11, .ref 12, vi r18.2.2.2.2.1, vi r18.2.2.2.2.2.1, .val (.int .u16 r18.2.2.2.2.2.2.1), vi r18.2.2.2.2.2.2.2.1, vi r18.2.2.2.2.2.2.2.2.1, vi r18.2.2.2.2.2.2.2.2.2.1, vi r18.2.2.2.2.2.2.2.2.2.2.1, vi r18.2.2.2.2.2.2.2.2.2.2.2.1, vi r18.2.2.2.2.2.2.2.2.2.2.2.2.1, vi r18.2.2.2.2.2.2.2.2.2.2.2.2.2.1, vi r18.2.2.2.2.2.2.2.2.2.2.2.2.2.2] 100]) rfl rfl rfl Try.call61 (atT [] [(500, 10), (501, 11), (502, 12)] (ft_p_round_walker_visit h6) rfl rfl rfl) rfl rfl) trivial rfl ⟨rfl, trivial⟩ ⟨rfl, rfl, rfl, trivial⟩ rfl rfl ?_
      refine op0 (sp_assign rfl rfl) rfl trivial rfl rfl ?_
      refine TL.nil ?_
      cases h
      exact retM [(500, 10), (501, 11), (502, 12)] 5 4 [0] rfl (.tmp rfl .nil) rfl ⟨mem_at 0 rfl, mem_at 1 rfl, mem_at 2 rfl, mem_at 3 rfl, trivial⟩ rfl rfl ⟨⟨_, mem_at 5 rfl⟩, trivial⟩ rfl
def ev_p_round_walker_home (n : Nat) (w1 : List (Int × Int × Int × Int × Int)) (w2 : List ((List Int))) (w3 : List (Int × Int × Int × Int)) (w4 : Int) (w5 : Int) (w6 : Int) (w7 : Int) (w8 : Int) (w9 : Int) (w10 : Int) (w11 : Int) (w12 : Int) (w13 : Int) (w14 : Int) : Option (Int × (List (Int × Int × Int × Int × Int)) × (List ((List Int))) × (List (Int × Int × Int × Int)) × Int × Int × Int × Int × Int × Int × Int × Int × Int × Int × Int) :=
  idx w2 w10 fun x15 => (ev_round_works n w1 w2 w3 w4 w5).bind fun r16 => idx x15 r16 fun x17 => (ev_p_round_walker_work n w1 w2 w3 w4 w5 w6 w7 w8 w9 w10 w11 w12 w13 w14 x17).bind fun r18 => some (r18.1, r18.2.1, r18.2.2.1, r18.2.2.2.1, r18.2.2.2.2.1, r18.2.2.2.2.2.1, r18.2.2.2.2.2.2.1, r18.2.2.2.2.2.2.2.1, r18.2.2.2.2.2.2.2.2.1, r18.2.2.2.2.2.2.2.2.2.1, r18.2.2.2.2.2.2.2.2.2.2.1, r18.2.2.2.2.2.2.2.2.2.2.2.1, r18.2.2.2.2.2.2.2.2.2.2.2.2.1, r18.2.2.2.2.2.2.2.2.2.2.2.2.2.1, r18.2.2.2.2.2.2.2.2.2.2.2.2.2.2)
theorem ft_p_round_walker_home {n : Nat} {w1 : List (Int × Int × Int × Int × Int)} {w2 : List ((List Int))} {w3 : List (Int × Int × Int × Int)} {w4 : Int} {w5 : Int} {w6 : Int} {w7 : Int} {w8 : Int} {w9 : Int} {w10 : Int} {w11 : Int} {w12 : Int} {w13 : Int} {w14 : Int} {r : Int × (List (Int × Int × Int × Int × Int)) × (List ((List Int))) × (List (Int × Int × Int × Int)) × Int × Int × Int × Int × Int × Int × Int × Int × Int × Int × Int} (h : ev_p_round_walker_home n w1 w2 w3 w4 w5 w6 w7 w8 w9 w10 w11 w12 w13 w14 = some r) : FT Try.prog 39 [.ptr 0 0] [.blk 0 [.ref 1, .ref 2, .ref 3, vi w4, vi w5, .val (.int .u16 w6), vi w7, vi w8, vi w9, vi w10, vi w11, vi w12, vi w13, vi w14] 100] [.ro 1 5 (List.map en_api_RoundTower w1), .ro 2 1 (List.map en_Lint w2), .ro 3 4 (List.map en_api_RoundWinder w3)] (vi r.1) [.ro 500 5 (List.map en_api_RoundTower r.2.1), .ro 501 1 (List.map en_Lint r.2.2.1), .ro 502 4 (List.map en_api_RoundWinder r.2.2.2.1), .blk 0 [.ref 500, .ref 501, .ref 502, vi r.2.2.2.2.1, vi r.2.2.2.2.2.1, .val (.int .u16 r.2.2.2.2.2.2.1), vi r.2.2.2.2.2.2.2.1, vi r.2.2.2.2.2.2.2.2.1, vi r.2.2.2.2.2.2.2.2.2.1, vi r.2.2.2.2.2.2.2.2.2.2.1, vi r.2.2.2.2.2.2.2.2.2.2.2.1, vi r.2.2.2.2.2.2.2.2.2.2.2.2.1, vi r.2.2.2.2.2.2.2.2.2.2.2.2.2.1, vi r.2.2.2.2.2.2.2.2.2.2.2.2.2.2] 100] := by
  refine introM (nz := 23) 4 [(5, 0)] Try.func39 rfl rfl rfl rfl (fun w0 M0 R0 env0 => ?_)
  rw [ev_p_round_walker_home] at h
  refine TC.seq ?_
  refine TC.region ?_
  refine op0 (sp_assign rfl rfl) rfl trivial rfl rfl ?_
  refine TL.nil ?_
  refine TC.seq ?_
  obtain ⟨x15, h1, h2, h⟩ := idx_inv h
  obtain ⟨r16, h3, h⟩ := bind_inv h
  obtain ⟨x17, h4, h5, h⟩ := idx_inv h
  refine drawJ 19 [⟨.ptr 0 0, [], [], []⟩, ⟨.ptr 0 0, [], [], []⟩, ⟨.ptr 0 0, [], [.blk 0 [.ref 1, .ref 2, .ref 3, vi w4, vi w5, .val (.int .u16 w6), vi w7, vi w8, vi w9, vi w10, vi w11, vi w12, vi w13, vi w14] 100], []⟩, ⟨.ptr 0 0, [], [.blk 0 [.ref 1, .ref 2, .ref 3, vi w4, vi w5, .val (.int .u16 w6), vi w7, vi w8, vi w9, vi w10, vi w11, vi w12, vi w13, vi w14] 100], []⟩, ⟨.ptr 0 1, [], [.blk 0 [.ref 1, .ref 2, .ref 3, vi w4, vi w5, .val (.int .u16 w6), vi w7, vi w8, vi w9, vi w10, vi w11, vi w12, vi w13, vi w14] 100], []⟩, ⟨.ref 2, [], [.blk 0 [.ref 1, .ref 2, .ref 3, vi w4, vi w5, .val (.int .u16 w6), vi w7, vi w8, vi w9, vi w10, vi w11, vi w12, vi w13, vi w14] 100], []⟩, ⟨.ptr 0 0, [], [], []⟩, ⟨.ptr 0 0, [], [.blk 0 [.ref 1, .ref 2, .ref 3, vi w4, vi w5, .val (.int .u16 w6), vi w7, vi w8, vi w9, vi w10, vi w11, vi w12, vi w13, vi w14] 100], []⟩, ⟨.ptr 0 9, [], [.blk 0 [.ref 1, .ref 2, .ref 3, vi w4, vi w5, .val (.int .u16 w6), vi w7, vi w8, vi w9, vi w10, vi w11, vi w12, vi w13, vi w14] 100], []⟩, ⟨vi w10, [], [.blk 0 [.ref 1, .ref 2, .ref 3, vi w4, vi w5, .val (.int .u16 w6), vi w7, vi w8, vi w9, vi w10, vi w11, vi w12, vi w13, vi w14] 100], []⟩, ⟨.cell 2 ((w10 : Int).toNat * 1), [], [.ro 2 1 (List.map en_Lint w2)], []⟩, ⟨.ref 6, [.ro 6 1 (List.map en_int x15)], [.ro 2 1 (List.map en_Lint w2)], []⟩, ⟨.ptr 0 0, [], [], []⟩, ⟨.ptr 0 0, [], [.blk 0 [.ref 1, .ref 2, .ref 3, vi w4, vi w5, .val (.int .u16 w6), vi w7, vi w8, vi w9, vi w10, vi w11, vi w12, vi w13, vi w14] 100], []⟩, ⟨.ptr 0 0, [], [.blk 0 [.ref 1, .ref 2, .ref 3, vi w4, vi w5, .val (.int .u16 w6), vi w7, vi w8, vi w9, vi w10, vi w11, vi w12, vi w13, vi w14] 100], []⟩, ⟨.agg [.ref 1, .ref 2, .ref 3, vi w4, vi w5], [], [.blk 0 [.ref 1, .ref 2, .ref 3, vi w4, vi w5, .val (.int .u16 w6), vi w7, vi w8, vi w9, vi w10, vi w11, vi w12, vi w13, vi w14] 100], []⟩, ⟨vi r16, [], [.ro 1 5 (List.map en_api_RoundTower w1), .ro 2 1 (List.map en_Lint w2), .ro 3 4 (List.map en_api_RoundWinder w3)], []⟩, ⟨.cell 6 ((r16 : Int).toNat * 1), [], [.ro 6 1 (List.map en_int x15)], []⟩, ⟨vi x17, [], [.ro 6 1 (List.map en_int x15)], []⟩] rfl ?_ rfl ?_ rfl ?_ ?_
  · kernel_rfl
  · kernel_rfl
  · exact DAll.op' (sp_move rfl rfl) trivial rfl (From.ok (ps := []) trivial) (DAll.op' (sp_move rfl rfl) trivial rfl (From.ok (ps := []) trivial) (DAll.op' (sp_nilCheck rfl isBlk rfl) trivial rfl (From.ok (ps := [(none, 2)]) ⟨⟨rfl, by kernel_rfl⟩, trivial⟩) (DAll.op' (sp_fieldAddrB rfl isBlk rfl ft100_0 vt26 (by decide)) trivial rfl (From.ok (ps := [(none, 2)]) ⟨⟨rfl, by kernel_rfl⟩, trivial⟩) (DAll.op' (sp_fieldAddrB rfl isBlk rfl ft26_1 vt23 (by decide)) trivial rfl (From.ok (ps := [(none, 2)]) ⟨⟨rfl, by kernel_rfl⟩, trivial⟩) (DAll.op' (sp_loadB rfl isBlk rfl vt23 rfl) trivial rfl (From.ok (ps := [(none, 2)]) ⟨⟨rfl, by kernel_rfl⟩, trivial⟩) (DAll.op' (sp_move rfl rfl) trivial rfl (From.ok (ps := []) trivial) (DAll.op' (sp_nilCheck rfl isBlk rfl) trivial rfl (From.ok (ps := [(none, 2)]) ⟨⟨rfl, by kernel_rfl⟩, trivial⟩) (DAll.op' (sp_fieldAddrB rfl isBlk rfl ft100_2 vt3 (by decide)) trivial rfl (From.ok (ps := [(none, 2)]) ⟨⟨rfl, by kernel_rfl⟩, trivial⟩) (DAll.op' (sp_loadB rfl isBlk rfl vt3 rfl) trivial rfl (From.ok (ps := [(none, 2)]) ⟨⟨rfl, by kernel_rfl⟩, trivial⟩) (DAll.op' (sp_indexS rfl rfl rfl isRo sl23 h1 (map_get _ h2)) trivial rfl (From.ok (ps := [(none, 4)]) ⟨⟨rfl, by kernel_rfl⟩, trivial⟩) (DAll.op' (sp_loadR (i := (w10 : Int).toNat) (j := 0) (ns := [.ro 6 1 (List.map en_int x15)]) rfl rfl isRo vt30 rfl (map_get _ h2) rfl (.s (.nil)) (nodup_of_B rfl)) trivial rfl (From.ok (ps := [(none, 4)]) ⟨⟨rfl, by kernel_rfl⟩, trivial⟩) (DAll.op' (sp_move rfl rfl) trivial rfl (From.ok (ps := []) trivial) (DAll.op' (sp_nilCheck rfl isBlk rfl) trivial rfl (From.ok (ps := [(none, 2)]) ⟨⟨rfl, by kernel_rfl⟩, trivial⟩) (DAll.op' (sp_fieldAddrB rfl isBlk rfl ft100_0 vt26 (by decide)) trivial rfl (From.ok (ps := [(none, 2)]) ⟨⟨rfl, by kernel_rfl⟩, trivial⟩) (DAll.op' (sp_loadBA rfl isBlk rfl vt26 rfl rfl) trivial rfl (From.ok (ps := [(none, 2)]) ⟨⟨rfl, by kernel_rfl⟩, trivial⟩) (DAll.op' (sp_call (avs := [.agg [.ref 1, .ref 2, .ref 3, vi w4, vi w5]]) (need := [.ro 1 5 (List.map en_api_RoundTower w1), .ro 2 1 (List.map en_Lint w2), .ro 3 4 (List.map en_api_RoundWinder w3)]) (v := vi r16) (news := []) rfl rfl rfl Try.call59 (atJ [(0, 1), (1, 2), (2, 3)] [] (fc_round_works h3) rfl rfl) (.inl (roAll rfl))) trivial rfl (From.ok (ps := [(none, 3), (none, 4), (none, 5)]) ⟨⟨rfl, by kernel_rfl⟩, ⟨rfl, by kernel_rfl⟩, ⟨rfl, by kernel_rfl⟩, trivial⟩) (DAll.op' (sp_indexS rfl rfl rfl isRo sl30 h4 (map_get _ h5)) trivial rfl (From.ok (ps := [(some 11, 0)]) ⟨⟨_, rfl, by kernel_rfl, rfl, by kernel_rfl⟩, trivial⟩) (DAll.op' (sp_loadR (i := (r16 : Int).toNat) (j := 0) rfl rfl isRo vt3 rfl (map_get _ h5) rfl (.v (.nil)) (nodup_of_B rfl)) trivial rfl (From.ok (ps := [(some 11, 0)]) ⟨⟨_, rfl, by kernel_rfl, rfl, by kernel_rfl⟩, trivial⟩) (.nil)))))))))))))))))))
  obtain ⟨r18, h6, h⟩ := bind_inv h
  refine opT (take := [.blk 0 [.ref 1, .ref 2, .ref 3, vi w4, vi w5, .val (.int .u16 w6), vi w7, vi w8, vi w9, vi w10, vi w11, vi w12, vi w13, vi w14] 100]) (need := [.ro 1 5 (List.map en_api_RoundTower w1), .ro 2 1 (List.map en_Lint w2), .ro 3 4 (List.map en_api_RoundWinder w3)]) (V' := [.ro 7 5 (List.map en_api_RoundTower r18.2.1), .ro 8 1 (List.map en_Lint r18.2.2.1), .ro 9 4 (List.map en_api_RoundWinder r18.2.2.2.1), .blk 0 [.ref 7, .ref 8, .ref 9, vi r18.2.2.2.2.1, vi r18.2.2.2.2.2.1, .val (.int .u16 r18.2.2.2.2.2.2.1), vi r18.2.2.2.2.2.2.2.1, vi r18.2.2.2.2.2.2.2.2.1, vi r18.2.2.2.2.2.2.2.2.2.1, vi r18.2.2.2.2.2.2.2.2.2.2.1, vi r18.2.2.2.2.2.2.2.2.2.2.2.1, vi r18.2.2.2.2.2.2.2.2.2.2.2.2.1, vi r18.2.2.2.2.2.2.2.2.2.2.2.2.2.1, vi r18.2.2.2.2.2.2.2.2.2.2.2.2.2.2] 100, .ro 6 1 (List.map en_int x15), .inv 4 (marksI []), .pin 5 0 (env0 0), .ro 1 5 (List.map en_api_RoundTower w1), .ro 2 1 (List.map en_Lint w2), .ro 3 4 (List.map en_api_RoundWinder w3)]) [3] [4, 5, 6] (ts_call (avs := [.ptr 0 0, vi x17]) (take := [.blk 0 [.ref 1, .ref 2, .ref 3, vi w4, vi w5, .val (.int .u16 w6), vi w7, vi w8, vi w9, vi w10, vi w11, vi w12, vi w13, vi w14] 100]) (need := [.ro 1 5 (List.map en_api_RoundTower w1), .ro 2 1 (List.map en_Lint w2), .ro 3 4 (List.map en_api_RoundWinder w3)]) (v := vi r18.1) (news := [.ro 7 5 (List.map en_api_RoundTower r18.2.1), .ro 8 1 (List.map en_Lint r18.2.2.1), .ro 9 4 (List.map en_api_RoundWinder r18.2.2.2.1), .blk 0 [.ref 7, .ref 8, .ref 9, vi r18.2.2.2.2.1, vi r18.2.2.2.2.2.1, .val (.int .u16 r18.2.2.2.2.2.2.1), vi r18.2.2.2.2.2.2.2.1, vi r18.2.2.2.2.2.2.2.2.1, vi r18.2.2.2.2.2.2.2.2.2.1, vi r18.2.2.2.2.2.2.2.2.2.2.1, vi r18.2.2.2.2.2.2.2.2.2.2.2.1, vi r18.2.2.2.2.2.2.2.2.2.2.2.2.1, vi r18.2.2.2.2.2.2.2.2.2.2.2.2.2.1, vi r18.2.2.2.2.2.2.2.2.2.2.2.2.2.2] 100]) rfl rfl rfl Try.call62 (atT [] [(500, 7), (501, 8), (502, 9)] (ft_p_round_walker_work h6) rfl rfl rfl) rfl rfl) trivial rfl ⟨rfl, trivial⟩ ⟨rfl, rfl, rfl, trivial⟩ rfl rfl ?_
  refine op0 (sp_assign rfl rfl) rfl trivial rfl rfl ?_
  refine TL.nil ?_
  cases h
  exact retM [(500, 7), (501, 8), (502, 9)] 5 4 [0] rfl (.tmp rfl .nil) rfl ⟨mem_at 0 rfl, mem_at 1 rfl, mem_at 2 rfl, mem_at 3 rfl, trivial⟩ rfl rfl ⟨⟨_, mem_at 5 rfl⟩, trivial⟩ rfl
def ev_round_Walk_l0 (n : Nat) (t7 : List Int) : Nat → Int → Int → Int → Int → Int → Int → Int → Int → Int → Int → Int → Int → Int → Int → Int → (List Int) → (List (Int × Int × Int × Int × Int)) → (List ((List Int))) → (List (Int × Int × Int × Int)) → (List (Int × Int × Int × Int × Int)) → (List ((List Int))) → (List (Int × Int × Int × Int)) → Option (Int × Int × Int × Int)
  | 0, _, _, _, _, _, _, _, _, _, _, _, _, _, _, _, _, _, _, _, _, _, _ => none
  | m + 1, i11, i12, i13, i14, i15, i17, i18, i19, i20, i21, i22, i23, i24, i25, i26, l27, l28, l29, l30, l31, l32, l33 => cond (decide (i11 < (t7.length : Int))) (idx l27 i11 fun x34 => (ev_p_round_walker_step n l31 l32 l33 i15 i17 i18 i19 i20 i21 i22 i23 i24 i25 i26 x34).bind fun r35 => cond (r35.1 != 0) (some (0, 0, i11, r35.1)) (chk (in64 (i11 + 1)) <| ev_round_Walk_l0 n t7 m (i11 + 1) i12 i13 i14 r35.2.2.2.2.1 r35.2.2.2.2.2.1 r35.2.2.2.2.2.2.1 r35.2.2.2.2.2.2.2.1 r35.2.2.2.2.2.2.2.2.1 r35.2.2.2.2.2.2.2.2.2.1 r35.2.2.2.2.2.2.2.2.2.2.1 r35.2.2.2.2.2.2.2.2.2.2.2.1 r35.2.2.2.2.2.2.2.2.2.2.2.2.1 r35.2.2.2.2.2.2.2.2.2.2.2.2.2.1 r35.2.2.2.2.2.2.2.2.2.2.2.2.2.2 l27 l28 l29 l30 r35.2.1 r35.2.2.1 r35.2.2.2.1)) ((ev_p_round_walker_home n l31 l32 l33 i15 i17 i18 i19 i20 i21 i22 i23 i24 i25 i26).bind fun r36 => cond (r36.1 != 0) (some (0, 0, (l27.length : Int), r36.1)) (chk (in64 (r36.2.2.2.2.2.2.2.2.2.2.2.2.2.2 * i13)) <| some (r36.2.2.2.2.2.2.2.2.2.2.2.2.2.2, (r36.2.2.2.2.2.2.2.2.2.2.2.2.2.2 * i13), 0, 0)))
theorem ok_round_Walk_l0 {n : Nat} {w0 : World} {R0 : Nat → Prop} {env0 : Env} {r : Int × Int × Int × Int} {t7 : List Int} : ∀ (m : Nat) (i11 : Int) (i12 : Int) (i13 : Int) (i14 : Int) (i15 : Int) (i17 : Int) (i18 : Int) (i19 : Int) (i20 : Int) (i21 : Int) (i22 : Int) (i23 : Int) (i24 : Int) (i25 : Int) (i26 : Int) (l27 : List Int) (l28 : List (Int × Int × Int × Int × Int)) (l29 : List ((List Int))) (l30 : List (Int × Int × Int × Int)) (l31 : List (Int × Int × Int × Int × Int)) (l32 : List ((List Int))) (l33 : List (Int × Int × Int × Int)), ev_round_Walk_l0 n t7 m i11 i12 i13 i14 i15 i17 i18 i19 i20 i21 i22 i23 i24 i25 i26 l27 l28 l29 l30 l31 l32 l33 = some r → TC Try.prog ⟨w0, fun _ => False, R0⟩ 64 (bodyPost Try.prog Try.f24 (Post ⟨w0, fun _ => False, R0⟩ env0 (.tup [vi r.1, vi r.2.1, vi r.2.2.1, vi r.2.2.2]) [])) [.code (sub (bodyOf Try.f24) [1, 1, 1, 0, 1, 0, 0, 0]), .code (sub (bodyOf Try.f24) [1, 1, 1, 0, 1, 0, 0, 1]), .inLoop (sub (bodyOf Try.f24) [1, 1, 1, 0, 1, 0, 0]), .inBlock 1, .code (sub (bodyOf Try.f24) [1, 1, 1, 1])] ([(2, .ptr 4 0), (3, .ptr 5 0), (9, .ptr 9 0), (36, .ref 3), (37, vi (t7.length : Int)), (38, vi i11)]) ([.blk 4 [.ref 0, .ref 1, .ref 2, vi i12, vi i13] 26, .blk 5 [vi i14, .ref 3] 65, .blk 9 [.ref 6, .ref 7, .ref 8, vi i15, vi i17, .val (.int .u16 i18), vi i19, vi i20, vi i21, vi i22, vi i23, vi i24, vi i25, vi i26] 100, .ro 3 1 (List.map en_int l27), .ro 0 5 (List.map en_api_RoundTower l28), .ro 1 1 (List.map en_Lint l29), .ro 2 4 (List.map en_api_RoundWinder l30), .ro 6 5 (List.map en_api_RoundTower l31), .ro 7 1 (List.map en_Lint l32), .ro 8 4 (List.map en_api_RoundWinder l33)]) := by
  intro m
  induction m with
  | zero => intro i11 i12 i13 i14 i15 i17 i18 i19 i20 i21 i22 i23 i24 i25 i26 l27 l28 l29 l30 l31 l32 l33 h; exact none_no h
  | succ m ih =>
    intro i11 i12 i13 i14 i15 i17 i18 i19 i20 i21 i22 i23 i24 i25 i26 l27 l28 l29 l30 l31 l32 l33 h
    rw [ev_round_Walk_l0] at h
    refine TC.region ?_
    refine op0 (sp_lss rfl rfl rfl) rfl trivial rfl rfl ?_
    refine TL.nil ?_
    refine TC.seq ?_
    refine TC.cond (b := (decide (i11 < (t7.length : Int)))) rfl (fun h7 => ?_) (fun h7 => ?_)
    · have h := cond_t h h7
      refine TC.skip ?_
      refine TC.seq ?_
      refine TC.block ?_
      refine TC.seq ?_
      refine TC.region ?_
      refine op0 (sp_move rfl rfl) rfl trivial rfl rfl ?_
      obtain ⟨x34, h8, h9, h⟩ := idx_inv h
      refine op1 3 rfl (sp_indexS rfl rfl rfl isRo sl30 h8 (map_get _ h9)) rfl trivial rfl rfl ?_
      refine op1 3 rfl (sp_loadR (i := (i11 : Int).toNat) (j := 0) rfl rfl isRo vt3 rfl (map_get _ h9) rfl (.v (.nil)) (nodup_of_B rfl)) rfl trivial rfl rfl ?_
      refine op0 (sp_assign rfl rfl) rfl trivial rfl rfl ?_
      refine op0 (sp_assign rfl rfl) rfl trivial rfl rfl ?_
      refine TL.nil ?_
      refine TC.seq ?_
      refine TC.region ?_
      refine op0 (sp_move rfl rfl) rfl trivial rfl rfl ?_
      obtain ⟨r35, h10, h⟩ := bind_inv h
      refine opT (take := [.blk 9 [.ref 6, .ref 7, .ref 8, vi i15, vi i17, .val (.int .u16 i18), vi i19, vi i20, vi i21, vi i22, vi i23, vi i24, vi i25, vi i26] 100]) (need := [.ro 6 5 (List.map en_api_RoundTower l31), .ro 7 1 (List.map en_Lint l32), .ro 8 4 (List.map en_api_RoundWinder l33)]) (V' := [.ro 10 5 (List.map en_api_RoundTower r35.2.1), .ro 11 1 (List.map en_Lint r35.2.2.1), .ro 12 4 (List.map en_api_RoundWinder r35.2.2.2.1), .blk 9 [.ref 10, .ref 11, .ref 12, vi r35.2.2.2.2.1, vi r35.2.2.2.2.2.1, .val (.int .u16 r35.2.2.2.2.2.2.1), vi r35.2.2.2.2.2.2.2.1, vi r35.2.2.2.2.2.2.2.2.1, vi r35.2.2.2.2.2.2.2.2.2.1, vi r35.2.2.2.2.2.2.2.2.2.2.1, vi r35.2.2.2.2.2.2.2.2.2.2.2.1, vi r35.2.2.2.2.2.2.2.2.2.2.2.2.1, vi r35.2.2.2.2.2.2.2.2.2.2.2.2.2.1, vi r35.2.2.2.2.2.2.2.2.2.2.2.2.2.2] 100, .blk 4 [.ref 0, .ref 1, .ref 2, vi i12, vi i13] 26, .blk 5 [vi i14, .ref 3] 65, .ro 3 1 (List.map en_int l27), .ro 0 5 (List.map en_api_RoundTower l28), .ro 1 1 (List.map en_Lint l29), .ro 2 4 (List.map en_api_RoundWinder l30), .ro 6 5 (List.map en_api_RoundTower l31), .ro 7 1 (List.map en_Lint l32), .ro 8 4 (List.map en_api_RoundWinder l33)]) [2] [7, 8, 9] (ts_call (avs := [.ptr 9 0, vi x34]) (take := [.blk 9 [.ref 6, .ref 7, .ref 8, vi i15, vi i17, .val (.int .u16 i18), vi i19, vi i20, vi i21, vi i22, vi i23, vi i24, vi i25, vi i26] 100]) (need := [.ro 6 5 (List.map en_api_RoundTower l31), .ro 7 1 (List.map en_Lint l32), .ro 8 4 (List.map en_api_RoundWinder l33)]) (v := vi r35.1) (news := [.ro 10 5 (List.map en_api_RoundTower r35.2.1), .ro 11 1 (List.map en_Lint r35.2.2.1), .ro 12 4 (List.map en_api_RoundWinder r35.2.2.2.1), .blk 9 [.ref 10, .ref 11, .ref 12, vi r35.2.2.2.2.1, vi r35.2.2.2.2.2.1, .val (.int .u16 r35.2.2.2.2.2.2.1), vi r35.2.2.2.2.2.2.2.1, vi r35.2.2.2.2.2.2.2.2.1, vi r35.2.2.2.2.2.2.2.2.2.1, vi r35.2.2.2.2.2.2.2.2.2.2.1, vi r35.2.2.2.2.2.2.2.2.2.2.2.1, vi r35.2.2.2.2.2.2.2.2.2.2.2.2.1, vi r35.2.2.2.2.2.2.2.2.2.2.2.2.2.1, vi r35.2.2.2.2.2.2.2.2.2.2.2.2.2.2] 100]) rfl rfl rfl Try.call38 (atT [(0, 9), (1, 6), (2, 7), (3, 8)] [(500, 10), (501, 11), (502, 12), (0, 9)] (ft_p_round_walker_step h10) rfl rfl rfl) rfl rfl) trivial rfl ⟨rfl, trivial⟩ ⟨rfl, rfl, rfl, trivial⟩ rfl rfl ?_
      refine op0 (sp_assign rfl rfl) rfl trivial rfl rfl ?_
      refine TL.nil ?_
      refine TC.seq ?_
      refine TC.region ?_
      refine op0 (sp_move rfl rfl) rfl trivial rfl rfl ?_
      refine op0 (sp_neq rfl rfl rfl) rfl trivial rfl rfl ?_
      refine TL.nil ?_
      refine TC.cond (b := (r35.1 != 0)) rfl (fun h11 => ?_) (fun h11 => ?_)
      · have h := cond_t h h11
        refine TC.seq ?_
        refine TC.region ?_
        refine op0 (sp_move rfl rfl) rfl trivial rfl rfl ?_
        refine op0 (sp_move rfl rfl) rfl trivial rfl rfl ?_
        refine op0 (sp_assign rfl rfl) rfl trivial rfl rfl ?_
        refine op0 (sp_assign rfl rfl) rfl trivial rfl rfl ?_
        refine op0 (sp_assign rfl rfl) rfl trivial rfl rfl ?_
        refine op0 (sp_assign rfl rfl) rfl trivial rfl rfl ?_
        refine TL.nil ?_
        cases h
        exact retJ [] (.tmp rfl (.tmp rfl (.tmp rfl (.tmp rfl .nil)))) rfl trivial rfl rfl
      · have h := cond_f h h11
        refine TC.skip ?_
        refine TC.inBlock ?_
        refine TC.region ?_
        obtain ⟨h12, h⟩ := chk_inv h
        refine op0 (sp_add rfl rfl rfl h12) rfl trivial rfl rfl ?_
        refine op0 (sp_move rfl rfl) rfl trivial rfl rfl ?_
        refine TL.nil ?_
        refine TC.inLoop ?_
        refine TC.seq ?_
        refine subJ [(6, 10), (7, 11), (8, 12)] (ih _ _ _ _ _ _ _ _ _ _ _ _ _ _ _ _ _ _ _ _ _ _ h) ?_ ?_ ?_
        · exact ⟨rfl, rfl, rfl, rfl, rfl, rfl, trivial⟩
        · exact ⟨mem_at 4 rfl, mem_at 5 rfl, mem_at 3 rfl, mem_at 6 rfl, mem_at 7 rfl, mem_at 8 rfl, mem_at 9 rfl, mem_at 0 rfl, mem_at 1 rfl, mem_at 2 rfl, trivial⟩
        · rfl
    · have h := cond_f h h7
      refine TC.exit rfl ?_
      refine TC.seq ?_
      refine TC.seq ?_
      refine TC.region ?_
      obtain ⟨r36, h13, h⟩ := bind_inv h
      refine opT (take := [.blk 9 [.ref 6, .ref 7, .ref 8, vi i15, vi i17, .val (.int .u16 i18), vi i19, vi i20, vi i21, vi i22, vi i23, vi i24, vi i25, vi i26] 100]) (need := [.ro 6 5 (List.map en_api_RoundTower l31), .ro 7 1 (List.map en_Lint l32), .ro 8 4 (List.map en_api_RoundWinder l33)]) (V' := [.ro 13 5 (List.map en_api_RoundTower r36.2.1), .ro 14 1 (List.map en_Lint r36.2.2.1), .ro 15 4 (List.map en_api_RoundWinder r36.2.2.2.1), .blk 9 [.ref 13, .ref 14, .ref 15, vi r36.2.2.2.2.1, vi r36.2.2.2.2.2.1, .val (.int .u16 r36.2.2.2.2.2.2.1), vi r36.2.2.2.2.2.2.2.1, vi r36.2.2.2.2.2.2.2.2.1, vi r36.2.2.2.2.2.2.2.2.2.1, vi r36.2.2.2.2.2.2.2.2.2.2.1, vi r36.2.2.2.2.2.2.2.2.2.2.2.1, vi r36.2.2.2.2.2.2.2.2.2.2.2.2.1, vi r36.2.2.2.2.2.2.2.2.2.2.2.2.2.1, vi r36.2.2.2.2.2.2.2.2.2.2.2.2.2.2] 100, .blk 4 [.ref 0, .ref 1, .ref 2, vi i12, vi i13] 26, .blk 5 [vi i14, .ref 3] 65, .ro 3 1 (List.map en_int l27), .ro 0 5 (List.map en_api_RoundTower l28), .ro 1 1 (List.map en_Lint l29), .ro 2 4 (List.map en_api_RoundWinder l30), .ro 6 5 (List.map en_api_RoundTower l31), .ro 7 1 (List.map en_Lint l32), .ro 8 4 (List.map en_api_RoundWinder l33)]) [2] [7, 8, 9] (ts_call (avs := [.ptr 9 0]) (take := [.blk 9 [.ref 6, .ref 7, .ref 8, vi i15, vi i17, .val (.int .u16 i18), vi i19, vi i20, vi i21, vi i22, vi i23, vi i24, vi i25, vi i26] 100]) (need := [.ro 6 5 (List.map en_api_RoundTower l31), .ro 7 1 (List.map en_Lint l32), .ro 8 4 (List.map en_api_RoundWinder l33)]) (v := vi r36.1) (news := [.ro 13 5 (List.map en_api_RoundTower r36.2.1), .ro 14 1 (List.map en_Lint r36.2.2.1), .ro 15 4 (List.map en_api_RoundWinder r36.2.2.2.1), .blk 9 [.ref 13, .ref 14, .ref 15, vi r36.2.2.2.2.1, vi r36.2.2.2.2.2.1, .val (.int .u16 r36.2.2.2.2.2.2.1), vi r36.2.2.2.2.2.2.2.1, vi r36.2.2.2.2.2.2.2.2.1, vi r36.2.2.2.2.2.2.2.2.2.1, vi r36.2.2.2.2.2.2.2.2.2.2.1, vi r36.2.2.2.2.2.2.2.2.2.2.2.1, vi r36.2.2.2.2.2.2.2.2.2.2.2.2.1, vi r36.2.2.2.2.2.2.2.2.2.2.2.2.2.1, vi r36.2.2.2.2.2.2.2.2.2.2.2.2.2.2] 100]) rfl rfl rfl Try.call39 (atT [(0, 9), (1, 6), (2, 7), (3, 8)] [(500, 13), (501, 14), (502, 15), (0, 9)] (ft_p_round_walker_home h13) rfl rfl rfl) rfl rfl) trivial rfl ⟨rfl, trivial⟩ ⟨rfl, rfl, rfl, trivial⟩ rfl rfl ?_
      refine op0 (sp_assign rfl rfl) rfl trivial rfl rfl ?_
      refine TL.nil ?_
      refine TC.seq ?_
      refine TC.region ?_
      refine op0 (sp_move rfl rfl) rfl trivial rfl rfl ?_
      refine op0 (sp_neq rfl rfl rfl) rfl trivial rfl rfl ?_
      refine TL.nil ?_
      refine TC.cond (b := (r36.1 != 0)) rfl (fun h14 => ?_) (fun h14 => ?_)
      · have h := cond_t h h14
        refine TC.seq ?_
        refine drawJ 7 [⟨.ptr 5 1, [], [.blk 5 [vi i14, .ref 3] 65], []⟩, ⟨.ref 3, [], [.blk 5 [vi i14, .ref 3] 65], []⟩, ⟨vi (l27.length : Int), [], [.ro 3 1 (List.map en_int l27)], []⟩, ⟨vi r36.1, [], [], []⟩, ⟨vi 0, [], [], []⟩, ⟨vi 0, [], [], []⟩, ⟨vi (l27.length : Int), [], [], []⟩] rfl ?_ rfl ?_ rfl ?_ ?_
        · kernel_rfl
        · kernel_rfl
        · exact DAll.op' (sp_fieldAddrB rfl isBlk rfl ft65_1 vt30 (by decide)) trivial rfl (From.ok (ps := [(none, 5)]) ⟨⟨rfl, rfl⟩, trivial⟩) (DAll.op' (sp_loadB rfl isBlk rfl vt30 rfl) trivial rfl (From.ok (ps := [(none, 5)]) ⟨⟨rfl, rfl⟩, trivial⟩) (DAll.op' (sp_lenM (N := l27.length) (len_map _ _) rfl rfl isRo Try.underlying30) trivial rfl (From.ok (ps := [(none, 6)]) ⟨⟨rfl, rfl⟩, trivial⟩) (DAll.op' (sp_move rfl rfl) trivial rfl (From.ok (ps := []) trivial) (DAll.op' (sp_assign rfl rfl) trivial rfl (From.ok (ps := []) trivial) (DAll.op' (sp_assign rfl rfl) trivial rfl (From.ok (ps := []) trivial) (DAll.op' (sp_assign rfl rfl) trivial rfl (From.ok (ps := []) trivial) (.nil)))))))
        refine op0 (sp_assign rfl rfl) rfl trivial rfl rfl ?_
        refine TL.nil ?_
        cases h
        exact retJ [] (.tmp rfl (.tmp rfl (.tmp rfl (.tmp rfl .nil)))) rfl trivial rfl rfl
      · have h := cond_f h h14
        refine TC.skip ?_
        refine TC.seq ?_
        obtain ⟨h15, h⟩ := chk_inv h
        refine drawJ 8 [⟨.ptr 9 13, [], [.blk 9 [.ref 13, .ref 14, .ref 15, vi r36.2.2.2.2.1, vi r36.2.2.2.2.2.1, .val (.int .u16 r36.2.2.2.2.2.2.1), vi r36.2.2.2.2.2.2.2.1, vi r36.2.2.2.2.2.2.2.2.1, vi r36.2.2.2.2.2.2.2.2.2.1, vi r36.2.2.2.2.2.2.2.2.2.2.1, vi r36.2.2.2.2.2.2.2.2.2.2.2.1, vi r36.2.2.2.2.2.2.2.2.2.2.2.2.1, vi r36.2.2.2.2.2.2.2.2.2.2.2.2.2.1, vi r36.2.2.2.2.2.2.2.2.2.2.2.2.2.2] 100], []⟩, ⟨vi r36.2.2.2.2.2.2.2.2.2.2.2.2.2.2, [], [.blk 9 [.ref 13, .ref 14, .ref 15, vi r36.2.2.2.2.1, vi r36.2.2.2.2.2.1, .val (.int .u16 r36.2.2.2.2.2.2.1), vi r36.2.2.2.2.2.2.2.1, vi r36.2.2.2.2.2.2.2.2.1, vi r36.2.2.2.2.2.2.2.2.2.1, vi r36.2.2.2.2.2.2.2.2.2.2.1, vi r36.2.2.2.2.2.2.2.2.2.2.2.1, vi r36.2.2.2.2.2.2.2.2.2.2.2.2.1, vi r36.2.2.2.2.2.2.2.2.2.2.2.2.2.1, vi r36.2.2.2.2.2.2.2.2.2.2.2.2.2.2] 100], []⟩, ⟨.ptr 9 13, [], [.blk 9 [.ref 13, .ref 14, .ref 15, vi r36.2.2.2.2.1, vi r36.2.2.2.2.2.1, .val (.int .u16 r36.2.2.2.2.2.2.1), vi r36.2.2.2.2.2.2.2.1, vi r36.2.2.2.2.2.2.2.2.1, vi r36.2.2.2.2.2.2.2.2.2.1, vi r36.2.2.2.2.2.2.2.2.2.2.1, vi r36.2.2.2.2.2.2.2.2.2.2.2.1, vi r36.2.2.2.2.2.2.2.2.2.2.2.2.1, vi r36.2.2.2.2.2.2.2.2.2.2.2.2.2.1, vi r36.2.2.2.2.2.2.2.2.2.2.2.2.2.2] 100], []⟩, ⟨vi r36.2.2.2.2.2.2.2.2.2.2.2.2.2.2, [], [.blk 9 [.ref 13, .ref 14, .ref 15, vi r36.2.2.2.2.1, vi r36.2.2.2.2.2.1, .val (.int .u16 r36.2.2.2.2.2.2.1), vi r36.2.2.2.2.2.2.2.1, vi r36.2.2.2.2.2.2.2.2.1, vi r36.2.2.2.2.2.2.2.2.2.1, vi r36.2.2.2.2.2.2.2.2.2.2.1, vi r36.2.2.2.2.2.2.2.2.2.2.2.1, vi r36.2.2.2.2.2.2.2.2.2.2.2.2.1, vi r36.2.2.2.2.2.2.2.2.2.2.2.2.2.1, vi r36.2.2.2.2.2.2.2.2.2.2.2.2.2.2] 100], []⟩, ⟨.ptr 4 4, [], [.blk 4 [.ref 0, .ref 1, .ref 2, vi i12, vi i13] 26], []⟩, ⟨vi i13, [], [.blk 4 [.ref 0, .ref 1, .ref 2, vi i12, vi i13] 26], []⟩, ⟨vi (r36.2.2.2.2.2.2.2.2.2.2.2.2.2.2 * i13), [], [], []⟩, ⟨vi r36.2.2.2.2.2.2.2.2.2.2.2.2.2.2, [], [], []⟩] rfl ?_ rfl ?_ rfl ?_ ?_
        · kernel_rfl
        · kernel_rfl
        · exact DAll.op' (sp_fieldAddrB rfl isBlk rfl ft100_6 vt3 (by decide)) trivial rfl (From.ok (ps := [(none, 3)]) ⟨⟨rfl, rfl⟩, trivial⟩) (DAll.op' (sp_loadB rfl isBlk rfl vt3 rfl) trivial rfl (From.ok (ps := [(none, 3)]) ⟨⟨rfl, rfl⟩, trivial⟩) (DAll.op' (sp_fieldAddrB rfl isBlk rfl ft100_6 vt3 (by decide)) trivial rfl (From.ok (ps := [(none, 3)]) ⟨⟨rfl, rfl⟩, trivial⟩) (DAll.op' (sp_loadB rfl isBlk rfl vt3 rfl) trivial rfl (From.ok (ps := [(none, 3)]) ⟨⟨rfl, rfl⟩, trivial⟩) (DAll.op' (sp_fieldAddrB rfl isBlk rfl ft26_4 vt3 (by decide)) trivial rfl (From.ok (ps := [(none, 4)]) ⟨⟨rfl, rfl⟩, trivial⟩) (DAll.op' (sp_loadB rfl isBlk rfl vt3 rfl) trivial rfl (From.ok (ps := [(none, 4)]) ⟨⟨rfl, rfl⟩, trivial⟩) (DAll.op' (sp_mul rfl rfl rfl h15) trivial rfl (From.ok (ps := []) trivial) (DAll.op' (sp_assign rfl rfl) trivial rfl (From.ok (ps := []) trivial) (.nil))))))))
        refine op0 (sp_assign rfl rfl) rfl trivial rfl rfl ?_
        refine op0 (sp_assign rfl rfl) rfl trivial rfl rfl ?_
        refine op0 (sp_assign rfl rfl) rfl trivial rfl rfl ?_
        refine TL.nil ?_
        cases h
        exact retJ [] (.tmp rfl (.tmp rfl (.tmp rfl (.tmp rfl .nil)))) rfl trivial rfl rfl
def ev_round_Walk (n : Nat) (rr1 : List (Int × Int × Int × Int × Int)) (rr2 : List ((List Int))) (rr3 : List (Int × Int × Int × Int)) (rr4 : Int) (rr5 : Int) (t6 : Int) (t7 : List Int) : Option (Int × Int × Int × Int) :=
  (ev_round_Check n rr1 rr2 rr3 rr4 rr5).bind fun r8 => cond (r8 != 0) (some (0, 0, 0, r8)) ((ev_round_isNumber n rr1 rr2 rr3 rr4 rr5 t6).bind fun r9 => cond (!r9) (some (0, 0, 0, 7)) (cond (decide ((40 : Int) < (t7.length : Int))) (some (0, 0, 0, 5)) ((ev_round_start n rr1 rr2 rr3 rr4 rr5 t6).bind fun r10 => ev_round_Walk_l0 n t7 n 0 rr4 rr5 t6 r10.2.2.2.1 r10.2.2.2.2.1 r10.2.2.2.2.2.1 r10.2.2.2.2.2.2.1 r10.2.2.2.2.2.2.2.1 r10.2.2.2.2.2.2.2.2.1 r10.2.2.2.2.2.2.2.2.2.1 r10.2.2.2.2.2.2.2.2.2.2.1 r10.2.2.2.2.2.2.2.2.2.2.2.1 r10.2.2.2.2.2.2.2.2.2.2.2.2.1 r10.2.2.2.2.2.2.2.2.2.2.2.2.2 t7 rr1 rr2 rr3 r10.1 r10.2.1 r10.2.2.1)))
theorem fc_round_Walk {n : Nat} {rr1 : List (Int × Int × Int × Int × Int)} {rr2 : List ((List Int))} {rr3 : List (Int × Int × Int × Int)} {rr4 : Int} {rr5 : Int} {t6 : Int} {t7 : List Int} {r : Int × Int × Int × Int} (h : ev_round_Walk n rr1 rr2 rr3 rr4 rr5 t6 t7 = some r) : FC Try.prog 24 [.agg [.ref 0, .ref 1, .ref 2, vi rr4, vi rr5], .agg [vi t6, .ref 3]] [.ro 0 5 (List.map en_api_RoundTower rr1), .ro 1 1 (List.map en_Lint rr2), .ro 2 4 (List.map en_api_RoundWinder rr3), .ro 3 1 (List.map en_int t7)] (.tup [vi r.1, vi r.2.1, vi r.2.2.1, vi r.2.2.2]) [] := by
  refine introJ (nz := 64) Try.func24 rfl rfl rfl (fun w0 R0 env0 => ?_)
  rw [ev_round_Walk] at h
  refine TC.seq ?_
  refine TC.region ?_
  refine op0 (sp_box 4 rfl rfl rfl rfl rfl) rfl trivial rfl rfl ?_
  refine op0 (sp_box 5 rfl rfl rfl rfl rfl) rfl trivial rfl rfl ?_
  refine op0 (sp_assign rfl rfl) rfl trivial rfl rfl ?_
  refine op0 (sp_assign rfl rfl) rfl trivial rfl rfl ?_
  refine op0 (sp_assign rfl rfl) rfl trivial rfl rfl ?_
  refine op0 (sp_assign rfl rfl) rfl trivial rfl rfl ?_
  refine TL.nil ?_
  refine TC.seq ?_
  refine TC.seq ?_
  refine TC.region ?_
  refine op1 1 rfl (sp_loadBA rfl isBlk rfl vt26 rfl rfl) rfl trivial rfl rfl ?_
  obtain ⟨r8, h1, h⟩ := bind_inv h
  refine opN (need := [.ro 0 5 (List.map en_api_RoundTower rr1), .ro 1 1 (List.map en_Lint rr2), .ro 2 4 (List.map en_api_RoundWinder rr3)]) [2, 3, 4] ⟨rfl, rfl, rfl, trivial⟩ (sp_call (avs := [.agg [.ref 0, .ref 1, .ref 2, vi rr4, vi rr5]]) (need := [.ro 0 5 (List.map en_api_RoundTower rr1), .ro 1 1 (List.map en_Lint rr2), .ro 2 4 (List.map en_api_RoundWinder rr3)]) (v := vi r8) (news := []) rfl rfl rfl Try.call33 (atJ [] [] (fc_round_Check h1) rfl rfl) (.inl (roAll rfl))) rfl trivial rfl rfl ?_
  refine op0 (sp_assign rfl rfl) rfl trivial rfl rfl ?_
  refine TL.nil ?_
  refine TC.block ?_
  refine TC.seq ?_
  refine TC.region ?_
  refine op0 (sp_move rfl rfl) rfl trivial rfl rfl ?_
  refine op0 (sp_neq rfl rfl rfl) rfl trivial rfl rfl ?_
  refine op0 (sp_assign rfl rfl) rfl trivial rfl rfl ?_
  refine TL.nil ?_
  refine TC.cond (b := (r8 != 0)) rfl (fun h2 => ?_) (fun h2 => ?_)
  · have h := cond_t h h2
    refine TC.seq ?_
    refine TC.region ?_
    refine op0 (sp_move rfl rfl) rfl trivial rfl rfl ?_
    refine op0 (sp_assign rfl rfl) rfl trivial rfl rfl ?_
    refine op0 (sp_assign rfl rfl) rfl trivial rfl rfl ?_
    refine op0 (sp_assign rfl rfl) rfl trivial rfl rfl ?_
    refine op0 (sp_assign rfl rfl) rfl trivial rfl rfl ?_
    refine TL.nil ?_
    cases h
    exact retJ [] (.tmp rfl (.tmp rfl (.tmp rfl (.tmp rfl .nil)))) rfl trivial rfl rfl
  · have h := cond_f h h2
    refine TC.seq ?_
    refine TC.region ?_
    refine op1 1 rfl (sp_loadBA rfl isBlk rfl vt26 rfl rfl) rfl trivial rfl rfl ?_
    refine op1 0 rfl (sp_fieldAddrB rfl isBlk rfl ft65_0 vt3 (by decide)) rfl trivial rfl rfl ?_
    refine op1 0 rfl (sp_loadB rfl isBlk rfl vt3 rfl) rfl trivial rfl rfl ?_
    obtain ⟨r9, h3, h⟩ := bind_inv h
    refine opN (need := [.ro 0 5 (List.map en_api_RoundTower rr1), .ro 1 1 (List.map en_Lint rr2), .ro 2 4 (List.map en_api_RoundWinder rr3)]) [2, 3, 4] ⟨rfl, rfl, rfl, trivial⟩ (sp_call (avs := [.agg [.ref 0, .ref 1, .ref 2, vi rr4, vi rr5], vi t6]) (need := [.ro 0 5 (List.map en_api_RoundTower rr1), .ro 1 1 (List.map en_Lint rr2), .ro 2 4 (List.map en_api_RoundWinder rr3)]) (v := .val (.bool r9)) (news := []) rfl rfl rfl Try.call34 (atJ [] [] (fc_round_isNumber h3) rfl rfl) (.inl (roAll rfl))) rfl trivial rfl rfl ?_
    refine op0 (sp_not rfl rfl) rfl trivial rfl rfl ?_
    refine op0 (sp_assign rfl rfl) rfl trivial rfl rfl ?_
    refine TL.nil ?_
    refine TC.cond (b := (!r9)) rfl (fun h4 => ?_) (fun h4 => ?_)
    · have h := cond_t h h4
      refine TC.seq ?_
      refine TC.region ?_
      refine op0 (sp_assign rfl rfl) rfl trivial rfl rfl ?_
      refine op0 (sp_assign rfl rfl) rfl trivial rfl rfl ?_
      refine op0 (sp_assign rfl rfl) rfl trivial rfl rfl ?_
      refine op0 (sp_assign rfl rfl) rfl trivial rfl rfl ?_
      refine TL.nil ?_
      cases h
      exact retJ [] (.tmp rfl (.tmp rfl (.tmp rfl (.tmp rfl .nil)))) rfl trivial rfl rfl
    · have h := cond_f h h4
      refine TC.seq ?_
      refine TC.region ?_
      refine op1 0 rfl (sp_fieldAddrB rfl isBlk rfl ft65_1 vt30 (by decide)) rfl trivial rfl rfl ?_
      refine op1 0 rfl (sp_loadB rfl isBlk rfl vt30 rfl) rfl trivial rfl rfl ?_
      refine op1 5 rfl (sp_lenM (N := t7.length) (len_map _ _) rfl rfl isRo Try.underlying30) rfl trivial rfl rfl ?_
      refine op0 (sp_gtr rfl rfl rfl) rfl trivial rfl rfl ?_
      refine op0 (sp_assign rfl rfl) rfl trivial rfl rfl ?_
      refine TL.nil ?_
      refine TC.cond (b := (decide ((40 : Int) < (t7.length : Int)))) rfl (fun h5 => ?_) (fun h5 => ?_)
      · have h := cond_t h h5
        refine TC.seq ?_
        refine TC.region ?_
        refine op0 (sp_assign rfl rfl) rfl trivial rfl rfl ?_
        refine op0 (sp_assign rfl rfl) rfl trivial rfl rfl ?_
        refine op0 (sp_assign rfl rfl) rfl trivial rfl rfl ?_
        refine op0 (sp_assign rfl rfl) rfl trivial rfl rfl ?_
        refine TL.nil ?_
        cases h
        exact retJ [] (.tmp rfl (.tmp rfl (.tmp rfl (.tmp rfl .nil)))) rfl trivial rfl rfl
      · have h := cond_f h h5
        refine TC.skip ?_
        refine TC.inBlock ?_
        refine TC.seq ?_
        refine TC.region ?_
        refine op1 1 rfl (sp_loadBA rfl isBlk rfl vt26 rfl rfl) rfl trivial rfl rfl ?_
        refine op1 0 rfl (sp_fieldAddrB rfl isBlk rfl ft65_0 vt3 (by decide)) rfl trivial rfl rfl ?_
        refine op1 0 rfl (sp_loadB rfl isBlk rfl vt3 rfl) rfl trivial rfl rfl ?_
        obtain ⟨r10, h6, h⟩ := bind_inv h
        refine opN (need := [.ro 0 5 (List.map en_api_RoundTower rr1), .ro 1 1 (List.map en_Lint rr2), .ro 2 4 (List.map en_api_RoundWinder rr3)]) [2, 3, 4] ⟨rfl, rfl, rfl, trivial⟩ (sp_call (avs := [.agg [.ref 0, .ref 1, .ref 2, vi rr4, vi rr5], vi t6]) (need := [.ro 0 5 (List.map en_api_RoundTower rr1), .ro 1 1 (List.map en_Lint rr2), .ro 2 4 (List.map en_api_RoundWinder rr3)]) (v := .agg [.ref 6, .ref 7, .ref 8, vi r10.2.2.2.1, vi r10.2.2.2.2.1, .val (.int .u16 r10.2.2.2.2.2.1), vi r10.2.2.2.2.2.2.1, vi r10.2.2.2.2.2.2.2.1, vi r10.2.2.2.2.2.2.2.2.1, vi r10.2.2.2.2.2.2.2.2.2.1, vi r10.2.2.2.2.2.2.2.2.2.2.1, vi r10.2.2.2.2.2.2.2.2.2.2.2.1, vi r10.2.2.2.2.2.2.2.2.2.2.2.2.1, vi r10.2.2.2.2.2.2.2.2.2.2.2.2.2]) (news := [.ro 6 5 (List.map en_api_RoundTower r10.1), .ro 7 1 (List.map en_Lint r10.2.1), .ro 8 4 (List.map en_api_RoundWinder r10.2.2.1)]) rfl rfl rfl Try.call37 (atJ [] [(0, 6), (1, 7), (2, 8)] (fc_round_start h6) rfl rfl) (.inl (roAll rfl))) rfl trivial rfl rfl ?_
        refine op0 (sp_alloc 9 rfl Try.zeroValue100 rfl) rfl trivial rfl rfl ?_
        refine stoB 0 (cells' := [.ref 6, .ref 7, .ref 8, vi r10.2.2.2.1, vi r10.2.2.2.2.1, .val (.int .u16 r10.2.2.2.2.2.1), vi r10.2.2.2.2.2.2.1, vi r10.2.2.2.2.2.2.2.1, vi r10.2.2.2.2.2.2.2.2.1, vi r10.2.2.2.2.2.2.2.2.2.1, vi r10.2.2.2.2.2.2.2.2.2.2.1, vi r10.2.2.2.2.2.2.2.2.2.2.2.1, vi r10.2.2.2.2.2.2.2.2.2.2.2.2.1, vi r10.2.2.2.2.2.2.2.2.2.2.2.2.2]) rfl rfl trivial rfl rfl rfl rfl vt100 rfl rfl rfl ?_
        refine TL.nil ?_
        refine TC.seq ?_
        refine TC.seq ?_
        refine TC.region ?_
        refine op1 4 rfl (sp_fieldAddrB rfl isBlk rfl ft65_1 vt30 (by decide)) rfl trivial rfl rfl ?_
        refine op1 4 rfl (sp_loadB rfl isBlk rfl vt30 rfl) rfl trivial rfl rfl ?_
        refine op1 9 rfl (sp_lenM (N := t7.length) (len_map _ _) rfl rfl isRo Try.underlying30) rfl trivial rfl rfl ?_
        refine op0 (sp_move rfl rfl) rfl trivial rfl rfl ?_
        refine TL.nil ?_
        refine TC.block ?_
        refine TC.loop ?_
        refine TC.seq ?_
        refine subJ [] (ok_round_Walk_l0 _ _ _ _ _ _ _ _ _ _ _ _ _ _ _ _ _ _ _ _ _ _ _ h) ?_ ?_ ?_
        · exact ⟨rfl, rfl, rfl, rfl, rfl, rfl, trivial⟩
        · exact ⟨mem_at 5 rfl, mem_at 4 rfl, mem_at 0 rfl, mem_at 9 rfl, mem_at 6 rfl, mem_at 7 rfl, mem_at 8 rfl, mem_at 1 rfl, mem_at 2 rfl, mem_at 3 rfl, trivial⟩
        · rfl
def ev_round_checkTowers_l0 (n : Nat) (l6 : List Int) : Nat → Int → Int → Option (Int × Int)
  | 0, _, _ => none
  | m + 1, i9, i10 => cond (decide (i10 < (l6.length : Int))) (idx l6 i10 fun x11 => (ev_round_set_has n i9 x11).bind fun r12 => cond r12 (some (0, 6)) ((ev_round_set_with n i9 x11).bind fun r13 => chk (in64 (i10 + 1)) <| ev_round_checkTowers_l0 n l6 m r13 (i10 + 1))) (some (i9, 0))
theorem ok_round_checkTowers_l0 {n : Nat} {w0 : World} {R0 : Nat → Prop} {env0 : Env} {r : Int × Int} {l6 : List Int} : ∀ (m : Nat) (i9 : Int) (i10 : Int), ev_round_checkTowers_l0 n l6 m i9 i10 = some r → TC Try.prog ⟨w0, fun _ => False, R0⟩ 32 (bodyPost Try.prog Try.f35 (Post ⟨w0, fun _ => False, R0⟩ env0 (.tup [vi r.1, vi r.2]) [])) [.code (sub (bodyOf Try.f35) [1, 1, 1, 0, 1, 0, 0, 0]), .code (sub (bodyOf Try.f35) [1, 1, 1, 0, 1, 0, 0, 1]), .inLoop (sub (bodyOf Try.f35) [1, 1, 1, 0, 1, 0, 0]), .inBlock 0, .code (sub (bodyOf Try.f35) [1, 1, 1, 1])] ([(4, vi i9), (18, .ref 3), (19, vi (l6.length : Int)), (20, vi i10)]) ([.ro 3 1 (List.map en_int l6)]) := by
  intro m
  induction m with
  | zero => intro i9 i10 h; exact none_no h
  | succ m ih =>
    intro i9 i10 h
    rw [ev_round_checkTowers_l0] at h
    refine TC.region ?_
    refine op0 (sp_lss rfl rfl rfl) rfl trivial rfl rfl ?_
    refine TL.nil ?_
    refine TC.seq ?_
    refine TC.cond (b := (decide (i10 < (l6.length : Int)))) rfl (fun h5 => ?_) (fun h5 => ?_)
    · have h := cond_t h h5
      refine TC.skip ?_
      refine TC.seq ?_
      refine TC.block ?_
      refine TC.seq ?_
      refine TC.region ?_
      obtain ⟨x11, h6, h7, h⟩ := idx_inv h
      refine op1 0 rfl (sp_indexS rfl rfl rfl isRo sl30 h6 (map_get _ h7)) rfl trivial rfl rfl ?_
      refine op1 0 rfl (sp_loadR (i := (i10 : Int).toNat) (j := 0) rfl rfl isRo vt3 rfl (map_get _ h7) rfl (.v (.nil)) (nodup_of_B rfl)) rfl trivial rfl rfl ?_
      refine op0 (sp_assign rfl rfl) rfl trivial rfl rfl ?_
      refine TL.nil ?_
      refine TC.seq ?_
      refine TC.seq ?_
      refine TC.region ?_
      refine op0 (sp_move rfl rfl) rfl trivial rfl rfl ?_
      refine op0 (sp_move rfl rfl) rfl trivial rfl rfl ?_
      obtain ⟨r12, h8, h⟩ := bind_inv h
      refine op0 (sp_call (avs := [vi i9, vi x11]) (need := []) (v := .val (.bool r12)) (news := []) rfl rfl rfl Try.call55 (atJ [] [] (fc_round_set_has h8) rfl rfl) (.inl (roAll rfl))) rfl trivial rfl rfl ?_
      refine TL.nil ?_
      refine TC.cond (b := r12) rfl (fun h9 => ?_) (fun h9 => ?_)
      · have h := cond_t h h9
        refine TC.seq ?_
        refine TC.region ?_
        refine op0 (sp_assign rfl rfl) rfl trivial rfl rfl ?_
        refine op0 (sp_assign rfl rfl) rfl trivial rfl rfl ?_
        refine TL.nil ?_
        cases h
        exact retJ [] (.tmp rfl (.tmp rfl .nil)) rfl trivial rfl rfl
      · have h := cond_f h h9
        refine TC.skip ?_
        refine TC.region ?_
        refine op0 (sp_move rfl rfl) rfl trivial rfl rfl ?_
        refine op0 (sp_move rfl rfl) rfl trivial rfl rfl ?_
        obtain ⟨r13, h10, h⟩ := bind_inv h
        refine op0 (sp_call (avs := [vi i9, vi x11]) (need := []) (v := vi r13) (news := []) rfl rfl rfl Try.call56 (atJ [] [] (fc_round_set_with h10) rfl rfl) (.inl (roAll rfl))) rfl trivial rfl rfl ?_
        refine op0 (sp_assign rfl rfl) rfl trivial rfl rfl ?_
        refine TL.nil ?_
        refine TC.inBlock ?_
        refine TC.region ?_
        obtain ⟨h11, h⟩ := chk_inv h
        refine op0 (sp_add rfl rfl rfl h11) rfl trivial rfl rfl ?_
        refine op0 (sp_move rfl rfl) rfl trivial rfl rfl ?_
        refine TL.nil ?_
        refine TC.inLoop ?_
        refine TC.seq ?_
        refine subJ [] (ih _ _ h) ?_ ?_ ?_
        · exact ⟨rfl, rfl, rfl, rfl, trivial⟩
        · exact ⟨mem_at 0 rfl, trivial⟩
        · rfl
    · have h := cond_f h h5
      refine TC.exit rfl ?_
      refine TC.seq ?_
      refine TC.region ?_
      refine op0 (sp_move rfl rfl) rfl trivial rfl rfl ?_
      refine op0 (sp_assign rfl rfl) rfl trivial rfl rfl ?_
      refine op0 (sp_assign rfl rfl) rfl trivial rfl rfl ?_
      refine TL.nil ?_
      cases h
      exact retJ [] (.tmp rfl (.tmp rfl .nil)) rfl trivial rfl rfl
def ev_round_checkTowers (n : Nat) (rr1 : List (Int × Int × Int × Int × Int)) (rr2 : List ((List Int))) (rr3 : List (Int × Int × Int × Int)) (rr4 : Int) (rr5 : Int) (l6 : List Int) : Option (Int × Int) :=
  cond (decide ((5 : Int) < (l6.length : Int))) (some (0, 5)) (chk (in64 ((rr1.length : Int) - 1)) <| (ev_round_within n 0 ((rr1.length : Int) - 1) l6).bind fun r7 => cond (!r7) (some (0, 2)) (ev_round_checkTowers_l0 n l6 n 0 0))
theorem fc_round_checkTowers {n : Nat} {rr1 : List (Int × Int × Int × Int × Int)} {rr2 : List ((List Int))} {rr3 : List (Int × Int × Int × Int)} {rr4 : Int} {rr5 : Int} {l6 : List Int} {r : Int × Int} (h : ev_round_checkTowers n rr1 rr2 rr3 rr4 rr5 l6 = some r) : FC Try.prog 35 [.agg [.ref 0, .ref 1, .ref 2, vi rr4, vi rr5], .ref 3] [.ro 0 5 (List.map en_api_RoundTower rr1), .ro 1 1 (List.map en_Lint rr2), .ro 2 4 (List.map en_api_RoundWinder rr3), .ro 3 1 (List.map en_int l6)] (.tup [vi r.1, vi r.2]) [] := by
  refine introJ (nz := 32) Try.func35 rfl rfl rfl (fun w0 R0 env0 => ?_)
  rw [ev_round_checkTowers] at h
  refine TC.seq ?_
  refine TC.region ?_
  refine op0 (sp_box 4 rfl rfl rfl rfl rfl) rfl trivial rfl rfl ?_
  refine op0 (sp_assign rfl rfl) rfl trivial rfl rfl ?_
  refine op0 (sp_assign rfl rfl) rfl trivial rfl rfl ?_
  refine TL.nil ?_
  refine TC.seq ?_
  refine TC.seq ?_
  refine TC.region ?_
  refine op0 (sp_move rfl rfl) rfl trivial rfl rfl ?_
  refine op1 4 rfl (sp_lenM (N := l6.length) (len_map _ _) rfl rfl isRo Try.underlying30) rfl trivial rfl rfl ?_
  refine op0 (sp_gtr rfl rfl rfl) rfl trivial rfl rfl ?_
  refine TL.nil ?_
  refine TC.cond (b := (decide ((5 : Int) < (l6.length : Int)))) rfl (fun h1 => ?_) (fun h1 => ?_)
  · have h := cond_t h h1
    refine TC.seq ?_
    refine TC.region ?_
    refine op0 (sp_assign rfl rfl) rfl trivial rfl rfl ?_
    refine op0 (sp_assign rfl rfl) rfl trivial rfl rfl ?_
    refine TL.nil ?_
    cases h
    exact retJ [] (.tmp rfl (.tmp rfl .nil)) rfl trivial rfl rfl
  · have h := cond_f h h1
    refine TC.skip ?_
    refine TC.seq ?_
    refine TC.seq ?_
    refine TC.region ?_
    refine op1 0 rfl (sp_fieldAddrB rfl isBlk rfl ft26_0 vt22 (by decide)) rfl trivial rfl rfl ?_
    refine op1 0 rfl (sp_loadB rfl isBlk rfl vt22 rfl) rfl trivial rfl rfl ?_
    refine op1 1 rfl (sp_lenM (N := rr1.length) (len_map _ _) rfl rfl isRo Try.underlying22) rfl trivial rfl rfl ?_
    obtain ⟨h2, h⟩ := chk_inv h
    refine op0 (sp_sub rfl rfl rfl h2) rfl trivial rfl rfl ?_
    refine op0 (sp_move rfl rfl) rfl trivial rfl rfl ?_
    obtain ⟨r7, h3, h⟩ := bind_inv h
    refine op1 4 rfl (sp_call (avs := [vi 0, vi ((rr1.length : Int) - 1), .ref 3]) (need := [.ro 3 1 (List.map en_int l6)]) (v := .val (.bool r7)) (news := []) rfl rfl rfl Try.call48 (atJ [(0, 3)] [] (fc_round_within h3) rfl rfl) (.inl (roAll rfl))) rfl trivial rfl rfl ?_
    refine op0 (sp_not rfl rfl) rfl trivial rfl rfl ?_
    refine TL.nil ?_
    refine TC.cond (b := (!r7)) rfl (fun h4 => ?_) (fun h4 => ?_)
    · have h := cond_t h h4
      refine TC.seq ?_
      refine TC.region ?_
      refine op0 (sp_assign rfl rfl) rfl trivial rfl rfl ?_
      refine op0 (sp_assign rfl rfl) rfl trivial rfl rfl ?_
      refine TL.nil ?_
      cases h
      exact retJ [] (.tmp rfl (.tmp rfl .nil)) rfl trivial rfl rfl
    · have h := cond_f h h4
      refine TC.skip ?_
      refine TC.seq ?_
      refine TC.seq ?_
      refine TC.region ?_
      refine op0 (sp_move rfl rfl) rfl trivial rfl rfl ?_
      refine op1 4 rfl (sp_lenM (N := l6.length) (len_map _ _) rfl rfl isRo Try.underlying30) rfl trivial rfl rfl ?_
      refine op0 (sp_move rfl rfl) rfl trivial rfl rfl ?_
      refine TL.nil ?_
      refine TC.block ?_
      refine TC.loop ?_
      refine TC.seq ?_
      refine subJ [] (ok_round_checkTowers_l0 _ _ _ h) ?_ ?_ ?_
      · exact ⟨rfl, rfl, rfl, rfl, trivial⟩
      · exact ⟨mem_at 4 rfl, trivial⟩
      · rfl
end
end Go.Proofs.Ytohjpfkcahlfkaa.Sy
