/- What functions of the program compute, and that they do: printed by symgen.py. -/
import Derived.Test.YtmgcinejodpopaaGLib
set_option linter.unusedSimpArgs false
set_option linter.unusedVariables false
namespace Go.Proofs.Ytmgcinejodpopaa.Sy
open Go.RowKit
noncomputable section

/- book_within_1 -/
def ev_book_within_1 (n : Nat) (nn1 : Int) (c2 : Int) (c3 : Int) : Option Bool :=
  cond (decide (nn1 < c2)) (some true) (some (decide (c3 < nn1)))
set_option maxRecDepth 100000 in
set_option maxHeartbeats 2000000 in
theorem fc_book_within_1 {n : Nat} {nn1 : Int} {c2 : Int} {c3 : Int} {r : Bool} (h : ev_book_within_1 n nn1 c2 c3 = some r) : FC Try.prog 137 [.val (.int .i64 nn1), .ptr 0 0, .ptr 1 0] [.rob 0 [.val (.int .i64 c2)] 3, .rob 1 [.val (.int .i64 c3)] 3] (.val (.bool r)) [] := by
  refine introJ (nz := 13) Try.func137 rfl rfl rfl (fun w0 R0 env0 => ?_)
  rw [ev_book_within_1] at h
  refine TC.seq ?_
  refine TC.region ?_
  refine op0 (sp_assign rfl rfl) rfl trivial rfl rfl ?_
  refine TL.nil ?_
  refine TC.seq ?_
  refine TC.region ?_
  refine op0 (sp_move rfl rfl) rfl trivial rfl rfl ?_
  refine op1 0 rfl (sp_loadB rfl isRob rfl vt3 rfl) rfl trivial rfl rfl ?_
  refine op0 (sp_lss rfl rfl rfl) rfl trivial rfl rfl ?_
  refine op0 (sp_move rfl rfl) rfl trivial rfl rfl ?_
  rcases cond_cases h with ⟨h1, h⟩ | ⟨h1, h⟩
  · refine (boolLit 8 rfl h1).2 ?_
    refine opSkip rfl ⟨_, rfl, .inl rfl⟩ rfl ?_
    refine opSkip rfl ⟨_, rfl, .inl rfl⟩ rfl ?_
    refine opSkip rfl ⟨_, rfl, .inl rfl⟩ rfl ?_
    refine op0 (sp_pickT rfl rfl rfl) rfl trivial rfl rfl ?_
    refine op0 (sp_assign rfl rfl) rfl trivial rfl rfl ?_
    refine TL.nil ?_
    cases h
    exact retJ [] (.tmp rfl .nil) rfl trivial rfl rfl
  · refine (boolLit 8 rfl h1).2 ?_
    refine op0 (sp_move rfl rfl) rfl ⟨_, rfl, rfl⟩ rfl rfl ?_
    refine op1 1 rfl (sp_loadB rfl isRob rfl vt3 rfl) rfl ⟨_, rfl, rfl⟩ rfl rfl ?_
    refine op0 (sp_gtr rfl rfl rfl) rfl ⟨_, rfl, rfl⟩ rfl rfl ?_
    refine op0 (sp_pickF rfl rfl rfl) rfl trivial rfl rfl ?_
    refine op0 (sp_assign rfl rfl) rfl trivial rfl rfl ?_
    refine TL.nil ?_
    cases h
    exact retJ [] (.tmp rfl .nil) rfl trivial rfl rfl
/- book_within -/
def ev_book_within (n : Nat) (least1 : Int) (most2 : Int) (l3 : List Int) : Option Bool :=
  (ev_slices_ContainsFunc_Lint_int n l3 (fun a => ev_book_within_1 n a least1 most2)).bind fun r4 => some (!r4)
set_option maxRecDepth 100000 in
set_option maxHeartbeats 2000000 in
theorem fc_book_within {n : Nat} {least1 : Int} {most2 : Int} {l3 : List Int} {r : Bool} (h : ev_book_within n least1 most2 l3 = some r) : FC Try.prog 63 [.val (.int .i64 least1), .val (.int .i64 most2), .ref 0] [.ro 0 1 (List.map en_int l3)] (.val (.bool r)) [] := by
  refine introJ (nz := 11) Try.func63 rfl rfl rfl (fun w0 R0 env0 => ?_)
  rw [ev_book_within] at h
  refine TC.seq ?_
  refine TC.region ?_
  refine op0 (sp_box 1 rfl rfl rfl rfl rfl) rfl trivial rfl rfl ?_
  refine op0 (sp_box 2 rfl rfl rfl rfl rfl) rfl trivial rfl rfl ?_
  refine op0 (sp_assign rfl rfl) rfl trivial rfl rfl ?_
  refine TL.nil ?_
  refine TC.seq ?_
  refine TC.region ?_
  refine op0 (sp_move rfl rfl) rfl trivial rfl rfl ?_
  refine op0 (sp_makeFunc (fi := []) (ca := [.tmp 3, .tmp 4]) (fa := []) (cb := [.ptr 1 0, .ptr 2 0]) rfl rfl rfl) rfl trivial rfl rfl ?_
  obtain ⟨r4, h1, h⟩ := bind_inv h
  refine opN (need := [.ro 0 1 (List.map en_int l3), .blk 1 [.val (.int .i64 least1)] 3, .blk 2 [.val (.int .i64 most2)] 3]) [2, 1, 0] ⟨rfl, rfl, rfl, trivial⟩ (sp_call (avs := [.ref 0, .fn 137 [] [.ptr 1 0, .ptr 2 0]]) (need := [.ro 0 1 (List.map en_int l3), .blk 1 [.val (.int .i64 least1)] 3, .blk 2 [.val (.int .i64 most2)] 3]) (v := .val (.bool r4)) (news := []) rfl rfl rfl Try.call133 (FC.needJ (need := [.ro 0 1 (List.map en_int l3), .rob 1 [.val (.int .i64 least1)] 3, .rob 2 [.val (.int .i64 most2)] 3]) (need' := [.rob 1 [.val (.int .i64 least1)] 3, .rob 2 [.val (.int .i64 most2)] 3, .ro 0 1 (List.map en_int l3)]) [1, 2, 0] ⟨rfl, rfl, rfl, trivial⟩ (FC.fnArg (args := [.ref 0, .ref 3]) (needC := [.rob 1 [.val (.int .i64 least1)] 3, .rob 2 [.val (.int .i64 most2)] 3]) (need := [.ro 0 1 (List.map en_int l3)]) 1 (first := []) (caps := [.ptr 1 0, .ptr 2 0]) (FC.needJ (need := [.any 3 (D.fn Try.prog fe_funcint_bool fd_funcint_bool (fun a => ev_book_within_1 n a least1 most2)), .ro 0 1 (List.map en_int l3)]) (need' := [.ro 0 1 (List.map en_int l3), .any 3 (D.fn Try.prog fe_funcint_bool fd_funcint_bool (fun a => ev_book_within_1 n a least1 most2))]) [1, 0] ⟨rfl, rfl, trivial⟩ (atJ [(1, 3)] [] (fc_slices_ContainsFunc_Lint_int h1) rfl rfl)) rfl Try.call137 (fun a b hab => atJ [(0, 1), (1, 2)] [] (fc_book_within_1 hab) rfl rfl) rfl (fun _ => rfl) (fun _ => rfl) rfl rfl rfl rfl rfl rfl rfl)) (.inr (fun x hx => nomatch hx))) rfl trivial rfl rfl ?_
  refine op0 (sp_not rfl rfl) rfl trivial rfl rfl ?_
  refine op0 (sp_assign rfl rfl) rfl trivial rfl rfl ?_
  refine TL.nil ?_
  cases h
  exact retJ [] (.tmp rfl .nil) rfl trivial rfl rfl
/- book_isEntry -/
def ev_book_isEntry_j0 (n : Nat) (x1 : Int) (x3 : Int) (i4 : Int) (i5 : Int) : Option Bool :=
  (ev_book_within n 0 3155760000 ([x1] : List Int)).bind fun r6 => cond r6 ((ev_book_within n i4 i5 ([x3] : List Int)).bind fun r7 => some r7) (some false)
set_option maxRecDepth 100000 in
set_option maxHeartbeats 2000000 in
theorem ok_book_isEntry_j0 {n : Nat} {w0 : World} {R0 : Nat → Prop} {env0 : Env} {r : Bool} {x1 : Int} {x2 : Int} {x3 : Int} {i4 : Int} {i5 : Int} (h : ev_book_isEntry_j0 n x1 x3 i4 i5 = some r) : TC Try.prog ⟨w0, fun _ => False, R0⟩ 26 (bodyPost Try.prog Try.f230 (Post ⟨w0, fun _ => False, R0⟩ env0 (.val (.bool r)) [])) [.inBlock 0, .code (sub (bodyOf Try.f230) [1, 1, 1])] ([(1, .ptr 0 0), (3, .val (.int .i64 i4)), (4, .val (.int .i64 i5))]) ([.blk 0 [.val (.int .i64 x1), .val (.int .i64 x2), .val (.int .i64 x3)] 35]) := by
  rw [ev_book_isEntry_j0] at h
  refine TC.inBlock ?_
  refine TC.seq ?_
  refine TC.region ?_
  refine op1 0 rfl (sp_fieldAddrB rfl isBlk rfl ft35_0 vt3 (by decide)) rfl trivial rfl rfl ?_
  refine op1 0 rfl (sp_loadB rfl isBlk rfl vt3 rfl) rfl trivial rfl rfl ?_
  refine op0 (sp_buildSlice (qs := [.val (.int .i64 x1)]) (need := []) (els := List.map en_int ([x1] : List Int)) 1 rfl sl37 (by decide) (by decide) rfl rfl rfl (.v (.nil)) (map_len fun _ => rfl) rfl rfl rfl) rfl trivial rfl rfl ?_
  obtain ⟨r6, h2, h⟩ := bind_inv h
  refine op1 0 rfl (sp_call (avs := [.val (.int .i64 0), .val (.int .i64 3155760000), .ref 1]) (need := [.row 1 3 1 (List.map en_int ([x1] : List Int))]) (v := .val (.bool r6)) (news := []) rfl rfl rfl Try.call63 (atJ [(0, 1)] [] (fc_book_within h2) rfl rfl) (.inr (fun x hx => nomatch hx))) rfl trivial rfl rfl ?_
  refine op0 (sp_move rfl rfl) rfl trivial rfl rfl ?_
  rcases cond_cases h with ⟨h3, h⟩ | ⟨h3, h⟩
  · refine (boolLit 18 rfl h3).2 ?_
    refine op0 (sp_move rfl rfl) rfl ⟨_, rfl, rfl⟩ rfl rfl ?_
    refine op0 (sp_move rfl rfl) rfl ⟨_, rfl, rfl⟩ rfl rfl ?_
    refine op1 1 rfl (sp_fieldAddrB rfl isBlk rfl ft35_2 vt3 (by decide)) rfl ⟨_, rfl, rfl⟩ rfl rfl ?_
    refine op1 1 rfl (sp_loadB rfl isBlk rfl vt3 rfl) rfl ⟨_, rfl, rfl⟩ rfl rfl ?_
    refine op0 (sp_buildSlice (qs := [.val (.int .i64 x3)]) (need := []) (els := List.map en_int ([x3] : List Int)) 2 rfl sl37 (by decide) (by decide) rfl rfl rfl (.v (.nil)) (map_len fun _ => rfl) rfl rfl rfl) rfl ⟨_, rfl, rfl⟩ rfl rfl ?_
    obtain ⟨r7, h4, h⟩ := bind_inv h
    refine op1 0 rfl (sp_call (avs := [.val (.int .i64 i4), .val (.int .i64 i5), .ref 2]) (need := [.row 2 3 1 (List.map en_int ([x3] : List Int))]) (v := .val (.bool r7)) (news := []) rfl rfl rfl Try.call63 (atJ [(0, 2)] [] (fc_book_within h4) rfl rfl) (.inr (fun x hx => nomatch hx))) rfl ⟨_, rfl, rfl⟩ rfl rfl ?_
    refine op0 (sp_pickT rfl rfl rfl) rfl trivial rfl rfl ?_
    refine op0 (sp_assign rfl rfl) rfl trivial rfl rfl ?_
    refine TL.nil ?_
    cases h
    exact retJ [] (.tmp rfl .nil) rfl trivial rfl rfl
  · refine (boolLit 18 rfl h3).2 ?_
    refine opSkip rfl ⟨_, rfl, .inl rfl⟩ rfl ?_
    refine opSkip rfl ⟨_, rfl, .inl rfl⟩ rfl ?_
    refine opSkip rfl ⟨_, rfl, .inl rfl⟩ rfl ?_
    refine opSkip rfl ⟨_, rfl, .inl rfl⟩ rfl ?_
    refine opSkip rfl ⟨_, rfl, .inl rfl⟩ rfl ?_
    refine opSkip rfl ⟨_, rfl, .inl rfl⟩ rfl ?_
    refine op0 (sp_pickF rfl rfl rfl) rfl trivial rfl rfl ?_
    refine op0 (sp_assign rfl rfl) rfl trivial rfl rfl ?_
    refine TL.nil ?_
    cases h
    exact retJ [] (.tmp rfl .nil) rfl trivial rfl rfl
def ev_book_isEntry_j1 (n : Nat) (x1 : Int) (x3 : Int) (b8 : Bool) : Option Bool :=
  cond b8 (ev_book_isEntry_j0 n x1 x3 0 0) (some false)
set_option maxRecDepth 100000 in
set_option maxHeartbeats 2000000 in
theorem ok_book_isEntry_j1 {n : Nat} {w0 : World} {R0 : Nat → Prop} {env0 : Env} {r : Bool} {x1 : Int} {x2 : Int} {x3 : Int} {b8 : Bool} (h : ev_book_isEntry_j1 n x1 x3 b8 = some r) : TC Try.prog ⟨w0, fun _ => False, R0⟩ 26 (bodyPost Try.prog Try.f230 (Post ⟨w0, fun _ => False, R0⟩ env0 (.val (.bool r)) [])) [.code (sub (bodyOf Try.f230) [1, 1, 0, 1, 0, 1, 1, 1, 1, 1]), .inBlock 0, .code (sub (bodyOf Try.f230) [1, 1, 1])] ([(1, .ptr 0 0), (3, .val (.int .i64 0)), (4, .val (.int .i64 0)), (11, .val (.bool b8))]) ([.blk 0 [.val (.int .i64 x1), .val (.int .i64 x2), .val (.int .i64 x3)] 35]) := by
  rw [ev_book_isEntry_j1] at h
  refine TC.cond (b := b8) rfl (fun h7 => ?_) (fun h7 => ?_)
  · have h := cond_t h h7
    refine TC.skip ?_
    refine subJ [] (ok_book_isEntry_j0 (x2 := x2) h) ?_ ?_ ?_
    · exact ⟨rfl, rfl, rfl, trivial⟩
    · exact ⟨mem_at 0 rfl, trivial⟩
    · rfl
  · have h := cond_f h h7
    refine TC.seq ?_
    refine TC.region ?_
    refine op0 (sp_assign rfl rfl) rfl trivial rfl rfl ?_
    refine TL.nil ?_
    cases h
    exact retJ [] (.tmp rfl .nil) rfl trivial rfl rfl
def ev_book_isEntry (n : Nat) (x1 : Int) (x2 : Int) (x3 : Int) : Option Bool :=
  cond (x2 == 1) (ev_book_isEntry_j0 n x1 x3 0 43199) (cond (x2 == 2) (ev_book_isEntry_j0 n x1 x3 (-32768) 32767) (cond (x2 == 3) (ev_book_isEntry_j1 n x1 x3 (x2 == 3)) (ev_book_isEntry_j1 n x1 x3 (x2 == 4))))
set_option maxRecDepth 100000 in
set_option maxHeartbeats 2000000 in
theorem fc_book_isEntry {n : Nat} {x1 : Int} {x2 : Int} {x3 : Int} {r : Bool} (h : ev_book_isEntry n x1 x2 x3 = some r) : FC Try.prog 230 [.agg [.val (.int .i64 x1), .val (.int .i64 x2), .val (.int .i64 x3)]] [] (.val (.bool r)) [] := by
  refine introJ (nz := 26) Try.func230 rfl rfl rfl (fun w0 R0 env0 => ?_)
  rw [ev_book_isEntry] at h
  refine TC.seq ?_
  refine TC.region ?_
  refine op0 (sp_box 0 rfl rfl rfl rfl rfl) rfl trivial rfl rfl ?_
  refine op0 (sp_assign rfl rfl) rfl trivial rfl rfl ?_
  refine TL.nil ?_
  refine TC.seq ?_
  refine TC.region ?_
  refine op0 (sp_assign rfl rfl) rfl trivial rfl rfl ?_
  refine op0 (sp_assign rfl rfl) rfl trivial rfl rfl ?_
  refine TL.nil ?_
  refine TC.seq ?_
  refine TC.seq ?_
  refine TC.region ?_
  refine op1 0 rfl (sp_fieldAddrB rfl isBlk rfl ft35_1 vt33 (by decide)) rfl trivial rfl rfl ?_
  refine op1 0 rfl (sp_loadB rfl isBlk rfl vt33 rfl) rfl trivial rfl rfl ?_
  refine TL.nil ?_
  refine TC.block ?_
  refine TC.seq ?_
  refine TC.region ?_
  refine op0 (sp_eql rfl rfl rfl) rfl trivial rfl rfl ?_
  refine op0 (sp_assign rfl rfl) rfl trivial rfl rfl ?_
  refine TL.nil ?_
  refine TC.cond (b := (x2 == 1)) rfl (fun h1 => ?_) (fun h1 => ?_)
  · have h := cond_t h h1
    refine TC.region ?_
    refine op0 (sp_assign rfl rfl) rfl trivial rfl rfl ?_
    refine TL.nil ?_
    refine subJ [] (ok_book_isEntry_j0 (x2 := x2) h) ?_ ?_ ?_
    · exact ⟨rfl, rfl, rfl, trivial⟩
    · exact ⟨mem_at 0 rfl, trivial⟩
    · rfl
  · have h := cond_f h h1
    refine TC.seq ?_
    refine TC.region ?_
    refine op0 (sp_eql rfl rfl rfl) rfl trivial rfl rfl ?_
    refine op0 (sp_assign rfl rfl) rfl trivial rfl rfl ?_
    refine TL.nil ?_
    refine TC.cond (b := (x2 == 2)) rfl (fun h5 => ?_) (fun h5 => ?_)
    · have h := cond_t h h5
      refine TC.region ?_
      refine op0 (sp_assign rfl rfl) rfl trivial rfl rfl ?_
      refine op0 (sp_assign rfl rfl) rfl trivial rfl rfl ?_
      refine TL.nil ?_
      refine subJ [] (ok_book_isEntry_j0 (x2 := x2) h) ?_ ?_ ?_
      · exact ⟨rfl, rfl, rfl, trivial⟩
      · exact ⟨mem_at 0 rfl, trivial⟩
      · rfl
    · have h := cond_f h h5
      refine TC.seq ?_
      refine TC.seq ?_
      refine TC.region ?_
      refine op0 (sp_eql rfl rfl rfl) rfl trivial rfl rfl ?_
      refine op0 (sp_assign rfl rfl) rfl trivial rfl rfl ?_
      refine TL.nil ?_
      refine TC.cond (b := (x2 == 3)) rfl (fun h6 => ?_) (fun h6 => ?_)
      · have h := cond_t h h6
        refine TC.skip ?_
        refine subJ [] (ok_book_isEntry_j1 (x2 := x2) h) ?_ ?_ ?_
        · exact ⟨rfl, rfl, rfl, rfl, trivial⟩
        · exact ⟨mem_at 0 rfl, trivial⟩
        · rfl
      · have h := cond_f h h6
        refine TC.region ?_
        refine op0 (sp_eql rfl rfl rfl) rfl trivial rfl rfl ?_
        refine op0 (sp_assign rfl rfl) rfl trivial rfl rfl ?_
        refine TL.nil ?_
        refine subJ [] (ok_book_isEntry_j1 (x2 := x2) h) ?_ ?_ ?_
        · exact ⟨rfl, rfl, rfl, rfl, trivial⟩
        · exact ⟨mem_at 0 rfl, trivial⟩
        · rfl
/- book_entries_next -/
def ev_book_entries_next (n : Nat) (l1 : List (Int × Int × Int)) (x2 : Int) (x3 : Int) (x4 : Int) : Option Int :=
  (ev_book_isEntry n x2 x3 x4).bind fun r5 => cond (!r5) (some 2) (cond (decide ((0 : Int) < (l1.length : Int))) (chk (in64 ((l1.length : Int) - 1)) <| idx l1 ((l1.length : Int) - 1) fun x6 => cond (decide (x2 ≤ x6.1)) (some 2) (some 0)) (some 0))
set_option maxRecDepth 100000 in
set_option maxHeartbeats 2000000 in
theorem fc_book_entries_next {n : Nat} {l1 : List (Int × Int × Int)} {x2 : Int} {x3 : Int} {x4 : Int} {r : Int} (h : ev_book_entries_next n l1 x2 x3 x4 = some r) : FC Try.prog 136 [.ref 0, .agg [.val (.int .i64 x2), .val (.int .i64 x3), .val (.int .i64 x4)]] [.ro 0 3 (List.map en_api_BookEntry l1)] (.val (.int .i64 r)) [] := by
  refine introJ (nz := 25) Try.func136 rfl rfl rfl (fun w0 R0 env0 => ?_)
  rw [ev_book_entries_next] at h
  refine TC.seq ?_
  refine TC.region ?_
  refine op0 (sp_box 1 rfl rfl rfl rfl rfl) rfl trivial rfl rfl ?_
  refine op0 (sp_assign rfl rfl) rfl trivial rfl rfl ?_
  refine TL.nil ?_
  refine TC.seq ?_
  refine TC.seq ?_
  obtain ⟨r5, h1, h⟩ := bind_inv h
  rcases cond_cases h with ⟨h2, h⟩ | ⟨h2, h⟩
  · refine drawJ 17 [⟨.agg [.val (.int .i64 x2), .val (.int .i64 x3), .val (.int .i64 x4)], [], [.blk 1 [.val (.int .i64 x2), .val (.int .i64 x3), .val (.int .i64 x4)] 35], []⟩, ⟨.val (.bool r5), [], [], []⟩, ⟨.val (.bool (!r5)), [], [], []⟩, ⟨.val (.bool true), [], [], []⟩, ⟨.val (undef), [], [], []⟩, ⟨.val (undef), [], [], []⟩, ⟨.val (undef), [], [], []⟩, ⟨.val (undef), [], [], []⟩, ⟨.val (undef), [], [], []⟩, ⟨.val (undef), [], [], []⟩, ⟨.val (undef), [], [], []⟩, ⟨.val (undef), [], [], []⟩, ⟨.val (undef), [], [], []⟩, ⟨.val (undef), [], [], []⟩, ⟨.val (undef), [], [], []⟩, ⟨.val (undef), [], [], []⟩, ⟨.val (undef), [], [], []⟩] rfl ?_ rfl ?_ rfl ?_ ?_
    · kernel_rfl
    · kernel_rfl
    · exact DAll.op' (sp_loadBA rfl isBlk rfl vt35 rfl rfl) trivial rfl (From.ok (ps := [(none, 0)]) ⟨⟨rfl, by kernel_rfl⟩, trivial⟩) (DAll.op' (sp_call (avs := [.agg [.val (.int .i64 x2), .val (.int .i64 x3), .val (.int .i64 x4)]]) (need := []) (v := .val (.bool r5)) (news := []) rfl rfl rfl Try.call230 (atJ [] [] (fc_book_isEntry h1) rfl rfl) (.inl (roAll rfl))) trivial rfl (From.ok (ps := []) trivial) (DAll.op' (sp_not rfl rfl) trivial rfl (From.ok (ps := []) trivial) (DAll.op' (sp_castB h2 (sp_move rfl rfl)) trivial rfl (From.ok (ps := []) trivial) (.skip ⟨_, rfl, .inl rfl⟩ rfl rfl rfl (.skip ⟨_, rfl, .inl rfl⟩ rfl rfl rfl (.skip ⟨_, rfl, .inl rfl⟩ rfl rfl rfl (.skip ⟨_, rfl, .inl rfl⟩ rfl rfl rfl (.skip ⟨_, rfl, .inr rfl⟩ rfl rfl rfl (.skip ⟨_, rfl, .inr rfl⟩ rfl rfl rfl (.skip ⟨_, rfl, .inr rfl⟩ rfl rfl rfl (.skip ⟨_, rfl, .inr rfl⟩ rfl rfl rfl (.skip ⟨_, rfl, .inr rfl⟩ rfl rfl rfl (.skip ⟨_, rfl, .inr rfl⟩ rfl rfl rfl (.skip ⟨_, rfl, .inr rfl⟩ rfl rfl rfl (.skip ⟨_, rfl, .inr rfl⟩ rfl rfl rfl (.skip ⟨_, rfl, .inr rfl⟩ rfl rfl rfl (.nil)))))))))))))))))
    refine opSkip rfl ⟨_, rfl, .inr rfl⟩ rfl ?_
    refine opSkip rfl ⟨_, rfl, .inl rfl⟩ rfl ?_
    refine op0 (sp_pickT rfl rfl rfl) rfl trivial rfl rfl ?_
    refine TL.nil ?_
    refine TC.condT rfl ?_
    refine TC.seq ?_
    refine TC.region ?_
    refine op0 (sp_assign rfl rfl) rfl trivial rfl rfl ?_
    refine TL.nil ?_
    cases h
    exact retJ [] (.tmp rfl .nil) rfl trivial rfl rfl
  · rcases cond_cases h with ⟨h3, h⟩ | ⟨h3, h⟩
    · obtain ⟨h4, h⟩ := chk_inv h
      obtain ⟨x6, h5, h6, h⟩ := idx_inv h
      refine drawJ 17 [⟨.agg [.val (.int .i64 x2), .val (.int .i64 x3), .val (.int .i64 x4)], [], [.blk 1 [.val (.int .i64 x2), .val (.int .i64 x3), .val (.int .i64 x4)] 35], []⟩, ⟨.val (.bool r5), [], [], []⟩, ⟨.val (.bool (!r5)), [], [], []⟩, ⟨.val (.bool false), [], [], []⟩, ⟨.ref 0, [], [], []⟩, ⟨.val (.int .i64 (l1.length : Int)), [], [.ro 0 3 (List.map en_api_BookEntry l1)], []⟩, ⟨.val (.bool (decide ((0 : Int) < (l1.length : Int)))), [], [], []⟩, ⟨.val (.bool true), [], [], []⟩, ⟨.ptr 1 0, [], [.blk 1 [.val (.int .i64 x2), .val (.int .i64 x3), .val (.int .i64 x4)] 35], []⟩, ⟨.val (.int .i64 x2), [], [.blk 1 [.val (.int .i64 x2), .val (.int .i64 x3), .val (.int .i64 x4)] 35], []⟩, ⟨.ref 0, [], [], []⟩, ⟨.ref 0, [], [], []⟩, ⟨.val (.int .i64 (l1.length : Int)), [], [.ro 0 3 (List.map en_api_BookEntry l1)], []⟩, ⟨.val (.int .i64 ((l1.length : Int) - 1)), [], [], []⟩, ⟨.cell 0 ((((l1.length : Int) - 1) : Int).toNat * 3), [], [.ro 0 3 (List.map en_api_BookEntry l1)], []⟩, ⟨.cell 0 ((((l1.length : Int) - 1) : Int).toNat * 3 + 0), [], [.ro 0 3 (List.map en_api_BookEntry l1)], []⟩, ⟨.val (.int .i64 x6.1), [], [.ro 0 3 (List.map en_api_BookEntry l1)], []⟩] rfl ?_ rfl ?_ rfl ?_ ?_
      · kernel_rfl
      · kernel_rfl
      · exact DAll.op' (sp_loadBA rfl isBlk rfl vt35 rfl rfl) trivial rfl (From.ok (ps := [(none, 0)]) ⟨⟨rfl, by kernel_rfl⟩, trivial⟩) (DAll.op' (sp_call (avs := [.agg [.val (.int .i64 x2), .val (.int .i64 x3), .val (.int .i64 x4)]]) (need := []) (v := .val (.bool r5)) (news := []) rfl rfl rfl Try.call230 (atJ [] [] (fc_book_isEntry h1) rfl rfl) (.inl (roAll rfl))) trivial rfl (From.ok (ps := []) trivial) (DAll.op' (sp_not rfl rfl) trivial rfl (From.ok (ps := []) trivial) (DAll.op' (sp_castB h2 (sp_move rfl rfl)) trivial rfl (From.ok (ps := []) trivial) (DAll.op' (sp_move rfl rfl) ⟨_, rfl, rfl⟩ rfl (From.ok (ps := []) trivial) (DAll.op' (sp_lenM (N := l1.length) (len_map _ _) rfl rfl isRo Try.underlying166) ⟨_, rfl, rfl⟩ rfl (From.ok (ps := [(none, 1)]) ⟨⟨rfl, by kernel_rfl⟩, trivial⟩) (DAll.op' (sp_gtr rfl rfl rfl) ⟨_, rfl, rfl⟩ rfl (From.ok (ps := []) trivial) (DAll.op' (sp_castB h3 (sp_move rfl rfl)) ⟨_, rfl, rfl⟩ rfl (From.ok (ps := []) trivial) (DAll.op' (sp_fieldAddrB rfl isBlk rfl ft35_0 vt3 (by decide)) ⟨_, rfl, rfl⟩ rfl (From.ok (ps := [(none, 0)]) ⟨⟨rfl, by kernel_rfl⟩, trivial⟩) (DAll.op' (sp_loadB rfl isBlk rfl vt3 rfl) ⟨_, rfl, rfl⟩ rfl (From.ok (ps := [(none, 0)]) ⟨⟨rfl, by kernel_rfl⟩, trivial⟩) (DAll.op' (sp_move rfl rfl) ⟨_, rfl, rfl⟩ rfl (From.ok (ps := []) trivial) (DAll.op' (sp_move rfl rfl) ⟨_, rfl, rfl⟩ rfl (From.ok (ps := []) trivial) (DAll.op' (sp_lenM (N := l1.length) (len_map _ _) rfl rfl isRo Try.underlying166) ⟨_, rfl, rfl⟩ rfl (From.ok (ps := [(none, 1)]) ⟨⟨rfl, by kernel_rfl⟩, trivial⟩) (DAll.op' (sp_sub rfl rfl rfl h4) ⟨_, rfl, rfl⟩ rfl (From.ok (ps := []) trivial) (DAll.op' (sp_indexS rfl rfl rfl isRo sl166 h5 (map_get _ h6)) ⟨_, rfl, rfl⟩ rfl (From.ok (ps := [(none, 1)]) ⟨⟨rfl, by kernel_rfl⟩, trivial⟩) (DAll.op' (sp_fieldAddrR (i := (((l1.length : Int) - 1) : Int).toNat) rfl rfl isRo ft35_0 vt3 (by decide) (map_get _ h6) (fun h => nomatch h)) ⟨_, rfl, rfl⟩ rfl (From.ok (ps := [(none, 1)]) ⟨⟨rfl, by kernel_rfl⟩, trivial⟩) (DAll.op' (sp_loadR (i := (((l1.length : Int) - 1) : Int).toNat) (j := 0) rfl rfl isRo vt3 rfl (map_get _ h6) rfl (.v (.nil)) (nodup_of_B rfl)) ⟨_, rfl, rfl⟩ rfl (From.ok (ps := [(none, 1)]) ⟨⟨rfl, by kernel_rfl⟩, trivial⟩) (.nil)))))))))))))))))
      refine op0 (sp_leq rfl rfl rfl) rfl ⟨_, rfl, rfl⟩ rfl rfl ?_
      refine op0 (sp_pickT rfl rfl rfl) rfl ⟨_, rfl, rfl⟩ rfl rfl ?_
      refine op0 (sp_pickF rfl rfl rfl) rfl trivial rfl rfl ?_
      refine TL.nil ?_
      refine TC.cond (b := (decide (x2 ≤ x6.1))) rfl (fun h7 => ?_) (fun h7 => ?_)
      · have h := cond_t h h7
        refine TC.seq ?_
        refine TC.region ?_
        refine op0 (sp_assign rfl rfl) rfl trivial rfl rfl ?_
        refine TL.nil ?_
        cases h
        exact retJ [] (.tmp rfl .nil) rfl trivial rfl rfl
      · have h := cond_f h h7
        refine TC.skip ?_
        refine TC.seq ?_
        refine TC.region ?_
        refine op0 (sp_assign rfl rfl) rfl trivial rfl rfl ?_
        refine TL.nil ?_
        cases h
        exact retJ [] (.tmp rfl .nil) rfl trivial rfl rfl
    · refine drawJ 17 [⟨.agg [.val (.int .i64 x2), .val (.int .i64 x3), .val (.int .i64 x4)], [], [.blk 1 [.val (.int .i64 x2), .val (.int .i64 x3), .val (.int .i64 x4)] 35], []⟩, ⟨.val (.bool r5), [], [], []⟩, ⟨.val (.bool (!r5)), [], [], []⟩, ⟨.val (.bool false), [], [], []⟩, ⟨.ref 0, [], [], []⟩, ⟨.val (.int .i64 (l1.length : Int)), [], [.ro 0 3 (List.map en_api_BookEntry l1)], []⟩, ⟨.val (.bool (decide ((0 : Int) < (l1.length : Int)))), [], [], []⟩, ⟨.val (.bool false), [], [], []⟩, ⟨.val (undef), [], [], []⟩, ⟨.val (undef), [], [], []⟩, ⟨.val (undef), [], [], []⟩, ⟨.val (undef), [], [], []⟩, ⟨.val (undef), [], [], []⟩, ⟨.val (undef), [], [], []⟩, ⟨.val (undef), [], [], []⟩, ⟨.val (undef), [], [], []⟩, ⟨.val (undef), [], [], []⟩] rfl ?_ rfl ?_ rfl ?_ ?_
      · kernel_rfl
      · kernel_rfl
      · exact DAll.op' (sp_loadBA rfl isBlk rfl vt35 rfl rfl) trivial rfl (From.ok (ps := [(none, 0)]) ⟨⟨rfl, by kernel_rfl⟩, trivial⟩) (DAll.op' (sp_call (avs := [.agg [.val (.int .i64 x2), .val (.int .i64 x3), .val (.int .i64 x4)]]) (need := []) (v := .val (.bool r5)) (news := []) rfl rfl rfl Try.call230 (atJ [] [] (fc_book_isEntry h1) rfl rfl) (.inl (roAll rfl))) trivial rfl (From.ok (ps := []) trivial) (DAll.op' (sp_not rfl rfl) trivial rfl (From.ok (ps := []) trivial) (DAll.op' (sp_castB h2 (sp_move rfl rfl)) trivial rfl (From.ok (ps := []) trivial) (DAll.op' (sp_move rfl rfl) ⟨_, rfl, rfl⟩ rfl (From.ok (ps := []) trivial) (DAll.op' (sp_lenM (N := l1.length) (len_map _ _) rfl rfl isRo Try.underlying166) ⟨_, rfl, rfl⟩ rfl (From.ok (ps := [(none, 1)]) ⟨⟨rfl, by kernel_rfl⟩, trivial⟩) (DAll.op' (sp_gtr rfl rfl rfl) ⟨_, rfl, rfl⟩ rfl (From.ok (ps := []) trivial) (DAll.op' (sp_castB h3 (sp_move rfl rfl)) ⟨_, rfl, rfl⟩ rfl (From.ok (ps := []) trivial) (.skip ⟨_, rfl, .inl rfl⟩ rfl rfl rfl (.skip ⟨_, rfl, .inl rfl⟩ rfl rfl rfl (.skip ⟨_, rfl, .inl rfl⟩ rfl rfl rfl (.skip ⟨_, rfl, .inl rfl⟩ rfl rfl rfl (.skip ⟨_, rfl, .inl rfl⟩ rfl rfl rfl (.skip ⟨_, rfl, .inl rfl⟩ rfl rfl rfl (.skip ⟨_, rfl, .inl rfl⟩ rfl rfl rfl (.skip ⟨_, rfl, .inl rfl⟩ rfl rfl rfl (.skip ⟨_, rfl, .inl rfl⟩ rfl rfl rfl (.nil)))))))))))))))))
      refine opSkip rfl ⟨_, rfl, .inl rfl⟩ rfl ?_
      refine op0 (sp_pickF rfl rfl rfl) rfl ⟨_, rfl, rfl⟩ rfl rfl ?_
      refine op0 (sp_pickF rfl rfl rfl) rfl trivial rfl rfl ?_
      refine TL.nil ?_
      refine TC.condF rfl ?_
      refine TC.skip ?_
      refine TC.seq ?_
      refine TC.region ?_
      refine op0 (sp_assign rfl rfl) rfl trivial rfl rfl ?_
      refine TL.nil ?_
      cases h
      exact retJ [] (.tmp rfl .nil) rfl trivial rfl rfl
/- book_entries_check -/
def ev_book_entries_check_l0 (n : Nat) (l1 : List (Int × Int × Int)) : Nat → Int → (List (Int × Int × Int)) → Option (Int × Int)
  | 0, _, _ => none
  | m + 1, i2, l3 => cond (decide (i2 < (l1.length : Int))) (idx l3 i2 fun x4 => chk (decide (0 ≤ (0 : Int)) && (decide ((0 : Int) ≤ i2) && decide (i2 ≤ (l3.length : Int)))) <| (ev_book_entries_next n (List.drop (0 : Int).toNat (List.take (i2 : Int).toNat l3)) x4.1 x4.2.1 x4.2.2).bind fun r5 => cond (r5 != 0) (some (i2, r5)) (chk (in64 (i2 + 1)) <| ev_book_entries_check_l0 n l1 m (i2 + 1) l3)) (some (0, 0))
set_option maxRecDepth 100000 in
set_option maxHeartbeats 2000000 in
theorem ok_book_entries_check_l0 {n : Nat} {w0 : World} {R0 : Nat → Prop} {env0 : Env} {r : Int × Int} {l1 : List (Int × Int × Int)} : ∀ (m : Nat) (i2 : Int) (l3 : List (Int × Int × Int)), ev_book_entries_check_l0 n l1 m i2 l3 = some r → TC Try.prog ⟨w0, fun _ => False, R0⟩ 27 (bodyPost Try.prog Try.f62 (Post ⟨w0, fun _ => False, R0⟩ env0 (.tup [.val (.int .i64 r.1), .val (.int .i64 r.2)]) [])) [.code (sub (bodyOf Try.f62) [1, 1, 0, 1, 0, 0, 0]), .code (sub (bodyOf Try.f62) [1, 1, 0, 1, 0, 0, 1]), .inLoop (sub (bodyOf Try.f62) [1, 1, 0, 1, 0, 0]), .inBlock 0, .code (sub (bodyOf Try.f62) [1, 1, 1])] ([(0, .ref 0), (10, .ref 0), (11, .val (.int .i64 (l1.length : Int))), (12, .val (.int .i64 i2))]) ([.ro 0 3 (List.map en_api_BookEntry l3)]) := by
  intro m
  induction m with
  | zero => intro i2 l3 h; exact none_no h
  | succ m ih =>
    intro i2 l3 h
    rw [ev_book_entries_check_l0] at h
    refine TC.region ?_
    refine op0 (sp_lss rfl rfl rfl) rfl trivial rfl rfl ?_
    refine TL.nil ?_
    refine TC.seq ?_
    refine TC.cond (b := (decide (i2 < (l1.length : Int)))) rfl (fun h2 => ?_) (fun h2 => ?_)
    · have h := cond_t h h2
      refine TC.skip ?_
      refine TC.seq ?_
      refine TC.block ?_
      refine TC.seq ?_
      refine TC.region ?_
      refine op0 (sp_move rfl rfl) rfl trivial rfl rfl ?_
      obtain ⟨x4, h3, h4, h⟩ := idx_inv h
      refine op1 0 rfl (sp_indexS rfl rfl rfl isRo sl166 h3 (map_get _ h4)) rfl trivial rfl rfl ?_
      refine op1 0 rfl (sp_loadRA (i := (i2 : Int).toNat) (j := 0) (as_ := [.val (.int .i64 x4.1), .val (.int .i64 x4.2.1), .val (.int .i64 x4.2.2)]) (ns := []) rfl rfl isRo vt35 rfl (map_get _ h4) rfl rfl (by decide) (.v (.v (.v (.nil)))) (nodup_of_B rfl)) rfl trivial rfl rfl ?_
      refine op0 (sp_alloc 1 rfl Try.zeroValue35 rfl) rfl trivial rfl rfl ?_
      refine op0 (sp_assign rfl rfl) rfl trivial rfl rfl ?_
      refine stoB 0 (cells' := [.val (.int .i64 x4.1), .val (.int .i64 x4.2.1), .val (.int .i64 x4.2.2)]) rfl rfl trivial rfl rfl rfl rfl vt35 rfl rfl rfl ?_
      refine TL.nil ?_
      refine TC.seq ?_
      obtain ⟨h5, h⟩ := chk_inv h
      refine drawJ 4 [⟨.ref 0, [], [], []⟩, ⟨.val (.int .i64 i2), [], [], []⟩, ⟨.ref 2, [.ro 2 3 (List.map en_api_BookEntry (List.drop (0 : Int).toNat (List.take (i2 : Int).toNat l3)))], [.ro 0 3 (List.map en_api_BookEntry l3)], []⟩, ⟨.agg [.val (.int .i64 x4.1), .val (.int .i64 x4.2.1), .val (.int .i64 x4.2.2)], [], [.blk 1 [.val (.int .i64 x4.1), .val (.int .i64 x4.2.1), .val (.int .i64 x4.2.2)] 35], []⟩] rfl ?_ rfl ?_ rfl ?_ ?_
      · kernel_rfl
      · kernel_rfl
      · exact DAll.op' (sp_move rfl rfl) trivial rfl (From.ok (ps := []) trivial) (DAll.op' (sp_move rfl rfl) trivial rfl (From.ok (ps := []) trivial) (DAll.op' (sp_sliceM (l := 0) (h := i2) 2 (len_map _ _) rfl rfl sl166 cut_none (cut_some rfl) h5 (map_cut _ _ _ _)) trivial rfl (From.ok (ps := [(none, 1)]) ⟨⟨rfl, rfl⟩, trivial⟩) (DAll.op' (sp_loadBA rfl isBlk rfl vt35 rfl rfl) trivial rfl (From.ok (ps := [(none, 0)]) ⟨⟨rfl, rfl⟩, trivial⟩) (.nil))))
      obtain ⟨r5, h6, h⟩ := bind_inv h
      refine op1 0 rfl (sp_call (avs := [.ref 2, .agg [.val (.int .i64 x4.1), .val (.int .i64 x4.2.1), .val (.int .i64 x4.2.2)]]) (need := [.ro 2 3 (List.map en_api_BookEntry (List.drop (0 : Int).toNat (List.take (i2 : Int).toNat l3)))]) (v := .val (.int .i64 r5)) (news := []) rfl rfl rfl Try.call136 (atJ [(0, 2)] [] (fc_book_entries_next h6) rfl rfl) (.inl (roAll rfl))) rfl trivial rfl rfl ?_
      refine op0 (sp_assign rfl rfl) rfl trivial rfl rfl ?_
      refine TL.nil ?_
      refine TC.seq ?_
      refine TC.region ?_
      refine op0 (sp_move rfl rfl) rfl trivial rfl rfl ?_
      refine op0 (sp_neq rfl rfl rfl) rfl trivial rfl rfl ?_
      refine TL.nil ?_
      refine TC.cond (b := (r5 != 0)) rfl (fun h7 => ?_) (fun h7 => ?_)
      · have h := cond_t h h7
        refine TC.seq ?_
        refine TC.region ?_
        refine op0 (sp_move rfl rfl) rfl trivial rfl rfl ?_
        refine op0 (sp_move rfl rfl) rfl trivial rfl rfl ?_
        refine op0 (sp_assign rfl rfl) rfl trivial rfl rfl ?_
        refine op0 (sp_assign rfl rfl) rfl trivial rfl rfl ?_
        refine TL.nil ?_
        cases h
        exact retJ [] (.tmp rfl (.tmp rfl .nil)) rfl trivial rfl rfl
      · have h := cond_f h h7
        refine TC.skip ?_
        refine TC.inBlock ?_
        refine TC.region ?_
        obtain ⟨h8, h⟩ := chk_inv h
        refine op0 (sp_add rfl rfl rfl h8) rfl trivial rfl rfl ?_
        refine op0 (sp_move rfl rfl) rfl trivial rfl rfl ?_
        refine TL.nil ?_
        refine TC.inLoop ?_
        refine TC.seq ?_
        refine subJ [] (ih _ _ h) ?_ ?_ ?_
        · exact ⟨rfl, rfl, rfl, rfl, trivial⟩
        · exact ⟨mem_at 2 rfl, trivial⟩
        · rfl
    · have h := cond_f h h2
      refine TC.exit rfl ?_
      refine TC.seq ?_
      refine TC.region ?_
      refine op0 (sp_assign rfl rfl) rfl trivial rfl rfl ?_
      refine op0 (sp_assign rfl rfl) rfl trivial rfl rfl ?_
      refine TL.nil ?_
      cases h
      exact retJ [] (.tmp rfl (.tmp rfl .nil)) rfl trivial rfl rfl
def ev_book_entries_check (n : Nat) (l1 : List (Int × Int × Int)) : Option (Int × Int) :=
  cond (decide ((2000 : Int) < (l1.length : Int))) (some (0, 5)) (ev_book_entries_check_l0 n l1 n 0 l1)
set_option maxRecDepth 100000 in
set_option maxHeartbeats 2000000 in
theorem fc_book_entries_check {n : Nat} {l1 : List (Int × Int × Int)} {r : Int × Int} (h : ev_book_entries_check n l1 = some r) : FC Try.prog 62 [.ref 0] [.ro 0 3 (List.map en_api_BookEntry l1)] (.tup [.val (.int .i64 r.1), .val (.int .i64 r.2)]) [] := by
  refine introJ (nz := 27) Try.func62 rfl rfl rfl (fun w0 R0 env0 => ?_)
  rw [ev_book_entries_check] at h
  refine TC.seq ?_
  refine TC.region ?_
  refine op0 (sp_assign rfl rfl) rfl trivial rfl rfl ?_
  refine op0 (sp_assign rfl rfl) rfl trivial rfl rfl ?_
  refine TL.nil ?_
  refine TC.seq ?_
  refine TC.seq ?_
  refine TC.region ?_
  refine op0 (sp_move rfl rfl) rfl trivial rfl rfl ?_
  refine op1 0 rfl (sp_lenM (N := l1.length) (len_map _ _) rfl rfl isRo Try.underlying166) rfl trivial rfl rfl ?_
  refine op0 (sp_gtr rfl rfl rfl) rfl trivial rfl rfl ?_
  refine TL.nil ?_
  refine TC.cond (b := (decide ((2000 : Int) < (l1.length : Int)))) rfl (fun h1 => ?_) (fun h1 => ?_)
  · have h := cond_t h h1
    refine TC.seq ?_
    refine TC.region ?_
    refine op0 (sp_assign rfl rfl) rfl trivial rfl rfl ?_
    refine op0 (sp_assign rfl rfl) rfl trivial rfl rfl ?_
    refine TL.nil ?_
    cases h
    exact retJ [] (.tmp rfl (.tmp rfl .nil)) rfl trivial rfl rfl
  · have h := cond_f h h1
    refine TC.skip ?_
    refine TC.seq ?_
    refine TC.seq ?_
    refine TC.region ?_
    refine op0 (sp_move rfl rfl) rfl trivial rfl rfl ?_
    refine op1 0 rfl (sp_lenM (N := l1.length) (len_map _ _) rfl rfl isRo Try.underlying166) rfl trivial rfl rfl ?_
    refine op0 (sp_move rfl rfl) rfl trivial rfl rfl ?_
    refine TL.nil ?_
    refine TC.block ?_
    refine TC.loop ?_
    refine TC.seq ?_
    refine subJ [] (ok_book_entries_check_l0 _ _ _ h) ?_ ?_ ?_
    · exact ⟨rfl, rfl, rfl, rfl, trivial⟩
    · exact ⟨mem_at 0 rfl, trivial⟩
    · rfl
/- book_entries_replay -/
def ev_book_entries_replay (n : Nat) (l1 : List (Int × Int × Int)) (times2 : Int) (times3 : Int) : Option ((List (Int × Int × Int)) × Int × Int) :=
  some (l1, times2, times3)
set_option maxRecDepth 100000 in
set_option maxHeartbeats 2000000 in
theorem fc_book_entries_replay {n : Nat} {l1 : List (Int × Int × Int)} {times2 : Int} {times3 : Int} {r : (List (Int × Int × Int)) × Int × Int} (h : ev_book_entries_replay n l1 times2 times3 = some r) : FC Try.prog 65 [.ref 0, .fn 64 [] [.ptr 1 0, .ptr 2 0]] [.ro 0 3 (List.map en_api_BookEntry l1), .rob 1 [.val (.int .i64 times2)] 3, .rob 2 [.val (.int .i64 times3)] 3] (.fn 138 [] [.ptr 0 0, .ptr 2 0]) [.blk 0 [.ref 1] 166, .ro 1 3 (List.map en_api_BookEntry r.1), .blk 2 [.fn 64 [] [.ptr 3 0, .ptr 4 0]] 169, .rob 3 [.val (.int .i64 r.2.1)] 3, .rob 4 [.val (.int .i64 r.2.2)] 3] := by
  refine introJ (nz := 6) Try.func65 rfl rfl rfl (fun w0 R0 env0 => ?_)
  rw [ev_book_entries_replay] at h
  refine TC.seq ?_
  refine TC.region ?_
  refine op0 (sp_box 3 rfl rfl rfl rfl rfl) rfl trivial rfl rfl ?_
  refine op0 (sp_box 4 rfl rfl rfl rfl rfl) rfl trivial rfl rfl ?_
  refine op0 (sp_assign rfl rfl) rfl trivial rfl rfl ?_
  refine TL.nil ?_
  refine TC.seq ?_
  refine TC.region ?_
  refine op0 (sp_makeFunc (fi := []) (ca := [.tmp 2, .tmp 3]) (fa := []) (cb := [.ptr 3 0, .ptr 4 0]) rfl rfl rfl) rfl trivial rfl rfl ?_
  refine op0 (sp_assign rfl rfl) rfl trivial rfl rfl ?_
  refine TL.nil ?_
  cases h
  exact retJ [(0, 3), (1, 0), (2, 4), (3, 1), (4, 2)] (.tmp rfl .nil) rfl ⟨mem_at 1 rfl, mem_at 2 rfl, mem_at 0 rfl, mem_at 3 rfl, mem_at 4 rfl, trivial⟩ rfl rfl
/- book_Noons_1 -/
def ev_book_Noons_1_l0 {σ1 : Type} (yb1 : Int → σ1 → Option (Bool × σ1)) (n : Nat) (c2 : Int) (c3 : Int) : Nat → Int → σ1 → Option σ1
  | 0, _, _ => none
  | m + 1, i4, y5 => cond (decide (i4 < c2)) (chk (in64 (c3 + i4)) <| chk (in64 ((c3 + i4) * 86400)) <| (yb1 ((c3 + i4) * 86400) y5).bind fun r6 => cond (!r6.1) (some r6.2) (chk (in64 (i4 + 1)) <| ev_book_Noons_1_l0 yb1 n c2 c3 m (i4 + 1) r6.2)) (some y5)
set_option maxRecDepth 100000 in
set_option maxHeartbeats 2000000 in
theorem ok_book_Noons_1_l0 {σ1 : Type} {yb1 : Int → σ1 → Option (Bool × σ1)} {I1 : σ1 → Inv} (hI1 : Yields Try.prog ye_funcint_bool yn_funcint_bool yb1 I1) {n : Nat} {w0 : World} {M0 R0 : Nat → Prop} {env0 : Env} {df : List Deferred} {r : σ1} {c2 : Int} {c3 : Int} : ∀ (m : Nat) (i4 : Int) (y5 : σ1), ev_book_Noons_1_l0 yb1 n c2 c3 m i4 y5 = some r → TC Try.prog ⟨w0, M0, R0⟩ ⟨17, none, df⟩ (bodyPostM Fence.wide 0 Try.prog Try.f64 (PostT ⟨w0, M0, R0⟩ env0 [0] (.tup []) [.inv 0 (I1 r)])) [.code (sub (bodyOf Try.f64) [1, 0, 0, 0]), .code (sub (bodyOf Try.f64) [1, 0, 0, 1]), .inLoop (sub (bodyOf Try.f64) [1, 0, 0]), .inBlock 0] ([(0, .ref 0), (2, .ptr 2 0), (5, .val (.int .i64 c2)), (6, .val (.int .i64 i4))]) ([.rob 2 [.val (.int .i64 c3)] 3, .inv 3 (marksI df), .pin 4 0 (env0 0), .inv 0 (I1 y5)]) := by
  intro m
  induction m with
  | zero => intro i4 y5 h; exact none_no h
  | succ m ih =>
    intro i4 y5 h
    rw [ev_book_Noons_1_l0] at h
    refine TC.region ?_
    refine op0 (sp_lss rfl rfl rfl) rfl trivial rfl rfl ?_
    refine TL.nil ?_
    refine TC.seq ?_
    refine TC.cond (b := (decide (i4 < c2))) rfl (fun h1 => ?_) (fun h1 => ?_)
    · have h := cond_t h h1
      refine TC.skip ?_
      refine TC.seq ?_
      refine TC.block ?_
      refine TC.seq ?_
      refine TC.region ?_
      refine op0 (sp_move rfl rfl) rfl trivial rfl rfl ?_
      refine op0 (sp_assign rfl rfl) rfl trivial rfl rfl ?_
      refine TL.nil ?_
      refine TC.seq ?_
      refine TC.region ?_
      refine op0 (sp_move rfl rfl) rfl trivial rfl rfl ?_
      refine op1 0 rfl (sp_loadB rfl isRob rfl vt3 rfl) rfl trivial rfl rfl ?_
      refine op0 (sp_move rfl rfl) rfl trivial rfl rfl ?_
      obtain ⟨h2, h⟩ := chk_inv h
      refine op0 (sp_add rfl rfl rfl h2) rfl trivial rfl rfl ?_
      obtain ⟨h3, h⟩ := chk_inv h
      refine op0 (sp_mul rfl rfl rfl h3) rfl trivial rfl rfl ?_
      obtain ⟨r6, h4, h⟩ := bind_inv h
      refine opT (take := [.inv 0 (I1 y5)]) (need := []) (V' := [.inv 0 (I1 r6.2), .rob 2 [.val (.int .i64 c3)] 3, .inv 3 (marksI df), .pin 4 0 (env0 0)]) [3] [] (ts_yield hI1 (x := ((c3 + i4) * 86400)) (b := r6.1) (avs := [.val (.int .i64 ((c3 + i4) * 86400))]) (need := []) [] h4 rfl rfl rfl rfl rfl rfl) trivial rfl ⟨rfl, trivial⟩ trivial rfl rfl ?_
      refine op0 (sp_not rfl rfl) rfl trivial rfl rfl ?_
      refine TL.nil ?_
      refine TC.cond (b := (!r6.1)) rfl (fun h5 => ?_) (fun h5 => ?_)
      · have h := cond_t h h5
        cases h
        exact retM [] 2 3 [0] rfl (.nil) rfl ⟨mem_at 0 rfl, trivial⟩ rfl rfl ⟨⟨_, mem_at 2 rfl⟩, trivial⟩ rfl
      · have h := cond_f h h5
        refine TC.skip ?_
        refine TC.inBlock ?_
        refine TC.region ?_
        obtain ⟨h6, h⟩ := chk_inv h
        refine op0 (sp_add rfl rfl rfl h6) rfl trivial rfl rfl ?_
        refine op0 (sp_move rfl rfl) rfl trivial rfl rfl ?_
        refine TL.nil ?_
        refine TC.inLoop ?_
        refine TC.seq ?_
        refine subJ [] (ih _ _ h) ?_ ?_ ?_
        · exact ⟨rfl, rfl, rfl, rfl, trivial⟩
        · exact ⟨mem_at 1 rfl, mem_at 2 rfl, mem_at 3 rfl, mem_at 0 rfl, trivial⟩
        · rfl
    · have h := cond_f h h1
      refine TC.exit rfl ?_
      cases h
      exact endM [] 1 3 [0] rfl (.nil) rfl ⟨mem_at 2 rfl, trivial⟩ rfl rfl ⟨⟨_, mem_at 1 rfl⟩, trivial⟩ rfl
def ev_book_Noons_1 {σ1 : Type} (yb1 : Int → σ1 → Option (Bool × σ1)) (n : Nat) (y1 : σ1) (c2 : Int) (c3 : Int) : Option σ1 :=
  ev_book_Noons_1_l0 yb1 n c2 c3 n 0 y1
set_option maxRecDepth 100000 in
set_option maxHeartbeats 2000000 in
theorem ft_book_Noons_1 {σ1 : Type} {yb1 : Int → σ1 → Option (Bool × σ1)} {I1 : σ1 → Inv} (hI1 : Yields Try.prog ye_funcint_bool yn_funcint_bool yb1 I1) {n : Nat} {y1 : σ1} {c2 : Int} {c3 : Int} {r : σ1} (h : ev_book_Noons_1 yb1 n y1 c2 c3 = some r) : FT Try.prog 64 [.ref 0, .ptr 1 0, .ptr 2 0] [.inv 0 (I1 y1)] [.rob 1 [.val (.int .i64 c2)] 3, .rob 2 [.val (.int .i64 c3)] 3] (.tup []) [.inv 0 (I1 r)] := by
  refine introM (nz := 17) 3 [(4, 0)] Try.func64 rfl rfl rfl rfl (fun w0 M0 R0 env0 => ?_)
  rw [ev_book_Noons_1] at h
  refine TC.seq ?_
  refine TC.region ?_
  refine op1 3 rfl (sp_loadB rfl isRob rfl vt3 rfl) rfl trivial rfl rfl ?_
  refine op0 (sp_move rfl rfl) rfl trivial rfl rfl ?_
  refine TL.nil ?_
  refine TC.block ?_
  refine TC.loop ?_
  refine TC.seq ?_
  refine subJ [] (ok_book_Noons_1_l0 hI1 _ _ _ h) ?_ ?_ ?_
  · exact ⟨rfl, rfl, rfl, rfl, trivial⟩
  · exact ⟨mem_at 4 rfl, mem_at 0 rfl, mem_at 1 rfl, mem_at 2 rfl, trivial⟩
  · rfl
/- p_book_clock_to -/
def ev_p_book_clock_to (n : Nat) (c1 : Int) (c2 : Int) (c3 : Int) (c4 : Bool) (time5 : Int) : Option (Int × Int × Int × Bool) :=
  cond (!c4) (chk (in64 (time5 - c3)) <| chk (in64 ((86400000 : Int) + c2)) <| chk (in64 ((time5 - c3) * ((86400000 : Int) + c2))) <| chk (in64 (c1 + ((time5 - c3) * ((86400000 : Int) + c2)))) <| chk (in64 ((Int.tmod (c1 + ((time5 - c3) * ((86400000 : Int) + c2))) 3732480000000) + 3732480000000)) <| some ((Int.tmod ((Int.tmod (c1 + ((time5 - c3) * ((86400000 : Int) + c2))) 3732480000000) + 3732480000000) 3732480000000), c2, time5, c4)) (some (c1, c2, time5, c4))
set_option maxRecDepth 100000 in
set_option maxHeartbeats 2000000 in
theorem ft_p_book_clock_to {n : Nat} {c1 : Int} {c2 : Int} {c3 : Int} {c4 : Bool} {time5 : Int} {r : Int × Int × Int × Bool} (h : ev_p_book_clock_to n c1 c2 c3 c4 time5 = some r) : FT Try.prog 140 [.ptr 0 0, .val (.int .i64 time5)] [.blk 0 [.val (.int .i64 c1), .val (.int .i64 c2), .val (.int .i64 c3), .val (.bool c4)] 173] [] (.tup []) [.blk 0 [.val (.int .i64 r.1), .val (.int .i64 r.2.1), .val (.int .i64 r.2.2.1), .val (.bool r.2.2.2)] 173] := by
  refine introM (nz := 36) 1 [(2, 0)] Try.func140 rfl rfl rfl rfl (fun w0 M0 R0 env0 => ?_)
  rw [ev_p_book_clock_to] at h
  refine TC.seq ?_
  refine TC.seq ?_
  refine TC.region ?_
  refine op0 (sp_move rfl rfl) rfl trivial rfl rfl ?_
  refine op1 2 rfl (sp_nilCheck rfl isBlk rfl) rfl trivial rfl rfl ?_
  refine op1 2 rfl (sp_fieldAddrB rfl isBlk rfl ft173_3 vt4 (by decide)) rfl trivial rfl rfl ?_
  refine op1 2 rfl (sp_loadB rfl isBlk rfl vt4 rfl) rfl trivial rfl rfl ?_
  refine op0 (sp_not rfl rfl) rfl trivial rfl rfl ?_
  refine TL.nil ?_
  refine TC.cond (b := (!c4)) rfl (fun h1 => ?_) (fun h1 => ?_)
  · have h := cond_t h h1
    obtain ⟨h2, h⟩ := chk_inv h
    obtain ⟨h3, h⟩ := chk_inv h
    obtain ⟨h4, h⟩ := chk_inv h
    obtain ⟨h5, h⟩ := chk_inv h
    obtain ⟨h6, h⟩ := chk_inv h
    refine drawJ 21 [⟨.ptr 0 0, [], [], []⟩, ⟨.ptr 0 0, [], [], []⟩, ⟨.ptr 0 0, [], [.blk 0 [.val (.int .i64 c1), .val (.int .i64 c2), .val (.int .i64 c3), .val (.bool c4)] 173], []⟩, ⟨.ptr 0 0, [], [.blk 0 [.val (.int .i64 c1), .val (.int .i64 c2), .val (.int .i64 c3), .val (.bool c4)] 173], []⟩, ⟨.val (.int .i64 c1), [], [.blk 0 [.val (.int .i64 c1), .val (.int .i64 c2), .val (.int .i64 c3), .val (.bool c4)] 173], []⟩, ⟨.val (.int .i64 time5), [], [], []⟩, ⟨.ptr 0 0, [], [], []⟩, ⟨.ptr 0 0, [], [.blk 0 [.val (.int .i64 c1), .val (.int .i64 c2), .val (.int .i64 c3), .val (.bool c4)] 173], []⟩, ⟨.ptr 0 2, [], [.blk 0 [.val (.int .i64 c1), .val (.int .i64 c2), .val (.int .i64 c3), .val (.bool c4)] 173], []⟩, ⟨.val (.int .i64 c3), [], [.blk 0 [.val (.int .i64 c1), .val (.int .i64 c2), .val (.int .i64 c3), .val (.bool c4)] 173], []⟩, ⟨.val (.int .i64 (time5 - c3)), [], [], []⟩, ⟨.ptr 0 0, [], [], []⟩, ⟨.ptr 0 0, [], [.blk 0 [.val (.int .i64 c1), .val (.int .i64 c2), .val (.int .i64 c3), .val (.bool c4)] 173], []⟩, ⟨.ptr 0 1, [], [.blk 0 [.val (.int .i64 c1), .val (.int .i64 c2), .val (.int .i64 c3), .val (.bool c4)] 173], []⟩, ⟨.val (.int .i64 c2), [], [.blk 0 [.val (.int .i64 c1), .val (.int .i64 c2), .val (.int .i64 c3), .val (.bool c4)] 173], []⟩, ⟨.val (.int .i64 ((86400000 : Int) + c2)), [], [], []⟩, ⟨.val (.int .i64 ((time5 - c3) * ((86400000 : Int) + c2))), [], [], []⟩, ⟨.val (.int .i64 (c1 + ((time5 - c3) * ((86400000 : Int) + c2)))), [], [], []⟩, ⟨.val (.int .i64 (Int.tmod (c1 + ((time5 - c3) * ((86400000 : Int) + c2))) 3732480000000)), [], [], []⟩, ⟨.val (.int .i64 ((Int.tmod (c1 + ((time5 - c3) * ((86400000 : Int) + c2))) 3732480000000) + 3732480000000)), [], [], []⟩, ⟨.val (.int .i64 (Int.tmod ((Int.tmod (c1 + ((time5 - c3) * ((86400000 : Int) + c2))) 3732480000000) + 3732480000000) 3732480000000)), [], [], []⟩] rfl ?_ rfl ?_ rfl ?_ ?_
    · kernel_rfl
    · kernel_rfl
    · exact DAll.op' (sp_move rfl rfl) trivial rfl (From.ok (ps := []) trivial) (DAll.op' (sp_move rfl rfl) trivial rfl (From.ok (ps := []) trivial) (DAll.op' (sp_nilCheck rfl isBlk rfl) trivial rfl (From.ok (ps := [(none, 2)]) ⟨⟨rfl, by kernel_rfl⟩, trivial⟩) (DAll.op' (sp_fieldAddrB rfl isBlk rfl ft173_0 vt3 (by decide)) trivial rfl (From.ok (ps := [(none, 2)]) ⟨⟨rfl, by kernel_rfl⟩, trivial⟩) (DAll.op' (sp_loadB rfl isBlk rfl vt3 rfl) trivial rfl (From.ok (ps := [(none, 2)]) ⟨⟨rfl, by kernel_rfl⟩, trivial⟩) (DAll.op' (sp_move rfl rfl) trivial rfl (From.ok (ps := []) trivial) (DAll.op' (sp_move rfl rfl) trivial rfl (From.ok (ps := []) trivial) (DAll.op' (sp_nilCheck rfl isBlk rfl) trivial rfl (From.ok (ps := [(none, 2)]) ⟨⟨rfl, by kernel_rfl⟩, trivial⟩) (DAll.op' (sp_fieldAddrB rfl isBlk rfl ft173_2 vt3 (by decide)) trivial rfl (From.ok (ps := [(none, 2)]) ⟨⟨rfl, by kernel_rfl⟩, trivial⟩) (DAll.op' (sp_loadB rfl isBlk rfl vt3 rfl) trivial rfl (From.ok (ps := [(none, 2)]) ⟨⟨rfl, by kernel_rfl⟩, trivial⟩) (DAll.op' (sp_sub rfl rfl rfl h2) trivial rfl (From.ok (ps := []) trivial) (DAll.op' (sp_move rfl rfl) trivial rfl (From.ok (ps := []) trivial) (DAll.op' (sp_nilCheck rfl isBlk rfl) trivial rfl (From.ok (ps := [(none, 2)]) ⟨⟨rfl, by kernel_rfl⟩, trivial⟩) (DAll.op' (sp_fieldAddrB rfl isBlk rfl ft173_1 vt3 (by decide)) trivial rfl (From.ok (ps := [(none, 2)]) ⟨⟨rfl, by kernel_rfl⟩, trivial⟩) (DAll.op' (sp_loadB rfl isBlk rfl vt3 rfl) trivial rfl (From.ok (ps := [(none, 2)]) ⟨⟨rfl, by kernel_rfl⟩, trivial⟩) (DAll.op' (sp_add rfl rfl rfl h3) trivial rfl (From.ok (ps := []) trivial) (DAll.op' (sp_mul rfl rfl rfl h4) trivial rfl (From.ok (ps := []) trivial) (DAll.op' (sp_add rfl rfl rfl h5) trivial rfl (From.ok (ps := []) trivial) (DAll.op' (sp_rem rfl rfl rfl (by decide)) trivial rfl (From.ok (ps := []) trivial) (DAll.op' (sp_add rfl rfl rfl h6) trivial rfl (From.ok (ps := []) trivial) (DAll.op' (sp_rem rfl rfl rfl (by decide)) trivial rfl (From.ok (ps := []) trivial) (.nil)))))))))))))))))))))
    refine op1 2 rfl (sp_nilCheck rfl isBlk rfl) rfl trivial rfl rfl ?_
    refine op1 2 rfl (sp_fieldAddrB rfl isBlk rfl ft173_0 vt3 (by decide)) rfl trivial rfl rfl ?_
    refine stoB 2 (cells' := [.val (.int .i64 (Int.tmod ((Int.tmod (c1 + ((time5 - c3) * ((86400000 : Int) + c2))) 3732480000000) + 3732480000000) 3732480000000)), .val (.int .i64 c2), .val (.int .i64 c3), .val (.bool c4)]) rfl rfl trivial rfl rfl rfl rfl vt3 rfl rfl rfl ?_
    refine TL.nil ?_
    refine TC.region ?_
    refine op0 (sp_move rfl rfl) rfl trivial rfl rfl ?_
    refine op0 (sp_move rfl rfl) rfl trivial rfl rfl ?_
    refine op1 2 rfl (sp_nilCheck rfl isBlk rfl) rfl trivial rfl rfl ?_
    refine op1 2 rfl (sp_fieldAddrB rfl isBlk rfl ft173_2 vt3 (by decide)) rfl trivial rfl rfl ?_
    refine stoB 2 (cells' := [.val (.int .i64 (Int.tmod ((Int.tmod (c1 + ((time5 - c3) * ((86400000 : Int) + c2))) 3732480000000) + 3732480000000) 3732480000000)), .val (.int .i64 c2), .val (.int .i64 time5), .val (.bool c4)]) rfl rfl trivial rfl rfl rfl rfl vt3 rfl rfl rfl ?_
    refine TL.nil ?_
    cases h
    exact endM [] 0 1 [0] rfl (.nil) rfl ⟨mem_at 1 rfl, trivial⟩ rfl rfl ⟨⟨_, mem_at 0 rfl⟩, trivial⟩ rfl
  · have h := cond_f h h1
    refine TC.skip ?_
    refine TC.region ?_
    refine op0 (sp_move rfl rfl) rfl trivial rfl rfl ?_
    refine op0 (sp_move rfl rfl) rfl trivial rfl rfl ?_
    refine op1 2 rfl (sp_nilCheck rfl isBlk rfl) rfl trivial rfl rfl ?_
    refine op1 2 rfl (sp_fieldAddrB rfl isBlk rfl ft173_2 vt3 (by decide)) rfl trivial rfl rfl ?_
    refine stoB 2 (cells' := [.val (.int .i64 c1), .val (.int .i64 c2), .val (.int .i64 time5), .val (.bool c4)]) rfl rfl trivial rfl rfl rfl rfl vt3 rfl rfl rfl ?_
    refine TL.nil ?_
    cases h
    exact endM [] 0 1 [0] rfl (.nil) rfl ⟨mem_at 1 rfl, trivial⟩ rfl rfl ⟨⟨_, mem_at 0 rfl⟩, trivial⟩ rfl
/- p_book_clock_do -/
def ev_p_book_clock_do (n : Nat) (c1 : Int) (c2 : Int) (c3 : Int) (c4 : Bool) (x5 : Int) (x6 : Int) (x7 : Int) : Option (Int × Int × Int × Bool) :=
  (ev_p_book_clock_to n c1 c2 c3 c4 x5).bind fun r8 => cond (x6 == 1) (chk (in64 (x7 * 1000)) <| chk (in64 ((x7 * 1000) * 86400)) <| some (((x7 * 1000) * 86400), r8.2.1, r8.2.2.1, r8.2.2.2)) (cond (x6 == 2) (some (r8.1, x7, r8.2.2.1, r8.2.2.2)) (cond (x6 == 3) (cond (x6 == 3) (some (r8.1, r8.2.1, r8.2.2.1, (x6 == 3))) (some (r8.1, r8.2.1, r8.2.2.1, r8.2.2.2))) (cond (x6 == 4) (some (r8.1, r8.2.1, r8.2.2.1, (x6 == 3))) (some (r8.1, r8.2.1, r8.2.2.1, r8.2.2.2)))))
set_option maxRecDepth 100000 in
set_option maxHeartbeats 2000000 in
theorem ft_p_book_clock_do {n : Nat} {c1 : Int} {c2 : Int} {c3 : Int} {c4 : Bool} {x5 : Int} {x6 : Int} {x7 : Int} {r : Int × Int × Int × Bool} (h : ev_p_book_clock_do n c1 c2 c3 c4 x5 x6 x7 = some r) : FT Try.prog 139 [.ptr 0 0, .agg [.val (.int .i64 x5), .val (.int .i64 x6), .val (.int .i64 x7)]] [.blk 0 [.val (.int .i64 c1), .val (.int .i64 c2), .val (.int .i64 c3), .val (.bool c4)] 173] [] (.tup []) [.blk 0 [.val (.int .i64 r.1), .val (.int .i64 r.2.1), .val (.int .i64 r.2.2.1), .val (.bool r.2.2.2)] 173] := by
  refine introM (nz := 35) 1 [(2, 0)] Try.func139 rfl rfl rfl rfl (fun w0 M0 R0 env0 => ?_)
  rw [ev_p_book_clock_do] at h
  refine TC.seq ?_
  refine TC.region ?_
  refine op0 (sp_box 3 rfl rfl rfl rfl rfl) rfl trivial rfl rfl ?_
  refine TL.nil ?_
  refine TC.seq ?_
  refine TC.region ?_
  refine op0 (sp_move rfl rfl) rfl trivial rfl rfl ?_
  refine op1 0 rfl (sp_fieldAddrB rfl isBlk rfl ft35_0 vt3 (by decide)) rfl trivial rfl rfl ?_
  refine op1 0 rfl (sp_loadB rfl isBlk rfl vt3 rfl) rfl trivial rfl rfl ?_
  obtain ⟨r8, h1, h⟩ := bind_inv h
  refine opT (take := [.blk 0 [.val (.int .i64 c1), .val (.int .i64 c2), .val (.int .i64 c3), .val (.bool c4)] 173]) (need := []) (V' := [.blk 0 [.val (.int .i64 r8.1), .val (.int .i64 r8.2.1), .val (.int .i64 r8.2.2.1), .val (.bool r8.2.2.2)] 173, .blk 3 [.val (.int .i64 x5), .val (.int .i64 x6), .val (.int .i64 x7)] 35, .inv 1 (marksI []), .pin 2 0 (env0 0)]) [3] [] (ts_call (avs := [.ptr 0 0, .val (.int .i64 x5)]) (take := [.blk 0 [.val (.int .i64 c1), .val (.int .i64 c2), .val (.int .i64 c3), .val (.bool c4)] 173]) (need := []) (v := .tup []) (news := [.blk 0 [.val (.int .i64 r8.1), .val (.int .i64 r8.2.1), .val (.int .i64 r8.2.2.1), .val (.bool r8.2.2.2)] 173]) rfl rfl rfl Try.call140 (atT [] [] (ft_p_book_clock_to h1) rfl rfl rfl) rfl rfl) trivial rfl ⟨rfl, trivial⟩ trivial rfl rfl ?_
  refine TL.nil ?_
  refine TC.seq ?_
  refine TC.region ?_
  refine op1 1 rfl (sp_fieldAddrB rfl isBlk rfl ft35_1 vt33 (by decide)) rfl trivial rfl rfl ?_
  refine op1 1 rfl (sp_loadB rfl isBlk rfl vt33 rfl) rfl trivial rfl rfl ?_
  refine TL.nil ?_
  refine TC.block ?_
  refine TC.seq ?_
  refine TC.region ?_
  refine op0 (sp_eql rfl rfl rfl) rfl trivial rfl rfl ?_
  refine op0 (sp_assign rfl rfl) rfl trivial rfl rfl ?_
  refine TL.nil ?_
  refine TC.cond (b := (x6 == 1)) rfl (fun h2 => ?_) (fun h2 => ?_)
  · have h := cond_t h h2
    refine TC.region ?_
    refine op0 (sp_move rfl rfl) rfl trivial rfl rfl ?_
    refine op1 1 rfl (sp_fieldAddrB rfl isBlk rfl ft35_2 vt3 (by decide)) rfl trivial rfl rfl ?_
    refine op1 1 rfl (sp_loadB rfl isBlk rfl vt3 rfl) rfl trivial rfl rfl ?_
    obtain ⟨h3, h⟩ := chk_inv h
    refine op0 (sp_mul rfl rfl rfl h3) rfl trivial rfl rfl ?_
    obtain ⟨h4, h⟩ := chk_inv h
    refine op0 (sp_mul rfl rfl rfl h4) rfl trivial rfl rfl ?_
    refine op1 0 rfl (sp_nilCheck rfl isBlk rfl) rfl trivial rfl rfl ?_
    refine op1 0 rfl (sp_fieldAddrB rfl isBlk rfl ft173_0 vt3 (by decide)) rfl trivial rfl rfl ?_
    refine stoB 0 (cells' := [.val (.int .i64 ((x7 * 1000) * 86400)), .val (.int .i64 r8.2.1), .val (.int .i64 r8.2.2.1), .val (.bool r8.2.2.2)]) rfl rfl trivial rfl rfl rfl rfl vt3 rfl rfl rfl ?_
    refine TL.nil ?_
    refine TC.inBlock ?_
    cases h
    exact endM [] 2 1 [0] rfl (.nil) rfl ⟨mem_at 0 rfl, trivial⟩ rfl rfl ⟨⟨_, mem_at 2 rfl⟩, trivial⟩ rfl
  · have h := cond_f h h2
    refine TC.seq ?_
    refine TC.region ?_
    refine op0 (sp_eql rfl rfl rfl) rfl trivial rfl rfl ?_
    refine op0 (sp_assign rfl rfl) rfl trivial rfl rfl ?_
    refine TL.nil ?_
    refine TC.cond (b := (x6 == 2)) rfl (fun h5 => ?_) (fun h5 => ?_)
    · have h := cond_t h h5
      refine TC.region ?_
      refine op0 (sp_move rfl rfl) rfl trivial rfl rfl ?_
      refine op1 1 rfl (sp_fieldAddrB rfl isBlk rfl ft35_2 vt3 (by decide)) rfl trivial rfl rfl ?_
      refine op1 1 rfl (sp_loadB rfl isBlk rfl vt3 rfl) rfl trivial rfl rfl ?_
      refine op1 0 rfl (sp_nilCheck rfl isBlk rfl) rfl trivial rfl rfl ?_
      refine op1 0 rfl (sp_fieldAddrB rfl isBlk rfl ft173_1 vt3 (by decide)) rfl trivial rfl rfl ?_
      refine stoB 0 (cells' := [.val (.int .i64 r8.1), .val (.int .i64 x7), .val (.int .i64 r8.2.2.1), .val (.bool r8.2.2.2)]) rfl rfl trivial rfl rfl rfl rfl vt3 rfl rfl rfl ?_
      refine TL.nil ?_
      refine TC.inBlock ?_
      cases h
      exact endM [] 2 1 [0] rfl (.nil) rfl ⟨mem_at 0 rfl, trivial⟩ rfl rfl ⟨⟨_, mem_at 2 rfl⟩, trivial⟩ rfl
    · have h := cond_f h h5
      refine TC.seq ?_
      refine TC.seq ?_
      refine TC.region ?_
      refine op0 (sp_eql rfl rfl rfl) rfl trivial rfl rfl ?_
      refine op0 (sp_assign rfl rfl) rfl trivial rfl rfl ?_
      refine TL.nil ?_
      refine TC.cond (b := (x6 == 3)) rfl (fun h6 => ?_) (fun h6 => ?_)
      · have h := cond_t h h6
        refine TC.skip ?_
        refine TC.cond (b := (x6 == 3)) rfl (fun h7 => ?_) (fun h7 => ?_)
        · have h := cond_t h h7
          refine TC.region ?_
          refine op0 (sp_move rfl rfl) rfl trivial rfl rfl ?_
          refine op1 1 rfl (sp_fieldAddrB rfl isBlk rfl ft35_1 vt33 (by decide)) rfl trivial rfl rfl ?_
          refine op1 1 rfl (sp_loadB rfl isBlk rfl vt33 rfl) rfl trivial rfl rfl ?_
          refine op0 (sp_eql rfl rfl rfl) rfl trivial rfl rfl ?_
          refine op1 0 rfl (sp_nilCheck rfl isBlk rfl) rfl trivial rfl rfl ?_
          refine op1 0 rfl (sp_fieldAddrB rfl isBlk rfl ft173_3 vt4 (by decide)) rfl trivial rfl rfl ?_
          refine stoB 0 (cells' := [.val (.int .i64 r8.1), .val (.int .i64 r8.2.1), .val (.int .i64 r8.2.2.1), .val (.bool (x6 == 3))]) rfl rfl trivial rfl rfl rfl rfl vt4 rfl rfl rfl ?_
          refine TL.nil ?_
          refine TC.inBlock ?_
          cases h
          exact endM [] 2 1 [0] rfl (.nil) rfl ⟨mem_at 0 rfl, trivial⟩ rfl rfl ⟨⟨_, mem_at 2 rfl⟩, trivial⟩ rfl
        · have h := cond_f h h7
          refine TC.skip ?_
          refine TC.inBlock ?_
          cases h
          exact endM [] 2 1 [0] rfl (.nil) rfl ⟨mem_at 0 rfl, trivial⟩ rfl rfl ⟨⟨_, mem_at 2 rfl⟩, trivial⟩ rfl
      · have h := cond_f h h6
        refine TC.region ?_
        refine op0 (sp_eql rfl rfl rfl) rfl trivial rfl rfl ?_
        refine op0 (sp_assign rfl rfl) rfl trivial rfl rfl ?_
        refine TL.nil ?_
        refine TC.cond (b := (x6 == 4)) rfl (fun h8 => ?_) (fun h8 => ?_)
        · have h := cond_t h h8
          refine TC.region ?_
          refine op0 (sp_move rfl rfl) rfl trivial rfl rfl ?_
          refine op1 1 rfl (sp_fieldAddrB rfl isBlk rfl ft35_1 vt33 (by decide)) rfl trivial rfl rfl ?_
          refine op1 1 rfl (sp_loadB rfl isBlk rfl vt33 rfl) rfl trivial rfl rfl ?_
          refine op0 (sp_eql rfl rfl rfl) rfl trivial rfl rfl ?_
          refine op1 0 rfl (sp_nilCheck rfl isBlk rfl) rfl trivial rfl rfl ?_
          refine op1 0 rfl (sp_fieldAddrB rfl isBlk rfl ft173_3 vt4 (by decide)) rfl trivial rfl rfl ?_
          refine stoB 0 (cells' := [.val (.int .i64 r8.1), .val (.int .i64 r8.2.1), .val (.int .i64 r8.2.2.1), .val (.bool (x6 == 3))]) rfl rfl trivial rfl rfl rfl rfl vt4 rfl rfl rfl ?_
          refine TL.nil ?_
          refine TC.inBlock ?_
          cases h
          exact endM [] 2 1 [0] rfl (.nil) rfl ⟨mem_at 0 rfl, trivial⟩ rfl rfl ⟨⟨_, mem_at 2 rfl⟩, trivial⟩ rfl
        · have h := cond_f h h8
          refine TC.skip ?_
          refine TC.inBlock ?_
          cases h
          exact endM [] 2 1 [0] rfl (.nil) rfl ⟨mem_at 0 rfl, trivial⟩ rfl rfl ⟨⟨_, mem_at 2 rfl⟩, trivial⟩ rfl
/- book_entries_replay_1 -/
def ev_book_entries_replay_1_j2 {σ1 : Type} (yb1 : (Int × Int × Int × Bool) → σ1 → Option (Bool × σ1)) (n : Nat) (l14 : List (Int × Int × Int)) (i10 : Int) (i11 : Int) (i12 : Int) (b13 : Bool) (k_book_entries_replay_1_l1 : Int → Int → Int → Bool → (List (Int × Int × Int)) → σ1 → Option (Nat × (Int × Int × Int × Bool × σ1 × (List (Int × Int × Int))))) (y17 : σ1) : Option (Nat × (Int × Int × Int × Bool × σ1 × (List (Int × Int × Int)))) :=
  idx l14 0 fun x18 => (ev_p_book_clock_do n i10 i11 i12 b13 x18.1 x18.2.1 x18.2.2).bind fun r19 => chk (decide (0 ≤ (1 : Int)) && (decide ((1 : Int) ≤ (l14.length : Int)) && decide ((l14.length : Int) ≤ (l14.length : Int)))) <| k_book_entries_replay_1_l1 r19.1 r19.2.1 r19.2.2.1 r19.2.2.2 (List.drop (1 : Int).toNat (List.take ((l14.length : Int) : Int).toNat l14)) y17
set_option maxRecDepth 100000 in
set_option maxHeartbeats 2000000 in
theorem ok_book_entries_replay_1_j2 {σ1 : Type} {yb1 : (Int × Int × Int × Bool) → σ1 → Option (Bool × σ1)} {I1 : σ1 → Inv} (hI1 : Yields Try.prog ye_funcbook_clock_bool yn_funcbook_clock_bool yb1 I1) {n : Nat} {env0 : Env} {w0 : World} {M0 R0 : Nat → Prop} {l0 : Nat} {rec : Loop} {r : Nat × (Int × Int × Int × Bool × σ1 × (List (Int × Int × Int)))} {u7 : Value} {u6 : Value} {u5 : Value} {x8 : Int} {l14 : List (Int × Int × Int)} {i10 : Int} {i11 : Int} {i12 : Int} {b13 : Bool} {k_book_entries_replay_1_l1 : Int → Int → Int → Bool → (List (Int × Int × Int)) → σ1 → Option (Nat × (Int × Int × Int × Bool × σ1 × (List (Int × Int × Int))))} {y17 : σ1} (hk_book_entries_replay_1_l1 : ∀ (i10 : Int) (i11 : Int) (i12 : Int) (b13 : Bool) (l14 : List (Int × Int × Int)) (y15 : σ1), k_book_entries_replay_1_l1 i10 i11 i12 b13 l14 y15 = some r → TC Try.prog ⟨w0, M0, R0⟩ ⟨34, some l0, []⟩ (RoundQ ⟨w0, M0, R0⟩ (.inv 15 (recI l0 rec) :: [.pin 14 10 u7, .pin 13 9 u6, .pin 12 8 u5, .blk 9 [.val (.int .i64 r.2.1), .val (.int .i64 r.2.2.1), .val (.int .i64 r.2.2.2.1), .val (.bool r.2.2.2.2.1)] 173, .blk 10 [.ref 2] 166, .blk 8 [.ref 0] 289, .pin 7 0 (env0 0), .inv 0 (I1 r.2.2.2.2.2.1), .ro 2 3 (List.map en_api_BookEntry r.2.2.2.2.2.2)]) [.ret] r.1) [.code (sub (bodyOf Try.f138) [1, 1, 1, 0, 1, 0, 0, 0, 0, 0, 0]), .code (sub (bodyOf Try.f138) [1, 1, 1, 0, 1, 0, 0, 0, 0, 0, 1]), .code (sub (bodyOf Try.f138) [1, 1, 1, 0, 1, 0, 0, 0, 0, 1]), .inLoop (sub (bodyOf Try.f138) [1, 1, 1, 0, 1, 0, 0, 0, 0]), .inBlock 2, .code (sub (bodyOf Try.f138) [1, 1, 1, 0, 1, 0, 1]), .inBlock 1] ([(3, .ptr 8 0), (4, .ptr 9 0), (5, .ptr 10 0), (6, .val (.int .i64 x8))]) ([.blk 8 [.ref 0] 289, .blk 9 [.val (.int .i64 i10), .val (.int .i64 i11), .val (.int .i64 i12), .val (.bool b13)] 173, .blk 10 [.ref 2] 166, .ro 2 3 (List.map en_api_BookEntry l14), .inv 15 (recI l0 rec), .pin 14 10 u7, .pin 13 9 u6, .pin 12 8 u5, .pin 7 0 (env0 0), .inv 0 (I1 y15)])) (h : ev_book_entries_replay_1_j2 yb1 n l14 i10 i11 i12 b13 k_book_entries_replay_1_l1 y17 = some r) : TC Try.prog ⟨w0, M0, R0⟩ ⟨34, some l0, []⟩ (RoundQ ⟨w0, M0, R0⟩ (.inv 15 (recI l0 rec) :: [.pin 14 10 u7, .pin 13 9 u6, .pin 12 8 u5, .blk 9 [.val (.int .i64 r.2.1), .val (.int .i64 r.2.2.1), .val (.int .i64 r.2.2.2.1), .val (.bool r.2.2.2.2.1)] 173, .blk 10 [.ref 2] 166, .blk 8 [.ref 0] 289, .pin 7 0 (env0 0), .inv 0 (I1 r.2.2.2.2.2.1), .ro 2 3 (List.map en_api_BookEntry r.2.2.2.2.2.2)]) [.ret] r.1) [.code (sub (bodyOf Try.f138) [1, 1, 1, 0, 1, 0, 0, 0, 0, 0, 1, 0]), .code (sub (bodyOf Try.f138) [1, 1, 1, 0, 1, 0, 0, 0, 0, 1]), .inLoop (sub (bodyOf Try.f138) [1, 1, 1, 0, 1, 0, 0, 0, 0]), .inBlock 2, .code (sub (bodyOf Try.f138) [1, 1, 1, 0, 1, 0, 1]), .inBlock 1] ([(3, .ptr 8 0), (4, .ptr 9 0), (5, .ptr 10 0), (6, .val (.int .i64 x8))]) ([.blk 8 [.ref 0] 289, .blk 9 [.val (.int .i64 i10), .val (.int .i64 i11), .val (.int .i64 i12), .val (.bool b13)] 173, .blk 10 [.ref 2] 166, .ro 2 3 (List.map en_api_BookEntry l14), .inv 15 (recI l0 rec), .pin 14 10 u7, .pin 13 9 u6, .pin 12 8 u5, .pin 7 0 (env0 0), .inv 0 (I1 y17)]) := by
  rw [ev_book_entries_replay_1_j2] at h
  refine TC.skip ?_
  refine TC.block ?_
  refine TC.seq ?_
  refine TC.region ?_
  refine op1 2 rfl (sp_loadB rfl isBlk rfl vt166 rfl) rfl trivial rfl rfl ?_
  obtain ⟨x18, h5, h6, h⟩ := idx_inv h
  refine op1 3 rfl (sp_indexS rfl rfl rfl isRo sl166 h5 (map_get _ h6)) rfl trivial rfl rfl ?_
  refine op1 3 rfl (sp_loadRA (i := (0 : Int).toNat) (j := 0) (as_ := [.val (.int .i64 x18.1), .val (.int .i64 x18.2.1), .val (.int .i64 x18.2.2)]) (ns := []) rfl rfl isRo vt35 rfl (map_get _ h6) rfl rfl (by decide) (.v (.v (.v (.nil)))) (nodup_of_B rfl)) rfl trivial rfl rfl ?_
  obtain ⟨r19, h7, h⟩ := bind_inv h
  refine opT (take := [.blk 9 [.val (.int .i64 i10), .val (.int .i64 i11), .val (.int .i64 i12), .val (.bool b13)] 173]) (need := []) (V' := [.blk 9 [.val (.int .i64 r19.1), .val (.int .i64 r19.2.1), .val (.int .i64 r19.2.2.1), .val (.bool r19.2.2.2)] 173, .blk 8 [.ref 0] 289, .blk 10 [.ref 2] 166, .ro 2 3 (List.map en_api_BookEntry l14), .inv 15 (recI l0 rec), .pin 14 10 u7, .pin 13 9 u6, .pin 12 8 u5, .pin 7 0 (env0 0), .inv 0 (I1 y17)]) [1] [] (ts_call (avs := [.ptr 9 0, .agg [.val (.int .i64 x18.1), .val (.int .i64 x18.2.1), .val (.int .i64 x18.2.2)]]) (take := [.blk 9 [.val (.int .i64 i10), .val (.int .i64 i11), .val (.int .i64 i12), .val (.bool b13)] 173]) (need := []) (v := .tup []) (news := [.blk 9 [.val (.int .i64 r19.1), .val (.int .i64 r19.2.1), .val (.int .i64 r19.2.2.1), .val (.bool r19.2.2.2)] 173]) rfl rfl rfl Try.call139 (atT [(0, 9)] [(0, 9)] (ft_p_book_clock_do h7) rfl rfl rfl) rfl rfl) trivial rfl ⟨rfl, trivial⟩ trivial rfl rfl ?_
  refine TL.nil ?_
  refine TC.region ?_
  refine op1 2 rfl (sp_loadB rfl isBlk rfl vt166 rfl) rfl trivial rfl rfl ?_
  obtain ⟨h8, h⟩ := chk_inv h
  refine op1 3 rfl (sp_sliceM (l := 1) (h := (l14.length : Int)) 16 (len_map _ _) rfl rfl sl166 (cut_some rfl) cut_none h8 (map_cut _ _ _ _)) rfl trivial rfl rfl ?_
  refine stoB 3 (cells' := [.ref 16]) rfl rfl trivial rfl rfl rfl rfl vt166 rfl rfl rfl ?_
  refine TL.nil ?_
  refine TC.inBlock ?_
  refine TC.inLoop ?_
  refine TC.seq ?_
  refine TC.seq ?_
  refine subJ [(2, 16)] (hk_book_entries_replay_1_l1 _ _ _ _ _ _ h) ?_ ?_ ?_
  · exact ⟨rfl, rfl, rfl, rfl, trivial⟩
  · exact ⟨mem_at 2 rfl, mem_at 1 rfl, mem_at 3 rfl, mem_at 0 rfl, mem_at 5 rfl, mem_at 6 rfl, mem_at 7 rfl, mem_at 8 rfl, mem_at 9 rfl, mem_at 10 rfl, trivial⟩
  · rfl
def ev_book_entries_replay_1_l1 {σ1 : Type} (yb1 : (Int × Int × Int × Bool) → σ1 → Option (Bool × σ1)) (n : Nat) (x8 : Int) : Nat → Int → Int → Int → Bool → (List (Int × Int × Int)) → σ1 → Option (Nat × (Int × Int × Int × Bool × σ1 × (List (Int × Int × Int))))
  | 0, _, _, _, _, _, _ => none
  | m + 1, i10, i11, i12, b13, l14, y15 => cond (decide ((0 : Int) < (l14.length : Int))) (idx l14 0 fun x16 => cond (decide (x16.1 ≤ x8)) (ev_book_entries_replay_1_j2 yb1 n l14 i10 i11 i12 b13 (fun i10q i11q i12q b13q l14q y15q => ev_book_entries_replay_1_l1 yb1 n x8 m i10q i11q i12q b13q l14q y15q) y15) ((ev_p_book_clock_to n i10 i11 i12 b13 x8).bind fun r20 => (yb1 (r20.1, r20.2.1, r20.2.2.1, r20.2.2.2) y15).bind fun r21 => cond (!r21.1) (some (1, (r20.1, r20.2.1, r20.2.2.1, r20.2.2.2, r21.2, l14))) (some (0, (r20.1, r20.2.1, r20.2.2.1, r20.2.2.2, r21.2, l14))))) ((ev_p_book_clock_to n i10 i11 i12 b13 x8).bind fun r22 => (yb1 (r22.1, r22.2.1, r22.2.2.1, r22.2.2.2) y15).bind fun r23 => cond (!r23.1) (some (1, (r22.1, r22.2.1, r22.2.2.1, r22.2.2.2, r23.2, l14))) (some (0, (r22.1, r22.2.1, r22.2.2.1, r22.2.2.2, r23.2, l14))))
set_option maxRecDepth 100000 in
set_option maxHeartbeats 2000000 in
theorem ok_book_entries_replay_1_l1 {σ1 : Type} {yb1 : (Int × Int × Int × Bool) → σ1 → Option (Bool × σ1)} {I1 : σ1 → Inv} (hI1 : Yields Try.prog ye_funcbook_clock_bool yn_funcbook_clock_bool yb1 I1) {n : Nat} {env0 : Env} {w0 : World} {M0 R0 : Nat → Prop} {l0 : Nat} {rec : Loop} {r : Nat × (Int × Int × Int × Bool × σ1 × (List (Int × Int × Int)))} {u7 : Value} {u6 : Value} {u5 : Value} {x8 : Int} : ∀ (m : Nat) (i10 : Int) (i11 : Int) (i12 : Int) (b13 : Bool) (l14 : List (Int × Int × Int)) (y15 : σ1), ev_book_entries_replay_1_l1 yb1 n x8 m i10 i11 i12 b13 l14 y15 = some r → TC Try.prog ⟨w0, M0, R0⟩ ⟨34, some l0, []⟩ (RoundQ ⟨w0, M0, R0⟩ (.inv 15 (recI l0 rec) :: [.pin 14 10 u7, .pin 13 9 u6, .pin 12 8 u5, .blk 9 [.val (.int .i64 r.2.1), .val (.int .i64 r.2.2.1), .val (.int .i64 r.2.2.2.1), .val (.bool r.2.2.2.2.1)] 173, .blk 10 [.ref 2] 166, .blk 8 [.ref 0] 289, .pin 7 0 (env0 0), .inv 0 (I1 r.2.2.2.2.2.1), .ro 2 3 (List.map en_api_BookEntry r.2.2.2.2.2.2)]) [.ret] r.1) [.code (sub (bodyOf Try.f138) [1, 1, 1, 0, 1, 0, 0, 0, 0, 0, 0]), .code (sub (bodyOf Try.f138) [1, 1, 1, 0, 1, 0, 0, 0, 0, 0, 1]), .code (sub (bodyOf Try.f138) [1, 1, 1, 0, 1, 0, 0, 0, 0, 1]), .inLoop (sub (bodyOf Try.f138) [1, 1, 1, 0, 1, 0, 0, 0, 0]), .inBlock 2, .code (sub (bodyOf Try.f138) [1, 1, 1, 0, 1, 0, 1]), .inBlock 1] ([(3, .ptr 8 0), (4, .ptr 9 0), (5, .ptr 10 0), (6, .val (.int .i64 x8))]) ([.blk 8 [.ref 0] 289, .blk 9 [.val (.int .i64 i10), .val (.int .i64 i11), .val (.int .i64 i12), .val (.bool b13)] 173, .blk 10 [.ref 2] 166, .ro 2 3 (List.map en_api_BookEntry l14), .inv 15 (recI l0 rec), .pin 14 10 u7, .pin 13 9 u6, .pin 12 8 u5, .pin 7 0 (env0 0), .inv 0 (I1 y15)]) := by
  intro m
  induction m with
  | zero => intro i10 i11 i12 b13 l14 y15 h; exact none_no h
  | succ m ih =>
    intro i10 i11 i12 b13 l14 y15 h
    rw [ev_book_entries_replay_1_l1] at h
    refine TC.region ?_
    refine op1 2 rfl (sp_loadB rfl isBlk rfl vt166 rfl) rfl trivial rfl rfl ?_
    refine op1 3 rfl (sp_lenM (N := l14.length) (len_map _ _) rfl rfl isRo Try.underlying166) rfl trivial rfl rfl ?_
    refine op0 (sp_gtr rfl rfl rfl) rfl trivial rfl rfl ?_
    refine op0 (sp_move rfl rfl) rfl trivial rfl rfl ?_
    rcases cond_cases h with ⟨h1, h⟩ | ⟨h1, h⟩
    · refine (boolLit 14 rfl h1).2 ?_
      refine op1 2 rfl (sp_loadB rfl isBlk rfl vt166 rfl) rfl ⟨_, rfl, rfl⟩ rfl rfl ?_
      obtain ⟨x16, h2, h3, h⟩ := idx_inv h
      refine op1 3 rfl (sp_indexS rfl rfl rfl isRo sl166 h2 (map_get _ h3)) rfl ⟨_, rfl, rfl⟩ rfl rfl ?_
      refine op1 3 rfl (sp_fieldAddrR (i := (0 : Int).toNat) rfl rfl isRo ft35_0 vt3 (by decide) (map_get _ h3) (fun h => nomatch h)) rfl ⟨_, rfl, rfl⟩ rfl rfl ?_
      refine op1 3 rfl (sp_loadR (i := (0 : Int).toNat) (j := 0) rfl rfl isRo vt3 rfl (map_get _ h3) rfl (.v (.nil)) (nodup_of_B rfl)) rfl ⟨_, rfl, rfl⟩ rfl rfl ?_
      refine op0 (sp_move rfl rfl) rfl ⟨_, rfl, rfl⟩ rfl rfl ?_
      refine op0 (sp_leq rfl rfl rfl) rfl ⟨_, rfl, rfl⟩ rfl rfl ?_
      refine op0 (sp_pickT rfl rfl rfl) rfl trivial rfl rfl ?_
      refine TL.nil ?_
      refine TC.cond (b := (decide (x16.1 ≤ x8))) rfl (fun h4 => ?_) (fun h4 => ?_)
      · have h := cond_t h h4
        refine subJ [] (ok_book_entries_replay_1_j2 hI1 (u7 := u7) (u6 := u6) (u5 := u5) (x8 := x8) ih h) ?_ ?_ ?_
        · exact ⟨rfl, rfl, rfl, rfl, trivial⟩
        · exact ⟨mem_at 0 rfl, mem_at 1 rfl, mem_at 2 rfl, mem_at 3 rfl, mem_at 4 rfl, mem_at 5 rfl, mem_at 6 rfl, mem_at 7 rfl, mem_at 8 rfl, mem_at 9 rfl, trivial⟩
        · rfl
      · have h := cond_f h h4
        refine TC.exit rfl ?_
        refine TC.seq ?_
        refine TC.region ?_
        refine op0 (sp_move rfl rfl) rfl trivial rfl rfl ?_
        obtain ⟨r20, h9, h⟩ := bind_inv h
        refine opT (take := [.blk 9 [.val (.int .i64 i10), .val (.int .i64 i11), .val (.int .i64 i12), .val (.bool b13)] 173]) (need := []) (V' := [.blk 9 [.val (.int .i64 r20.1), .val (.int .i64 r20.2.1), .val (.int .i64 r20.2.2.1), .val (.bool r20.2.2.2)] 173, .blk 8 [.ref 0] 289, .blk 10 [.ref 2] 166, .ro 2 3 (List.map en_api_BookEntry l14), .inv 15 (recI l0 rec), .pin 14 10 u7, .pin 13 9 u6, .pin 12 8 u5, .pin 7 0 (env0 0), .inv 0 (I1 y15)]) [1] [] (ts_call (avs := [.ptr 9 0, .val (.int .i64 x8)]) (take := [.blk 9 [.val (.int .i64 i10), .val (.int .i64 i11), .val (.int .i64 i12), .val (.bool b13)] 173]) (need := []) (v := .tup []) (news := [.blk 9 [.val (.int .i64 r20.1), .val (.int .i64 r20.2.1), .val (.int .i64 r20.2.2.1), .val (.bool r20.2.2.2)] 173]) rfl rfl rfl Try.call140 (atT [(0, 9)] [(0, 9)] (ft_p_book_clock_to h9) rfl rfl rfl) rfl rfl) trivial rfl ⟨rfl, trivial⟩ trivial rfl rfl ?_
        refine TL.nil ?_
        refine TC.seq ?_
        refine TC.region ?_
        refine op1 1 rfl (sp_loadB rfl isBlk rfl vt289 rfl) rfl trivial rfl rfl ?_
        refine op1 0 rfl (sp_loadBA rfl isBlk rfl vt173 rfl rfl) rfl trivial rfl rfl ?_
        obtain ⟨r21, h10, h⟩ := bind_inv h
        refine opT (take := [.inv 0 (I1 y15)]) (need := []) (V' := [.inv 0 (I1 r21.2), .blk 9 [.val (.int .i64 r20.1), .val (.int .i64 r20.2.1), .val (.int .i64 r20.2.2.1), .val (.bool r20.2.2.2)] 173, .blk 8 [.ref 0] 289, .blk 10 [.ref 2] 166, .ro 2 3 (List.map en_api_BookEntry l14), .inv 15 (recI l0 rec), .pin 14 10 u7, .pin 13 9 u6, .pin 12 8 u5, .pin 7 0 (env0 0)]) [9] [] (ts_yield hI1 (x := (r20.1, r20.2.1, r20.2.2.1, r20.2.2.2)) (b := r21.1) (avs := [.agg [.val (.int .i64 r20.1), .val (.int .i64 r20.2.1), .val (.int .i64 r20.2.2.1), .val (.bool r20.2.2.2)]]) (need := []) [] h10 rfl rfl rfl rfl rfl rfl) trivial rfl ⟨rfl, trivial⟩ trivial rfl rfl ?_
        refine op0 (sp_not rfl rfl) rfl trivial rfl rfl ?_
        refine TL.nil ?_
        refine TC.cond (b := (!r21.1)) rfl (fun h11 => ?_) (fun h11 => ?_)
        · have h := cond_t h h11
          cases h
          exact bodyRet (j := 1) rfl [] ⟨mem_at 5 rfl, mem_at 6 rfl, mem_at 7 rfl, mem_at 8 rfl, mem_at 1 rfl, mem_at 3 rfl, mem_at 2 rfl, mem_at 9 rfl, mem_at 0 rfl, mem_at 4 rfl, trivial⟩ rfl
        · have h := cond_f h h11
          refine TC.skip ?_
          refine TC.inBlock ?_
          cases h
          exact bodyEnd [] ⟨mem_at 5 rfl, mem_at 6 rfl, mem_at 7 rfl, mem_at 8 rfl, mem_at 1 rfl, mem_at 3 rfl, mem_at 2 rfl, mem_at 9 rfl, mem_at 0 rfl, mem_at 4 rfl, trivial⟩ rfl
    · refine (boolLit 14 rfl h1).2 ?_
      refine opSkip rfl ⟨_, rfl, .inl rfl⟩ rfl ?_
      refine opSkip rfl ⟨_, rfl, .inl rfl⟩ rfl ?_
      refine opSkip rfl ⟨_, rfl, .inl rfl⟩ rfl ?_
      refine opSkip rfl ⟨_, rfl, .inl rfl⟩ rfl ?_
      refine opSkip rfl ⟨_, rfl, .inl rfl⟩ rfl ?_
      refine opSkip rfl ⟨_, rfl, .inl rfl⟩ rfl ?_
      refine op0 (sp_pickF rfl rfl rfl) rfl trivial rfl rfl ?_
      refine TL.nil ?_
      refine TC.condF rfl ?_
      refine TC.exit rfl ?_
      refine TC.seq ?_
      refine TC.region ?_
      refine op0 (sp_move rfl rfl) rfl trivial rfl rfl ?_
      obtain ⟨r22, h12, h⟩ := bind_inv h
      refine opT (take := [.blk 9 [.val (.int .i64 i10), .val (.int .i64 i11), .val (.int .i64 i12), .val (.bool b13)] 173]) (need := []) (V' := [.blk 9 [.val (.int .i64 r22.1), .val (.int .i64 r22.2.1), .val (.int .i64 r22.2.2.1), .val (.bool r22.2.2.2)] 173, .blk 8 [.ref 0] 289, .blk 10 [.ref 2] 166, .ro 2 3 (List.map en_api_BookEntry l14), .inv 15 (recI l0 rec), .pin 14 10 u7, .pin 13 9 u6, .pin 12 8 u5, .pin 7 0 (env0 0), .inv 0 (I1 y15)]) [1] [] (ts_call (avs := [.ptr 9 0, .val (.int .i64 x8)]) (take := [.blk 9 [.val (.int .i64 i10), .val (.int .i64 i11), .val (.int .i64 i12), .val (.bool b13)] 173]) (need := []) (v := .tup []) (news := [.blk 9 [.val (.int .i64 r22.1), .val (.int .i64 r22.2.1), .val (.int .i64 r22.2.2.1), .val (.bool r22.2.2.2)] 173]) rfl rfl rfl Try.call140 (atT [(0, 9)] [(0, 9)] (ft_p_book_clock_to h12) rfl rfl rfl) rfl rfl) trivial rfl ⟨rfl, trivial⟩ trivial rfl rfl ?_
      refine TL.nil ?_
      refine TC.seq ?_
      refine TC.region ?_
      refine op1 1 rfl (sp_loadB rfl isBlk rfl vt289 rfl) rfl trivial rfl rfl ?_
      refine op1 0 rfl (sp_loadBA rfl isBlk rfl vt173 rfl rfl) rfl trivial rfl rfl ?_
      obtain ⟨r23, h13, h⟩ := bind_inv h
      refine opT (take := [.inv 0 (I1 y15)]) (need := []) (V' := [.inv 0 (I1 r23.2), .blk 9 [.val (.int .i64 r22.1), .val (.int .i64 r22.2.1), .val (.int .i64 r22.2.2.1), .val (.bool r22.2.2.2)] 173, .blk 8 [.ref 0] 289, .blk 10 [.ref 2] 166, .ro 2 3 (List.map en_api_BookEntry l14), .inv 15 (recI l0 rec), .pin 14 10 u7, .pin 13 9 u6, .pin 12 8 u5, .pin 7 0 (env0 0)]) [9] [] (ts_yield hI1 (x := (r22.1, r22.2.1, r22.2.2.1, r22.2.2.2)) (b := r23.1) (avs := [.agg [.val (.int .i64 r22.1), .val (.int .i64 r22.2.1), .val (.int .i64 r22.2.2.1), .val (.bool r22.2.2.2)]]) (need := []) [] h13 rfl rfl rfl rfl rfl rfl) trivial rfl ⟨rfl, trivial⟩ trivial rfl rfl ?_
      refine op0 (sp_not rfl rfl) rfl trivial rfl rfl ?_
      refine TL.nil ?_
      refine TC.cond (b := (!r23.1)) rfl (fun h14 => ?_) (fun h14 => ?_)
      · have h := cond_t h h14
        cases h
        exact bodyRet (j := 1) rfl [] ⟨mem_at 5 rfl, mem_at 6 rfl, mem_at 7 rfl, mem_at 8 rfl, mem_at 1 rfl, mem_at 3 rfl, mem_at 2 rfl, mem_at 9 rfl, mem_at 0 rfl, mem_at 4 rfl, trivial⟩ rfl
      · have h := cond_f h h14
        refine TC.skip ?_
        refine TC.inBlock ?_
        cases h
        exact bodyEnd [] ⟨mem_at 5 rfl, mem_at 6 rfl, mem_at 7 rfl, mem_at 8 rfl, mem_at 1 rfl, mem_at 3 rfl, mem_at 2 rfl, mem_at 9 rfl, mem_at 0 rfl, mem_at 4 rfl, trivial⟩ rfl
def ev_book_entries_replay_1_r0 {σ1 : Type} (yb1 : (Int × Int × Int × Bool) → σ1 → Option (Bool × σ1)) (n : Nat) (x8 : Int) (y9 : Int × Int × Int × Bool × σ1 × (List (Int × Int × Int))) : Option (Nat × (Int × Int × Int × Bool × σ1 × (List (Int × Int × Int)))) :=
  ev_book_entries_replay_1_l1 yb1 n x8 n y9.1 y9.2.1 y9.2.2.1 y9.2.2.2.1 y9.2.2.2.2.2 y9.2.2.2.2.1
set_option maxRecDepth 100000 in
set_option maxHeartbeats 2000000 in
theorem ok_book_entries_replay_1_r0 {σ1 : Type} {yb1 : (Int × Int × Int × Bool) → σ1 → Option (Bool × σ1)} {I1 : σ1 → Inv} (hI1 : Yields Try.prog ye_funcbook_clock_bool yn_funcbook_clock_bool yb1 I1) {n : Nat} {env0 : Env} {u7 : Value} {u6 : Value} {u5 : Value} {x8 : Int} {y9 : Int × Int × Int × Bool × σ1 × (List (Int × Int × Int))} {r : Nat × (Int × Int × Int × Bool × σ1 × (List (Int × Int × Int)))} (h : ev_book_entries_replay_1_r0 yb1 n x8 y9 = some r) (l0 : Nat) (rec : Loop) (hrd : rec.state = .ready) (w0 : World) (M0 R0 : Nat → Prop) : TC Try.prog ⟨w0, M0, R0⟩ ⟨34, some l0, []⟩ (RoundQ ⟨w0, M0, R0⟩ (.inv 15 (recI l0 (busyR rec)) :: [.pin 14 10 u7, .pin 13 9 u6, .pin 12 8 u5, .blk 9 [.val (.int .i64 r.2.1), .val (.int .i64 r.2.2.1), .val (.int .i64 r.2.2.2.1), .val (.bool r.2.2.2.2.1)] 173, .blk 10 [.ref 2] 166, .blk 8 [.ref 0] 289, .pin 7 0 (env0 0), .inv 0 (I1 r.2.2.2.2.2.1), .ro 2 3 (List.map en_api_BookEntry r.2.2.2.2.2.2)]) [.ret] r.1) [.code (sub (bodyOf Try.f138) [1, 1, 1, 0, 0]), .beginRound, .code (sub (bodyOf Try.f138) [1, 1, 1, 0, 1])] (pSlots [10] (ye_funcint_bool x8) [(3, .ptr 8 0), (4, .ptr 9 0), (5, .ptr 10 0)]) (.inv 15 (recI l0 rec) :: yn_funcint_bool x8 ++ (fun y9 : Int × Int × Int × Bool × σ1 × (List (Int × Int × Int)) => [.pin 14 10 u7, .pin 13 9 u6, .pin 12 8 u5, .blk 9 [.val (.int .i64 y9.1), .val (.int .i64 y9.2.1), .val (.int .i64 y9.2.2.1), .val (.bool y9.2.2.2.1)] 173, .blk 10 [.ref 2] 166, .blk 8 [.ref 0] 289, .pin 7 0 (env0 0), .inv 0 (I1 y9.2.2.2.2.1), .ro 2 3 (List.map en_api_BookEntry y9.2.2.2.2.2)]) y9) := by
  rw [ev_book_entries_replay_1_r0] at h
  refine subJ (s' := [(3, .ptr 8 0), (4, .ptr 9 0), (5, .ptr 10 0), (10, .val (.int .i64 x8))]) (V' := [.inv 15 (recI l0 rec), .pin 14 10 u7, .pin 13 9 u6, .pin 12 8 u5, .blk 9 [.val (.int .i64 y9.1), .val (.int .i64 y9.2.1), .val (.int .i64 y9.2.2.1), .val (.bool y9.2.2.2.1)] 173, .blk 10 [.ref 2] 166, .blk 8 [.ref 0] 289, .pin 7 0 (env0 0), .inv 0 (I1 y9.2.2.2.2.1), .ro 2 3 (List.map en_api_BookEntry y9.2.2.2.2.2)]) [] ?_ ⟨rfl, rfl, rfl, rfl, trivial⟩ ⟨mem_at 0 rfl, mem_at 1 rfl, mem_at 2 rfl, mem_at 3 rfl, mem_at 4 rfl, mem_at 5 rfl, mem_at 6 rfl, mem_at 7 rfl, mem_at 8 rfl, mem_at 9 rfl, trivial⟩ rfl
  refine TC.region ?_
  refine op0 (sp_assign rfl rfl) rfl trivial rfl rfl ?_
  refine TL.nil ?_
  refine TC.beginRound 0 rfl hrd ?_
  refine TC.block ?_
  refine TC.seq ?_
  refine TC.block ?_
  refine TC.loop ?_
  refine TC.seq ?_
  refine TC.seq ?_
  refine subJ [] (ok_book_entries_replay_1_l1 hI1 (u7 := u7) (u6 := u6) (u5 := u5) _ _ _ _ _ _ _ h) ?_ ?_ ?_
  · exact ⟨rfl, rfl, rfl, rfl, trivial⟩
  · exact ⟨mem_at 6 rfl, mem_at 4 rfl, mem_at 5 rfl, mem_at 9 rfl, mem_at 0 rfl, mem_at 1 rfl, mem_at 2 rfl, mem_at 3 rfl, mem_at 7 rfl, mem_at 8 rfl, trivial⟩
  · rfl
def ev_book_entries_replay_1 {σ1 : Type} (yb1 : (Int × Int × Int × Bool) → σ1 → Option (Bool × σ1)) (n : Nat) (y1 : σ1) (c2 : List (Int × Int × Int)) (c3 : Int) (c4 : Int) : Option σ1 :=
  (ev_book_Noons_1 (loopStep (ev_book_entries_replay_1_r0 yb1 n)) n ((0, 0, 0, false, y1, c2), 0) c3 c4).bind fun q24 => cond (q24.2 == 0) (some q24.1.2.2.2.2.1) (cond (q24.2 == 1) (some q24.1.2.2.2.2.1) (none))
set_option maxRecDepth 100000 in
set_option maxHeartbeats 2000000 in
theorem ft_book_entries_replay_1 {σ1 : Type} {yb1 : (Int × Int × Int × Bool) → σ1 → Option (Bool × σ1)} {I1 : σ1 → Inv} (hI1 : Yields Try.prog ye_funcbook_clock_bool yn_funcbook_clock_bool yb1 I1) {n : Nat} {y1 : σ1} {c2 : List (Int × Int × Int)} {c3 : Int} {c4 : Int} {r : σ1} (h : ev_book_entries_replay_1 yb1 n y1 c2 c3 c4 = some r) : FT Try.prog 138 [.ref 0, .ptr 1 0, .ptr 3 0] [.inv 0 (I1 y1)] [.rob 1 [.ref 2] 166, .ro 2 3 (List.map en_api_BookEntry c2), .rob 3 [.fn 64 [] [.ptr 4 0, .ptr 5 0]] 169, .rob 4 [.val (.int .i64 c3)] 3, .rob 5 [.val (.int .i64 c4)] 3] (.tup []) [.inv 0 (I1 r)] := by
  refine introM (nz := 34) 6 [(7, 0)] Try.func138 rfl rfl rfl rfl (fun w0 M0 R0 env0 => ?_)
  rw [ev_book_entries_replay_1] at h
  refine TC.seq ?_
  refine TC.region ?_
  refine op0 (sp_box 8 rfl rfl rfl rfl rfl) rfl trivial rfl rfl ?_
  refine TL.nil ?_
  refine TC.seq ?_
  refine drawJ 5 [⟨.agg [.val (.int .i64 0), .val (.int .i64 0), .val (.int .i64 0), .val (.bool false)], [], [], []⟩, ⟨.ref 2, [], [.rob 1 [.ref 2] 166], []⟩, ⟨.ptr 9 0, [.blk 9 [.val (.int .i64 0), .val (.int .i64 0), .val (.int .i64 0), .val (.bool false)] 173], [], []⟩, ⟨.ptr 10 0, [.blk 10 [.val (.slice none 0 0)] 166], [], []⟩, ⟨.val (undef), [.blk 9 [.val (.int .i64 0), .val (.int .i64 0), .val (.int .i64 0), .val (.bool false)] 173], [], [.blk 9 [.val (.int .i64 0), .val (.int .i64 0), .val (.int .i64 0), .val (.bool false)] 173]⟩] rfl ?_ rfl ?_ rfl ?_ ?_
  · kernel_rfl
  · kernel_rfl
  · exact DAll.op' (sp_build (qs := []) rfl bt173 rfl rfl rfl rfl) trivial rfl (From.ok (ps := []) trivial) (DAll.op' (sp_loadB rfl isRob rfl vt166 rfl) trivial rfl (From.ok (ps := [(none, 4)]) ⟨⟨rfl, by kernel_rfl⟩, trivial⟩) (DAll.op' (sp_alloc 9 rfl Try.zeroValue173 rfl) trivial rfl (From.ok (ps := []) trivial) (DAll.op' (sp_alloc 10 rfl Try.zeroValue166 rfl) trivial rfl (From.ok (ps := []) trivial) (DAll.opT (ts_storeB (off := 0) (cells' := [.val (.int .i64 0), .val (.int .i64 0), .val (.int .i64 0), .val (.bool false)]) rfl rfl rfl rfl vt173 rfl rfl rfl) trivial (From.ok (ps := [(some 2, 0)]) ⟨⟨_, rfl, by kernel_rfl, rfl, by kernel_rfl⟩, trivial⟩) (From.ok (ps := []) trivial) (.nil)))))
  refine stoB 1 (cells' := [.ref 2]) rfl rfl trivial rfl rfl rfl rfl vt166 rfl rfl rfl ?_
  refine TL.nil ?_
  refine TC.seq ?_
  refine TC.region ?_
  refine op1 8 rfl (sp_loadB rfl isRob rfl vt169 rfl) rfl trivial rfl rfl ?_
  refine TL.nil ?_
  refine TC.block ?_
  refine TC.pin 12 8 rfl rfl fun u5 => ?_
  refine TC.pin 13 9 rfl rfl fun u6 => ?_
  refine TC.pin 14 10 rfl rfl fun u7 => ?_
  obtain ⟨q24, h15, h⟩ := bind_inv h
  refine rangeO (T := []) (T' := []) (k := 11) (gm := 6) (grec := 15) (S := [(3, .ptr 8 0), (4, .ptr 9 0), (5, .ptr 10 0)]) (V0 := (fun y9 : Int × Int × Int × Bool × σ1 × (List (Int × Int × Int)) => [.pin 14 10 u7, .pin 13 9 u6, .pin 12 8 u5, .blk 9 [.val (.int .i64 y9.1), .val (.int .i64 y9.2.1), .val (.int .i64 y9.2.2.1), .val (.bool y9.2.2.2.1)] 173, .blk 10 [.ref 2] 166, .blk 8 [.ref 0] 289, .pin 7 0 (env0 0), .inv 0 (I1 y9.2.2.2.2.1), .ro 2 3 (List.map en_api_BookEntry y9.2.2.2.2.2)])) (needI := [.rob 4 [.val (.int .i64 c3)] 3, .rob 5 [.val (.int .i64 c4)] 3]) (ps := [10]) (jl := [.ret]) (ea := ye_funcint_bool) (en := yn_funcint_bool) (f := (ev_book_entries_replay_1_r0 yb1 n)) (s0 := ((0, 0, 0, false, y1, c2), 0)) (yf := q24) (v := .tup []) (fi := []) (caps := [.ptr 4 0, .ptr 5 0])
    ⟨fun x y r hr l rec hrd w0 M0 R0 => ok_book_entries_replay_1_r0 hI1 (u7 := u7) (u6 := u6) (u5 := u5) hr l rec hrd w0 M0 R0, ⟨rfl, rfl, rfl, trivial⟩, At.mem (is := [0, 1, 2, 3, 4, 5, 7, 8, 10]) ⟨rfl, rfl, rfl, rfl, rfl, rfl, rfl, rfl, rfl, trivial⟩, At.mem (is := [12, 13]) ⟨rfl, rfl, trivial⟩, rfl, pinsIn [8, 9, 10] [2, 1, 0] ⟨⟨_, _, fun _ => rfl⟩, ⟨_, _, fun _ => rfl⟩, ⟨_, _, fun _ => rfl⟩, trivial⟩ rfl, rfl, fun _ => rfl, fun _ _ => rfl, fun _ => rfl, fun _ _ => rfl, fun _ => rfl, fun _ => rfl, fun _ => rfl, rfl, rfl, fun _ => rfl, rfl⟩
    rfl rfl Try.call64 (takesNil rfl) 6 rfl (fun I hI => atT [(0, 11), (1, 4), (2, 5)] [(0, 11)] (ft_book_Noons_1 hI h15) rfl rfl rfl) (fun d => ?_)
  rcases cond_cases h with ⟨h16, h⟩ | ⟨h16, h⟩
  · refine done0 h16 ?_
    refine TC.inBlock ?_
    cases h
    exact endM [] 0 6 [0] rfl (.nil) rfl ⟨mem_at 7 rfl, trivial⟩ rfl rfl ⟨⟨_, mem_at 6 rfl⟩, trivial⟩ rfl
  · rcases cond_cases h with ⟨h17, h⟩ | ⟨h17, h⟩
    · refine doneJ 1 h17 rfl ?_
      cases h
      exact retM [] 0 6 [0] rfl (.nil) rfl ⟨mem_at 7 rfl, trivial⟩ rfl rfl ⟨⟨_, mem_at 6 rfl⟩, trivial⟩ rfl
    · exact none_no h
/- book_Noons -/
def ev_book_Noons_r1 (n : Nat) (x10 : Int × Int × Int × Bool) (y11 : (List Int)) : Option (Nat × ((List Int))) :=
  chk (in64 (Int.tdiv x10.1 86400)) <| chk (room 8 (y11.length + ([(Int.tdiv x10.1 86400)] : List Int).length)) <| some (0, (y11 ++ ([(Int.tdiv x10.1 86400)] : List Int)))
set_option maxRecDepth 100000 in
set_option maxHeartbeats 2000000 in
theorem ok_book_Noons_r1 {n : Nat} {u9 : Value} {x10 : Int × Int × Int × Bool} {y11 : (List Int)} {r : Nat × ((List Int))} (h : ev_book_Noons_r1 n x10 y11 = some r) (l0 : Nat) (rec : Loop) (hrd : rec.state = .ready) (w0 : World) (M0 R0 : Nat → Prop) : TC Try.prog ⟨w0, M0, R0⟩ ⟨46, some l0, []⟩ (RoundQ ⟨w0, M0, R0⟩ (.inv 18 (recI l0 (busyR rec)) :: [.pin 17 4 u9, .row 15 3 1 (List.map en_int r.2), .blk 4 [.ref 15] 37]) [] r.1) [.code (sub (bodyOf Try.f16) [1, 1, 1, 1, 1, 0, 1, 0, 0]), .beginRound, .code (sub (bodyOf Try.f16) [1, 1, 1, 1, 1, 0, 1, 0, 1])] (pSlots [38] (ye_funcbook_clock_bool x10) [(6, .ptr 4 0)]) (.inv 18 (recI l0 rec) :: yn_funcbook_clock_bool x10 ++ (fun y11 : (List Int) => [.pin 17 4 u9, .row 15 3 1 (List.map en_int y11), .blk 4 [.ref 15] 37]) y11) := by
  rw [ev_book_Noons_r1] at h
  refine subJ (s' := [(6, .ptr 4 0), (38, .agg [.val (.int .i64 x10.1), .val (.int .i64 x10.2.1), .val (.int .i64 x10.2.2.1), .val (.bool x10.2.2.2)])]) (V' := [.inv 18 (recI l0 rec), .pin 17 4 u9, .row 15 3 1 (List.map en_int y11), .blk 4 [.ref 15] 37]) [] ?_ ⟨rfl, rfl, trivial⟩ ⟨mem_at 0 rfl, mem_at 1 rfl, mem_at 2 rfl, mem_at 3 rfl, trivial⟩ rfl
  refine TC.region ?_
  refine op0 (sp_alloc 19 rfl Try.zeroValue173 rfl) rfl trivial rfl rfl ?_
  refine stoB 0 (cells' := [.val (.int .i64 x10.1), .val (.int .i64 x10.2.1), .val (.int .i64 x10.2.2.1), .val (.bool x10.2.2.2)]) rfl rfl trivial rfl rfl rfl rfl vt173 rfl rfl rfl ?_
  refine TL.nil ?_
  refine TC.beginRound 1 rfl hrd ?_
  refine TC.block ?_
  refine TC.region ?_
  refine op1 4 rfl (sp_loadB rfl isBlk rfl vt37 rfl) rfl trivial rfl rfl ?_
  refine op1 0 rfl (sp_fieldAddrB rfl isBlk rfl ft173_0 vt3 (by decide)) rfl trivial rfl rfl ?_
  refine op1 0 rfl (sp_loadB rfl isBlk rfl vt3 rfl) rfl trivial rfl rfl ?_
  obtain ⟨h9, h⟩ := chk_inv h
  refine op0 (sp_quo rfl rfl rfl (by decide) h9) rfl trivial rfl rfl ?_
  refine op0 (sp_buildSlice (qs := [.val (.int .i64 (Int.tdiv x10.1 86400))]) (need := []) (els := List.map en_int ([(Int.tdiv x10.1 86400)] : List Int)) 20 rfl sl37 (by decide) (by decide) rfl rfl rfl (.v (.nil)) (map_len fun _ => rfl) rfl rfl rfl) rfl trivial rfl rfl ?_
  obtain ⟨h10, h⟩ := chk_inv h
  refine appM 4 0 (N := y11.length) (N2 := ([(Int.tdiv x10.1 86400)] : List Int).length) 21 rfl rfl trivial rfl rfl rfl rfl rfl isOwn rfl sl37 (len_map _ _) (len_map _ _) h10 (map_app _ _ _) rfl ?_
  refine stoB 5 (cells' := [.ref 21]) rfl rfl trivial rfl rfl rfl rfl vt37 rfl rfl rfl ?_
  refine TL.nil ?_
  refine TC.inBlock ?_
  cases h
  exact bodyEnd [(15, 21)] ⟨mem_at 3 rfl, mem_at 4 rfl, mem_at 0 rfl, mem_at 5 rfl, trivial⟩ rfl
def ev_book_Noons_j0 (n : Nat) (list1 : List (Int × Int × Int)) (many3 : Int) (from_2 : Int) : Option ((List Int) × Int) :=
  (ev_book_entries_replay n list1 many3 from_2).bind fun r7 => (ev_book_entries_replay_1 (loopStep (ev_book_Noons_r1 n)) n (([] : List Int), 0) r7.1 r7.2.1 r7.2.2).bind fun q12 => cond (q12.2 == 0) (some (q12.1, 0)) (none)
set_option maxRecDepth 100000 in
set_option maxHeartbeats 2000000 in
theorem ok_book_Noons_j0 {n : Nat} {w0 : World} {M0 R0 : Nat → Prop} {env0 : Env} {df : List Deferred} {r : (List Int) × Int} {from_2 : Int} {many3 : Int} {list1 : List (Int × Int × Int)} (h : ev_book_Noons_j0 n list1 many3 from_2 = some r) : TC Try.prog ⟨w0, M0, R0⟩ ⟨46, none, df⟩ (bodyPostM Fence.wide 0 Try.prog Try.f16 (PostT ⟨w0, M0, R0⟩ env0 [] (.tup [.ref 500, .val (.int .i64 r.2)]) [.row 500 3 1 (List.map en_int r.1)])) [.code (sub (bodyOf Try.f16) [1, 1, 1, 0, 1, 1]), .code (sub (bodyOf Try.f16) [1, 1, 1, 1])] ([(4, .ptr 2 0), (5, .ptr 3 0), (6, .ptr 4 0), (8, .ref 0)]) ([.blk 2 [.val (.int .i64 from_2)] 3, .blk 3 [.val (.int .i64 many3)] 3, .blk 4 [.val (.slice none 0 0)] 37, .ro 0 3 (List.map en_api_BookEntry list1), .inv 1 (marksI df)]) := by
  rw [ev_book_Noons_j0] at h
  refine TC.skip ?_
  refine TC.seq ?_
  refine TC.region ?_
  refine op0 (sp_makeFunc (fi := []) (ca := [.tmp 5, .tmp 4]) (fa := []) (cb := [.ptr 3 0, .ptr 2 0]) rfl rfl rfl) rfl trivial rfl rfl ?_
  refine op0 (sp_assign rfl rfl) rfl trivial rfl rfl ?_
  refine TL.nil ?_
  refine TC.seq ?_
  refine TC.seq ?_
  refine TC.region ?_
  refine op0 (sp_move rfl rfl) rfl trivial rfl rfl ?_
  refine op0 (sp_move rfl rfl) rfl trivial rfl rfl ?_
  refine TL.freeze 1 rfl ?_
  refine TL.freeze 0 rfl ?_
  obtain ⟨r7, h8, h⟩ := bind_inv h
  refine opN (need := [.ro 0 3 (List.map en_api_BookEntry list1), .rob 3 [.val (.int .i64 many3)] 3, .rob 2 [.val (.int .i64 from_2)] 3]) [3, 1, 0] ⟨rfl, rfl, rfl, trivial⟩ (sp_call (avs := [.ref 0, .fn 64 [] [.ptr 3 0, .ptr 2 0]]) (need := [.ro 0 3 (List.map en_api_BookEntry list1), .rob 3 [.val (.int .i64 many3)] 3, .rob 2 [.val (.int .i64 from_2)] 3]) (v := .fn 138 [] [.ptr 10 0, .ptr 12 0]) (news := [.blk 10 [.ref 11] 166, .ro 11 3 (List.map en_api_BookEntry r7.1), .blk 12 [.fn 64 [] [.ptr 13 0, .ptr 14 0]] 169, .rob 13 [.val (.int .i64 r7.2.1)] 3, .rob 14 [.val (.int .i64 r7.2.2)] 3]) rfl rfl rfl Try.call65 (atJ [(1, 3)] [(0, 10), (1, 11), (2, 12), (3, 13), (4, 14)] (fc_book_entries_replay h8) rfl rfl) (.inl (roAll rfl))) rfl trivial rfl rfl ?_
  refine TL.nil ?_
  refine TC.block ?_
  refine nilCellC 7 15 3 1 4 (List.map en_int []) [.ref 15] rfl rfl rfl ?_
  refine TC.freeze 1 rfl ?_
  refine TC.freeze 3 rfl ?_
  refine TC.pin 17 4 rfl rfl fun u9 => ?_
  obtain ⟨q12, h11, h⟩ := bind_inv h
  refine rangeO (T := []) (T' := []) (k := 16) (gm := 1) (grec := 18) (S := [(6, .ptr 4 0)]) (V0 := (fun y11 : (List Int) => [.pin 17 4 u9, .row 15 3 1 (List.map en_int y11), .blk 4 [.ref 15] 37])) (needI := [.rob 10 [.ref 11] 166, .ro 11 3 (List.map en_api_BookEntry r7.1), .rob 12 [.fn 64 [] [.ptr 13 0, .ptr 14 0]] 169, .rob 13 [.val (.int .i64 r7.2.1)] 3, .rob 14 [.val (.int .i64 r7.2.2)] 3]) (ps := [38]) (jl := []) (ea := ye_funcbook_clock_bool) (en := yn_funcbook_clock_bool) (f := (ev_book_Noons_r1 n)) (s0 := (([] : List Int), 0)) (yf := q12) (v := .tup []) (fi := []) (caps := [.ptr 10 0, .ptr 12 0])
    ⟨fun x y r hr l rec hrd w0 M0 R0 => ok_book_Noons_r1 (u9 := u9) hr l rec hrd w0 M0 R0, ⟨rfl, trivial⟩, At.mem (is := [0, 1, 9]) ⟨rfl, rfl, rfl, trivial⟩, At.mem (is := [2, 3, 4, 5, 6]) ⟨rfl, rfl, rfl, rfl, rfl, trivial⟩, rfl, pinsIn [4] [0] ⟨⟨_, _, fun _ => rfl⟩, trivial⟩ rfl, rfl, fun _ => rfl, fun _ _ => rfl, fun _ => rfl, fun _ _ => rfl, fun _ => rfl, fun _ => rfl, fun _ => rfl, rfl, rfl, fun _ => rfl, rfl⟩
    rfl rfl Try.call138 (takesNil rfl) 11 rfl (fun I hI => atT [(0, 16), (1, 10), (2, 11), (3, 12), (4, 13), (5, 14)] [(0, 16)] (ft_book_entries_replay_1 hI h11) rfl rfl rfl) (fun d => ?_)
  rcases cond_cases h with ⟨h12, h⟩ | ⟨h12, h⟩
  · refine done0 h12 ?_
    refine TC.inBlock ?_
    refine TC.seq ?_
    refine TC.region ?_
    refine op1 3 rfl (sp_loadB rfl isBlk rfl vt37 rfl) rfl trivial rfl rfl ?_
    refine stoB 3 (cells' := [.ref 15]) rfl rfl trivial rfl rfl rfl rfl vt37 rfl rfl rfl ?_
    refine op0 (sp_assign rfl rfl) rfl trivial rfl rfl ?_
    refine TL.nil ?_
    cases h
    exact retM [(500, 15)] 0 1 [] rfl (.cell rfl (mem_at 2 rfl) isBlk vt37 rfl (.tmp rfl .nil)) rfl ⟨mem_at 1 rfl, trivial⟩ rfl rfl trivial rfl
  · exact none_no h
def ev_book_Noons (n : Nat) (list1 : List (Int × Int × Int)) (from_2 : Int) (many3 : Int) : Option ((List Int) × Int) :=
  (ev_book_entries_check n list1).bind fun r4 => cond (r4.2 != 0) (some (([] : List Int), r4.2)) ((ev_book_within n 0 400 ([many3] : List Int)).bind fun r5 => cond (!r5) (some (([] : List Int), 3)) (chk (in64 ((36526 : Int) - many3)) <| (ev_book_within n 0 ((36526 : Int) - many3) ([from_2] : List Int)).bind fun r6 => cond (!r6) (some (([] : List Int), 3)) (ev_book_Noons_j0 n list1 many3 from_2)))
set_option maxRecDepth 100000 in
set_option maxHeartbeats 2000000 in
theorem ft_book_Noons {n : Nat} {list1 : List (Int × Int × Int)} {from_2 : Int} {many3 : Int} {r : (List Int) × Int} (h : ev_book_Noons n list1 from_2 many3 = some r) : FT Try.prog 16 [.ref 0, .val (.int .i64 from_2), .val (.int .i64 many3)] [] [.ro 0 3 (List.map en_api_BookEntry list1)] (.tup [.ref 500, .val (.int .i64 r.2)]) [.row 500 3 1 (List.map en_int r.1)] := by
  refine introM (nz := 46) 1 [] Try.func16 rfl rfl rfl rfl (fun w0 M0 R0 env0 => ?_)
  rw [ev_book_Noons] at h
  refine TC.seq ?_
  refine TC.region ?_
  refine op0 (sp_box 2 rfl rfl rfl rfl rfl) rfl trivial rfl rfl ?_
  refine op0 (sp_box 3 rfl rfl rfl rfl rfl) rfl trivial rfl rfl ?_
  refine op0 (sp_alloc 4 rfl Try.zeroValue37 rfl) rfl trivial rfl rfl ?_
  refine op0 (sp_assign rfl rfl) rfl trivial rfl rfl ?_
  refine TL.nil ?_
  refine TC.seq ?_
  refine TC.region ?_
  refine op0 (sp_move rfl rfl) rfl trivial rfl rfl ?_
  refine op0 (sp_assign rfl rfl) rfl trivial rfl rfl ?_
  refine TL.nil ?_
  refine TC.seq ?_
  refine TC.seq ?_
  refine TC.region ?_
  refine op0 (sp_move rfl rfl) rfl trivial rfl rfl ?_
  obtain ⟨r4, h1, h⟩ := bind_inv h
  refine op1 4 rfl (sp_call (avs := [.ref 0]) (need := [.ro 0 3 (List.map en_api_BookEntry list1)]) (v := .tup [.val (.int .i64 r4.1), .val (.int .i64 r4.2)]) (news := []) rfl rfl rfl Try.call62 (atJ [] [] (fc_book_entries_check h1) rfl rfl) (.inl (roAll rfl))) rfl trivial rfl rfl ?_
  refine op0 (sp_move rfl rfl) rfl trivial rfl rfl ?_
  refine op0 (sp_extract rfl rfl rfl) rfl trivial rfl rfl ?_
  refine op0 (sp_extract rfl rfl rfl) rfl trivial rfl rfl ?_
  refine op0 (sp_assign rfl rfl) rfl trivial rfl rfl ?_
  refine op0 (sp_assign rfl rfl) rfl trivial rfl rfl ?_
  refine TL.nil ?_
  refine TC.seq ?_
  refine TC.region ?_
  refine op0 (sp_move rfl rfl) rfl trivial rfl rfl ?_
  refine op0 (sp_neq rfl rfl rfl) rfl trivial rfl rfl ?_
  refine TL.nil ?_
  refine TC.cond (b := (r4.2 != 0)) rfl (fun h2 => ?_) (fun h2 => ?_)
  · have h := cond_t h h2
    refine TC.seq ?_
    refine TC.region ?_
    refine op0 (sp_move rfl rfl) rfl trivial rfl rfl ?_
    refine stoB 0 (cells' := [.val (.slice none 0 0)]) rfl rfl trivial rfl rfl rfl rfl vt37 rfl rfl rfl ?_
    refine op0 (sp_assign rfl rfl) rfl trivial rfl rfl ?_
    refine TL.nil ?_
    refine nilCellC 0 5 3 1 4 (List.map en_int []) [.ref 5] rfl rfl rfl ?_
    cases h
    exact retM [(500, 5)] 4 1 [] rfl (.cell rfl (mem_at 1 rfl) isBlk vt37 rfl (.tmp rfl .nil)) rfl ⟨mem_at 0 rfl, trivial⟩ rfl rfl trivial rfl
  · have h := cond_f h h2
    refine TC.skip ?_
    refine TC.seq ?_
    refine TC.seq ?_
    refine TC.region ?_
    refine op1 1 rfl (sp_loadB rfl isBlk rfl vt3 rfl) rfl trivial rfl rfl ?_
    refine op0 (sp_buildSlice (qs := [.val (.int .i64 many3)]) (need := []) (els := List.map en_int ([many3] : List Int)) 6 rfl sl37 (by decide) (by decide) rfl rfl rfl (.v (.nil)) (map_len fun _ => rfl) rfl rfl rfl) rfl trivial rfl rfl ?_
    obtain ⟨r5, h3, h⟩ := bind_inv h
    refine op1 0 rfl (sp_call (avs := [.val (.int .i64 0), .val (.int .i64 400), .ref 6]) (need := [.row 6 3 1 (List.map en_int ([many3] : List Int))]) (v := .val (.bool r5)) (news := []) rfl rfl rfl Try.call63 (atJ [(0, 6)] [] (fc_book_within h3) rfl rfl) (.inr (fun x hx => nomatch hx))) rfl trivial rfl rfl ?_
    refine op0 (sp_not rfl rfl) rfl trivial rfl rfl ?_
    refine op0 (sp_move rfl rfl) rfl trivial rfl rfl ?_
    rcases cond_cases h with ⟨h4, h⟩ | ⟨h4, h⟩
    · refine (boolLit 26 rfl h4).2 ?_
      refine opSkip rfl ⟨_, rfl, .inl rfl⟩ rfl ?_
      refine opSkip rfl ⟨_, rfl, .inl rfl⟩ rfl ?_
      refine opSkip rfl ⟨_, rfl, .inl rfl⟩ rfl ?_
      refine opSkip rfl ⟨_, rfl, .inl rfl⟩ rfl ?_
      refine opSkip rfl ⟨_, rfl, .inl rfl⟩ rfl ?_
      refine opSkip rfl ⟨_, rfl, .inl rfl⟩ rfl ?_
      refine op0 (sp_pickT rfl rfl rfl) rfl trivial rfl rfl ?_
      refine TL.nil ?_
      refine TC.condT rfl ?_
      refine TC.seq ?_
      refine TC.region ?_
      refine stoB 1 (cells' := [.val (.slice none 0 0)]) rfl rfl trivial rfl rfl rfl rfl vt37 rfl rfl rfl ?_
      refine op0 (sp_assign rfl rfl) rfl trivial rfl rfl ?_
      refine TL.nil ?_
      refine nilCellC 1 7 3 1 4 (List.map en_int []) [.ref 7] rfl rfl rfl ?_
      cases h
      exact retM [(500, 7)] 5 1 [] rfl (.cell rfl (mem_at 2 rfl) isBlk vt37 rfl (.tmp rfl .nil)) rfl ⟨mem_at 0 rfl, trivial⟩ rfl rfl trivial rfl
    · refine (boolLit 26 rfl h4).2 ?_
      refine op1 2 rfl (sp_loadB rfl isBlk rfl vt3 rfl) rfl ⟨_, rfl, rfl⟩ rfl rfl ?_
      obtain ⟨h5, h⟩ := chk_inv h
      refine op0 (sp_sub rfl rfl rfl h5) rfl ⟨_, rfl, rfl⟩ rfl rfl ?_
      refine op1 3 rfl (sp_loadB rfl isBlk rfl vt3 rfl) rfl ⟨_, rfl, rfl⟩ rfl rfl ?_
      refine op0 (sp_buildSlice (qs := [.val (.int .i64 from_2)]) (need := []) (els := List.map en_int ([from_2] : List Int)) 8 rfl sl37 (by decide) (by decide) rfl rfl rfl (.v (.nil)) (map_len fun _ => rfl) rfl rfl rfl) rfl ⟨_, rfl, rfl⟩ rfl rfl ?_
      obtain ⟨r6, h6, h⟩ := bind_inv h
      refine op1 0 rfl (sp_call (avs := [.val (.int .i64 0), .val (.int .i64 ((36526 : Int) - many3)), .ref 8]) (need := [.row 8 3 1 (List.map en_int ([from_2] : List Int))]) (v := .val (.bool r6)) (news := []) rfl rfl rfl Try.call63 (atJ [(0, 8)] [] (fc_book_within h6) rfl rfl) (.inr (fun x hx => nomatch hx))) rfl ⟨_, rfl, rfl⟩ rfl rfl ?_
      refine op0 (sp_not rfl rfl) rfl ⟨_, rfl, rfl⟩ rfl rfl ?_
      refine op0 (sp_pickF rfl rfl rfl) rfl trivial rfl rfl ?_
      refine TL.nil ?_
      refine TC.cond (b := (!r6)) rfl (fun h7 => ?_) (fun h7 => ?_)
      · have h := cond_t h h7
        refine TC.seq ?_
        refine TC.region ?_
        refine stoB 2 (cells' := [.val (.slice none 0 0)]) rfl rfl trivial rfl rfl rfl rfl vt37 rfl rfl rfl ?_
        refine op0 (sp_assign rfl rfl) rfl trivial rfl rfl ?_
        refine TL.nil ?_
        refine nilCellC 2 9 3 1 4 (List.map en_int []) [.ref 9] rfl rfl rfl ?_
        cases h
        exact retM [(500, 9)] 6 1 [] rfl (.cell rfl (mem_at 3 rfl) isBlk vt37 rfl (.tmp rfl .nil)) rfl ⟨mem_at 0 rfl, trivial⟩ rfl rfl trivial rfl
      · have h := cond_f h h7
        refine subJ [] (ok_book_Noons_j0 h) ?_ ?_ ?_
        · exact ⟨rfl, rfl, rfl, rfl, trivial⟩
        · exact ⟨mem_at 4 rfl, mem_at 3 rfl, mem_at 2 rfl, mem_at 6 rfl, mem_at 5 rfl, trivial⟩
        · rfl
theorem fc_book_Noons {n : Nat} {list1 : List (Int × Int × Int)} {from_2 : Int} {many3 : Int} {r : (List Int) × Int} (h : ev_book_Noons n list1 from_2 many3 = some r) : FC Try.prog 16 [.ref 0, .val (.int .i64 from_2), .val (.int .i64 many3)] [.ro 0 3 (List.map en_api_BookEntry list1)] (.tup [.ref 500, .val (.int .i64 r.2)]) [.row 500 3 1 (List.map en_int r.1)] := (ft_book_Noons h).toFC rfl
/- book_put -/
def ev_book_put_l0 (n : Nat) (nn2 : Int) : Nat → Int → (List Int) → Option ((List Int))
  | 0, _, _ => none
  | m + 1, i4, l5 => cond (decide ((0 : Int) ≤ i4)) (chk (in64 ((8 : Int) * i4)) <| chk (decide (0 ≤ ((8 : Int) * i4))) <| chk (room 1 (l5.length + ([(IntKind.u8.wrap (nn2 / (shK .i64 ((8 : Int) * i4) : Int)))] : List Int).length)) <| chk (in64 (i4 - 1)) <| ev_book_put_l0 n nn2 m (i4 - 1) (l5 ++ ([(IntKind.u8.wrap (nn2 / (shK .i64 ((8 : Int) * i4) : Int)))] : List Int))) (some l5)
set_option maxRecDepth 100000 in
set_option maxHeartbeats 2000000 in
theorem ok_book_put_l0 {n : Nat} {w0 : World} {M0 R0 : Nat → Prop} {env0 : Env} {df : List Deferred} {r : (List Int)} {nn2 : Int} : ∀ (m : Nat) (i4 : Int) (l5 : List Int), ev_book_put_l0 n nn2 m i4 l5 = some r → TC Try.prog ⟨w0, M0, R0⟩ ⟨23, none, df⟩ (bodyPostM Fence.wide 0 Try.prog Try.f231 (PostT ⟨w0, M0, R0⟩ env0 [0] (.ref 500) [.row 500 5 1 (List.map en_uint8 r)])) [.code (sub (bodyOf Try.f231) [1, 0, 1, 0, 0, 0, 0]), .code (sub (bodyOf Try.f231) [1, 0, 1, 0, 0, 0, 1]), .code (sub (bodyOf Try.f231) [1, 0, 1, 0, 0, 1]), .inLoop (sub (bodyOf Try.f231) [1, 0, 1, 0, 0]), .inBlock 0, .code (sub (bodyOf Try.f231) [1, 1])] ([(0, .ref 0), (1, .val (.int .i64 nn2)), (7, .val (.int .i64 i4))]) ([.row 0 5 1 (List.map en_uint8 l5), .inv 1 (marksI df)]) := by
  intro m
  induction m with
  | zero => intro i4 l5 h; exact none_no h
  | succ m ih =>
    intro i4 l5 h
    rw [ev_book_put_l0] at h
    refine TC.region ?_
    refine op0 (sp_move rfl rfl) rfl trivial rfl rfl ?_
    refine op0 (sp_geq rfl rfl rfl) rfl trivial rfl rfl ?_
    refine TL.nil ?_
    refine TC.cond (b := (decide ((0 : Int) ≤ i4))) rfl (fun h2 => ?_) (fun h2 => ?_)
    · have h := cond_t h h2
      refine TC.skip ?_
      refine TC.seq ?_
      refine TC.block ?_
      refine TC.region ?_
      refine op0 (sp_move rfl rfl) rfl trivial rfl rfl ?_
      refine op0 (sp_move rfl rfl) rfl trivial rfl rfl ?_
      refine op0 (sp_move rfl rfl) rfl trivial rfl rfl ?_
      obtain ⟨h3, h⟩ := chk_inv h
      refine op0 (sp_mul rfl rfl rfl h3) rfl trivial rfl rfl ?_
      obtain ⟨h4, h⟩ := chk_inv h
      refine op0 (sp_shr rfl rfl rfl h4) rfl trivial rfl rfl ?_
      refine op0 (sp_convW rfl Try.underlying3 Try.underlying5 rfl) rfl trivial rfl rfl ?_
      refine op0 (sp_buildSlice (qs := [.val (.int .u8 (IntKind.u8.wrap (nn2 / (shK .i64 ((8 : Int) * i4) : Int))))]) (need := []) (els := List.map en_uint8 ([(IntKind.u8.wrap (nn2 / (shK .i64 ((8 : Int) * i4) : Int)))] : List Int)) 2 rfl sl56 (by decide) (by decide) rfl rfl rfl (.v (.nil)) (map_len fun _ => rfl) rfl rfl rfl) rfl trivial rfl rfl ?_
      obtain ⟨h5, h⟩ := chk_inv h
      refine appM 1 0 (N := l5.length) (N2 := ([(IntKind.u8.wrap (nn2 / (shK .i64 ((8 : Int) * i4) : Int)))] : List Int).length) 3 rfl rfl trivial rfl rfl rfl rfl rfl isOwn rfl sl56 (len_map _ _) (len_map _ _) h5 (map_app _ _ _) rfl ?_
      refine op0 (sp_assign rfl rfl) rfl trivial rfl rfl ?_
      refine TL.nil ?_
      refine TC.inBlock ?_
      refine TC.region ?_
      refine op0 (sp_move rfl rfl) rfl trivial rfl rfl ?_
      obtain ⟨h6, h⟩ := chk_inv h
      refine op0 (sp_sub rfl rfl rfl h6) rfl trivial rfl rfl ?_
      refine op0 (sp_assign rfl rfl) rfl trivial rfl rfl ?_
      refine TL.nil ?_
      refine TC.inLoop ?_
      refine TC.seq ?_
      refine TC.seq ?_
      refine subJ [(0, 3)] (ih _ _ h) ?_ ?_ ?_
      · exact ⟨rfl, rfl, rfl, trivial⟩
      · exact ⟨mem_at 0 rfl, mem_at 2 rfl, trivial⟩
      · rfl
    · have h := cond_f h h2
      refine TC.exit rfl ?_
      refine TC.seq ?_
      refine TC.region ?_
      refine op0 (sp_move rfl rfl) rfl trivial rfl rfl ?_
      refine op0 (sp_assign rfl rfl) rfl trivial rfl rfl ?_
      refine TL.nil ?_
      cases h
      exact retM [(500, 0)] 1 1 [] rfl (.tmp rfl .nil) rfl ⟨mem_at 0 rfl, trivial⟩ rfl rfl trivial rfl
def ev_book_put (n : Nat) (b1 : List Int) (nn2 : Int) (bytes3 : Int) : Option ((List Int)) :=
  chk (in64 (bytes3 - 1)) <| ev_book_put_l0 n nn2 n (bytes3 - 1) b1
set_option maxRecDepth 100000 in
set_option maxHeartbeats 2000000 in
theorem ft_book_put {n : Nat} {b1 : List Int} {nn2 : Int} {bytes3 : Int} {r : (List Int)} (h : ev_book_put n b1 nn2 bytes3 = some r) : FT Try.prog 231 [.ref 0, .val (.int .i64 nn2), .val (.int .i64 bytes3)] [.row 0 5 1 (List.map en_uint8 b1)] [] (.ref 500) [.row 500 5 1 (List.map en_uint8 r)] := by
  refine introM (nz := 23) 1 [] Try.func231 rfl rfl rfl rfl (fun w0 M0 R0 env0 => ?_)
  rw [ev_book_put] at h
  refine TC.seq ?_
  refine TC.region ?_
  refine op0 (sp_assign rfl rfl) rfl trivial rfl rfl ?_
  refine TL.nil ?_
  refine TC.seq ?_
  refine TC.seq ?_
  refine TC.region ?_
  refine op0 (sp_move rfl rfl) rfl trivial rfl rfl ?_
  obtain ⟨h1, h⟩ := chk_inv h
  refine op0 (sp_sub rfl rfl rfl h1) rfl trivial rfl rfl ?_
  refine op0 (sp_assign rfl rfl) rfl trivial rfl rfl ?_
  refine TL.nil ?_
  refine TC.block ?_
  refine TC.loop ?_
  refine TC.seq ?_
  refine TC.seq ?_
  refine subJ [] (ok_book_put_l0 _ _ _ h) ?_ ?_ ?_
  · exact ⟨rfl, rfl, rfl, trivial⟩
  · exact ⟨mem_at 1 rfl, mem_at 0 rfl, trivial⟩
  · rfl
/- book_sum -/
def ev_book_sum_l0 (n : Nat) (b1 : List Int) : Nat → Int → Int → Option Int
  | 0, _, _ => none
  | m + 1, i2, i3 => cond (decide (i3 < ((List.drop (0 : Int).toNat (List.take (7 : Int).toNat b1)).length : Int))) (idx (List.drop (0 : Int).toNat (List.take (7 : Int).toNat b1)) i3 fun x4 => chk (in64 (i3 + 1)) <| chk (in64 x4) <| chk (in64 ((i3 + 1) * x4)) <| chk (in64 (i2 + ((i3 + 1) * x4))) <| chk (in64 (i3 + 1)) <| ev_book_sum_l0 n b1 m (i2 + ((i3 + 1) * x4)) (i3 + 1)) (some i2)
set_option maxRecDepth 100000 in
set_option maxHeartbeats 2000000 in
theorem ok_book_sum_l0 {n : Nat} {w0 : World} {R0 : Nat → Prop} {env0 : Env} {r : Int} {b1 : List Int} : ∀ (m : Nat) (i2 : Int) (i3 : Int), ev_book_sum_l0 n b1 m i2 i3 = some r → TC Try.prog ⟨w0, fun _ => False, R0⟩ 22 (bodyPost Try.prog Try.f232 (Post ⟨w0, fun _ => False, R0⟩ env0 (.val (.int .i64 r)) [])) [.code (sub (bodyOf Try.f232) [1, 0, 1, 0, 0, 0]), .code (sub (bodyOf Try.f232) [1, 0, 1, 0, 0, 1]), .inLoop (sub (bodyOf Try.f232) [1, 0, 1, 0, 0]), .inBlock 0, .code (sub (bodyOf Try.f232) [1, 1])] ([(2, .val (.int .i64 i2)), (6, .ref 1), (7, .val (.int .i64 ((List.drop (0 : Int).toNat (List.take (7 : Int).toNat b1)).length : Int))), (8, .val (.int .i64 i3))]) ([.ro 1 1 (List.map en_uint8 (List.drop (0 : Int).toNat (List.take (7 : Int).toNat b1)))]) := by
  intro m
  induction m with
  | zero => intro i2 i3 h; exact none_no h
  | succ m ih =>
    intro i2 i3 h
    rw [ev_book_sum_l0] at h
    refine TC.region ?_
    refine op0 (sp_lss rfl rfl rfl) rfl trivial rfl rfl ?_
    refine TL.nil ?_
    refine TC.seq ?_
    refine TC.cond (b := (decide (i3 < ((List.drop (0 : Int).toNat (List.take (7 : Int).toNat b1)).length : Int)))) rfl (fun h2 => ?_) (fun h2 => ?_)
    · have h := cond_t h h2
      refine TC.skip ?_
      refine TC.seq ?_
      refine TC.block ?_
      refine TC.seq ?_
      refine TC.region ?_
      refine op0 (sp_move rfl rfl) rfl trivial rfl rfl ?_
      obtain ⟨x4, h3, h4, h⟩ := idx_inv h
      refine op1 0 rfl (sp_indexS rfl rfl rfl isRo sl56 h3 (map_get _ h4)) rfl trivial rfl rfl ?_
      refine op1 0 rfl (sp_loadR (i := (i3 : Int).toNat) (j := 0) rfl rfl isRo vt5 rfl (map_get _ h4) rfl (.v (.nil)) (nodup_of_B rfl)) rfl trivial rfl rfl ?_
      refine op0 (sp_assign rfl rfl) rfl trivial rfl rfl ?_
      refine op0 (sp_assign rfl rfl) rfl trivial rfl rfl ?_
      refine TL.nil ?_
      refine TC.region ?_
      refine op0 (sp_move rfl rfl) rfl trivial rfl rfl ?_
      refine op0 (sp_move rfl rfl) rfl trivial rfl rfl ?_
      obtain ⟨h5, h⟩ := chk_inv h
      refine op0 (sp_add rfl rfl rfl h5) rfl trivial rfl rfl ?_
      refine op0 (sp_move rfl rfl) rfl trivial rfl rfl ?_
      obtain ⟨h6, h⟩ := chk_inv h
      refine op0 (sp_conv rfl Try.underlying5 Try.underlying3 rfl h6) rfl trivial rfl rfl ?_
      obtain ⟨h7, h⟩ := chk_inv h
      refine op0 (sp_mul rfl rfl rfl h7) rfl trivial rfl rfl ?_
      obtain ⟨h8, h⟩ := chk_inv h
      refine op0 (sp_add rfl rfl rfl h8) rfl trivial rfl rfl ?_
      refine op0 (sp_assign rfl rfl) rfl trivial rfl rfl ?_
      refine TL.nil ?_
      refine TC.inBlock ?_
      refine TC.region ?_
      obtain ⟨h9, h⟩ := chk_inv h
      refine op0 (sp_add rfl rfl rfl h9) rfl trivial rfl rfl ?_
      refine op0 (sp_move rfl rfl) rfl trivial rfl rfl ?_
      refine TL.nil ?_
      refine TC.inLoop ?_
      refine TC.seq ?_
      refine subJ [] (ih _ _ h) ?_ ?_ ?_
      · exact ⟨rfl, rfl, rfl, rfl, trivial⟩
      · exact ⟨mem_at 0 rfl, trivial⟩
      · rfl
    · have h := cond_f h h2
      refine TC.exit rfl ?_
      refine TC.seq ?_
      refine TC.region ?_
      refine op0 (sp_move rfl rfl) rfl trivial rfl rfl ?_
      refine op0 (sp_assign rfl rfl) rfl trivial rfl rfl ?_
      refine TL.nil ?_
      cases h
      exact retJ [] (.tmp rfl .nil) rfl trivial rfl rfl
def ev_book_sum (n : Nat) (b1 : List Int) : Option Int :=
  chk (decide (0 ≤ (0 : Int)) && (decide ((0 : Int) ≤ 7) && decide (7 ≤ (b1.length : Int)))) <| ev_book_sum_l0 n b1 n 0 0
set_option maxRecDepth 100000 in
set_option maxHeartbeats 2000000 in
theorem fc_book_sum {n : Nat} {b1 : List Int} {r : Int} (h : ev_book_sum n b1 = some r) : FC Try.prog 232 [.ref 0] [.ro 0 1 (List.map en_uint8 b1)] (.val (.int .i64 r)) [] := by
  refine introJ (nz := 22) Try.func232 rfl rfl rfl (fun w0 R0 env0 => ?_)
  rw [ev_book_sum] at h
  refine TC.seq ?_
  refine TC.region ?_
  refine op0 (sp_assign rfl rfl) rfl trivial rfl rfl ?_
  refine TL.nil ?_
  refine TC.seq ?_
  refine TC.seq ?_
  refine TC.region ?_
  refine op0 (sp_move rfl rfl) rfl trivial rfl rfl ?_
  obtain ⟨h1, h⟩ := chk_inv h
  refine op1 0 rfl (sp_sliceM (l := 0) (h := 7) 1 (len_map _ _) rfl rfl sl56 cut_none (cut_some rfl) h1 (map_cut _ _ _ _)) rfl trivial rfl rfl ?_
  refine op1 0 rfl (sp_lenM (N := (List.drop (0 : Int).toNat (List.take (7 : Int).toNat b1)).length) (len_map _ _) rfl rfl isRo Try.underlying56) rfl trivial rfl rfl ?_
  refine op0 (sp_move rfl rfl) rfl trivial rfl rfl ?_
  refine TL.nil ?_
  refine TC.block ?_
  refine TC.loop ?_
  refine TC.seq ?_
  refine subJ [] (ok_book_sum_l0 _ _ _ h) ?_ ?_ ?_
  · exact ⟨rfl, rfl, rfl, rfl, trivial⟩
  · exact ⟨mem_at 0 rfl, trivial⟩
  · rfl
/- book_record -/
def ev_book_record_j0 (n : Nat) (i4 : Int) (i5 : Int) (i6 : Int) : Option ((List Int)) :=
  (ev_book_put n ([]) i4 4).bind fun r7 => chk (room 1 (r7.length + ([(IntKind.u8.wrap i5)] : List Int).length)) <| (ev_book_put n (r7 ++ ([(IntKind.u8.wrap i5)] : List Int)) i6 2).bind fun r8 => (ev_book_sum n r8).bind fun r9 => (ev_book_put n r8 r9 2).bind fun r10 => some r10
set_option maxRecDepth 100000 in
set_option maxHeartbeats 2000000 in
theorem ok_book_record_j0 {n : Nat} {w0 : World} {R0 : Nat → Prop} {env0 : Env} {r : (List Int)} {i4 : Int} {i5 : Int} {i6 : Int} (h : ev_book_record_j0 n i4 i5 i6 = some r) : TC Try.prog ⟨w0, fun _ => False, R0⟩ 26 (bodyPost Try.prog Try.f141 (Post ⟨w0, fun _ => False, R0⟩ env0 (.ref 0) [.row 0 5 1 (List.map en_uint8 r)])) [.code (sub (bodyOf Try.f141) [1, 1, 0]), .code (sub (bodyOf Try.f141) [1, 1, 1])] ([(1, .ptr 0 0)]) ([.blk 0 [.val (.int .i64 i4), .val (.int .i64 i5), .val (.int .i64 i6)] 35]) := by
  rw [ev_book_record_j0] at h
  obtain ⟨r7, h3, h⟩ := bind_inv h
  obtain ⟨h4, h⟩ := chk_inv h
  refine drawJ 10 [⟨.ptr 0 0, [], [.blk 0 [.val (.int .i64 i4), .val (.int .i64 i5), .val (.int .i64 i6)] 35], []⟩, ⟨.val (.int .i64 i4), [], [.blk 0 [.val (.int .i64 i4), .val (.int .i64 i5), .val (.int .i64 i6)] 35], []⟩, ⟨.ref 2, [.row 2 5 1 (List.map en_uint8 r7)], [], []⟩, ⟨.ptr 0 1, [], [.blk 0 [.val (.int .i64 i4), .val (.int .i64 i5), .val (.int .i64 i6)] 35], []⟩, ⟨.val (.int .i64 i5), [], [.blk 0 [.val (.int .i64 i4), .val (.int .i64 i5), .val (.int .i64 i6)] 35], []⟩, ⟨.val (.int .u8 (IntKind.u8.wrap i5)), [], [], []⟩, ⟨.ref 3, [.row 3 5 1 (List.map en_uint8 ([(IntKind.u8.wrap i5)] : List Int))], [], []⟩, ⟨.ref 4, [.row 4 5 1 (List.map en_uint8 (r7 ++ ([(IntKind.u8.wrap i5)] : List Int)))], [.row 3 5 1 (List.map en_uint8 ([(IntKind.u8.wrap i5)] : List Int))], [.row 2 5 1 (List.map en_uint8 r7)]⟩, ⟨.ptr 0 2, [], [.blk 0 [.val (.int .i64 i4), .val (.int .i64 i5), .val (.int .i64 i6)] 35], []⟩, ⟨.val (.int .i64 i6), [], [.blk 0 [.val (.int .i64 i4), .val (.int .i64 i5), .val (.int .i64 i6)] 35], []⟩] rfl ?_ rfl ?_ rfl ?_ ?_
  · kernel_rfl
  · kernel_rfl
  · exact DAll.op' (sp_fieldAddrB rfl isBlk rfl ft35_0 vt3 (by decide)) trivial rfl (From.ok (ps := [(none, 0)]) ⟨⟨rfl, by kernel_rfl⟩, trivial⟩) (DAll.op' (sp_loadB rfl isBlk rfl vt3 rfl) trivial rfl (From.ok (ps := [(none, 0)]) ⟨⟨rfl, by kernel_rfl⟩, trivial⟩) (DAll.opT (ts_call (avs := [.val (.slice none 0 0), .val (.int .i64 i4), .val (.int .i64 4)]) (take := []) (need := []) (v := .ref 2) (news := [.row 2 5 1 (List.map en_uint8 r7)]) rfl rfl rfl Try.call231 (FT.nilT (args := [.ref 1, .val (.int .i64 i4), .val (.int .i64 4)]) 1 5 1 (atT [(0, 1)] [(500, 2)] (ft_book_put h3) rfl rfl rfl) rfl rfl rfl rfl) rfl rfl) trivial (From.ok (ps := []) trivial) (From.ok (ps := []) trivial) (DAll.op' (sp_fieldAddrB rfl isBlk rfl ft35_1 vt33 (by decide)) trivial rfl (From.ok (ps := [(none, 0)]) ⟨⟨rfl, by kernel_rfl⟩, trivial⟩) (DAll.op' (sp_loadB rfl isBlk rfl vt33 rfl) trivial rfl (From.ok (ps := [(none, 0)]) ⟨⟨rfl, by kernel_rfl⟩, trivial⟩) (DAll.op' (sp_convW rfl Try.underlying33 Try.underlying5 rfl) trivial rfl (From.ok (ps := []) trivial) (DAll.op' (sp_buildSlice (qs := [.val (.int .u8 (IntKind.u8.wrap i5))]) (need := []) (els := List.map en_uint8 ([(IntKind.u8.wrap i5)] : List Int)) 3 rfl sl56 (by decide) (by decide) rfl rfl rfl (.v (.nil)) (map_len fun _ => rfl) rfl rfl rfl) trivial rfl (From.ok (ps := []) trivial) (DAll.opT (ts_append (N := r7.length) (N2 := ([(IntKind.u8.wrap i5)] : List Int).length) 4 rfl rfl rfl isOwn rfl sl56 (len_map _ _) (len_map _ _) h4 (map_app _ _ _) rfl) trivial (From.ok (ps := [(some 2, 0)]) ⟨⟨_, rfl, by kernel_rfl, rfl, by kernel_rfl⟩, trivial⟩) (From.ok (ps := [(some 6, 0)]) ⟨⟨_, rfl, by kernel_rfl, rfl, by kernel_rfl⟩, trivial⟩) (DAll.op' (sp_fieldAddrB rfl isBlk rfl ft35_2 vt3 (by decide)) trivial rfl (From.ok (ps := [(none, 0)]) ⟨⟨rfl, by kernel_rfl⟩, trivial⟩) (DAll.op' (sp_loadB rfl isBlk rfl vt3 rfl) trivial rfl (From.ok (ps := [(none, 0)]) ⟨⟨rfl, by kernel_rfl⟩, trivial⟩) (.nil))))))))))
  obtain ⟨r8, h5, h⟩ := bind_inv h
  refine opT (take := [.row 4 5 1 (List.map en_uint8 (r7 ++ ([(IntKind.u8.wrap i5)] : List Int)))]) (need := []) (V' := [.row 5 5 1 (List.map en_uint8 r8), .row 3 5 1 (List.map en_uint8 ([(IntKind.u8.wrap i5)] : List Int)), .blk 0 [.val (.int .i64 i4), .val (.int .i64 i5), .val (.int .i64 i6)] 35]) [0] [] (ts_call (avs := [.ref 4, .val (.int .i64 i6), .val (.int .i64 2)]) (take := [.row 4 5 1 (List.map en_uint8 (r7 ++ ([(IntKind.u8.wrap i5)] : List Int)))]) (need := []) (v := .ref 5) (news := [.row 5 5 1 (List.map en_uint8 r8)]) rfl rfl rfl Try.call231 (atT [(0, 4)] [(500, 5)] (ft_book_put h5) rfl rfl rfl) rfl rfl) trivial rfl ⟨rfl, trivial⟩ trivial rfl rfl ?_
  refine op0 (sp_assign rfl rfl) rfl trivial rfl rfl ?_
  refine TL.nil ?_
  refine TC.seq ?_
  refine TC.region ?_
  refine op0 (sp_move rfl rfl) rfl trivial rfl rfl ?_
  refine op0 (sp_move rfl rfl) rfl trivial rfl rfl ?_
  obtain ⟨r9, h6, h⟩ := bind_inv h
  refine op1 0 rfl (sp_call (avs := [.ref 5]) (need := [.row 5 5 1 (List.map en_uint8 r8)]) (v := .val (.int .i64 r9)) (news := []) rfl rfl rfl Try.call232 (atJ [(0, 5)] [] (fc_book_sum h6) rfl rfl) (.inr (fun x hx => nomatch hx))) rfl trivial rfl rfl ?_
  obtain ⟨r10, h7, h⟩ := bind_inv h
  refine opT (take := [.row 5 5 1 (List.map en_uint8 r8)]) (need := []) (V' := [.row 6 5 1 (List.map en_uint8 r10), .row 3 5 1 (List.map en_uint8 ([(IntKind.u8.wrap i5)] : List Int)), .blk 0 [.val (.int .i64 i4), .val (.int .i64 i5), .val (.int .i64 i6)] 35]) [0] [] (ts_call (avs := [.ref 5, .val (.int .i64 r9), .val (.int .i64 2)]) (take := [.row 5 5 1 (List.map en_uint8 r8)]) (need := []) (v := .ref 6) (news := [.row 6 5 1 (List.map en_uint8 r10)]) rfl rfl rfl Try.call231 (atT [(0, 5)] [(500, 6)] (ft_book_put h7) rfl rfl rfl) rfl rfl) trivial rfl ⟨rfl, trivial⟩ trivial rfl rfl ?_
  refine op0 (sp_assign rfl rfl) rfl trivial rfl rfl ?_
  refine TL.nil ?_
  cases h
  exact retJ [(0, 6)] (.tmp rfl .nil) rfl ⟨mem_at 0 rfl, trivial⟩ rfl rfl
def ev_book_record (n : Nat) (x1 : Int) (x2 : Int) (x3 : Int) : Option ((List Int)) :=
  cond (x2 == 2) (chk (in64 (x3 + 32768)) <| ev_book_record_j0 n x1 x2 (x3 + 32768)) (ev_book_record_j0 n x1 x2 x3)
set_option maxRecDepth 100000 in
set_option maxHeartbeats 2000000 in
theorem fc_book_record {n : Nat} {x1 : Int} {x2 : Int} {x3 : Int} {r : (List Int)} (h : ev_book_record n x1 x2 x3 = some r) : FC Try.prog 141 [.agg [.val (.int .i64 x1), .val (.int .i64 x2), .val (.int .i64 x3)]] [] (.ref 0) [.row 0 5 1 (List.map en_uint8 r)] := by
  refine introJ (nz := 26) Try.func141 rfl rfl rfl (fun w0 R0 env0 => ?_)
  rw [ev_book_record] at h
  refine TC.seq ?_
  refine TC.region ?_
  refine op0 (sp_box 0 rfl rfl rfl rfl rfl) rfl trivial rfl rfl ?_
  refine op0 (sp_assign rfl rfl) rfl trivial rfl rfl ?_
  refine TL.nil ?_
  refine TC.seq ?_
  refine TC.seq ?_
  refine TC.region ?_
  refine op1 0 rfl (sp_fieldAddrB rfl isBlk rfl ft35_1 vt33 (by decide)) rfl trivial rfl rfl ?_
  refine op1 0 rfl (sp_loadB rfl isBlk rfl vt33 rfl) rfl trivial rfl rfl ?_
  refine op0 (sp_eql rfl rfl rfl) rfl trivial rfl rfl ?_
  refine TL.nil ?_
  refine TC.cond (b := (x2 == 2)) rfl (fun h1 => ?_) (fun h1 => ?_)
  · have h := cond_t h h1
    refine TC.region ?_
    refine op1 0 rfl (sp_fieldAddrB rfl isBlk rfl ft35_2 vt3 (by decide)) rfl trivial rfl rfl ?_
    refine op1 0 rfl (sp_loadB rfl isBlk rfl vt3 rfl) rfl trivial rfl rfl ?_
    obtain ⟨h2, h⟩ := chk_inv h
    refine op0 (sp_add rfl rfl rfl h2) rfl trivial rfl rfl ?_
    refine op1 0 rfl (sp_fieldAddrB rfl isBlk rfl ft35_2 vt3 (by decide)) rfl trivial rfl rfl ?_
    refine stoB 0 (cells' := [.val (.int .i64 x1), .val (.int .i64 x2), .val (.int .i64 (x3 + 32768))]) rfl rfl trivial rfl rfl rfl rfl vt3 rfl rfl rfl ?_
    refine TL.nil ?_
    refine TC.seq ?_
    refine subJ [] (ok_book_record_j0 h) ?_ ?_ ?_
    · exact ⟨rfl, trivial⟩
    · exact ⟨mem_at 0 rfl, trivial⟩
    · rfl
  · have h := cond_f h h1
    refine TC.skip ?_
    refine TC.seq ?_
    refine subJ [] (ok_book_record_j0 h) ?_ ?_ ?_
    · exact ⟨rfl, trivial⟩
    · exact ⟨mem_at 0 rfl, trivial⟩
    · rfl
/- book_Log -/
def ev_book_Log_l0 (n : Nat) (list1 : List (Int × Int × Int)) : Nat → (List Int) → Int → (List (Int × Int × Int)) → Option ((List Int) × Int × Int)
  | 0, _, _, _ => none
  | m + 1, l3, i4, l5 => cond (decide (i4 < (list1.length : Int))) (idx l5 i4 fun x6 => (ev_book_record n x6.1 x6.2.1 x6.2.2).bind fun r7 => chk (room 1 (l3.length + r7.length)) <| chk (in64 (i4 + 1)) <| ev_book_Log_l0 n list1 m (l3 ++ r7) (i4 + 1) l5) (some (l3, 0, 0))
set_option maxRecDepth 100000 in
set_option maxHeartbeats 2000000 in
theorem ok_book_Log_l0 {n : Nat} {w0 : World} {R0 : Nat → Prop} {env0 : Env} {r : (List Int) × Int × Int} {list1 : List (Int × Int × Int)} : ∀ (m : Nat) (l3 : List Int) (i4 : Int) (l5 : List (Int × Int × Int)), ev_book_Log_l0 n list1 m l3 i4 l5 = some r → TC Try.prog ⟨w0, fun _ => False, R0⟩ 30 (bodyPost Try.prog Try.f66 (Post ⟨w0, fun _ => False, R0⟩ env0 (.tup [.ref 0, .val (.int .i64 r.2.1), .val (.int .i64 r.2.2)]) [.row 0 5 1 (List.map en_uint8 r.1)])) [.code (sub (bodyOf Try.f66) [1, 1, 0, 1, 0, 0, 0]), .code (sub (bodyOf Try.f66) [1, 1, 0, 1, 0, 0, 1]), .inLoop (sub (bodyOf Try.f66) [1, 1, 0, 1, 0, 0]), .inBlock 0, .code (sub (bodyOf Try.f66) [1, 1, 1])] ([(2, .ref 2), (18, .ref 0), (19, .val (.int .i64 (list1.length : Int))), (20, .val (.int .i64 i4))]) ([.row 2 5 1 (List.map en_uint8 l3), .ro 0 3 (List.map en_api_BookEntry l5)]) := by
  intro m
  induction m with
  | zero => intro l3 i4 l5 h; exact none_no h
  | succ m ih =>
    intro l3 i4 l5 h
    rw [ev_book_Log_l0] at h
    refine TC.region ?_
    refine op0 (sp_lss rfl rfl rfl) rfl trivial rfl rfl ?_
    refine TL.nil ?_
    refine TC.seq ?_
    refine TC.cond (b := (decide (i4 < (list1.length : Int)))) rfl (fun h3 => ?_) (fun h3 => ?_)
    · have h := cond_t h h3
      refine TC.skip ?_
      refine TC.seq ?_
      refine TC.block ?_
      refine TC.seq ?_
      refine TC.region ?_
      obtain ⟨x6, h4, h5, h⟩ := idx_inv h
      refine op1 1 rfl (sp_indexS rfl rfl rfl isRo sl36 h4 (map_get _ h5)) rfl trivial rfl rfl ?_
      refine op1 1 rfl (sp_loadRA (i := (i4 : Int).toNat) (j := 0) (as_ := [.val (.int .i64 x6.1), .val (.int .i64 x6.2.1), .val (.int .i64 x6.2.2)]) (ns := []) rfl rfl isRo vt35 rfl (map_get _ h5) rfl rfl (by decide) (.v (.v (.v (.nil)))) (nodup_of_B rfl)) rfl trivial rfl rfl ?_
      refine op0 (sp_alloc 3 rfl Try.zeroValue35 rfl) rfl trivial rfl rfl ?_
      refine stoB 0 (cells' := [.val (.int .i64 x6.1), .val (.int .i64 x6.2.1), .val (.int .i64 x6.2.2)]) rfl rfl trivial rfl rfl rfl rfl vt35 rfl rfl rfl ?_
      refine TL.nil ?_
      refine TC.region ?_
      refine op0 (sp_move rfl rfl) rfl trivial rfl rfl ?_
      refine op1 0 rfl (sp_loadBA rfl isBlk rfl vt35 rfl rfl) rfl trivial rfl rfl ?_
      obtain ⟨r7, h6, h⟩ := bind_inv h
      refine op0 (sp_call (avs := [.agg [.val (.int .i64 x6.1), .val (.int .i64 x6.2.1), .val (.int .i64 x6.2.2)]]) (need := []) (v := .ref 4) (news := [.row 4 5 1 (List.map en_uint8 r7)]) rfl rfl rfl Try.call141 (atJ [] [(0, 4)] (fc_book_record h6) rfl rfl) (.inl (roAll rfl))) rfl trivial rfl rfl ?_
      obtain ⟨h7, h⟩ := chk_inv h
      refine appM 2 0 (N := l3.length) (N2 := r7.length) 5 rfl rfl trivial rfl rfl rfl rfl rfl isOwn rfl sl56 (len_map _ _) (len_map _ _) h7 (map_app _ _ _) rfl ?_
      refine op0 (sp_assign rfl rfl) rfl trivial rfl rfl ?_
      refine TL.nil ?_
      refine TC.inBlock ?_
      refine TC.region ?_
      obtain ⟨h8, h⟩ := chk_inv h
      refine op0 (sp_add rfl rfl rfl h8) rfl trivial rfl rfl ?_
      refine op0 (sp_move rfl rfl) rfl trivial rfl rfl ?_
      refine TL.nil ?_
      refine TC.inLoop ?_
      refine TC.seq ?_
      refine subJ [(2, 5)] (ih _ _ _ h) ?_ ?_ ?_
      · exact ⟨rfl, rfl, rfl, rfl, trivial⟩
      · exact ⟨mem_at 0 rfl, mem_at 3 rfl, trivial⟩
      · rfl
    · have h := cond_f h h3
      refine TC.exit rfl ?_
      refine TC.seq ?_
      refine TC.region ?_
      refine op0 (sp_move rfl rfl) rfl trivial rfl rfl ?_
      refine op0 (sp_assign rfl rfl) rfl trivial rfl rfl ?_
      refine op0 (sp_assign rfl rfl) rfl trivial rfl rfl ?_
      refine op0 (sp_assign rfl rfl) rfl trivial rfl rfl ?_
      refine TL.nil ?_
      cases h
      exact retJ [(0, 2)] (.tmp rfl (.tmp rfl (.tmp rfl .nil))) rfl ⟨mem_at 0 rfl, trivial⟩ rfl rfl
def ev_book_Log (n : Nat) (list1 : List (Int × Int × Int)) : Option ((List Int) × Int × Int) :=
  (ev_book_entries_check n list1).bind fun r2 => cond (r2.2 != 0) (some (([] : List Int), r2.1, r2.2)) (ev_book_Log_l0 n list1 n ([] : List Int) 0 list1)
set_option maxRecDepth 100000 in
set_option maxHeartbeats 2000000 in
theorem fc_book_Log {n : Nat} {list1 : List (Int × Int × Int)} {r : (List Int) × Int × Int} (h : ev_book_Log n list1 = some r) : FC Try.prog 66 [.ref 0] [.ro 0 3 (List.map en_api_BookEntry list1)] (.tup [.ref 0, .val (.int .i64 r.2.1), .val (.int .i64 r.2.2)]) [.row 0 5 1 (List.map en_uint8 r.1)] := by
  refine introJ (nz := 30) Try.func66 rfl rfl rfl (fun w0 R0 env0 => ?_)
  rw [ev_book_Log] at h
  refine TC.seq ?_
  refine TC.region ?_
  refine op0 (sp_assign rfl rfl) rfl trivial rfl rfl ?_
  refine op0 (sp_assign rfl rfl) rfl trivial rfl rfl ?_
  refine op0 (sp_assign rfl rfl) rfl trivial rfl rfl ?_
  refine TL.nil ?_
  refine TC.seq ?_
  refine TC.seq ?_
  refine TC.region ?_
  refine op0 (sp_move rfl rfl) rfl trivial rfl rfl ?_
  obtain ⟨r2, h1, h⟩ := bind_inv h
  refine op1 0 rfl (sp_call (avs := [.ref 0]) (need := [.ro 0 3 (List.map en_api_BookEntry list1)]) (v := .tup [.val (.int .i64 r2.1), .val (.int .i64 r2.2)]) (news := []) rfl rfl rfl Try.call62 (atJ [] [] (fc_book_entries_check h1) rfl rfl) (.inl (roAll rfl))) rfl trivial rfl rfl ?_
  refine op0 (sp_move rfl rfl) rfl trivial rfl rfl ?_
  refine op0 (sp_extract rfl rfl rfl) rfl trivial rfl rfl ?_
  refine op0 (sp_extract rfl rfl rfl) rfl trivial rfl rfl ?_
  refine op0 (sp_assign rfl rfl) rfl trivial rfl rfl ?_
  refine op0 (sp_assign rfl rfl) rfl trivial rfl rfl ?_
  refine TL.nil ?_
  refine TC.seq ?_
  refine TC.region ?_
  refine op0 (sp_move rfl rfl) rfl trivial rfl rfl ?_
  refine op0 (sp_neq rfl rfl rfl) rfl trivial rfl rfl ?_
  refine TL.nil ?_
  refine TC.cond (b := (r2.2 != 0)) rfl (fun h2 => ?_) (fun h2 => ?_)
  · have h := cond_t h h2
    refine TC.seq ?_
    refine TC.region ?_
    refine op0 (sp_move rfl rfl) rfl trivial rfl rfl ?_
    refine op0 (sp_move rfl rfl) rfl trivial rfl rfl ?_
    refine op0 (sp_assign rfl rfl) rfl trivial rfl rfl ?_
    refine op0 (sp_assign rfl rfl) rfl trivial rfl rfl ?_
    refine op0 (sp_assign rfl rfl) rfl trivial rfl rfl ?_
    refine TL.nil ?_
    refine nilRowC 2 1 5 1 (List.map en_uint8 []) rfl rfl rfl ?_
    cases h
    exact retJ [(0, 1)] (.tmp rfl (.tmp rfl (.tmp rfl .nil))) rfl ⟨mem_at 0 rfl, trivial⟩ rfl rfl
  · have h := cond_f h h2
    refine TC.skip ?_
    refine TC.seq ?_
    refine TC.seq ?_
    refine TC.region ?_
    refine op0 (sp_move rfl rfl) rfl trivial rfl rfl ?_
    refine op1 0 rfl (sp_lenM (N := list1.length) (len_map _ _) rfl rfl isRo Try.underlying36) rfl trivial rfl rfl ?_
    refine op0 (sp_move rfl rfl) rfl trivial rfl rfl ?_
    refine TL.nil ?_
    refine TC.block ?_
    refine TC.loop ?_
    refine TC.seq ?_
    refine nilRowC 2 6 5 1 (List.map en_uint8 []) rfl rfl rfl ?_
    refine subJ [(2, 6)] (ok_book_Log_l0 _ _ _ _ h) ?_ ?_ ?_
    · exact ⟨rfl, rfl, rfl, rfl, trivial⟩
    · exact ⟨mem_at 0 rfl, mem_at 1 rfl, trivial⟩
    · rfl
/- top_pubBook -/
def ev_top_pubBook (n : Nat) : Option Bool :=
  (ev_book_Noons n ([(0, 2, (-4968))] : List (Int × Int × Int)) 0 2).bind fun r1 => (ev_book_Log n ([(0, 2, (-4968))] : List (Int × Int × Int))).bind fun r2 => cond (r1.2 == 0) (cond (r2.2.2 == 0) (cond ((r1.1.length : Int) == 2) (idx r1.1 0 fun x3 => cond (x3 == 0) (idx r1.1 1 fun x4 => cond (x4 == 43195032) (some (strEq (strOf r2.1) (strLit [0, 0, 0, 0, 2, 108, 152, 6, 186]))) (some false)) (some false)) (some false)) (some false)) (some false)
set_option maxRecDepth 100000 in
set_option maxHeartbeats 2000000 in
theorem fc_top_pubBook {n : Nat}  {r : Bool} (h : ev_top_pubBook n = some r) : FC Try.prog 18 [] [] (.val (.bool r)) [] := by
  refine introJ (nz := 49) Try.func18 rfl rfl rfl (fun w0 R0 env0 => ?_)
  rw [ev_top_pubBook] at h
  refine TC.seq ?_
  refine TC.region ?_
  refine op0 (sp_assign rfl rfl) rfl trivial rfl rfl ?_
  refine TL.nil ?_
  refine TC.seq ?_
  refine TC.region ?_
  refine op0 (sp_build (qs := [(1, .val (.int .i64 2)), (2, .val (.int .i64 (-4968)))]) rfl bt35 rfl rfl rfl rfl) rfl trivial rfl rfl ?_
  refine op0 (sp_alloc 0 rfl Try.zeroValue35 rfl) rfl trivial rfl rfl ?_
  refine stoB 0 (cells' := [.val (.int .i64 0), .val (.int .i64 2), .val (.int .i64 (-4968))]) rfl rfl trivial rfl rfl rfl rfl vt35 rfl rfl rfl ?_
  refine TL.nil ?_
  refine TC.seq ?_
  refine TC.region ?_
  refine op1 0 rfl (sp_loadBA rfl isBlk rfl vt35 rfl rfl) rfl trivial rfl rfl ?_
  refine op0 (sp_buildSlice (qs := [.agg [.val (.int .i64 0), .val (.int .i64 2), .val (.int .i64 (-4968))]]) (need := []) (els := List.map en_api_BookEntry ([(0, 2, (-4968))] : List (Int × Int × Int))) 1 rfl sl36 (by decide) (by decide) rfl rfl rfl (.v (.v (.v (.nil)))) (map_len fun _ => rfl) rfl rfl rfl) rfl trivial rfl rfl ?_
  obtain ⟨r1, h1, h⟩ := bind_inv h
  refine op1 0 rfl (sp_call (avs := [.ref 1, .val (.int .i64 0), .val (.int .i64 2)]) (need := [.row 1 35 3 (List.map en_api_BookEntry ([(0, 2, (-4968))] : List (Int × Int × Int)))]) (v := .tup [.ref 2, .val (.int .i64 r1.2)]) (news := [.row 2 3 1 (List.map en_int r1.1)]) rfl rfl rfl Try.call16 (atJ [(0, 1)] [(500, 2)] (fc_book_Noons h1) rfl rfl) (.inr (List.forall_mem_cons.2 ⟨indep_map en_int_flat, (by simp)⟩))) rfl trivial rfl rfl ?_
  refine op0 (sp_move rfl rfl) rfl trivial rfl rfl ?_
  refine op0 (sp_extract rfl rfl rfl) rfl trivial rfl rfl ?_
  refine op0 (sp_extract rfl rfl rfl) rfl trivial rfl rfl ?_
  refine op0 (sp_assign rfl rfl) rfl trivial rfl rfl ?_
  refine op0 (sp_assign rfl rfl) rfl trivial rfl rfl ?_
  refine TL.nil ?_
  refine TC.seq ?_
  refine TC.region ?_
  refine op1 2 rfl (sp_loadBA rfl isBlk rfl vt35 rfl rfl) rfl trivial rfl rfl ?_
  refine op0 (sp_buildSlice (qs := [.agg [.val (.int .i64 0), .val (.int .i64 2), .val (.int .i64 (-4968))]]) (need := []) (els := List.map en_api_BookEntry ([(0, 2, (-4968))] : List (Int × Int × Int))) 3 rfl sl36 (by decide) (by decide) rfl rfl rfl (.v (.v (.v (.nil)))) (map_len fun _ => rfl) rfl rfl rfl) rfl trivial rfl rfl ?_
  obtain ⟨r2, h2, h⟩ := bind_inv h
  refine op1 0 rfl (sp_call (avs := [.ref 3]) (need := [.row 3 35 3 (List.map en_api_BookEntry ([(0, 2, (-4968))] : List (Int × Int × Int)))]) (v := .tup [.ref 4, .val (.int .i64 r2.2.1), .val (.int .i64 r2.2.2)]) (news := [.row 4 5 1 (List.map en_uint8 r2.1)]) rfl rfl rfl Try.call66 (atJ [(0, 3)] [(0, 4)] (fc_book_Log h2) rfl rfl) (.inr (List.forall_mem_cons.2 ⟨indep_map en_uint8_flat, (by simp)⟩))) rfl trivial rfl rfl ?_
  refine op0 (sp_move rfl rfl) rfl trivial rfl rfl ?_
  refine op0 (sp_extract rfl rfl rfl) rfl trivial rfl rfl ?_
  refine op0 (sp_extract rfl rfl rfl) rfl trivial rfl rfl ?_
  refine op0 (sp_extract rfl rfl rfl) rfl trivial rfl rfl ?_
  refine op0 (sp_assign rfl rfl) rfl trivial rfl rfl ?_
  refine op0 (sp_assign rfl rfl) rfl trivial rfl rfl ?_
  refine op0 (sp_assign rfl rfl) rfl trivial rfl rfl ?_
  refine TL.nil ?_
  refine TC.seq ?_
  refine TC.region ?_
  refine op0 (sp_move rfl rfl) rfl trivial rfl rfl ?_
  refine op0 (sp_eql rfl rfl rfl) rfl trivial rfl rfl ?_
  refine op0 (sp_move rfl rfl) rfl trivial rfl rfl ?_
  rcases cond_cases h with ⟨h3, h⟩ | ⟨h3, h⟩
  · refine (boolLit 23 rfl h3).2 ?_
    refine op0 (sp_move rfl rfl) rfl ⟨_, rfl, rfl⟩ rfl rfl ?_
    refine op0 (sp_eql rfl rfl rfl) rfl ⟨_, rfl, rfl⟩ rfl rfl ?_
    refine op0 (sp_pickT rfl rfl rfl) rfl trivial rfl rfl ?_
    refine op0 (sp_move rfl rfl) rfl trivial rfl rfl ?_
    rcases cond_cases h with ⟨h4, h⟩ | ⟨h4, h⟩
    · refine (boolLit 27 rfl h4).2 ?_
      refine op0 (sp_move rfl rfl) rfl ⟨_, rfl, rfl⟩ rfl rfl ?_
      refine op1 2 rfl (sp_lenM (N := r1.1.length) (len_map _ _) rfl rfl isOwn Try.underlying37) rfl ⟨_, rfl, rfl⟩ rfl rfl ?_
      refine op0 (sp_eql rfl rfl rfl) rfl ⟨_, rfl, rfl⟩ rfl rfl ?_
      refine op0 (sp_pickT rfl rfl rfl) rfl trivial rfl rfl ?_
      refine op0 (sp_move rfl rfl) rfl trivial rfl rfl ?_
      rcases cond_cases h with ⟨h5, h⟩ | ⟨h5, h⟩
      · refine (boolLit 32 rfl h5).2 ?_
        refine op0 (sp_move rfl rfl) rfl ⟨_, rfl, rfl⟩ rfl rfl ?_
        obtain ⟨x3, h6, h7, h⟩ := idx_inv h
        refine op1 2 rfl (sp_indexS rfl rfl rfl isOwn sl37 h6 (map_get _ h7)) rfl ⟨_, rfl, rfl⟩ rfl rfl ?_
        refine op1 2 rfl (sp_loadR (i := (0 : Int).toNat) (j := 0) rfl rfl isOwn vt3 rfl (map_get _ h7) rfl (.v (.nil)) (nodup_of_B rfl)) rfl ⟨_, rfl, rfl⟩ rfl rfl ?_
        refine op0 (sp_eql rfl rfl rfl) rfl ⟨_, rfl, rfl⟩ rfl rfl ?_
        refine op0 (sp_pickT rfl rfl rfl) rfl trivial rfl rfl ?_
        refine op0 (sp_move rfl rfl) rfl trivial rfl rfl ?_
        rcases cond_cases h with ⟨h8, h⟩ | ⟨h8, h⟩
        · refine (boolLit 38 rfl h8).2 ?_
          refine op0 (sp_move rfl rfl) rfl ⟨_, rfl, rfl⟩ rfl rfl ?_
          obtain ⟨x4, h9, h10, h⟩ := idx_inv h
          refine op1 2 rfl (sp_indexS rfl rfl rfl isOwn sl37 h9 (map_get _ h10)) rfl ⟨_, rfl, rfl⟩ rfl rfl ?_
          refine op1 2 rfl (sp_loadR (i := (1 : Int).toNat) (j := 0) rfl rfl isOwn vt3 rfl (map_get _ h10) rfl (.v (.nil)) (nodup_of_B rfl)) rfl ⟨_, rfl, rfl⟩ rfl rfl ?_
          refine op0 (sp_eql rfl rfl rfl) rfl ⟨_, rfl, rfl⟩ rfl rfl ?_
          refine op0 (sp_pickT rfl rfl rfl) rfl trivial rfl rfl ?_
          refine op0 (sp_move rfl rfl) rfl trivial rfl rfl ?_
          rcases cond_cases h with ⟨h11, h⟩ | ⟨h11, h⟩
          · refine (boolLit 44 rfl h11).2 ?_
            refine op0 (sp_move rfl rfl) rfl ⟨_, rfl, rfl⟩ rfl rfl ?_
            refine op1 0 rfl (sp_bytesStr (xs := r2.1) rfl rfl Try.underlying56 Try.underlying5 Try.underlying9 rfl isOwn) rfl ⟨_, rfl, rfl⟩ rfl rfl ?_
            refine op0 (sp_strEq rfl rfl rfl) rfl ⟨_, rfl, rfl⟩ rfl rfl ?_
            refine op0 (sp_pickT rfl rfl rfl) rfl trivial rfl rfl ?_
            refine op0 (sp_assign rfl rfl) rfl trivial rfl rfl ?_
            refine TL.nil ?_
            cases h
            exact retJ [] (.tmp rfl .nil) rfl trivial rfl rfl
          · refine (boolLit 44 rfl h11).2 ?_
            refine opSkip rfl ⟨_, rfl, .inl rfl⟩ rfl ?_
            refine opSkip rfl ⟨_, rfl, .inl rfl⟩ rfl ?_
            refine opSkip rfl ⟨_, rfl, .inl rfl⟩ rfl ?_
            refine op0 (sp_pickF rfl rfl rfl) rfl trivial rfl rfl ?_
            refine op0 (sp_assign rfl rfl) rfl trivial rfl rfl ?_
            refine TL.nil ?_
            cases h
            exact retJ [] (.tmp rfl .nil) rfl trivial rfl rfl
        · refine (boolLit 38 rfl h8).2 ?_
          refine opSkip rfl ⟨_, rfl, .inl rfl⟩ rfl ?_
          refine opSkip rfl ⟨_, rfl, .inl rfl⟩ rfl ?_
          refine opSkip rfl ⟨_, rfl, .inl rfl⟩ rfl ?_
          refine opSkip rfl ⟨_, rfl, .inl rfl⟩ rfl ?_
          refine op0 (sp_pickF rfl rfl rfl) rfl trivial rfl rfl ?_
          refine op0 (sp_move rfl rfl) rfl trivial rfl rfl ?_
          refine opSkip rfl ⟨_, rfl, .inl rfl⟩ rfl ?_
          refine opSkip rfl ⟨_, rfl, .inl rfl⟩ rfl ?_
          refine opSkip rfl ⟨_, rfl, .inl rfl⟩ rfl ?_
          refine op0 (sp_pickF rfl rfl rfl) rfl trivial rfl rfl ?_
          refine op0 (sp_assign rfl rfl) rfl trivial rfl rfl ?_
          refine TL.nil ?_
          cases h
          exact retJ [] (.tmp rfl .nil) rfl trivial rfl rfl
      · refine (boolLit 32 rfl h5).2 ?_
        refine opSkip rfl ⟨_, rfl, .inl rfl⟩ rfl ?_
        refine opSkip rfl ⟨_, rfl, .inl rfl⟩ rfl ?_
        refine opSkip rfl ⟨_, rfl, .inl rfl⟩ rfl ?_
        refine opSkip rfl ⟨_, rfl, .inl rfl⟩ rfl ?_
        refine op0 (sp_pickF rfl rfl rfl) rfl trivial rfl rfl ?_
        refine op0 (sp_move rfl rfl) rfl trivial rfl rfl ?_
        refine opSkip rfl ⟨_, rfl, .inl rfl⟩ rfl ?_
        refine opSkip rfl ⟨_, rfl, .inl rfl⟩ rfl ?_
        refine opSkip rfl ⟨_, rfl, .inl rfl⟩ rfl ?_
        refine opSkip rfl ⟨_, rfl, .inl rfl⟩ rfl ?_
        refine op0 (sp_pickF rfl rfl rfl) rfl trivial rfl rfl ?_
        refine op0 (sp_move rfl rfl) rfl trivial rfl rfl ?_
        refine opSkip rfl ⟨_, rfl, .inl rfl⟩ rfl ?_
        refine opSkip rfl ⟨_, rfl, .inl rfl⟩ rfl ?_
        refine opSkip rfl ⟨_, rfl, .inl rfl⟩ rfl ?_
        refine op0 (sp_pickF rfl rfl rfl) rfl trivial rfl rfl ?_
        refine op0 (sp_assign rfl rfl) rfl trivial rfl rfl ?_
        refine TL.nil ?_
        cases h
        exact retJ [] (.tmp rfl .nil) rfl trivial rfl rfl
    · refine (boolLit 27 rfl h4).2 ?_
      refine opSkip rfl ⟨_, rfl, .inl rfl⟩ rfl ?_
      refine opSkip rfl ⟨_, rfl, .inl rfl⟩ rfl ?_
      refine opSkip rfl ⟨_, rfl, .inl rfl⟩ rfl ?_
      refine op0 (sp_pickF rfl rfl rfl) rfl trivial rfl rfl ?_
      refine op0 (sp_move rfl rfl) rfl trivial rfl rfl ?_
      refine opSkip rfl ⟨_, rfl, .inl rfl⟩ rfl ?_
      refine opSkip rfl ⟨_, rfl, .inl rfl⟩ rfl ?_
      refine opSkip rfl ⟨_, rfl, .inl rfl⟩ rfl ?_
      refine opSkip rfl ⟨_, rfl, .inl rfl⟩ rfl ?_
      refine op0 (sp_pickF rfl rfl rfl) rfl trivial rfl rfl ?_
      refine op0 (sp_move rfl rfl) rfl trivial rfl rfl ?_
      refine opSkip rfl ⟨_, rfl, .inl rfl⟩ rfl ?_
      refine opSkip rfl ⟨_, rfl, .inl rfl⟩ rfl ?_
      refine opSkip rfl ⟨_, rfl, .inl rfl⟩ rfl ?_
      refine opSkip rfl ⟨_, rfl, .inl rfl⟩ rfl ?_
      refine op0 (sp_pickF rfl rfl rfl) rfl trivial rfl rfl ?_
      refine op0 (sp_move rfl rfl) rfl trivial rfl rfl ?_
      refine opSkip rfl ⟨_, rfl, .inl rfl⟩ rfl ?_
      refine opSkip rfl ⟨_, rfl, .inl rfl⟩ rfl ?_
      refine opSkip rfl ⟨_, rfl, .inl rfl⟩ rfl ?_
      refine op0 (sp_pickF rfl rfl rfl) rfl trivial rfl rfl ?_
      refine op0 (sp_assign rfl rfl) rfl trivial rfl rfl ?_
      refine TL.nil ?_
      cases h
      exact retJ [] (.tmp rfl .nil) rfl trivial rfl rfl
  · refine (boolLit 23 rfl h3).2 ?_
    refine opSkip rfl ⟨_, rfl, .inl rfl⟩ rfl ?_
    refine opSkip rfl ⟨_, rfl, .inl rfl⟩ rfl ?_
    refine op0 (sp_pickF rfl rfl rfl) rfl trivial rfl rfl ?_
    refine op0 (sp_move rfl rfl) rfl trivial rfl rfl ?_
    refine opSkip rfl ⟨_, rfl, .inl rfl⟩ rfl ?_
    refine opSkip rfl ⟨_, rfl, .inl rfl⟩ rfl ?_
    refine opSkip rfl ⟨_, rfl, .inl rfl⟩ rfl ?_
    refine op0 (sp_pickF rfl rfl rfl) rfl trivial rfl rfl ?_
    refine op0 (sp_move rfl rfl) rfl trivial rfl rfl ?_
    refine opSkip rfl ⟨_, rfl, .inl rfl⟩ rfl ?_
    refine opSkip rfl ⟨_, rfl, .inl rfl⟩ rfl ?_
    refine opSkip rfl ⟨_, rfl, .inl rfl⟩ rfl ?_
    refine opSkip rfl ⟨_, rfl, .inl rfl⟩ rfl ?_
    refine op0 (sp_pickF rfl rfl rfl) rfl trivial rfl rfl ?_
    refine op0 (sp_move rfl rfl) rfl trivial rfl rfl ?_
    refine opSkip rfl ⟨_, rfl, .inl rfl⟩ rfl ?_
    refine opSkip rfl ⟨_, rfl, .inl rfl⟩ rfl ?_
    refine opSkip rfl ⟨_, rfl, .inl rfl⟩ rfl ?_
    refine opSkip rfl ⟨_, rfl, .inl rfl⟩ rfl ?_
    refine op0 (sp_pickF rfl rfl rfl) rfl trivial rfl rfl ?_
    refine op0 (sp_move rfl rfl) rfl trivial rfl rfl ?_
    refine opSkip rfl ⟨_, rfl, .inl rfl⟩ rfl ?_
    refine opSkip rfl ⟨_, rfl, .inl rfl⟩ rfl ?_
    refine opSkip rfl ⟨_, rfl, .inl rfl⟩ rfl ?_
    refine op0 (sp_pickF rfl rfl rfl) rfl trivial rfl rfl ?_
    refine op0 (sp_assign rfl rfl) rfl trivial rfl rfl ?_
    refine TL.nil ?_
    cases h
    exact retJ [] (.tmp rfl .nil) rfl trivial rfl rfl
end
end Go.Proofs.Ytmgcinejodpopaa.Sy
