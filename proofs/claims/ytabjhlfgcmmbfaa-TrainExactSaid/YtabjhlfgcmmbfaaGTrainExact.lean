/- What functions of the program compute, and that they do: printed by symgen.py. -/
import Derived.Test.YtabjhlfgcmmbfaaGLib
import Derived.Test.YtabjhlfgcmmbfaaGturretlaw01
import Derived.Test.YtabjhlfgcmmbfaaGTrain
set_option linter.unusedSimpArgs false
set_option linter.unusedVariables false
namespace Go.Proofs.Ytabjhlfgcmmbfaa.Sy
open Go.RowKit
noncomputable section

/- law01_TrainExact -/
def ev_law01_TrainExact_j3 (n : Nat) (b19 : Bool) (i20 : Int) (r13 : (List ((List Int) × (List Int))) × Int) (r5 : (List Int) × (List Int)) (k_law01_TrainExact_l2 : Bool → Int → Option Bool) : Option Bool :=
  cond b19 (chk (in64 (i20 + 1)) <| k_law01_TrainExact_l2 true (i20 + 1)) (idx r13.1 i20 fun x26 => (ev_law01_equal n x26.1 x26.2 r5.1 r5.2).bind fun r27 => chk (in64 (i20 + 1)) <| k_law01_TrainExact_l2 r27 (i20 + 1))
set_option maxRecDepth 100000 in
set_option maxHeartbeats 2000000 in
theorem ok_law01_TrainExact_j3 {n : Nat} {w0 : World} {R0 : Nat → Prop} {env0 : Env} {r : Bool} {r8 : Int × Int × Bool} {r13 : (List ((List Int) × (List Int))) × Int} {r4 : (List Int) × (List Int)} {r5 : (List Int) × (List Int)} {b19 : Bool} {i20 : Int} {k_law01_TrainExact_l2 : Bool → Int → Option Bool} (hk_law01_TrainExact_l2 : ∀ (b19 : Bool) (i20 : Int), k_law01_TrainExact_l2 b19 i20 = some r → TC Try.prog ⟨w0, fun _ => False, R0⟩ 154 (bodyPost Try.prog Try.f7 (Post ⟨w0, fun _ => False, R0⟩ env0 (.val (.bool r)) [])) [.code (sub (bodyOf Try.f7) [1, 1, 1, 1, 1, 1, 1, 1, 1, 1, 1, 0, 1, 0, 0, 0, 0]), .code (sub (bodyOf Try.f7) [1, 1, 1, 1, 1, 1, 1, 1, 1, 1, 1, 0, 1, 0, 0, 0, 1]), .code (sub (bodyOf Try.f7) [1, 1, 1, 1, 1, 1, 1, 1, 1, 1, 1, 0, 1, 0, 0, 1]), .inLoop (sub (bodyOf Try.f7) [1, 1, 1, 1, 1, 1, 1, 1, 1, 1, 1, 0, 1, 0, 0]), .inBlock 0, .code (sub (bodyOf Try.f7) [1, 1, 1, 1, 1, 1, 1, 1, 1, 1, 1, 1])] ([(5, .ptr 6 0), (6, .ptr 9 0), (7, .ptr 10 0), (9, .ref 17), (13, .val (.bool b19)), (14, .val (.int .i64 i20))]) ([.blk 6 [.ref 4, .ref 5] 40, .blk 9 [.ref 7, .ref 8] 57, .blk 10 [.val (.int .i64 r8.1), .val (.int .i64 r8.2.1)] 26, .row 17 57 2 (List.map en_api_Train r13.1), .row 4 3 1 (List.map en_int r4.1), .row 5 3 1 (List.map en_int r4.2), .row 7 3 1 (List.map en_int r5.1), .row 8 3 1 (List.map en_int r5.2)])) (h : ev_law01_TrainExact_j3 n b19 i20 r13 r5 k_law01_TrainExact_l2 = some r) : TC Try.prog ⟨w0, fun _ => False, R0⟩ 154 (bodyPost Try.prog Try.f7 (Post ⟨w0, fun _ => False, R0⟩ env0 (.val (.bool r)) [])) [.code (sub (bodyOf Try.f7) [1, 1, 1, 1, 1, 1, 1, 1, 1, 1, 1, 0, 1, 0, 0, 1, 0, 0, 0, 1, 1]), .code (sub (bodyOf Try.f7) [1, 1, 1, 1, 1, 1, 1, 1, 1, 1, 1, 0, 1, 0, 0, 1, 0, 0, 1]), .inBlock 1, .code (sub (bodyOf Try.f7) [1, 1, 1, 1, 1, 1, 1, 1, 1, 1, 1, 0, 1, 0, 0, 1, 1]), .inLoop (sub (bodyOf Try.f7) [1, 1, 1, 1, 1, 1, 1, 1, 1, 1, 1, 0, 1, 0, 0]), .inBlock 0, .code (sub (bodyOf Try.f7) [1, 1, 1, 1, 1, 1, 1, 1, 1, 1, 1, 1])] ([(5, .ptr 6 0), (6, .ptr 9 0), (7, .ptr 10 0), (9, .ref 17), (13, .val (.bool b19)), (14, .val (.int .i64 i20))]) ([.blk 6 [.ref 4, .ref 5] 40, .blk 9 [.ref 7, .ref 8] 57, .blk 10 [.val (.int .i64 r8.1), .val (.int .i64 r8.2.1)] 26, .row 17 57 2 (List.map en_api_Train r13.1), .row 4 3 1 (List.map en_int r4.1), .row 5 3 1 (List.map en_int r4.2), .row 7 3 1 (List.map en_int r5.1), .row 8 3 1 (List.map en_int r5.2)]) := by
  rw [ev_law01_TrainExact_j3] at h
  refine TC.skip ?_
  rcases cond_cases h with ⟨h42, h⟩ | ⟨h42, h⟩
  · refine drawJ 7 [⟨.val (.bool b19), [], [], []⟩, ⟨.val (.bool true), [], [], []⟩, ⟨.val (undef), [], [], []⟩, ⟨.val (undef), [], [], []⟩, ⟨.val (undef), [], [], []⟩, ⟨.val (undef), [], [], []⟩, ⟨.val (undef), [], [], []⟩] rfl ?_ rfl ?_ rfl ?_ ?_
    · kernel_rfl
    · kernel_rfl
    · exact DAll.op' (sp_move rfl rfl) trivial rfl (From.ok (ps := []) trivial) (DAll.op' (sp_castB h42 (sp_move rfl rfl)) trivial rfl (From.ok (ps := []) trivial) (.skip ⟨_, rfl, .inl rfl⟩ rfl rfl rfl (.skip ⟨_, rfl, .inl rfl⟩ rfl rfl rfl (.skip ⟨_, rfl, .inl rfl⟩ rfl rfl rfl (.skip ⟨_, rfl, .inl rfl⟩ rfl rfl rfl (.skip ⟨_, rfl, .inl rfl⟩ rfl rfl rfl (.nil)))))))
    refine opSkip rfl ⟨_, rfl, .inl rfl⟩ rfl ?_
    refine op0 (sp_pickT rfl rfl rfl) rfl trivial rfl rfl ?_
    refine op0 (sp_assign rfl rfl) rfl trivial rfl rfl ?_
    refine TL.nil ?_
    refine TC.inBlock ?_
    refine TC.region ?_
    refine op0 (sp_move rfl rfl) rfl trivial rfl rfl ?_
    obtain ⟨h43, h⟩ := chk_inv h
    refine op0 (sp_add rfl rfl rfl h43) rfl trivial rfl rfl ?_
    refine op0 (sp_assign rfl rfl) rfl trivial rfl rfl ?_
    refine TL.nil ?_
    refine TC.inLoop ?_
    refine TC.seq ?_
    refine TC.seq ?_
    refine subJ [] (hk_law01_TrainExact_l2 _ _ h) ?_ ?_ ?_
    · exact ⟨rfl, rfl, rfl, rfl, rfl, rfl, trivial⟩
    · exact ⟨mem_at 0 rfl, mem_at 1 rfl, mem_at 2 rfl, mem_at 3 rfl, mem_at 4 rfl, mem_at 5 rfl, mem_at 6 rfl, mem_at 7 rfl, trivial⟩
    · rfl
  · obtain ⟨x26, h44, h45, h⟩ := idx_inv h
    refine drawJ 7 [⟨.val (.bool b19), [], [], []⟩, ⟨.val (.bool false), [], [], []⟩, ⟨.ref 17, [], [], []⟩, ⟨.val (.int .i64 i20), [], [], []⟩, ⟨.cell 17 ((i20 : Int).toNat * 2), [], [.row 17 57 2 (List.map en_api_Train r13.1)], []⟩, ⟨.agg [.ref 31, .ref 32], [.ro 31 1 (List.map en_int x26.1), .ro 32 1 (List.map en_int x26.2)], [.row 17 57 2 (List.map en_api_Train r13.1)], []⟩, ⟨.agg [.ref 7, .ref 8], [], [.blk 9 [.ref 7, .ref 8] 57], []⟩] rfl ?_ rfl ?_ rfl ?_ ?_
    · kernel_rfl
    · kernel_rfl
    · exact DAll.op' (sp_move rfl rfl) trivial rfl (From.ok (ps := []) trivial) (DAll.op' (sp_castB h42 (sp_move rfl rfl)) trivial rfl (From.ok (ps := []) trivial) (DAll.op' (sp_move rfl rfl) ⟨_, rfl, rfl⟩ rfl (From.ok (ps := []) trivial) (DAll.op' (sp_move rfl rfl) ⟨_, rfl, rfl⟩ rfl (From.ok (ps := []) trivial) (DAll.op' (sp_indexS rfl rfl rfl isOwn sl52 h44 (map_get _ h45)) ⟨_, rfl, rfl⟩ rfl (From.ok (ps := [(none, 3)]) ⟨⟨rfl, rfl⟩, trivial⟩) (DAll.op' (sp_loadRA (i := (i20 : Int).toNat) (j := 0) (as_ := [.ref 31, .ref 32]) (ns := [.ro 31 1 (List.map en_int x26.1), .ro 32 1 (List.map en_int x26.2)]) rfl rfl isOwn vt57 rfl (map_get _ h45) rfl rfl (by decide) (.s (.s (.nil))) (nodup_of_B rfl)) ⟨_, rfl, rfl⟩ rfl (From.ok (ps := [(none, 3)]) ⟨⟨rfl, rfl⟩, trivial⟩) (DAll.op' (sp_loadBA rfl isBlk rfl vt57 rfl rfl) ⟨_, rfl, rfl⟩ rfl (From.ok (ps := [(none, 1)]) ⟨⟨rfl, rfl⟩, trivial⟩) (.nil)))))))
    obtain ⟨r27, h46, h⟩ := bind_inv h
    refine opN (need := [.ro 31 1 (List.map en_int x26.1), .ro 32 1 (List.map en_int x26.2), .row 7 3 1 (List.map en_int r5.1), .row 8 3 1 (List.map en_int r5.2)]) [0, 1, 8, 9] ⟨rfl, rfl, rfl, rfl, trivial⟩ (sp_call (avs := [.agg [.ref 31, .ref 32], .agg [.ref 7, .ref 8]]) (need := [.ro 31 1 (List.map en_int x26.1), .ro 32 1 (List.map en_int x26.2), .row 7 3 1 (List.map en_int r5.1), .row 8 3 1 (List.map en_int r5.2)]) (v := .val (.bool r27)) (news := []) rfl rfl rfl Try.call39 (atJ [(0, 31), (1, 32), (2, 7), (3, 8)] [] (fc_law01_equal h46) rfl rfl) (.inr (fun x hx => nomatch hx))) rfl ⟨_, rfl, rfl⟩ rfl rfl ?_
    refine op0 (sp_pickF rfl rfl rfl) rfl trivial rfl rfl ?_
    refine op0 (sp_assign rfl rfl) rfl trivial rfl rfl ?_
    refine TL.nil ?_
    refine TC.inBlock ?_
    refine TC.region ?_
    refine op0 (sp_move rfl rfl) rfl trivial rfl rfl ?_
    obtain ⟨h47, h⟩ := chk_inv h
    refine op0 (sp_add rfl rfl rfl h47) rfl trivial rfl rfl ?_
    refine op0 (sp_assign rfl rfl) rfl trivial rfl rfl ?_
    refine TL.nil ?_
    refine TC.inLoop ?_
    refine TC.seq ?_
    refine TC.seq ?_
    refine subJ [] (hk_law01_TrainExact_l2 _ _ h) ?_ ?_ ?_
    · exact ⟨rfl, rfl, rfl, rfl, rfl, rfl, trivial⟩
    · exact ⟨mem_at 2 rfl, mem_at 3 rfl, mem_at 4 rfl, mem_at 5 rfl, mem_at 6 rfl, mem_at 7 rfl, mem_at 8 rfl, mem_at 9 rfl, trivial⟩
    · rfl
def ev_law01_TrainExact_l2 (n : Nat) (r13 : (List ((List Int) × (List Int))) × Int) (r4 : (List Int) × (List Int)) (r8 : Int × Int × Bool) (r5 : (List Int) × (List Int)) : Nat → Bool → Int → Option Bool
  | 0, _, _ => none
  | m + 1, b19, i20 => cond (decide (i20 < (r13.1.length : Int))) (idx r13.1 i20 fun x21 => (ev_law01_of n x21.1 x21.2 r4.1 r4.2 r8.1 r8.2.1).bind fun r22 => cond (!r22) (some false) (idx r13.1 0 fun x23 => cond ((x21.1.length : Int) != (x23.1.length : Int)) (some false) (cond (decide ((0 : Int) < i20)) (chk (in64 (i20 - 1)) <| idx r13.1 (i20 - 1) fun x24 => (ev_law01_equal n x21.1 x21.2 x24.1 x24.2).bind fun r25 => cond r25 (some false) (ev_law01_TrainExact_j3 n b19 i20 r13 r5 (fun b19q i20q => ev_law01_TrainExact_l2 n r13 r4 r8 r5 m b19q i20q))) (ev_law01_TrainExact_j3 n b19 i20 r13 r5 (fun b19q i20q => ev_law01_TrainExact_l2 n r13 r4 r8 r5 m b19q i20q))))) (cond b19 ((ev_law01_known n).bind fun r28 => some r28) (some false))
set_option maxRecDepth 100000 in
set_option maxHeartbeats 2000000 in
theorem ok_law01_TrainExact_l2 {n : Nat} {w0 : World} {R0 : Nat → Prop} {env0 : Env} {r : Bool} {r8 : Int × Int × Bool} {r13 : (List ((List Int) × (List Int))) × Int} {r4 : (List Int) × (List Int)} {r5 : (List Int) × (List Int)} : ∀ (m : Nat) (b19 : Bool) (i20 : Int), ev_law01_TrainExact_l2 n r13 r4 r8 r5 m b19 i20 = some r → TC Try.prog ⟨w0, fun _ => False, R0⟩ 154 (bodyPost Try.prog Try.f7 (Post ⟨w0, fun _ => False, R0⟩ env0 (.val (.bool r)) [])) [.code (sub (bodyOf Try.f7) [1, 1, 1, 1, 1, 1, 1, 1, 1, 1, 1, 0, 1, 0, 0, 0, 0]), .code (sub (bodyOf Try.f7) [1, 1, 1, 1, 1, 1, 1, 1, 1, 1, 1, 0, 1, 0, 0, 0, 1]), .code (sub (bodyOf Try.f7) [1, 1, 1, 1, 1, 1, 1, 1, 1, 1, 1, 0, 1, 0, 0, 1]), .inLoop (sub (bodyOf Try.f7) [1, 1, 1, 1, 1, 1, 1, 1, 1, 1, 1, 0, 1, 0, 0]), .inBlock 0, .code (sub (bodyOf Try.f7) [1, 1, 1, 1, 1, 1, 1, 1, 1, 1, 1, 1])] ([(5, .ptr 6 0), (6, .ptr 9 0), (7, .ptr 10 0), (9, .ref 17), (13, .val (.bool b19)), (14, .val (.int .i64 i20))]) ([.blk 6 [.ref 4, .ref 5] 40, .blk 9 [.ref 7, .ref 8] 57, .blk 10 [.val (.int .i64 r8.1), .val (.int .i64 r8.2.1)] 26, .row 17 57 2 (List.map en_api_Train r13.1), .row 4 3 1 (List.map en_int r4.1), .row 5 3 1 (List.map en_int r4.2), .row 7 3 1 (List.map en_int r5.1), .row 8 3 1 (List.map en_int r5.2)]) := by
  intro m
  induction m with
  | zero => intro b19 i20 h; exact none_no h
  | succ m ih =>
    intro b19 i20 h
    rw [ev_law01_TrainExact_l2] at h
    refine TC.region ?_
    refine op0 (sp_move rfl rfl) rfl trivial rfl rfl ?_
    refine op0 (sp_move rfl rfl) rfl trivial rfl rfl ?_
    refine op1 3 rfl (sp_lenM (N := r13.1.length) (len_map _ _) rfl rfl isOwn Try.underlying52) rfl trivial rfl rfl ?_
    refine op0 (sp_lss rfl rfl rfl) rfl trivial rfl rfl ?_
    refine TL.nil ?_
    refine TC.cond (b := (decide (i20 < (r13.1.length : Int)))) rfl (fun h28 => ?_) (fun h28 => ?_)
    · have h := cond_t h h28
      refine TC.skip ?_
      refine TC.seq ?_
      refine TC.block ?_
      refine TC.seq ?_
      refine TC.seq ?_
      obtain ⟨x21, h29, h30, h⟩ := idx_inv h
      obtain ⟨r22, h31, h⟩ := bind_inv h
      rcases cond_cases h with ⟨h32, h⟩ | ⟨h32, h⟩
      · refine drawJ 35 [⟨.ref 17, [], [], []⟩, ⟨.val (.int .i64 i20), [], [], []⟩, ⟨.cell 17 ((i20 : Int).toNat * 2), [], [.row 17 57 2 (List.map en_api_Train r13.1)], []⟩, ⟨.agg [.ref 23, .ref 24], [.ro 23 1 (List.map en_int x21.1), .ro 24 1 (List.map en_int x21.2)], [.row 17 57 2 (List.map en_api_Train r13.1)], []⟩, ⟨.agg [.ref 4, .ref 5], [], [.blk 6 [.ref 4, .ref 5] 40], []⟩, ⟨.agg [.val (.int .i64 r8.1), .val (.int .i64 r8.2.1)], [], [.blk 10 [.val (.int .i64 r8.1), .val (.int .i64 r8.2.1)] 26], []⟩, ⟨.val (.bool r22), [], [.ro 23 1 (List.map en_int x21.1), .ro 24 1 (List.map en_int x21.2), .row 4 3 1 (List.map en_int r4.1), .row 5 3 1 (List.map en_int r4.2)], []⟩, ⟨.val (.bool (!r22)), [], [], []⟩, ⟨.val (.bool true), [], [], []⟩, ⟨.val (undef), [], [], []⟩, ⟨.val (undef), [], [], []⟩, ⟨.val (undef), [], [], []⟩, ⟨.val (undef), [], [], []⟩, ⟨.val (undef), [], [], []⟩, ⟨.val (undef), [], [], []⟩, ⟨.val (undef), [], [], []⟩, ⟨.val (undef), [], [], []⟩, ⟨.val (undef), [], [], []⟩, ⟨.val (undef), [], [], []⟩, ⟨.val (undef), [], [], []⟩, ⟨.val (undef), [], [], []⟩, ⟨.val (.bool true), [], [], []⟩, ⟨.val (.bool true), [], [], []⟩, ⟨.val (undef), [], [], []⟩, ⟨.val (undef), [], [], []⟩, ⟨.val (undef), [], [], []⟩, ⟨.val (undef), [], [], []⟩, ⟨.val (undef), [], [], []⟩, ⟨.val (undef), [], [], []⟩, ⟨.val (undef), [], [], []⟩, ⟨.val (undef), [], [], []⟩, ⟨.val (undef), [], [], []⟩, ⟨.val (undef), [], [], []⟩, ⟨.val (undef), [], [], []⟩, ⟨.val (undef), [], [], []⟩] rfl ?_ rfl ?_ rfl ?_ ?_
        · kernel_rfl
        · kernel_rfl
        · exact DAll.op' (sp_move rfl rfl) trivial rfl (From.ok (ps := []) trivial) (DAll.op' (sp_move rfl rfl) trivial rfl (From.ok (ps := []) trivial) (DAll.op' (sp_indexS rfl rfl rfl isOwn sl52 h29 (map_get _ h30)) trivial rfl (From.ok (ps := [(none, 3)]) ⟨⟨rfl, by kernel_rfl⟩, trivial⟩) (DAll.op' (sp_loadRA (i := (i20 : Int).toNat) (j := 0) (as_ := [.ref 23, .ref 24]) (ns := [.ro 23 1 (List.map en_int x21.1), .ro 24 1 (List.map en_int x21.2)]) rfl rfl isOwn vt57 rfl (map_get _ h30) rfl rfl (by decide) (.s (.s (.nil))) (nodup_of_B rfl)) trivial rfl (From.ok (ps := [(none, 3)]) ⟨⟨rfl, by kernel_rfl⟩, trivial⟩) (DAll.op' (sp_loadBA rfl isBlk rfl vt40 rfl rfl) trivial rfl (From.ok (ps := [(none, 0)]) ⟨⟨rfl, by kernel_rfl⟩, trivial⟩) (DAll.op' (sp_loadBA rfl isBlk rfl vt26 rfl rfl) trivial rfl (From.ok (ps := [(none, 2)]) ⟨⟨rfl, by kernel_rfl⟩, trivial⟩) (DAll.op' (sp_call (avs := [.agg [.ref 23, .ref 24], .agg [.ref 4, .ref 5], .agg [.val (.int .i64 r8.1), .val (.int .i64 r8.2.1)]]) (need := [.ro 23 1 (List.map en_int x21.1), .ro 24 1 (List.map en_int x21.2), .row 4 3 1 (List.map en_int r4.1), .row 5 3 1 (List.map en_int r4.2)]) (v := .val (.bool r22)) (news := []) rfl rfl rfl Try.call38 (atJ [(0, 23), (1, 24), (2, 4), (3, 5)] [] (fc_law01_of h31) rfl rfl) (.inr (fun x hx => nomatch hx))) trivial rfl (From.ok (ps := [(some 3, 0), (some 3, 1), (none, 4), (none, 5)]) ⟨⟨_, rfl, by kernel_rfl, rfl, by kernel_rfl⟩, ⟨_, rfl, by kernel_rfl, rfl, by kernel_rfl⟩, ⟨rfl, by kernel_rfl⟩, ⟨rfl, by kernel_rfl⟩, trivial⟩) (DAll.op' (sp_not rfl rfl) trivial rfl (From.ok (ps := []) trivial) (DAll.op' (sp_castB h32 (sp_move rfl rfl)) trivial rfl (From.ok (ps := []) trivial) (.skip ⟨_, rfl, .inl rfl⟩ rfl rfl rfl (.skip ⟨_, rfl, .inl rfl⟩ rfl rfl rfl (.skip ⟨_, rfl, .inl rfl⟩ rfl rfl rfl (.skip ⟨_, rfl, .inl rfl⟩ rfl rfl rfl (.skip ⟨_, rfl, .inl rfl⟩ rfl rfl rfl (.skip ⟨_, rfl, .inl rfl⟩ rfl rfl rfl (.skip ⟨_, rfl, .inl rfl⟩ rfl rfl rfl (.skip ⟨_, rfl, .inl rfl⟩ rfl rfl rfl (.skip ⟨_, rfl, .inl rfl⟩ rfl rfl rfl (.skip ⟨_, rfl, .inl rfl⟩ rfl rfl rfl (.skip ⟨_, rfl, .inl rfl⟩ rfl rfl rfl (.skip ⟨_, rfl, .inl rfl⟩ rfl rfl rfl (DAll.op' (sp_pickT rfl rfl rfl) trivial rfl (From.ok (ps := []) trivial) (DAll.op' (sp_move rfl rfl) trivial rfl (From.ok (ps := []) trivial) (.skip ⟨_, rfl, .inl rfl⟩ rfl rfl rfl (.skip ⟨_, rfl, .inl rfl⟩ rfl rfl rfl (.skip ⟨_, rfl, .inl rfl⟩ rfl rfl rfl (.skip ⟨_, rfl, .inr rfl⟩ rfl rfl rfl (.skip ⟨_, rfl, .inr rfl⟩ rfl rfl rfl (.skip ⟨_, rfl, .inr rfl⟩ rfl rfl rfl (.skip ⟨_, rfl, .inr rfl⟩ rfl rfl rfl (.skip ⟨_, rfl, .inr rfl⟩ rfl rfl rfl (.skip ⟨_, rfl, .inr rfl⟩ rfl rfl rfl (.skip ⟨_, rfl, .inr rfl⟩ rfl rfl rfl (.skip ⟨_, rfl, .inr rfl⟩ rfl rfl rfl (.skip ⟨_, rfl, .inr rfl⟩ rfl rfl rfl (.nil)))))))))))))))))))))))))))))))))))
        refine opSkip rfl ⟨_, rfl, .inr rfl⟩ rfl ?_
        refine opSkip rfl ⟨_, rfl, .inl rfl⟩ rfl ?_
        refine op0 (sp_pickT rfl rfl rfl) rfl trivial rfl rfl ?_
        refine TL.nil ?_
        refine TC.condT rfl ?_
        refine TC.seq ?_
        refine TC.region ?_
        refine op0 (sp_assign rfl rfl) rfl trivial rfl rfl ?_
        refine TL.nil ?_
        cases h
        exact retJ [] (.tmp rfl .nil) rfl trivial rfl rfl
      · obtain ⟨x23, h33, h34, h⟩ := idx_inv h
        rcases cond_cases h with ⟨h35, h⟩ | ⟨h35, h⟩
        · refine drawJ 35 [⟨.ref 17, [], [], []⟩, ⟨.val (.int .i64 i20), [], [], []⟩, ⟨.cell 17 ((i20 : Int).toNat * 2), [], [.row 17 57 2 (List.map en_api_Train r13.1)], []⟩, ⟨.agg [.ref 23, .ref 24], [.ro 23 1 (List.map en_int x21.1), .ro 24 1 (List.map en_int x21.2)], [.row 17 57 2 (List.map en_api_Train r13.1)], []⟩, ⟨.agg [.ref 4, .ref 5], [], [.blk 6 [.ref 4, .ref 5] 40], []⟩, ⟨.agg [.val (.int .i64 r8.1), .val (.int .i64 r8.2.1)], [], [.blk 10 [.val (.int .i64 r8.1), .val (.int .i64 r8.2.1)] 26], []⟩, ⟨.val (.bool r22), [], [.ro 23 1 (List.map en_int x21.1), .ro 24 1 (List.map en_int x21.2), .row 4 3 1 (List.map en_int r4.1), .row 5 3 1 (List.map en_int r4.2)], []⟩, ⟨.val (.bool (!r22)), [], [], []⟩, ⟨.val (.bool false), [], [], []⟩, ⟨.ref 17, [], [], []⟩, ⟨.val (.int .i64 i20), [], [], []⟩, ⟨.cell 17 ((i20 : Int).toNat * 2), [], [.row 17 57 2 (List.map en_api_Train r13.1)], []⟩, ⟨.cell 17 ((i20 : Int).toNat * 2 + 0), [], [.row 17 57 2 (List.map en_api_Train r13.1)], []⟩, ⟨.ref 25, [.ro 25 1 (List.map en_int x21.1)], [.row 17 57 2 (List.map en_api_Train r13.1)], []⟩, ⟨.val (.int .i64 (x21.1.length : Int)), [], [.ro 25 1 (List.map en_int x21.1)], []⟩, ⟨.ref 17, [], [], []⟩, ⟨.cell 17 ((0 : Int).toNat * 2), [], [.row 17 57 2 (List.map en_api_Train r13.1)], []⟩, ⟨.cell 17 ((0 : Int).toNat * 2 + 0), [], [.row 17 57 2 (List.map en_api_Train r13.1)], []⟩, ⟨.ref 26, [.ro 26 1 (List.map en_int x23.1)], [.row 17 57 2 (List.map en_api_Train r13.1)], []⟩, ⟨.val (.int .i64 (x23.1.length : Int)), [], [.ro 26 1 (List.map en_int x23.1)], []⟩, ⟨.val (.bool ((x21.1.length : Int) != (x23.1.length : Int))), [], [], []⟩, ⟨.val (.bool ((x21.1.length : Int) != (x23.1.length : Int))), [], [], []⟩, ⟨.val (.bool true), [], [], []⟩, ⟨.val (undef), [], [], []⟩, ⟨.val (undef), [], [], []⟩, ⟨.val (undef), [], [], []⟩, ⟨.val (undef), [], [], []⟩, ⟨.val (undef), [], [], []⟩, ⟨.val (undef), [], [], []⟩, ⟨.val (undef), [], [], []⟩, ⟨.val (undef), [], [], []⟩, ⟨.val (undef), [], [], []⟩, ⟨.val (undef), [], [], []⟩, ⟨.val (undef), [], [], []⟩, ⟨.val (undef), [], [], []⟩] rfl ?_ rfl ?_ rfl ?_ ?_
          · kernel_rfl
          · kernel_rfl
          · exact DAll.op' (sp_move rfl rfl) trivial rfl (From.ok (ps := []) trivial) (DAll.op' (sp_move rfl rfl) trivial rfl (From.ok (ps := []) trivial) (DAll.op' (sp_indexS rfl rfl rfl isOwn sl52 h29 (map_get _ h30)) trivial rfl (From.ok (ps := [(none, 3)]) ⟨⟨rfl, by kernel_rfl⟩, trivial⟩) (DAll.op' (sp_loadRA (i := (i20 : Int).toNat) (j := 0) (as_ := [.ref 23, .ref 24]) (ns := [.ro 23 1 (List.map en_int x21.1), .ro 24 1 (List.map en_int x21.2)]) rfl rfl isOwn vt57 rfl (map_get _ h30) rfl rfl (by decide) (.s (.s (.nil))) (nodup_of_B rfl)) trivial rfl (From.ok (ps := [(none, 3)]) ⟨⟨rfl, by kernel_rfl⟩, trivial⟩) (DAll.op' (sp_loadBA rfl isBlk rfl vt40 rfl rfl) trivial rfl (From.ok (ps := [(none, 0)]) ⟨⟨rfl, by kernel_rfl⟩, trivial⟩) (DAll.op' (sp_loadBA rfl isBlk rfl vt26 rfl rfl) trivial rfl (From.ok (ps := [(none, 2)]) ⟨⟨rfl, by kernel_rfl⟩, trivial⟩) (DAll.op' (sp_call (avs := [.agg [.ref 23, .ref 24], .agg [.ref 4, .ref 5], .agg [.val (.int .i64 r8.1), .val (.int .i64 r8.2.1)]]) (need := [.ro 23 1 (List.map en_int x21.1), .ro 24 1 (List.map en_int x21.2), .row 4 3 1 (List.map en_int r4.1), .row 5 3 1 (List.map en_int r4.2)]) (v := .val (.bool r22)) (news := []) rfl rfl rfl Try.call38 (atJ [(0, 23), (1, 24), (2, 4), (3, 5)] [] (fc_law01_of h31) rfl rfl) (.inr (fun x hx => nomatch hx))) trivial rfl (From.ok (ps := [(some 3, 0), (some 3, 1), (none, 4), (none, 5)]) ⟨⟨_, rfl, by kernel_rfl, rfl, by kernel_rfl⟩, ⟨_, rfl, by kernel_rfl, rfl, by kernel_rfl⟩, ⟨rfl, by kernel_rfl⟩, ⟨rfl, by kernel_rfl⟩, trivial⟩) (DAll.op' (sp_not rfl rfl) trivial rfl (From.ok (ps := []) trivial) (DAll.op' (sp_castB h32 (sp_move rfl rfl)) trivial rfl (From.ok (ps := []) trivial) (DAll.op' (sp_move rfl rfl) ⟨_, rfl, rfl⟩ rfl (From.ok (ps := []) trivial) (DAll.op' (sp_move rfl rfl) ⟨_, rfl, rfl⟩ rfl (From.ok (ps := []) trivial) (DAll.op' (sp_indexS rfl rfl rfl isOwn sl52 h29 (map_get _ h30)) ⟨_, rfl, rfl⟩ rfl (From.ok (ps := [(none, 3)]) ⟨⟨rfl, by kernel_rfl⟩, trivial⟩) (DAll.op' (sp_fieldAddrR (i := (i20 : Int).toNat) rfl rfl isOwn ft57_0 vt38 (by decide) (map_get _ h30) (fun h => nomatch h)) ⟨_, rfl, rfl⟩ rfl (From.ok (ps := [(none, 3)]) ⟨⟨rfl, by kernel_rfl⟩, trivial⟩) (DAll.op' (sp_loadR (i := (i20 : Int).toNat) (j := 0) (ns := [.ro 25 1 (List.map en_int x21.1)]) rfl rfl isOwn vt38 rfl (map_get _ h30) rfl (.s (.nil)) (nodup_of_B rfl)) ⟨_, rfl, rfl⟩ rfl (From.ok (ps := [(none, 3)]) ⟨⟨rfl, by kernel_rfl⟩, trivial⟩) (DAll.op' (sp_lenM (N := x21.1.length) (len_map _ _) rfl rfl isRo Try.underlying38) ⟨_, rfl, rfl⟩ rfl (From.ok (ps := [(some 13, 0)]) ⟨⟨_, rfl, by kernel_rfl, rfl, by kernel_rfl⟩, trivial⟩) (DAll.op' (sp_move rfl rfl) ⟨_, rfl, rfl⟩ rfl (From.ok (ps := []) trivial) (DAll.op' (sp_indexS rfl rfl rfl isOwn sl52 h33 (map_get _ h34)) ⟨_, rfl, rfl⟩ rfl (From.ok (ps := [(none, 3)]) ⟨⟨rfl, by kernel_rfl⟩, trivial⟩) (DAll.op' (sp_fieldAddrR (i := (0 : Int).toNat) rfl rfl isOwn ft57_0 vt38 (by decide) (map_get _ h34) (fun h => nomatch h)) ⟨_, rfl, rfl⟩ rfl (From.ok (ps := [(none, 3)]) ⟨⟨rfl, by kernel_rfl⟩, trivial⟩) (DAll.op' (sp_loadR (i := (0 : Int).toNat) (j := 0) (ns := [.ro 26 1 (List.map en_int x23.1)]) rfl rfl isOwn vt38 rfl (map_get _ h34) rfl (.s (.nil)) (nodup_of_B rfl)) ⟨_, rfl, rfl⟩ rfl (From.ok (ps := [(none, 3)]) ⟨⟨rfl, by kernel_rfl⟩, trivial⟩) (DAll.op' (sp_lenM (N := x23.1.length) (len_map _ _) rfl rfl isRo Try.underlying38) ⟨_, rfl, rfl⟩ rfl (From.ok (ps := [(some 18, 0)]) ⟨⟨_, rfl, by kernel_rfl, rfl, by kernel_rfl⟩, trivial⟩) (DAll.op' (sp_neq rfl rfl rfl) ⟨_, rfl, rfl⟩ rfl (From.ok (ps := []) trivial) (DAll.op' (sp_pickF rfl rfl rfl) trivial rfl (From.ok (ps := []) trivial) (DAll.op' (sp_castB h35 (sp_move rfl rfl)) trivial rfl (From.ok (ps := []) trivial) (.skip ⟨_, rfl, .inl rfl⟩ rfl rfl rfl (.skip ⟨_, rfl, .inl rfl⟩ rfl rfl rfl (.skip ⟨_, rfl, .inl rfl⟩ rfl rfl rfl (.skip ⟨_, rfl, .inr rfl⟩ rfl rfl rfl (.skip ⟨_, rfl, .inr rfl⟩ rfl rfl rfl (.skip ⟨_, rfl, .inr rfl⟩ rfl rfl rfl (.skip ⟨_, rfl, .inr rfl⟩ rfl rfl rfl (.skip ⟨_, rfl, .inr rfl⟩ rfl rfl rfl (.skip ⟨_, rfl, .inr rfl⟩ rfl rfl rfl (.skip ⟨_, rfl, .inr rfl⟩ rfl rfl rfl (.skip ⟨_, rfl, .inr rfl⟩ rfl rfl rfl (.skip ⟨_, rfl, .inr rfl⟩ rfl rfl rfl (.nil)))))))))))))))))))))))))))))))))))
          refine opSkip rfl ⟨_, rfl, .inr rfl⟩ rfl ?_
          refine opSkip rfl ⟨_, rfl, .inl rfl⟩ rfl ?_
          refine op0 (sp_pickT rfl rfl rfl) rfl trivial rfl rfl ?_
          refine TL.nil ?_
          refine TC.condT rfl ?_
          refine TC.seq ?_
          refine TC.region ?_
          refine op0 (sp_assign rfl rfl) rfl trivial rfl rfl ?_
          refine TL.nil ?_
          cases h
          exact retJ [] (.tmp rfl .nil) rfl trivial rfl rfl
        · rcases cond_cases h with ⟨h36, h⟩ | ⟨h36, h⟩
          · obtain ⟨h37, h⟩ := chk_inv h
            obtain ⟨x24, h38, h39, h⟩ := idx_inv h
            refine drawJ 35 [⟨.ref 17, [], [], []⟩, ⟨.val (.int .i64 i20), [], [], []⟩, ⟨.cell 17 ((i20 : Int).toNat * 2), [], [.row 17 57 2 (List.map en_api_Train r13.1)], []⟩, ⟨.agg [.ref 23, .ref 24], [.ro 23 1 (List.map en_int x21.1), .ro 24 1 (List.map en_int x21.2)], [.row 17 57 2 (List.map en_api_Train r13.1)], []⟩, ⟨.agg [.ref 4, .ref 5], [], [.blk 6 [.ref 4, .ref 5] 40], []⟩, ⟨.agg [.val (.int .i64 r8.1), .val (.int .i64 r8.2.1)], [], [.blk 10 [.val (.int .i64 r8.1), .val (.int .i64 r8.2.1)] 26], []⟩, ⟨.val (.bool r22), [], [.ro 23 1 (List.map en_int x21.1), .ro 24 1 (List.map en_int x21.2), .row 4 3 1 (List.map en_int r4.1), .row 5 3 1 (List.map en_int r4.2)], []⟩, ⟨.val (.bool (!r22)), [], [], []⟩, ⟨.val (.bool false), [], [], []⟩, ⟨.ref 17, [], [], []⟩, ⟨.val (.int .i64 i20), [], [], []⟩, ⟨.cell 17 ((i20 : Int).toNat * 2), [], [.row 17 57 2 (List.map en_api_Train r13.1)], []⟩, ⟨.cell 17 ((i20 : Int).toNat * 2 + 0), [], [.row 17 57 2 (List.map en_api_Train r13.1)], []⟩, ⟨.ref 25, [.ro 25 1 (List.map en_int x21.1)], [.row 17 57 2 (List.map en_api_Train r13.1)], []⟩, ⟨.val (.int .i64 (x21.1.length : Int)), [], [.ro 25 1 (List.map en_int x21.1)], []⟩, ⟨.ref 17, [], [], []⟩, ⟨.cell 17 ((0 : Int).toNat * 2), [], [.row 17 57 2 (List.map en_api_Train r13.1)], []⟩, ⟨.cell 17 ((0 : Int).toNat * 2 + 0), [], [.row 17 57 2 (List.map en_api_Train r13.1)], []⟩, ⟨.ref 26, [.ro 26 1 (List.map en_int x23.1)], [.row 17 57 2 (List.map en_api_Train r13.1)], []⟩, ⟨.val (.int .i64 (x23.1.length : Int)), [], [.ro 26 1 (List.map en_int x23.1)], []⟩, ⟨.val (.bool ((x21.1.length : Int) != (x23.1.length : Int))), [], [], []⟩, ⟨.val (.bool ((x21.1.length : Int) != (x23.1.length : Int))), [], [], []⟩, ⟨.val (.bool false), [], [], []⟩, ⟨.val (.int .i64 i20), [], [], []⟩, ⟨.val (.bool (decide ((0 : Int) < i20))), [], [], []⟩, ⟨.val (.bool true), [], [], []⟩, ⟨.ref 17, [], [], []⟩, ⟨.val (.int .i64 i20), [], [], []⟩, ⟨.cell 17 ((i20 : Int).toNat * 2), [], [.row 17 57 2 (List.map en_api_Train r13.1)], []⟩, ⟨.agg [.ref 27, .ref 28], [.ro 27 1 (List.map en_int x21.1), .ro 28 1 (List.map en_int x21.2)], [.row 17 57 2 (List.map en_api_Train r13.1)], []⟩, ⟨.ref 17, [], [], []⟩, ⟨.val (.int .i64 i20), [], [], []⟩, ⟨.val (.int .i64 (i20 - 1)), [], [], []⟩, ⟨.cell 17 (((i20 - 1) : Int).toNat * 2), [], [.row 17 57 2 (List.map en_api_Train r13.1)], []⟩, ⟨.agg [.ref 29, .ref 30], [.ro 29 1 (List.map en_int x24.1), .ro 30 1 (List.map en_int x24.2)], [.row 17 57 2 (List.map en_api_Train r13.1)], []⟩] rfl ?_ rfl ?_ rfl ?_ ?_
            · kernel_rfl
            · kernel_rfl
            · exact DAll.op' (sp_move rfl rfl) trivial rfl (From.ok (ps := []) trivial) (DAll.op' (sp_move rfl rfl) trivial rfl (From.ok (ps := []) trivial) (DAll.op' (sp_indexS rfl rfl rfl isOwn sl52 h29 (map_get _ h30)) trivial rfl (From.ok (ps := [(none, 3)]) ⟨⟨rfl, by kernel_rfl⟩, trivial⟩) (DAll.op' (sp_loadRA (i := (i20 : Int).toNat) (j := 0) (as_ := [.ref 23, .ref 24]) (ns := [.ro 23 1 (List.map en_int x21.1), .ro 24 1 (List.map en_int x21.2)]) rfl rfl isOwn vt57 rfl (map_get _ h30) rfl rfl (by decide) (.s (.s (.nil))) (nodup_of_B rfl)) trivial rfl (From.ok (ps := [(none, 3)]) ⟨⟨rfl, by kernel_rfl⟩, trivial⟩) (DAll.op' (sp_loadBA rfl isBlk rfl vt40 rfl rfl) trivial rfl (From.ok (ps := [(none, 0)]) ⟨⟨rfl, by kernel_rfl⟩, trivial⟩) (DAll.op' (sp_loadBA rfl isBlk rfl vt26 rfl rfl) trivial rfl (From.ok (ps := [(none, 2)]) ⟨⟨rfl, by kernel_rfl⟩, trivial⟩) (DAll.op' (sp_call (avs := [.agg [.ref 23, .ref 24], .agg [.ref 4, .ref 5], .agg [.val (.int .i64 r8.1), .val (.int .i64 r8.2.1)]]) (need := [.ro 23 1 (List.map en_int x21.1), .ro 24 1 (List.map en_int x21.2), .row 4 3 1 (List.map en_int r4.1), .row 5 3 1 (List.map en_int r4.2)]) (v := .val (.bool r22)) (news := []) rfl rfl rfl Try.call38 (atJ [(0, 23), (1, 24), (2, 4), (3, 5)] [] (fc_law01_of h31) rfl rfl) (.inr (fun x hx => nomatch hx))) trivial rfl (From.ok (ps := [(some 3, 0), (some 3, 1), (none, 4), (none, 5)]) ⟨⟨_, rfl, by kernel_rfl, rfl, by kernel_rfl⟩, ⟨_, rfl, by kernel_rfl, rfl, by kernel_rfl⟩, ⟨rfl, by kernel_rfl⟩, ⟨rfl, by kernel_rfl⟩, trivial⟩) (DAll.op' (sp_not rfl rfl) trivial rfl (From.ok (ps := []) trivial) (DAll.op' (sp_castB h32 (sp_move rfl rfl)) trivial rfl (From.ok (ps := []) trivial) (DAll.op' (sp_move rfl rfl) ⟨_, rfl, rfl⟩ rfl (From.ok (ps := []) trivial) (DAll.op' (sp_move rfl rfl) ⟨_, rfl, rfl⟩ rfl (From.ok (ps := []) trivial) (DAll.op' (sp_indexS rfl rfl rfl isOwn sl52 h29 (map_get _ h30)) ⟨_, rfl, rfl⟩ rfl (From.ok (ps := [(none, 3)]) ⟨⟨rfl, by kernel_rfl⟩, trivial⟩) (DAll.op' (sp_fieldAddrR (i := (i20 : Int).toNat) rfl rfl isOwn ft57_0 vt38 (by decide) (map_get _ h30) (fun h => nomatch h)) ⟨_, rfl, rfl⟩ rfl (From.ok (ps := [(none, 3)]) ⟨⟨rfl, by kernel_rfl⟩, trivial⟩) (DAll.op' (sp_loadR (i := (i20 : Int).toNat) (j := 0) (ns := [.ro 25 1 (List.map en_int x21.1)]) rfl rfl isOwn vt38 rfl (map_get _ h30) rfl (.s (.nil)) (nodup_of_B rfl)) ⟨_, rfl, rfl⟩ rfl (From.ok (ps := [(none, 3)]) ⟨⟨rfl, by kernel_rfl⟩, trivial⟩) (DAll.op' (sp_lenM (N := x21.1.length) (len_map _ _) rfl rfl isRo Try.underlying38) ⟨_, rfl, rfl⟩ rfl (From.ok (ps := [(some 13, 0)]) ⟨⟨_, rfl, by kernel_rfl, rfl, by kernel_rfl⟩, trivial⟩) (DAll.op' (sp_move rfl rfl) ⟨_, rfl, rfl⟩ rfl (From.ok (ps := []) trivial) (DAll.op' (sp_indexS rfl rfl rfl isOwn sl52 h33 (map_get _ h34)) ⟨_, rfl, rfl⟩ rfl (From.ok (ps := [(none, 3)]) ⟨⟨rfl, by kernel_rfl⟩, trivial⟩) (DAll.op' (sp_fieldAddrR (i := (0 : Int).toNat) rfl rfl isOwn ft57_0 vt38 (by decide) (map_get _ h34) (fun h => nomatch h)) ⟨_, rfl, rfl⟩ rfl (From.ok (ps := [(none, 3)]) ⟨⟨rfl, by kernel_rfl⟩, trivial⟩) (DAll.op' (sp_loadR (i := (0 : Int).toNat) (j := 0) (ns := [.ro 26 1 (List.map en_int x23.1)]) rfl rfl isOwn vt38 rfl (map_get _ h34) rfl (.s (.nil)) (nodup_of_B rfl)) ⟨_, rfl, rfl⟩ rfl (From.ok (ps := [(none, 3)]) ⟨⟨rfl, by kernel_rfl⟩, trivial⟩) (DAll.op' (sp_lenM (N := x23.1.length) (len_map _ _) rfl rfl isRo Try.underlying38) ⟨_, rfl, rfl⟩ rfl (From.ok (ps := [(some 18, 0)]) ⟨⟨_, rfl, by kernel_rfl, rfl, by kernel_rfl⟩, trivial⟩) (DAll.op' (sp_neq rfl rfl rfl) ⟨_, rfl, rfl⟩ rfl (From.ok (ps := []) trivial) (DAll.op' (sp_pickF rfl rfl rfl) trivial rfl (From.ok (ps := []) trivial) (DAll.op' (sp_castB h35 (sp_move rfl rfl)) trivial rfl (From.ok (ps := []) trivial) (DAll.op' (sp_move rfl rfl) ⟨_, rfl, rfl⟩ rfl (From.ok (ps := []) trivial) (DAll.op' (sp_gtr rfl rfl rfl) ⟨_, rfl, rfl⟩ rfl (From.ok (ps := []) trivial) (DAll.op' (sp_castB h36 (sp_move rfl rfl)) ⟨_, rfl, rfl⟩ rfl (From.ok (ps := []) trivial) (DAll.op' (sp_move rfl rfl) ⟨_, rfl, rfl⟩ rfl (From.ok (ps := []) trivial) (DAll.op' (sp_move rfl rfl) ⟨_, rfl, rfl⟩ rfl (From.ok (ps := []) trivial) (DAll.op' (sp_indexS rfl rfl rfl isOwn sl52 h29 (map_get _ h30)) ⟨_, rfl, rfl⟩ rfl (From.ok (ps := [(none, 3)]) ⟨⟨rfl, by kernel_rfl⟩, trivial⟩) (DAll.op' (sp_loadRA (i := (i20 : Int).toNat) (j := 0) (as_ := [.ref 27, .ref 28]) (ns := [.ro 27 1 (List.map en_int x21.1), .ro 28 1 (List.map en_int x21.2)]) rfl rfl isOwn vt57 rfl (map_get _ h30) rfl rfl (by decide) (.s (.s (.nil))) (nodup_of_B rfl)) ⟨_, rfl, rfl⟩ rfl (From.ok (ps := [(none, 3)]) ⟨⟨rfl, by kernel_rfl⟩, trivial⟩) (DAll.op' (sp_move rfl rfl) ⟨_, rfl, rfl⟩ rfl (From.ok (ps := []) trivial) (DAll.op' (sp_move rfl rfl) ⟨_, rfl, rfl⟩ rfl (From.ok (ps := []) trivial) (DAll.op' (sp_sub rfl rfl rfl h37) ⟨_, rfl, rfl⟩ rfl (From.ok (ps := []) trivial) (DAll.op' (sp_indexS rfl rfl rfl isOwn sl52 h38 (map_get _ h39)) ⟨_, rfl, rfl⟩ rfl (From.ok (ps := [(none, 3)]) ⟨⟨rfl, by kernel_rfl⟩, trivial⟩) (DAll.op' (sp_loadRA (i := ((i20 - 1) : Int).toNat) (j := 0) (as_ := [.ref 29, .ref 30]) (ns := [.ro 29 1 (List.map en_int x24.1), .ro 30 1 (List.map en_int x24.2)]) rfl rfl isOwn vt57 rfl (map_get _ h39) rfl rfl (by decide) (.s (.s (.nil))) (nodup_of_B rfl)) ⟨_, rfl, rfl⟩ rfl (From.ok (ps := [(none, 3)]) ⟨⟨rfl, by kernel_rfl⟩, trivial⟩) (.nil)))))))))))))))))))))))))))))))))))
            obtain ⟨r25, h40, h⟩ := bind_inv h
            refine opN (need := [.ro 27 1 (List.map en_int x21.1), .ro 28 1 (List.map en_int x21.2), .ro 29 1 (List.map en_int x24.1), .ro 30 1 (List.map en_int x24.2)]) [2, 3, 0, 1] ⟨rfl, rfl, rfl, rfl, trivial⟩ (sp_call (avs := [.agg [.ref 27, .ref 28], .agg [.ref 29, .ref 30]]) (need := [.ro 27 1 (List.map en_int x21.1), .ro 28 1 (List.map en_int x21.2), .ro 29 1 (List.map en_int x24.1), .ro 30 1 (List.map en_int x24.2)]) (v := .val (.bool r25)) (news := []) rfl rfl rfl Try.call39 (atJ [(0, 27), (1, 28), (2, 29), (3, 30)] [] (fc_law01_equal h40) rfl rfl) (.inl (roAll rfl))) rfl ⟨_, rfl, rfl⟩ rfl rfl ?_
            refine op0 (sp_pickT rfl rfl rfl) rfl ⟨_, rfl, rfl⟩ rfl rfl ?_
            refine op0 (sp_pickF rfl rfl rfl) rfl trivial rfl rfl ?_
            refine TL.nil ?_
            refine TC.cond (b := r25) rfl (fun h41 => ?_) (fun h41 => ?_)
            · have h := cond_t h h41
              refine TC.seq ?_
              refine TC.region ?_
              refine op0 (sp_assign rfl rfl) rfl trivial rfl rfl ?_
              refine TL.nil ?_
              cases h
              exact retJ [] (.tmp rfl .nil) rfl trivial rfl rfl
            · have h := cond_f h h41
              refine subJ [] (ok_law01_TrainExact_j3 (r8 := r8) (r4 := r4) ih h) ?_ ?_ ?_
              · exact ⟨rfl, rfl, rfl, rfl, rfl, rfl, trivial⟩
              · exact ⟨mem_at 8 rfl, mem_at 9 rfl, mem_at 10 rfl, mem_at 11 rfl, mem_at 12 rfl, mem_at 13 rfl, mem_at 14 rfl, mem_at 15 rfl, trivial⟩
              · rfl
          · refine drawJ 35 [⟨.ref 17, [], [], []⟩, ⟨.val (.int .i64 i20), [], [], []⟩, ⟨.cell 17 ((i20 : Int).toNat * 2), [], [.row 17 57 2 (List.map en_api_Train r13.1)], []⟩, ⟨.agg [.ref 23, .ref 24], [.ro 23 1 (List.map en_int x21.1), .ro 24 1 (List.map en_int x21.2)], [.row 17 57 2 (List.map en_api_Train r13.1)], []⟩, ⟨.agg [.ref 4, .ref 5], [], [.blk 6 [.ref 4, .ref 5] 40], []⟩, ⟨.agg [.val (.int .i64 r8.1), .val (.int .i64 r8.2.1)], [], [.blk 10 [.val (.int .i64 r8.1), .val (.int .i64 r8.2.1)] 26], []⟩, ⟨.val (.bool r22), [], [.ro 23 1 (List.map en_int x21.1), .ro 24 1 (List.map en_int x21.2), .row 4 3 1 (List.map en_int r4.1), .row 5 3 1 (List.map en_int r4.2)], []⟩, ⟨.val (.bool (!r22)), [], [], []⟩, ⟨.val (.bool false), [], [], []⟩, ⟨.ref 17, [], [], []⟩, ⟨.val (.int .i64 i20), [], [], []⟩, ⟨.cell 17 ((i20 : Int).toNat * 2), [], [.row 17 57 2 (List.map en_api_Train r13.1)], []⟩, ⟨.cell 17 ((i20 : Int).toNat * 2 + 0), [], [.row 17 57 2 (List.map en_api_Train r13.1)], []⟩, ⟨.ref 25, [.ro 25 1 (List.map en_int x21.1)], [.row 17 57 2 (List.map en_api_Train r13.1)], []⟩, ⟨.val (.int .i64 (x21.1.length : Int)), [], [.ro 25 1 (List.map en_int x21.1)], []⟩, ⟨.ref 17, [], [], []⟩, ⟨.cell 17 ((0 : Int).toNat * 2), [], [.row 17 57 2 (List.map en_api_Train r13.1)], []⟩, ⟨.cell 17 ((0 : Int).toNat * 2 + 0), [], [.row 17 57 2 (List.map en_api_Train r13.1)], []⟩, ⟨.ref 26, [.ro 26 1 (List.map en_int x23.1)], [.row 17 57 2 (List.map en_api_Train r13.1)], []⟩, ⟨.val (.int .i64 (x23.1.length : Int)), [], [.ro 26 1 (List.map en_int x23.1)], []⟩, ⟨.val (.bool ((x21.1.length : Int) != (x23.1.length : Int))), [], [], []⟩, ⟨.val (.bool ((x21.1.length : Int) != (x23.1.length : Int))), [], [], []⟩, ⟨.val (.bool false), [], [], []⟩, ⟨.val (.int .i64 i20), [], [], []⟩, ⟨.val (.bool (decide ((0 : Int) < i20))), [], [], []⟩, ⟨.val (.bool false), [], [], []⟩, ⟨.val (undef), [], [], []⟩, ⟨.val (undef), [], [], []⟩, ⟨.val (undef), [], [], []⟩, ⟨.val (undef), [], [], []⟩, ⟨.val (undef), [], [], []⟩, ⟨.val (undef), [], [], []⟩, ⟨.val (undef), [], [], []⟩, ⟨.val (undef), [], [], []⟩, ⟨.val (undef), [], [], []⟩] rfl ?_ rfl ?_ rfl ?_ ?_
            · kernel_rfl
            · kernel_rfl
            · exact DAll.op' (sp_move rfl rfl) trivial rfl (From.ok (ps := []) trivial) (DAll.op' (sp_move rfl rfl) trivial rfl (From.ok (ps := []) trivial) (DAll.op' (sp_indexS rfl rfl rfl isOwn sl52 h29 (map_get _ h30)) trivial rfl (From.ok (ps := [(none, 3)]) ⟨⟨rfl, by kernel_rfl⟩, trivial⟩) (DAll.op' (sp_loadRA (i := (i20 : Int).toNat) (j := 0) (as_ := [.ref 23, .ref 24]) (ns := [.ro 23 1 (List.map en_int x21.1), .ro 24 1 (List.map en_int x21.2)]) rfl rfl isOwn vt57 rfl (map_get _ h30) rfl rfl (by decide) (.s (.s (.nil))) (nodup_of_B rfl)) trivial rfl (From.ok (ps := [(none, 3)]) ⟨⟨rfl, by kernel_rfl⟩, trivial⟩) (DAll.op' (sp_loadBA rfl isBlk rfl vt40 rfl rfl) trivial rfl (From.ok (ps := [(none, 0)]) ⟨⟨rfl, by kernel_rfl⟩, trivial⟩) (DAll.op' (sp_loadBA rfl isBlk rfl vt26 rfl rfl) trivial rfl (From.ok (ps := [(none, 2)]) ⟨⟨rfl, by kernel_rfl⟩, trivial⟩) (DAll.op' (sp_call (avs := [.agg [.ref 23, .ref 24], .agg [.ref 4, .ref 5], .agg [.val (.int .i64 r8.1), .val (.int .i64 r8.2.1)]]) (need := [.ro 23 1 (List.map en_int x21.1), .ro 24 1 (List.map en_int x21.2), .row 4 3 1 (List.map en_int r4.1), .row 5 3 1 (List.map en_int r4.2)]) (v := .val (.bool r22)) (news := []) rfl rfl rfl Try.call38 (atJ [(0, 23), (1, 24), (2, 4), (3, 5)] [] (fc_law01_of h31) rfl rfl) (.inr (fun x hx => nomatch hx))) trivial rfl (From.ok (ps := [(some 3, 0), (some 3, 1), (none, 4), (none, 5)]) ⟨⟨_, rfl, by kernel_rfl, rfl, by kernel_rfl⟩, ⟨_, rfl, by kernel_rfl, rfl, by kernel_rfl⟩, ⟨rfl, by kernel_rfl⟩, ⟨rfl, by kernel_rfl⟩, trivial⟩) (DAll.op' (sp_not rfl rfl) trivial rfl (From.ok (ps := []) trivial) (DAll.op' (sp_castB h32 (sp_move rfl rfl)) trivial rfl (From.ok (ps := []) trivial) (DAll.op' (sp_move rfl rfl) ⟨_, rfl, rfl⟩ rfl (From.ok (ps := []) trivial) (DAll.op' (sp_move rfl rfl) ⟨_, rfl, rfl⟩ rfl (From.ok (ps := []) trivial) (DAll.op' (sp_indexS rfl rfl rfl isOwn sl52 h29 (map_get _ h30)) ⟨_, rfl, rfl⟩ rfl (From.ok (ps := [(none, 3)]) ⟨⟨rfl, by kernel_rfl⟩, trivial⟩) (DAll.op' (sp_fieldAddrR (i := (i20 : Int).toNat) rfl rfl isOwn ft57_0 vt38 (by decide) (map_get _ h30) (fun h => nomatch h)) ⟨_, rfl, rfl⟩ rfl (From.ok (ps := [(none, 3)]) ⟨⟨rfl, by kernel_rfl⟩, trivial⟩) (DAll.op' (sp_loadR (i := (i20 : Int).toNat) (j := 0) (ns := [.ro 25 1 (List.map en_int x21.1)]) rfl rfl isOwn vt38 rfl (map_get _ h30) rfl (.s (.nil)) (nodup_of_B rfl)) ⟨_, rfl, rfl⟩ rfl (From.ok (ps := [(none, 3)]) ⟨⟨rfl, by kernel_rfl⟩, trivial⟩) (DAll.op' (sp_lenM (N := x21.1.length) (len_map _ _) rfl rfl isRo Try.underlying38) ⟨_, rfl, rfl⟩ rfl (From.ok (ps := [(some 13, 0)]) ⟨⟨_, rfl, by kernel_rfl, rfl, by kernel_rfl⟩, trivial⟩) (DAll.op' (sp_move rfl rfl) ⟨_, rfl, rfl⟩ rfl (From.ok (ps := []) trivial) (DAll.op' (sp_indexS rfl rfl rfl isOwn sl52 h33 (map_get _ h34)) ⟨_, rfl, rfl⟩ rfl (From.ok (ps := [(none, 3)]) ⟨⟨rfl, by kernel_rfl⟩, trivial⟩) (DAll.op' (sp_fieldAddrR (i := (0 : Int).toNat) rfl rfl isOwn ft57_0 vt38 (by decide) (map_get _ h34) (fun h => nomatch h)) ⟨_, rfl, rfl⟩ rfl (From.ok (ps := [(none, 3)]) ⟨⟨rfl, by kernel_rfl⟩, trivial⟩) (DAll.op' (sp_loadR (i := (0 : Int).toNat) (j := 0) (ns := [.ro 26 1 (List.map en_int x23.1)]) rfl rfl isOwn vt38 rfl (map_get _ h34) rfl (.s (.nil)) (nodup_of_B rfl)) ⟨_, rfl, rfl⟩ rfl (From.ok (ps := [(none, 3)]) ⟨⟨rfl, by kernel_rfl⟩, trivial⟩) (DAll.op' (sp_lenM (N := x23.1.length) (len_map _ _) rfl rfl isRo Try.underlying38) ⟨_, rfl, rfl⟩ rfl (From.ok (ps := [(some 18, 0)]) ⟨⟨_, rfl, by kernel_rfl, rfl, by kernel_rfl⟩, trivial⟩) (DAll.op' (sp_neq rfl rfl rfl) ⟨_, rfl, rfl⟩ rfl (From.ok (ps := []) trivial) (DAll.op' (sp_pickF rfl rfl rfl) trivial rfl (From.ok (ps := []) trivial) (DAll.op' (sp_castB h35 (sp_move rfl rfl)) trivial rfl (From.ok (ps := []) trivial) (DAll.op' (sp_move rfl rfl) ⟨_, rfl, rfl⟩ rfl (From.ok (ps := []) trivial) (DAll.op' (sp_gtr rfl rfl rfl) ⟨_, rfl, rfl⟩ rfl (From.ok (ps := []) trivial) (DAll.op' (sp_castB h36 (sp_move rfl rfl)) ⟨_, rfl, rfl⟩ rfl (From.ok (ps := []) trivial) (.skip ⟨_, rfl, .inl rfl⟩ rfl rfl rfl (.skip ⟨_, rfl, .inl rfl⟩ rfl rfl rfl (.skip ⟨_, rfl, .inl rfl⟩ rfl rfl rfl (.skip ⟨_, rfl, .inl rfl⟩ rfl rfl rfl (.skip ⟨_, rfl, .inl rfl⟩ rfl rfl rfl (.skip ⟨_, rfl, .inl rfl⟩ rfl rfl rfl (.skip ⟨_, rfl, .inl rfl⟩ rfl rfl rfl (.skip ⟨_, rfl, .inl rfl⟩ rfl rfl rfl (.skip ⟨_, rfl, .inl rfl⟩ rfl rfl rfl (.nil)))))))))))))))))))))))))))))))))))
            refine opSkip rfl ⟨_, rfl, .inl rfl⟩ rfl ?_
            refine op0 (sp_pickF rfl rfl rfl) rfl ⟨_, rfl, rfl⟩ rfl rfl ?_
            refine op0 (sp_pickF rfl rfl rfl) rfl trivial rfl rfl ?_
            refine TL.nil ?_
            refine TC.condF rfl ?_
            refine subJ [] (ok_law01_TrainExact_j3 (r8 := r8) (r4 := r4) ih h) ?_ ?_ ?_
            · exact ⟨rfl, rfl, rfl, rfl, rfl, rfl, trivial⟩
            · exact ⟨mem_at 4 rfl, mem_at 5 rfl, mem_at 6 rfl, mem_at 7 rfl, mem_at 8 rfl, mem_at 9 rfl, mem_at 10 rfl, mem_at 11 rfl, trivial⟩
            · rfl
    · have h := cond_f h h28
      refine TC.exit rfl ?_
      refine TC.seq ?_
      refine TC.region ?_
      refine op0 (sp_move rfl rfl) rfl trivial rfl rfl ?_
      refine op0 (sp_move rfl rfl) rfl trivial rfl rfl ?_
      rcases cond_cases h with ⟨h48, h⟩ | ⟨h48, h⟩
      · refine (boolLit 151 rfl h48).2 ?_
        obtain ⟨r28, h49, h⟩ := bind_inv h
        refine op0 (sp_call (avs := []) (need := []) (v := .val (.bool r28)) (news := []) rfl rfl rfl Try.call12 (atJ [] [] (fc_law01_known h49) rfl rfl) (.inl (roAll rfl))) rfl ⟨_, rfl, rfl⟩ rfl rfl ?_
        refine op0 (sp_pickT rfl rfl rfl) rfl trivial rfl rfl ?_
        refine op0 (sp_assign rfl rfl) rfl trivial rfl rfl ?_
        refine TL.nil ?_
        cases h
        exact retJ [] (.tmp rfl .nil) rfl trivial rfl rfl
      · refine (boolLit 151 rfl h48).2 ?_
        refine opSkip rfl ⟨_, rfl, .inl rfl⟩ rfl ?_
        refine op0 (sp_pickF rfl rfl rfl) rfl trivial rfl rfl ?_
        refine op0 (sp_assign rfl rfl) rfl trivial rfl rfl ?_
        refine TL.nil ?_
        cases h
        exact retJ [] (.tmp rfl .nil) rfl trivial rfl rfl
def ev_law01_TrainExact_j1 (n : Nat) (r13 : (List ((List Int) × (List Int))) × Int) (r4 : (List Int) × (List Int)) (r8 : Int × Int × Bool) (r5 : (List Int) × (List Int)) : Option Bool :=
  idx r13.1 0 fun x18 => ev_law01_TrainExact_l2 n r13 r4 r8 r5 n (decide ((x18.1.length : Int) < (r5.1.length : Int))) 0
set_option maxRecDepth 100000 in
set_option maxHeartbeats 2000000 in
theorem ok_law01_TrainExact_j1 {n : Nat} {w0 : World} {R0 : Nat → Prop} {env0 : Env} {r : Bool} {r8 : Int × Int × Bool} {r13 : (List ((List Int) × (List Int))) × Int} {r4 : (List Int) × (List Int)} {r5 : (List Int) × (List Int)} (h : ev_law01_TrainExact_j1 n r13 r4 r8 r5 = some r) : TC Try.prog ⟨w0, fun _ => False, R0⟩ 154 (bodyPost Try.prog Try.f7 (Post ⟨w0, fun _ => False, R0⟩ env0 (.val (.bool r)) [])) [.code (sub (bodyOf Try.f7) [1, 1, 1, 1, 1, 1, 1, 1, 1, 0, 1, 1]), .code (sub (bodyOf Try.f7) [1, 1, 1, 1, 1, 1, 1, 1, 1, 1])] ([(5, .ptr 6 0), (6, .ptr 9 0), (7, .ptr 10 0), (9, .ref 17)]) ([.blk 6 [.ref 4, .ref 5] 40, .blk 9 [.ref 7, .ref 8] 57, .blk 10 [.val (.int .i64 r8.1), .val (.int .i64 r8.2.1)] 26, .row 17 57 2 (List.map en_api_Train r13.1), .row 4 3 1 (List.map en_int r4.1), .row 5 3 1 (List.map en_int r4.2), .row 7 3 1 (List.map en_int r5.1), .row 8 3 1 (List.map en_int r5.2)]) := by
  rw [ev_law01_TrainExact_j1] at h
  refine TC.skip ?_
  refine TC.seq ?_
  obtain ⟨x18, h26, h27, h⟩ := idx_inv h
  refine drawJ 8 [⟨.ref 17, [], [], []⟩, ⟨.cell 17 ((0 : Int).toNat * 2), [], [.row 17 57 2 (List.map en_api_Train r13.1)], []⟩, ⟨.cell 17 ((0 : Int).toNat * 2 + 0), [], [.row 17 57 2 (List.map en_api_Train r13.1)], []⟩, ⟨.ref 22, [.ro 22 1 (List.map en_int x18.1)], [.row 17 57 2 (List.map en_api_Train r13.1)], []⟩, ⟨.val (.int .i64 (x18.1.length : Int)), [], [.ro 22 1 (List.map en_int x18.1)], []⟩, ⟨.ptr 9 0, [], [.blk 9 [.ref 7, .ref 8] 57], []⟩, ⟨.ref 7, [], [.blk 9 [.ref 7, .ref 8] 57], []⟩, ⟨.val (.int .i64 (r5.1.length : Int)), [], [.row 7 3 1 (List.map en_int r5.1)], []⟩] rfl ?_ rfl ?_ rfl ?_ ?_
  · kernel_rfl
  · kernel_rfl
  · exact DAll.op' (sp_move rfl rfl) trivial rfl (From.ok (ps := []) trivial) (DAll.op' (sp_indexS rfl rfl rfl isOwn sl52 h26 (map_get _ h27)) trivial rfl (From.ok (ps := [(none, 3)]) ⟨⟨rfl, rfl⟩, trivial⟩) (DAll.op' (sp_fieldAddrR (i := (0 : Int).toNat) rfl rfl isOwn ft57_0 vt38 (by decide) (map_get _ h27) (fun h => nomatch h)) trivial rfl (From.ok (ps := [(none, 3)]) ⟨⟨rfl, rfl⟩, trivial⟩) (DAll.op' (sp_loadR (i := (0 : Int).toNat) (j := 0) (ns := [.ro 22 1 (List.map en_int x18.1)]) rfl rfl isOwn vt38 rfl (map_get _ h27) rfl (.s (.nil)) (nodup_of_B rfl)) trivial rfl (From.ok (ps := [(none, 3)]) ⟨⟨rfl, rfl⟩, trivial⟩) (DAll.op' (sp_lenM (N := x18.1.length) (len_map _ _) rfl rfl isRo Try.underlying38) trivial rfl (From.ok (ps := [(some 3, 0)]) ⟨⟨_, rfl, rfl, rfl, rfl⟩, trivial⟩) (DAll.op' (sp_fieldAddrB rfl isBlk rfl ft57_0 vt38 (by decide)) trivial rfl (From.ok (ps := [(none, 1)]) ⟨⟨rfl, rfl⟩, trivial⟩) (DAll.op' (sp_loadB rfl isBlk rfl vt38 rfl) trivial rfl (From.ok (ps := [(none, 1)]) ⟨⟨rfl, rfl⟩, trivial⟩) (DAll.op' (sp_lenM (N := r5.1.length) (len_map _ _) rfl rfl isOwn Try.underlying38) trivial rfl (From.ok (ps := [(none, 6)]) ⟨⟨rfl, rfl⟩, trivial⟩) (.nil))))))))
  refine op0 (sp_lss rfl rfl rfl) rfl trivial rfl rfl ?_
  refine op0 (sp_assign rfl rfl) rfl trivial rfl rfl ?_
  refine TL.nil ?_
  refine TC.seq ?_
  refine TC.seq ?_
  refine TC.region ?_
  refine op0 (sp_assign rfl rfl) rfl trivial rfl rfl ?_
  refine TL.nil ?_
  refine TC.block ?_
  refine TC.loop ?_
  refine TC.seq ?_
  refine TC.seq ?_
  refine subJ [] (ok_law01_TrainExact_l2 _ _ _ h) ?_ ?_ ?_
  · exact ⟨rfl, rfl, rfl, rfl, rfl, rfl, trivial⟩
  · exact ⟨mem_at 1 rfl, mem_at 2 rfl, mem_at 3 rfl, mem_at 4 rfl, mem_at 5 rfl, mem_at 6 rfl, mem_at 7 rfl, mem_at 8 rfl, trivial⟩
  · rfl
def ev_law01_TrainExact_j0 (n : Nat) (r13 : (List ((List Int) × (List Int))) × Int) (r5 : (List Int) × (List Int)) (r4 : (List Int) × (List Int)) (r8 : Int × Int × Bool) : Option Bool :=
  cond (r13.2 == 5) (cond ((r13.1.length : Int) == 0) ((ev_law01_known n).bind fun r16 => some r16) (some false)) (cond ((r13.1.length : Int) == 0) (some false) (idx r13.1 0 fun x17 => cond (decide ((r5.1.length : Int) < (x17.1.length : Int))) (some false) (ev_law01_TrainExact_j1 n r13 r4 r8 r5)))
set_option maxRecDepth 100000 in
set_option maxHeartbeats 2000000 in
theorem ok_law01_TrainExact_j0 {n : Nat} {w0 : World} {R0 : Nat → Prop} {env0 : Env} {r : Bool} {r13 : (List ((List Int) × (List Int))) × Int} {r8 : Int × Int × Bool} {r4 : (List Int) × (List Int)} {r5 : (List Int) × (List Int)} (h : ev_law01_TrainExact_j0 n r13 r5 r4 r8 = some r) : TC Try.prog ⟨w0, fun _ => False, R0⟩ 154 (bodyPost Try.prog Try.f7 (Post ⟨w0, fun _ => False, R0⟩ env0 (.val (.bool r)) [])) [.code (sub (bodyOf Try.f7) [1, 1, 1, 1, 1, 1, 1, 0, 1, 1]), .code (sub (bodyOf Try.f7) [1, 1, 1, 1, 1, 1, 1, 1])] ([(5, .ptr 6 0), (6, .ptr 9 0), (7, .ptr 10 0), (9, .ref 17), (10, .val (.int .i64 r13.2))]) ([.blk 6 [.ref 4, .ref 5] 40, .blk 9 [.ref 7, .ref 8] 57, .blk 10 [.val (.int .i64 r8.1), .val (.int .i64 r8.2.1)] 26, .row 17 57 2 (List.map en_api_Train r13.1), .row 4 3 1 (List.map en_int r4.1), .row 5 3 1 (List.map en_int r4.2), .row 7 3 1 (List.map en_int r5.1), .row 8 3 1 (List.map en_int r5.2)]) := by
  rw [ev_law01_TrainExact_j0] at h
  refine TC.skip ?_
  refine TC.seq ?_
  refine TC.seq ?_
  refine TC.region ?_
  refine op0 (sp_move rfl rfl) rfl trivial rfl rfl ?_
  refine op0 (sp_eql rfl rfl rfl) rfl trivial rfl rfl ?_
  refine TL.nil ?_
  refine TC.cond (b := (r13.2 == 5)) rfl (fun h19 => ?_) (fun h19 => ?_)
  · have h := cond_t h h19
    refine TC.seq ?_
    refine TC.region ?_
    refine op0 (sp_move rfl rfl) rfl trivial rfl rfl ?_
    refine op1 3 rfl (sp_lenM (N := r13.1.length) (len_map _ _) rfl rfl isOwn Try.underlying52) rfl trivial rfl rfl ?_
    refine op0 (sp_eql rfl rfl rfl) rfl trivial rfl rfl ?_
    refine op0 (sp_move rfl rfl) rfl trivial rfl rfl ?_
    rcases cond_cases h with ⟨h20, h⟩ | ⟨h20, h⟩
    · refine (boolLit 71 rfl h20).2 ?_
      obtain ⟨r16, h21, h⟩ := bind_inv h
      refine op0 (sp_call (avs := []) (need := []) (v := .val (.bool r16)) (news := []) rfl rfl rfl Try.call12 (atJ [] [] (fc_law01_known h21) rfl rfl) (.inl (roAll rfl))) rfl ⟨_, rfl, rfl⟩ rfl rfl ?_
      refine op0 (sp_pickT rfl rfl rfl) rfl trivial rfl rfl ?_
      refine op0 (sp_assign rfl rfl) rfl trivial rfl rfl ?_
      refine TL.nil ?_
      cases h
      exact retJ [] (.tmp rfl .nil) rfl trivial rfl rfl
    · refine (boolLit 71 rfl h20).2 ?_
      refine opSkip rfl ⟨_, rfl, .inl rfl⟩ rfl ?_
      refine op0 (sp_pickF rfl rfl rfl) rfl trivial rfl rfl ?_
      refine op0 (sp_assign rfl rfl) rfl trivial rfl rfl ?_
      refine TL.nil ?_
      cases h
      exact retJ [] (.tmp rfl .nil) rfl trivial rfl rfl
  · have h := cond_f h h19
    refine TC.skip ?_
    refine TC.seq ?_
    refine TC.seq ?_
    rcases cond_cases h with ⟨h22, h⟩ | ⟨h22, h⟩
    · refine drawJ 12 [⟨.ref 17, [], [], []⟩, ⟨.val (.int .i64 (r13.1.length : Int)), [], [.row 17 57 2 (List.map en_api_Train r13.1)], []⟩, ⟨.val (.bool ((r13.1.length : Int) == 0)), [], [], []⟩, ⟨.val (.bool true), [], [], []⟩, ⟨.val (undef), [], [], []⟩, ⟨.val (undef), [], [], []⟩, ⟨.val (undef), [], [], []⟩, ⟨.val (undef), [], [], []⟩, ⟨.val (undef), [], [], []⟩, ⟨.val (undef), [], [], []⟩, ⟨.val (undef), [], [], []⟩, ⟨.val (undef), [], [], []⟩] rfl ?_ rfl ?_ rfl ?_ ?_
      · kernel_rfl
      · kernel_rfl
      · exact DAll.op' (sp_move rfl rfl) trivial rfl (From.ok (ps := []) trivial) (DAll.op' (sp_lenM (N := r13.1.length) (len_map _ _) rfl rfl isOwn Try.underlying52) trivial rfl (From.ok (ps := [(none, 3)]) ⟨⟨rfl, rfl⟩, trivial⟩) (DAll.op' (sp_eql rfl rfl rfl) trivial rfl (From.ok (ps := []) trivial) (DAll.op' (sp_castB h22 (sp_move rfl rfl)) trivial rfl (From.ok (ps := []) trivial) (.skip ⟨_, rfl, .inl rfl⟩ rfl rfl rfl (.skip ⟨_, rfl, .inl rfl⟩ rfl rfl rfl (.skip ⟨_, rfl, .inl rfl⟩ rfl rfl rfl (.skip ⟨_, rfl, .inl rfl⟩ rfl rfl rfl (.skip ⟨_, rfl, .inl rfl⟩ rfl rfl rfl (.skip ⟨_, rfl, .inl rfl⟩ rfl rfl rfl (.skip ⟨_, rfl, .inl rfl⟩ rfl rfl rfl (.skip ⟨_, rfl, .inl rfl⟩ rfl rfl rfl (.nil))))))))))))
      refine opSkip rfl ⟨_, rfl, .inl rfl⟩ rfl ?_
      refine op0 (sp_pickT rfl rfl rfl) rfl trivial rfl rfl ?_
      refine TL.nil ?_
      refine TC.condT rfl ?_
      refine TC.seq ?_
      refine TC.region ?_
      refine op0 (sp_assign rfl rfl) rfl trivial rfl rfl ?_
      refine TL.nil ?_
      cases h
      exact retJ [] (.tmp rfl .nil) rfl trivial rfl rfl
    · obtain ⟨x17, h23, h24, h⟩ := idx_inv h
      refine drawJ 12 [⟨.ref 17, [], [], []⟩, ⟨.val (.int .i64 (r13.1.length : Int)), [], [.row 17 57 2 (List.map en_api_Train r13.1)], []⟩, ⟨.val (.bool ((r13.1.length : Int) == 0)), [], [], []⟩, ⟨.val (.bool false), [], [], []⟩, ⟨.ref 17, [], [], []⟩, ⟨.cell 17 ((0 : Int).toNat * 2), [], [.row 17 57 2 (List.map en_api_Train r13.1)], []⟩, ⟨.cell 17 ((0 : Int).toNat * 2 + 0), [], [.row 17 57 2 (List.map en_api_Train r13.1)], []⟩, ⟨.ref 21, [.ro 21 1 (List.map en_int x17.1)], [.row 17 57 2 (List.map en_api_Train r13.1)], []⟩, ⟨.val (.int .i64 (x17.1.length : Int)), [], [.ro 21 1 (List.map en_int x17.1)], []⟩, ⟨.ptr 9 0, [], [.blk 9 [.ref 7, .ref 8] 57], []⟩, ⟨.ref 7, [], [.blk 9 [.ref 7, .ref 8] 57], []⟩, ⟨.val (.int .i64 (r5.1.length : Int)), [], [.row 7 3 1 (List.map en_int r5.1)], []⟩] rfl ?_ rfl ?_ rfl ?_ ?_
      · kernel_rfl
      · kernel_rfl
      · exact DAll.op' (sp_move rfl rfl) trivial rfl (From.ok (ps := []) trivial) (DAll.op' (sp_lenM (N := r13.1.length) (len_map _ _) rfl rfl isOwn Try.underlying52) trivial rfl (From.ok (ps := [(none, 3)]) ⟨⟨rfl, rfl⟩, trivial⟩) (DAll.op' (sp_eql rfl rfl rfl) trivial rfl (From.ok (ps := []) trivial) (DAll.op' (sp_castB h22 (sp_move rfl rfl)) trivial rfl (From.ok (ps := []) trivial) (DAll.op' (sp_move rfl rfl) ⟨_, rfl, rfl⟩ rfl (From.ok (ps := []) trivial) (DAll.op' (sp_indexS rfl rfl rfl isOwn sl52 h23 (map_get _ h24)) ⟨_, rfl, rfl⟩ rfl (From.ok (ps := [(none, 3)]) ⟨⟨rfl, rfl⟩, trivial⟩) (DAll.op' (sp_fieldAddrR (i := (0 : Int).toNat) rfl rfl isOwn ft57_0 vt38 (by decide) (map_get _ h24) (fun h => nomatch h)) ⟨_, rfl, rfl⟩ rfl (From.ok (ps := [(none, 3)]) ⟨⟨rfl, rfl⟩, trivial⟩) (DAll.op' (sp_loadR (i := (0 : Int).toNat) (j := 0) (ns := [.ro 21 1 (List.map en_int x17.1)]) rfl rfl isOwn vt38 rfl (map_get _ h24) rfl (.s (.nil)) (nodup_of_B rfl)) ⟨_, rfl, rfl⟩ rfl (From.ok (ps := [(none, 3)]) ⟨⟨rfl, rfl⟩, trivial⟩) (DAll.op' (sp_lenM (N := x17.1.length) (len_map _ _) rfl rfl isRo Try.underlying38) ⟨_, rfl, rfl⟩ rfl (From.ok (ps := [(some 7, 0)]) ⟨⟨_, rfl, rfl, rfl, rfl⟩, trivial⟩) (DAll.op' (sp_fieldAddrB rfl isBlk rfl ft57_0 vt38 (by decide)) ⟨_, rfl, rfl⟩ rfl (From.ok (ps := [(none, 1)]) ⟨⟨rfl, rfl⟩, trivial⟩) (DAll.op' (sp_loadB rfl isBlk rfl vt38 rfl) ⟨_, rfl, rfl⟩ rfl (From.ok (ps := [(none, 1)]) ⟨⟨rfl, rfl⟩, trivial⟩) (DAll.op' (sp_lenM (N := r5.1.length) (len_map _ _) rfl rfl isOwn Try.underlying38) ⟨_, rfl, rfl⟩ rfl (From.ok (ps := [(none, 6)]) ⟨⟨rfl, rfl⟩, trivial⟩) (.nil))))))))))))
      refine op0 (sp_gtr rfl rfl rfl) rfl ⟨_, rfl, rfl⟩ rfl rfl ?_
      refine op0 (sp_pickF rfl rfl rfl) rfl trivial rfl rfl ?_
      refine TL.nil ?_
      refine TC.cond (b := (decide ((r5.1.length : Int) < (x17.1.length : Int)))) rfl (fun h25 => ?_) (fun h25 => ?_)
      · have h := cond_t h h25
        refine TC.seq ?_
        refine TC.region ?_
        refine op0 (sp_assign rfl rfl) rfl trivial rfl rfl ?_
        refine TL.nil ?_
        cases h
        exact retJ [] (.tmp rfl .nil) rfl trivial rfl rfl
      · have h := cond_f h h25
        refine subJ [] (ok_law01_TrainExact_j1 h) ?_ ?_ ?_
        · exact ⟨rfl, rfl, rfl, rfl, trivial⟩
        · exact ⟨mem_at 1 rfl, mem_at 2 rfl, mem_at 3 rfl, mem_at 4 rfl, mem_at 5 rfl, mem_at 6 rfl, mem_at 7 rfl, mem_at 8 rfl, trivial⟩
        · rfl
def ev_law01_TrainExact (n : Nat) (c1 : List Int) (c2 : List Int) (by_3 : List Int) : Option Bool :=
  (ev_law01_Cutters_shop n c1 c2).bind fun r4 => chk (in64 ((1 : Int) + (Int.tmod (by_3.length : Int) 3))) <| (ev_law01_picked n r4.1 r4.2 by_3 ((1 : Int) + (Int.tmod (by_3.length : Int) 3))).bind fun r5 => (ev_law01_product n r5.1).bind fun r6 => (ev_law01_product n r5.2).bind fun r7 => (ev_law01_lowest n r6 r7).bind fun r8 => cond (!r8.2.2) ((ev_law01_known n).bind fun r9 => some r9) ((ev_law01_copied n r4.1 r4.2).bind fun r12 => (ev_train_Fewest n r12.1 r12.2 r8.1 r8.2.1).bind fun r13 => (ev_law01_copied n r4.1 r4.2).bind fun r14 => (ev_train_Missing n r14.1 r14.2 r8.1 r8.2.1).bind fun r15 => cond (r15.2 != 0) (some false) (cond ((r15.1.length : Int) != 0) (some false) (cond (r13.2 != 0) (cond (r13.2 != 5) (some false) (ev_law01_TrainExact_j0 n r13 r5 r4 r8)) (ev_law01_TrainExact_j0 n r13 r5 r4 r8))))
set_option maxRecDepth 100000 in
set_option maxHeartbeats 2000000 in
theorem fc_law01_TrainExact {n : Nat} {c1 : List Int} {c2 : List Int} {by_3 : List Int} {r : Bool} (h : ev_law01_TrainExact n c1 c2 by_3 = some r) : FC Try.prog 7 [.agg [.ref 0, .ref 1], .ref 2] [.ro 0 1 (List.map en_uint8 c1), .ro 1 1 (List.map en_uint8 c2), .ro 2 1 (List.map en_uint8 by_3)] (.val (.bool r)) [] := by
  refine introJ (nz := 154) Try.func7 rfl rfl rfl (fun w0 R0 env0 => ?_)
  rw [ev_law01_TrainExact] at h
  refine TC.seq ?_
  refine TC.region ?_
  refine op0 (sp_box 3 rfl rfl rfl rfl rfl) rfl trivial rfl rfl ?_
  refine op0 (sp_assign rfl rfl) rfl trivial rfl rfl ?_
  refine TL.nil ?_
  refine TC.seq ?_
  refine TC.region ?_
  refine op1 0 rfl (sp_loadBA rfl isBlk rfl vt64 rfl rfl) rfl trivial rfl rfl ?_
  obtain ⟨r4, h1, h⟩ := bind_inv h
  refine opN (need := [.ro 0 1 (List.map en_uint8 c1), .ro 1 1 (List.map en_uint8 c2)]) [1, 2] ⟨rfl, rfl, trivial⟩ (sp_call (avs := [.agg [.ref 0, .ref 1]]) (need := [.ro 0 1 (List.map en_uint8 c1), .ro 1 1 (List.map en_uint8 c2)]) (v := .agg [.ref 4, .ref 5]) (news := [.row 4 3 1 (List.map en_int r4.1), .row 5 3 1 (List.map en_int r4.2)]) rfl rfl rfl Try.call34 (atJ [] [(0, 4), (1, 5)] (fc_law01_Cutters_shop h1) rfl rfl) (.inl (roAll rfl))) rfl trivial rfl rfl ?_
  refine op0 (sp_alloc 6 rfl Try.zeroValue40 rfl) rfl trivial rfl rfl ?_
  refine stoB 0 (cells' := [.ref 4, .ref 5]) rfl rfl trivial rfl rfl rfl rfl vt40 rfl rfl rfl ?_
  refine TL.nil ?_
  refine TC.seq ?_
  refine TC.region ?_
  refine op1 0 rfl (sp_loadBA rfl isBlk rfl vt40 rfl rfl) rfl trivial rfl rfl ?_
  refine op0 (sp_move rfl rfl) rfl trivial rfl rfl ?_
  refine op0 (sp_move rfl rfl) rfl trivial rfl rfl ?_
  refine op1 6 rfl (sp_lenM (N := by_3.length) (len_map _ _) rfl rfl isRo Try.underlying62) rfl trivial rfl rfl ?_
  refine op0 (sp_rem rfl rfl rfl (by decide)) rfl trivial rfl rfl ?_
  obtain ⟨h2, h⟩ := chk_inv h
  refine op0 (sp_add rfl rfl rfl h2) rfl trivial rfl rfl ?_
  obtain ⟨r5, h3, h⟩ := bind_inv h
  refine opN (need := [.row 4 3 1 (List.map en_int r4.1), .row 5 3 1 (List.map en_int r4.2), .ro 2 1 (List.map en_uint8 by_3)]) [1, 2, 6] ⟨rfl, rfl, rfl, trivial⟩ (sp_call (avs := [.agg [.ref 4, .ref 5], .ref 2, .val (.int .i64 ((1 : Int) + (Int.tmod (by_3.length : Int) 3)))]) (need := [.row 4 3 1 (List.map en_int r4.1), .row 5 3 1 (List.map en_int r4.2), .ro 2 1 (List.map en_uint8 by_3)]) (v := .agg [.ref 7, .ref 8]) (news := [.row 7 3 1 (List.map en_int r5.1), .row 8 3 1 (List.map en_int r5.2)]) rfl rfl rfl Try.call35 (atJ [(0, 4), (1, 5)] [(0, 7), (1, 8)] (fc_law01_picked h3) rfl rfl) (.inr (List.forall_mem_cons.2 ⟨indep_map en_int_flat, List.forall_mem_cons.2 ⟨indep_map en_int_flat, (by simp)⟩⟩))) rfl trivial rfl rfl ?_
  refine op0 (sp_alloc 9 rfl Try.zeroValue57 rfl) rfl trivial rfl rfl ?_
  refine stoB 0 (cells' := [.ref 7, .ref 8]) rfl rfl trivial rfl rfl rfl rfl vt57 rfl rfl rfl ?_
  refine TL.nil ?_
  refine TC.seq ?_
  obtain ⟨r6, h4, h⟩ := bind_inv h
  obtain ⟨r7, h5, h⟩ := bind_inv h
  obtain ⟨r8, h6, h⟩ := bind_inv h
  refine drawJ 12 [⟨.ptr 9 0, [], [.blk 9 [.ref 7, .ref 8] 57], []⟩, ⟨.ref 7, [], [.blk 9 [.ref 7, .ref 8] 57], []⟩, ⟨.val (.int .i64 r6), [], [.row 7 3 1 (List.map en_int r5.1)], []⟩, ⟨.ptr 9 1, [], [.blk 9 [.ref 7, .ref 8] 57], []⟩, ⟨.ref 8, [], [.blk 9 [.ref 7, .ref 8] 57], []⟩, ⟨.val (.int .i64 r7), [], [.row 8 3 1 (List.map en_int r5.2)], []⟩, ⟨.tup [.agg [.val (.int .i64 r8.1), .val (.int .i64 r8.2.1)], .val (.bool r8.2.2)], [], [], []⟩, ⟨.tup [.agg [.val (.int .i64 r8.1), .val (.int .i64 r8.2.1)], .val (.bool r8.2.2)], [], [], []⟩, ⟨.agg [.val (.int .i64 r8.1), .val (.int .i64 r8.2.1)], [], [], []⟩, ⟨.val (.bool r8.2.2), [], [], []⟩, ⟨.ptr 10 0, [.blk 10 [.val (.int .i64 0), .val (.int .i64 0)] 26], [], []⟩, ⟨.val (undef), [.blk 10 [.val (.int .i64 r8.1), .val (.int .i64 r8.2.1)] 26], [], [.blk 10 [.val (.int .i64 0), .val (.int .i64 0)] 26]⟩] rfl ?_ rfl ?_ rfl ?_ ?_
  · kernel_rfl
  · kernel_rfl
  · exact DAll.op' (sp_fieldAddrB rfl isBlk rfl ft57_0 vt38 (by decide)) trivial rfl (From.ok (ps := [(none, 0)]) ⟨⟨rfl, by kernel_rfl⟩, trivial⟩) (DAll.op' (sp_loadB rfl isBlk rfl vt38 rfl) trivial rfl (From.ok (ps := [(none, 0)]) ⟨⟨rfl, by kernel_rfl⟩, trivial⟩) (DAll.op' (sp_call (avs := [.ref 7]) (need := [.row 7 3 1 (List.map en_int r5.1)]) (v := .val (.int .i64 r6)) (news := []) rfl rfl rfl Try.call37 (atJ [(0, 7)] [] (fc_law01_product h4) rfl rfl) (.inr (fun x hx => nomatch hx))) trivial rfl (From.ok (ps := [(none, 1)]) ⟨⟨rfl, by kernel_rfl⟩, trivial⟩) (DAll.op' (sp_fieldAddrB rfl isBlk rfl ft57_1 vt38 (by decide)) trivial rfl (From.ok (ps := [(none, 0)]) ⟨⟨rfl, by kernel_rfl⟩, trivial⟩) (DAll.op' (sp_loadB rfl isBlk rfl vt38 rfl) trivial rfl (From.ok (ps := [(none, 0)]) ⟨⟨rfl, by kernel_rfl⟩, trivial⟩) (DAll.op' (sp_call (avs := [.ref 8]) (need := [.row 8 3 1 (List.map en_int r5.2)]) (v := .val (.int .i64 r7)) (news := []) rfl rfl rfl Try.call37 (atJ [(0, 8)] [] (fc_law01_product h5) rfl rfl) (.inr (fun x hx => nomatch hx))) trivial rfl (From.ok (ps := [(none, 2)]) ⟨⟨rfl, by kernel_rfl⟩, trivial⟩) (DAll.op' (sp_call (avs := [.val (.int .i64 r6), .val (.int .i64 r7)]) (need := []) (v := .tup [.agg [.val (.int .i64 r8.1), .val (.int .i64 r8.2.1)], .val (.bool r8.2.2)]) (news := []) rfl rfl rfl Try.call36 (atJ [] [] (fc_law01_lowest h6) rfl rfl) (.inl (roAll rfl))) trivial rfl (From.ok (ps := []) trivial) (DAll.op' (sp_move rfl rfl) trivial rfl (From.ok (ps := []) trivial) (DAll.op' (sp_extract rfl rfl rfl) trivial rfl (From.ok (ps := []) trivial) (DAll.op' (sp_extract rfl rfl rfl) trivial rfl (From.ok (ps := []) trivial) (DAll.op' (sp_alloc 10 rfl Try.zeroValue26 rfl) trivial rfl (From.ok (ps := []) trivial) (DAll.opT (ts_storeB (off := 0) (cells' := [.val (.int .i64 r8.1), .val (.int .i64 r8.2.1)]) rfl rfl rfl rfl vt26 rfl rfl rfl) trivial (From.ok (ps := [(some 10, 0)]) ⟨⟨_, rfl, by kernel_rfl, rfl, by kernel_rfl⟩, trivial⟩) (From.ok (ps := []) trivial) (.nil))))))))))))
  refine op0 (sp_assign rfl rfl) rfl trivial rfl rfl ?_
  refine TL.nil ?_
  refine TC.seq ?_
  refine TC.seq ?_
  refine TC.region ?_
  refine op0 (sp_move rfl rfl) rfl trivial rfl rfl ?_
  refine op0 (sp_not rfl rfl) rfl trivial rfl rfl ?_
  refine TL.nil ?_
  refine TC.cond (b := (!r8.2.2)) rfl (fun h7 => ?_) (fun h7 => ?_)
  · have h := cond_t h h7
    refine TC.seq ?_
    refine TC.region ?_
    obtain ⟨r9, h8, h⟩ := bind_inv h
    refine op0 (sp_call (avs := []) (need := []) (v := .val (.bool r9)) (news := []) rfl rfl rfl Try.call12 (atJ [] [] (fc_law01_known h8) rfl rfl) (.inl (roAll rfl))) rfl trivial rfl rfl ?_
    refine op0 (sp_assign rfl rfl) rfl trivial rfl rfl ?_
    refine TL.nil ?_
    cases h
    exact retJ [] (.tmp rfl .nil) rfl trivial rfl rfl
  · have h := cond_f h h7
    refine TC.skip ?_
    refine TC.seq ?_
    obtain ⟨r12, h11, h⟩ := bind_inv h
    obtain ⟨r13, h12, h⟩ := bind_inv h
    refine drawJ 8 [⟨.agg [.ref 4, .ref 5], [], [.blk 6 [.ref 4, .ref 5] 40], []⟩, ⟨.agg [.ref 15, .ref 16], [.ro 15 1 (List.map en_int r12.1), .ro 16 1 (List.map en_int r12.2)], [.row 4 3 1 (List.map en_int r4.1), .row 5 3 1 (List.map en_int r4.2)], []⟩, ⟨.agg [.val (.int .i64 r8.1), .val (.int .i64 r8.2.1)], [], [.blk 10 [.val (.int .i64 r8.1), .val (.int .i64 r8.2.1)] 26], []⟩, ⟨.tup [.ref 17, .val (.int .i64 r13.2)], [.row 17 57 2 (List.map en_api_Train r13.1)], [.ro 15 1 (List.map en_int r12.1), .ro 16 1 (List.map en_int r12.2)], []⟩, ⟨.tup [.ref 17, .val (.int .i64 r13.2)], [], [], []⟩, ⟨.ref 17, [], [], []⟩, ⟨.val (.int .i64 r13.2), [], [], []⟩, ⟨.ref 17, [], [], []⟩] rfl ?_ rfl ?_ rfl ?_ ?_
    · kernel_rfl
    · kernel_rfl
    · exact DAll.op' (sp_loadBA rfl isBlk rfl vt40 rfl rfl) trivial rfl (From.ok (ps := [(none, 4)]) ⟨⟨rfl, rfl⟩, trivial⟩) (DAll.op' (OpSpec.froz (news := [.ro 15 1 (List.map en_int r12.1), .row 16 3 1 (List.map en_int r12.2)]) 1 rfl (OpSpec.froz (news := [.row 15 3 1 (List.map en_int r12.1), .row 16 3 1 (List.map en_int r12.2)]) 0 rfl (sp_call (avs := [.agg [.ref 4, .ref 5]]) (need := [.row 4 3 1 (List.map en_int r4.1), .row 5 3 1 (List.map en_int r4.2)]) (v := .agg [.ref 15, .ref 16]) (news := [.row 15 3 1 (List.map en_int r12.1), .row 16 3 1 (List.map en_int r12.2)]) rfl rfl rfl Try.call19 (atJ [(0, 4), (1, 5)] [(0, 15), (1, 16)] (fc_law01_copied h11) rfl rfl) (.inr (List.forall_mem_cons.2 ⟨indep_map en_int_flat, List.forall_mem_cons.2 ⟨indep_map en_int_flat, (by simp)⟩⟩))))) trivial rfl (From.ok (ps := [(none, 5), (none, 6)]) ⟨⟨rfl, rfl⟩, ⟨rfl, rfl⟩, trivial⟩) (DAll.op' (sp_loadBA rfl isBlk rfl vt26 rfl rfl) trivial rfl (From.ok (ps := [(none, 0)]) ⟨⟨rfl, rfl⟩, trivial⟩) (DAll.op' (sp_call (avs := [.agg [.ref 15, .ref 16], .agg [.val (.int .i64 r8.1), .val (.int .i64 r8.2.1)]]) (need := [.ro 15 1 (List.map en_int r12.1), .ro 16 1 (List.map en_int r12.2)]) (v := .tup [.ref 17, .val (.int .i64 r13.2)]) (news := [.row 17 57 2 (List.map en_api_Train r13.1)]) rfl rfl rfl Try.call29 (atJ [(0, 15), (1, 16)] [(0, 17)] (fc_train_Fewest h12) rfl rfl) (.inl (roAll rfl))) trivial rfl (From.ok (ps := [(some 1, 0), (some 1, 1)]) ⟨⟨_, rfl, rfl, rfl, rfl⟩, ⟨_, rfl, rfl, rfl, rfl⟩, trivial⟩) (DAll.op' (sp_move rfl rfl) trivial rfl (From.ok (ps := []) trivial) (DAll.op' (sp_extract rfl rfl rfl) trivial rfl (From.ok (ps := []) trivial) (DAll.op' (sp_extract rfl rfl rfl) trivial rfl (From.ok (ps := []) trivial) (DAll.op' (sp_assign rfl rfl) trivial rfl (From.ok (ps := []) trivial) (.nil))))))))
    refine op0 (sp_assign rfl rfl) rfl trivial rfl rfl ?_
    refine TL.nil ?_
    refine TC.seq ?_
    obtain ⟨r14, h13, h⟩ := bind_inv h
    obtain ⟨r15, h14, h⟩ := bind_inv h
    refine drawJ 8 [⟨.agg [.ref 4, .ref 5], [], [.blk 6 [.ref 4, .ref 5] 40], []⟩, ⟨.agg [.ref 18, .ref 19], [.row 18 3 1 (List.map en_int r14.1), .row 19 3 1 (List.map en_int r14.2)], [.row 4 3 1 (List.map en_int r4.1), .row 5 3 1 (List.map en_int r4.2)], []⟩, ⟨.agg [.val (.int .i64 r8.1), .val (.int .i64 r8.2.1)], [], [.blk 10 [.val (.int .i64 r8.1), .val (.int .i64 r8.2.1)] 26], []⟩, ⟨.tup [.ref 20, .val (.int .i64 r15.2)], [.row 20 3 1 (List.map en_int r15.1)], [.row 18 3 1 (List.map en_int r14.1), .row 19 3 1 (List.map en_int r14.2)], []⟩, ⟨.tup [.ref 20, .val (.int .i64 r15.2)], [], [], []⟩, ⟨.ref 20, [], [], []⟩, ⟨.val (.int .i64 r15.2), [], [], []⟩, ⟨.ref 20, [], [], []⟩] rfl ?_ rfl ?_ rfl ?_ ?_
    · kernel_rfl
    · kernel_rfl
    · exact DAll.op' (sp_loadBA rfl isBlk rfl vt40 rfl rfl) trivial rfl (From.ok (ps := [(none, 7)]) ⟨⟨rfl, rfl⟩, trivial⟩) (DAll.op' (sp_call (avs := [.agg [.ref 4, .ref 5]]) (need := [.row 4 3 1 (List.map en_int r4.1), .row 5 3 1 (List.map en_int r4.2)]) (v := .agg [.ref 18, .ref 19]) (news := [.row 18 3 1 (List.map en_int r14.1), .row 19 3 1 (List.map en_int r14.2)]) rfl rfl rfl Try.call19 (atJ [(0, 4), (1, 5)] [(0, 18), (1, 19)] (fc_law01_copied h13) rfl rfl) (.inr (List.forall_mem_cons.2 ⟨indep_map en_int_flat, List.forall_mem_cons.2 ⟨indep_map en_int_flat, (by simp)⟩⟩))) trivial rfl (From.ok (ps := [(none, 8), (none, 9)]) ⟨⟨rfl, rfl⟩, ⟨rfl, rfl⟩, trivial⟩) (DAll.op' (sp_loadBA rfl isBlk rfl vt26 rfl rfl) trivial rfl (From.ok (ps := [(none, 3)]) ⟨⟨rfl, rfl⟩, trivial⟩) (DAll.op' (sp_call (avs := [.agg [.ref 18, .ref 19], .agg [.val (.int .i64 r8.1), .val (.int .i64 r8.2.1)]]) (need := [.row 18 3 1 (List.map en_int r14.1), .row 19 3 1 (List.map en_int r14.2)]) (v := .tup [.ref 20, .val (.int .i64 r15.2)]) (news := [.row 20 3 1 (List.map en_int r15.1)]) rfl rfl rfl Try.call21 (atJ [(0, 18), (1, 19)] [(0, 20)] (fc_train_Missing h14) rfl rfl) (.inr (List.forall_mem_cons.2 ⟨indep_map en_int_flat, (by simp)⟩))) trivial rfl (From.ok (ps := [(some 1, 0), (some 1, 1)]) ⟨⟨_, rfl, rfl, rfl, rfl⟩, ⟨_, rfl, rfl, rfl, rfl⟩, trivial⟩) (DAll.op' (sp_move rfl rfl) trivial rfl (From.ok (ps := []) trivial) (DAll.op' (sp_extract rfl rfl rfl) trivial rfl (From.ok (ps := []) trivial) (DAll.op' (sp_extract rfl rfl rfl) trivial rfl (From.ok (ps := []) trivial) (DAll.op' (sp_assign rfl rfl) trivial rfl (From.ok (ps := []) trivial) (.nil))))))))
    refine op0 (sp_assign rfl rfl) rfl trivial rfl rfl ?_
    refine TL.nil ?_
    refine TC.seq ?_
    refine TC.seq ?_
    refine TC.region ?_
    refine op0 (sp_move rfl rfl) rfl trivial rfl rfl ?_
    refine op0 (sp_neq rfl rfl rfl) rfl trivial rfl rfl ?_
    refine op0 (sp_move rfl rfl) rfl trivial rfl rfl ?_
    rcases cond_cases h with ⟨h15, h⟩ | ⟨h15, h⟩
    · refine (boolLit 53 rfl h15).2 ?_
      refine opSkip rfl ⟨_, rfl, .inl rfl⟩ rfl ?_
      refine opSkip rfl ⟨_, rfl, .inl rfl⟩ rfl ?_
      refine opSkip rfl ⟨_, rfl, .inl rfl⟩ rfl ?_
      refine op0 (sp_pickT rfl rfl rfl) rfl trivial rfl rfl ?_
      refine op0 (sp_move rfl rfl) rfl trivial rfl rfl ?_
      refine opSkip rfl ⟨_, rfl, .inl rfl⟩ rfl ?_
      refine opSkip rfl ⟨_, rfl, .inl rfl⟩ rfl ?_
      refine opSkip rfl ⟨_, rfl, .inl rfl⟩ rfl ?_
      refine opSkip rfl ⟨_, rfl, .inr rfl⟩ rfl ?_
      refine opSkip rfl ⟨_, rfl, .inr rfl⟩ rfl ?_
      refine opSkip rfl ⟨_, rfl, .inl rfl⟩ rfl ?_
      refine op0 (sp_pickT rfl rfl rfl) rfl trivial rfl rfl ?_
      refine TL.nil ?_
      refine TC.condT rfl ?_
      refine TC.seq ?_
      refine TC.region ?_
      refine op0 (sp_assign rfl rfl) rfl trivial rfl rfl ?_
      refine TL.nil ?_
      cases h
      exact retJ [] (.tmp rfl .nil) rfl trivial rfl rfl
    · refine (boolLit 53 rfl h15).2 ?_
      refine op0 (sp_move rfl rfl) rfl ⟨_, rfl, rfl⟩ rfl rfl ?_
      refine op1 0 rfl (sp_lenM (N := r15.1.length) (len_map _ _) rfl rfl isOwn Try.underlying38) rfl ⟨_, rfl, rfl⟩ rfl rfl ?_
      refine op0 (sp_neq rfl rfl rfl) rfl ⟨_, rfl, rfl⟩ rfl rfl ?_
      refine op0 (sp_pickF rfl rfl rfl) rfl trivial rfl rfl ?_
      refine op0 (sp_move rfl rfl) rfl trivial rfl rfl ?_
      rcases cond_cases h with ⟨h16, h⟩ | ⟨h16, h⟩
      · refine (boolLit 58 rfl h16).2 ?_
        refine opSkip rfl ⟨_, rfl, .inl rfl⟩ rfl ?_
        refine opSkip rfl ⟨_, rfl, .inl rfl⟩ rfl ?_
        refine opSkip rfl ⟨_, rfl, .inl rfl⟩ rfl ?_
        refine opSkip rfl ⟨_, rfl, .inr rfl⟩ rfl ?_
        refine opSkip rfl ⟨_, rfl, .inr rfl⟩ rfl ?_
        refine opSkip rfl ⟨_, rfl, .inl rfl⟩ rfl ?_
        refine op0 (sp_pickT rfl rfl rfl) rfl trivial rfl rfl ?_
        refine TL.nil ?_
        refine TC.condT rfl ?_
        refine TC.seq ?_
        refine TC.region ?_
        refine op0 (sp_assign rfl rfl) rfl trivial rfl rfl ?_
        refine TL.nil ?_
        cases h
        exact retJ [] (.tmp rfl .nil) rfl trivial rfl rfl
      · refine (boolLit 58 rfl h16).2 ?_
        refine op0 (sp_move rfl rfl) rfl ⟨_, rfl, rfl⟩ rfl rfl ?_
        refine op0 (sp_neq rfl rfl rfl) rfl ⟨_, rfl, rfl⟩ rfl rfl ?_
        refine op0 (sp_move rfl rfl) rfl ⟨_, rfl, rfl⟩ rfl rfl ?_
        rcases cond_cases h with ⟨h17, h⟩ | ⟨h17, h⟩
        · refine (boolLit 61 rfl h17).2 ?_
          refine op0 (sp_move rfl rfl) rfl ⟨_, rfl, rfl⟩ rfl rfl ?_
          refine op0 (sp_neq rfl rfl rfl) rfl ⟨_, rfl, rfl⟩ rfl rfl ?_
          refine op0 (sp_pickT rfl rfl rfl) rfl ⟨_, rfl, rfl⟩ rfl rfl ?_
          refine op0 (sp_pickF rfl rfl rfl) rfl trivial rfl rfl ?_
          refine TL.nil ?_
          refine TC.cond (b := (r13.2 != 5)) rfl (fun h18 => ?_) (fun h18 => ?_)
          · have h := cond_t h h18
            refine TC.seq ?_
            refine TC.region ?_
            refine op0 (sp_assign rfl rfl) rfl trivial rfl rfl ?_
            refine TL.nil ?_
            cases h
            exact retJ [] (.tmp rfl .nil) rfl trivial rfl rfl
          · have h := cond_f h h18
            refine subJ [] (ok_law01_TrainExact_j0 h) ?_ ?_ ?_
            · exact ⟨rfl, rfl, rfl, rfl, rfl, trivial⟩
            · exact ⟨mem_at 10 rfl, mem_at 7 rfl, mem_at 6 rfl, mem_at 3 rfl, mem_at 11 rfl, mem_at 12 rfl, mem_at 8 rfl, mem_at 9 rfl, trivial⟩
            · rfl
        · refine (boolLit 61 rfl h17).2 ?_
          refine opSkip rfl ⟨_, rfl, .inl rfl⟩ rfl ?_
          refine opSkip rfl ⟨_, rfl, .inl rfl⟩ rfl ?_
          refine op0 (sp_pickF rfl rfl rfl) rfl ⟨_, rfl, rfl⟩ rfl rfl ?_
          refine op0 (sp_pickF rfl rfl rfl) rfl trivial rfl rfl ?_
          refine TL.nil ?_
          refine TC.condF rfl ?_
          refine subJ [] (ok_law01_TrainExact_j0 h) ?_ ?_ ?_
          · exact ⟨rfl, rfl, rfl, rfl, rfl, trivial⟩
          · exact ⟨mem_at 10 rfl, mem_at 7 rfl, mem_at 6 rfl, mem_at 3 rfl, mem_at 11 rfl, mem_at 12 rfl, mem_at 8 rfl, mem_at 9 rfl, trivial⟩
          · rfl
end
end Go.Proofs.Ytabjhlfgcmmbfaa.Sy
