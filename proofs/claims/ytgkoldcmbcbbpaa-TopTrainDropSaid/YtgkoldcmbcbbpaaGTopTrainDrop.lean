/- What functions of the program compute, and that they do: printed by symgen.py. -/
import Derived.Test.YtgkoldcmbcbbpaaGLib
import Derived.Test.YtgkoldcmbcbbpaaGDrop
import Derived.Test.YtgkoldcmbcbbpaaGTrain
set_option linter.unusedSimpArgs false
set_option linter.unusedVariables false
namespace Go.Proofs.Ytgkoldcmbcbbpaa.Sy
open Go.RowKit
noncomputable section

/- top_TopTrainDrop -/
def ev_top_TopTrainDrop_j1 (n : Nat) : Option Bool :=
  (ev_top_pubTrain n).bind fun r7 => cond r7 ((ev_top_pubDrop n).bind fun r8 => some r8) (some false)
set_option maxRecDepth 100000 in
set_option maxHeartbeats 2000000 in
theorem ok_top_TopTrainDrop_j1 {n : Nat} {w0 : World} {R0 : Nat → Prop} {env0 : Env} {r : Bool} (h : ev_top_TopTrainDrop_j1 n = some r) : TC Try.prog ⟨w0, fun _ => False, R0⟩ 120 (bodyPost Try.prog Try.f3 (Post ⟨w0, fun _ => False, R0⟩ env0 (.val (.bool r)) [])) [.code (sub (bodyOf Try.f3) [1, 1, 1, 1, 1, 1, 1, 0, 1, 0, 0]), .code (sub (bodyOf Try.f3) [1, 1, 1, 1, 1, 1, 1, 0, 1, 0, 1]), .code (sub (bodyOf Try.f3) [1, 1, 1, 1, 1, 1, 1, 1])] ([]) ([]) := by
  rw [ev_top_TopTrainDrop_j1] at h
  refine TC.region ?_
  obtain ⟨r7, h23, h⟩ := bind_inv h
  refine op0 (sp_call (avs := []) (need := []) (v := .val (.bool r7)) (news := []) rfl rfl rfl Try.call18 (atJ [] [] (fc_top_pubTrain h23) rfl rfl) (.inl (roAll rfl))) rfl trivial rfl rfl ?_
  refine op0 (sp_move rfl rfl) rfl trivial rfl rfl ?_
  rcases cond_cases h with ⟨h24, h⟩ | ⟨h24, h⟩
  · refine (boolLit 88 rfl h24).2 ?_
    obtain ⟨r8, h25, h⟩ := bind_inv h
    refine op0 (sp_call (avs := []) (need := []) (v := .val (.bool r8)) (news := []) rfl rfl rfl Try.call19 (atJ [] [] (fc_top_pubDrop h25) rfl rfl) (.inl (roAll rfl))) rfl ⟨_, rfl, rfl⟩ rfl rfl ?_
    refine op0 (sp_pickT rfl rfl rfl) rfl trivial rfl rfl ?_
    refine op0 (sp_assign rfl rfl) rfl trivial rfl rfl ?_
    refine TL.nil ?_
    cases h
    exact retJ [] (.tmp rfl .nil) rfl trivial rfl rfl
  · refine (boolLit 88 rfl h24).2 ?_
    refine opSkip rfl ⟨_, rfl, .inl rfl⟩ rfl ?_
    refine op0 (sp_pickF rfl rfl rfl) rfl trivial rfl rfl ?_
    refine op0 (sp_assign rfl rfl) rfl trivial rfl rfl ?_
    refine TL.nil ?_
    cases h
    exact retJ [] (.tmp rfl .nil) rfl trivial rfl rfl
def ev_top_TopTrainDrop_j2 (n : Nat) (r5 : Int × Int × Bool × Int) (turns3 : Int) (circle2 : Int) : Option Bool :=
  (ev_top_pubDown n ((r5.2.1 * ((1 : Int) + (Int.tmod turns3 4))) * ((1 : Int) + circle2)) ((Int.tdiv (r5.2.1 * ((1 : Int) + (Int.tmod turns3 4))) r5.2.1) * r5.1)).bind fun r9 => (ev_top_pubUp n ((r5.2.1 * ((1 : Int) + (Int.tmod turns3 4))) * ((1 : Int) + circle2)) ((Int.tdiv (r5.2.1 * ((1 : Int) + (Int.tmod turns3 4))) r5.2.1) * r5.1)).bind fun r10 => (ev_top_pubSpan n r9 r10).bind fun r11 => (ev_top_pubHours n r11.1 r11.2).bind fun r12 => (ev_drop_Goes n ((r5.2.1 * ((1 : Int) + (Int.tmod turns3 4))) * ((1 : Int) + circle2)) r12 ((r5.2.1 * ((1 : Int) + (Int.tmod turns3 4))) * ((1 : Int) + circle2)) 0).bind fun r13 => cond (r13.2.2 == 0) ((ev_top_pubIn n ((Int.tdiv (r5.2.1 * ((1 : Int) + (Int.tmod turns3 4))) r5.2.1) * r5.1) r13.1 r13.2.1).bind fun r14 => cond r14 ((ev_top_pubTrain n).bind fun r15 => cond r15 ((ev_top_pubDrop n).bind fun r16 => some r16) (some false)) (some false)) (some false)
set_option maxRecDepth 100000 in
set_option maxHeartbeats 2000000 in
theorem ok_top_TopTrainDrop_j2 {n : Nat} {w0 : World} {R0 : Nat → Prop} {env0 : Env} {r : Bool} {r5 : Int × Int × Bool × Int} {turns3 : Int} {circle2 : Int} (h : ev_top_TopTrainDrop_j2 n r5 turns3 circle2 = some r) : TC Try.prog ⟨w0, fun _ => False, R0⟩ 120 (bodyPost Try.prog Try.f3 (Post ⟨w0, fun _ => False, R0⟩ env0 (.val (.bool r)) [])) [.code (sub (bodyOf Try.f3) [1, 1, 1, 1, 1, 1, 1, 0, 1, 1]), .code (sub (bodyOf Try.f3) [1, 1, 1, 1, 1, 1, 1, 1])] ([(14, .val (.int .i64 ((Int.tdiv (r5.2.1 * ((1 : Int) + (Int.tmod turns3 4))) r5.2.1) * r5.1))), (15, .val (.int .i64 ((r5.2.1 * ((1 : Int) + (Int.tmod turns3 4))) * ((1 : Int) + circle2))))]) ([]) := by
  rw [ev_top_TopTrainDrop_j2] at h
  refine TC.skip ?_
  refine TC.seq ?_
  refine TC.region ?_
  refine op0 (sp_move rfl rfl) rfl trivial rfl rfl ?_
  refine op0 (sp_move rfl rfl) rfl trivial rfl rfl ?_
  obtain ⟨r9, h27, h⟩ := bind_inv h
  refine op0 (sp_call (avs := [.val (.int .i64 ((r5.2.1 * ((1 : Int) + (Int.tmod turns3 4))) * ((1 : Int) + circle2))), .val (.int .i64 ((Int.tdiv (r5.2.1 * ((1 : Int) + (Int.tmod turns3 4))) r5.2.1) * r5.1))]) (need := []) (v := .val (.int .i64 r9)) (news := []) rfl rfl rfl Try.call21 (atJ [] [] (fc_top_pubDown h27) rfl rfl) (.inl (roAll rfl))) rfl trivial rfl rfl ?_
  refine op0 (sp_move rfl rfl) rfl trivial rfl rfl ?_
  refine op0 (sp_move rfl rfl) rfl trivial rfl rfl ?_
  obtain ⟨r10, h28, h⟩ := bind_inv h
  refine op0 (sp_call (avs := [.val (.int .i64 ((r5.2.1 * ((1 : Int) + (Int.tmod turns3 4))) * ((1 : Int) + circle2))), .val (.int .i64 ((Int.tdiv (r5.2.1 * ((1 : Int) + (Int.tmod turns3 4))) r5.2.1) * r5.1))]) (need := []) (v := .val (.int .i64 r10)) (news := []) rfl rfl rfl Try.call22 (atJ [] [] (fc_top_pubUp h28) rfl rfl) (.inl (roAll rfl))) rfl trivial rfl rfl ?_
  obtain ⟨r11, h29, h⟩ := bind_inv h
  refine op0 (sp_call (avs := [.val (.int .i64 r9), .val (.int .i64 r10)]) (need := []) (v := .agg [.val (.int .i64 r11.1), .val (.int .i64 r11.2)]) (news := []) rfl rfl rfl Try.call20 (atJ [] [] (fc_top_pubSpan h29) rfl rfl) (.inl (roAll rfl))) rfl trivial rfl rfl ?_
  refine op0 (sp_alloc 7 rfl Try.zeroValue34 rfl) rfl trivial rfl rfl ?_
  refine stoB 0 (cells' := [.val (.int .i64 r11.1), .val (.int .i64 r11.2)]) rfl rfl trivial rfl rfl rfl rfl vt34 rfl rfl rfl ?_
  refine TL.nil ?_
  refine TC.seq ?_
  refine TC.region ?_
  refine op0 (sp_move rfl rfl) rfl trivial rfl rfl ?_
  refine op1 0 rfl (sp_loadBA rfl isBlk rfl vt34 rfl rfl) rfl trivial rfl rfl ?_
  obtain ⟨r12, h30, h⟩ := bind_inv h
  refine op0 (sp_call (avs := [.agg [.val (.int .i64 r11.1), .val (.int .i64 r11.2)]]) (need := []) (v := .ref 8) (news := [.row 8 34 2 (List.map en_api_Span r12)]) rfl rfl rfl Try.call24 (atJ [] [(0, 8)] (fc_top_pubHours h30) rfl rfl) (.inl (roAll rfl))) rfl trivial rfl rfl ?_
  refine op0 (sp_build (qs := [(0, .val (.int .i64 ((r5.2.1 * ((1 : Int) + (Int.tmod turns3 4))) * ((1 : Int) + circle2)))), (1, .ref 8)]) rfl bt42 rfl rfl rfl rfl) rfl trivial rfl rfl ?_
  refine op0 (sp_move rfl rfl) rfl trivial rfl rfl ?_
  obtain ⟨r13, h31, h⟩ := bind_inv h
  refine op1 0 rfl (sp_call (avs := [.agg [.val (.int .i64 ((r5.2.1 * ((1 : Int) + (Int.tmod turns3 4))) * ((1 : Int) + circle2))), .ref 8], .val (.int .i64 ((r5.2.1 * ((1 : Int) + (Int.tmod turns3 4))) * ((1 : Int) + circle2))), .val (.int .i64 0)]) (need := [.row 8 34 2 (List.map en_api_Span r12)]) (v := .tup [.agg [.val (.int .i64 r13.1), .val (.int .i64 r13.2.1)], .val (.int .i64 r13.2.2)]) (news := []) rfl rfl rfl Try.call23 (atJ [(0, 8)] [] (fc_drop_Goes h31) rfl rfl) (.inr (fun x hx => nomatch hx))) rfl trivial rfl rfl ?_
  refine op0 (sp_move rfl rfl) rfl trivial rfl rfl ?_
  refine op0 (sp_extract rfl rfl rfl) rfl trivial rfl rfl ?_
  refine op0 (sp_extract rfl rfl rfl) rfl trivial rfl rfl ?_
  refine op0 (sp_alloc 9 rfl Try.zeroValue34 rfl) rfl trivial rfl rfl ?_
  refine stoB 0 (cells' := [.val (.int .i64 r13.1), .val (.int .i64 r13.2.1)]) rfl rfl trivial rfl rfl rfl rfl vt34 rfl rfl rfl ?_
  refine op0 (sp_assign rfl rfl) rfl trivial rfl rfl ?_
  refine TL.nil ?_
  refine TC.seq ?_
  refine TC.region ?_
  refine op0 (sp_move rfl rfl) rfl trivial rfl rfl ?_
  refine op0 (sp_eql rfl rfl rfl) rfl trivial rfl rfl ?_
  refine op0 (sp_move rfl rfl) rfl trivial rfl rfl ?_
  rcases cond_cases h with ⟨h32, h⟩ | ⟨h32, h⟩
  · refine (boolLit 109 rfl h32).2 ?_
    refine op0 (sp_move rfl rfl) rfl ⟨_, rfl, rfl⟩ rfl rfl ?_
    refine op1 0 rfl (sp_loadBA rfl isBlk rfl vt34 rfl rfl) rfl ⟨_, rfl, rfl⟩ rfl rfl ?_
    obtain ⟨r14, h33, h⟩ := bind_inv h
    refine op0 (sp_call (avs := [.val (.int .i64 ((Int.tdiv (r5.2.1 * ((1 : Int) + (Int.tmod turns3 4))) r5.2.1) * r5.1)), .agg [.val (.int .i64 r13.1), .val (.int .i64 r13.2.1)]]) (need := []) (v := .val (.bool r14)) (news := []) rfl rfl rfl Try.call25 (atJ [] [] (fc_top_pubIn h33) rfl rfl) (.inl (roAll rfl))) rfl ⟨_, rfl, rfl⟩ rfl rfl ?_
    refine op0 (sp_pickT rfl rfl rfl) rfl trivial rfl rfl ?_
    refine op0 (sp_move rfl rfl) rfl trivial rfl rfl ?_
    rcases cond_cases h with ⟨h34, h⟩ | ⟨h34, h⟩
    · refine (boolLit 114 rfl h34).2 ?_
      obtain ⟨r15, h35, h⟩ := bind_inv h
      refine op0 (sp_call (avs := []) (need := []) (v := .val (.bool r15)) (news := []) rfl rfl rfl Try.call18 (atJ [] [] (fc_top_pubTrain h35) rfl rfl) (.inl (roAll rfl))) rfl ⟨_, rfl, rfl⟩ rfl rfl ?_
      refine op0 (sp_pickT rfl rfl rfl) rfl trivial rfl rfl ?_
      refine op0 (sp_move rfl rfl) rfl trivial rfl rfl ?_
      rcases cond_cases h with ⟨h36, h⟩ | ⟨h36, h⟩
      · refine (boolLit 117 rfl h36).2 ?_
        obtain ⟨r16, h37, h⟩ := bind_inv h
        refine op0 (sp_call (avs := []) (need := []) (v := .val (.bool r16)) (news := []) rfl rfl rfl Try.call19 (atJ [] [] (fc_top_pubDrop h37) rfl rfl) (.inl (roAll rfl))) rfl ⟨_, rfl, rfl⟩ rfl rfl ?_
        refine op0 (sp_pickT rfl rfl rfl) rfl trivial rfl rfl ?_
        refine op0 (sp_assign rfl rfl) rfl trivial rfl rfl ?_
        refine TL.nil ?_
        cases h
        exact retJ [] (.tmp rfl .nil) rfl trivial rfl rfl
      · refine (boolLit 117 rfl h36).2 ?_
        refine opSkip rfl ⟨_, rfl, .inl rfl⟩ rfl ?_
        refine op0 (sp_pickF rfl rfl rfl) rfl trivial rfl rfl ?_
        refine op0 (sp_assign rfl rfl) rfl trivial rfl rfl ?_
        refine TL.nil ?_
        cases h
        exact retJ [] (.tmp rfl .nil) rfl trivial rfl rfl
    · refine (boolLit 114 rfl h34).2 ?_
      refine opSkip rfl ⟨_, rfl, .inl rfl⟩ rfl ?_
      refine op0 (sp_pickF rfl rfl rfl) rfl trivial rfl rfl ?_
      refine op0 (sp_move rfl rfl) rfl trivial rfl rfl ?_
      refine opSkip rfl ⟨_, rfl, .inl rfl⟩ rfl ?_
      refine op0 (sp_pickF rfl rfl rfl) rfl trivial rfl rfl ?_
      refine op0 (sp_assign rfl rfl) rfl trivial rfl rfl ?_
      refine TL.nil ?_
      cases h
      exact retJ [] (.tmp rfl .nil) rfl trivial rfl rfl
  · refine (boolLit 109 rfl h32).2 ?_
    refine opSkip rfl ⟨_, rfl, .inl rfl⟩ rfl ?_
    refine opSkip rfl ⟨_, rfl, .inl rfl⟩ rfl ?_
    refine opSkip rfl ⟨_, rfl, .inl rfl⟩ rfl ?_
    refine op0 (sp_pickF rfl rfl rfl) rfl trivial rfl rfl ?_
    refine op0 (sp_move rfl rfl) rfl trivial rfl rfl ?_
    refine opSkip rfl ⟨_, rfl, .inl rfl⟩ rfl ?_
    refine op0 (sp_pickF rfl rfl rfl) rfl trivial rfl rfl ?_
    refine op0 (sp_move rfl rfl) rfl trivial rfl rfl ?_
    refine opSkip rfl ⟨_, rfl, .inl rfl⟩ rfl ?_
    refine op0 (sp_pickF rfl rfl rfl) rfl trivial rfl rfl ?_
    refine op0 (sp_assign rfl rfl) rfl trivial rfl rfl ?_
    refine TL.nil ?_
    cases h
    exact retJ [] (.tmp rfl .nil) rfl trivial rfl rfl
def ev_top_TopTrainDrop_j0 (n : Nat) (turns3 : Int) (r5 : Int × Int × Bool × Int) (circle2 : Int) : Option Bool :=
  chk (in64 turns3) <| chk (in64 ((1 : Int) + (Int.tmod turns3 4))) <| chk (in64 (r5.2.1 * ((1 : Int) + (Int.tmod turns3 4)))) <| chk (r5.2.1 != 0) <| chk (in64 (Int.tdiv (r5.2.1 * ((1 : Int) + (Int.tmod turns3 4))) r5.2.1)) <| chk (in64 ((Int.tdiv (r5.2.1 * ((1 : Int) + (Int.tmod turns3 4))) r5.2.1) * r5.1)) <| chk (in64 circle2) <| chk (in64 ((1 : Int) + circle2)) <| chk (in64 ((r5.2.1 * ((1 : Int) + (Int.tmod turns3 4))) * ((1 : Int) + circle2))) <| cond (decide ((2000 : Int) ≤ ((Int.tdiv (r5.2.1 * ((1 : Int) + (Int.tmod turns3 4))) r5.2.1) * r5.1))) (ev_top_TopTrainDrop_j1 n) (cond (decide ((3000 : Int) < ((r5.2.1 * ((1 : Int) + (Int.tmod turns3 4))) * ((1 : Int) + circle2)))) (ev_top_TopTrainDrop_j1 n) (ev_top_TopTrainDrop_j2 n r5 turns3 circle2))
set_option maxRecDepth 100000 in
set_option maxHeartbeats 2000000 in
theorem ok_top_TopTrainDrop_j0 {n : Nat} {w0 : World} {R0 : Nat → Prop} {env0 : Env} {r : Bool} {circle2 : Int} {turns3 : Int} {r5 : Int × Int × Bool × Int} (h : ev_top_TopTrainDrop_j0 n turns3 r5 circle2 = some r) : TC Try.prog ⟨w0, fun _ => False, R0⟩ 120 (bodyPost Try.prog Try.f3 (Post ⟨w0, fun _ => False, R0⟩ env0 (.val (.bool r)) [])) [.code (sub (bodyOf Try.f3) [1, 1, 1, 1, 0, 1, 1]), .code (sub (bodyOf Try.f3) [1, 1, 1, 1, 1])] ([(1, .val (.int .u8 circle2)), (2, .val (.int .u8 turns3)), (8, .ptr 4 0)]) ([.blk 4 [.val (.int .i64 r5.1), .val (.int .i64 r5.2.1)] 26]) := by
  rw [ev_top_TopTrainDrop_j0] at h
  refine TC.skip ?_
  refine TC.seq ?_
  refine TC.region ?_
  refine op1 0 rfl (sp_fieldAddrB rfl isBlk rfl ft26_1 vt3 (by decide)) rfl trivial rfl rfl ?_
  refine op1 0 rfl (sp_loadB rfl isBlk rfl vt3 rfl) rfl trivial rfl rfl ?_
  refine op0 (sp_move rfl rfl) rfl trivial rfl rfl ?_
  obtain ⟨h13, h⟩ := chk_inv h
  refine op0 (sp_conv rfl Try.underlying5 Try.underlying3 rfl h13) rfl trivial rfl rfl ?_
  refine op0 (sp_rem rfl rfl rfl (by decide)) rfl trivial rfl rfl ?_
  obtain ⟨h14, h⟩ := chk_inv h
  refine op0 (sp_add rfl rfl rfl h14) rfl trivial rfl rfl ?_
  obtain ⟨h15, h⟩ := chk_inv h
  refine op0 (sp_mul rfl rfl rfl h15) rfl trivial rfl rfl ?_
  refine op0 (sp_assign rfl rfl) rfl trivial rfl rfl ?_
  refine TL.nil ?_
  refine TC.seq ?_
  obtain ⟨h16, h⟩ := chk_inv h
  obtain ⟨h17, h⟩ := chk_inv h
  obtain ⟨h18, h⟩ := chk_inv h
  obtain ⟨h19, h⟩ := chk_inv h
  obtain ⟨h20, h⟩ := chk_inv h
  obtain ⟨h21, h⟩ := chk_inv h
  refine drawJ 13 [⟨.val (.int .i64 (r5.2.1 * ((1 : Int) + (Int.tmod turns3 4)))), [], [], []⟩, ⟨.ptr 4 1, [], [.blk 4 [.val (.int .i64 r5.1), .val (.int .i64 r5.2.1)] 26], []⟩, ⟨.val (.int .i64 r5.2.1), [], [.blk 4 [.val (.int .i64 r5.1), .val (.int .i64 r5.2.1)] 26], []⟩, ⟨.val (.int .i64 (Int.tdiv (r5.2.1 * ((1 : Int) + (Int.tmod turns3 4))) r5.2.1)), [], [], []⟩, ⟨.ptr 4 0, [], [.blk 4 [.val (.int .i64 r5.1), .val (.int .i64 r5.2.1)] 26], []⟩, ⟨.val (.int .i64 r5.1), [], [.blk 4 [.val (.int .i64 r5.1), .val (.int .i64 r5.2.1)] 26], []⟩, ⟨.val (.int .i64 ((Int.tdiv (r5.2.1 * ((1 : Int) + (Int.tmod turns3 4))) r5.2.1) * r5.1)), [], [], []⟩, ⟨.val (.int .i64 (r5.2.1 * ((1 : Int) + (Int.tmod turns3 4)))), [], [], []⟩, ⟨.val (.int .u8 circle2), [], [], []⟩, ⟨.val (.int .i64 circle2), [], [], []⟩, ⟨.val (.int .i64 ((1 : Int) + circle2)), [], [], []⟩, ⟨.val (.int .i64 ((r5.2.1 * ((1 : Int) + (Int.tmod turns3 4))) * ((1 : Int) + circle2))), [], [], []⟩, ⟨.val (.int .i64 ((Int.tdiv (r5.2.1 * ((1 : Int) + (Int.tmod turns3 4))) r5.2.1) * r5.1)), [], [], []⟩] rfl ?_ rfl ?_ rfl ?_ ?_
  · kernel_rfl
  · kernel_rfl
  · exact DAll.op' (sp_move rfl rfl) trivial rfl (From.ok (ps := []) trivial) (DAll.op' (sp_fieldAddrB rfl isBlk rfl ft26_1 vt3 (by decide)) trivial rfl (From.ok (ps := [(none, 0)]) ⟨⟨rfl, rfl⟩, trivial⟩) (DAll.op' (sp_loadB rfl isBlk rfl vt3 rfl) trivial rfl (From.ok (ps := [(none, 0)]) ⟨⟨rfl, rfl⟩, trivial⟩) (DAll.op' (sp_quo rfl rfl rfl h16 h17) trivial rfl (From.ok (ps := []) trivial) (DAll.op' (sp_fieldAddrB rfl isBlk rfl ft26_0 vt3 (by decide)) trivial rfl (From.ok (ps := [(none, 0)]) ⟨⟨rfl, rfl⟩, trivial⟩) (DAll.op' (sp_loadB rfl isBlk rfl vt3 rfl) trivial rfl (From.ok (ps := [(none, 0)]) ⟨⟨rfl, rfl⟩, trivial⟩) (DAll.op' (sp_mul rfl rfl rfl h18) trivial rfl (From.ok (ps := []) trivial) (DAll.op' (sp_move rfl rfl) trivial rfl (From.ok (ps := []) trivial) (DAll.op' (sp_move rfl rfl) trivial rfl (From.ok (ps := []) trivial) (DAll.op' (sp_conv rfl Try.underlying5 Try.underlying3 rfl h19) trivial rfl (From.ok (ps := []) trivial) (DAll.op' (sp_add rfl rfl rfl h20) trivial rfl (From.ok (ps := []) trivial) (DAll.op' (sp_mul rfl rfl rfl h21) trivial rfl (From.ok (ps := []) trivial) (DAll.op' (sp_assign rfl rfl) trivial rfl (From.ok (ps := []) trivial) (.nil)))))))))))))
  refine op0 (sp_assign rfl rfl) rfl trivial rfl rfl ?_
  refine TL.nil ?_
  refine TC.seq ?_
  refine TC.seq ?_
  refine TC.region ?_
  refine op0 (sp_move rfl rfl) rfl trivial rfl rfl ?_
  refine op0 (sp_geq rfl rfl rfl) rfl trivial rfl rfl ?_
  refine op0 (sp_move rfl rfl) rfl trivial rfl rfl ?_
  rcases cond_cases h with ⟨h22, h⟩ | ⟨h22, h⟩
  · refine (boolLit 83 rfl h22).2 ?_
    refine opSkip rfl ⟨_, rfl, .inl rfl⟩ rfl ?_
    refine opSkip rfl ⟨_, rfl, .inl rfl⟩ rfl ?_
    refine op0 (sp_pickT rfl rfl rfl) rfl trivial rfl rfl ?_
    refine TL.nil ?_
    refine TC.condT rfl ?_
    refine TC.seq ?_
    refine subJ [] (ok_top_TopTrainDrop_j1 h) ?_ ?_ ?_
    · exact trivial
    · exact trivial
    · rfl
  · refine (boolLit 83 rfl h22).2 ?_
    refine op0 (sp_move rfl rfl) rfl ⟨_, rfl, rfl⟩ rfl rfl ?_
    refine op0 (sp_gtr rfl rfl rfl) rfl ⟨_, rfl, rfl⟩ rfl rfl ?_
    refine op0 (sp_pickF rfl rfl rfl) rfl trivial rfl rfl ?_
    refine TL.nil ?_
    refine TC.cond (b := (decide ((3000 : Int) < ((r5.2.1 * ((1 : Int) + (Int.tmod turns3 4))) * ((1 : Int) + circle2))))) rfl (fun h26 => ?_) (fun h26 => ?_)
    · have h := cond_t h h26
      refine TC.seq ?_
      refine subJ [] (ok_top_TopTrainDrop_j1 h) ?_ ?_ ?_
      · exact trivial
      · exact trivial
      · rfl
    · have h := cond_f h h26
      refine subJ [] (ok_top_TopTrainDrop_j2 h) ?_ ?_ ?_
      · exact ⟨rfl, rfl, trivial⟩
      · exact trivial
      · rfl
def ev_top_TopTrainDrop (n : Nat) (by_1 : List (Int × Int)) (circle2 : Int) (turns3 : Int) : Option Bool :=
  (ev_top_pubPairs n by_1 3).bind fun r4 => chk (room 16 (([] : List (Int × Int)).length + r4.length)) <| (ev_train_Turns n (([] : List (Int × Int)) ++ r4)).bind fun r5 => chk (room 16 (([] : List (Int × Int)).length + r4.length)) <| (ev_train_Cycle n (([] : List (Int × Int)) ++ r4)).bind fun r6 => cond (r5.2.2.2 != 0) (some false) (cond (r6.2 != 0) (some false) (cond (decide (r5.1 < 1)) (some false) (cond (decide (r5.2.1 < 1)) (some false) (cond (decide (r6.1 < 1)) (some false) (chk (r5.2.1 != 0) <| cond ((Int.tmod r6.1 r5.2.1) != 0) (some false) (ev_top_TopTrainDrop_j0 n turns3 r5 circle2))))))
set_option maxRecDepth 100000 in
set_option maxHeartbeats 2000000 in
theorem fc_top_TopTrainDrop {n : Nat} {by_1 : List (Int × Int)} {circle2 : Int} {turns3 : Int} {r : Bool} (h : ev_top_TopTrainDrop n by_1 circle2 turns3 = some r) : FC Try.prog 3 [.ref 0, .val (.int .u8 circle2), .val (.int .u8 turns3)] [.ro 0 2 (List.map en_2_uint8 by_1)] (.val (.bool r)) [] := by
  refine introJ (nz := 120) Try.func3 rfl rfl rfl (fun w0 R0 env0 => ?_)
  rw [ev_top_TopTrainDrop] at h
  refine TC.seq ?_
  refine TC.region ?_
  refine op0 (sp_assign rfl rfl) rfl trivial rfl rfl ?_
  refine TL.nil ?_
  refine TC.seq ?_
  refine TC.region ?_
  refine op0 (sp_move rfl rfl) rfl trivial rfl rfl ?_
  obtain ⟨r4, h1, h⟩ := bind_inv h
  refine op1 0 rfl (sp_call (avs := [.ref 0, .val (.int .i64 3)]) (need := [.ro 0 2 (List.map en_2_uint8 by_1)]) (v := .ref 1) (news := [.row 1 61 2 (List.map en_api_TrainPair r4)]) rfl rfl rfl Try.call15 (atJ [] [(0, 1)] (fc_top_pubPairs h1) rfl rfl) (.inl (roAll rfl))) rfl trivial rfl rfl ?_
  refine op0 (sp_assign rfl rfl) rfl trivial rfl rfl ?_
  refine TL.nil ?_
  refine TC.seq ?_
  refine TC.region ?_
  refine op0 (sp_emptyM 2 (List.map en_api_TrainPair []) rfl rfl sl23) rfl trivial rfl rfl ?_
  refine op0 (sp_move rfl rfl) rfl trivial rfl rfl ?_
  obtain ⟨h2, h⟩ := chk_inv h
  refine appM 0 1 (N := ([] : List (Int × Int)).length) (N2 := r4.length) 3 rfl rfl trivial rfl rfl rfl rfl rfl isOwn rfl sl23 (len_map _ _) (len_map _ _) h2 (map_app _ _ _) rfl ?_
  obtain ⟨r5, h3, h⟩ := bind_inv h
  refine op1 0 rfl (sp_call (avs := [.ref 3]) (need := [.row 3 61 2 (List.map en_api_TrainPair (([] : List (Int × Int)) ++ r4))]) (v := .tup [.agg [.val (.int .i64 r5.1), .val (.int .i64 r5.2.1)], .val (.bool r5.2.2.1), .val (.int .i64 r5.2.2.2)]) (news := []) rfl rfl rfl Try.call16 (atJ [(0, 3)] [] (fc_train_Turns h3) rfl rfl) (.inr (fun x hx => nomatch hx))) rfl trivial rfl rfl ?_
  refine op0 (sp_move rfl rfl) rfl trivial rfl rfl ?_
  refine op0 (sp_extract rfl rfl rfl) rfl trivial rfl rfl ?_
  refine op0 (sp_extract rfl rfl rfl) rfl trivial rfl rfl ?_
  refine op0 (sp_extract rfl rfl rfl) rfl trivial rfl rfl ?_
  refine op0 (sp_alloc 4 rfl Try.zeroValue26 rfl) rfl trivial rfl rfl ?_
  refine stoB 0 (cells' := [.val (.int .i64 r5.1), .val (.int .i64 r5.2.1)]) rfl rfl trivial rfl rfl rfl rfl vt26 rfl rfl rfl ?_
  refine op0 (sp_assign rfl rfl) rfl trivial rfl rfl ?_
  refine op0 (sp_assign rfl rfl) rfl trivial rfl rfl ?_
  refine TL.nil ?_
  refine TC.seq ?_
  refine TC.region ?_
  refine op0 (sp_emptyM 5 (List.map en_api_TrainPair []) rfl rfl sl23) rfl trivial rfl rfl ?_
  refine op0 (sp_move rfl rfl) rfl trivial rfl rfl ?_
  obtain ⟨h4, h⟩ := chk_inv h
  refine appM 0 3 (N := ([] : List (Int × Int)).length) (N2 := r4.length) 6 rfl rfl trivial rfl rfl rfl rfl rfl isOwn rfl sl23 (len_map _ _) (len_map _ _) h4 (map_app _ _ _) rfl ?_
  obtain ⟨r6, h5, h⟩ := bind_inv h
  refine op1 0 rfl (sp_call (avs := [.ref 6]) (need := [.row 6 61 2 (List.map en_api_TrainPair (([] : List (Int × Int)) ++ r4))]) (v := .tup [.val (.int .i64 r6.1), .val (.int .i64 r6.2)]) (news := []) rfl rfl rfl Try.call17 (atJ [(0, 6)] [] (fc_train_Cycle h5) rfl rfl) (.inr (fun x hx => nomatch hx))) rfl trivial rfl rfl ?_
  refine op0 (sp_move rfl rfl) rfl trivial rfl rfl ?_
  refine op0 (sp_extract rfl rfl rfl) rfl trivial rfl rfl ?_
  refine op0 (sp_extract rfl rfl rfl) rfl trivial rfl rfl ?_
  refine op0 (sp_assign rfl rfl) rfl trivial rfl rfl ?_
  refine op0 (sp_assign rfl rfl) rfl trivial rfl rfl ?_
  refine TL.nil ?_
  refine TC.seq ?_
  refine TC.seq ?_
  refine TC.region ?_
  refine op0 (sp_move rfl rfl) rfl trivial rfl rfl ?_
  refine op0 (sp_neq rfl rfl rfl) rfl trivial rfl rfl ?_
  refine op0 (sp_move rfl rfl) rfl trivial rfl rfl ?_
  rcases cond_cases h with ⟨h6, h⟩ | ⟨h6, h⟩
  · refine (boolLit 37 rfl h6).2 ?_
    refine opSkip rfl ⟨_, rfl, .inl rfl⟩ rfl ?_
    refine opSkip rfl ⟨_, rfl, .inl rfl⟩ rfl ?_
    refine op0 (sp_pickT rfl rfl rfl) rfl trivial rfl rfl ?_
    refine op0 (sp_move rfl rfl) rfl trivial rfl rfl ?_
    refine opSkip rfl ⟨_, rfl, .inl rfl⟩ rfl ?_
    refine opSkip rfl ⟨_, rfl, .inl rfl⟩ rfl ?_
    refine opSkip rfl ⟨_, rfl, .inl rfl⟩ rfl ?_
    refine op0 (sp_pickT rfl rfl rfl) rfl trivial rfl rfl ?_
    refine op0 (sp_move rfl rfl) rfl trivial rfl rfl ?_
    refine opSkip rfl ⟨_, rfl, .inl rfl⟩ rfl ?_
    refine opSkip rfl ⟨_, rfl, .inl rfl⟩ rfl ?_
    refine opSkip rfl ⟨_, rfl, .inl rfl⟩ rfl ?_
    refine op0 (sp_pickT rfl rfl rfl) rfl trivial rfl rfl ?_
    refine op0 (sp_move rfl rfl) rfl trivial rfl rfl ?_
    refine opSkip rfl ⟨_, rfl, .inl rfl⟩ rfl ?_
    refine opSkip rfl ⟨_, rfl, .inl rfl⟩ rfl ?_
    refine op0 (sp_pickT rfl rfl rfl) rfl trivial rfl rfl ?_
    refine op0 (sp_move rfl rfl) rfl trivial rfl rfl ?_
    refine opSkip rfl ⟨_, rfl, .inl rfl⟩ rfl ?_
    refine opSkip rfl ⟨_, rfl, .inl rfl⟩ rfl ?_
    refine opSkip rfl ⟨_, rfl, .inl rfl⟩ rfl ?_
    refine opSkip rfl ⟨_, rfl, .inl rfl⟩ rfl ?_
    refine opSkip rfl ⟨_, rfl, .inl rfl⟩ rfl ?_
    refine op0 (sp_pickT rfl rfl rfl) rfl trivial rfl rfl ?_
    refine TL.nil ?_
    refine TC.condT rfl ?_
    refine TC.seq ?_
    refine TC.region ?_
    refine op0 (sp_assign rfl rfl) rfl trivial rfl rfl ?_
    refine TL.nil ?_
    cases h
    exact retJ [] (.tmp rfl .nil) rfl trivial rfl rfl
  · refine (boolLit 37 rfl h6).2 ?_
    refine op0 (sp_move rfl rfl) rfl ⟨_, rfl, rfl⟩ rfl rfl ?_
    refine op0 (sp_neq rfl rfl rfl) rfl ⟨_, rfl, rfl⟩ rfl rfl ?_
    refine op0 (sp_pickF rfl rfl rfl) rfl trivial rfl rfl ?_
    refine op0 (sp_move rfl rfl) rfl trivial rfl rfl ?_
    rcases cond_cases h with ⟨h7, h⟩ | ⟨h7, h⟩
    · refine (boolLit 41 rfl h7).2 ?_
      refine opSkip rfl ⟨_, rfl, .inl rfl⟩ rfl ?_
      refine opSkip rfl ⟨_, rfl, .inl rfl⟩ rfl ?_
      refine opSkip rfl ⟨_, rfl, .inl rfl⟩ rfl ?_
      refine op0 (sp_pickT rfl rfl rfl) rfl trivial rfl rfl ?_
      refine op0 (sp_move rfl rfl) rfl trivial rfl rfl ?_
      refine opSkip rfl ⟨_, rfl, .inl rfl⟩ rfl ?_
      refine opSkip rfl ⟨_, rfl, .inl rfl⟩ rfl ?_
      refine opSkip rfl ⟨_, rfl, .inl rfl⟩ rfl ?_
      refine op0 (sp_pickT rfl rfl rfl) rfl trivial rfl rfl ?_
      refine op0 (sp_move rfl rfl) rfl trivial rfl rfl ?_
      refine opSkip rfl ⟨_, rfl, .inl rfl⟩ rfl ?_
      refine opSkip rfl ⟨_, rfl, .inl rfl⟩ rfl ?_
      refine op0 (sp_pickT rfl rfl rfl) rfl trivial rfl rfl ?_
      refine op0 (sp_move rfl rfl) rfl trivial rfl rfl ?_
      refine opSkip rfl ⟨_, rfl, .inl rfl⟩ rfl ?_
      refine opSkip rfl ⟨_, rfl, .inl rfl⟩ rfl ?_
      refine opSkip rfl ⟨_, rfl, .inl rfl⟩ rfl ?_
      refine opSkip rfl ⟨_, rfl, .inl rfl⟩ rfl ?_
      refine opSkip rfl ⟨_, rfl, .inl rfl⟩ rfl ?_
      refine op0 (sp_pickT rfl rfl rfl) rfl trivial rfl rfl ?_
      refine TL.nil ?_
      refine TC.condT rfl ?_
      refine TC.seq ?_
      refine TC.region ?_
      refine op0 (sp_assign rfl rfl) rfl trivial rfl rfl ?_
      refine TL.nil ?_
      cases h
      exact retJ [] (.tmp rfl .nil) rfl trivial rfl rfl
    · refine (boolLit 41 rfl h7).2 ?_
      refine op1 1 rfl (sp_fieldAddrB rfl isBlk rfl ft26_0 vt3 (by decide)) rfl ⟨_, rfl, rfl⟩ rfl rfl ?_
      refine op1 1 rfl (sp_loadB rfl isBlk rfl vt3 rfl) rfl ⟨_, rfl, rfl⟩ rfl rfl ?_
      refine op0 (sp_lss rfl rfl rfl) rfl ⟨_, rfl, rfl⟩ rfl rfl ?_
      refine op0 (sp_pickF rfl rfl rfl) rfl trivial rfl rfl ?_
      refine op0 (sp_move rfl rfl) rfl trivial rfl rfl ?_
      rcases cond_cases h with ⟨h8, h⟩ | ⟨h8, h⟩
      · refine (boolLit 46 rfl h8).2 ?_
        refine opSkip rfl ⟨_, rfl, .inl rfl⟩ rfl ?_
        refine opSkip rfl ⟨_, rfl, .inl rfl⟩ rfl ?_
        refine opSkip rfl ⟨_, rfl, .inl rfl⟩ rfl ?_
        refine op0 (sp_pickT rfl rfl rfl) rfl trivial rfl rfl ?_
        refine op0 (sp_move rfl rfl) rfl trivial rfl rfl ?_
        refine opSkip rfl ⟨_, rfl, .inl rfl⟩ rfl ?_
        refine opSkip rfl ⟨_, rfl, .inl rfl⟩ rfl ?_
        refine op0 (sp_pickT rfl rfl rfl) rfl trivial rfl rfl ?_
        refine op0 (sp_move rfl rfl) rfl trivial rfl rfl ?_
        refine opSkip rfl ⟨_, rfl, .inl rfl⟩ rfl ?_
        refine opSkip rfl ⟨_, rfl, .inl rfl⟩ rfl ?_
        refine opSkip rfl ⟨_, rfl, .inl rfl⟩ rfl ?_
        refine opSkip rfl ⟨_, rfl, .inl rfl⟩ rfl ?_
        refine opSkip rfl ⟨_, rfl, .inl rfl⟩ rfl ?_
        refine op0 (sp_pickT rfl rfl rfl) rfl trivial rfl rfl ?_
        refine TL.nil ?_
        refine TC.condT rfl ?_
        refine TC.seq ?_
        refine TC.region ?_
        refine op0 (sp_assign rfl rfl) rfl trivial rfl rfl ?_
        refine TL.nil ?_
        cases h
        exact retJ [] (.tmp rfl .nil) rfl trivial rfl rfl
      · refine (boolLit 46 rfl h8).2 ?_
        refine op1 1 rfl (sp_fieldAddrB rfl isBlk rfl ft26_1 vt3 (by decide)) rfl ⟨_, rfl, rfl⟩ rfl rfl ?_
        refine op1 1 rfl (sp_loadB rfl isBlk rfl vt3 rfl) rfl ⟨_, rfl, rfl⟩ rfl rfl ?_
        refine op0 (sp_lss rfl rfl rfl) rfl ⟨_, rfl, rfl⟩ rfl rfl ?_
        refine op0 (sp_pickF rfl rfl rfl) rfl trivial rfl rfl ?_
        refine op0 (sp_move rfl rfl) rfl trivial rfl rfl ?_
        rcases cond_cases h with ⟨h9, h⟩ | ⟨h9, h⟩
        · refine (boolLit 51 rfl h9).2 ?_
          refine opSkip rfl ⟨_, rfl, .inl rfl⟩ rfl ?_
          refine opSkip rfl ⟨_, rfl, .inl rfl⟩ rfl ?_
          refine op0 (sp_pickT rfl rfl rfl) rfl trivial rfl rfl ?_
          refine op0 (sp_move rfl rfl) rfl trivial rfl rfl ?_
          refine opSkip rfl ⟨_, rfl, .inl rfl⟩ rfl ?_
          refine opSkip rfl ⟨_, rfl, .inl rfl⟩ rfl ?_
          refine opSkip rfl ⟨_, rfl, .inl rfl⟩ rfl ?_
          refine opSkip rfl ⟨_, rfl, .inl rfl⟩ rfl ?_
          refine opSkip rfl ⟨_, rfl, .inl rfl⟩ rfl ?_
          refine op0 (sp_pickT rfl rfl rfl) rfl trivial rfl rfl ?_
          refine TL.nil ?_
          refine TC.condT rfl ?_
          refine TC.seq ?_
          refine TC.region ?_
          refine op0 (sp_assign rfl rfl) rfl trivial rfl rfl ?_
          refine TL.nil ?_
          cases h
          exact retJ [] (.tmp rfl .nil) rfl trivial rfl rfl
        · refine (boolLit 51 rfl h9).2 ?_
          refine op0 (sp_move rfl rfl) rfl ⟨_, rfl, rfl⟩ rfl rfl ?_
          refine op0 (sp_lss rfl rfl rfl) rfl ⟨_, rfl, rfl⟩ rfl rfl ?_
          refine op0 (sp_pickF rfl rfl rfl) rfl trivial rfl rfl ?_
          refine op0 (sp_move rfl rfl) rfl trivial rfl rfl ?_
          rcases cond_cases h with ⟨h10, h⟩ | ⟨h10, h⟩
          · refine (boolLit 55 rfl h10).2 ?_
            refine opSkip rfl ⟨_, rfl, .inl rfl⟩ rfl ?_
            refine opSkip rfl ⟨_, rfl, .inl rfl⟩ rfl ?_
            refine opSkip rfl ⟨_, rfl, .inl rfl⟩ rfl ?_
            refine opSkip rfl ⟨_, rfl, .inl rfl⟩ rfl ?_
            refine opSkip rfl ⟨_, rfl, .inl rfl⟩ rfl ?_
            refine op0 (sp_pickT rfl rfl rfl) rfl trivial rfl rfl ?_
            refine TL.nil ?_
            refine TC.condT rfl ?_
            refine TC.seq ?_
            refine TC.region ?_
            refine op0 (sp_assign rfl rfl) rfl trivial rfl rfl ?_
            refine TL.nil ?_
            cases h
            exact retJ [] (.tmp rfl .nil) rfl trivial rfl rfl
          · refine (boolLit 55 rfl h10).2 ?_
            refine op0 (sp_move rfl rfl) rfl ⟨_, rfl, rfl⟩ rfl rfl ?_
            refine op1 1 rfl (sp_fieldAddrB rfl isBlk rfl ft26_1 vt3 (by decide)) rfl ⟨_, rfl, rfl⟩ rfl rfl ?_
            refine op1 1 rfl (sp_loadB rfl isBlk rfl vt3 rfl) rfl ⟨_, rfl, rfl⟩ rfl rfl ?_
            obtain ⟨h11, h⟩ := chk_inv h
            refine op0 (sp_rem rfl rfl rfl h11) rfl ⟨_, rfl, rfl⟩ rfl rfl ?_
            refine op0 (sp_neq rfl rfl rfl) rfl ⟨_, rfl, rfl⟩ rfl rfl ?_
            refine op0 (sp_pickF rfl rfl rfl) rfl trivial rfl rfl ?_
            refine TL.nil ?_
            refine TC.cond (b := ((Int.tmod r6.1 r5.2.1) != 0)) rfl (fun h12 => ?_) (fun h12 => ?_)
            · have h := cond_t h h12
              refine TC.seq ?_
              refine TC.region ?_
              refine op0 (sp_assign rfl rfl) rfl trivial rfl rfl ?_
              refine TL.nil ?_
              cases h
              exact retJ [] (.tmp rfl .nil) rfl trivial rfl rfl
            · have h := cond_f h h12
              refine subJ [] (ok_top_TopTrainDrop_j0 h) ?_ ?_ ?_
              · exact ⟨rfl, rfl, rfl, trivial⟩
              · exact ⟨mem_at 1 rfl, trivial⟩
              · rfl
end
end Go.Proofs.Ytgkoldcmbcbbpaa.Sy
