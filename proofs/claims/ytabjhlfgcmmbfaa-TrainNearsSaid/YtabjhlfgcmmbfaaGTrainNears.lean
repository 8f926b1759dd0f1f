/- What functions of the program compute, and that they do: printed by symgen.py. -/
import Derived.Test.YtabjhlfgcmmbfaaGLib
import Derived.Test.YtabjhlfgcmmbfaaGturretlaw01
import Derived.Test.YtabjhlfgcmmbfaaGTrain
import Derived.Test.YtabjhlfgcmmbfaaGTurretref01
set_option linter.unusedSimpArgs false
set_option linter.unusedVariables false
namespace Go.Proofs.Ytabjhlfgcmmbfaa.Sy
open Go.RowKit
noncomputable section

/- law01_TrainNears -/
def ev_law01_TrainNears_j2 (n : Nat) (r9 : (List Int) × (List Int) × Int) (s1 : List Int) (s2 : List Int) (want3 : Int) (want4 : Int) (most5 : Int) : Option Bool :=
  cond ((3 : Int) != 0) (cond (r9.2.2 == 3) ((ev_ref01_Equal n r9.1 r9.2.1 ([]) ([])).bind fun r14 => cond r14 ((ev_law01_known n).bind fun r15 => some r15) (some false)) (some false)) (cond (r9.2.2 == 0) ((ev_ref01_Near n s1 s2 want3 want4 most5).bind fun r16 => (ev_ref01_Equal n r9.1 r9.2.1 r16.1 r16.2).bind fun r17 => cond r17 ((ev_law01_known n).bind fun r18 => some r18) (some false)) (some false))
set_option maxRecDepth 100000 in
set_option maxHeartbeats 2000000 in
theorem ok_law01_TrainNears_j2 {n : Nat} {w0 : World} {R0 : Nat → Prop} {env0 : Env} {r : Bool} {most5 : Int} {r9 : (List Int) × (List Int) × Int} {want3 : Int} {want4 : Int} {s1 : List Int} {s2 : List Int} (h : ev_law01_TrainNears_j2 n r9 s1 s2 want3 want4 most5 = some r) : TC Try.prog ⟨w0, fun _ => False, R0⟩ 72 (bodyPost Try.prog Try.f6 (Post ⟨w0, fun _ => False, R0⟩ env0 (.val (.bool r)) [])) [.code (sub (bodyOf Try.f6) [1, 1, 1, 1, 1, 1, 1, 0, 1, 0]), .code (sub (bodyOf Try.f6) [1, 1, 1, 1, 1, 1, 1, 1])] ([(2, .val (.int .i64 most5)), (3, .ptr 2 0), (4, .ptr 3 0), (8, .ptr 9 0), (9, .val (.int .i64 r9.2.2))]) ([.blk 2 [.ref 0, .ref 1] 40, .blk 3 [.val (.int .i64 want3), .val (.int .i64 want4)] 26, .blk 9 [.ref 7, .ref 8] 57, .ro 0 1 (List.map en_int s1), .ro 1 1 (List.map en_int s2), .ro 7 1 (List.map en_int r9.1), .ro 8 1 (List.map en_int r9.2.1)]) := by
  rw [ev_law01_TrainNears_j2] at h
  refine TC.region ?_
  refine op0 (sp_assign rfl rfl) rfl trivial rfl rfl ?_
  refine TL.nil ?_
  refine TC.seq ?_
  refine TC.seq ?_
  refine TC.region ?_
  refine op0 (sp_move rfl rfl) rfl trivial rfl rfl ?_
  refine op0 (sp_neq rfl rfl rfl) rfl trivial rfl rfl ?_
  refine TL.nil ?_
  refine TC.cond (b := ((3 : Int) != 0)) rfl (fun h14 => ?_) (fun h14 => ?_)
  · have h := cond_t h h14
    refine TC.seq ?_
    refine TC.region ?_
    refine op0 (sp_move rfl rfl) rfl trivial rfl rfl ?_
    refine op0 (sp_move rfl rfl) rfl trivial rfl rfl ?_
    refine op0 (sp_eql rfl rfl rfl) rfl trivial rfl rfl ?_
    refine op0 (sp_move rfl rfl) rfl trivial rfl rfl ?_
    rcases cond_cases h with ⟨h15, h⟩ | ⟨h15, h⟩
    · refine (boolLit 51 rfl h15).2 ?_
      refine op1 2 rfl (sp_loadBA rfl isBlk rfl vt57 rfl rfl) rfl ⟨_, rfl, rfl⟩ rfl rfl ?_
      refine op0 (sp_build (qs := []) rfl bt57 rfl rfl rfl rfl) rfl ⟨_, rfl, rfl⟩ rfl rfl ?_
      obtain ⟨r14, h16, h⟩ := bind_inv h
      refine opN (need := [.ro 7 1 (List.map en_int r9.1), .ro 8 1 (List.map en_int r9.2.1)]) [5, 6] ⟨rfl, rfl, trivial⟩ (sp_call (avs := [.agg [.ref 7, .ref 8], .agg [.val (.slice none 0 0), .val (.slice none 0 0)]]) (need := [.ro 7 1 (List.map en_int r9.1), .ro 8 1 (List.map en_int r9.2.1)]) (v := .val (.bool r14)) (news := []) rfl rfl rfl Try.call31 (FC.nil (args := [.agg [.ref 7, .ref 8], .agg [.val (.slice none 0 0), .ref 11]]) 11 1 (FC.needJ (need := [.ro 11 1 (List.map en_int ([])), .ro 7 1 (List.map en_int r9.1), .ro 8 1 (List.map en_int r9.2.1)]) (need' := [.ro 7 1 (List.map en_int r9.1), .ro 8 1 (List.map en_int r9.2.1), .ro 11 1 (List.map en_int ([]))]) [1, 2, 0] ⟨rfl, rfl, rfl, trivial⟩ (FC.nil (args := [.agg [.ref 7, .ref 8], .agg [.ref 10, .ref 11]]) 10 1 (FC.needJ (need := [.ro 10 1 (List.map en_int ([])), .ro 7 1 (List.map en_int r9.1), .ro 8 1 (List.map en_int r9.2.1), .ro 11 1 (List.map en_int ([]))]) (need' := [.ro 7 1 (List.map en_int r9.1), .ro 8 1 (List.map en_int r9.2.1), .ro 10 1 (List.map en_int ([])), .ro 11 1 (List.map en_int ([]))]) [1, 2, 0, 3] ⟨rfl, rfl, rfl, rfl, trivial⟩ (atJ [(0, 7), (1, 8), (2, 10), (3, 11)] [] (fc_ref01_Equal h16) rfl rfl)) rfl rfl rfl)) rfl rfl rfl) (.inl (roAll rfl))) rfl ⟨_, rfl, rfl⟩ rfl rfl ?_
      refine op0 (sp_pickT rfl rfl rfl) rfl trivial rfl rfl ?_
      refine op0 (sp_move rfl rfl) rfl trivial rfl rfl ?_
      rcases cond_cases h with ⟨h17, h⟩ | ⟨h17, h⟩
      · refine (boolLit 56 rfl h17).2 ?_
        obtain ⟨r15, h18, h⟩ := bind_inv h
        refine op0 (sp_call (avs := []) (need := []) (v := .val (.bool r15)) (news := []) rfl rfl rfl Try.call12 (atJ [] [] (fc_law01_known h18) rfl rfl) (.inl (roAll rfl))) rfl ⟨_, rfl, rfl⟩ rfl rfl ?_
        refine op0 (sp_pickT rfl rfl rfl) rfl trivial rfl rfl ?_
        refine op0 (sp_assign rfl rfl) rfl trivial rfl rfl ?_
        refine TL.nil ?_
        cases h
        exact retJ [] (.tmp rfl .nil) rfl trivial rfl rfl
      · refine (boolLit 56 rfl h17).2 ?_
        refine opSkip rfl ⟨_, rfl, .inl rfl⟩ rfl ?_
        refine op0 (sp_pickF rfl rfl rfl) rfl trivial rfl rfl ?_
        refine op0 (sp_assign rfl rfl) rfl trivial rfl rfl ?_
        refine TL.nil ?_
        cases h
        exact retJ [] (.tmp rfl .nil) rfl trivial rfl rfl
    · refine (boolLit 51 rfl h15).2 ?_
      refine opSkip rfl ⟨_, rfl, .inl rfl⟩ rfl ?_
      refine opSkip rfl ⟨_, rfl, .inl rfl⟩ rfl ?_
      refine opSkip rfl ⟨_, rfl, .inl rfl⟩ rfl ?_
      refine op0 (sp_pickF rfl rfl rfl) rfl trivial rfl rfl ?_
      refine op0 (sp_move rfl rfl) rfl trivial rfl rfl ?_
      refine opSkip rfl ⟨_, rfl, .inl rfl⟩ rfl ?_
      refine op0 (sp_pickF rfl rfl rfl) rfl trivial rfl rfl ?_
      refine op0 (sp_assign rfl rfl) rfl trivial rfl rfl ?_
      refine TL.nil ?_
      cases h
      exact retJ [] (.tmp rfl .nil) rfl trivial rfl rfl
  · have h := cond_f h h14
    refine TC.skip ?_
    refine TC.seq ?_
    rcases cond_cases h with ⟨h19, h⟩ | ⟨h19, h⟩
    · obtain ⟨r16, h20, h⟩ := bind_inv h
      refine drawJ 8 [⟨.val (.int .i64 r9.2.2), [], [], []⟩, ⟨.val (.bool (r9.2.2 == 0)), [], [], []⟩, ⟨.val (.bool true), [], [], []⟩, ⟨.agg [.ref 7, .ref 8], [], [.blk 9 [.ref 7, .ref 8] 57], []⟩, ⟨.agg [.ref 0, .ref 1], [], [.blk 2 [.ref 0, .ref 1] 40], []⟩, ⟨.agg [.val (.int .i64 want3), .val (.int .i64 want4)], [], [.blk 3 [.val (.int .i64 want3), .val (.int .i64 want4)] 26], []⟩, ⟨.val (.int .i64 most5), [], [], []⟩, ⟨.agg [.ref 12, .ref 13], [.ro 12 1 (List.map en_int r16.1), .ro 13 1 (List.map en_int r16.2)], [.ro 0 1 (List.map en_int s1), .ro 1 1 (List.map en_int s2)], []⟩] rfl ?_ rfl ?_ rfl ?_ ?_
      · kernel_rfl
      · kernel_rfl
      · exact DAll.op' (sp_move rfl rfl) trivial rfl (From.ok (ps := []) trivial) (DAll.op' (sp_eql rfl rfl rfl) trivial rfl (From.ok (ps := []) trivial) (DAll.op' (sp_castB h19 (sp_move rfl rfl)) trivial rfl (From.ok (ps := []) trivial) (DAll.op' (sp_loadBA rfl isBlk rfl vt57 rfl rfl) ⟨_, rfl, rfl⟩ rfl (From.ok (ps := [(none, 2)]) ⟨⟨rfl, rfl⟩, trivial⟩) (DAll.op' (sp_loadBA rfl isBlk rfl vt40 rfl rfl) ⟨_, rfl, rfl⟩ rfl (From.ok (ps := [(none, 0)]) ⟨⟨rfl, rfl⟩, trivial⟩) (DAll.op' (sp_loadBA rfl isBlk rfl vt26 rfl rfl) ⟨_, rfl, rfl⟩ rfl (From.ok (ps := [(none, 1)]) ⟨⟨rfl, rfl⟩, trivial⟩) (DAll.op' (sp_move rfl rfl) ⟨_, rfl, rfl⟩ rfl (From.ok (ps := []) trivial) (DAll.op' (sp_call (avs := [.agg [.ref 0, .ref 1], .agg [.val (.int .i64 want3), .val (.int .i64 want4)], .val (.int .i64 most5)]) (need := [.ro 0 1 (List.map en_int s1), .ro 1 1 (List.map en_int s2)]) (v := .agg [.ref 12, .ref 13]) (news := [.ro 12 1 (List.map en_int r16.1), .ro 13 1 (List.map en_int r16.2)]) rfl rfl rfl Try.call33 (atJ [] [(0, 12), (1, 13)] (fc_ref01_Near h20) rfl rfl) (.inl (roAll rfl))) ⟨_, rfl, rfl⟩ rfl (From.ok (ps := [(none, 3), (none, 4)]) ⟨⟨rfl, rfl⟩, ⟨rfl, rfl⟩, trivial⟩) (.nil))))))))
      obtain ⟨r17, h21, h⟩ := bind_inv h
      refine opN (need := [.ro 7 1 (List.map en_int r9.1), .ro 8 1 (List.map en_int r9.2.1), .ro 12 1 (List.map en_int r16.1), .ro 13 1 (List.map en_int r16.2)]) [7, 8, 0, 1] ⟨rfl, rfl, rfl, rfl, trivial⟩ (sp_call (avs := [.agg [.ref 7, .ref 8], .agg [.ref 12, .ref 13]]) (need := [.ro 7 1 (List.map en_int r9.1), .ro 8 1 (List.map en_int r9.2.1), .ro 12 1 (List.map en_int r16.1), .ro 13 1 (List.map en_int r16.2)]) (v := .val (.bool r17)) (news := []) rfl rfl rfl Try.call31 (atJ [(0, 7), (1, 8), (2, 12), (3, 13)] [] (fc_ref01_Equal h21) rfl rfl) (.inl (roAll rfl))) rfl ⟨_, rfl, rfl⟩ rfl rfl ?_
      refine op0 (sp_pickT rfl rfl rfl) rfl trivial rfl rfl ?_
      refine op0 (sp_move rfl rfl) rfl trivial rfl rfl ?_
      rcases cond_cases h with ⟨h22, h⟩ | ⟨h22, h⟩
      · refine (boolLit 69 rfl h22).2 ?_
        obtain ⟨r18, h23, h⟩ := bind_inv h
        refine op0 (sp_call (avs := []) (need := []) (v := .val (.bool r18)) (news := []) rfl rfl rfl Try.call12 (atJ [] [] (fc_law01_known h23) rfl rfl) (.inl (roAll rfl))) rfl ⟨_, rfl, rfl⟩ rfl rfl ?_
        refine op0 (sp_pickT rfl rfl rfl) rfl trivial rfl rfl ?_
        refine op0 (sp_assign rfl rfl) rfl trivial rfl rfl ?_
        refine TL.nil ?_
        cases h
        exact retJ [] (.tmp rfl .nil) rfl trivial rfl rfl
      · refine (boolLit 69 rfl h22).2 ?_
        refine opSkip rfl ⟨_, rfl, .inl rfl⟩ rfl ?_
        refine op0 (sp_pickF rfl rfl rfl) rfl trivial rfl rfl ?_
        refine op0 (sp_assign rfl rfl) rfl trivial rfl rfl ?_
        refine TL.nil ?_
        cases h
        exact retJ [] (.tmp rfl .nil) rfl trivial rfl rfl
    · refine drawJ 8 [⟨.val (.int .i64 r9.2.2), [], [], []⟩, ⟨.val (.bool (r9.2.2 == 0)), [], [], []⟩, ⟨.val (.bool false), [], [], []⟩, ⟨.val (undef), [], [], []⟩, ⟨.val (undef), [], [], []⟩, ⟨.val (undef), [], [], []⟩, ⟨.val (undef), [], [], []⟩, ⟨.val (undef), [], [], []⟩] rfl ?_ rfl ?_ rfl ?_ ?_
      · kernel_rfl
      · kernel_rfl
      · exact DAll.op' (sp_move rfl rfl) trivial rfl (From.ok (ps := []) trivial) (DAll.op' (sp_eql rfl rfl rfl) trivial rfl (From.ok (ps := []) trivial) (DAll.op' (sp_castB h19 (sp_move rfl rfl)) trivial rfl (From.ok (ps := []) trivial) (.skip ⟨_, rfl, .inl rfl⟩ rfl rfl rfl (.skip ⟨_, rfl, .inl rfl⟩ rfl rfl rfl (.skip ⟨_, rfl, .inl rfl⟩ rfl rfl rfl (.skip ⟨_, rfl, .inl rfl⟩ rfl rfl rfl (.skip ⟨_, rfl, .inl rfl⟩ rfl rfl rfl (.nil))))))))
      refine opSkip rfl ⟨_, rfl, .inl rfl⟩ rfl ?_
      refine op0 (sp_pickF rfl rfl rfl) rfl trivial rfl rfl ?_
      refine op0 (sp_move rfl rfl) rfl trivial rfl rfl ?_
      refine opSkip rfl ⟨_, rfl, .inl rfl⟩ rfl ?_
      refine op0 (sp_pickF rfl rfl rfl) rfl trivial rfl rfl ?_
      refine op0 (sp_assign rfl rfl) rfl trivial rfl rfl ?_
      refine TL.nil ?_
      cases h
      exact retJ [] (.tmp rfl .nil) rfl trivial rfl rfl
def ev_law01_TrainNears_j4 (n : Nat) (r9 : (List Int) × (List Int) × Int) (s1 : List Int) (s2 : List Int) (want3 : Int) (want4 : Int) (most5 : Int) (i19 : Int) : Option Bool :=
  cond (i19 != 0) (cond (r9.2.2 == i19) ((ev_ref01_Equal n r9.1 r9.2.1 ([]) ([])).bind fun r20 => cond r20 ((ev_law01_known n).bind fun r21 => some r21) (some false)) (some false)) (cond (r9.2.2 == 0) ((ev_ref01_Near n s1 s2 want3 want4 most5).bind fun r22 => (ev_ref01_Equal n r9.1 r9.2.1 r22.1 r22.2).bind fun r23 => cond r23 ((ev_law01_known n).bind fun r24 => some r24) (some false)) (some false))
set_option maxRecDepth 100000 in
set_option maxHeartbeats 2000000 in
theorem ok_law01_TrainNears_j4 {n : Nat} {w0 : World} {R0 : Nat → Prop} {env0 : Env} {r : Bool} {most5 : Int} {r9 : (List Int) × (List Int) × Int} {want3 : Int} {want4 : Int} {s1 : List Int} {s2 : List Int} {i19 : Int} (h : ev_law01_TrainNears_j4 n r9 s1 s2 want3 want4 most5 i19 = some r) : TC Try.prog ⟨w0, fun _ => False, R0⟩ 72 (bodyPost Try.prog Try.f6 (Post ⟨w0, fun _ => False, R0⟩ env0 (.val (.bool r)) [])) [.code (sub (bodyOf Try.f6) [1, 1, 1, 1, 1, 1, 1, 1, 0, 0]), .code (sub (bodyOf Try.f6) [1, 1, 1, 1, 1, 1, 1, 1, 0, 1]), .code (sub (bodyOf Try.f6) [1, 1, 1, 1, 1, 1, 1, 1, 1])] ([(2, .val (.int .i64 most5)), (3, .ptr 2 0), (4, .ptr 3 0), (8, .ptr 9 0), (9, .val (.int .i64 r9.2.2)), (10, .val (.int .i64 i19))]) ([.blk 2 [.ref 0, .ref 1] 40, .blk 3 [.val (.int .i64 want3), .val (.int .i64 want4)] 26, .blk 9 [.ref 7, .ref 8] 57, .ro 0 1 (List.map en_int s1), .ro 1 1 (List.map en_int s2), .ro 7 1 (List.map en_int r9.1), .ro 8 1 (List.map en_int r9.2.1)]) := by
  rw [ev_law01_TrainNears_j4] at h
  refine TC.region ?_
  refine op0 (sp_move rfl rfl) rfl trivial rfl rfl ?_
  refine op0 (sp_neq rfl rfl rfl) rfl trivial rfl rfl ?_
  refine TL.nil ?_
  refine TC.cond (b := (i19 != 0)) rfl (fun h25 => ?_) (fun h25 => ?_)
  · have h := cond_t h h25
    refine TC.seq ?_
    refine TC.region ?_
    refine op0 (sp_move rfl rfl) rfl trivial rfl rfl ?_
    refine op0 (sp_move rfl rfl) rfl trivial rfl rfl ?_
    refine op0 (sp_eql rfl rfl rfl) rfl trivial rfl rfl ?_
    refine op0 (sp_move rfl rfl) rfl trivial rfl rfl ?_
    rcases cond_cases h with ⟨h26, h⟩ | ⟨h26, h⟩
    · refine (boolLit 51 rfl h26).2 ?_
      refine op1 2 rfl (sp_loadBA rfl isBlk rfl vt57 rfl rfl) rfl ⟨_, rfl, rfl⟩ rfl rfl ?_
      refine op0 (sp_build (qs := []) rfl bt57 rfl rfl rfl rfl) rfl ⟨_, rfl, rfl⟩ rfl rfl ?_
      obtain ⟨r20, h27, h⟩ := bind_inv h
      refine opN (need := [.ro 7 1 (List.map en_int r9.1), .ro 8 1 (List.map en_int r9.2.1)]) [5, 6] ⟨rfl, rfl, trivial⟩ (sp_call (avs := [.agg [.ref 7, .ref 8], .agg [.val (.slice none 0 0), .val (.slice none 0 0)]]) (need := [.ro 7 1 (List.map en_int r9.1), .ro 8 1 (List.map en_int r9.2.1)]) (v := .val (.bool r20)) (news := []) rfl rfl rfl Try.call31 (FC.nil (args := [.agg [.ref 7, .ref 8], .agg [.val (.slice none 0 0), .ref 15]]) 15 1 (FC.needJ (need := [.ro 15 1 (List.map en_int ([])), .ro 7 1 (List.map en_int r9.1), .ro 8 1 (List.map en_int r9.2.1)]) (need' := [.ro 7 1 (List.map en_int r9.1), .ro 8 1 (List.map en_int r9.2.1), .ro 15 1 (List.map en_int ([]))]) [1, 2, 0] ⟨rfl, rfl, rfl, trivial⟩ (FC.nil (args := [.agg [.ref 7, .ref 8], .agg [.ref 14, .ref 15]]) 14 1 (FC.needJ (need := [.ro 14 1 (List.map en_int ([])), .ro 7 1 (List.map en_int r9.1), .ro 8 1 (List.map en_int r9.2.1), .ro 15 1 (List.map en_int ([]))]) (need' := [.ro 7 1 (List.map en_int r9.1), .ro 8 1 (List.map en_int r9.2.1), .ro 14 1 (List.map en_int ([])), .ro 15 1 (List.map en_int ([]))]) [1, 2, 0, 3] ⟨rfl, rfl, rfl, rfl, trivial⟩ (atJ [(0, 7), (1, 8), (2, 14), (3, 15)] [] (fc_ref01_Equal h27) rfl rfl)) rfl rfl rfl)) rfl rfl rfl) (.inl (roAll rfl))) rfl ⟨_, rfl, rfl⟩ rfl rfl ?_
      refine op0 (sp_pickT rfl rfl rfl) rfl trivial rfl rfl ?_
      refine op0 (sp_move rfl rfl) rfl trivial rfl rfl ?_
      rcases cond_cases h with ⟨h28, h⟩ | ⟨h28, h⟩
      · refine (boolLit 56 rfl h28).2 ?_
        obtain ⟨r21, h29, h⟩ := bind_inv h
        refine op0 (sp_call (avs := []) (need := []) (v := .val (.bool r21)) (news := []) rfl rfl rfl Try.call12 (atJ [] [] (fc_law01_known h29) rfl rfl) (.inl (roAll rfl))) rfl ⟨_, rfl, rfl⟩ rfl rfl ?_
        refine op0 (sp_pickT rfl rfl rfl) rfl trivial rfl rfl ?_
        refine op0 (sp_assign rfl rfl) rfl trivial rfl rfl ?_
        refine TL.nil ?_
        cases h
        exact retJ [] (.tmp rfl .nil) rfl trivial rfl rfl
      · refine (boolLit 56 rfl h28).2 ?_
        refine opSkip rfl ⟨_, rfl, .inl rfl⟩ rfl ?_
        refine op0 (sp_pickF rfl rfl rfl) rfl trivial rfl rfl ?_
        refine op0 (sp_assign rfl rfl) rfl trivial rfl rfl ?_
        refine TL.nil ?_
        cases h
        exact retJ [] (.tmp rfl .nil) rfl trivial rfl rfl
    · refine (boolLit 51 rfl h26).2 ?_
      refine opSkip rfl ⟨_, rfl, .inl rfl⟩ rfl ?_
      refine opSkip rfl ⟨_, rfl, .inl rfl⟩ rfl ?_
      refine opSkip rfl ⟨_, rfl, .inl rfl⟩ rfl ?_
      refine op0 (sp_pickF rfl rfl rfl) rfl trivial rfl rfl ?_
      refine op0 (sp_move rfl rfl) rfl trivial rfl rfl ?_
      refine opSkip rfl ⟨_, rfl, .inl rfl⟩ rfl ?_
      refine op0 (sp_pickF rfl rfl rfl) rfl trivial rfl rfl ?_
      refine op0 (sp_assign rfl rfl) rfl trivial rfl rfl ?_
      refine TL.nil ?_
      cases h
      exact retJ [] (.tmp rfl .nil) rfl trivial rfl rfl
  · have h := cond_f h h25
    refine TC.skip ?_
    refine TC.seq ?_
    rcases cond_cases h with ⟨h30, h⟩ | ⟨h30, h⟩
    · obtain ⟨r22, h31, h⟩ := bind_inv h
      refine drawJ 8 [⟨.val (.int .i64 r9.2.2), [], [], []⟩, ⟨.val (.bool (r9.2.2 == 0)), [], [], []⟩, ⟨.val (.bool true), [], [], []⟩, ⟨.agg [.ref 7, .ref 8], [], [.blk 9 [.ref 7, .ref 8] 57], []⟩, ⟨.agg [.ref 0, .ref 1], [], [.blk 2 [.ref 0, .ref 1] 40], []⟩, ⟨.agg [.val (.int .i64 want3), .val (.int .i64 want4)], [], [.blk 3 [.val (.int .i64 want3), .val (.int .i64 want4)] 26], []⟩, ⟨.val (.int .i64 most5), [], [], []⟩, ⟨.agg [.ref 16, .ref 17], [.ro 16 1 (List.map en_int r22.1), .ro 17 1 (List.map en_int r22.2)], [.ro 0 1 (List.map en_int s1), .ro 1 1 (List.map en_int s2)], []⟩] rfl ?_ rfl ?_ rfl ?_ ?_
      · kernel_rfl
      · kernel_rfl
      · exact DAll.op' (sp_move rfl rfl) trivial rfl (From.ok (ps := []) trivial) (DAll.op' (sp_eql rfl rfl rfl) trivial rfl (From.ok (ps := []) trivial) (DAll.op' (sp_castB h30 (sp_move rfl rfl)) trivial rfl (From.ok (ps := []) trivial) (DAll.op' (sp_loadBA rfl isBlk rfl vt57 rfl rfl) ⟨_, rfl, rfl⟩ rfl (From.ok (ps := [(none, 2)]) ⟨⟨rfl, rfl⟩, trivial⟩) (DAll.op' (sp_loadBA rfl isBlk rfl vt40 rfl rfl) ⟨_, rfl, rfl⟩ rfl (From.ok (ps := [(none, 0)]) ⟨⟨rfl, rfl⟩, trivial⟩) (DAll.op' (sp_loadBA rfl isBlk rfl vt26 rfl rfl) ⟨_, rfl, rfl⟩ rfl (From.ok (ps := [(none, 1)]) ⟨⟨rfl, rfl⟩, trivial⟩) (DAll.op' (sp_move rfl rfl) ⟨_, rfl, rfl⟩ rfl (From.ok (ps := []) trivial) (DAll.op' (sp_call (avs := [.agg [.ref 0, .ref 1], .agg [.val (.int .i64 want3), .val (.int .i64 want4)], .val (.int .i64 most5)]) (need := [.ro 0 1 (List.map en_int s1), .ro 1 1 (List.map en_int s2)]) (v := .agg [.ref 16, .ref 17]) (news := [.ro 16 1 (List.map en_int r22.1), .ro 17 1 (List.map en_int r22.2)]) rfl rfl rfl Try.call33 (atJ [] [(0, 16), (1, 17)] (fc_ref01_Near h31) rfl rfl) (.inl (roAll rfl))) ⟨_, rfl, rfl⟩ rfl (From.ok (ps := [(none, 3), (none, 4)]) ⟨⟨rfl, rfl⟩, ⟨rfl, rfl⟩, trivial⟩) (.nil))))))))
      obtain ⟨r23, h32, h⟩ := bind_inv h
      refine opN (need := [.ro 7 1 (List.map en_int r9.1), .ro 8 1 (List.map en_int r9.2.1), .ro 16 1 (List.map en_int r22.1), .ro 17 1 (List.map en_int r22.2)]) [7, 8, 0, 1] ⟨rfl, rfl, rfl, rfl, trivial⟩ (sp_call (avs := [.agg [.ref 7, .ref 8], .agg [.ref 16, .ref 17]]) (need := [.ro 7 1 (List.map en_int r9.1), .ro 8 1 (List.map en_int r9.2.1), .ro 16 1 (List.map en_int r22.1), .ro 17 1 (List.map en_int r22.2)]) (v := .val (.bool r23)) (news := []) rfl rfl rfl Try.call31 (atJ [(0, 7), (1, 8), (2, 16), (3, 17)] [] (fc_ref01_Equal h32) rfl rfl) (.inl (roAll rfl))) rfl ⟨_, rfl, rfl⟩ rfl rfl ?_
      refine op0 (sp_pickT rfl rfl rfl) rfl trivial rfl rfl ?_
      refine op0 (sp_move rfl rfl) rfl trivial rfl rfl ?_
      rcases cond_cases h with ⟨h33, h⟩ | ⟨h33, h⟩
      · refine (boolLit 69 rfl h33).2 ?_
        obtain ⟨r24, h34, h⟩ := bind_inv h
        refine op0 (sp_call (avs := []) (need := []) (v := .val (.bool r24)) (news := []) rfl rfl rfl Try.call12 (atJ [] [] (fc_law01_known h34) rfl rfl) (.inl (roAll rfl))) rfl ⟨_, rfl, rfl⟩ rfl rfl ?_
        refine op0 (sp_pickT rfl rfl rfl) rfl trivial rfl rfl ?_
        refine op0 (sp_assign rfl rfl) rfl trivial rfl rfl ?_
        refine TL.nil ?_
        cases h
        exact retJ [] (.tmp rfl .nil) rfl trivial rfl rfl
      · refine (boolLit 69 rfl h33).2 ?_
        refine opSkip rfl ⟨_, rfl, .inl rfl⟩ rfl ?_
        refine op0 (sp_pickF rfl rfl rfl) rfl trivial rfl rfl ?_
        refine op0 (sp_assign rfl rfl) rfl trivial rfl rfl ?_
        refine TL.nil ?_
        cases h
        exact retJ [] (.tmp rfl .nil) rfl trivial rfl rfl
    · refine drawJ 8 [⟨.val (.int .i64 r9.2.2), [], [], []⟩, ⟨.val (.bool (r9.2.2 == 0)), [], [], []⟩, ⟨.val (.bool false), [], [], []⟩, ⟨.val (undef), [], [], []⟩, ⟨.val (undef), [], [], []⟩, ⟨.val (undef), [], [], []⟩, ⟨.val (undef), [], [], []⟩, ⟨.val (undef), [], [], []⟩] rfl ?_ rfl ?_ rfl ?_ ?_
      · kernel_rfl
      · kernel_rfl
      · exact DAll.op' (sp_move rfl rfl) trivial rfl (From.ok (ps := []) trivial) (DAll.op' (sp_eql rfl rfl rfl) trivial rfl (From.ok (ps := []) trivial) (DAll.op' (sp_castB h30 (sp_move rfl rfl)) trivial rfl (From.ok (ps := []) trivial) (.skip ⟨_, rfl, .inl rfl⟩ rfl rfl rfl (.skip ⟨_, rfl, .inl rfl⟩ rfl rfl rfl (.skip ⟨_, rfl, .inl rfl⟩ rfl rfl rfl (.skip ⟨_, rfl, .inl rfl⟩ rfl rfl rfl (.skip ⟨_, rfl, .inl rfl⟩ rfl rfl rfl (.nil))))))))
      refine opSkip rfl ⟨_, rfl, .inl rfl⟩ rfl ?_
      refine op0 (sp_pickF rfl rfl rfl) rfl trivial rfl rfl ?_
      refine op0 (sp_move rfl rfl) rfl trivial rfl rfl ?_
      refine opSkip rfl ⟨_, rfl, .inl rfl⟩ rfl ?_
      refine op0 (sp_pickF rfl rfl rfl) rfl trivial rfl rfl ?_
      refine op0 (sp_assign rfl rfl) rfl trivial rfl rfl ?_
      refine TL.nil ?_
      cases h
      exact retJ [] (.tmp rfl .nil) rfl trivial rfl rfl
def ev_law01_TrainNears_j3 (n : Nat) (r9 : (List Int) × (List Int) × Int) (s1 : List Int) (s2 : List Int) (want3 : Int) (want4 : Int) (most5 : Int) (i13 : Int) : Option Bool :=
  ev_law01_TrainNears_j4 n r9 s1 s2 want3 want4 most5 i13
set_option maxRecDepth 100000 in
set_option maxHeartbeats 2000000 in
theorem ok_law01_TrainNears_j3 {n : Nat} {w0 : World} {R0 : Nat → Prop} {env0 : Env} {r : Bool} {most5 : Int} {r9 : (List Int) × (List Int) × Int} {i13 : Int} {want3 : Int} {want4 : Int} {s1 : List Int} {s2 : List Int} (h : ev_law01_TrainNears_j3 n r9 s1 s2 want3 want4 most5 i13 = some r) : TC Try.prog ⟨w0, fun _ => False, R0⟩ 72 (bodyPost Try.prog Try.f6 (Post ⟨w0, fun _ => False, R0⟩ env0 (.val (.bool r)) [])) [.code (sub (bodyOf Try.f6) [1, 1, 1, 1, 1, 1, 1, 0, 1, 1]), .code (sub (bodyOf Try.f6) [1, 1, 1, 1, 1, 1, 1, 1])] ([(2, .val (.int .i64 most5)), (3, .ptr 2 0), (4, .ptr 3 0), (8, .ptr 9 0), (9, .val (.int .i64 r9.2.2)), (10, .val (.int .i64 i13))]) ([.blk 2 [.ref 0, .ref 1] 40, .blk 3 [.val (.int .i64 want3), .val (.int .i64 want4)] 26, .blk 9 [.ref 7, .ref 8] 57, .ro 0 1 (List.map en_int s1), .ro 1 1 (List.map en_int s2), .ro 7 1 (List.map en_int r9.1), .ro 8 1 (List.map en_int r9.2.1)]) := by
  rw [ev_law01_TrainNears_j3] at h
  refine TC.skip ?_
  refine TC.seq ?_
  refine TC.seq ?_
  refine subJ [] (ok_law01_TrainNears_j4 h) ?_ ?_ ?_
  · exact ⟨rfl, rfl, rfl, rfl, rfl, rfl, trivial⟩
  · exact ⟨mem_at 0 rfl, mem_at 1 rfl, mem_at 2 rfl, mem_at 3 rfl, mem_at 4 rfl, mem_at 5 rfl, mem_at 6 rfl, trivial⟩
  · rfl
def ev_law01_TrainNears_j1 (n : Nat) (most5 : Int) (r9 : (List Int) × (List Int) × Int) (s1 : List Int) (s2 : List Int) (want3 : Int) (want4 : Int) (i13 : Int) : Option Bool :=
  cond (i13 == 0) (cond (decide (most5 < 1)) (ev_law01_TrainNears_j2 n r9 s1 s2 want3 want4 most5) (cond (decide ((2 : Int) < most5)) (ev_law01_TrainNears_j2 n r9 s1 s2 want3 want4 most5) (ev_law01_TrainNears_j3 n r9 s1 s2 want3 want4 most5 i13))) (ev_law01_TrainNears_j3 n r9 s1 s2 want3 want4 most5 i13)
set_option maxRecDepth 100000 in
set_option maxHeartbeats 2000000 in
theorem ok_law01_TrainNears_j1 {n : Nat} {w0 : World} {R0 : Nat → Prop} {env0 : Env} {r : Bool} {most5 : Int} {r9 : (List Int) × (List Int) × Int} {want3 : Int} {want4 : Int} {s1 : List Int} {s2 : List Int} {i13 : Int} (h : ev_law01_TrainNears_j1 n most5 r9 s1 s2 want3 want4 i13 = some r) : TC Try.prog ⟨w0, fun _ => False, R0⟩ 72 (bodyPost Try.prog Try.f6 (Post ⟨w0, fun _ => False, R0⟩ env0 (.val (.bool r)) [])) [.code (sub (bodyOf Try.f6) [1, 1, 1, 1, 1, 1, 1, 0, 0]), .code (sub (bodyOf Try.f6) [1, 1, 1, 1, 1, 1, 1, 0, 1]), .code (sub (bodyOf Try.f6) [1, 1, 1, 1, 1, 1, 1, 1])] ([(2, .val (.int .i64 most5)), (3, .ptr 2 0), (4, .ptr 3 0), (8, .ptr 9 0), (9, .val (.int .i64 r9.2.2)), (10, .val (.int .i64 i13))]) ([.blk 2 [.ref 0, .ref 1] 40, .blk 3 [.val (.int .i64 want3), .val (.int .i64 want4)] 26, .blk 9 [.ref 7, .ref 8] 57, .ro 0 1 (List.map en_int s1), .ro 1 1 (List.map en_int s2), .ro 7 1 (List.map en_int r9.1), .ro 8 1 (List.map en_int r9.2.1)]) := by
  rw [ev_law01_TrainNears_j1] at h
  refine TC.region ?_
  refine op0 (sp_move rfl rfl) rfl trivial rfl rfl ?_
  refine op0 (sp_eql rfl rfl rfl) rfl trivial rfl rfl ?_
  refine op0 (sp_move rfl rfl) rfl trivial rfl rfl ?_
  rcases cond_cases h with ⟨h12, h⟩ | ⟨h12, h⟩
  · refine (boolLit 38 rfl h12).2 ?_
    refine op0 (sp_move rfl rfl) rfl ⟨_, rfl, rfl⟩ rfl rfl ?_
    refine op0 (sp_lss rfl rfl rfl) rfl ⟨_, rfl, rfl⟩ rfl rfl ?_
    refine op0 (sp_move rfl rfl) rfl ⟨_, rfl, rfl⟩ rfl rfl ?_
    rcases cond_cases h with ⟨h13, h⟩ | ⟨h13, h⟩
    · refine (boolLit 41 rfl h13).2 ?_
      refine opSkip rfl ⟨_, rfl, .inl rfl⟩ rfl ?_
      refine opSkip rfl ⟨_, rfl, .inl rfl⟩ rfl ?_
      refine op0 (sp_pickT rfl rfl rfl) rfl ⟨_, rfl, rfl⟩ rfl rfl ?_
      refine op0 (sp_pickT rfl rfl rfl) rfl trivial rfl rfl ?_
      refine TL.nil ?_
      refine TC.condT rfl ?_
      refine subJ [] (ok_law01_TrainNears_j2 h) ?_ ?_ ?_
      · exact ⟨rfl, rfl, rfl, rfl, rfl, trivial⟩
      · exact ⟨mem_at 0 rfl, mem_at 1 rfl, mem_at 2 rfl, mem_at 3 rfl, mem_at 4 rfl, mem_at 5 rfl, mem_at 6 rfl, trivial⟩
      · rfl
    · refine (boolLit 41 rfl h13).2 ?_
      refine op0 (sp_move rfl rfl) rfl ⟨_, rfl, rfl⟩ rfl rfl ?_
      refine op0 (sp_gtr rfl rfl rfl) rfl ⟨_, rfl, rfl⟩ rfl rfl ?_
      refine op0 (sp_pickF rfl rfl rfl) rfl ⟨_, rfl, rfl⟩ rfl rfl ?_
      refine op0 (sp_pickT rfl rfl rfl) rfl trivial rfl rfl ?_
      refine TL.nil ?_
      refine TC.cond (b := (decide ((2 : Int) < most5))) rfl (fun h24 => ?_) (fun h24 => ?_)
      · have h := cond_t h h24
        refine subJ [] (ok_law01_TrainNears_j2 h) ?_ ?_ ?_
        · exact ⟨rfl, rfl, rfl, rfl, rfl, trivial⟩
        · exact ⟨mem_at 0 rfl, mem_at 1 rfl, mem_at 2 rfl, mem_at 3 rfl, mem_at 4 rfl, mem_at 5 rfl, mem_at 6 rfl, trivial⟩
        · rfl
      · have h := cond_f h h24
        refine subJ [] (ok_law01_TrainNears_j3 h) ?_ ?_ ?_
        · exact ⟨rfl, rfl, rfl, rfl, rfl, rfl, trivial⟩
        · exact ⟨mem_at 0 rfl, mem_at 1 rfl, mem_at 2 rfl, mem_at 3 rfl, mem_at 4 rfl, mem_at 5 rfl, mem_at 6 rfl, trivial⟩
        · rfl
  · refine (boolLit 38 rfl h12).2 ?_
    refine opSkip rfl ⟨_, rfl, .inl rfl⟩ rfl ?_
    refine opSkip rfl ⟨_, rfl, .inl rfl⟩ rfl ?_
    refine opSkip rfl ⟨_, rfl, .inl rfl⟩ rfl ?_
    refine opSkip rfl ⟨_, rfl, .inr rfl⟩ rfl ?_
    refine opSkip rfl ⟨_, rfl, .inr rfl⟩ rfl ?_
    refine opSkip rfl ⟨_, rfl, .inl rfl⟩ rfl ?_
    refine op0 (sp_pickF rfl rfl rfl) rfl trivial rfl rfl ?_
    refine TL.nil ?_
    refine TC.condF rfl ?_
    refine subJ [] (ok_law01_TrainNears_j3 h) ?_ ?_ ?_
    · exact ⟨rfl, rfl, rfl, rfl, rfl, rfl, trivial⟩
    · exact ⟨mem_at 0 rfl, mem_at 1 rfl, mem_at 2 rfl, mem_at 3 rfl, mem_at 4 rfl, mem_at 5 rfl, mem_at 6 rfl, trivial⟩
    · rfl
def ev_law01_TrainNears_j0 (n : Nat) (most5 : Int) (r9 : (List Int) × (List Int) × Int) (s1 : List Int) (s2 : List Int) (want3 : Int) (want4 : Int) : Option Bool :=
  ev_law01_TrainNears_j1 n most5 r9 s1 s2 want3 want4 2
set_option maxRecDepth 100000 in
set_option maxHeartbeats 2000000 in
theorem ok_law01_TrainNears_j0 {n : Nat} {w0 : World} {R0 : Nat → Prop} {env0 : Env} {r : Bool} {most5 : Int} {r9 : (List Int) × (List Int) × Int} {want3 : Int} {want4 : Int} {s1 : List Int} {s2 : List Int} (h : ev_law01_TrainNears_j0 n most5 r9 s1 s2 want3 want4 = some r) : TC Try.prog ⟨w0, fun _ => False, R0⟩ 72 (bodyPost Try.prog Try.f6 (Post ⟨w0, fun _ => False, R0⟩ env0 (.val (.bool r)) [])) [.code (sub (bodyOf Try.f6) [1, 1, 1, 1, 1, 1, 0, 1, 0]), .code (sub (bodyOf Try.f6) [1, 1, 1, 1, 1, 1, 1])] ([(2, .val (.int .i64 most5)), (3, .ptr 2 0), (4, .ptr 3 0), (8, .ptr 9 0), (9, .val (.int .i64 r9.2.2))]) ([.blk 2 [.ref 0, .ref 1] 40, .blk 3 [.val (.int .i64 want3), .val (.int .i64 want4)] 26, .blk 9 [.ref 7, .ref 8] 57, .ro 0 1 (List.map en_int s1), .ro 1 1 (List.map en_int s2), .ro 7 1 (List.map en_int r9.1), .ro 8 1 (List.map en_int r9.2.1)]) := by
  rw [ev_law01_TrainNears_j0] at h
  refine TC.region ?_
  refine op0 (sp_assign rfl rfl) rfl trivial rfl rfl ?_
  refine TL.nil ?_
  refine TC.seq ?_
  refine TC.seq ?_
  refine subJ [] (ok_law01_TrainNears_j1 h) ?_ ?_ ?_
  · exact ⟨rfl, rfl, rfl, rfl, rfl, rfl, trivial⟩
  · exact ⟨mem_at 0 rfl, mem_at 1 rfl, mem_at 2 rfl, mem_at 3 rfl, mem_at 4 rfl, mem_at 5 rfl, mem_at 6 rfl, trivial⟩
  · rfl
def ev_law01_TrainNears_j5 (n : Nat) (most5 : Int) (r9 : (List Int) × (List Int) × Int) (s1 : List Int) (s2 : List Int) (want3 : Int) (want4 : Int) (r11 : Int) : Option Bool :=
  ev_law01_TrainNears_j1 n most5 r9 s1 s2 want3 want4 r11
set_option maxRecDepth 100000 in
set_option maxHeartbeats 2000000 in
theorem ok_law01_TrainNears_j5 {n : Nat} {w0 : World} {R0 : Nat → Prop} {env0 : Env} {r : Bool} {most5 : Int} {r9 : (List Int) × (List Int) × Int} {r11 : Int} {want3 : Int} {want4 : Int} {s1 : List Int} {s2 : List Int} (h : ev_law01_TrainNears_j5 n most5 r9 s1 s2 want3 want4 r11 = some r) : TC Try.prog ⟨w0, fun _ => False, R0⟩ 72 (bodyPost Try.prog Try.f6 (Post ⟨w0, fun _ => False, R0⟩ env0 (.val (.bool r)) [])) [.code (sub (bodyOf Try.f6) [1, 1, 1, 1, 1, 1, 0, 1, 1]), .code (sub (bodyOf Try.f6) [1, 1, 1, 1, 1, 1, 1])] ([(2, .val (.int .i64 most5)), (3, .ptr 2 0), (4, .ptr 3 0), (8, .ptr 9 0), (9, .val (.int .i64 r9.2.2)), (10, .val (.int .i64 r11))]) ([.blk 2 [.ref 0, .ref 1] 40, .blk 3 [.val (.int .i64 want3), .val (.int .i64 want4)] 26, .blk 9 [.ref 7, .ref 8] 57, .ro 0 1 (List.map en_int s1), .ro 1 1 (List.map en_int s2), .ro 7 1 (List.map en_int r9.1), .ro 8 1 (List.map en_int r9.2.1)]) := by
  rw [ev_law01_TrainNears_j5] at h
  refine TC.skip ?_
  refine TC.seq ?_
  refine TC.seq ?_
  refine subJ [] (ok_law01_TrainNears_j1 h) ?_ ?_ ?_
  · exact ⟨rfl, rfl, rfl, rfl, rfl, rfl, trivial⟩
  · exact ⟨mem_at 0 rfl, mem_at 1 rfl, mem_at 2 rfl, mem_at 3 rfl, mem_at 4 rfl, mem_at 5 rfl, mem_at 6 rfl, trivial⟩
  · rfl
def ev_law01_TrainNears (n : Nat) (s1 : List Int) (s2 : List Int) (want3 : Int) (want4 : Int) (most5 : Int) : Option Bool :=
  (ev_law01_large n s1 s2).bind fun r6 => cond r6 ((ev_law01_known n).bind fun r7 => some r7) ((ev_law01_copied n s1 s2).bind fun r8 => (ev_train_Near n r8.1 r8.2 want3 want4 most5).bind fun r9 => (ev_law01_same n r8.1 r8.2 s1 s2).bind fun r10 => cond (!r10) (some false) ((ev_ref01_Check n s1 s2).bind fun r11 => cond (r11 == 0) ((ev_ref01_Wanted n want3 want4).bind fun r12 => cond (!r12) (ev_law01_TrainNears_j0 n most5 r9 s1 s2 want3 want4) (ev_law01_TrainNears_j5 n most5 r9 s1 s2 want3 want4 r11)) (ev_law01_TrainNears_j5 n most5 r9 s1 s2 want3 want4 r11)))
set_option maxRecDepth 100000 in
set_option maxHeartbeats 2000000 in
theorem fc_law01_TrainNears {n : Nat} {s1 : List Int} {s2 : List Int} {want3 : Int} {want4 : Int} {most5 : Int} {r : Bool} (h : ev_law01_TrainNears n s1 s2 want3 want4 most5 = some r) : FC Try.prog 6 [.agg [.ref 0, .ref 1], .agg [.val (.int .i64 want3), .val (.int .i64 want4)], .val (.int .i64 most5)] [.ro 0 1 (List.map en_int s1), .ro 1 1 (List.map en_int s2)] (.val (.bool r)) [] := by
  refine introJ (nz := 72) Try.func6 rfl rfl rfl (fun w0 R0 env0 => ?_)
  rw [ev_law01_TrainNears] at h
  refine TC.seq ?_
  refine TC.region ?_
  refine op0 (sp_box 2 rfl rfl rfl rfl rfl) rfl trivial rfl rfl ?_
  refine op0 (sp_box 3 rfl rfl rfl rfl rfl) rfl trivial rfl rfl ?_
  refine op0 (sp_assign rfl rfl) rfl trivial rfl rfl ?_
  refine TL.nil ?_
  refine TC.seq ?_
  refine TC.seq ?_
  refine TC.region ?_
  refine op1 1 rfl (sp_loadBA rfl isBlk rfl vt40 rfl rfl) rfl trivial rfl rfl ?_
  obtain ⟨r6, h1, h⟩ := bind_inv h
  refine opN (need := [.ro 0 1 (List.map en_int s1), .ro 1 1 (List.map en_int s2)]) [2, 3] ⟨rfl, rfl, trivial⟩ (sp_call (avs := [.agg [.ref 0, .ref 1]]) (need := [.ro 0 1 (List.map en_int s1), .ro 1 1 (List.map en_int s2)]) (v := .val (.bool r6)) (news := []) rfl rfl rfl Try.call28 (atJ [] [] (fc_law01_large h1) rfl rfl) (.inl (roAll rfl))) rfl trivial rfl rfl ?_
  refine TL.nil ?_
  refine TC.cond (b := r6) rfl (fun h2 => ?_) (fun h2 => ?_)
  · have h := cond_t h h2
    refine TC.seq ?_
    refine TC.region ?_
    obtain ⟨r7, h3, h⟩ := bind_inv h
    refine op0 (sp_call (avs := []) (need := []) (v := .val (.bool r7)) (news := []) rfl rfl rfl Try.call12 (atJ [] [] (fc_law01_known h3) rfl rfl) (.inl (roAll rfl))) rfl trivial rfl rfl ?_
    refine op0 (sp_assign rfl rfl) rfl trivial rfl rfl ?_
    refine TL.nil ?_
    cases h
    exact retJ [] (.tmp rfl .nil) rfl trivial rfl rfl
  · have h := cond_f h h2
    refine TC.skip ?_
    refine TC.seq ?_
    refine TC.region ?_
    refine op1 1 rfl (sp_loadBA rfl isBlk rfl vt40 rfl rfl) rfl trivial rfl rfl ?_
    obtain ⟨r8, h4, h⟩ := bind_inv h
    refine opN (need := [.ro 0 1 (List.map en_int s1), .ro 1 1 (List.map en_int s2)]) [2, 3] ⟨rfl, rfl, trivial⟩ (sp_call (avs := [.agg [.ref 0, .ref 1]]) (need := [.ro 0 1 (List.map en_int s1), .ro 1 1 (List.map en_int s2)]) (v := .agg [.ref 4, .ref 5]) (news := [.row 4 3 1 (List.map en_int r8.1), .row 5 3 1 (List.map en_int r8.2)]) rfl rfl rfl Try.call19 (atJ [] [(0, 4), (1, 5)] (fc_law01_copied h4) rfl rfl) (.inl (roAll rfl))) rfl trivial rfl rfl ?_
    refine op0 (sp_alloc 6 rfl Try.zeroValue40 rfl) rfl trivial rfl rfl ?_
    refine stoB 0 (cells' := [.ref 4, .ref 5]) rfl rfl trivial rfl rfl rfl rfl vt40 rfl rfl rfl ?_
    refine TL.nil ?_
    refine TC.seq ?_
    refine TC.region ?_
    refine op1 0 rfl (sp_loadBA rfl isBlk rfl vt40 rfl rfl) rfl trivial rfl rfl ?_
    refine op1 3 rfl (sp_loadBA rfl isBlk rfl vt26 rfl rfl) rfl trivial rfl rfl ?_
    refine op0 (sp_move rfl rfl) rfl trivial rfl rfl ?_
    refine TL.freeze 1 rfl ?_
    refine TL.freeze 2 rfl ?_
    obtain ⟨r9, h5, h⟩ := bind_inv h
    refine opN (need := [.ro 4 1 (List.map en_int r8.1), .ro 5 1 (List.map en_int r8.2)]) [1, 2] ⟨rfl, rfl, trivial⟩ (sp_call (avs := [.agg [.ref 4, .ref 5], .agg [.val (.int .i64 want3), .val (.int .i64 want4)], .val (.int .i64 most5)]) (need := [.ro 4 1 (List.map en_int r8.1), .ro 5 1 (List.map en_int r8.2)]) (v := .tup [.agg [.ref 7, .ref 8], .val (.int .i64 r9.2.2)]) (news := [.ro 7 1 (List.map en_int r9.1), .ro 8 1 (List.map en_int r9.2.1)]) rfl rfl rfl Try.call32 (atJ [(0, 4), (1, 5)] [(500, 7), (501, 8)] (fc_train_Near h5) rfl rfl) (.inl (roAll rfl))) rfl trivial rfl rfl ?_
    refine op0 (sp_move rfl rfl) rfl trivial rfl rfl ?_
    refine op0 (sp_extract rfl rfl rfl) rfl trivial rfl rfl ?_
    refine op0 (sp_extract rfl rfl rfl) rfl trivial rfl rfl ?_
    refine op0 (sp_alloc 9 rfl Try.zeroValue57 rfl) rfl trivial rfl rfl ?_
    refine stoB 0 (cells' := [.ref 7, .ref 8]) rfl rfl trivial rfl rfl rfl rfl vt57 rfl rfl rfl ?_
    refine op0 (sp_assign rfl rfl) rfl trivial rfl rfl ?_
    refine TL.nil ?_
    refine TC.seq ?_
    refine TC.seq ?_
    refine TC.region ?_
    refine op1 3 rfl (sp_loadBA rfl isBlk rfl vt40 rfl rfl) rfl trivial rfl rfl ?_
    refine op1 7 rfl (sp_loadBA rfl isBlk rfl vt40 rfl rfl) rfl trivial rfl rfl ?_
    obtain ⟨r10, h6, h⟩ := bind_inv h
    refine opN (need := [.ro 4 1 (List.map en_int r8.1), .ro 5 1 (List.map en_int r8.2), .ro 0 1 (List.map en_int s1), .ro 1 1 (List.map en_int s2)]) [4, 5, 8, 9] ⟨rfl, rfl, rfl, rfl, trivial⟩ (sp_call (avs := [.agg [.ref 4, .ref 5], .agg [.ref 0, .ref 1]]) (need := [.ro 4 1 (List.map en_int r8.1), .ro 5 1 (List.map en_int r8.2), .ro 0 1 (List.map en_int s1), .ro 1 1 (List.map en_int s2)]) (v := .val (.bool r10)) (news := []) rfl rfl rfl Try.call22 (atJ [(0, 4), (1, 5), (2, 0), (3, 1)] [] (fc_law01_same h6) rfl rfl) (.inl (roAll rfl))) rfl trivial rfl rfl ?_
    refine op0 (sp_not rfl rfl) rfl trivial rfl rfl ?_
    refine TL.nil ?_
    refine TC.cond (b := (!r10)) rfl (fun h7 => ?_) (fun h7 => ?_)
    · have h := cond_t h h7
      refine TC.seq ?_
      refine TC.region ?_
      refine op0 (sp_assign rfl rfl) rfl trivial rfl rfl ?_
      refine TL.nil ?_
      cases h
      exact retJ [] (.tmp rfl .nil) rfl trivial rfl rfl
    · have h := cond_f h h7
      refine TC.skip ?_
      refine TC.seq ?_
      refine TC.region ?_
      refine op1 7 rfl (sp_loadBA rfl isBlk rfl vt40 rfl rfl) rfl trivial rfl rfl ?_
      obtain ⟨r11, h8, h⟩ := bind_inv h
      refine opN (need := [.ro 0 1 (List.map en_int s1), .ro 1 1 (List.map en_int s2)]) [8, 9] ⟨rfl, rfl, trivial⟩ (sp_call (avs := [.agg [.ref 0, .ref 1]]) (need := [.ro 0 1 (List.map en_int s1), .ro 1 1 (List.map en_int s2)]) (v := .val (.int .i64 r11)) (news := []) rfl rfl rfl Try.call23 (atJ [] [] (fc_ref01_Check h8) rfl rfl) (.inl (roAll rfl))) rfl trivial rfl rfl ?_
      refine op0 (sp_assign rfl rfl) rfl trivial rfl rfl ?_
      refine TL.nil ?_
      refine TC.seq ?_
      refine TC.seq ?_
      refine TC.region ?_
      refine op0 (sp_move rfl rfl) rfl trivial rfl rfl ?_
      refine op0 (sp_eql rfl rfl rfl) rfl trivial rfl rfl ?_
      refine op0 (sp_move rfl rfl) rfl trivial rfl rfl ?_
      rcases cond_cases h with ⟨h9, h⟩ | ⟨h9, h⟩
      · refine (boolLit 31 rfl h9).2 ?_
        refine op1 6 rfl (sp_loadBA rfl isBlk rfl vt26 rfl rfl) rfl ⟨_, rfl, rfl⟩ rfl rfl ?_
        obtain ⟨r12, h10, h⟩ := bind_inv h
        refine op0 (sp_call (avs := [.agg [.val (.int .i64 want3), .val (.int .i64 want4)]]) (need := []) (v := .val (.bool r12)) (news := []) rfl rfl rfl Try.call24 (atJ [] [] (fc_ref01_Wanted h10) rfl rfl) (.inl (roAll rfl))) rfl ⟨_, rfl, rfl⟩ rfl rfl ?_
        refine op0 (sp_not rfl rfl) rfl ⟨_, rfl, rfl⟩ rfl rfl ?_
        refine op0 (sp_pickT rfl rfl rfl) rfl trivial rfl rfl ?_
        refine TL.nil ?_
        refine TC.cond (b := (!r12)) rfl (fun h11 => ?_) (fun h11 => ?_)
        · have h := cond_t h h11
          refine subJ [] (ok_law01_TrainNears_j0 h) ?_ ?_ ?_
          · exact ⟨rfl, rfl, rfl, rfl, rfl, trivial⟩
          · exact ⟨mem_at 7 rfl, mem_at 6 rfl, mem_at 0 rfl, mem_at 8 rfl, mem_at 9 rfl, mem_at 1 rfl, mem_at 2 rfl, trivial⟩
          · rfl
        · have h := cond_f h h11
          refine subJ [] (ok_law01_TrainNears_j5 h) ?_ ?_ ?_
          · exact ⟨rfl, rfl, rfl, rfl, rfl, rfl, trivial⟩
          · exact ⟨mem_at 7 rfl, mem_at 6 rfl, mem_at 0 rfl, mem_at 8 rfl, mem_at 9 rfl, mem_at 1 rfl, mem_at 2 rfl, trivial⟩
          · rfl
      · refine (boolLit 31 rfl h9).2 ?_
        refine opSkip rfl ⟨_, rfl, .inl rfl⟩ rfl ?_
        refine opSkip rfl ⟨_, rfl, .inl rfl⟩ rfl ?_
        refine opSkip rfl ⟨_, rfl, .inl rfl⟩ rfl ?_
        refine op0 (sp_pickF rfl rfl rfl) rfl trivial rfl rfl ?_
        refine TL.nil ?_
        refine TC.condF rfl ?_
        refine subJ [] (ok_law01_TrainNears_j5 h) ?_ ?_ ?_
        · exact ⟨rfl, rfl, rfl, rfl, rfl, rfl, trivial⟩
        · exact ⟨mem_at 7 rfl, mem_at 6 rfl, mem_at 0 rfl, mem_at 8 rfl, mem_at 9 rfl, mem_at 1 rfl, mem_at 2 rfl, trivial⟩
        · rfl
end
end Go.Proofs.Ytabjhlfgcmmbfaa.Sy
