/- What functions of the program compute, and that they do: printed by symgen.py. -/
import Derived.Test.YtabjhlfgcmmbfaaGLib
import Derived.Test.YtabjhlfgcmmbfaaGturretlaw01
import Derived.Test.YtabjhlfgcmmbfaaGTrain
import Derived.Test.YtabjhlfgcmmbfaaGTurretref01
set_option linter.unusedSimpArgs false
set_option linter.unusedVariables false
namespace Go.Proofs.Ytabjhlfgcmmbfaa.Sy
open Go.RowKit
noncomputable section

/- law01_TrainFinds -/
def ev_law01_TrainFinds_l3 (n : Nat) (r8 : (List ((List Int) × (List Int))) × Int) (r14 : (List ((List Int) × (List Int)))) : Nat → Int → Option Bool
  | 0, _ => none
  | m + 1, i17 => cond (decide (i17 < (r8.1.length : Int))) (idx r8.1 i17 fun x18 => idx r14 i17 fun x19 => (ev_ref01_Equal n x18.1 x18.2 x19.1 x19.2).bind fun r20 => cond (!r20) (some false) (chk (in64 (i17 + 1)) <| ev_law01_TrainFinds_l3 n r8 r14 m (i17 + 1))) ((ev_law01_known n).bind fun r21 => some r21)
set_option maxRecDepth 100000 in
set_option maxHeartbeats 2000000 in
theorem ok_law01_TrainFinds_l3 {n : Nat} {w0 : World} {R0 : Nat → Prop} {env0 : Env} {r : Bool} {r8 : (List ((List Int) × (List Int))) × Int} {r14 : (List ((List Int) × (List Int)))} : ∀ (m : Nat) (i17 : Int), ev_law01_TrainFinds_l3 n r8 r14 m i17 = some r → TC Try.prog ⟨w0, fun _ => False, R0⟩ 103 (bodyPost Try.prog Try.f5 (Post ⟨w0, fun _ => False, R0⟩ env0 (.val (.bool r)) [])) [.code (sub (bodyOf Try.f5) [1, 1, 1, 1, 1, 1, 1, 1, 1, 1, 1, 1, 0, 1, 0, 0, 0, 0]), .code (sub (bodyOf Try.f5) [1, 1, 1, 1, 1, 1, 1, 1, 1, 1, 1, 1, 0, 1, 0, 0, 0, 1]), .code (sub (bodyOf Try.f5) [1, 1, 1, 1, 1, 1, 1, 1, 1, 1, 1, 1, 0, 1, 0, 0, 1]), .inLoop (sub (bodyOf Try.f5) [1, 1, 1, 1, 1, 1, 1, 1, 1, 1, 1, 1, 0, 1, 0, 0]), .inBlock 0, .code (sub (bodyOf Try.f5) [1, 1, 1, 1, 1, 1, 1, 1, 1, 1, 1, 1, 1])] ([(6, .ref 7), (9, .ref 8), (10, .val (.int .i64 i17))]) ([.row 7 57 2 (List.map en_api_Train r8.1), .row 8 57 2 (List.map en_api_Train r14)]) := by
  intro m
  induction m with
  | zero => intro i17 h; exact none_no h
  | succ m ih =>
    intro i17 h
    rw [ev_law01_TrainFinds_l3] at h
    refine TC.region ?_
    refine op0 (sp_move rfl rfl) rfl trivial rfl rfl ?_
    refine op0 (sp_move rfl rfl) rfl trivial rfl rfl ?_
    refine op1 0 rfl (sp_lenM (N := r8.1.length) (len_map _ _) rfl rfl isOwn Try.underlying52) rfl trivial rfl rfl ?_
    refine op0 (sp_lss rfl rfl rfl) rfl trivial rfl rfl ?_
    refine TL.nil ?_
    refine TC.cond (b := (decide (i17 < (r8.1.length : Int)))) rfl (fun h27 => ?_) (fun h27 => ?_)
    · have h := cond_t h h27
      refine TC.skip ?_
      refine TC.seq ?_
      refine TC.block ?_
      refine TC.seq ?_
      obtain ⟨x18, h28, h29, h⟩ := idx_inv h
      obtain ⟨x19, h30, h31, h⟩ := idx_inv h
      refine drawJ 8 [⟨.ref 7, [], [], []⟩, ⟨.val (.int .i64 i17), [], [], []⟩, ⟨.cell 7 ((i17 : Int).toNat * 2), [], [.row 7 57 2 (List.map en_api_Train r8.1)], []⟩, ⟨.agg [.ref 9, .ref 10], [.ro 9 1 (List.map en_int x18.1), .ro 10 1 (List.map en_int x18.2)], [.row 7 57 2 (List.map en_api_Train r8.1)], []⟩, ⟨.ref 8, [], [], []⟩, ⟨.val (.int .i64 i17), [], [], []⟩, ⟨.cell 8 ((i17 : Int).toNat * 2), [], [.row 8 57 2 (List.map en_api_Train r14)], []⟩, ⟨.agg [.ref 11, .ref 12], [.ro 11 1 (List.map en_int x19.1), .ro 12 1 (List.map en_int x19.2)], [.row 8 57 2 (List.map en_api_Train r14)], []⟩] rfl ?_ rfl ?_ rfl ?_ ?_
      · kernel_rfl
      · kernel_rfl
      · exact DAll.op' (sp_move rfl rfl) trivial rfl (From.ok (ps := []) trivial) (DAll.op' (sp_move rfl rfl) trivial rfl (From.ok (ps := []) trivial) (DAll.op' (sp_indexS rfl rfl rfl isOwn sl52 h28 (map_get _ h29)) trivial rfl (From.ok (ps := [(none, 0)]) ⟨⟨rfl, rfl⟩, trivial⟩) (DAll.op' (sp_loadRA (i := (i17 : Int).toNat) (j := 0) (as_ := [.ref 9, .ref 10]) (ns := [.ro 9 1 (List.map en_int x18.1), .ro 10 1 (List.map en_int x18.2)]) rfl rfl isOwn vt57 rfl (map_get _ h29) rfl rfl (by decide) (.s (.s (.nil))) (nodup_of_B rfl)) trivial rfl (From.ok (ps := [(none, 0)]) ⟨⟨rfl, rfl⟩, trivial⟩) (DAll.op' (sp_move rfl rfl) trivial rfl (From.ok (ps := []) trivial) (DAll.op' (sp_move rfl rfl) trivial rfl (From.ok (ps := []) trivial) (DAll.op' (sp_indexS rfl rfl rfl isOwn sl52 h30 (map_get _ h31)) trivial rfl (From.ok (ps := [(none, 1)]) ⟨⟨rfl, rfl⟩, trivial⟩) (DAll.op' (sp_loadRA (i := (i17 : Int).toNat) (j := 0) (as_ := [.ref 11, .ref 12]) (ns := [.ro 11 1 (List.map en_int x19.1), .ro 12 1 (List.map en_int x19.2)]) rfl rfl isOwn vt57 rfl (map_get _ h31) rfl rfl (by decide) (.s (.s (.nil))) (nodup_of_B rfl)) trivial rfl (From.ok (ps := [(none, 1)]) ⟨⟨rfl, rfl⟩, trivial⟩) (.nil))))))))
      obtain ⟨r20, h32, h⟩ := bind_inv h
      refine opN (need := [.ro 9 1 (List.map en_int x18.1), .ro 10 1 (List.map en_int x18.2), .ro 11 1 (List.map en_int x19.1), .ro 12 1 (List.map en_int x19.2)]) [2, 3, 0, 1] ⟨rfl, rfl, rfl, rfl, trivial⟩ (sp_call (avs := [.agg [.ref 9, .ref 10], .agg [.ref 11, .ref 12]]) (need := [.ro 9 1 (List.map en_int x18.1), .ro 10 1 (List.map en_int x18.2), .ro 11 1 (List.map en_int x19.1), .ro 12 1 (List.map en_int x19.2)]) (v := .val (.bool r20)) (news := []) rfl rfl rfl Try.call31 (atJ [(0, 9), (1, 10), (2, 11), (3, 12)] [] (fc_ref01_Equal h32) rfl rfl) (.inl (roAll rfl))) rfl trivial rfl rfl ?_
      refine op0 (sp_not rfl rfl) rfl trivial rfl rfl ?_
      refine TL.nil ?_
      refine TC.cond (b := (!r20)) rfl (fun h33 => ?_) (fun h33 => ?_)
      · have h := cond_t h h33
        refine TC.seq ?_
        refine TC.region ?_
        refine op0 (sp_assign rfl rfl) rfl trivial rfl rfl ?_
        refine TL.nil ?_
        cases h
        exact retJ [] (.tmp rfl .nil) rfl trivial rfl rfl
      · have h := cond_f h h33
        refine TC.skip ?_
        refine TC.inBlock ?_
        refine TC.region ?_
        refine op0 (sp_move rfl rfl) rfl trivial rfl rfl ?_
        obtain ⟨h34, h⟩ := chk_inv h
        refine op0 (sp_add rfl rfl rfl h34) rfl trivial rfl rfl ?_
        refine op0 (sp_assign rfl rfl) rfl trivial rfl rfl ?_
        refine TL.nil ?_
        refine TC.inLoop ?_
        refine TC.seq ?_
        refine TC.seq ?_
        refine subJ [] (ih _ h) ?_ ?_ ?_
        · exact ⟨rfl, rfl, rfl, trivial⟩
        · exact ⟨mem_at 4 rfl, mem_at 5 rfl, trivial⟩
        · rfl
    · have h := cond_f h h27
      refine TC.exit rfl ?_
      refine TC.seq ?_
      refine TC.region ?_
      obtain ⟨r21, h35, h⟩ := bind_inv h
      refine op0 (sp_call (avs := []) (need := []) (v := .val (.bool r21)) (news := []) rfl rfl rfl Try.call12 (atJ [] [] (fc_law01_known h35) rfl rfl) (.inl (roAll rfl))) rfl trivial rfl rfl ?_
      refine op0 (sp_assign rfl rfl) rfl trivial rfl rfl ?_
      refine TL.nil ?_
      cases h
      exact retJ [] (.tmp rfl .nil) rfl trivial rfl rfl
def ev_law01_TrainFinds_j2 (n : Nat) (r8 : (List ((List Int) × (List Int))) × Int) (r14 : (List ((List Int) × (List Int)))) : Option Bool :=
  ev_law01_TrainFinds_l3 n r8 r14 n 0
set_option maxRecDepth 100000 in
set_option maxHeartbeats 2000000 in
theorem ok_law01_TrainFinds_j2 {n : Nat} {w0 : World} {R0 : Nat → Prop} {env0 : Env} {r : Bool} {r8 : (List ((List Int) × (List Int))) × Int} {r14 : (List ((List Int) × (List Int)))} (h : ev_law01_TrainFinds_j2 n r8 r14 = some r) : TC Try.prog ⟨w0, fun _ => False, R0⟩ 103 (bodyPost Try.prog Try.f5 (Post ⟨w0, fun _ => False, R0⟩ env0 (.val (.bool r)) [])) [.code (sub (bodyOf Try.f5) [1, 1, 1, 1, 1, 1, 1, 1, 1, 1, 1, 0, 1, 1]), .code (sub (bodyOf Try.f5) [1, 1, 1, 1, 1, 1, 1, 1, 1, 1, 1, 1])] ([(6, .ref 7), (9, .ref 8)]) ([.row 7 57 2 (List.map en_api_Train r8.1), .row 8 57 2 (List.map en_api_Train r14)]) := by
  rw [ev_law01_TrainFinds_j2] at h
  refine TC.skip ?_
  refine TC.seq ?_
  refine TC.seq ?_
  refine TC.region ?_
  refine op0 (sp_assign rfl rfl) rfl trivial rfl rfl ?_
  refine TL.nil ?_
  refine TC.block ?_
  refine TC.loop ?_
  refine TC.seq ?_
  refine TC.seq ?_
  refine subJ [] (ok_law01_TrainFinds_l3 _ _ h) ?_ ?_ ?_
  · exact ⟨rfl, rfl, rfl, trivial⟩
  · exact ⟨mem_at 0 rfl, mem_at 1 rfl, trivial⟩
  · rfl
def ev_law01_TrainFinds_j1 (n : Nat) (r8 : (List ((List Int) × (List Int))) × Int) (s1 : List Int) (s2 : List Int) (want3 : Int) (want4 : Int) (i12 : Int) : Option Bool :=
  cond (i12 != 0) (cond (r8.2 == i12) (cond ((r8.1.length : Int) == 0) ((ev_law01_known n).bind fun r13 => some r13) (some false)) (some false)) ((ev_ref01_Fewest n s1 s2 want3 want4).bind fun r14 => cond ((r14.length : Int) == 0) (cond (r8.2 == 7) (cond ((r8.1.length : Int) == 0) ((ev_law01_known n).bind fun r15 => some r15) (some false)) (some false)) (cond (decide ((2000 : Int) < (r14.length : Int))) (cond (r8.2 == 5) (cond ((r8.1.length : Int) == 0) ((ev_law01_known n).bind fun r16 => some r16) (some false)) (some false)) (cond (r8.2 != 0) (some false) (cond ((r8.1.length : Int) != (r14.length : Int)) (some false) (ev_law01_TrainFinds_j2 n r8 r14)))))
set_option maxRecDepth 100000 in
set_option maxHeartbeats 2000000 in
theorem ok_law01_TrainFinds_j1 {n : Nat} {w0 : World} {R0 : Nat → Prop} {env0 : Env} {r : Bool} {r8 : (List ((List Int) × (List Int))) × Int} {want3 : Int} {want4 : Int} {s1 : List Int} {s2 : List Int} {i12 : Int} (h : ev_law01_TrainFinds_j1 n r8 s1 s2 want3 want4 i12 = some r) : TC Try.prog ⟨w0, fun _ => False, R0⟩ 103 (bodyPost Try.prog Try.f5 (Post ⟨w0, fun _ => False, R0⟩ env0 (.val (.bool r)) [])) [.code (sub (bodyOf Try.f5) [1, 1, 1, 1, 1, 1, 1, 0, 0]), .code (sub (bodyOf Try.f5) [1, 1, 1, 1, 1, 1, 1, 0, 1]), .code (sub (bodyOf Try.f5) [1, 1, 1, 1, 1, 1, 1, 1])] ([(2, .ptr 2 0), (3, .ptr 3 0), (6, .ref 7), (7, .val (.int .i64 r8.2)), (8, .val (.int .i64 i12))]) ([.blk 2 [.ref 0, .ref 1] 40, .blk 3 [.val (.int .i64 want3), .val (.int .i64 want4)] 26, .row 7 57 2 (List.map en_api_Train r8.1), .ro 0 1 (List.map en_int s1), .ro 1 1 (List.map en_int s2)]) := by
  rw [ev_law01_TrainFinds_j1] at h
  refine TC.region ?_
  refine op0 (sp_move rfl rfl) rfl trivial rfl rfl ?_
  refine op0 (sp_neq rfl rfl rfl) rfl trivial rfl rfl ?_
  refine TL.nil ?_
  refine TC.cond (b := (i12 != 0)) rfl (fun h12 => ?_) (fun h12 => ?_)
  · have h := cond_t h h12
    refine TC.seq ?_
    refine TC.region ?_
    refine op0 (sp_move rfl rfl) rfl trivial rfl rfl ?_
    refine op0 (sp_move rfl rfl) rfl trivial rfl rfl ?_
    refine op0 (sp_eql rfl rfl rfl) rfl trivial rfl rfl ?_
    refine op0 (sp_move rfl rfl) rfl trivial rfl rfl ?_
    rcases cond_cases h with ⟨h13, h⟩ | ⟨h13, h⟩
    · refine (boolLit 40 rfl h13).2 ?_
      refine op0 (sp_move rfl rfl) rfl ⟨_, rfl, rfl⟩ rfl rfl ?_
      refine op1 2 rfl (sp_lenM (N := r8.1.length) (len_map _ _) rfl rfl isOwn Try.underlying52) rfl ⟨_, rfl, rfl⟩ rfl rfl ?_
      refine op0 (sp_eql rfl rfl rfl) rfl ⟨_, rfl, rfl⟩ rfl rfl ?_
      refine op0 (sp_pickT rfl rfl rfl) rfl trivial rfl rfl ?_
      refine op0 (sp_move rfl rfl) rfl trivial rfl rfl ?_
      rcases cond_cases h with ⟨h14, h⟩ | ⟨h14, h⟩
      · refine (boolLit 45 rfl h14).2 ?_
        obtain ⟨r13, h15, h⟩ := bind_inv h
        refine op0 (sp_call (avs := []) (need := []) (v := .val (.bool r13)) (news := []) rfl rfl rfl Try.call12 (atJ [] [] (fc_law01_known h15) rfl rfl) (.inl (roAll rfl))) rfl ⟨_, rfl, rfl⟩ rfl rfl ?_
        refine op0 (sp_pickT rfl rfl rfl) rfl trivial rfl rfl ?_
        refine op0 (sp_assign rfl rfl) rfl trivial rfl rfl ?_
        refine TL.nil ?_
        cases h
        exact retJ [] (.tmp rfl .nil) rfl trivial rfl rfl
      · refine (boolLit 45 rfl h14).2 ?_
        refine opSkip rfl ⟨_, rfl, .inl rfl⟩ rfl ?_
        refine op0 (sp_pickF rfl rfl rfl) rfl trivial rfl rfl ?_
        refine op0 (sp_assign rfl rfl) rfl trivial rfl rfl ?_
        refine TL.nil ?_
        cases h
        exact retJ [] (.tmp rfl .nil) rfl trivial rfl rfl
    · refine (boolLit 40 rfl h13).2 ?_
      refine opSkip rfl ⟨_, rfl, .inl rfl⟩ rfl ?_
      refine opSkip rfl ⟨_, rfl, .inl rfl⟩ rfl ?_
      refine opSkip rfl ⟨_, rfl, .inl rfl⟩ rfl ?_
      refine op0 (sp_pickF rfl rfl rfl) rfl trivial rfl rfl ?_
      refine op0 (sp_move rfl rfl) rfl trivial rfl rfl ?_
      refine opSkip rfl ⟨_, rfl, .inl rfl⟩ rfl ?_
      refine op0 (sp_pickF rfl rfl rfl) rfl trivial rfl rfl ?_
      refine op0 (sp_assign rfl rfl) rfl trivial rfl rfl ?_
      refine TL.nil ?_
      cases h
      exact retJ [] (.tmp rfl .nil) rfl trivial rfl rfl
  · have h := cond_f h h12
    refine TC.skip ?_
    refine TC.seq ?_
    refine TC.region ?_
    refine op1 0 rfl (sp_loadBA rfl isBlk rfl vt40 rfl rfl) rfl trivial rfl rfl ?_
    refine op1 1 rfl (sp_loadBA rfl isBlk rfl vt26 rfl rfl) rfl trivial rfl rfl ?_
    obtain ⟨r14, h16, h⟩ := bind_inv h
    refine opN (need := [.ro 0 1 (List.map en_int s1), .ro 1 1 (List.map en_int s2)]) [3, 4] ⟨rfl, rfl, trivial⟩ (sp_call (avs := [.agg [.ref 0, .ref 1], .agg [.val (.int .i64 want3), .val (.int .i64 want4)]]) (need := [.ro 0 1 (List.map en_int s1), .ro 1 1 (List.map en_int s2)]) (v := .ref 8) (news := [.row 8 57 2 (List.map en_api_Train r14)]) rfl rfl rfl Try.call30 (atJ [] [(0, 8)] (fc_ref01_Fewest h16) rfl rfl) (.inl (roAll rfl))) rfl trivial rfl rfl ?_
    refine op0 (sp_assign rfl rfl) rfl trivial rfl rfl ?_
    refine TL.nil ?_
    refine TC.seq ?_
    refine TC.seq ?_
    refine TC.region ?_
    refine op0 (sp_move rfl rfl) rfl trivial rfl rfl ?_
    refine op1 0 rfl (sp_lenM (N := r14.length) (len_map _ _) rfl rfl isOwn Try.underlying52) rfl trivial rfl rfl ?_
    refine op0 (sp_eql rfl rfl rfl) rfl trivial rfl rfl ?_
    refine TL.nil ?_
    refine TC.cond (b := ((r14.length : Int) == 0)) rfl (fun h17 => ?_) (fun h17 => ?_)
    · have h := cond_t h h17
      refine TC.seq ?_
      refine TC.region ?_
      refine op0 (sp_move rfl rfl) rfl trivial rfl rfl ?_
      refine op0 (sp_eql rfl rfl rfl) rfl trivial rfl rfl ?_
      refine op0 (sp_move rfl rfl) rfl trivial rfl rfl ?_
      rcases cond_cases h with ⟨h18, h⟩ | ⟨h18, h⟩
      · refine (boolLit 56 rfl h18).2 ?_
        refine op0 (sp_move rfl rfl) rfl ⟨_, rfl, rfl⟩ rfl rfl ?_
        refine op1 3 rfl (sp_lenM (N := r8.1.length) (len_map _ _) rfl rfl isOwn Try.underlying52) rfl ⟨_, rfl, rfl⟩ rfl rfl ?_
        refine op0 (sp_eql rfl rfl rfl) rfl ⟨_, rfl, rfl⟩ rfl rfl ?_
        refine op0 (sp_pickT rfl rfl rfl) rfl trivial rfl rfl ?_
        refine op0 (sp_move rfl rfl) rfl trivial rfl rfl ?_
        rcases cond_cases h with ⟨h19, h⟩ | ⟨h19, h⟩
        · refine (boolLit 61 rfl h19).2 ?_
          obtain ⟨r15, h20, h⟩ := bind_inv h
          refine op0 (sp_call (avs := []) (need := []) (v := .val (.bool r15)) (news := []) rfl rfl rfl Try.call12 (atJ [] [] (fc_law01_known h20) rfl rfl) (.inl (roAll rfl))) rfl ⟨_, rfl, rfl⟩ rfl rfl ?_
          refine op0 (sp_pickT rfl rfl rfl) rfl trivial rfl rfl ?_
          refine op0 (sp_assign rfl rfl) rfl trivial rfl rfl ?_
          refine TL.nil ?_
          cases h
          exact retJ [] (.tmp rfl .nil) rfl trivial rfl rfl
        · refine (boolLit 61 rfl h19).2 ?_
          refine opSkip rfl ⟨_, rfl, .inl rfl⟩ rfl ?_
          refine op0 (sp_pickF rfl rfl rfl) rfl trivial rfl rfl ?_
          refine op0 (sp_assign rfl rfl) rfl trivial rfl rfl ?_
          refine TL.nil ?_
          cases h
          exact retJ [] (.tmp rfl .nil) rfl trivial rfl rfl
      · refine (boolLit 56 rfl h18).2 ?_
        refine opSkip rfl ⟨_, rfl, .inl rfl⟩ rfl ?_
        refine opSkip rfl ⟨_, rfl, .inl rfl⟩ rfl ?_
        refine opSkip rfl ⟨_, rfl, .inl rfl⟩ rfl ?_
        refine op0 (sp_pickF rfl rfl rfl) rfl trivial rfl rfl ?_
        refine op0 (sp_move rfl rfl) rfl trivial rfl rfl ?_
        refine opSkip rfl ⟨_, rfl, .inl rfl⟩ rfl ?_
        refine op0 (sp_pickF rfl rfl rfl) rfl trivial rfl rfl ?_
        refine op0 (sp_assign rfl rfl) rfl trivial rfl rfl ?_
        refine TL.nil ?_
        cases h
        exact retJ [] (.tmp rfl .nil) rfl trivial rfl rfl
    · have h := cond_f h h17
      refine TC.skip ?_
      refine TC.seq ?_
      refine TC.seq ?_
      refine TC.region ?_
      refine op0 (sp_move rfl rfl) rfl trivial rfl rfl ?_
      refine op1 0 rfl (sp_lenM (N := r14.length) (len_map _ _) rfl rfl isOwn Try.underlying52) rfl trivial rfl rfl ?_
      refine op0 (sp_gtr rfl rfl rfl) rfl trivial rfl rfl ?_
      refine TL.nil ?_
      refine TC.cond (b := (decide ((2000 : Int) < (r14.length : Int)))) rfl (fun h21 => ?_) (fun h21 => ?_)
      · have h := cond_t h h21
        refine TC.seq ?_
        refine TC.region ?_
        refine op0 (sp_move rfl rfl) rfl trivial rfl rfl ?_
        refine op0 (sp_eql rfl rfl rfl) rfl trivial rfl rfl ?_
        refine op0 (sp_move rfl rfl) rfl trivial rfl rfl ?_
        rcases cond_cases h with ⟨h22, h⟩ | ⟨h22, h⟩
        · refine (boolLit 69 rfl h22).2 ?_
          refine op0 (sp_move rfl rfl) rfl ⟨_, rfl, rfl⟩ rfl rfl ?_
          refine op1 3 rfl (sp_lenM (N := r8.1.length) (len_map _ _) rfl rfl isOwn Try.underlying52) rfl ⟨_, rfl, rfl⟩ rfl rfl ?_
          refine op0 (sp_eql rfl rfl rfl) rfl ⟨_, rfl, rfl⟩ rfl rfl ?_
          refine op0 (sp_pickT rfl rfl rfl) rfl trivial rfl rfl ?_
          refine op0 (sp_move rfl rfl) rfl trivial rfl rfl ?_
          rcases cond_cases h with ⟨h23, h⟩ | ⟨h23, h⟩
          · refine (boolLit 74 rfl h23).2 ?_
            obtain ⟨r16, h24, h⟩ := bind_inv h
            refine op0 (sp_call (avs := []) (need := []) (v := .val (.bool r16)) (news := []) rfl rfl rfl Try.call12 (atJ [] [] (fc_law01_known h24) rfl rfl) (.inl (roAll rfl))) rfl ⟨_, rfl, rfl⟩ rfl rfl ?_
            refine op0 (sp_pickT rfl rfl rfl) rfl trivial rfl rfl ?_
            refine op0 (sp_assign rfl rfl) rfl trivial rfl rfl ?_
            refine TL.nil ?_
            cases h
            exact retJ [] (.tmp rfl .nil) rfl trivial rfl rfl
          · refine (boolLit 74 rfl h23).2 ?_
            refine opSkip rfl ⟨_, rfl, .inl rfl⟩ rfl ?_
            refine op0 (sp_pickF rfl rfl rfl) rfl trivial rfl rfl ?_
            refine op0 (sp_assign rfl rfl) rfl trivial rfl rfl ?_
            refine TL.nil ?_
            cases h
            exact retJ [] (.tmp rfl .nil) rfl trivial rfl rfl
        · refine (boolLit 69 rfl h22).2 ?_
          refine opSkip rfl ⟨_, rfl, .inl rfl⟩ rfl ?_
          refine opSkip rfl ⟨_, rfl, .inl rfl⟩ rfl ?_
          refine opSkip rfl ⟨_, rfl, .inl rfl⟩ rfl ?_
          refine op0 (sp_pickF rfl rfl rfl) rfl trivial rfl rfl ?_
          refine op0 (sp_move rfl rfl) rfl trivial rfl rfl ?_
          refine opSkip rfl ⟨_, rfl, .inl rfl⟩ rfl ?_
          refine op0 (sp_pickF rfl rfl rfl) rfl trivial rfl rfl ?_
          refine op0 (sp_assign rfl rfl) rfl trivial rfl rfl ?_
          refine TL.nil ?_
          cases h
          exact retJ [] (.tmp rfl .nil) rfl trivial rfl rfl
      · have h := cond_f h h21
        refine TC.skip ?_
        refine TC.seq ?_
        refine TC.seq ?_
        refine TC.region ?_
        refine op0 (sp_move rfl rfl) rfl trivial rfl rfl ?_
        refine op0 (sp_neq rfl rfl rfl) rfl trivial rfl rfl ?_
        refine op0 (sp_move rfl rfl) rfl trivial rfl rfl ?_
        rcases cond_cases h with ⟨h25, h⟩ | ⟨h25, h⟩
        · refine (boolLit 79 rfl h25).2 ?_
          refine opSkip rfl ⟨_, rfl, .inl rfl⟩ rfl ?_
          refine opSkip rfl ⟨_, rfl, .inl rfl⟩ rfl ?_
          refine opSkip rfl ⟨_, rfl, .inl rfl⟩ rfl ?_
          refine opSkip rfl ⟨_, rfl, .inl rfl⟩ rfl ?_
          refine opSkip rfl ⟨_, rfl, .inl rfl⟩ rfl ?_
          refine op0 (sp_pickT rfl rfl rfl) rfl trivial rfl rfl ?_
          refine TL.nil ?_
          refine TC.condT rfl ?_
          refine TC.seq ?_
          refine TC.region ?_
          refine op0 (sp_assign rfl rfl) rfl trivial rfl rfl ?_
          refine TL.nil ?_
          cases h
          exact retJ [] (.tmp rfl .nil) rfl trivial rfl rfl
        · refine (boolLit 79 rfl h25).2 ?_
          refine op0 (sp_move rfl rfl) rfl ⟨_, rfl, rfl⟩ rfl rfl ?_
          refine op1 3 rfl (sp_lenM (N := r8.1.length) (len_map _ _) rfl rfl isOwn Try.underlying52) rfl ⟨_, rfl, rfl⟩ rfl rfl ?_
          refine op0 (sp_move rfl rfl) rfl ⟨_, rfl, rfl⟩ rfl rfl ?_
          refine op1 0 rfl (sp_lenM (N := r14.length) (len_map _ _) rfl rfl isOwn Try.underlying52) rfl ⟨_, rfl, rfl⟩ rfl rfl ?_
          refine op0 (sp_neq rfl rfl rfl) rfl ⟨_, rfl, rfl⟩ rfl rfl ?_
          refine op0 (sp_pickF rfl rfl rfl) rfl trivial rfl rfl ?_
          refine TL.nil ?_
          refine TC.cond (b := ((r8.1.length : Int) != (r14.length : Int))) rfl (fun h26 => ?_) (fun h26 => ?_)
          · have h := cond_t h h26
            refine TC.seq ?_
            refine TC.region ?_
            refine op0 (sp_assign rfl rfl) rfl trivial rfl rfl ?_
            refine TL.nil ?_
            cases h
            exact retJ [] (.tmp rfl .nil) rfl trivial rfl rfl
          · have h := cond_f h h26
            refine subJ [] (ok_law01_TrainFinds_j2 h) ?_ ?_ ?_
            · exact ⟨rfl, rfl, trivial⟩
            · exact ⟨mem_at 3 rfl, mem_at 0 rfl, trivial⟩
            · rfl
def ev_law01_TrainFinds_j0 (n : Nat) (r8 : (List ((List Int) × (List Int))) × Int) (s1 : List Int) (s2 : List Int) (want3 : Int) (want4 : Int) : Option Bool :=
  ev_law01_TrainFinds_j1 n r8 s1 s2 want3 want4 2
set_option maxRecDepth 100000 in
set_option maxHeartbeats 2000000 in
theorem ok_law01_TrainFinds_j0 {n : Nat} {w0 : World} {R0 : Nat → Prop} {env0 : Env} {r : Bool} {r8 : (List ((List Int) × (List Int))) × Int} {want3 : Int} {want4 : Int} {s1 : List Int} {s2 : List Int} (h : ev_law01_TrainFinds_j0 n r8 s1 s2 want3 want4 = some r) : TC Try.prog ⟨w0, fun _ => False, R0⟩ 103 (bodyPost Try.prog Try.f5 (Post ⟨w0, fun _ => False, R0⟩ env0 (.val (.bool r)) [])) [.code (sub (bodyOf Try.f5) [1, 1, 1, 1, 1, 1, 0, 1, 0]), .code (sub (bodyOf Try.f5) [1, 1, 1, 1, 1, 1, 1])] ([(2, .ptr 2 0), (3, .ptr 3 0), (6, .ref 7), (7, .val (.int .i64 r8.2))]) ([.blk 2 [.ref 0, .ref 1] 40, .blk 3 [.val (.int .i64 want3), .val (.int .i64 want4)] 26, .row 7 57 2 (List.map en_api_Train r8.1), .ro 0 1 (List.map en_int s1), .ro 1 1 (List.map en_int s2)]) := by
  rw [ev_law01_TrainFinds_j0] at h
  refine TC.region ?_
  refine op0 (sp_assign rfl rfl) rfl trivial rfl rfl ?_
  refine TL.nil ?_
  refine TC.seq ?_
  refine TC.seq ?_
  refine subJ [] (ok_law01_TrainFinds_j1 h) ?_ ?_ ?_
  · exact ⟨rfl, rfl, rfl, rfl, rfl, trivial⟩
  · exact ⟨mem_at 0 rfl, mem_at 1 rfl, mem_at 2 rfl, mem_at 3 rfl, mem_at 4 rfl, trivial⟩
  · rfl
def ev_law01_TrainFinds_j4 (n : Nat) (r8 : (List ((List Int) × (List Int))) × Int) (s1 : List Int) (s2 : List Int) (want3 : Int) (want4 : Int) (r10 : Int) : Option Bool :=
  ev_law01_TrainFinds_j1 n r8 s1 s2 want3 want4 r10
set_option maxRecDepth 100000 in
set_option maxHeartbeats 2000000 in
theorem ok_law01_TrainFinds_j4 {n : Nat} {w0 : World} {R0 : Nat → Prop} {env0 : Env} {r : Bool} {r8 : (List ((List Int) × (List Int))) × Int} {r10 : Int} {want3 : Int} {want4 : Int} {s1 : List Int} {s2 : List Int} (h : ev_law01_TrainFinds_j4 n r8 s1 s2 want3 want4 r10 = some r) : TC Try.prog ⟨w0, fun _ => False, R0⟩ 103 (bodyPost Try.prog Try.f5 (Post ⟨w0, fun _ => False, R0⟩ env0 (.val (.bool r)) [])) [.code (sub (bodyOf Try.f5) [1, 1, 1, 1, 1, 1, 0, 1, 1]), .code (sub (bodyOf Try.f5) [1, 1, 1, 1, 1, 1, 1])] ([(2, .ptr 2 0), (3, .ptr 3 0), (6, .ref 7), (7, .val (.int .i64 r8.2)), (8, .val (.int .i64 r10))]) ([.blk 2 [.ref 0, .ref 1] 40, .blk 3 [.val (.int .i64 want3), .val (.int .i64 want4)] 26, .row 7 57 2 (List.map en_api_Train r8.1), .ro 0 1 (List.map en_int s1), .ro 1 1 (List.map en_int s2)]) := by
  rw [ev_law01_TrainFinds_j4] at h
  refine TC.skip ?_
  refine TC.seq ?_
  refine TC.seq ?_
  refine subJ [] (ok_law01_TrainFinds_j1 h) ?_ ?_ ?_
  · exact ⟨rfl, rfl, rfl, rfl, rfl, trivial⟩
  · exact ⟨mem_at 0 rfl, mem_at 1 rfl, mem_at 2 rfl, mem_at 3 rfl, mem_at 4 rfl, trivial⟩
  · rfl
def ev_law01_TrainFinds (n : Nat) (s1 : List Int) (s2 : List Int) (want3 : Int) (want4 : Int) : Option Bool :=
  (ev_law01_large n s1 s2).bind fun r5 => cond r5 ((ev_law01_known n).bind fun r6 => some r6) ((ev_law01_copied n s1 s2).bind fun r7 => (ev_train_Fewest n r7.1 r7.2 want3 want4).bind fun r8 => (ev_law01_same n r7.1 r7.2 s1 s2).bind fun r9 => cond (!r9) (some false) ((ev_ref01_Check n s1 s2).bind fun r10 => cond (r10 == 0) ((ev_ref01_Wanted n want3 want4).bind fun r11 => cond (!r11) (ev_law01_TrainFinds_j0 n r8 s1 s2 want3 want4) (ev_law01_TrainFinds_j4 n r8 s1 s2 want3 want4 r10)) (ev_law01_TrainFinds_j4 n r8 s1 s2 want3 want4 r10)))
set_option maxRecDepth 100000 in
set_option maxHeartbeats 2000000 in
theorem fc_law01_TrainFinds {n : Nat} {s1 : List Int} {s2 : List Int} {want3 : Int} {want4 : Int} {r : Bool} (h : ev_law01_TrainFinds n s1 s2 want3 want4 = some r) : FC Try.prog 5 [.agg [.ref 0, .ref 1], .agg [.val (.int .i64 want3), .val (.int .i64 want4)]] [.ro 0 1 (List.map en_int s1), .ro 1 1 (List.map en_int s2)] (.val (.bool r)) [] := by
  refine introJ (nz := 103) Try.func5 rfl rfl rfl (fun w0 R0 env0 => ?_)
  rw [ev_law01_TrainFinds] at h
  refine TC.seq ?_
  refine TC.region ?_
  refine op0 (sp_box 2 rfl rfl rfl rfl rfl) rfl trivial rfl rfl ?_
  refine op0 (sp_box 3 rfl rfl rfl rfl rfl) rfl trivial rfl rfl ?_
  refine op0 (sp_assign rfl rfl) rfl trivial rfl rfl ?_
  refine TL.nil ?_
  refine TC.seq ?_
  refine TC.seq ?_
  refine TC.region ?_
  refine op1 1 rfl (sp_loadBA rfl isBlk rfl vt40 rfl rfl) rfl trivial rfl rfl ?_
  obtain ⟨r5, h1, h⟩ := bind_inv h
  refine opN (need := [.ro 0 1 (List.map en_int s1), .ro 1 1 (List.map en_int s2)]) [2, 3] ⟨rfl, rfl, trivial⟩ (sp_call (avs := [.agg [.ref 0, .ref 1]]) (need := [.ro 0 1 (List.map en_int s1), .ro 1 1 (List.map en_int s2)]) (v := .val (.bool r5)) (news := []) rfl rfl rfl Try.call28 (atJ [] [] (fc_law01_large h1) rfl rfl) (.inl (roAll rfl))) rfl trivial rfl rfl ?_
  refine TL.nil ?_
  refine TC.cond (b := r5) rfl (fun h2 => ?_) (fun h2 => ?_)
  · have h := cond_t h h2
    refine TC.seq ?_
    refine TC.region ?_
    obtain ⟨r6, h3, h⟩ := bind_inv h
    refine op0 (sp_call (avs := []) (need := []) (v := .val (.bool r6)) (news := []) rfl rfl rfl Try.call12 (atJ [] [] (fc_law01_known h3) rfl rfl) (.inl (roAll rfl))) rfl trivial rfl rfl ?_
    refine op0 (sp_assign rfl rfl) rfl trivial rfl rfl ?_
    refine TL.nil ?_
    cases h
    exact retJ [] (.tmp rfl .nil) rfl trivial rfl rfl
  · have h := cond_f h h2
    refine TC.skip ?_
    refine TC.seq ?_
    refine TC.region ?_
    refine op1 1 rfl (sp_loadBA rfl isBlk rfl vt40 rfl rfl) rfl trivial rfl rfl ?_
    obtain ⟨r7, h4, h⟩ := bind_inv h
    refine opN (need := [.ro 0 1 (List.map en_int s1), .ro 1 1 (List.map en_int s2)]) [2, 3] ⟨rfl, rfl, trivial⟩ (sp_call (avs := [.agg [.ref 0, .ref 1]]) (need := [.ro 0 1 (List.map en_int s1), .ro 1 1 (List.map en_int s2)]) (v := .agg [.ref 4, .ref 5]) (news := [.row 4 3 1 (List.map en_int r7.1), .row 5 3 1 (List.map en_int r7.2)]) rfl rfl rfl Try.call19 (atJ [] [(0, 4), (1, 5)] (fc_law01_copied h4) rfl rfl) (.inl (roAll rfl))) rfl trivial rfl rfl ?_
    refine op0 (sp_alloc 6 rfl Try.zeroValue40 rfl) rfl trivial rfl rfl ?_
    refine stoB 0 (cells' := [.ref 4, .ref 5]) rfl rfl trivial rfl rfl rfl rfl vt40 rfl rfl rfl ?_
    refine TL.nil ?_
    refine TC.seq ?_
    refine TC.region ?_
    refine op1 0 rfl (sp_loadBA rfl isBlk rfl vt40 rfl rfl) rfl trivial rfl rfl ?_
    refine op1 3 rfl (sp_loadBA rfl isBlk rfl vt26 rfl rfl) rfl trivial rfl rfl ?_
    refine TL.freeze 1 rfl ?_
    refine TL.freeze 2 rfl ?_
    obtain ⟨r8, h5, h⟩ := bind_inv h
    refine opN (need := [.ro 4 1 (List.map en_int r7.1), .ro 5 1 (List.map en_int r7.2)]) [1, 2] ⟨rfl, rfl, trivial⟩ (sp_call (avs := [.agg [.ref 4, .ref 5], .agg [.val (.int .i64 want3), .val (.int .i64 want4)]]) (need := [.ro 4 1 (List.map en_int r7.1), .ro 5 1 (List.map en_int r7.2)]) (v := .tup [.ref 7, .val (.int .i64 r8.2)]) (news := [.row 7 57 2 (List.map en_api_Train r8.1)]) rfl rfl rfl Try.call29 (atJ [(0, 4), (1, 5)] [(0, 7)] (fc_train_Fewest h5) rfl rfl) (.inl (roAll rfl))) rfl trivial rfl rfl ?_
    refine op0 (sp_move rfl rfl) rfl trivial rfl rfl ?_
    refine op0 (sp_extract rfl rfl rfl) rfl trivial rfl rfl ?_
    refine op0 (sp_extract rfl rfl rfl) rfl trivial rfl rfl ?_
    refine op0 (sp_assign rfl rfl) rfl trivial rfl rfl ?_
    refine op0 (sp_assign rfl rfl) rfl trivial rfl rfl ?_
    refine TL.nil ?_
    refine TC.seq ?_
    refine TC.seq ?_
    refine TC.region ?_
    refine op1 1 rfl (sp_loadBA rfl isBlk rfl vt40 rfl rfl) rfl trivial rfl rfl ?_
    refine op1 5 rfl (sp_loadBA rfl isBlk rfl vt40 rfl rfl) rfl trivial rfl rfl ?_
    obtain ⟨r9, h6, h⟩ := bind_inv h
    refine opN (need := [.ro 4 1 (List.map en_int r7.1), .ro 5 1 (List.map en_int r7.2), .ro 0 1 (List.map en_int s1), .ro 1 1 (List.map en_int s2)]) [2, 3, 6, 7] ⟨rfl, rfl, rfl, rfl, trivial⟩ (sp_call (avs := [.agg [.ref 4, .ref 5], .agg [.ref 0, .ref 1]]) (need := [.ro 4 1 (List.map en_int r7.1), .ro 5 1 (List.map en_int r7.2), .ro 0 1 (List.map en_int s1), .ro 1 1 (List.map en_int s2)]) (v := .val (.bool r9)) (news := []) rfl rfl rfl Try.call22 (atJ [(0, 4), (1, 5), (2, 0), (3, 1)] [] (fc_law01_same h6) rfl rfl) (.inl (roAll rfl))) rfl trivial rfl rfl ?_
    refine op0 (sp_not rfl rfl) rfl trivial rfl rfl ?_
    refine TL.nil ?_
    refine TC.cond (b := (!r9)) rfl (fun h7 => ?_) (fun h7 => ?_)
    · have h := cond_t h h7
      refine TC.seq ?_
      refine TC.region ?_
      refine op0 (sp_assign rfl rfl) rfl trivial rfl rfl ?_
      refine TL.nil ?_
      cases h
      exact retJ [] (.tmp rfl .nil) rfl trivial rfl rfl
    · have h := cond_f h h7
      refine TC.skip ?_
      refine TC.seq ?_
      refine TC.region ?_
      refine op1 5 rfl (sp_loadBA rfl isBlk rfl vt40 rfl rfl) rfl trivial rfl rfl ?_
      obtain ⟨r10, h8, h⟩ := bind_inv h
      refine opN (need := [.ro 0 1 (List.map en_int s1), .ro 1 1 (List.map en_int s2)]) [6, 7] ⟨rfl, rfl, trivial⟩ (sp_call (avs := [.agg [.ref 0, .ref 1]]) (need := [.ro 0 1 (List.map en_int s1), .ro 1 1 (List.map en_int s2)]) (v := .val (.int .i64 r10)) (news := []) rfl rfl rfl Try.call23 (atJ [] [] (fc_ref01_Check h8) rfl rfl) (.inl (roAll rfl))) rfl trivial rfl rfl ?_
      refine op0 (sp_assign rfl rfl) rfl trivial rfl rfl ?_
      refine TL.nil ?_
      refine TC.seq ?_
      refine TC.seq ?_
      refine TC.region ?_
      refine op0 (sp_move rfl rfl) rfl trivial rfl rfl ?_
      refine op0 (sp_eql rfl rfl rfl) rfl trivial rfl rfl ?_
      refine op0 (sp_move rfl rfl) rfl trivial rfl rfl ?_
      rcases cond_cases h with ⟨h9, h⟩ | ⟨h9, h⟩
      · refine (boolLit 30 rfl h9).2 ?_
        refine op1 4 rfl (sp_loadBA rfl isBlk rfl vt26 rfl rfl) rfl ⟨_, rfl, rfl⟩ rfl rfl ?_
        obtain ⟨r11, h10, h⟩ := bind_inv h
        refine op0 (sp_call (avs := [.agg [.val (.int .i64 want3), .val (.int .i64 want4)]]) (need := []) (v := .val (.bool r11)) (news := []) rfl rfl rfl Try.call24 (atJ [] [] (fc_ref01_Wanted h10) rfl rfl) (.inl (roAll rfl))) rfl ⟨_, rfl, rfl⟩ rfl rfl ?_
        refine op0 (sp_not rfl rfl) rfl ⟨_, rfl, rfl⟩ rfl rfl ?_
        refine op0 (sp_pickT rfl rfl rfl) rfl trivial rfl rfl ?_
        refine TL.nil ?_
        refine TC.cond (b := (!r11)) rfl (fun h11 => ?_) (fun h11 => ?_)
        · have h := cond_t h h11
          refine subJ [] (ok_law01_TrainFinds_j0 h) ?_ ?_ ?_
          · exact ⟨rfl, rfl, rfl, rfl, trivial⟩
          · exact ⟨mem_at 5 rfl, mem_at 4 rfl, mem_at 0 rfl, mem_at 6 rfl, mem_at 7 rfl, trivial⟩
          · rfl
        · have h := cond_f h h11
          refine subJ [] (ok_law01_TrainFinds_j4 h) ?_ ?_ ?_
          · exact ⟨rfl, rfl, rfl, rfl, rfl, trivial⟩
          · exact ⟨mem_at 5 rfl, mem_at 4 rfl, mem_at 0 rfl, mem_at 6 rfl, mem_at 7 rfl, trivial⟩
          · rfl
      · refine (boolLit 30 rfl h9).2 ?_
        refine opSkip rfl ⟨_, rfl, .inl rfl⟩ rfl ?_
        refine opSkip rfl ⟨_, rfl, .inl rfl⟩ rfl ?_
        refine opSkip rfl ⟨_, rfl, .inl rfl⟩ rfl ?_
        refine op0 (sp_pickF rfl rfl rfl) rfl trivial rfl rfl ?_
        refine TL.nil ?_
        refine TC.condF rfl ?_
        refine subJ [] (ok_law01_TrainFinds_j4 h) ?_ ?_ ?_
        · exact ⟨rfl, rfl, rfl, rfl, rfl, trivial⟩
        · exact ⟨mem_at 5 rfl, mem_at 4 rfl, mem_at 0 rfl, mem_at 6 rfl, mem_at 7 rfl, trivial⟩
        · rfl
end
end Go.Proofs.Ytabjhlfgcmmbfaa.Sy
