/- What functions of the program compute, and that they do: printed by symgen.py. -/
import Derived.Test.YtabjhlfgcmmbfaaGLib
import Derived.Test.YtabjhlfgcmmbfaaGturretlaw01
import Derived.Test.YtabjhlfgcmmbfaaGTrain
set_option linter.unusedSimpArgs false
set_option linter.unusedVariables false
namespace Go.Proofs.Ytabjhlfgcmmbfaa.Sy
open Go.RowKit
noncomputable section

/- law01_TrainInverse -/
def ev_law01_TrainInverse_l3 (n : Nat) (r20 : (List ((List Int) × (List Int))) × Int) (r14 : (List ((List Int) × (List Int))) × Int) (i23 : Int) (b26 : Bool) (k_law01_TrainInverse_l1 : Int → Option Bool) : Nat → Bool → Int → Option Bool
  | 0, _, _ => none
  | m + 1, b31, i32 => cond (decide (i32 < (r20.1.length : Int))) (cond b31 (chk (in64 (i32 + 1)) <| ev_law01_TrainInverse_l3 n r20 r14 i23 b26 k_law01_TrainInverse_l1 m true (i32 + 1)) (idx r14.1 i23 fun x33 => idx r20.1 i32 fun x34 => (ev_law01_equal n x33.1 x33.2 x34.1 x34.2).bind fun r35 => chk (in64 (i32 + 1)) <| ev_law01_TrainInverse_l3 n r20 r14 i23 b26 k_law01_TrainInverse_l1 m r35 (i32 + 1))) (cond (!b26) (some false) (cond (!b31) (some false) (chk (in64 (i23 + 1)) <| k_law01_TrainInverse_l1 (i23 + 1))))
set_option maxRecDepth 100000 in
set_option maxHeartbeats 2000000 in
theorem ok_law01_TrainInverse_l3 {n : Nat} {w0 : World} {R0 : Nat → Prop} {env0 : Env} {r : Bool} {b26 : Bool} {r14 : (List ((List Int) × (List Int))) × Int} {r15 : (List ((List Int) × (List Int))) × Int} {r20 : (List ((List Int) × (List Int))) × Int} {i23 : Int} {k_law01_TrainInverse_l1 : Int → Option Bool} (hk_law01_TrainInverse_l1 : ∀ (i23 : Int), k_law01_TrainInverse_l1 i23 = some r → TC Try.prog ⟨w0, fun _ => False, R0⟩ 191 (bodyPost Try.prog Try.f10 (Post ⟨w0, fun _ => False, R0⟩ env0 (.val (.bool r)) [])) [.code (sub (bodyOf Try.f10) [1, 1, 1, 1, 1, 1, 1, 1, 1, 1, 0, 1, 0, 0, 0, 0]), .code (sub (bodyOf Try.f10) [1, 1, 1, 1, 1, 1, 1, 1, 1, 1, 0, 1, 0, 0, 0, 1]), .code (sub (bodyOf Try.f10) [1, 1, 1, 1, 1, 1, 1, 1, 1, 1, 0, 1, 0, 0, 1]), .inLoop (sub (bodyOf Try.f10) [1, 1, 1, 1, 1, 1, 1, 1, 1, 1, 0, 1, 0, 0]), .inBlock 0, .code (sub (bodyOf Try.f10) [1, 1, 1, 1, 1, 1, 1, 1, 1, 1, 1])] ([(11, .ref 18), (13, .ref 31), (16, .ref 40), (18, .val (.int .i64 i23))]) ([.row 18 57 2 (List.map en_api_Train r14.1), .row 31 57 2 (List.map en_api_Train r15.1), .row 40 57 2 (List.map en_api_Train r20.1)])) : ∀ (m : Nat) (b31 : Bool) (i32 : Int), ev_law01_TrainInverse_l3 n r20 r14 i23 b26 k_law01_TrainInverse_l1 m b31 i32 = some r → TC Try.prog ⟨w0, fun _ => False, R0⟩ 191 (bodyPost Try.prog Try.f10 (Post ⟨w0, fun _ => False, R0⟩ env0 (.val (.bool r)) [])) [.code (sub (bodyOf Try.f10) [1, 1, 1, 1, 1, 1, 1, 1, 1, 1, 0, 1, 0, 0, 1, 0, 0, 1, 1, 0, 1, 0, 0, 0, 0]), .code (sub (bodyOf Try.f10) [1, 1, 1, 1, 1, 1, 1, 1, 1, 1, 0, 1, 0, 0, 1, 0, 0, 1, 1, 0, 1, 0, 0, 0, 1]), .code (sub (bodyOf Try.f10) [1, 1, 1, 1, 1, 1, 1, 1, 1, 1, 0, 1, 0, 0, 1, 0, 0, 1, 1, 0, 1, 0, 0, 1]), .inLoop (sub (bodyOf Try.f10) [1, 1, 1, 1, 1, 1, 1, 1, 1, 1, 0, 1, 0, 0, 1, 0, 0, 1, 1, 0, 1, 0, 0]), .inBlock 4, .code (sub (bodyOf Try.f10) [1, 1, 1, 1, 1, 1, 1, 1, 1, 1, 0, 1, 0, 0, 1, 0, 0, 1, 1, 1]), .inBlock 1, .code (sub (bodyOf Try.f10) [1, 1, 1, 1, 1, 1, 1, 1, 1, 1, 0, 1, 0, 0, 1, 1]), .inLoop (sub (bodyOf Try.f10) [1, 1, 1, 1, 1, 1, 1, 1, 1, 1, 0, 1, 0, 0]), .inBlock 0, .code (sub (bodyOf Try.f10) [1, 1, 1, 1, 1, 1, 1, 1, 1, 1, 1])] ([(11, .ref 18), (13, .ref 31), (16, .ref 40), (18, .val (.int .i64 i23)), (19, .val (.bool b26)), (20, .val (.bool b31)), (22, .val (.int .i64 i32))]) ([.row 18 57 2 (List.map en_api_Train r14.1), .row 31 57 2 (List.map en_api_Train r15.1), .row 40 57 2 (List.map en_api_Train r20.1)]) := by
  intro m
  induction m with
  | zero => intro b31 i32 h; exact none_no h
  | succ m ih =>
    intro b31 i32 h
    rw [ev_law01_TrainInverse_l3] at h
    refine TC.region ?_
    refine op0 (sp_move rfl rfl) rfl trivial rfl rfl ?_
    refine op0 (sp_move rfl rfl) rfl trivial rfl rfl ?_
    refine op1 2 rfl (sp_lenM (N := r20.1.length) (len_map _ _) rfl rfl isOwn Try.underlying52) rfl trivial rfl rfl ?_
    refine op0 (sp_lss rfl rfl rfl) rfl trivial rfl rfl ?_
    refine TL.nil ?_
    refine TC.cond (b := (decide (i32 < (r20.1.length : Int)))) rfl (fun h50 => ?_) (fun h50 => ?_)
    · have h := cond_t h h50
      refine TC.skip ?_
      refine TC.seq ?_
      refine TC.block ?_
      rcases cond_cases h with ⟨h51, h⟩ | ⟨h51, h⟩
      · refine drawJ 10 [⟨.val (.bool b31), [], [], []⟩, ⟨.val (.bool true), [], [], []⟩, ⟨.val (undef), [], [], []⟩, ⟨.val (undef), [], [], []⟩, ⟨.val (undef), [], [], []⟩, ⟨.val (undef), [], [], []⟩, ⟨.val (undef), [], [], []⟩, ⟨.val (undef), [], [], []⟩, ⟨.val (undef), [], [], []⟩, ⟨.val (undef), [], [], []⟩] rfl ?_ rfl ?_ rfl ?_ ?_
        · kernel_rfl
        · kernel_rfl
        · exact DAll.op' (sp_move rfl rfl) trivial rfl (From.ok (ps := []) trivial) (DAll.op' (sp_castB h51 (sp_move rfl rfl)) trivial rfl (From.ok (ps := []) trivial) (.skip ⟨_, rfl, .inl rfl⟩ rfl rfl rfl (.skip ⟨_, rfl, .inl rfl⟩ rfl rfl rfl (.skip ⟨_, rfl, .inl rfl⟩ rfl rfl rfl (.skip ⟨_, rfl, .inl rfl⟩ rfl rfl rfl (.skip ⟨_, rfl, .inl rfl⟩ rfl rfl rfl (.skip ⟨_, rfl, .inl rfl⟩ rfl rfl rfl (.skip ⟨_, rfl, .inl rfl⟩ rfl rfl rfl (.skip ⟨_, rfl, .inl rfl⟩ rfl rfl rfl (.nil))))))))))
        refine opSkip rfl ⟨_, rfl, .inl rfl⟩ rfl ?_
        refine op0 (sp_pickT rfl rfl rfl) rfl trivial rfl rfl ?_
        refine op0 (sp_assign rfl rfl) rfl trivial rfl rfl ?_
        refine TL.nil ?_
        refine TC.inBlock ?_
        refine TC.region ?_
        refine op0 (sp_move rfl rfl) rfl trivial rfl rfl ?_
        obtain ⟨h52, h⟩ := chk_inv h
        refine op0 (sp_add rfl rfl rfl h52) rfl trivial rfl rfl ?_
        refine op0 (sp_assign rfl rfl) rfl trivial rfl rfl ?_
        refine TL.nil ?_
        refine TC.inLoop ?_
        refine TC.seq ?_
        refine TC.seq ?_
        refine subJ [] (ih _ _ h) ?_ ?_ ?_
        · exact ⟨rfl, rfl, rfl, rfl, rfl, rfl, rfl, trivial⟩
        · exact ⟨mem_at 0 rfl, mem_at 1 rfl, mem_at 2 rfl, trivial⟩
        · rfl
      · obtain ⟨x33, h53, h54, h⟩ := idx_inv h
        obtain ⟨x34, h55, h56, h⟩ := idx_inv h
        refine drawJ 10 [⟨.val (.bool b31), [], [], []⟩, ⟨.val (.bool false), [], [], []⟩, ⟨.ref 18, [], [], []⟩, ⟨.val (.int .i64 i23), [], [], []⟩, ⟨.cell 18 ((i23 : Int).toNat * 2), [], [.row 18 57 2 (List.map en_api_Train r14.1)], []⟩, ⟨.agg [.ref 49, .ref 50], [.ro 49 1 (List.map en_int x33.1), .ro 50 1 (List.map en_int x33.2)], [.row 18 57 2 (List.map en_api_Train r14.1)], []⟩, ⟨.ref 40, [], [], []⟩, ⟨.val (.int .i64 i32), [], [], []⟩, ⟨.cell 40 ((i32 : Int).toNat * 2), [], [.row 40 57 2 (List.map en_api_Train r20.1)], []⟩, ⟨.agg [.ref 51, .ref 52], [.ro 51 1 (List.map en_int x34.1), .ro 52 1 (List.map en_int x34.2)], [.row 40 57 2 (List.map en_api_Train r20.1)], []⟩] rfl ?_ rfl ?_ rfl ?_ ?_
        · kernel_rfl
        · kernel_rfl
        · exact DAll.op' (sp_move rfl rfl) trivial rfl (From.ok (ps := []) trivial) (DAll.op' (sp_castB h51 (sp_move rfl rfl)) trivial rfl (From.ok (ps := []) trivial) (DAll.op' (sp_move rfl rfl) ⟨_, rfl, rfl⟩ rfl (From.ok (ps := []) trivial) (DAll.op' (sp_move rfl rfl) ⟨_, rfl, rfl⟩ rfl (From.ok (ps := []) trivial) (DAll.op' (sp_indexS rfl rfl rfl isOwn sl52 h53 (map_get _ h54)) ⟨_, rfl, rfl⟩ rfl (From.ok (ps := [(none, 0)]) ⟨⟨rfl, rfl⟩, trivial⟩) (DAll.op' (sp_loadRA (i := (i23 : Int).toNat) (j := 0) (as_ := [.ref 49, .ref 50]) (ns := [.ro 49 1 (List.map en_int x33.1), .ro 50 1 (List.map en_int x33.2)]) rfl rfl isOwn vt57 rfl (map_get _ h54) rfl rfl (by decide) (.s (.s (.nil))) (nodup_of_B rfl)) ⟨_, rfl, rfl⟩ rfl (From.ok (ps := [(none, 0)]) ⟨⟨rfl, rfl⟩, trivial⟩) (DAll.op' (sp_move rfl rfl) ⟨_, rfl, rfl⟩ rfl (From.ok (ps := []) trivial) (DAll.op' (sp_move rfl rfl) ⟨_, rfl, rfl⟩ rfl (From.ok (ps := []) trivial) (DAll.op' (sp_indexS rfl rfl rfl isOwn sl52 h55 (map_get _ h56)) ⟨_, rfl, rfl⟩ rfl (From.ok (ps := [(none, 2)]) ⟨⟨rfl, rfl⟩, trivial⟩) (DAll.op' (sp_loadRA (i := (i32 : Int).toNat) (j := 0) (as_ := [.ref 51, .ref 52]) (ns := [.ro 51 1 (List.map en_int x34.1), .ro 52 1 (List.map en_int x34.2)]) rfl rfl isOwn vt57 rfl (map_get _ h56) rfl rfl (by decide) (.s (.s (.nil))) (nodup_of_B rfl)) ⟨_, rfl, rfl⟩ rfl (From.ok (ps := [(none, 2)]) ⟨⟨rfl, rfl⟩, trivial⟩) (.nil))))))))))
        obtain ⟨r35, h57, h⟩ := bind_inv h
        refine opN (need := [.ro 49 1 (List.map en_int x33.1), .ro 50 1 (List.map en_int x33.2), .ro 51 1 (List.map en_int x34.1), .ro 52 1 (List.map en_int x34.2)]) [2, 3, 0, 1] ⟨rfl, rfl, rfl, rfl, trivial⟩ (sp_call (avs := [.agg [.ref 49, .ref 50], .agg [.ref 51, .ref 52]]) (need := [.ro 49 1 (List.map en_int x33.1), .ro 50 1 (List.map en_int x33.2), .ro 51 1 (List.map en_int x34.1), .ro 52 1 (List.map en_int x34.2)]) (v := .val (.bool r35)) (news := []) rfl rfl rfl Try.call39 (atJ [(0, 49), (1, 50), (2, 51), (3, 52)] [] (fc_law01_equal h57) rfl rfl) (.inl (roAll rfl))) rfl ⟨_, rfl, rfl⟩ rfl rfl ?_
        refine op0 (sp_pickF rfl rfl rfl) rfl trivial rfl rfl ?_
        refine op0 (sp_assign rfl rfl) rfl trivial rfl rfl ?_
        refine TL.nil ?_
        refine TC.inBlock ?_
        refine TC.region ?_
        refine op0 (sp_move rfl rfl) rfl trivial rfl rfl ?_
        obtain ⟨h58, h⟩ := chk_inv h
        refine op0 (sp_add rfl rfl rfl h58) rfl trivial rfl rfl ?_
        refine op0 (sp_assign rfl rfl) rfl trivial rfl rfl ?_
        refine TL.nil ?_
        refine TC.inLoop ?_
        refine TC.seq ?_
        refine TC.seq ?_
        refine subJ [] (ih _ _ h) ?_ ?_ ?_
        · exact ⟨rfl, rfl, rfl, rfl, rfl, rfl, rfl, trivial⟩
        · exact ⟨mem_at 4 rfl, mem_at 5 rfl, mem_at 6 rfl, trivial⟩
        · rfl
    · have h := cond_f h h50
      refine TC.exit rfl ?_
      refine TC.seq ?_
      refine TC.region ?_
      refine op0 (sp_move rfl rfl) rfl trivial rfl rfl ?_
      refine op0 (sp_not rfl rfl) rfl trivial rfl rfl ?_
      refine op0 (sp_move rfl rfl) rfl trivial rfl rfl ?_
      rcases cond_cases h with ⟨h59, h⟩ | ⟨h59, h⟩
      · refine (boolLit 186 rfl h59).2 ?_
        refine opSkip rfl ⟨_, rfl, .inl rfl⟩ rfl ?_
        refine opSkip rfl ⟨_, rfl, .inl rfl⟩ rfl ?_
        refine op0 (sp_pickT rfl rfl rfl) rfl trivial rfl rfl ?_
        refine TL.nil ?_
        refine TC.condT rfl ?_
        refine TC.seq ?_
        refine TC.region ?_
        refine op0 (sp_assign rfl rfl) rfl trivial rfl rfl ?_
        refine TL.nil ?_
        cases h
        exact retJ [] (.tmp rfl .nil) rfl trivial rfl rfl
      · refine (boolLit 186 rfl h59).2 ?_
        refine op0 (sp_move rfl rfl) rfl ⟨_, rfl, rfl⟩ rfl rfl ?_
        refine op0 (sp_not rfl rfl) rfl ⟨_, rfl, rfl⟩ rfl rfl ?_
        refine op0 (sp_pickF rfl rfl rfl) rfl trivial rfl rfl ?_
        refine TL.nil ?_
        refine TC.cond (b := (!b31)) rfl (fun h60 => ?_) (fun h60 => ?_)
        · have h := cond_t h h60
          refine TC.seq ?_
          refine TC.region ?_
          refine op0 (sp_assign rfl rfl) rfl trivial rfl rfl ?_
          refine TL.nil ?_
          cases h
          exact retJ [] (.tmp rfl .nil) rfl trivial rfl rfl
        · have h := cond_f h h60
          refine TC.skip ?_
          refine TC.inBlock ?_
          refine TC.region ?_
          refine op0 (sp_move rfl rfl) rfl trivial rfl rfl ?_
          obtain ⟨h61, h⟩ := chk_inv h
          refine op0 (sp_add rfl rfl rfl h61) rfl trivial rfl rfl ?_
          refine op0 (sp_assign rfl rfl) rfl trivial rfl rfl ?_
          refine TL.nil ?_
          refine TC.inLoop ?_
          refine TC.seq ?_
          refine TC.seq ?_
          refine subJ [] (hk_law01_TrainInverse_l1 _ h) ?_ ?_ ?_
          · exact ⟨rfl, rfl, rfl, rfl, trivial⟩
          · exact ⟨mem_at 0 rfl, mem_at 1 rfl, mem_at 2 rfl, trivial⟩
          · rfl
def ev_law01_TrainInverse_l2 (n : Nat) (r15 : (List ((List Int) × (List Int))) × Int) (r14 : (List ((List Int) × (List Int))) × Int) (i23 : Int) (r20 : (List ((List Int) × (List Int))) × Int) (x24 : (List Int) × (List Int)) (x25 : (List Int) × (List Int)) (k_law01_TrainInverse_l1 : Int → Option Bool) : Nat → Bool → Int → Option Bool
  | 0, _, _ => none
  | m + 1, b26, i27 => cond (decide (i27 < (r15.1.length : Int))) (cond b26 (chk (in64 (i27 + 1)) <| ev_law01_TrainInverse_l2 n r15 r14 i23 r20 x24 x25 k_law01_TrainInverse_l1 m true (i27 + 1)) (idx r14.1 i23 fun x28 => idx r15.1 i27 fun x29 => (ev_law01_equal n x28.1 x28.2 x29.2 x29.1).bind fun r30 => chk (in64 (i27 + 1)) <| ev_law01_TrainInverse_l2 n r15 r14 i23 r20 x24 x25 k_law01_TrainInverse_l1 m r30 (i27 + 1))) (ev_law01_TrainInverse_l3 n r20 r14 i23 b26 k_law01_TrainInverse_l1 n (decide ((x24.1.length : Int) < (x25.1.length : Int))) 0)
set_option maxRecDepth 100000 in
set_option maxHeartbeats 2000000 in
theorem ok_law01_TrainInverse_l2 {n : Nat} {w0 : World} {R0 : Nat → Prop} {env0 : Env} {r : Bool} {x24 : (List Int) × (List Int)} {x25 : (List Int) × (List Int)} {r14 : (List ((List Int) × (List Int))) × Int} {r15 : (List ((List Int) × (List Int))) × Int} {r20 : (List ((List Int) × (List Int))) × Int} {i23 : Int} {k_law01_TrainInverse_l1 : Int → Option Bool} (hk_law01_TrainInverse_l1 : ∀ (i23 : Int), k_law01_TrainInverse_l1 i23 = some r → TC Try.prog ⟨w0, fun _ => False, R0⟩ 191 (bodyPost Try.prog Try.f10 (Post ⟨w0, fun _ => False, R0⟩ env0 (.val (.bool r)) [])) [.code (sub (bodyOf Try.f10) [1, 1, 1, 1, 1, 1, 1, 1, 1, 1, 0, 1, 0, 0, 0, 0]), .code (sub (bodyOf Try.f10) [1, 1, 1, 1, 1, 1, 1, 1, 1, 1, 0, 1, 0, 0, 0, 1]), .code (sub (bodyOf Try.f10) [1, 1, 1, 1, 1, 1, 1, 1, 1, 1, 0, 1, 0, 0, 1]), .inLoop (sub (bodyOf Try.f10) [1, 1, 1, 1, 1, 1, 1, 1, 1, 1, 0, 1, 0, 0]), .inBlock 0, .code (sub (bodyOf Try.f10) [1, 1, 1, 1, 1, 1, 1, 1, 1, 1, 1])] ([(11, .ref 18), (13, .ref 31), (16, .ref 40), (18, .val (.int .i64 i23))]) ([.row 18 57 2 (List.map en_api_Train r14.1), .row 31 57 2 (List.map en_api_Train r15.1), .row 40 57 2 (List.map en_api_Train r20.1)])) : ∀ (m : Nat) (b26 : Bool) (i27 : Int), ev_law01_TrainInverse_l2 n r15 r14 i23 r20 x24 x25 k_law01_TrainInverse_l1 m b26 i27 = some r → TC Try.prog ⟨w0, fun _ => False, R0⟩ 191 (bodyPost Try.prog Try.f10 (Post ⟨w0, fun _ => False, R0⟩ env0 (.val (.bool r)) [])) [.code (sub (bodyOf Try.f10) [1, 1, 1, 1, 1, 1, 1, 1, 1, 1, 0, 1, 0, 0, 1, 0, 0, 1, 0, 1, 0, 0, 0, 0]), .code (sub (bodyOf Try.f10) [1, 1, 1, 1, 1, 1, 1, 1, 1, 1, 0, 1, 0, 0, 1, 0, 0, 1, 0, 1, 0, 0, 0, 1]), .code (sub (bodyOf Try.f10) [1, 1, 1, 1, 1, 1, 1, 1, 1, 1, 0, 1, 0, 0, 1, 0, 0, 1, 0, 1, 0, 0, 1]), .inLoop (sub (bodyOf Try.f10) [1, 1, 1, 1, 1, 1, 1, 1, 1, 1, 0, 1, 0, 0, 1, 0, 0, 1, 0, 1, 0, 0]), .inBlock 2, .code (sub (bodyOf Try.f10) [1, 1, 1, 1, 1, 1, 1, 1, 1, 1, 0, 1, 0, 0, 1, 0, 0, 1, 1]), .inBlock 1, .code (sub (bodyOf Try.f10) [1, 1, 1, 1, 1, 1, 1, 1, 1, 1, 0, 1, 0, 0, 1, 1]), .inLoop (sub (bodyOf Try.f10) [1, 1, 1, 1, 1, 1, 1, 1, 1, 1, 0, 1, 0, 0]), .inBlock 0, .code (sub (bodyOf Try.f10) [1, 1, 1, 1, 1, 1, 1, 1, 1, 1, 1])] ([(11, .ref 18), (13, .ref 31), (16, .ref 40), (18, .val (.int .i64 i23)), (19, .val (.bool b26)), (20, .val (.bool (decide ((x24.1.length : Int) < (x25.1.length : Int))))), (21, .val (.int .i64 i27))]) ([.row 18 57 2 (List.map en_api_Train r14.1), .row 31 57 2 (List.map en_api_Train r15.1), .row 40 57 2 (List.map en_api_Train r20.1)]) := by
  intro m
  induction m with
  | zero => intro b26 i27 h; exact none_no h
  | succ m ih =>
    intro b26 i27 h
    rw [ev_law01_TrainInverse_l2] at h
    refine TC.region ?_
    refine op0 (sp_move rfl rfl) rfl trivial rfl rfl ?_
    refine op0 (sp_move rfl rfl) rfl trivial rfl rfl ?_
    refine op1 1 rfl (sp_lenM (N := r15.1.length) (len_map _ _) rfl rfl isOwn Try.underlying52) rfl trivial rfl rfl ?_
    refine op0 (sp_lss rfl rfl rfl) rfl trivial rfl rfl ?_
    refine TL.nil ?_
    refine TC.cond (b := (decide (i27 < (r15.1.length : Int)))) rfl (fun h41 => ?_) (fun h41 => ?_)
    · have h := cond_t h h41
      refine TC.skip ?_
      refine TC.seq ?_
      refine TC.block ?_
      rcases cond_cases h with ⟨h42, h⟩ | ⟨h42, h⟩
      · refine drawJ 17 [⟨.val (.bool b26), [], [], []⟩, ⟨.val (.bool true), [], [], []⟩, ⟨.val (undef), [], [], []⟩, ⟨.val (undef), [], [], []⟩, ⟨.val (undef), [], [], []⟩, ⟨.val (undef), [], [], []⟩, ⟨.val (undef), [], [], []⟩, ⟨.val (undef), [], [], []⟩, ⟨.val (undef), [], [], []⟩, ⟨.val (undef), [], [], []⟩, ⟨.val (undef), [], [], []⟩, ⟨.val (undef), [], [], []⟩, ⟨.val (undef), [], [], []⟩, ⟨.val (undef), [], [], []⟩, ⟨.val (undef), [], [], []⟩, ⟨.val (undef), [], [], []⟩, ⟨.val (undef), [], [], []⟩] rfl ?_ rfl ?_ rfl ?_ ?_
        · kernel_rfl
        · kernel_rfl
        · exact DAll.op' (sp_move rfl rfl) trivial rfl (From.ok (ps := []) trivial) (DAll.op' (sp_castB h42 (sp_move rfl rfl)) trivial rfl (From.ok (ps := []) trivial) (.skip ⟨_, rfl, .inl rfl⟩ rfl rfl rfl (.skip ⟨_, rfl, .inl rfl⟩ rfl rfl rfl (.skip ⟨_, rfl, .inl rfl⟩ rfl rfl rfl (.skip ⟨_, rfl, .inl rfl⟩ rfl rfl rfl (.skip ⟨_, rfl, .inl rfl⟩ rfl rfl rfl (.skip ⟨_, rfl, .inl rfl⟩ rfl rfl rfl (.skip ⟨_, rfl, .inl rfl⟩ rfl rfl rfl (.skip ⟨_, rfl, .inl rfl⟩ rfl rfl rfl (.skip ⟨_, rfl, .inl rfl⟩ rfl rfl rfl (.skip ⟨_, rfl, .inl rfl⟩ rfl rfl rfl (.skip ⟨_, rfl, .inl rfl⟩ rfl rfl rfl (.skip ⟨_, rfl, .inl rfl⟩ rfl rfl rfl (.skip ⟨_, rfl, .inl rfl⟩ rfl rfl rfl (.skip ⟨_, rfl, .inl rfl⟩ rfl rfl rfl (.skip ⟨_, rfl, .inl rfl⟩ rfl rfl rfl (.nil)))))))))))))))))
        refine opSkip rfl ⟨_, rfl, .inl rfl⟩ rfl ?_
        refine op0 (sp_pickT rfl rfl rfl) rfl trivial rfl rfl ?_
        refine op0 (sp_assign rfl rfl) rfl trivial rfl rfl ?_
        refine TL.nil ?_
        refine TC.inBlock ?_
        refine TC.region ?_
        refine op0 (sp_move rfl rfl) rfl trivial rfl rfl ?_
        obtain ⟨h43, h⟩ := chk_inv h
        refine op0 (sp_add rfl rfl rfl h43) rfl trivial rfl rfl ?_
        refine op0 (sp_assign rfl rfl) rfl trivial rfl rfl ?_
        refine TL.nil ?_
        refine TC.inLoop ?_
        refine TC.seq ?_
        refine TC.seq ?_
        refine subJ [] (ih _ _ h) ?_ ?_ ?_
        · exact ⟨rfl, rfl, rfl, rfl, rfl, rfl, rfl, trivial⟩
        · exact ⟨mem_at 0 rfl, mem_at 1 rfl, mem_at 2 rfl, trivial⟩
        · rfl
      · obtain ⟨x28, h44, h45, h⟩ := idx_inv h
        obtain ⟨x29, h46, h47, h⟩ := idx_inv h
        refine drawJ 17 [⟨.val (.bool b26), [], [], []⟩, ⟨.val (.bool false), [], [], []⟩, ⟨.ref 18, [], [], []⟩, ⟨.val (.int .i64 i23), [], [], []⟩, ⟨.cell 18 ((i23 : Int).toNat * 2), [], [.row 18 57 2 (List.map en_api_Train r14.1)], []⟩, ⟨.agg [.ref 45, .ref 46], [.ro 45 1 (List.map en_int x28.1), .ro 46 1 (List.map en_int x28.2)], [.row 18 57 2 (List.map en_api_Train r14.1)], []⟩, ⟨.ref 31, [], [], []⟩, ⟨.val (.int .i64 i27), [], [], []⟩, ⟨.cell 31 ((i27 : Int).toNat * 2), [], [.row 31 57 2 (List.map en_api_Train r15.1)], []⟩, ⟨.cell 31 ((i27 : Int).toNat * 2 + 1), [], [.row 31 57 2 (List.map en_api_Train r15.1)], []⟩, ⟨.ref 47, [.ro 47 1 (List.map en_int x29.2)], [.row 31 57 2 (List.map en_api_Train r15.1)], []⟩, ⟨.ref 31, [], [], []⟩, ⟨.val (.int .i64 i27), [], [], []⟩, ⟨.cell 31 ((i27 : Int).toNat * 2), [], [.row 31 57 2 (List.map en_api_Train r15.1)], []⟩, ⟨.cell 31 ((i27 : Int).toNat * 2 + 0), [], [.row 31 57 2 (List.map en_api_Train r15.1)], []⟩, ⟨.ref 48, [.ro 48 1 (List.map en_int x29.1)], [.row 31 57 2 (List.map en_api_Train r15.1)], []⟩, ⟨.agg [.ref 47, .ref 48], [], [], []⟩] rfl ?_ rfl ?_ rfl ?_ ?_
        · kernel_rfl
        · kernel_rfl
        · exact DAll.op' (sp_move rfl rfl) trivial rfl (From.ok (ps := []) trivial) (DAll.op' (sp_castB h42 (sp_move rfl rfl)) trivial rfl (From.ok (ps := []) trivial) (DAll.op' (sp_move rfl rfl) ⟨_, rfl, rfl⟩ rfl (From.ok (ps := []) trivial) (DAll.op' (sp_move rfl rfl) ⟨_, rfl, rfl⟩ rfl (From.ok (ps := []) trivial) (DAll.op' (sp_indexS rfl rfl rfl isOwn sl52 h44 (map_get _ h45)) ⟨_, rfl, rfl⟩ rfl (From.ok (ps := [(none, 0)]) ⟨⟨rfl, by kernel_rfl⟩, trivial⟩) (DAll.op' (sp_loadRA (i := (i23 : Int).toNat) (j := 0) (as_ := [.ref 45, .ref 46]) (ns := [.ro 45 1 (List.map en_int x28.1), .ro 46 1 (List.map en_int x28.2)]) rfl rfl isOwn vt57 rfl (map_get _ h45) rfl rfl (by decide) (.s (.s (.nil))) (nodup_of_B rfl)) ⟨_, rfl, rfl⟩ rfl (From.ok (ps := [(none, 0)]) ⟨⟨rfl, by kernel_rfl⟩, trivial⟩) (DAll.op' (sp_move rfl rfl) ⟨_, rfl, rfl⟩ rfl (From.ok (ps := []) trivial) (DAll.op' (sp_move rfl rfl) ⟨_, rfl, rfl⟩ rfl (From.ok (ps := []) trivial) (DAll.op' (sp_indexS rfl rfl rfl isOwn sl52 h46 (map_get _ h47)) ⟨_, rfl, rfl⟩ rfl (From.ok (ps := [(none, 1)]) ⟨⟨rfl, by kernel_rfl⟩, trivial⟩) (DAll.op' (sp_fieldAddrR (i := (i27 : Int).toNat) rfl rfl isOwn ft57_1 vt38 (by decide) (map_get _ h47) (fun h => nomatch h)) ⟨_, rfl, rfl⟩ rfl (From.ok (ps := [(none, 1)]) ⟨⟨rfl, by kernel_rfl⟩, trivial⟩) (DAll.op' (sp_loadR (i := (i27 : Int).toNat) (j := 1) (ns := [.ro 47 1 (List.map en_int x29.2)]) rfl rfl isOwn vt38 rfl (map_get _ h47) rfl (.s (.nil)) (nodup_of_B rfl)) ⟨_, rfl, rfl⟩ rfl (From.ok (ps := [(none, 1)]) ⟨⟨rfl, by kernel_rfl⟩, trivial⟩) (DAll.op' (sp_move rfl rfl) ⟨_, rfl, rfl⟩ rfl (From.ok (ps := []) trivial) (DAll.op' (sp_move rfl rfl) ⟨_, rfl, rfl⟩ rfl (From.ok (ps := []) trivial) (DAll.op' (sp_indexS rfl rfl rfl isOwn sl52 h46 (map_get _ h47)) ⟨_, rfl, rfl⟩ rfl (From.ok (ps := [(none, 1)]) ⟨⟨rfl, by kernel_rfl⟩, trivial⟩) (DAll.op' (sp_fieldAddrR (i := (i27 : Int).toNat) rfl rfl isOwn ft57_0 vt38 (by decide) (map_get _ h47) (fun h => nomatch h)) ⟨_, rfl, rfl⟩ rfl (From.ok (ps := [(none, 1)]) ⟨⟨rfl, by kernel_rfl⟩, trivial⟩) (DAll.op' (sp_loadR (i := (i27 : Int).toNat) (j := 0) (ns := [.ro 48 1 (List.map en_int x29.1)]) rfl rfl isOwn vt38 rfl (map_get _ h47) rfl (.s (.nil)) (nodup_of_B rfl)) ⟨_, rfl, rfl⟩ rfl (From.ok (ps := [(none, 1)]) ⟨⟨rfl, by kernel_rfl⟩, trivial⟩) (DAll.op' (sp_build (qs := [(0, .ref 47), (1, .ref 48)]) rfl bt57 rfl rfl rfl rfl) ⟨_, rfl, rfl⟩ rfl (From.ok (ps := []) trivial) (.nil)))))))))))))))))
        obtain ⟨r30, h48, h⟩ := bind_inv h
        refine opN (need := [.ro 45 1 (List.map en_int x28.1), .ro 46 1 (List.map en_int x28.2), .ro 47 1 (List.map en_int x29.2), .ro 48 1 (List.map en_int x29.1)]) [2, 3, 1, 0] ⟨rfl, rfl, rfl, rfl, trivial⟩ (sp_call (avs := [.agg [.ref 45, .ref 46], .agg [.ref 47, .ref 48]]) (need := [.ro 45 1 (List.map en_int x28.1), .ro 46 1 (List.map en_int x28.2), .ro 47 1 (List.map en_int x29.2), .ro 48 1 (List.map en_int x29.1)]) (v := .val (.bool r30)) (news := []) rfl rfl rfl Try.call39 (atJ [(0, 45), (1, 46), (2, 47), (3, 48)] [] (fc_law01_equal h48) rfl rfl) (.inl (roAll rfl))) rfl ⟨_, rfl, rfl⟩ rfl rfl ?_
        refine op0 (sp_pickF rfl rfl rfl) rfl trivial rfl rfl ?_
        refine op0 (sp_assign rfl rfl) rfl trivial rfl rfl ?_
        refine TL.nil ?_
        refine TC.inBlock ?_
        refine TC.region ?_
        refine op0 (sp_move rfl rfl) rfl trivial rfl rfl ?_
        obtain ⟨h49, h⟩ := chk_inv h
        refine op0 (sp_add rfl rfl rfl h49) rfl trivial rfl rfl ?_
        refine op0 (sp_assign rfl rfl) rfl trivial rfl rfl ?_
        refine TL.nil ?_
        refine TC.inLoop ?_
        refine TC.seq ?_
        refine TC.seq ?_
        refine subJ [] (ih _ _ h) ?_ ?_ ?_
        · exact ⟨rfl, rfl, rfl, rfl, rfl, rfl, rfl, trivial⟩
        · exact ⟨mem_at 4 rfl, mem_at 5 rfl, mem_at 6 rfl, trivial⟩
        · rfl
    · have h := cond_f h h41
      refine TC.exit rfl ?_
      refine TC.seq ?_
      refine TC.seq ?_
      refine TC.region ?_
      refine op0 (sp_assign rfl rfl) rfl trivial rfl rfl ?_
      refine TL.nil ?_
      refine TC.block ?_
      refine TC.loop ?_
      refine TC.seq ?_
      refine TC.seq ?_
      refine subJ [] (ok_law01_TrainInverse_l3 (r15 := r15) hk_law01_TrainInverse_l1 _ _ _ h) ?_ ?_ ?_
      · exact ⟨rfl, rfl, rfl, rfl, rfl, rfl, rfl, trivial⟩
      · exact ⟨mem_at 0 rfl, mem_at 1 rfl, mem_at 2 rfl, trivial⟩
      · rfl
def ev_law01_TrainInverse_l1 (n : Nat) (r14 : (List ((List Int) × (List Int))) × Int) (r20 : (List ((List Int) × (List Int))) × Int) (r15 : (List ((List Int) × (List Int))) × Int) : Nat → Int → Option Bool
  | 0, _ => none
  | m + 1, i23 => cond (decide (i23 < (r14.1.length : Int))) (idx r20.1 0 fun x24 => idx r14.1 0 fun x25 => ev_law01_TrainInverse_l2 n r15 r14 i23 r20 x24 x25 (fun i23q => ev_law01_TrainInverse_l1 n r14 r20 r15 m i23q) n false 0) ((ev_law01_known n).bind fun r36 => some r36)
set_option maxRecDepth 100000 in
set_option maxHeartbeats 2000000 in
theorem ok_law01_TrainInverse_l1 {n : Nat} {w0 : World} {R0 : Nat → Prop} {env0 : Env} {r : Bool} {r14 : (List ((List Int) × (List Int))) × Int} {r15 : (List ((List Int) × (List Int))) × Int} {r20 : (List ((List Int) × (List Int))) × Int} : ∀ (m : Nat) (i23 : Int), ev_law01_TrainInverse_l1 n r14 r20 r15 m i23 = some r → TC Try.prog ⟨w0, fun _ => False, R0⟩ 191 (bodyPost Try.prog Try.f10 (Post ⟨w0, fun _ => False, R0⟩ env0 (.val (.bool r)) [])) [.code (sub (bodyOf Try.f10) [1, 1, 1, 1, 1, 1, 1, 1, 1, 1, 0, 1, 0, 0, 0, 0]), .code (sub (bodyOf Try.f10) [1, 1, 1, 1, 1, 1, 1, 1, 1, 1, 0, 1, 0, 0, 0, 1]), .code (sub (bodyOf Try.f10) [1, 1, 1, 1, 1, 1, 1, 1, 1, 1, 0, 1, 0, 0, 1]), .inLoop (sub (bodyOf Try.f10) [1, 1, 1, 1, 1, 1, 1, 1, 1, 1, 0, 1, 0, 0]), .inBlock 0, .code (sub (bodyOf Try.f10) [1, 1, 1, 1, 1, 1, 1, 1, 1, 1, 1])] ([(11, .ref 18), (13, .ref 31), (16, .ref 40), (18, .val (.int .i64 i23))]) ([.row 18 57 2 (List.map en_api_Train r14.1), .row 31 57 2 (List.map en_api_Train r15.1), .row 40 57 2 (List.map en_api_Train r20.1)]) := by
  intro m
  induction m with
  | zero => intro i23 h; exact none_no h
  | succ m ih =>
    intro i23 h
    rw [ev_law01_TrainInverse_l1] at h
    refine TC.region ?_
    refine op0 (sp_move rfl rfl) rfl trivial rfl rfl ?_
    refine op0 (sp_move rfl rfl) rfl trivial rfl rfl ?_
    refine op1 0 rfl (sp_lenM (N := r14.1.length) (len_map _ _) rfl rfl isOwn Try.underlying52) rfl trivial rfl rfl ?_
    refine op0 (sp_lss rfl rfl rfl) rfl trivial rfl rfl ?_
    refine TL.nil ?_
    refine TC.cond (b := (decide (i23 < (r14.1.length : Int)))) rfl (fun h36 => ?_) (fun h36 => ?_)
    · have h := cond_t h h36
      refine TC.skip ?_
      refine TC.seq ?_
      refine TC.block ?_
      refine TC.seq ?_
      obtain ⟨x24, h37, h38, h⟩ := idx_inv h
      obtain ⟨x25, h39, h40, h⟩ := idx_inv h
      refine drawJ 12 [⟨.ref 40, [], [], []⟩, ⟨.cell 40 ((0 : Int).toNat * 2), [], [.row 40 57 2 (List.map en_api_Train r20.1)], []⟩, ⟨.cell 40 ((0 : Int).toNat * 2 + 0), [], [.row 40 57 2 (List.map en_api_Train r20.1)], []⟩, ⟨.ref 43, [.ro 43 1 (List.map en_int x24.1)], [.row 40 57 2 (List.map en_api_Train r20.1)], []⟩, ⟨.val (.int .i64 (x24.1.length : Int)), [], [.ro 43 1 (List.map en_int x24.1)], []⟩, ⟨.ref 18, [], [], []⟩, ⟨.cell 18 ((0 : Int).toNat * 2), [], [.row 18 57 2 (List.map en_api_Train r14.1)], []⟩, ⟨.cell 18 ((0 : Int).toNat * 2 + 0), [], [.row 18 57 2 (List.map en_api_Train r14.1)], []⟩, ⟨.ref 44, [.ro 44 1 (List.map en_int x25.1)], [.row 18 57 2 (List.map en_api_Train r14.1)], []⟩, ⟨.val (.int .i64 (x25.1.length : Int)), [], [.ro 44 1 (List.map en_int x25.1)], []⟩, ⟨.val (.bool (decide ((x24.1.length : Int) < (x25.1.length : Int)))), [], [], []⟩, ⟨.val (.bool false), [], [], []⟩] rfl ?_ rfl ?_ rfl ?_ ?_
      · kernel_rfl
      · kernel_rfl
      · exact DAll.op' (sp_move rfl rfl) trivial rfl (From.ok (ps := []) trivial) (DAll.op' (sp_indexS rfl rfl rfl isOwn sl52 h37 (map_get _ h38)) trivial rfl (From.ok (ps := [(none, 2)]) ⟨⟨rfl, rfl⟩, trivial⟩) (DAll.op' (sp_fieldAddrR (i := (0 : Int).toNat) rfl rfl isOwn ft57_0 vt38 (by decide) (map_get _ h38) (fun h => nomatch h)) trivial rfl (From.ok (ps := [(none, 2)]) ⟨⟨rfl, rfl⟩, trivial⟩) (DAll.op' (sp_loadR (i := (0 : Int).toNat) (j := 0) (ns := [.ro 43 1 (List.map en_int x24.1)]) rfl rfl isOwn vt38 rfl (map_get _ h38) rfl (.s (.nil)) (nodup_of_B rfl)) trivial rfl (From.ok (ps := [(none, 2)]) ⟨⟨rfl, rfl⟩, trivial⟩) (DAll.op' (sp_lenM (N := x24.1.length) (len_map _ _) rfl rfl isRo Try.underlying38) trivial rfl (From.ok (ps := [(some 3, 0)]) ⟨⟨_, rfl, rfl, rfl, rfl⟩, trivial⟩) (DAll.op' (sp_move rfl rfl) trivial rfl (From.ok (ps := []) trivial) (DAll.op' (sp_indexS rfl rfl rfl isOwn sl52 h39 (map_get _ h40)) trivial rfl (From.ok (ps := [(none, 0)]) ⟨⟨rfl, rfl⟩, trivial⟩) (DAll.op' (sp_fieldAddrR (i := (0 : Int).toNat) rfl rfl isOwn ft57_0 vt38 (by decide) (map_get _ h40) (fun h => nomatch h)) trivial rfl (From.ok (ps := [(none, 0)]) ⟨⟨rfl, rfl⟩, trivial⟩) (DAll.op' (sp_loadR (i := (0 : Int).toNat) (j := 0) (ns := [.ro 44 1 (List.map en_int x25.1)]) rfl rfl isOwn vt38 rfl (map_get _ h40) rfl (.s (.nil)) (nodup_of_B rfl)) trivial rfl (From.ok (ps := [(none, 0)]) ⟨⟨rfl, rfl⟩, trivial⟩) (DAll.op' (sp_lenM (N := x25.1.length) (len_map _ _) rfl rfl isRo Try.underlying38) trivial rfl (From.ok (ps := [(some 8, 0)]) ⟨⟨_, rfl, rfl, rfl, rfl⟩, trivial⟩) (DAll.op' (sp_lss rfl rfl rfl) trivial rfl (From.ok (ps := []) trivial) (DAll.op' (sp_assign rfl rfl) trivial rfl (From.ok (ps := []) trivial) (.nil))))))))))))
      refine op0 (sp_assign rfl rfl) rfl trivial rfl rfl ?_
      refine TL.nil ?_
      refine TC.seq ?_
      refine TC.seq ?_
      refine TC.region ?_
      refine op0 (sp_assign rfl rfl) rfl trivial rfl rfl ?_
      refine TL.nil ?_
      refine TC.block ?_
      refine TC.loop ?_
      refine TC.seq ?_
      refine TC.seq ?_
      refine subJ [] (ok_law01_TrainInverse_l2 ih _ _ _ h) ?_ ?_ ?_
      · exact ⟨rfl, rfl, rfl, rfl, rfl, rfl, rfl, trivial⟩
      · exact ⟨mem_at 2 rfl, mem_at 3 rfl, mem_at 4 rfl, trivial⟩
      · rfl
    · have h := cond_f h h36
      refine TC.exit rfl ?_
      refine TC.seq ?_
      refine TC.region ?_
      obtain ⟨r36, h62, h⟩ := bind_inv h
      refine op0 (sp_call (avs := []) (need := []) (v := .val (.bool r36)) (news := []) rfl rfl rfl Try.call12 (atJ [] [] (fc_law01_known h62) rfl rfl) (.inl (roAll rfl))) rfl trivial rfl rfl ?_
      refine op0 (sp_assign rfl rfl) rfl trivial rfl rfl ?_
      refine TL.nil ?_
      cases h
      exact retJ [] (.tmp rfl .nil) rfl trivial rfl rfl
def ev_law01_TrainInverse_j0 (n : Nat) (r14 : (List ((List Int) × (List Int))) × Int) (r20 : (List ((List Int) × (List Int))) × Int) (r15 : (List ((List Int) × (List Int))) × Int) : Option Bool :=
  ev_law01_TrainInverse_l1 n r14 r20 r15 n 0
set_option maxRecDepth 100000 in
set_option maxHeartbeats 2000000 in
theorem ok_law01_TrainInverse_j0 {n : Nat} {w0 : World} {R0 : Nat → Prop} {env0 : Env} {r : Bool} {r14 : (List ((List Int) × (List Int))) × Int} {r15 : (List ((List Int) × (List Int))) × Int} {r20 : (List ((List Int) × (List Int))) × Int} (h : ev_law01_TrainInverse_j0 n r14 r20 r15 = some r) : TC Try.prog ⟨w0, fun _ => False, R0⟩ 191 (bodyPost Try.prog Try.f10 (Post ⟨w0, fun _ => False, R0⟩ env0 (.val (.bool r)) [])) [.code (sub (bodyOf Try.f10) [1, 1, 1, 1, 1, 1, 1, 1, 1, 0, 1, 1]), .code (sub (bodyOf Try.f10) [1, 1, 1, 1, 1, 1, 1, 1, 1, 1])] ([(11, .ref 18), (13, .ref 31), (16, .ref 40)]) ([.row 18 57 2 (List.map en_api_Train r14.1), .row 31 57 2 (List.map en_api_Train r15.1), .row 40 57 2 (List.map en_api_Train r20.1)]) := by
  rw [ev_law01_TrainInverse_j0] at h
  refine TC.skip ?_
  refine TC.seq ?_
  refine TC.seq ?_
  refine TC.region ?_
  refine op0 (sp_assign rfl rfl) rfl trivial rfl rfl ?_
  refine TL.nil ?_
  refine TC.block ?_
  refine TC.loop ?_
  refine TC.seq ?_
  refine TC.seq ?_
  refine subJ [] (ok_law01_TrainInverse_l1 _ _ h) ?_ ?_ ?_
  · exact ⟨rfl, rfl, rfl, rfl, trivial⟩
  · exact ⟨mem_at 0 rfl, mem_at 1 rfl, mem_at 2 rfl, trivial⟩
  · rfl
def ev_law01_TrainInverse (n : Nat) (c1 : List Int) (c2 : List Int) (by_3 : List Int) (more4 : List Int) : Option Bool :=
  (ev_law01_Cutters_shop n c1 c2).bind fun r5 => chk (in64 ((1 : Int) + (Int.tmod (by_3.length : Int) 2))) <| (ev_law01_picked n r5.1 r5.2 by_3 ((1 : Int) + (Int.tmod (by_3.length : Int) 2))).bind fun r6 => (ev_law01_product n r6.1).bind fun r7 => (ev_law01_product n r6.2).bind fun r8 => (ev_law01_lowest n r7 r8).bind fun r9 => cond (!r9.2.2) ((ev_law01_known n).bind fun r10 => some r10) ((ev_law01_copied n r5.1 r5.2).bind fun r13 => (ev_train_Fewest n r13.1 r13.2 r9.1 r9.2.1).bind fun r14 => chk (room 8 (([] : List Int).length + r5.2.length)) <| chk (room 8 (([] : List Int).length + r5.1.length)) <| (ev_train_Fewest n (([] : List Int) ++ r5.2) (([] : List Int) ++ r5.1) r9.2.1 r9.1).bind fun r15 => (ev_law01_wider n c1 more4 30 10).bind fun r16 => (ev_law01_copied n r16 r5.2).bind fun r19 => (ev_train_Fewest n r19.1 r19.2 r9.1 r9.2.1).bind fun r20 => cond (r14.2 != 0) (some false) (cond (r15.2 != 0) (some false) (cond (r20.2 != 0) (some false) (cond ((r15.1.length : Int) != (r14.1.length : Int)) (some false) (cond ((r14.1.length : Int) == 0) (some false) (cond ((r20.1.length : Int) == 0) (some false) (idx r20.1 0 fun x21 => idx r14.1 0 fun x22 => cond (decide ((x22.1.length : Int) < (x21.1.length : Int))) (some false) (ev_law01_TrainInverse_j0 n r14 r20 r15))))))))
set_option maxRecDepth 100000 in
set_option maxHeartbeats 2000000 in
theorem fc_law01_TrainInverse {n : Nat} {c1 : List Int} {c2 : List Int} {by_3 : List Int} {more4 : List Int} {r : Bool} (h : ev_law01_TrainInverse n c1 c2 by_3 more4 = some r) : FC Try.prog 10 [.agg [.ref 0, .ref 1], .ref 2, .ref 3] [.ro 0 1 (List.map en_uint8 c1), .ro 1 1 (List.map en_uint8 c2), .ro 2 1 (List.map en_uint8 by_3), .ro 3 1 (List.map en_uint8 more4)] (.val (.bool r)) [] := by
  refine introJ (nz := 191) Try.func10 rfl rfl rfl (fun w0 R0 env0 => ?_)
  rw [ev_law01_TrainInverse] at h
  refine TC.seq ?_
  refine TC.region ?_
  refine op0 (sp_box 4 rfl rfl rfl rfl rfl) rfl trivial rfl rfl ?_
  refine op0 (sp_assign rfl rfl) rfl trivial rfl rfl ?_
  refine TL.nil ?_
  refine TC.seq ?_
  refine TC.region ?_
  refine op1 0 rfl (sp_loadBA rfl isBlk rfl vt64 rfl rfl) rfl trivial rfl rfl ?_
  obtain ⟨r5, h1, h⟩ := bind_inv h
  refine opN (need := [.ro 0 1 (List.map en_uint8 c1), .ro 1 1 (List.map en_uint8 c2)]) [1, 2] ⟨rfl, rfl, trivial⟩ (sp_call (avs := [.agg [.ref 0, .ref 1]]) (need := [.ro 0 1 (List.map en_uint8 c1), .ro 1 1 (List.map en_uint8 c2)]) (v := .agg [.ref 5, .ref 6]) (news := [.row 5 3 1 (List.map en_int r5.1), .row 6 3 1 (List.map en_int r5.2)]) rfl rfl rfl Try.call34 (atJ [] [(0, 5), (1, 6)] (fc_law01_Cutters_shop h1) rfl rfl) (.inl (roAll rfl))) rfl trivial rfl rfl ?_
  refine op0 (sp_alloc 7 rfl Try.zeroValue40 rfl) rfl trivial rfl rfl ?_
  refine stoB 0 (cells' := [.ref 5, .ref 6]) rfl rfl trivial rfl rfl rfl rfl vt40 rfl rfl rfl ?_
  refine TL.nil ?_
  refine TC.seq ?_
  refine TC.region ?_
  refine op1 0 rfl (sp_loadBA rfl isBlk rfl vt40 rfl rfl) rfl trivial rfl rfl ?_
  refine op0 (sp_move rfl rfl) rfl trivial rfl rfl ?_
  refine op0 (sp_move rfl rfl) rfl trivial rfl rfl ?_
  refine op1 6 rfl (sp_lenM (N := by_3.length) (len_map _ _) rfl rfl isRo Try.underlying62) rfl trivial rfl rfl ?_
  refine op0 (sp_rem rfl rfl rfl (by decide)) rfl trivial rfl rfl ?_
  obtain ⟨h2, h⟩ := chk_inv h
  refine op0 (sp_add rfl rfl rfl h2) rfl trivial rfl rfl ?_
  obtain ⟨r6, h3, h⟩ := bind_inv h
  refine opN (need := [.row 5 3 1 (List.map en_int r5.1), .row 6 3 1 (List.map en_int r5.2), .ro 2 1 (List.map en_uint8 by_3)]) [1, 2, 6] ⟨rfl, rfl, rfl, trivial⟩ (sp_call (avs := [.agg [.ref 5, .ref 6], .ref 2, .val (.int .i64 ((1 : Int) + (Int.tmod (by_3.length : Int) 2)))]) (need := [.row 5 3 1 (List.map en_int r5.1), .row 6 3 1 (List.map en_int r5.2), .ro 2 1 (List.map en_uint8 by_3)]) (v := .agg [.ref 8, .ref 9]) (news := [.row 8 3 1 (List.map en_int r6.1), .row 9 3 1 (List.map en_int r6.2)]) rfl rfl rfl Try.call35 (atJ [(0, 5), (1, 6)] [(0, 8), (1, 9)] (fc_law01_picked h3) rfl rfl) (.inr (List.forall_mem_cons.2 ⟨indep_map en_int_flat, List.forall_mem_cons.2 ⟨indep_map en_int_flat, (by simp)⟩⟩))) rfl trivial rfl rfl ?_
  refine op0 (sp_alloc 10 rfl Try.zeroValue57 rfl) rfl trivial rfl rfl ?_
  refine stoB 0 (cells' := [.ref 8, .ref 9]) rfl rfl trivial rfl rfl rfl rfl vt57 rfl rfl rfl ?_
  refine TL.nil ?_
  refine TC.seq ?_
  obtain ⟨r7, h4, h⟩ := bind_inv h
  obtain ⟨r8, h5, h⟩ := bind_inv h
  obtain ⟨r9, h6, h⟩ := bind_inv h
  refine drawJ 12 [⟨.ptr 10 0, [], [.blk 10 [.ref 8, .ref 9] 57], []⟩, ⟨.ref 8, [], [.blk 10 [.ref 8, .ref 9] 57], []⟩, ⟨.val (.int .i64 r7), [], [.row 8 3 1 (List.map en_int r6.1)], []⟩, ⟨.ptr 10 1, [], [.blk 10 [.ref 8, .ref 9] 57], []⟩, ⟨.ref 9, [], [.blk 10 [.ref 8, .ref 9] 57], []⟩, ⟨.val (.int .i64 r8), [], [.row 9 3 1 (List.map en_int r6.2)], []⟩, ⟨.tup [.agg [.val (.int .i64 r9.1), .val (.int .i64 r9.2.1)], .val (.bool r9.2.2)], [], [], []⟩, ⟨.tup [.agg [.val (.int .i64 r9.1), .val (.int .i64 r9.2.1)], .val (.bool r9.2.2)], [], [], []⟩, ⟨.agg [.val (.int .i64 r9.1), .val (.int .i64 r9.2.1)], [], [], []⟩, ⟨.val (.bool r9.2.2), [], [], []⟩, ⟨.ptr 11 0, [.blk 11 [.val (.int .i64 0), .val (.int .i64 0)] 26], [], []⟩, ⟨.val (undef), [.blk 11 [.val (.int .i64 r9.1), .val (.int .i64 r9.2.1)] 26], [], [.blk 11 [.val (.int .i64 0), .val (.int .i64 0)] 26]⟩] rfl ?_ rfl ?_ rfl ?_ ?_
  · kernel_rfl
  · kernel_rfl
  · exact DAll.op' (sp_fieldAddrB rfl isBlk rfl ft57_0 vt38 (by decide)) trivial rfl (From.ok (ps := [(none, 0)]) ⟨⟨rfl, by kernel_rfl⟩, trivial⟩) (DAll.op' (sp_loadB rfl isBlk rfl vt38 rfl) trivial rfl (From.ok (ps := [(none, 0)]) ⟨⟨rfl, by kernel_rfl⟩, trivial⟩) (DAll.op' (sp_call (avs := [.ref 8]) (need := [.row 8 3 1 (List.map en_int r6.1)]) (v := .val (.int .i64 r7)) (news := []) rfl rfl rfl Try.call37 (atJ [(0, 8)] [] (fc_law01_product h4) rfl rfl) (.inr (fun x hx => nomatch hx))) trivial rfl (From.ok (ps := [(none, 1)]) ⟨⟨rfl, by kernel_rfl⟩, trivial⟩) (DAll.op' (sp_fieldAddrB rfl isBlk rfl ft57_1 vt38 (by decide)) trivial rfl (From.ok (ps := [(none, 0)]) ⟨⟨rfl, by kernel_rfl⟩, trivial⟩) (DAll.op' (sp_loadB rfl isBlk rfl vt38 rfl) trivial rfl (From.ok (ps := [(none, 0)]) ⟨⟨rfl, by kernel_rfl⟩, trivial⟩) (DAll.op' (sp_call (avs := [.ref 9]) (need := [.row 9 3 1 (List.map en_int r6.2)]) (v := .val (.int .i64 r8)) (news := []) rfl rfl rfl Try.call37 (atJ [(0, 9)] [] (fc_law01_product h5) rfl rfl) (.inr (fun x hx => nomatch hx))) trivial rfl (From.ok (ps := [(none, 2)]) ⟨⟨rfl, by kernel_rfl⟩, trivial⟩) (DAll.op' (sp_call (avs := [.val (.int .i64 r7), .val (.int .i64 r8)]) (need := []) (v := .tup [.agg [.val (.int .i64 r9.1), .val (.int .i64 r9.2.1)], .val (.bool r9.2.2)]) (news := []) rfl rfl rfl Try.call36 (atJ [] [] (fc_law01_lowest h6) rfl rfl) (.inl (roAll rfl))) trivial rfl (From.ok (ps := []) trivial) (DAll.op' (sp_move rfl rfl) trivial rfl (From.ok (ps := []) trivial) (DAll.op' (sp_extract rfl rfl rfl) trivial rfl (From.ok (ps := []) trivial) (DAll.op' (sp_extract rfl rfl rfl) trivial rfl (From.ok (ps := []) trivial) (DAll.op' (sp_alloc 11 rfl Try.zeroValue26 rfl) trivial rfl (From.ok (ps := []) trivial) (DAll.opT (ts_storeB (off := 0) (cells' := [.val (.int .i64 r9.1), .val (.int .i64 r9.2.1)]) rfl rfl rfl rfl vt26 rfl rfl rfl) trivial (From.ok (ps := [(some 10, 0)]) ⟨⟨_, rfl, by kernel_rfl, rfl, by kernel_rfl⟩, trivial⟩) (From.ok (ps := []) trivial) (.nil))))))))))))
  refine op0 (sp_assign rfl rfl) rfl trivial rfl rfl ?_
  refine TL.nil ?_
  refine TC.seq ?_
  refine TC.seq ?_
  refine TC.region ?_
  refine op0 (sp_move rfl rfl) rfl trivial rfl rfl ?_
  refine op0 (sp_not rfl rfl) rfl trivial rfl rfl ?_
  refine TL.nil ?_
  refine TC.cond (b := (!r9.2.2)) rfl (fun h7 => ?_) (fun h7 => ?_)
  · have h := cond_t h h7
    refine TC.seq ?_
    refine TC.region ?_
    obtain ⟨r10, h8, h⟩ := bind_inv h
    refine op0 (sp_call (avs := []) (need := []) (v := .val (.bool r10)) (news := []) rfl rfl rfl Try.call12 (atJ [] [] (fc_law01_known h8) rfl rfl) (.inl (roAll rfl))) rfl trivial rfl rfl ?_
    refine op0 (sp_assign rfl rfl) rfl trivial rfl rfl ?_
    refine TL.nil ?_
    cases h
    exact retJ [] (.tmp rfl .nil) rfl trivial rfl rfl
  · have h := cond_f h h7
    refine TC.skip ?_
    refine TC.seq ?_
    obtain ⟨r13, h11, h⟩ := bind_inv h
    obtain ⟨r14, h12, h⟩ := bind_inv h
    refine drawJ 8 [⟨.agg [.ref 5, .ref 6], [], [.blk 7 [.ref 5, .ref 6] 40], []⟩, ⟨.agg [.ref 16, .ref 17], [.ro 16 1 (List.map en_int r13.1), .ro 17 1 (List.map en_int r13.2)], [.row 5 3 1 (List.map en_int r5.1), .row 6 3 1 (List.map en_int r5.2)], []⟩, ⟨.agg [.val (.int .i64 r9.1), .val (.int .i64 r9.2.1)], [], [.blk 11 [.val (.int .i64 r9.1), .val (.int .i64 r9.2.1)] 26], []⟩, ⟨.tup [.ref 18, .val (.int .i64 r14.2)], [.row 18 57 2 (List.map en_api_Train r14.1)], [.ro 16 1 (List.map en_int r13.1), .ro 17 1 (List.map en_int r13.2)], []⟩, ⟨.tup [.ref 18, .val (.int .i64 r14.2)], [], [], []⟩, ⟨.ref 18, [], [], []⟩, ⟨.val (.int .i64 r14.2), [], [], []⟩, ⟨.ref 18, [], [], []⟩] rfl ?_ rfl ?_ rfl ?_ ?_
    · kernel_rfl
    · kernel_rfl
    · exact DAll.op' (sp_loadBA rfl isBlk rfl vt40 rfl rfl) trivial rfl (From.ok (ps := [(none, 4)]) ⟨⟨rfl, rfl⟩, trivial⟩) (DAll.op' (OpSpec.froz (news := [.ro 16 1 (List.map en_int r13.1), .row 17 3 1 (List.map en_int r13.2)]) 1 rfl (OpSpec.froz (news := [.row 16 3 1 (List.map en_int r13.1), .row 17 3 1 (List.map en_int r13.2)]) 0 rfl (sp_call (avs := [.agg [.ref 5, .ref 6]]) (need := [.row 5 3 1 (List.map en_int r5.1), .row 6 3 1 (List.map en_int r5.2)]) (v := .agg [.ref 16, .ref 17]) (news := [.row 16 3 1 (List.map en_int r13.1), .row 17 3 1 (List.map en_int r13.2)]) rfl rfl rfl Try.call19 (atJ [(0, 5), (1, 6)] [(0, 16), (1, 17)] (fc_law01_copied h11) rfl rfl) (.inr (List.forall_mem_cons.2 ⟨indep_map en_int_flat, List.forall_mem_cons.2 ⟨indep_map en_int_flat, (by simp)⟩⟩))))) trivial rfl (From.ok (ps := [(none, 5), (none, 6)]) ⟨⟨rfl, rfl⟩, ⟨rfl, rfl⟩, trivial⟩) (DAll.op' (sp_loadBA rfl isBlk rfl vt26 rfl rfl) trivial rfl (From.ok (ps := [(none, 0)]) ⟨⟨rfl, rfl⟩, trivial⟩) (DAll.op' (sp_call (avs := [.agg [.ref 16, .ref 17], .agg [.val (.int .i64 r9.1), .val (.int .i64 r9.2.1)]]) (need := [.ro 16 1 (List.map en_int r13.1), .ro 17 1 (List.map en_int r13.2)]) (v := .tup [.ref 18, .val (.int .i64 r14.2)]) (news := [.row 18 57 2 (List.map en_api_Train r14.1)]) rfl rfl rfl Try.call29 (atJ [(0, 16), (1, 17)] [(0, 18)] (fc_train_Fewest h12) rfl rfl) (.inl (roAll rfl))) trivial rfl (From.ok (ps := [(some 1, 0), (some 1, 1)]) ⟨⟨_, rfl, rfl, rfl, rfl⟩, ⟨_, rfl, rfl, rfl, rfl⟩, trivial⟩) (DAll.op' (sp_move rfl rfl) trivial rfl (From.ok (ps := []) trivial) (DAll.op' (sp_extract rfl rfl rfl) trivial rfl (From.ok (ps := []) trivial) (DAll.op' (sp_extract rfl rfl rfl) trivial rfl (From.ok (ps := []) trivial) (DAll.op' (sp_assign rfl rfl) trivial rfl (From.ok (ps := []) trivial) (.nil))))))))
    refine op0 (sp_assign rfl rfl) rfl trivial rfl rfl ?_
    refine TL.nil ?_
    refine TC.seq ?_
    obtain ⟨h17, h⟩ := chk_inv h
    obtain ⟨h18, h⟩ := chk_inv h
    obtain ⟨r15, h19, h⟩ := bind_inv h
    refine drawJ 19 [⟨.ref 27, [.row 27 3 1 (List.map en_int ([] : List Int))], [], []⟩, ⟨.ptr 7 1, [], [.blk 7 [.ref 5, .ref 6] 40], []⟩, ⟨.ref 6, [], [.blk 7 [.ref 5, .ref 6] 40], []⟩, ⟨.ref 28, [.ro 28 1 (List.map en_int (([] : List Int) ++ r5.2))], [.row 6 3 1 (List.map en_int r5.2)], [.row 27 3 1 (List.map en_int ([] : List Int))]⟩, ⟨.ref 29, [.row 29 3 1 (List.map en_int ([] : List Int))], [], []⟩, ⟨.ptr 7 0, [], [.blk 7 [.ref 5, .ref 6] 40], []⟩, ⟨.ref 5, [], [.blk 7 [.ref 5, .ref 6] 40], []⟩, ⟨.ref 30, [.ro 30 1 (List.map en_int (([] : List Int) ++ r5.1))], [.row 5 3 1 (List.map en_int r5.1)], [.row 29 3 1 (List.map en_int ([] : List Int))]⟩, ⟨.agg [.ref 28, .ref 30], [], [], []⟩, ⟨.ptr 11 1, [], [.blk 11 [.val (.int .i64 r9.1), .val (.int .i64 r9.2.1)] 26], []⟩, ⟨.val (.int .i64 r9.2.1), [], [.blk 11 [.val (.int .i64 r9.1), .val (.int .i64 r9.2.1)] 26], []⟩, ⟨.ptr 11 0, [], [.blk 11 [.val (.int .i64 r9.1), .val (.int .i64 r9.2.1)] 26], []⟩, ⟨.val (.int .i64 r9.1), [], [.blk 11 [.val (.int .i64 r9.1), .val (.int .i64 r9.2.1)] 26], []⟩, ⟨.agg [.val (.int .i64 r9.2.1), .val (.int .i64 r9.1)], [], [], []⟩, ⟨.tup [.ref 31, .val (.int .i64 r15.2)], [.row 31 57 2 (List.map en_api_Train r15.1)], [.ro 28 1 (List.map en_int (([] : List Int) ++ r5.2)), .ro 30 1 (List.map en_int (([] : List Int) ++ r5.1))], []⟩, ⟨.tup [.ref 31, .val (.int .i64 r15.2)], [], [], []⟩, ⟨.ref 31, [], [], []⟩, ⟨.val (.int .i64 r15.2), [], [], []⟩, ⟨.ref 31, [], [], []⟩] rfl ?_ rfl ?_ rfl ?_ ?_
    · kernel_rfl
    · kernel_rfl
    · exact DAll.op' (sp_emptyM 27 (List.map en_int []) rfl rfl sl38) trivial rfl (From.ok (ps := []) trivial) (DAll.op' (sp_fieldAddrB rfl isBlk rfl ft40_1 vt38 (by decide)) trivial rfl (From.ok (ps := [(none, 7)]) ⟨⟨rfl, by kernel_rfl⟩, trivial⟩) (DAll.op' (sp_loadB rfl isBlk rfl vt38 rfl) trivial rfl (From.ok (ps := [(none, 7)]) ⟨⟨rfl, by kernel_rfl⟩, trivial⟩) (DAll.opT (TSpec.froz (news := [.row 28 3 1 (List.map en_int (([] : List Int) ++ r5.2))]) 0 rfl (ts_append (N := ([] : List Int).length) (N2 := r5.2.length) 28 rfl rfl rfl isOwn rfl sl38 (len_map _ _) (len_map _ _) h17 (map_app _ _ _) rfl)) trivial (From.ok (ps := [(some 0, 0)]) ⟨⟨_, rfl, by kernel_rfl, rfl, by kernel_rfl⟩, trivial⟩) (From.ok (ps := [(none, 9)]) ⟨⟨rfl, by kernel_rfl⟩, trivial⟩) (DAll.op' (sp_emptyM 29 (List.map en_int []) rfl rfl sl38) trivial rfl (From.ok (ps := []) trivial) (DAll.op' (sp_fieldAddrB rfl isBlk rfl ft40_0 vt38 (by decide)) trivial rfl (From.ok (ps := [(none, 7)]) ⟨⟨rfl, by kernel_rfl⟩, trivial⟩) (DAll.op' (sp_loadB rfl isBlk rfl vt38 rfl) trivial rfl (From.ok (ps := [(none, 7)]) ⟨⟨rfl, by kernel_rfl⟩, trivial⟩) (DAll.opT (TSpec.froz (news := [.row 30 3 1 (List.map en_int (([] : List Int) ++ r5.1))]) 0 rfl (ts_append (N := ([] : List Int).length) (N2 := r5.1.length) 30 rfl rfl rfl isOwn rfl sl38 (len_map _ _) (len_map _ _) h18 (map_app _ _ _) rfl)) trivial (From.ok (ps := [(some 4, 0)]) ⟨⟨_, rfl, by kernel_rfl, rfl, by kernel_rfl⟩, trivial⟩) (From.ok (ps := [(none, 8)]) ⟨⟨rfl, by kernel_rfl⟩, trivial⟩) (DAll.op' (sp_build (qs := [(0, .ref 28), (1, .ref 30)]) rfl bt40 rfl rfl rfl rfl) trivial rfl (From.ok (ps := []) trivial) (DAll.op' (sp_fieldAddrB rfl isBlk rfl ft26_1 vt3 (by decide)) trivial rfl (From.ok (ps := [(none, 3)]) ⟨⟨rfl, by kernel_rfl⟩, trivial⟩) (DAll.op' (sp_loadB rfl isBlk rfl vt3 rfl) trivial rfl (From.ok (ps := [(none, 3)]) ⟨⟨rfl, by kernel_rfl⟩, trivial⟩) (DAll.op' (sp_fieldAddrB rfl isBlk rfl ft26_0 vt3 (by decide)) trivial rfl (From.ok (ps := [(none, 3)]) ⟨⟨rfl, by kernel_rfl⟩, trivial⟩) (DAll.op' (sp_loadB rfl isBlk rfl vt3 rfl) trivial rfl (From.ok (ps := [(none, 3)]) ⟨⟨rfl, by kernel_rfl⟩, trivial⟩) (DAll.op' (sp_build (qs := [(0, .val (.int .i64 r9.2.1)), (1, .val (.int .i64 r9.1))]) rfl bt26 rfl rfl rfl rfl) trivial rfl (From.ok (ps := []) trivial) (DAll.op' (sp_call (avs := [.agg [.ref 28, .ref 30], .agg [.val (.int .i64 r9.2.1), .val (.int .i64 r9.1)]]) (need := [.ro 28 1 (List.map en_int (([] : List Int) ++ r5.2)), .ro 30 1 (List.map en_int (([] : List Int) ++ r5.1))]) (v := .tup [.ref 31, .val (.int .i64 r15.2)]) (news := [.row 31 57 2 (List.map en_api_Train r15.1)]) rfl rfl rfl Try.call29 (atJ [(0, 28), (1, 30)] [(0, 31)] (fc_train_Fewest h19) rfl rfl) (.inl (roAll rfl))) trivial rfl (From.ok (ps := [(some 3, 0), (some 7, 0)]) ⟨⟨_, rfl, by kernel_rfl, rfl, by kernel_rfl⟩, ⟨_, rfl, by kernel_rfl, rfl, by kernel_rfl⟩, trivial⟩) (DAll.op' (sp_move rfl rfl) trivial rfl (From.ok (ps := []) trivial) (DAll.op' (sp_extract rfl rfl rfl) trivial rfl (From.ok (ps := []) trivial) (DAll.op' (sp_extract rfl rfl rfl) trivial rfl (From.ok (ps := []) trivial) (DAll.op' (sp_assign rfl rfl) trivial rfl (From.ok (ps := []) trivial) (.nil)))))))))))))))))))
    refine op0 (sp_assign rfl rfl) rfl trivial rfl rfl ?_
    refine TL.nil ?_
    refine TC.seq ?_
    obtain ⟨r16, h20, h⟩ := bind_inv h
    refine drawJ 8 [⟨.ptr 4 0, [], [.blk 4 [.ref 0, .ref 1] 64], []⟩, ⟨.ref 0, [], [.blk 4 [.ref 0, .ref 1] 64], []⟩, ⟨.ref 3, [], [], []⟩, ⟨.ref 32, [.row 32 3 1 (List.map en_int r16)], [.ro 0 1 (List.map en_uint8 c1), .ro 3 1 (List.map en_uint8 more4)], []⟩, ⟨.ptr 7 1, [], [.blk 7 [.ref 5, .ref 6] 40], []⟩, ⟨.ref 6, [], [.blk 7 [.ref 5, .ref 6] 40], []⟩, ⟨.agg [.ref 32, .ref 6], [], [], []⟩, ⟨.ptr 33 0, [.blk 33 [.val (.slice none 0 0), .val (.slice none 0 0)] 40], [], []⟩] rfl ?_ rfl ?_ rfl ?_ ?_
    · kernel_rfl
    · kernel_rfl
    · exact DAll.op' (sp_fieldAddrB rfl isBlk rfl ft64_0 vt62 (by decide)) trivial rfl (From.ok (ps := [(none, 13)]) ⟨⟨rfl, rfl⟩, trivial⟩) (DAll.op' (sp_loadB rfl isBlk rfl vt62 rfl) trivial rfl (From.ok (ps := [(none, 13)]) ⟨⟨rfl, rfl⟩, trivial⟩) (DAll.op' (sp_move rfl rfl) trivial rfl (From.ok (ps := []) trivial) (DAll.op' (sp_call (avs := [.ref 0, .ref 3, .val (.int .i64 30), .val (.int .i64 10)]) (need := [.ro 0 1 (List.map en_uint8 c1), .ro 3 1 (List.map en_uint8 more4)]) (v := .ref 32) (news := [.row 32 3 1 (List.map en_int r16)]) rfl rfl rfl Try.call41 (atJ [(1, 3)] [(0, 32)] (fc_law01_wider h20) rfl rfl) (.inl (roAll rfl))) trivial rfl (From.ok (ps := [(none, 14), (none, 17)]) ⟨⟨rfl, rfl⟩, ⟨rfl, rfl⟩, trivial⟩) (DAll.op' (sp_fieldAddrB rfl isBlk rfl ft40_1 vt38 (by decide)) trivial rfl (From.ok (ps := [(none, 10)]) ⟨⟨rfl, rfl⟩, trivial⟩) (DAll.op' (sp_loadB rfl isBlk rfl vt38 rfl) trivial rfl (From.ok (ps := [(none, 10)]) ⟨⟨rfl, rfl⟩, trivial⟩) (DAll.op' (sp_build (qs := [(0, .ref 32), (1, .ref 6)]) rfl bt40 rfl rfl rfl rfl) trivial rfl (From.ok (ps := []) trivial) (DAll.op' (sp_alloc 33 rfl Try.zeroValue40 rfl) trivial rfl (From.ok (ps := []) trivial) (.nil))))))))
    refine stoB 0 (cells' := [.ref 32, .ref 6]) rfl rfl trivial rfl rfl rfl rfl vt40 rfl rfl rfl ?_
    refine TL.nil ?_
    refine TC.seq ?_
    obtain ⟨r19, h23, h⟩ := bind_inv h
    obtain ⟨r20, h24, h⟩ := bind_inv h
    refine drawJ 8 [⟨.agg [.ref 32, .ref 6], [], [.blk 33 [.ref 32, .ref 6] 40], []⟩, ⟨.agg [.ref 38, .ref 39], [.ro 38 1 (List.map en_int r19.1), .ro 39 1 (List.map en_int r19.2)], [.row 32 3 1 (List.map en_int r16), .row 6 3 1 (List.map en_int r5.2)], []⟩, ⟨.agg [.val (.int .i64 r9.1), .val (.int .i64 r9.2.1)], [], [.blk 11 [.val (.int .i64 r9.1), .val (.int .i64 r9.2.1)] 26], []⟩, ⟨.tup [.ref 40, .val (.int .i64 r20.2)], [.row 40 57 2 (List.map en_api_Train r20.1)], [.ro 38 1 (List.map en_int r19.1), .ro 39 1 (List.map en_int r19.2)], []⟩, ⟨.tup [.ref 40, .val (.int .i64 r20.2)], [], [], []⟩, ⟨.ref 40, [], [], []⟩, ⟨.val (.int .i64 r20.2), [], [], []⟩, ⟨.ref 40, [], [], []⟩] rfl ?_ rfl ?_ rfl ?_ ?_
    · kernel_rfl
    · kernel_rfl
    · exact DAll.op' (sp_loadBA rfl isBlk rfl vt40 rfl rfl) trivial rfl (From.ok (ps := [(none, 0)]) ⟨⟨rfl, rfl⟩, trivial⟩) (DAll.op' (OpSpec.froz (news := [.ro 38 1 (List.map en_int r19.1), .row 39 3 1 (List.map en_int r19.2)]) 1 rfl (OpSpec.froz (news := [.row 38 3 1 (List.map en_int r19.1), .row 39 3 1 (List.map en_int r19.2)]) 0 rfl (sp_call (avs := [.agg [.ref 32, .ref 6]]) (need := [.row 32 3 1 (List.map en_int r16), .row 6 3 1 (List.map en_int r5.2)]) (v := .agg [.ref 38, .ref 39]) (news := [.row 38 3 1 (List.map en_int r19.1), .row 39 3 1 (List.map en_int r19.2)]) rfl rfl rfl Try.call19 (atJ [(0, 32), (1, 6)] [(0, 38), (1, 39)] (fc_law01_copied h23) rfl rfl) (.inr (List.forall_mem_cons.2 ⟨indep_map en_int_flat, List.forall_mem_cons.2 ⟨indep_map en_int_flat, (by simp)⟩⟩))))) trivial rfl (From.ok (ps := [(none, 1), (none, 14)]) ⟨⟨rfl, rfl⟩, ⟨rfl, rfl⟩, trivial⟩) (DAll.op' (sp_loadBA rfl isBlk rfl vt26 rfl rfl) trivial rfl (From.ok (ps := [(none, 8)]) ⟨⟨rfl, rfl⟩, trivial⟩) (DAll.op' (sp_call (avs := [.agg [.ref 38, .ref 39], .agg [.val (.int .i64 r9.1), .val (.int .i64 r9.2.1)]]) (need := [.ro 38 1 (List.map en_int r19.1), .ro 39 1 (List.map en_int r19.2)]) (v := .tup [.ref 40, .val (.int .i64 r20.2)]) (news := [.row 40 57 2 (List.map en_api_Train r20.1)]) rfl rfl rfl Try.call29 (atJ [(0, 38), (1, 39)] [(0, 40)] (fc_train_Fewest h24) rfl rfl) (.inl (roAll rfl))) trivial rfl (From.ok (ps := [(some 1, 0), (some 1, 1)]) ⟨⟨_, rfl, rfl, rfl, rfl⟩, ⟨_, rfl, rfl, rfl, rfl⟩, trivial⟩) (DAll.op' (sp_move rfl rfl) trivial rfl (From.ok (ps := []) trivial) (DAll.op' (sp_extract rfl rfl rfl) trivial rfl (From.ok (ps := []) trivial) (DAll.op' (sp_extract rfl rfl rfl) trivial rfl (From.ok (ps := []) trivial) (DAll.op' (sp_assign rfl rfl) trivial rfl (From.ok (ps := []) trivial) (.nil))))))))
    refine op0 (sp_assign rfl rfl) rfl trivial rfl rfl ?_
    refine TL.nil ?_
    refine TC.seq ?_
    refine TC.seq ?_
    rcases cond_cases h with ⟨h25, h⟩ | ⟨h25, h⟩
    · refine drawJ 38 [⟨.val (.int .i64 r14.2), [], [], []⟩, ⟨.val (.bool (r14.2 != 0)), [], [], []⟩, ⟨.val (.bool true), [], [], []⟩, ⟨.val (undef), [], [], []⟩, ⟨.val (undef), [], [], []⟩, ⟨.val (.bool true), [], [], []⟩, ⟨.val (.bool true), [], [], []⟩, ⟨.val (undef), [], [], []⟩, ⟨.val (undef), [], [], []⟩, ⟨.val (.bool true), [], [], []⟩, ⟨.val (.bool true), [], [], []⟩, ⟨.val (undef), [], [], []⟩, ⟨.val (undef), [], [], []⟩, ⟨.val (undef), [], [], []⟩, ⟨.val (undef), [], [], []⟩, ⟨.val (undef), [], [], []⟩, ⟨.val (.bool true), [], [], []⟩, ⟨.val (.bool true), [], [], []⟩, ⟨.val (undef), [], [], []⟩, ⟨.val (undef), [], [], []⟩, ⟨.val (undef), [], [], []⟩, ⟨.val (.bool true), [], [], []⟩, ⟨.val (.bool true), [], [], []⟩, ⟨.val (undef), [], [], []⟩, ⟨.val (undef), [], [], []⟩, ⟨.val (undef), [], [], []⟩, ⟨.val (.bool true), [], [], []⟩, ⟨.val (.bool true), [], [], []⟩, ⟨.val (undef), [], [], []⟩, ⟨.val (undef), [], [], []⟩, ⟨.val (undef), [], [], []⟩, ⟨.val (undef), [], [], []⟩, ⟨.val (undef), [], [], []⟩, ⟨.val (undef), [], [], []⟩, ⟨.val (undef), [], [], []⟩, ⟨.val (undef), [], [], []⟩, ⟨.val (undef), [], [], []⟩, ⟨.val (undef), [], [], []⟩] rfl ?_ rfl ?_ rfl ?_ ?_
      · kernel_rfl
      · kernel_rfl
      · exact DAll.op' (sp_move rfl rfl) trivial rfl (From.ok (ps := []) trivial) (DAll.op' (sp_neq rfl rfl rfl) trivial rfl (From.ok (ps := []) trivial) (DAll.op' (sp_castB h25 (sp_move rfl rfl)) trivial rfl (From.ok (ps := []) trivial) (.skip ⟨_, rfl, .inl rfl⟩ rfl rfl rfl (.skip ⟨_, rfl, .inl rfl⟩ rfl rfl rfl (DAll.op' (sp_pickT rfl rfl rfl) trivial rfl (From.ok (ps := []) trivial) (DAll.op' (sp_move rfl rfl) trivial rfl (From.ok (ps := []) trivial) (.skip ⟨_, rfl, .inl rfl⟩ rfl rfl rfl (.skip ⟨_, rfl, .inl rfl⟩ rfl rfl rfl (DAll.op' (sp_pickT rfl rfl rfl) trivial rfl (From.ok (ps := []) trivial) (DAll.op' (sp_move rfl rfl) trivial rfl (From.ok (ps := []) trivial) (.skip ⟨_, rfl, .inl rfl⟩ rfl rfl rfl (.skip ⟨_, rfl, .inl rfl⟩ rfl rfl rfl (.skip ⟨_, rfl, .inl rfl⟩ rfl rfl rfl (.skip ⟨_, rfl, .inl rfl⟩ rfl rfl rfl (.skip ⟨_, rfl, .inl rfl⟩ rfl rfl rfl (DAll.op' (sp_pickT rfl rfl rfl) trivial rfl (From.ok (ps := []) trivial) (DAll.op' (sp_move rfl rfl) trivial rfl (From.ok (ps := []) trivial) (.skip ⟨_, rfl, .inl rfl⟩ rfl rfl rfl (.skip ⟨_, rfl, .inl rfl⟩ rfl rfl rfl (.skip ⟨_, rfl, .inl rfl⟩ rfl rfl rfl (DAll.op' (sp_pickT rfl rfl rfl) trivial rfl (From.ok (ps := []) trivial) (DAll.op' (sp_move rfl rfl) trivial rfl (From.ok (ps := []) trivial) (.skip ⟨_, rfl, .inl rfl⟩ rfl rfl rfl (.skip ⟨_, rfl, .inl rfl⟩ rfl rfl rfl (.skip ⟨_, rfl, .inl rfl⟩ rfl rfl rfl (DAll.op' (sp_pickT rfl rfl rfl) trivial rfl (From.ok (ps := []) trivial) (DAll.op' (sp_move rfl rfl) trivial rfl (From.ok (ps := []) trivial) (.skip ⟨_, rfl, .inl rfl⟩ rfl rfl rfl (.skip ⟨_, rfl, .inl rfl⟩ rfl rfl rfl (.skip ⟨_, rfl, .inl rfl⟩ rfl rfl rfl (.skip ⟨_, rfl, .inl rfl⟩ rfl rfl rfl (.skip ⟨_, rfl, .inl rfl⟩ rfl rfl rfl (.skip ⟨_, rfl, .inl rfl⟩ rfl rfl rfl (.skip ⟨_, rfl, .inl rfl⟩ rfl rfl rfl (.skip ⟨_, rfl, .inl rfl⟩ rfl rfl rfl (.skip ⟨_, rfl, .inl rfl⟩ rfl rfl rfl (.skip ⟨_, rfl, .inl rfl⟩ rfl rfl rfl (.nil))))))))))))))))))))))))))))))))))))))
      refine opSkip rfl ⟨_, rfl, .inl rfl⟩ rfl ?_
      refine op0 (sp_pickT rfl rfl rfl) rfl trivial rfl rfl ?_
      refine TL.nil ?_
      refine TC.condT rfl ?_
      refine TC.seq ?_
      refine TC.region ?_
      refine op0 (sp_assign rfl rfl) rfl trivial rfl rfl ?_
      refine TL.nil ?_
      cases h
      exact retJ [] (.tmp rfl .nil) rfl trivial rfl rfl
    · rcases cond_cases h with ⟨h26, h⟩ | ⟨h26, h⟩
      · refine drawJ 38 [⟨.val (.int .i64 r14.2), [], [], []⟩, ⟨.val (.bool (r14.2 != 0)), [], [], []⟩, ⟨.val (.bool false), [], [], []⟩, ⟨.val (.int .i64 r15.2), [], [], []⟩, ⟨.val (.bool (r15.2 != 0)), [], [], []⟩, ⟨.val (.bool (r15.2 != 0)), [], [], []⟩, ⟨.val (.bool true), [], [], []⟩, ⟨.val (undef), [], [], []⟩, ⟨.val (undef), [], [], []⟩, ⟨.val (.bool true), [], [], []⟩, ⟨.val (.bool true), [], [], []⟩, ⟨.val (undef), [], [], []⟩, ⟨.val (undef), [], [], []⟩, ⟨.val (undef), [], [], []⟩, ⟨.val (undef), [], [], []⟩, ⟨.val (undef), [], [], []⟩, ⟨.val (.bool true), [], [], []⟩, ⟨.val (.bool true), [], [], []⟩, ⟨.val (undef), [], [], []⟩, ⟨.val (undef), [], [], []⟩, ⟨.val (undef), [], [], []⟩, ⟨.val (.bool true), [], [], []⟩, ⟨.val (.bool true), [], [], []⟩, ⟨.val (undef), [], [], []⟩, ⟨.val (undef), [], [], []⟩, ⟨.val (undef), [], [], []⟩, ⟨.val (.bool true), [], [], []⟩, ⟨.val (.bool true), [], [], []⟩, ⟨.val (undef), [], [], []⟩, ⟨.val (undef), [], [], []⟩, ⟨.val (undef), [], [], []⟩, ⟨.val (undef), [], [], []⟩, ⟨.val (undef), [], [], []⟩, ⟨.val (undef), [], [], []⟩, ⟨.val (undef), [], [], []⟩, ⟨.val (undef), [], [], []⟩, ⟨.val (undef), [], [], []⟩, ⟨.val (undef), [], [], []⟩] rfl ?_ rfl ?_ rfl ?_ ?_
        · kernel_rfl
        · kernel_rfl
        · exact DAll.op' (sp_move rfl rfl) trivial rfl (From.ok (ps := []) trivial) (DAll.op' (sp_neq rfl rfl rfl) trivial rfl (From.ok (ps := []) trivial) (DAll.op' (sp_castB h25 (sp_move rfl rfl)) trivial rfl (From.ok (ps := []) trivial) (DAll.op' (sp_move rfl rfl) ⟨_, rfl, rfl⟩ rfl (From.ok (ps := []) trivial) (DAll.op' (sp_neq rfl rfl rfl) ⟨_, rfl, rfl⟩ rfl (From.ok (ps := []) trivial) (DAll.op' (sp_pickF rfl rfl rfl) trivial rfl (From.ok (ps := []) trivial) (DAll.op' (sp_castB h26 (sp_move rfl rfl)) trivial rfl (From.ok (ps := []) trivial) (.skip ⟨_, rfl, .inl rfl⟩ rfl rfl rfl (.skip ⟨_, rfl, .inl rfl⟩ rfl rfl rfl (DAll.op' (sp_pickT rfl rfl rfl) trivial rfl (From.ok (ps := []) trivial) (DAll.op' (sp_move rfl rfl) trivial rfl (From.ok (ps := []) trivial) (.skip ⟨_, rfl, .inl rfl⟩ rfl rfl rfl (.skip ⟨_, rfl, .inl rfl⟩ rfl rfl rfl (.skip ⟨_, rfl, .inl rfl⟩ rfl rfl rfl (.skip ⟨_, rfl, .inl rfl⟩ rfl rfl rfl (.skip ⟨_, rfl, .inl rfl⟩ rfl rfl rfl (DAll.op' (sp_pickT rfl rfl rfl) trivial rfl (From.ok (ps := []) trivial) (DAll.op' (sp_move rfl rfl) trivial rfl (From.ok (ps := []) trivial) (.skip ⟨_, rfl, .inl rfl⟩ rfl rfl rfl (.skip ⟨_, rfl, .inl rfl⟩ rfl rfl rfl (.skip ⟨_, rfl, .inl rfl⟩ rfl rfl rfl (DAll.op' (sp_pickT rfl rfl rfl) trivial rfl (From.ok (ps := []) trivial) (DAll.op' (sp_move rfl rfl) trivial rfl (From.ok (ps := []) trivial) (.skip ⟨_, rfl, .inl rfl⟩ rfl rfl rfl (.skip ⟨_, rfl, .inl rfl⟩ rfl rfl rfl (.skip ⟨_, rfl, .inl rfl⟩ rfl rfl rfl (DAll.op' (sp_pickT rfl rfl rfl) trivial rfl (From.ok (ps := []) trivial) (DAll.op' (sp_move rfl rfl) trivial rfl (From.ok (ps := []) trivial) (.skip ⟨_, rfl, .inl rfl⟩ rfl rfl rfl (.skip ⟨_, rfl, .inl rfl⟩ rfl rfl rfl (.skip ⟨_, rfl, .inl rfl⟩ rfl rfl rfl (.skip ⟨_, rfl, .inl rfl⟩ rfl rfl rfl (.skip ⟨_, rfl, .inl rfl⟩ rfl rfl rfl (.skip ⟨_, rfl, .inl rfl⟩ rfl rfl rfl (.skip ⟨_, rfl, .inl rfl⟩ rfl rfl rfl (.skip ⟨_, rfl, .inl rfl⟩ rfl rfl rfl (.skip ⟨_, rfl, .inl rfl⟩ rfl rfl rfl (.skip ⟨_, rfl, .inl rfl⟩ rfl rfl rfl (.nil))))))))))))))))))))))))))))))))))))))
        refine opSkip rfl ⟨_, rfl, .inl rfl⟩ rfl ?_
        refine op0 (sp_pickT rfl rfl rfl) rfl trivial rfl rfl ?_
        refine TL.nil ?_
        refine TC.condT rfl ?_
        refine TC.seq ?_
        refine TC.region ?_
        refine op0 (sp_assign rfl rfl) rfl trivial rfl rfl ?_
        refine TL.nil ?_
        cases h
        exact retJ [] (.tmp rfl .nil) rfl trivial rfl rfl
      · rcases cond_cases h with ⟨h27, h⟩ | ⟨h27, h⟩
        · refine drawJ 38 [⟨.val (.int .i64 r14.2), [], [], []⟩, ⟨.val (.bool (r14.2 != 0)), [], [], []⟩, ⟨.val (.bool false), [], [], []⟩, ⟨.val (.int .i64 r15.2), [], [], []⟩, ⟨.val (.bool (r15.2 != 0)), [], [], []⟩, ⟨.val (.bool (r15.2 != 0)), [], [], []⟩, ⟨.val (.bool false), [], [], []⟩, ⟨.val (.int .i64 r20.2), [], [], []⟩, ⟨.val (.bool (r20.2 != 0)), [], [], []⟩, ⟨.val (.bool (r20.2 != 0)), [], [], []⟩, ⟨.val (.bool true), [], [], []⟩, ⟨.val (undef), [], [], []⟩, ⟨.val (undef), [], [], []⟩, ⟨.val (undef), [], [], []⟩, ⟨.val (undef), [], [], []⟩, ⟨.val (undef), [], [], []⟩, ⟨.val (.bool true), [], [], []⟩, ⟨.val (.bool true), [], [], []⟩, ⟨.val (undef), [], [], []⟩, ⟨.val (undef), [], [], []⟩, ⟨.val (undef), [], [], []⟩, ⟨.val (.bool true), [], [], []⟩, ⟨.val (.bool true), [], [], []⟩, ⟨.val (undef), [], [], []⟩, ⟨.val (undef), [], [], []⟩, ⟨.val (undef), [], [], []⟩, ⟨.val (.bool true), [], [], []⟩, ⟨.val (.bool true), [], [], []⟩, ⟨.val (undef), [], [], []⟩, ⟨.val (undef), [], [], []⟩, ⟨.val (undef), [], [], []⟩, ⟨.val (undef), [], [], []⟩, ⟨.val (undef), [], [], []⟩, ⟨.val (undef), [], [], []⟩, ⟨.val (undef), [], [], []⟩, ⟨.val (undef), [], [], []⟩, ⟨.val (undef), [], [], []⟩, ⟨.val (undef), [], [], []⟩] rfl ?_ rfl ?_ rfl ?_ ?_
          · kernel_rfl
          · kernel_rfl
          · exact DAll.op' (sp_move rfl rfl) trivial rfl (From.ok (ps := []) trivial) (DAll.op' (sp_neq rfl rfl rfl) trivial rfl (From.ok (ps := []) trivial) (DAll.op' (sp_castB h25 (sp_move rfl rfl)) trivial rfl (From.ok (ps := []) trivial) (DAll.op' (sp_move rfl rfl) ⟨_, rfl, rfl⟩ rfl (From.ok (ps := []) trivial) (DAll.op' (sp_neq rfl rfl rfl) ⟨_, rfl, rfl⟩ rfl (From.ok (ps := []) trivial) (DAll.op' (sp_pickF rfl rfl rfl) trivial rfl (From.ok (ps := []) trivial) (DAll.op' (sp_castB h26 (sp_move rfl rfl)) trivial rfl (From.ok (ps := []) trivial) (DAll.op' (sp_move rfl rfl) ⟨_, rfl, rfl⟩ rfl (From.ok (ps := []) trivial) (DAll.op' (sp_neq rfl rfl rfl) ⟨_, rfl, rfl⟩ rfl (From.ok (ps := []) trivial) (DAll.op' (sp_pickF rfl rfl rfl) trivial rfl (From.ok (ps := []) trivial) (DAll.op' (sp_castB h27 (sp_move rfl rfl)) trivial rfl (From.ok (ps := []) trivial) (.skip ⟨_, rfl, .inl rfl⟩ rfl rfl rfl (.skip ⟨_, rfl, .inl rfl⟩ rfl rfl rfl (.skip ⟨_, rfl, .inl rfl⟩ rfl rfl rfl (.skip ⟨_, rfl, .inl rfl⟩ rfl rfl rfl (.skip ⟨_, rfl, .inl rfl⟩ rfl rfl rfl (DAll.op' (sp_pickT rfl rfl rfl) trivial rfl (From.ok (ps := []) trivial) (DAll.op' (sp_move rfl rfl) trivial rfl (From.ok (ps := []) trivial) (.skip ⟨_, rfl, .inl rfl⟩ rfl rfl rfl (.skip ⟨_, rfl, .inl rfl⟩ rfl rfl rfl (.skip ⟨_, rfl, .inl rfl⟩ rfl rfl rfl (DAll.op' (sp_pickT rfl rfl rfl) trivial rfl (From.ok (ps := []) trivial) (DAll.op' (sp_move rfl rfl) trivial rfl (From.ok (ps := []) trivial) (.skip ⟨_, rfl, .inl rfl⟩ rfl rfl rfl (.skip ⟨_, rfl, .inl rfl⟩ rfl rfl rfl (.skip ⟨_, rfl, .inl rfl⟩ rfl rfl rfl (DAll.op' (sp_pickT rfl rfl rfl) trivial rfl (From.ok (ps := []) trivial) (DAll.op' (sp_move rfl rfl) trivial rfl (From.ok (ps := []) trivial) (.skip ⟨_, rfl, .inl rfl⟩ rfl rfl rfl (.skip ⟨_, rfl, .inl rfl⟩ rfl rfl rfl (.skip ⟨_, rfl, .inl rfl⟩ rfl rfl rfl (.skip ⟨_, rfl, .inl rfl⟩ rfl rfl rfl (.skip ⟨_, rfl, .inl rfl⟩ rfl rfl rfl (.skip ⟨_, rfl, .inl rfl⟩ rfl rfl rfl (.skip ⟨_, rfl, .inl rfl⟩ rfl rfl rfl (.skip ⟨_, rfl, .inl rfl⟩ rfl rfl rfl (.skip ⟨_, rfl, .inl rfl⟩ rfl rfl rfl (.skip ⟨_, rfl, .inl rfl⟩ rfl rfl rfl (.nil))))))))))))))))))))))))))))))))))))))
          refine opSkip rfl ⟨_, rfl, .inl rfl⟩ rfl ?_
          refine op0 (sp_pickT rfl rfl rfl) rfl trivial rfl rfl ?_
          refine TL.nil ?_
          refine TC.condT rfl ?_
          refine TC.seq ?_
          refine TC.region ?_
          refine op0 (sp_assign rfl rfl) rfl trivial rfl rfl ?_
          refine TL.nil ?_
          cases h
          exact retJ [] (.tmp rfl .nil) rfl trivial rfl rfl
        · rcases cond_cases h with ⟨h28, h⟩ | ⟨h28, h⟩
          · refine drawJ 38 [⟨.val (.int .i64 r14.2), [], [], []⟩, ⟨.val (.bool (r14.2 != 0)), [], [], []⟩, ⟨.val (.bool false), [], [], []⟩, ⟨.val (.int .i64 r15.2), [], [], []⟩, ⟨.val (.bool (r15.2 != 0)), [], [], []⟩, ⟨.val (.bool (r15.2 != 0)), [], [], []⟩, ⟨.val (.bool false), [], [], []⟩, ⟨.val (.int .i64 r20.2), [], [], []⟩, ⟨.val (.bool (r20.2 != 0)), [], [], []⟩, ⟨.val (.bool (r20.2 != 0)), [], [], []⟩, ⟨.val (.bool false), [], [], []⟩, ⟨.ref 31, [], [], []⟩, ⟨.val (.int .i64 (r15.1.length : Int)), [], [.row 31 57 2 (List.map en_api_Train r15.1)], []⟩, ⟨.ref 18, [], [], []⟩, ⟨.val (.int .i64 (r14.1.length : Int)), [], [.row 18 57 2 (List.map en_api_Train r14.1)], []⟩, ⟨.val (.bool ((r15.1.length : Int) != (r14.1.length : Int))), [], [], []⟩, ⟨.val (.bool ((r15.1.length : Int) != (r14.1.length : Int))), [], [], []⟩, ⟨.val (.bool true), [], [], []⟩, ⟨.val (undef), [], [], []⟩, ⟨.val (undef), [], [], []⟩, ⟨.val (undef), [], [], []⟩, ⟨.val (.bool true), [], [], []⟩, ⟨.val (.bool true), [], [], []⟩, ⟨.val (undef), [], [], []⟩, ⟨.val (undef), [], [], []⟩, ⟨.val (undef), [], [], []⟩, ⟨.val (.bool true), [], [], []⟩, ⟨.val (.bool true), [], [], []⟩, ⟨.val (undef), [], [], []⟩, ⟨.val (undef), [], [], []⟩, ⟨.val (undef), [], [], []⟩, ⟨.val (undef), [], [], []⟩, ⟨.val (undef), [], [], []⟩, ⟨.val (undef), [], [], []⟩, ⟨.val (undef), [], [], []⟩, ⟨.val (undef), [], [], []⟩, ⟨.val (undef), [], [], []⟩, ⟨.val (undef), [], [], []⟩] rfl ?_ rfl ?_ rfl ?_ ?_
            · kernel_rfl
            · kernel_rfl
            · exact DAll.op' (sp_move rfl rfl) trivial rfl (From.ok (ps := []) trivial) (DAll.op' (sp_neq rfl rfl rfl) trivial rfl (From.ok (ps := []) trivial) (DAll.op' (sp_castB h25 (sp_move rfl rfl)) trivial rfl (From.ok (ps := []) trivial) (DAll.op' (sp_move rfl rfl) ⟨_, rfl, rfl⟩ rfl (From.ok (ps := []) trivial) (DAll.op' (sp_neq rfl rfl rfl) ⟨_, rfl, rfl⟩ rfl (From.ok (ps := []) trivial) (DAll.op' (sp_pickF rfl rfl rfl) trivial rfl (From.ok (ps := []) trivial) (DAll.op' (sp_castB h26 (sp_move rfl rfl)) trivial rfl (From.ok (ps := []) trivial) (DAll.op' (sp_move rfl rfl) ⟨_, rfl, rfl⟩ rfl (From.ok (ps := []) trivial) (DAll.op' (sp_neq rfl rfl rfl) ⟨_, rfl, rfl⟩ rfl (From.ok (ps := []) trivial) (DAll.op' (sp_pickF rfl rfl rfl) trivial rfl (From.ok (ps := []) trivial) (DAll.op' (sp_castB h27 (sp_move rfl rfl)) trivial rfl (From.ok (ps := []) trivial) (DAll.op' (sp_move rfl rfl) ⟨_, rfl, rfl⟩ rfl (From.ok (ps := []) trivial) (DAll.op' (sp_lenM (N := r15.1.length) (len_map _ _) rfl rfl isOwn Try.underlying52) ⟨_, rfl, rfl⟩ rfl (From.ok (ps := [(none, 5)]) ⟨⟨rfl, by kernel_rfl⟩, trivial⟩) (DAll.op' (sp_move rfl rfl) ⟨_, rfl, rfl⟩ rfl (From.ok (ps := []) trivial) (DAll.op' (sp_lenM (N := r14.1.length) (len_map _ _) rfl rfl isOwn Try.underlying52) ⟨_, rfl, rfl⟩ rfl (From.ok (ps := [(none, 8)]) ⟨⟨rfl, by kernel_rfl⟩, trivial⟩) (DAll.op' (sp_neq rfl rfl rfl) ⟨_, rfl, rfl⟩ rfl (From.ok (ps := []) trivial) (DAll.op' (sp_pickF rfl rfl rfl) trivial rfl (From.ok (ps := []) trivial) (DAll.op' (sp_castB h28 (sp_move rfl rfl)) trivial rfl (From.ok (ps := []) trivial) (.skip ⟨_, rfl, .inl rfl⟩ rfl rfl rfl (.skip ⟨_, rfl, .inl rfl⟩ rfl rfl rfl (.skip ⟨_, rfl, .inl rfl⟩ rfl rfl rfl (DAll.op' (sp_pickT rfl rfl rfl) trivial rfl (From.ok (ps := []) trivial) (DAll.op' (sp_move rfl rfl) trivial rfl (From.ok (ps := []) trivial) (.skip ⟨_, rfl, .inl rfl⟩ rfl rfl rfl (.skip ⟨_, rfl, .inl rfl⟩ rfl rfl rfl (.skip ⟨_, rfl, .inl rfl⟩ rfl rfl rfl (DAll.op' (sp_pickT rfl rfl rfl) trivial rfl (From.ok (ps := []) trivial) (DAll.op' (sp_move rfl rfl) trivial rfl (From.ok (ps := []) trivial) (.skip ⟨_, rfl, .inl rfl⟩ rfl rfl rfl (.skip ⟨_, rfl, .inl rfl⟩ rfl rfl rfl (.skip ⟨_, rfl, .inl rfl⟩ rfl rfl rfl (.skip ⟨_, rfl, .inl rfl⟩ rfl rfl rfl (.skip ⟨_, rfl, .inl rfl⟩ rfl rfl rfl (.skip ⟨_, rfl, .inl rfl⟩ rfl rfl rfl (.skip ⟨_, rfl, .inl rfl⟩ rfl rfl rfl (.skip ⟨_, rfl, .inl rfl⟩ rfl rfl rfl (.skip ⟨_, rfl, .inl rfl⟩ rfl rfl rfl (.skip ⟨_, rfl, .inl rfl⟩ rfl rfl rfl (.nil))))))))))))))))))))))))))))))))))))))
            refine opSkip rfl ⟨_, rfl, .inl rfl⟩ rfl ?_
            refine op0 (sp_pickT rfl rfl rfl) rfl trivial rfl rfl ?_
            refine TL.nil ?_
            refine TC.condT rfl ?_
            refine TC.seq ?_
            refine TC.region ?_
            refine op0 (sp_assign rfl rfl) rfl trivial rfl rfl ?_
            refine TL.nil ?_
            cases h
            exact retJ [] (.tmp rfl .nil) rfl trivial rfl rfl
          · rcases cond_cases h with ⟨h29, h⟩ | ⟨h29, h⟩
            · refine drawJ 38 [⟨.val (.int .i64 r14.2), [], [], []⟩, ⟨.val (.bool (r14.2 != 0)), [], [], []⟩, ⟨.val (.bool false), [], [], []⟩, ⟨.val (.int .i64 r15.2), [], [], []⟩, ⟨.val (.bool (r15.2 != 0)), [], [], []⟩, ⟨.val (.bool (r15.2 != 0)), [], [], []⟩, ⟨.val (.bool false), [], [], []⟩, ⟨.val (.int .i64 r20.2), [], [], []⟩, ⟨.val (.bool (r20.2 != 0)), [], [], []⟩, ⟨.val (.bool (r20.2 != 0)), [], [], []⟩, ⟨.val (.bool false), [], [], []⟩, ⟨.ref 31, [], [], []⟩, ⟨.val (.int .i64 (r15.1.length : Int)), [], [.row 31 57 2 (List.map en_api_Train r15.1)], []⟩, ⟨.ref 18, [], [], []⟩, ⟨.val (.int .i64 (r14.1.length : Int)), [], [.row 18 57 2 (List.map en_api_Train r14.1)], []⟩, ⟨.val (.bool ((r15.1.length : Int) != (r14.1.length : Int))), [], [], []⟩, ⟨.val (.bool ((r15.1.length : Int) != (r14.1.length : Int))), [], [], []⟩, ⟨.val (.bool false), [], [], []⟩, ⟨.ref 18, [], [], []⟩, ⟨.val (.int .i64 (r14.1.length : Int)), [], [.row 18 57 2 (List.map en_api_Train r14.1)], []⟩, ⟨.val (.bool ((r14.1.length : Int) == 0)), [], [], []⟩, ⟨.val (.bool ((r14.1.length : Int) == 0)), [], [], []⟩, ⟨.val (.bool true), [], [], []⟩, ⟨.val (undef), [], [], []⟩, ⟨.val (undef), [], [], []⟩, ⟨.val (undef), [], [], []⟩, ⟨.val (.bool true), [], [], []⟩, ⟨.val (.bool true), [], [], []⟩, ⟨.val (undef), [], [], []⟩, ⟨.val (undef), [], [], []⟩, ⟨.val (undef), [], [], []⟩, ⟨.val (undef), [], [], []⟩, ⟨.val (undef), [], [], []⟩, ⟨.val (undef), [], [], []⟩, ⟨.val (undef), [], [], []⟩, ⟨.val (undef), [], [], []⟩, ⟨.val (undef), [], [], []⟩, ⟨.val (undef), [], [], []⟩] rfl ?_ rfl ?_ rfl ?_ ?_
              · kernel_rfl
              · kernel_rfl
              · exact DAll.op' (sp_move rfl rfl) trivial rfl (From.ok (ps := []) trivial) (DAll.op' (sp_neq rfl rfl rfl) trivial rfl (From.ok (ps := []) trivial) (DAll.op' (sp_castB h25 (sp_move rfl rfl)) trivial rfl (From.ok (ps := []) trivial) (DAll.op' (sp_move rfl rfl) ⟨_, rfl, rfl⟩ rfl (From.ok (ps := []) trivial) (DAll.op' (sp_neq rfl rfl rfl) ⟨_, rfl, rfl⟩ rfl (From.ok (ps := []) trivial) (DAll.op' (sp_pickF rfl rfl rfl) trivial rfl (From.ok (ps := []) trivial) (DAll.op' (sp_castB h26 (sp_move rfl rfl)) trivial rfl (From.ok (ps := []) trivial) (DAll.op' (sp_move rfl rfl) ⟨_, rfl, rfl⟩ rfl (From.ok (ps := []) trivial) (DAll.op' (sp_neq rfl rfl rfl) ⟨_, rfl, rfl⟩ rfl (From.ok (ps := []) trivial) (DAll.op' (sp_pickF rfl rfl rfl) trivial rfl (From.ok (ps := []) trivial) (DAll.op' (sp_castB h27 (sp_move rfl rfl)) trivial rfl (From.ok (ps := []) trivial) (DAll.op' (sp_move rfl rfl) ⟨_, rfl, rfl⟩ rfl (From.ok (ps := []) trivial) (DAll.op' (sp_lenM (N := r15.1.length) (len_map _ _) rfl rfl isOwn Try.underlying52) ⟨_, rfl, rfl⟩ rfl (From.ok (ps := [(none, 5)]) ⟨⟨rfl, by kernel_rfl⟩, trivial⟩) (DAll.op' (sp_move rfl rfl) ⟨_, rfl, rfl⟩ rfl (From.ok (ps := []) trivial) (DAll.op' (sp_lenM (N := r14.1.length) (len_map _ _) rfl rfl isOwn Try.underlying52) ⟨_, rfl, rfl⟩ rfl (From.ok (ps := [(none, 8)]) ⟨⟨rfl, by kernel_rfl⟩, trivial⟩) (DAll.op' (sp_neq rfl rfl rfl) ⟨_, rfl, rfl⟩ rfl (From.ok (ps := []) trivial) (DAll.op' (sp_pickF rfl rfl rfl) trivial rfl (From.ok (ps := []) trivial) (DAll.op' (sp_castB h28 (sp_move rfl rfl)) trivial rfl (From.ok (ps := []) trivial) (DAll.op' (sp_move rfl rfl) ⟨_, rfl, rfl⟩ rfl (From.ok (ps := []) trivial) (DAll.op' (sp_lenM (N := r14.1.length) (len_map _ _) rfl rfl isOwn Try.underlying52) ⟨_, rfl, rfl⟩ rfl (From.ok (ps := [(none, 8)]) ⟨⟨rfl, by kernel_rfl⟩, trivial⟩) (DAll.op' (sp_eql rfl rfl rfl) ⟨_, rfl, rfl⟩ rfl (From.ok (ps := []) trivial) (DAll.op' (sp_pickF rfl rfl rfl) trivial rfl (From.ok (ps := []) trivial) (DAll.op' (sp_castB h29 (sp_move rfl rfl)) trivial rfl (From.ok (ps := []) trivial) (.skip ⟨_, rfl, .inl rfl⟩ rfl rfl rfl (.skip ⟨_, rfl, .inl rfl⟩ rfl rfl rfl (.skip ⟨_, rfl, .inl rfl⟩ rfl rfl rfl (DAll.op' (sp_pickT rfl rfl rfl) trivial rfl (From.ok (ps := []) trivial) (DAll.op' (sp_move rfl rfl) trivial rfl (From.ok (ps := []) trivial) (.skip ⟨_, rfl, .inl rfl⟩ rfl rfl rfl (.skip ⟨_, rfl, .inl rfl⟩ rfl rfl rfl (.skip ⟨_, rfl, .inl rfl⟩ rfl rfl rfl (.skip ⟨_, rfl, .inl rfl⟩ rfl rfl rfl (.skip ⟨_, rfl, .inl rfl⟩ rfl rfl rfl (.skip ⟨_, rfl, .inl rfl⟩ rfl rfl rfl (.skip ⟨_, rfl, .inl rfl⟩ rfl rfl rfl (.skip ⟨_, rfl, .inl rfl⟩ rfl rfl rfl (.skip ⟨_, rfl, .inl rfl⟩ rfl rfl rfl (.skip ⟨_, rfl, .inl rfl⟩ rfl rfl rfl (.nil))))))))))))))))))))))))))))))))))))))
              refine opSkip rfl ⟨_, rfl, .inl rfl⟩ rfl ?_
              refine op0 (sp_pickT rfl rfl rfl) rfl trivial rfl rfl ?_
              refine TL.nil ?_
              refine TC.condT rfl ?_
              refine TC.seq ?_
              refine TC.region ?_
              refine op0 (sp_assign rfl rfl) rfl trivial rfl rfl ?_
              refine TL.nil ?_
              cases h
              exact retJ [] (.tmp rfl .nil) rfl trivial rfl rfl
            · rcases cond_cases h with ⟨h30, h⟩ | ⟨h30, h⟩
              · refine drawJ 38 [⟨.val (.int .i64 r14.2), [], [], []⟩, ⟨.val (.bool (r14.2 != 0)), [], [], []⟩, ⟨.val (.bool false), [], [], []⟩, ⟨.val (.int .i64 r15.2), [], [], []⟩, ⟨.val (.bool (r15.2 != 0)), [], [], []⟩, ⟨.val (.bool (r15.2 != 0)), [], [], []⟩, ⟨.val (.bool false), [], [], []⟩, ⟨.val (.int .i64 r20.2), [], [], []⟩, ⟨.val (.bool (r20.2 != 0)), [], [], []⟩, ⟨.val (.bool (r20.2 != 0)), [], [], []⟩, ⟨.val (.bool false), [], [], []⟩, ⟨.ref 31, [], [], []⟩, ⟨.val (.int .i64 (r15.1.length : Int)), [], [.row 31 57 2 (List.map en_api_Train r15.1)], []⟩, ⟨.ref 18, [], [], []⟩, ⟨.val (.int .i64 (r14.1.length : Int)), [], [.row 18 57 2 (List.map en_api_Train r14.1)], []⟩, ⟨.val (.bool ((r15.1.length : Int) != (r14.1.length : Int))), [], [], []⟩, ⟨.val (.bool ((r15.1.length : Int) != (r14.1.length : Int))), [], [], []⟩, ⟨.val (.bool false), [], [], []⟩, ⟨.ref 18, [], [], []⟩, ⟨.val (.int .i64 (r14.1.length : Int)), [], [.row 18 57 2 (List.map en_api_Train r14.1)], []⟩, ⟨.val (.bool ((r14.1.length : Int) == 0)), [], [], []⟩, ⟨.val (.bool ((r14.1.length : Int) == 0)), [], [], []⟩, ⟨.val (.bool false), [], [], []⟩, ⟨.ref 40, [], [], []⟩, ⟨.val (.int .i64 (r20.1.length : Int)), [], [.row 40 57 2 (List.map en_api_Train r20.1)], []⟩, ⟨.val (.bool ((r20.1.length : Int) == 0)), [], [], []⟩, ⟨.val (.bool ((r20.1.length : Int) == 0)), [], [], []⟩, ⟨.val (.bool true), [], [], []⟩, ⟨.val (undef), [], [], []⟩, ⟨.val (undef), [], [], []⟩, ⟨.val (undef), [], [], []⟩, ⟨.val (undef), [], [], []⟩, ⟨.val (undef), [], [], []⟩, ⟨.val (undef), [], [], []⟩, ⟨.val (undef), [], [], []⟩, ⟨.val (undef), [], [], []⟩, ⟨.val (undef), [], [], []⟩, ⟨.val (undef), [], [], []⟩] rfl ?_ rfl ?_ rfl ?_ ?_
                · kernel_rfl
                · kernel_rfl
                · exact DAll.op' (sp_move rfl rfl) trivial rfl (From.ok (ps := []) trivial) (DAll.op' (sp_neq rfl rfl rfl) trivial rfl (From.ok (ps := []) trivial) (DAll.op' (sp_castB h25 (sp_move rfl rfl)) trivial rfl (From.ok (ps := []) trivial) (DAll.op' (sp_move rfl rfl) ⟨_, rfl, rfl⟩ rfl (From.ok (ps := []) trivial) (DAll.op' (sp_neq rfl rfl rfl) ⟨_, rfl, rfl⟩ rfl (From.ok (ps := []) trivial) (DAll.op' (sp_pickF rfl rfl rfl) trivial rfl (From.ok (ps := []) trivial) (DAll.op' (sp_castB h26 (sp_move rfl rfl)) trivial rfl (From.ok (ps := []) trivial) (DAll.op' (sp_move rfl rfl) ⟨_, rfl, rfl⟩ rfl (From.ok (ps := []) trivial) (DAll.op' (sp_neq rfl rfl rfl) ⟨_, rfl, rfl⟩ rfl (From.ok (ps := []) trivial) (DAll.op' (sp_pickF rfl rfl rfl) trivial rfl (From.ok (ps := []) trivial) (DAll.op' (sp_castB h27 (sp_move rfl rfl)) trivial rfl (From.ok (ps := []) trivial) (DAll.op' (sp_move rfl rfl) ⟨_, rfl, rfl⟩ rfl (From.ok (ps := []) trivial) (DAll.op' (sp_lenM (N := r15.1.length) (len_map _ _) rfl rfl isOwn Try.underlying52) ⟨_, rfl, rfl⟩ rfl (From.ok (ps := [(none, 5)]) ⟨⟨rfl, by kernel_rfl⟩, trivial⟩) (DAll.op' (sp_move rfl rfl) ⟨_, rfl, rfl⟩ rfl (From.ok (ps := []) trivial) (DAll.op' (sp_lenM (N := r14.1.length) (len_map _ _) rfl rfl isOwn Try.underlying52) ⟨_, rfl, rfl⟩ rfl (From.ok (ps := [(none, 8)]) ⟨⟨rfl, by kernel_rfl⟩, trivial⟩) (DAll.op' (sp_neq rfl rfl rfl) ⟨_, rfl, rfl⟩ rfl (From.ok (ps := []) trivial) (DAll.op' (sp_pickF rfl rfl rfl) trivial rfl (From.ok (ps := []) trivial) (DAll.op' (sp_castB h28 (sp_move rfl rfl)) trivial rfl (From.ok (ps := []) trivial) (DAll.op' (sp_move rfl rfl) ⟨_, rfl, rfl⟩ rfl (From.ok (ps := []) trivial) (DAll.op' (sp_lenM (N := r14.1.length) (len_map _ _) rfl rfl isOwn Try.underlying52) ⟨_, rfl, rfl⟩ rfl (From.ok (ps := [(none, 8)]) ⟨⟨rfl, by kernel_rfl⟩, trivial⟩) (DAll.op' (sp_eql rfl rfl rfl) ⟨_, rfl, rfl⟩ rfl (From.ok (ps := []) trivial) (DAll.op' (sp_pickF rfl rfl rfl) trivial rfl (From.ok (ps := []) trivial) (DAll.op' (sp_castB h29 (sp_move rfl rfl)) trivial rfl (From.ok (ps := []) trivial) (DAll.op' (sp_move rfl rfl) ⟨_, rfl, rfl⟩ rfl (From.ok (ps := []) trivial) (DAll.op' (sp_lenM (N := r20.1.length) (len_map _ _) rfl rfl isOwn Try.underlying52) ⟨_, rfl, rfl⟩ rfl (From.ok (ps := [(none, 0)]) ⟨⟨rfl, by kernel_rfl⟩, trivial⟩) (DAll.op' (sp_eql rfl rfl rfl) ⟨_, rfl, rfl⟩ rfl (From.ok (ps := []) trivial) (DAll.op' (sp_pickF rfl rfl rfl) trivial rfl (From.ok (ps := []) trivial) (DAll.op' (sp_castB h30 (sp_move rfl rfl)) trivial rfl (From.ok (ps := []) trivial) (.skip ⟨_, rfl, .inl rfl⟩ rfl rfl rfl (.skip ⟨_, rfl, .inl rfl⟩ rfl rfl rfl (.skip ⟨_, rfl, .inl rfl⟩ rfl rfl rfl (.skip ⟨_, rfl, .inl rfl⟩ rfl rfl rfl (.skip ⟨_, rfl, .inl rfl⟩ rfl rfl rfl (.skip ⟨_, rfl, .inl rfl⟩ rfl rfl rfl (.skip ⟨_, rfl, .inl rfl⟩ rfl rfl rfl (.skip ⟨_, rfl, .inl rfl⟩ rfl rfl rfl (.skip ⟨_, rfl, .inl rfl⟩ rfl rfl rfl (.skip ⟨_, rfl, .inl rfl⟩ rfl rfl rfl (.nil))))))))))))))))))))))))))))))))))))))
                refine opSkip rfl ⟨_, rfl, .inl rfl⟩ rfl ?_
                refine op0 (sp_pickT rfl rfl rfl) rfl trivial rfl rfl ?_
                refine TL.nil ?_
                refine TC.condT rfl ?_
                refine TC.seq ?_
                refine TC.region ?_
                refine op0 (sp_assign rfl rfl) rfl trivial rfl rfl ?_
                refine TL.nil ?_
                cases h
                exact retJ [] (.tmp rfl .nil) rfl trivial rfl rfl
              · obtain ⟨x21, h31, h32, h⟩ := idx_inv h
                obtain ⟨x22, h33, h34, h⟩ := idx_inv h
                refine drawJ 38 [⟨.val (.int .i64 r14.2), [], [], []⟩, ⟨.val (.bool (r14.2 != 0)), [], [], []⟩, ⟨.val (.bool false), [], [], []⟩, ⟨.val (.int .i64 r15.2), [], [], []⟩, ⟨.val (.bool (r15.2 != 0)), [], [], []⟩, ⟨.val (.bool (r15.2 != 0)), [], [], []⟩, ⟨.val (.bool false), [], [], []⟩, ⟨.val (.int .i64 r20.2), [], [], []⟩, ⟨.val (.bool (r20.2 != 0)), [], [], []⟩, ⟨.val (.bool (r20.2 != 0)), [], [], []⟩, ⟨.val (.bool false), [], [], []⟩, ⟨.ref 31, [], [], []⟩, ⟨.val (.int .i64 (r15.1.length : Int)), [], [.row 31 57 2 (List.map en_api_Train r15.1)], []⟩, ⟨.ref 18, [], [], []⟩, ⟨.val (.int .i64 (r14.1.length : Int)), [], [.row 18 57 2 (List.map en_api_Train r14.1)], []⟩, ⟨.val (.bool ((r15.1.length : Int) != (r14.1.length : Int))), [], [], []⟩, ⟨.val (.bool ((r15.1.length : Int) != (r14.1.length : Int))), [], [], []⟩, ⟨.val (.bool false), [], [], []⟩, ⟨.ref 18, [], [], []⟩, ⟨.val (.int .i64 (r14.1.length : Int)), [], [.row 18 57 2 (List.map en_api_Train r14.1)], []⟩, ⟨.val (.bool ((r14.1.length : Int) == 0)), [], [], []⟩, ⟨.val (.bool ((r14.1.length : Int) == 0)), [], [], []⟩, ⟨.val (.bool false), [], [], []⟩, ⟨.ref 40, [], [], []⟩, ⟨.val (.int .i64 (r20.1.length : Int)), [], [.row 40 57 2 (List.map en_api_Train r20.1)], []⟩, ⟨.val (.bool ((r20.1.length : Int) == 0)), [], [], []⟩, ⟨.val (.bool ((r20.1.length : Int) == 0)), [], [], []⟩, ⟨.val (.bool false), [], [], []⟩, ⟨.ref 40, [], [], []⟩, ⟨.cell 40 ((0 : Int).toNat * 2), [], [.row 40 57 2 (List.map en_api_Train r20.1)], []⟩, ⟨.cell 40 ((0 : Int).toNat * 2 + 0), [], [.row 40 57 2 (List.map en_api_Train r20.1)], []⟩, ⟨.ref 41, [.ro 41 1 (List.map en_int x21.1)], [.row 40 57 2 (List.map en_api_Train r20.1)], []⟩, ⟨.val (.int .i64 (x21.1.length : Int)), [], [.ro 41 1 (List.map en_int x21.1)], []⟩, ⟨.ref 18, [], [], []⟩, ⟨.cell 18 ((0 : Int).toNat * 2), [], [.row 18 57 2 (List.map en_api_Train r14.1)], []⟩, ⟨.cell 18 ((0 : Int).toNat * 2 + 0), [], [.row 18 57 2 (List.map en_api_Train r14.1)], []⟩, ⟨.ref 42, [.ro 42 1 (List.map en_int x22.1)], [.row 18 57 2 (List.map en_api_Train r14.1)], []⟩, ⟨.val (.int .i64 (x22.1.length : Int)), [], [.ro 42 1 (List.map en_int x22.1)], []⟩] rfl ?_ rfl ?_ rfl ?_ ?_
                · kernel_rfl
                · kernel_rfl
                · exact DAll.op' (sp_move rfl rfl) trivial rfl (From.ok (ps := []) trivial) (DAll.op' (sp_neq rfl rfl rfl) trivial rfl (From.ok (ps := []) trivial) (DAll.op' (sp_castB h25 (sp_move rfl rfl)) trivial rfl (From.ok (ps := []) trivial) (DAll.op' (sp_move rfl rfl) ⟨_, rfl, rfl⟩ rfl (From.ok (ps := []) trivial) (DAll.op' (sp_neq rfl rfl rfl) ⟨_, rfl, rfl⟩ rfl (From.ok (ps := []) trivial) (DAll.op' (sp_pickF rfl rfl rfl) trivial rfl (From.ok (ps := []) trivial) (DAll.op' (sp_castB h26 (sp_move rfl rfl)) trivial rfl (From.ok (ps := []) trivial) (DAll.op' (sp_move rfl rfl) ⟨_, rfl, rfl⟩ rfl (From.ok (ps := []) trivial) (DAll.op' (sp_neq rfl rfl rfl) ⟨_, rfl, rfl⟩ rfl (From.ok (ps := []) trivial) (DAll.op' (sp_pickF rfl rfl rfl) trivial rfl (From.ok (ps := []) trivial) (DAll.op' (sp_castB h27 (sp_move rfl rfl)) trivial rfl (From.ok (ps := []) trivial) (DAll.op' (sp_move rfl rfl) ⟨_, rfl, rfl⟩ rfl (From.ok (ps := []) trivial) (DAll.op' (sp_lenM (N := r15.1.length) (len_map _ _) rfl rfl isOwn Try.underlying52) ⟨_, rfl, rfl⟩ rfl (From.ok (ps := [(none, 5)]) ⟨⟨rfl, by kernel_rfl⟩, trivial⟩) (DAll.op' (sp_move rfl rfl) ⟨_, rfl, rfl⟩ rfl (From.ok (ps := []) trivial) (DAll.op' (sp_lenM (N := r14.1.length) (len_map _ _) rfl rfl isOwn Try.underlying52) ⟨_, rfl, rfl⟩ rfl (From.ok (ps := [(none, 8)]) ⟨⟨rfl, by kernel_rfl⟩, trivial⟩) (DAll.op' (sp_neq rfl rfl rfl) ⟨_, rfl, rfl⟩ rfl (From.ok (ps := []) trivial) (DAll.op' (sp_pickF rfl rfl rfl) trivial rfl (From.ok (ps := []) trivial) (DAll.op' (sp_castB h28 (sp_move rfl rfl)) trivial rfl (From.ok (ps := []) trivial) (DAll.op' (sp_move rfl rfl) ⟨_, rfl, rfl⟩ rfl (From.ok (ps := []) trivial) (DAll.op' (sp_lenM (N := r14.1.length) (len_map _ _) rfl rfl isOwn Try.underlying52) ⟨_, rfl, rfl⟩ rfl (From.ok (ps := [(none, 8)]) ⟨⟨rfl, by kernel_rfl⟩, trivial⟩) (DAll.op' (sp_eql rfl rfl rfl) ⟨_, rfl, rfl⟩ rfl (From.ok (ps := []) trivial) (DAll.op' (sp_pickF rfl rfl rfl) trivial rfl (From.ok (ps := []) trivial) (DAll.op' (sp_castB h29 (sp_move rfl rfl)) trivial rfl (From.ok (ps := []) trivial) (DAll.op' (sp_move rfl rfl) ⟨_, rfl, rfl⟩ rfl (From.ok (ps := []) trivial) (DAll.op' (sp_lenM (N := r20.1.length) (len_map _ _) rfl rfl isOwn Try.underlying52) ⟨_, rfl, rfl⟩ rfl (From.ok (ps := [(none, 0)]) ⟨⟨rfl, by kernel_rfl⟩, trivial⟩) (DAll.op' (sp_eql rfl rfl rfl) ⟨_, rfl, rfl⟩ rfl (From.ok (ps := []) trivial) (DAll.op' (sp_pickF rfl rfl rfl) trivial rfl (From.ok (ps := []) trivial) (DAll.op' (sp_castB h30 (sp_move rfl rfl)) trivial rfl (From.ok (ps := []) trivial) (DAll.op' (sp_move rfl rfl) ⟨_, rfl, rfl⟩ rfl (From.ok (ps := []) trivial) (DAll.op' (sp_indexS rfl rfl rfl isOwn sl52 h31 (map_get _ h32)) ⟨_, rfl, rfl⟩ rfl (From.ok (ps := [(none, 0)]) ⟨⟨rfl, by kernel_rfl⟩, trivial⟩) (DAll.op' (sp_fieldAddrR (i := (0 : Int).toNat) rfl rfl isOwn ft57_0 vt38 (by decide) (map_get _ h32) (fun h => nomatch h)) ⟨_, rfl, rfl⟩ rfl (From.ok (ps := [(none, 0)]) ⟨⟨rfl, by kernel_rfl⟩, trivial⟩) (DAll.op' (sp_loadR (i := (0 : Int).toNat) (j := 0) (ns := [.ro 41 1 (List.map en_int x21.1)]) rfl rfl isOwn vt38 rfl (map_get _ h32) rfl (.s (.nil)) (nodup_of_B rfl)) ⟨_, rfl, rfl⟩ rfl (From.ok (ps := [(none, 0)]) ⟨⟨rfl, by kernel_rfl⟩, trivial⟩) (DAll.op' (sp_lenM (N := x21.1.length) (len_map _ _) rfl rfl isRo Try.underlying38) ⟨_, rfl, rfl⟩ rfl (From.ok (ps := [(some 31, 0)]) ⟨⟨_, rfl, by kernel_rfl, rfl, by kernel_rfl⟩, trivial⟩) (DAll.op' (sp_move rfl rfl) ⟨_, rfl, rfl⟩ rfl (From.ok (ps := []) trivial) (DAll.op' (sp_indexS rfl rfl rfl isOwn sl52 h33 (map_get _ h34)) ⟨_, rfl, rfl⟩ rfl (From.ok (ps := [(none, 8)]) ⟨⟨rfl, by kernel_rfl⟩, trivial⟩) (DAll.op' (sp_fieldAddrR (i := (0 : Int).toNat) rfl rfl isOwn ft57_0 vt38 (by decide) (map_get _ h34) (fun h => nomatch h)) ⟨_, rfl, rfl⟩ rfl (From.ok (ps := [(none, 8)]) ⟨⟨rfl, by kernel_rfl⟩, trivial⟩) (DAll.op' (sp_loadR (i := (0 : Int).toNat) (j := 0) (ns := [.ro 42 1 (List.map en_int x22.1)]) rfl rfl isOwn vt38 rfl (map_get _ h34) rfl (.s (.nil)) (nodup_of_B rfl)) ⟨_, rfl, rfl⟩ rfl (From.ok (ps := [(none, 8)]) ⟨⟨rfl, by kernel_rfl⟩, trivial⟩) (DAll.op' (sp_lenM (N := x22.1.length) (len_map _ _) rfl rfl isRo Try.underlying38) ⟨_, rfl, rfl⟩ rfl (From.ok (ps := [(some 36, 0)]) ⟨⟨_, rfl, by kernel_rfl, rfl, by kernel_rfl⟩, trivial⟩) (.nil))))))))))))))))))))))))))))))))))))))
                refine op0 (sp_gtr rfl rfl rfl) rfl ⟨_, rfl, rfl⟩ rfl rfl ?_
                refine op0 (sp_pickF rfl rfl rfl) rfl trivial rfl rfl ?_
                refine TL.nil ?_
                refine TC.cond (b := (decide ((x22.1.length : Int) < (x21.1.length : Int)))) rfl (fun h35 => ?_) (fun h35 => ?_)
                · have h := cond_t h h35
                  refine TC.seq ?_
                  refine TC.region ?_
                  refine op0 (sp_assign rfl rfl) rfl trivial rfl rfl ?_
                  refine TL.nil ?_
                  cases h
                  exact retJ [] (.tmp rfl .nil) rfl trivial rfl rfl
                · have h := cond_f h h35
                  refine subJ [] (ok_law01_TrainInverse_j0 h) ?_ ?_ ?_
                  · exact ⟨rfl, rfl, rfl, trivial⟩
                  · exact ⟨mem_at 10 rfl, mem_at 7 rfl, mem_at 2 rfl, trivial⟩
                  · rfl
end
end Go.Proofs.Ytabjhlfgcmmbfaa.Sy
