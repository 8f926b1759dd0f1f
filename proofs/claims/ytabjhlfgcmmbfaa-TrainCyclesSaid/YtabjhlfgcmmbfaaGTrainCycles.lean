/- What functions of the program compute, and that they do: printed by symgen.py. -/
import Derived.Test.YtabjhlfgcmmbfaaGLib
import Derived.Test.YtabjhlfgcmmbfaaGturretlaw01
import Derived.Test.YtabjhlfgcmmbfaaGTrain
set_option linter.unusedSimpArgs false
set_option linter.unusedVariables false
namespace Go.Proofs.Ytabjhlfgcmmbfaa.Sy
open Go.RowKit
noncomputable section

/- law01_TrainCycles -/
def ev_law01_TrainCycles_l6 (n : Nat) (l7 : List (Int × Int)) (r11 : Int × Int) (i15 : Int) (i13 : Int) (k_law01_TrainCycles_l3 : Int → Option Bool) : Nat → Bool → Int → Int → Int → Option Bool
  | 0, _, _, _, _ => none
  | m + 1, b16, i17, i18, i19 => cond (decide (i19 < (l7.length : Int))) (idx l7 i19 fun x20 => chk (in64 (i17 * x20.1)) <| chk (in64 (i18 * x20.2)) <| (ev_law01_gcd n (i17 * x20.1) (i18 * x20.2)).bind fun r21 => chk (r21 != 0) <| chk (in64 (Int.tdiv (i17 * x20.1) r21)) <| chk (r21 != 0) <| chk (in64 (Int.tdiv (i18 * x20.2) r21)) <| cond b16 (chk (in64 (i19 + 1)) <| ev_law01_TrainCycles_l6 n l7 r11 i15 i13 k_law01_TrainCycles_l3 m ((Int.tdiv (i18 * x20.2) r21) == 1) (Int.tdiv (i17 * x20.1) r21) (Int.tdiv (i18 * x20.2) r21) (i19 + 1)) (chk (in64 (i19 + 1)) <| ev_law01_TrainCycles_l6 n l7 r11 i15 i13 k_law01_TrainCycles_l3 m false (Int.tdiv (i17 * x20.1) r21) (Int.tdiv (i18 * x20.2) r21) (i19 + 1))) (chk (r11.1 != 0) <| cond (b16 != ((Int.tmod i15 r11.1) == 0)) (some false) (chk (in64 (i13 + 1)) <| k_law01_TrainCycles_l3 (i13 + 1)))
set_option maxRecDepth 100000 in
set_option maxHeartbeats 2000000 in
theorem ok_law01_TrainCycles_l6 {n : Nat} {w0 : World} {R0 : Nat → Prop} {env0 : Env} {r : Bool} {turns2 : Int} {r9 : Int × Int × Bool × Int} {r11 : Int × Int} {i15 : Int} {l7 : List (Int × Int)} {i13 : Int} {k_law01_TrainCycles_l3 : Int → Option Bool} (hk_law01_TrainCycles_l3 : ∀ (i13 : Int), k_law01_TrainCycles_l3 i13 = some r → TC Try.prog ⟨w0, fun _ => False, R0⟩ 209 (bodyPost Try.prog Try.f9 (Post ⟨w0, fun _ => False, R0⟩ env0 (.val (.bool r)) [])) [.code (sub (bodyOf Try.f9) [1, 1, 1, 1, 1, 1, 0, 1, 0, 0, 0, 0]), .code (sub (bodyOf Try.f9) [1, 1, 1, 1, 1, 1, 0, 1, 0, 0, 0, 1]), .code (sub (bodyOf Try.f9) [1, 1, 1, 1, 1, 1, 0, 1, 0, 0, 1]), .inLoop (sub (bodyOf Try.f9) [1, 1, 1, 1, 1, 1, 0, 1, 0, 0]), .inBlock 2, .code (sub (bodyOf Try.f9) [1, 1, 1, 1, 1, 1, 1])] ([(1, .val (.int .u16 turns2)), (5, .ref 1), (7, .ptr 5 0), (8, .val (.bool r9.2.2.1)), (10, .val (.int .i64 r11.1)), (12, .val (.int .i64 i13))]) ([.row 1 33 2 (List.map en_api_TrainPair l7), .blk 5 [.val (.int .i64 r9.1), .val (.int .i64 r9.2.1)] 26])) : ∀ (m : Nat) (b16 : Bool) (i17 : Int) (i18 : Int) (i19 : Int), ev_law01_TrainCycles_l6 n l7 r11 i15 i13 k_law01_TrainCycles_l3 m b16 i17 i18 i19 = some r → TC Try.prog ⟨w0, fun _ => False, R0⟩ 209 (bodyPost Try.prog Try.f9 (Post ⟨w0, fun _ => False, R0⟩ env0 (.val (.bool r)) [])) [.code (sub (bodyOf Try.f9) [1, 1, 1, 1, 1, 1, 0, 1, 0, 0, 1, 0, 0, 1, 1, 1, 1, 0, 1, 0, 0, 0, 0]), .code (sub (bodyOf Try.f9) [1, 1, 1, 1, 1, 1, 0, 1, 0, 0, 1, 0, 0, 1, 1, 1, 1, 0, 1, 0, 0, 0, 1]), .code (sub (bodyOf Try.f9) [1, 1, 1, 1, 1, 1, 0, 1, 0, 0, 1, 0, 0, 1, 1, 1, 1, 0, 1, 0, 0, 1]), .inLoop (sub (bodyOf Try.f9) [1, 1, 1, 1, 1, 1, 0, 1, 0, 0, 1, 0, 0, 1, 1, 1, 1, 0, 1, 0, 0]), .inBlock 4, .code (sub (bodyOf Try.f9) [1, 1, 1, 1, 1, 1, 0, 1, 0, 0, 1, 0, 0, 1, 1, 1, 1, 1]), .inBlock 3, .code (sub (bodyOf Try.f9) [1, 1, 1, 1, 1, 1, 0, 1, 0, 0, 1, 1]), .inLoop (sub (bodyOf Try.f9) [1, 1, 1, 1, 1, 1, 0, 1, 0, 0]), .inBlock 2, .code (sub (bodyOf Try.f9) [1, 1, 1, 1, 1, 1, 1])] ([(1, .val (.int .u16 turns2)), (5, .ref 1), (7, .ptr 5 0), (8, .val (.bool r9.2.2.1)), (10, .val (.int .i64 r11.1)), (12, .val (.int .i64 i13)), (13, .val (.int .i64 i15)), (14, .val (.bool b16)), (15, .val (.int .i64 i17)), (16, .val (.int .i64 i18)), (17, .val (.int .i64 i19))]) ([.row 1 33 2 (List.map en_api_TrainPair l7), .blk 5 [.val (.int .i64 r9.1), .val (.int .i64 r9.2.1)] 26]) := by
  intro m
  induction m with
  | zero => intro b16 i17 i18 i19 h; exact none_no h
  | succ m ih =>
    intro b16 i17 i18 i19 h
    rw [ev_law01_TrainCycles_l6] at h
    refine TC.region ?_
    refine op0 (sp_move rfl rfl) rfl trivial rfl rfl ?_
    refine op0 (sp_move rfl rfl) rfl trivial rfl rfl ?_
    refine op1 0 rfl (sp_lenM (N := l7.length) (len_map _ _) rfl rfl isOwn Try.underlying22) rfl trivial rfl rfl ?_
    refine op0 (sp_lss rfl rfl rfl) rfl trivial rfl rfl ?_
    refine TL.nil ?_
    refine TC.cond (b := (decide (i19 < (l7.length : Int)))) rfl (fun h29 => ?_) (fun h29 => ?_)
    · have h := cond_t h h29
      refine TC.skip ?_
      refine TC.seq ?_
      refine TC.block ?_
      refine TC.seq ?_
      obtain ⟨x20, h30, h31, h⟩ := idx_inv h
      obtain ⟨h32, h⟩ := chk_inv h
      obtain ⟨h33, h⟩ := chk_inv h
      refine drawJ 15 [⟨.val (.int .i64 i17), [], [], []⟩, ⟨.ref 1, [], [], []⟩, ⟨.val (.int .i64 i19), [], [], []⟩, ⟨.cell 1 ((i19 : Int).toNat * 2), [], [.row 1 33 2 (List.map en_api_TrainPair l7)], []⟩, ⟨.cell 1 ((i19 : Int).toNat * 2 + 0), [], [.row 1 33 2 (List.map en_api_TrainPair l7)], []⟩, ⟨.val (.int .i64 x20.1), [], [.row 1 33 2 (List.map en_api_TrainPair l7)], []⟩, ⟨.val (.int .i64 (i17 * x20.1)), [], [], []⟩, ⟨.val (.int .i64 i18), [], [], []⟩, ⟨.ref 1, [], [], []⟩, ⟨.val (.int .i64 i19), [], [], []⟩, ⟨.cell 1 ((i19 : Int).toNat * 2), [], [.row 1 33 2 (List.map en_api_TrainPair l7)], []⟩, ⟨.cell 1 ((i19 : Int).toNat * 2 + 1), [], [.row 1 33 2 (List.map en_api_TrainPair l7)], []⟩, ⟨.val (.int .i64 x20.2), [], [.row 1 33 2 (List.map en_api_TrainPair l7)], []⟩, ⟨.val (.int .i64 (i18 * x20.2)), [], [], []⟩, ⟨.val (.int .i64 (i17 * x20.1)), [], [], []⟩] rfl ?_ rfl ?_ rfl ?_ ?_
      · kernel_rfl
      · kernel_rfl
      · exact DAll.op' (sp_move rfl rfl) trivial rfl (From.ok (ps := []) trivial) (DAll.op' (sp_move rfl rfl) trivial rfl (From.ok (ps := []) trivial) (DAll.op' (sp_move rfl rfl) trivial rfl (From.ok (ps := []) trivial) (DAll.op' (sp_indexS rfl rfl rfl isOwn sl22 h30 (map_get _ h31)) trivial rfl (From.ok (ps := [(none, 0)]) ⟨⟨rfl, rfl⟩, trivial⟩) (DAll.op' (sp_fieldAddrR (i := (i19 : Int).toNat) rfl rfl isOwn ft33_0 vt3 (by decide) (map_get _ h31) (fun h => nomatch h)) trivial rfl (From.ok (ps := [(none, 0)]) ⟨⟨rfl, rfl⟩, trivial⟩) (DAll.op' (sp_loadR (i := (i19 : Int).toNat) (j := 0) rfl rfl isOwn vt3 rfl (map_get _ h31) rfl (.v (.nil)) (nodup_of_B rfl)) trivial rfl (From.ok (ps := [(none, 0)]) ⟨⟨rfl, rfl⟩, trivial⟩) (DAll.op' (sp_mul rfl rfl rfl h32) trivial rfl (From.ok (ps := []) trivial) (DAll.op' (sp_move rfl rfl) trivial rfl (From.ok (ps := []) trivial) (DAll.op' (sp_move rfl rfl) trivial rfl (From.ok (ps := []) trivial) (DAll.op' (sp_move rfl rfl) trivial rfl (From.ok (ps := []) trivial) (DAll.op' (sp_indexS rfl rfl rfl isOwn sl22 h30 (map_get _ h31)) trivial rfl (From.ok (ps := [(none, 0)]) ⟨⟨rfl, rfl⟩, trivial⟩) (DAll.op' (sp_fieldAddrR (i := (i19 : Int).toNat) rfl rfl isOwn ft33_1 vt3 (by decide) (map_get _ h31) (fun h => nomatch h)) trivial rfl (From.ok (ps := [(none, 0)]) ⟨⟨rfl, rfl⟩, trivial⟩) (DAll.op' (sp_loadR (i := (i19 : Int).toNat) (j := 1) rfl rfl isOwn vt3 rfl (map_get _ h31) rfl (.v (.nil)) (nodup_of_B rfl)) trivial rfl (From.ok (ps := [(none, 0)]) ⟨⟨rfl, rfl⟩, trivial⟩) (DAll.op' (sp_mul rfl rfl rfl h33) trivial rfl (From.ok (ps := []) trivial) (DAll.op' (sp_assign rfl rfl) trivial rfl (From.ok (ps := []) trivial) (.nil)))))))))))))))
      refine op0 (sp_assign rfl rfl) rfl trivial rfl rfl ?_
      refine TL.nil ?_
      refine TC.seq ?_
      refine TC.region ?_
      refine op0 (sp_move rfl rfl) rfl trivial rfl rfl ?_
      refine op0 (sp_move rfl rfl) rfl trivial rfl rfl ?_
      obtain ⟨r21, h34, h⟩ := bind_inv h
      refine op0 (sp_call (avs := [.val (.int .i64 (i17 * x20.1)), .val (.int .i64 (i18 * x20.2))]) (need := []) (v := .val (.int .i64 r21)) (news := []) rfl rfl rfl Try.call40 (atJ [] [] (fc_law01_gcd h34) rfl rfl) (.inl (roAll rfl))) rfl trivial rfl rfl ?_
      refine op0 (sp_assign rfl rfl) rfl trivial rfl rfl ?_
      refine TL.nil ?_
      refine TC.seq ?_
      obtain ⟨h35, h⟩ := chk_inv h
      obtain ⟨h36, h⟩ := chk_inv h
      obtain ⟨h37, h⟩ := chk_inv h
      obtain ⟨h38, h⟩ := chk_inv h
      refine drawJ 7 [⟨.val (.int .i64 (i17 * x20.1)), [], [], []⟩, ⟨.val (.int .i64 r21), [], [], []⟩, ⟨.val (.int .i64 (Int.tdiv (i17 * x20.1) r21)), [], [], []⟩, ⟨.val (.int .i64 (i18 * x20.2)), [], [], []⟩, ⟨.val (.int .i64 r21), [], [], []⟩, ⟨.val (.int .i64 (Int.tdiv (i18 * x20.2) r21)), [], [], []⟩, ⟨.val (.int .i64 (Int.tdiv (i17 * x20.1) r21)), [], [], []⟩] rfl ?_ rfl ?_ rfl ?_ ?_
      · kernel_rfl
      · kernel_rfl
      · exact DAll.op' (sp_move rfl rfl) trivial rfl (From.ok (ps := []) trivial) (DAll.op' (sp_move rfl rfl) trivial rfl (From.ok (ps := []) trivial) (DAll.op' (sp_quo rfl rfl rfl h35 h36) trivial rfl (From.ok (ps := []) trivial) (DAll.op' (sp_move rfl rfl) trivial rfl (From.ok (ps := []) trivial) (DAll.op' (sp_move rfl rfl) trivial rfl (From.ok (ps := []) trivial) (DAll.op' (sp_quo rfl rfl rfl h37 h38) trivial rfl (From.ok (ps := []) trivial) (DAll.op' (sp_assign rfl rfl) trivial rfl (From.ok (ps := []) trivial) (.nil)))))))
      refine op0 (sp_assign rfl rfl) rfl trivial rfl rfl ?_
      refine TL.nil ?_
      refine TC.region ?_
      refine op0 (sp_move rfl rfl) rfl trivial rfl rfl ?_
      refine op0 (sp_move rfl rfl) rfl trivial rfl rfl ?_
      rcases cond_cases h with ⟨h39, h⟩ | ⟨h39, h⟩
      · refine (boolLit 144 rfl h39).2 ?_
        refine op0 (sp_move rfl rfl) rfl ⟨_, rfl, rfl⟩ rfl rfl ?_
        refine op0 (sp_eql rfl rfl rfl) rfl ⟨_, rfl, rfl⟩ rfl rfl ?_
        refine op0 (sp_pickT rfl rfl rfl) rfl trivial rfl rfl ?_
        refine op0 (sp_assign rfl rfl) rfl trivial rfl rfl ?_
        refine TL.nil ?_
        refine TC.inBlock ?_
        refine TC.region ?_
        refine op0 (sp_move rfl rfl) rfl trivial rfl rfl ?_
        obtain ⟨h40, h⟩ := chk_inv h
        refine op0 (sp_add rfl rfl rfl h40) rfl trivial rfl rfl ?_
        refine op0 (sp_assign rfl rfl) rfl trivial rfl rfl ?_
        refine TL.nil ?_
        refine TC.inLoop ?_
        refine TC.seq ?_
        refine TC.seq ?_
        refine subJ [] (ih _ _ _ _ h) ?_ ?_ ?_
        · exact ⟨rfl, rfl, rfl, rfl, rfl, rfl, rfl, rfl, rfl, rfl, rfl, trivial⟩
        · exact ⟨mem_at 0 rfl, mem_at 1 rfl, trivial⟩
        · rfl
      · refine (boolLit 144 rfl h39).2 ?_
        refine opSkip rfl ⟨_, rfl, .inl rfl⟩ rfl ?_
        refine opSkip rfl ⟨_, rfl, .inl rfl⟩ rfl ?_
        refine op0 (sp_pickF rfl rfl rfl) rfl trivial rfl rfl ?_
        refine op0 (sp_assign rfl rfl) rfl trivial rfl rfl ?_
        refine TL.nil ?_
        refine TC.inBlock ?_
        refine TC.region ?_
        refine op0 (sp_move rfl rfl) rfl trivial rfl rfl ?_
        obtain ⟨h41, h⟩ := chk_inv h
        refine op0 (sp_add rfl rfl rfl h41) rfl trivial rfl rfl ?_
        refine op0 (sp_assign rfl rfl) rfl trivial rfl rfl ?_
        refine TL.nil ?_
        refine TC.inLoop ?_
        refine TC.seq ?_
        refine TC.seq ?_
        refine subJ [] (ih _ _ _ _ h) ?_ ?_ ?_
        · exact ⟨rfl, rfl, rfl, rfl, rfl, rfl, rfl, rfl, rfl, rfl, rfl, trivial⟩
        · exact ⟨mem_at 0 rfl, mem_at 1 rfl, trivial⟩
        · rfl
    · have h := cond_f h h29
      refine TC.exit rfl ?_
      refine TC.seq ?_
      refine TC.region ?_
      refine op0 (sp_move rfl rfl) rfl trivial rfl rfl ?_
      refine op0 (sp_move rfl rfl) rfl trivial rfl rfl ?_
      refine op0 (sp_move rfl rfl) rfl trivial rfl rfl ?_
      obtain ⟨h42, h⟩ := chk_inv h
      refine op0 (sp_rem rfl rfl rfl h42) rfl trivial rfl rfl ?_
      refine op0 (sp_eql rfl rfl rfl) rfl trivial rfl rfl ?_
      refine op0 (sp_neqB rfl Try.underlying4 rfl rfl) rfl trivial rfl rfl ?_
      refine TL.nil ?_
      refine TC.cond (b := (b16 != ((Int.tmod i15 r11.1) == 0))) rfl (fun h43 => ?_) (fun h43 => ?_)
      · have h := cond_t h h43
        refine TC.seq ?_
        refine TC.region ?_
        refine op0 (sp_assign rfl rfl) rfl trivial rfl rfl ?_
        refine TL.nil ?_
        cases h
        exact retJ [] (.tmp rfl .nil) rfl trivial rfl rfl
      · have h := cond_f h h43
        refine TC.skip ?_
        refine TC.inBlock ?_
        refine TC.region ?_
        refine op0 (sp_move rfl rfl) rfl trivial rfl rfl ?_
        obtain ⟨h44, h⟩ := chk_inv h
        refine op0 (sp_add rfl rfl rfl h44) rfl trivial rfl rfl ?_
        refine op0 (sp_assign rfl rfl) rfl trivial rfl rfl ?_
        refine TL.nil ?_
        refine TC.inLoop ?_
        refine TC.seq ?_
        refine TC.seq ?_
        refine subJ [] (hk_law01_TrainCycles_l3 _ h) ?_ ?_ ?_
        · exact ⟨rfl, rfl, rfl, rfl, rfl, rfl, trivial⟩
        · exact ⟨mem_at 0 rfl, mem_at 1 rfl, trivial⟩
        · rfl
def ev_law01_TrainCycles_j5 (n : Nat) (l7 : List (Int × Int)) (r11 : Int × Int) (i13 : Int) (k_law01_TrainCycles_l3 : Int → Option Bool) (i15 : Int) : Option Bool :=
  ev_law01_TrainCycles_l6 n l7 r11 i15 i13 k_law01_TrainCycles_l3 n true i15 1 0
set_option maxRecDepth 100000 in
set_option maxHeartbeats 2000000 in
theorem ok_law01_TrainCycles_j5 {n : Nat} {w0 : World} {R0 : Nat → Prop} {env0 : Env} {r : Bool} {turns2 : Int} {r9 : Int × Int × Bool × Int} {r11 : Int × Int} {l7 : List (Int × Int)} {i13 : Int} {k_law01_TrainCycles_l3 : Int → Option Bool} {i15 : Int} (hk_law01_TrainCycles_l3 : ∀ (i13 : Int), k_law01_TrainCycles_l3 i13 = some r → TC Try.prog ⟨w0, fun _ => False, R0⟩ 209 (bodyPost Try.prog Try.f9 (Post ⟨w0, fun _ => False, R0⟩ env0 (.val (.bool r)) [])) [.code (sub (bodyOf Try.f9) [1, 1, 1, 1, 1, 1, 0, 1, 0, 0, 0, 0]), .code (sub (bodyOf Try.f9) [1, 1, 1, 1, 1, 1, 0, 1, 0, 0, 0, 1]), .code (sub (bodyOf Try.f9) [1, 1, 1, 1, 1, 1, 0, 1, 0, 0, 1]), .inLoop (sub (bodyOf Try.f9) [1, 1, 1, 1, 1, 1, 0, 1, 0, 0]), .inBlock 2, .code (sub (bodyOf Try.f9) [1, 1, 1, 1, 1, 1, 1])] ([(1, .val (.int .u16 turns2)), (5, .ref 1), (7, .ptr 5 0), (8, .val (.bool r9.2.2.1)), (10, .val (.int .i64 r11.1)), (12, .val (.int .i64 i13))]) ([.row 1 33 2 (List.map en_api_TrainPair l7), .blk 5 [.val (.int .i64 r9.1), .val (.int .i64 r9.2.1)] 26])) (h : ev_law01_TrainCycles_j5 n l7 r11 i13 k_law01_TrainCycles_l3 i15 = some r) : TC Try.prog ⟨w0, fun _ => False, R0⟩ 209 (bodyPost Try.prog Try.f9 (Post ⟨w0, fun _ => False, R0⟩ env0 (.val (.bool r)) [])) [.code (sub (bodyOf Try.f9) [1, 1, 1, 1, 1, 1, 0, 1, 0, 0, 1, 0, 0, 1, 1, 1, 0]), .code (sub (bodyOf Try.f9) [1, 1, 1, 1, 1, 1, 0, 1, 0, 0, 1, 0, 0, 1, 1, 1, 1]), .inBlock 3, .code (sub (bodyOf Try.f9) [1, 1, 1, 1, 1, 1, 0, 1, 0, 0, 1, 1]), .inLoop (sub (bodyOf Try.f9) [1, 1, 1, 1, 1, 1, 0, 1, 0, 0]), .inBlock 2, .code (sub (bodyOf Try.f9) [1, 1, 1, 1, 1, 1, 1])] ([(1, .val (.int .u16 turns2)), (5, .ref 1), (7, .ptr 5 0), (8, .val (.bool r9.2.2.1)), (10, .val (.int .i64 r11.1)), (12, .val (.int .i64 i13)), (13, .val (.int .i64 i15))]) ([.row 1 33 2 (List.map en_api_TrainPair l7), .blk 5 [.val (.int .i64 r9.1), .val (.int .i64 r9.2.1)] 26]) := by
  rw [ev_law01_TrainCycles_j5] at h
  refine TC.region ?_
  refine op0 (sp_move rfl rfl) rfl trivial rfl rfl ?_
  refine op0 (sp_assign rfl rfl) rfl trivial rfl rfl ?_
  refine op0 (sp_assign rfl rfl) rfl trivial rfl rfl ?_
  refine op0 (sp_assign rfl rfl) rfl trivial rfl rfl ?_
  refine TL.nil ?_
  refine TC.seq ?_
  refine TC.seq ?_
  refine TC.region ?_
  refine op0 (sp_assign rfl rfl) rfl trivial rfl rfl ?_
  refine TL.nil ?_
  refine TC.block ?_
  refine TC.loop ?_
  refine TC.seq ?_
  refine TC.seq ?_
  refine subJ [] (ok_law01_TrainCycles_l6 (turns2 := turns2) (r9 := r9) hk_law01_TrainCycles_l3 _ _ _ _ _ h) ?_ ?_ ?_
  · exact ⟨rfl, rfl, rfl, rfl, rfl, rfl, rfl, rfl, rfl, rfl, rfl, trivial⟩
  · exact ⟨mem_at 0 rfl, mem_at 1 rfl, trivial⟩
  · rfl
def ev_law01_TrainCycles_j4 (n : Nat) (i13 : Int) (l7 : List (Int × Int)) (r11 : Int × Int) (k_law01_TrainCycles_l3 : Int → Option Bool) (i14 : Int) : Option Bool :=
  cond (i13 == 62) (ev_law01_TrainCycles_j5 n l7 r11 i13 k_law01_TrainCycles_l3 r11.1) (ev_law01_TrainCycles_j5 n l7 r11 i13 k_law01_TrainCycles_l3 i14)
set_option maxRecDepth 100000 in
set_option maxHeartbeats 2000000 in
theorem ok_law01_TrainCycles_j4 {n : Nat} {w0 : World} {R0 : Nat → Prop} {env0 : Env} {r : Bool} {turns2 : Int} {r9 : Int × Int × Bool × Int} {r11 : Int × Int} {l7 : List (Int × Int)} {i13 : Int} {k_law01_TrainCycles_l3 : Int → Option Bool} {i14 : Int} (hk_law01_TrainCycles_l3 : ∀ (i13 : Int), k_law01_TrainCycles_l3 i13 = some r → TC Try.prog ⟨w0, fun _ => False, R0⟩ 209 (bodyPost Try.prog Try.f9 (Post ⟨w0, fun _ => False, R0⟩ env0 (.val (.bool r)) [])) [.code (sub (bodyOf Try.f9) [1, 1, 1, 1, 1, 1, 0, 1, 0, 0, 0, 0]), .code (sub (bodyOf Try.f9) [1, 1, 1, 1, 1, 1, 0, 1, 0, 0, 0, 1]), .code (sub (bodyOf Try.f9) [1, 1, 1, 1, 1, 1, 0, 1, 0, 0, 1]), .inLoop (sub (bodyOf Try.f9) [1, 1, 1, 1, 1, 1, 0, 1, 0, 0]), .inBlock 2, .code (sub (bodyOf Try.f9) [1, 1, 1, 1, 1, 1, 1])] ([(1, .val (.int .u16 turns2)), (5, .ref 1), (7, .ptr 5 0), (8, .val (.bool r9.2.2.1)), (10, .val (.int .i64 r11.1)), (12, .val (.int .i64 i13))]) ([.row 1 33 2 (List.map en_api_TrainPair l7), .blk 5 [.val (.int .i64 r9.1), .val (.int .i64 r9.2.1)] 26])) (h : ev_law01_TrainCycles_j4 n i13 l7 r11 k_law01_TrainCycles_l3 i14 = some r) : TC Try.prog ⟨w0, fun _ => False, R0⟩ 209 (bodyPost Try.prog Try.f9 (Post ⟨w0, fun _ => False, R0⟩ env0 (.val (.bool r)) [])) [.code (sub (bodyOf Try.f9) [1, 1, 1, 1, 1, 1, 0, 1, 0, 0, 1, 0, 0, 1, 1, 0, 0]), .code (sub (bodyOf Try.f9) [1, 1, 1, 1, 1, 1, 0, 1, 0, 0, 1, 0, 0, 1, 1, 0, 1]), .code (sub (bodyOf Try.f9) [1, 1, 1, 1, 1, 1, 0, 1, 0, 0, 1, 0, 0, 1, 1, 1]), .inBlock 3, .code (sub (bodyOf Try.f9) [1, 1, 1, 1, 1, 1, 0, 1, 0, 0, 1, 1]), .inLoop (sub (bodyOf Try.f9) [1, 1, 1, 1, 1, 1, 0, 1, 0, 0]), .inBlock 2, .code (sub (bodyOf Try.f9) [1, 1, 1, 1, 1, 1, 1])] ([(1, .val (.int .u16 turns2)), (5, .ref 1), (7, .ptr 5 0), (8, .val (.bool r9.2.2.1)), (10, .val (.int .i64 r11.1)), (12, .val (.int .i64 i13)), (13, .val (.int .i64 i14))]) ([.row 1 33 2 (List.map en_api_TrainPair l7), .blk 5 [.val (.int .i64 r9.1), .val (.int .i64 r9.2.1)] 26]) := by
  rw [ev_law01_TrainCycles_j4] at h
  refine TC.region ?_
  refine op0 (sp_move rfl rfl) rfl trivial rfl rfl ?_
  refine op0 (sp_eql rfl rfl rfl) rfl trivial rfl rfl ?_
  refine TL.nil ?_
  refine TC.cond (b := (i13 == 62)) rfl (fun h28 => ?_) (fun h28 => ?_)
  · have h := cond_t h h28
    refine TC.region ?_
    refine op0 (sp_move rfl rfl) rfl trivial rfl rfl ?_
    refine op0 (sp_assign rfl rfl) rfl trivial rfl rfl ?_
    refine TL.nil ?_
    refine TC.seq ?_
    refine subJ [] (ok_law01_TrainCycles_j5 (turns2 := turns2) (r9 := r9) hk_law01_TrainCycles_l3 h) ?_ ?_ ?_
    · exact ⟨rfl, rfl, rfl, rfl, rfl, rfl, rfl, trivial⟩
    · exact ⟨mem_at 0 rfl, mem_at 1 rfl, trivial⟩
    · rfl
  · have h := cond_f h h28
    refine TC.skip ?_
    refine TC.seq ?_
    refine subJ [] (ok_law01_TrainCycles_j5 (turns2 := turns2) (r9 := r9) hk_law01_TrainCycles_l3 h) ?_ ?_ ?_
    · exact ⟨rfl, rfl, rfl, rfl, rfl, rfl, rfl, trivial⟩
    · exact ⟨mem_at 0 rfl, mem_at 1 rfl, trivial⟩
    · rfl
def ev_law01_TrainCycles_l7 (n : Nat) (r9 : Int × Int × Bool × Int) : Nat → Int → (List (Int × Int)) → Int → Int → (List (Int × Int)) → Option Bool
  | 0, _, _, _, _, _ => none
  | m + 1, i22, l23, i24, i25, l26 => cond (decide ((0 : Int) ≤ i22)) (idx l23 i22 fun x27 => chk (in64 (i22 + 1)) <| chk ((l23.length : Int) != 0) <| idx l23 (Int.tmod (i22 + 1) (l23.length : Int)) fun x28 => chk (room 16 (l26.length + ([(x27.1, x28.2)] : List (Int × Int)).length)) <| chk (in64 (i22 - 1)) <| ev_law01_TrainCycles_l7 n r9 m (i22 - 1) l23 i24 i25 (l26 ++ ([(x27.1, x28.2)] : List (Int × Int)))) ((ev_train_Turns n l26).bind fun r29 => cond (r29.2.2.2 == 0) (cond ((r29.1 == i24) && (r29.2.1 == i25)) (cond (r29.2.2.1 == r9.2.2.1) (cond (r9.2.2.1 == ((Int.tmod (l23.length : Int) 2) == 1)) ((ev_law01_known n).bind fun r30 => some r30) (some false)) (some false)) (some false)) (some false))
set_option maxRecDepth 100000 in
set_option maxHeartbeats 2000000 in
theorem ok_law01_TrainCycles_l7 {n : Nat} {w0 : World} {R0 : Nat → Prop} {env0 : Env} {r : Bool} {r9 : Int × Int × Bool × Int} : ∀ (m : Nat) (i22 : Int) (l23 : List (Int × Int)) (i24 : Int) (i25 : Int) (l26 : List (Int × Int)), ev_law01_TrainCycles_l7 n r9 m i22 l23 i24 i25 l26 = some r → TC Try.prog ⟨w0, fun _ => False, R0⟩ 209 (bodyPost Try.prog Try.f9 (Post ⟨w0, fun _ => False, R0⟩ env0 (.val (.bool r)) [])) [.code (sub (bodyOf Try.f9) [1, 1, 1, 1, 1, 1, 1, 1, 0, 1, 0, 0, 0, 0]), .code (sub (bodyOf Try.f9) [1, 1, 1, 1, 1, 1, 1, 1, 0, 1, 0, 0, 0, 1]), .code (sub (bodyOf Try.f9) [1, 1, 1, 1, 1, 1, 1, 1, 0, 1, 0, 0, 1]), .inLoop (sub (bodyOf Try.f9) [1, 1, 1, 1, 1, 1, 1, 1, 0, 1, 0, 0]), .inBlock 6, .code (sub (bodyOf Try.f9) [1, 1, 1, 1, 1, 1, 1, 1, 1])] ([(5, .ref 1), (7, .ptr 5 0), (8, .val (.bool r9.2.2.1)), (19, .ref 7), (20, .val (.int .i64 i22))]) ([.row 1 33 2 (List.map en_api_TrainPair l23), .blk 5 [.val (.int .i64 i24), .val (.int .i64 i25)] 26, .row 7 33 2 (List.map en_api_TrainPair l26)]) := by
  intro m
  induction m with
  | zero => intro i22 l23 i24 i25 l26 h; exact none_no h
  | succ m ih =>
    intro i22 l23 i24 i25 l26 h
    rw [ev_law01_TrainCycles_l7] at h
    refine TC.region ?_
    refine op0 (sp_move rfl rfl) rfl trivial rfl rfl ?_
    refine op0 (sp_geq rfl rfl rfl) rfl trivial rfl rfl ?_
    refine TL.nil ?_
    refine TC.cond (b := (decide ((0 : Int) ≤ i22))) rfl (fun h46 => ?_) (fun h46 => ?_)
    · have h := cond_t h h46
      refine TC.skip ?_
      refine TC.seq ?_
      refine TC.block ?_
      obtain ⟨x27, h47, h48, h⟩ := idx_inv h
      obtain ⟨h49, h⟩ := chk_inv h
      obtain ⟨h50, h⟩ := chk_inv h
      obtain ⟨x28, h51, h52, h⟩ := idx_inv h
      refine drawJ 17 [⟨.ref 7, [], [], []⟩, ⟨.ref 1, [], [], []⟩, ⟨.val (.int .i64 i22), [], [], []⟩, ⟨.cell 1 ((i22 : Int).toNat * 2), [], [.row 1 33 2 (List.map en_api_TrainPair l23)], []⟩, ⟨.cell 1 ((i22 : Int).toNat * 2 + 0), [], [.row 1 33 2 (List.map en_api_TrainPair l23)], []⟩, ⟨.val (.int .i64 x27.1), [], [.row 1 33 2 (List.map en_api_TrainPair l23)], []⟩, ⟨.ref 1, [], [], []⟩, ⟨.val (.int .i64 i22), [], [], []⟩, ⟨.val (.int .i64 (i22 + 1)), [], [], []⟩, ⟨.ref 1, [], [], []⟩, ⟨.val (.int .i64 (l23.length : Int)), [], [.row 1 33 2 (List.map en_api_TrainPair l23)], []⟩, ⟨.val (.int .i64 (Int.tmod (i22 + 1) (l23.length : Int))), [], [], []⟩, ⟨.cell 1 (((Int.tmod (i22 + 1) (l23.length : Int)) : Int).toNat * 2), [], [.row 1 33 2 (List.map en_api_TrainPair l23)], []⟩, ⟨.cell 1 (((Int.tmod (i22 + 1) (l23.length : Int)) : Int).toNat * 2 + 1), [], [.row 1 33 2 (List.map en_api_TrainPair l23)], []⟩, ⟨.val (.int .i64 x28.2), [], [.row 1 33 2 (List.map en_api_TrainPair l23)], []⟩, ⟨.agg [.val (.int .i64 x27.1), .val (.int .i64 x28.2)], [], [], []⟩, ⟨.ref 8, [.row 8 33 2 (List.map en_api_TrainPair ([(x27.1, x28.2)] : List (Int × Int)))], [], []⟩] rfl ?_ rfl ?_ rfl ?_ ?_
      · kernel_rfl
      · kernel_rfl
      · exact DAll.op' (sp_move rfl rfl) trivial rfl (From.ok (ps := []) trivial) (DAll.op' (sp_move rfl rfl) trivial rfl (From.ok (ps := []) trivial) (DAll.op' (sp_move rfl rfl) trivial rfl (From.ok (ps := []) trivial) (DAll.op' (sp_indexS rfl rfl rfl isOwn sl22 h47 (map_get _ h48)) trivial rfl (From.ok (ps := [(none, 0)]) ⟨⟨rfl, by kernel_rfl⟩, trivial⟩) (DAll.op' (sp_fieldAddrR (i := (i22 : Int).toNat) rfl rfl isOwn ft33_0 vt3 (by decide) (map_get _ h48) (fun h => nomatch h)) trivial rfl (From.ok (ps := [(none, 0)]) ⟨⟨rfl, by kernel_rfl⟩, trivial⟩) (DAll.op' (sp_loadR (i := (i22 : Int).toNat) (j := 0) rfl rfl isOwn vt3 rfl (map_get _ h48) rfl (.v (.nil)) (nodup_of_B rfl)) trivial rfl (From.ok (ps := [(none, 0)]) ⟨⟨rfl, by kernel_rfl⟩, trivial⟩) (DAll.op' (sp_move rfl rfl) trivial rfl (From.ok (ps := []) trivial) (DAll.op' (sp_move rfl rfl) trivial rfl (From.ok (ps := []) trivial) (DAll.op' (sp_add rfl rfl rfl h49) trivial rfl (From.ok (ps := []) trivial) (DAll.op' (sp_move rfl rfl) trivial rfl (From.ok (ps := []) trivial) (DAll.op' (sp_lenM (N := l23.length) (len_map _ _) rfl rfl isOwn Try.underlying22) trivial rfl (From.ok (ps := [(none, 0)]) ⟨⟨rfl, by kernel_rfl⟩, trivial⟩) (DAll.op' (sp_rem rfl rfl rfl h50) trivial rfl (From.ok (ps := []) trivial) (DAll.op' (sp_indexS rfl rfl rfl isOwn sl22 h51 (map_get _ h52)) trivial rfl (From.ok (ps := [(none, 0)]) ⟨⟨rfl, by kernel_rfl⟩, trivial⟩) (DAll.op' (sp_fieldAddrR (i := ((Int.tmod (i22 + 1) (l23.length : Int)) : Int).toNat) rfl rfl isOwn ft33_1 vt3 (by decide) (map_get _ h52) (fun h => nomatch h)) trivial rfl (From.ok (ps := [(none, 0)]) ⟨⟨rfl, by kernel_rfl⟩, trivial⟩) (DAll.op' (sp_loadR (i := ((Int.tmod (i22 + 1) (l23.length : Int)) : Int).toNat) (j := 1) rfl rfl isOwn vt3 rfl (map_get _ h52) rfl (.v (.nil)) (nodup_of_B rfl)) trivial rfl (From.ok (ps := [(none, 0)]) ⟨⟨rfl, by kernel_rfl⟩, trivial⟩) (DAll.op' (sp_build (qs := [(0, .val (.int .i64 x27.1)), (1, .val (.int .i64 x28.2))]) rfl bt33 rfl rfl rfl rfl) trivial rfl (From.ok (ps := []) trivial) (DAll.op' (sp_buildSlice (qs := [.agg [.val (.int .i64 x27.1), .val (.int .i64 x28.2)]]) (need := []) (els := List.map en_api_TrainPair ([(x27.1, x28.2)] : List (Int × Int))) 8 rfl sl22 (by decide) (by decide) rfl rfl rfl (.v (.v (.nil))) (map_len fun _ => rfl) rfl rfl rfl) trivial rfl (From.ok (ps := []) trivial) (.nil)))))))))))))))))
      obtain ⟨h53, h⟩ := chk_inv h
      refine appM 3 0 (N := l26.length) (N2 := ([(x27.1, x28.2)] : List (Int × Int)).length) 9 rfl rfl trivial rfl rfl rfl rfl rfl isOwn rfl sl22 (len_map _ _) (len_map _ _) h53 (map_app _ _ _) rfl ?_
      refine op0 (sp_assign rfl rfl) rfl trivial rfl rfl ?_
      refine TL.nil ?_
      refine TC.inBlock ?_
      refine TC.region ?_
      refine op0 (sp_move rfl rfl) rfl trivial rfl rfl ?_
      obtain ⟨h54, h⟩ := chk_inv h
      refine op0 (sp_sub rfl rfl rfl h54) rfl trivial rfl rfl ?_
      refine op0 (sp_assign rfl rfl) rfl trivial rfl rfl ?_
      refine TL.nil ?_
      refine TC.inLoop ?_
      refine TC.seq ?_
      refine TC.seq ?_
      refine subJ [(7, 9)] (ih _ _ _ _ _ h) ?_ ?_ ?_
      · exact ⟨rfl, rfl, rfl, rfl, rfl, trivial⟩
      · exact ⟨mem_at 2 rfl, mem_at 3 rfl, mem_at 0 rfl, trivial⟩
      · rfl
    · have h := cond_f h h46
      refine TC.exit rfl ?_
      refine TC.seq ?_
      refine TC.region ?_
      refine op0 (sp_move rfl rfl) rfl trivial rfl rfl ?_
      obtain ⟨r29, h55, h⟩ := bind_inv h
      refine op1 2 rfl (sp_call (avs := [.ref 7]) (need := [.row 7 33 2 (List.map en_api_TrainPair l26)]) (v := .tup [.agg [.val (.int .i64 r29.1), .val (.int .i64 r29.2.1)], .val (.bool r29.2.2.1), .val (.int .i64 r29.2.2.2)]) (news := []) rfl rfl rfl Try.call14 (atJ [(0, 7)] [] (fc_train_Turns h55) rfl rfl) (.inr (fun x hx => nomatch hx))) rfl trivial rfl rfl ?_
      refine op0 (sp_move rfl rfl) rfl trivial rfl rfl ?_
      refine op0 (sp_extract rfl rfl rfl) rfl trivial rfl rfl ?_
      refine op0 (sp_extract rfl rfl rfl) rfl trivial rfl rfl ?_
      refine op0 (sp_extract rfl rfl rfl) rfl trivial rfl rfl ?_
      refine op0 (sp_alloc 10 rfl Try.zeroValue26 rfl) rfl trivial rfl rfl ?_
      refine stoB 0 (cells' := [.val (.int .i64 r29.1), .val (.int .i64 r29.2.1)]) rfl rfl trivial rfl rfl rfl rfl vt26 rfl rfl rfl ?_
      refine op0 (sp_assign rfl rfl) rfl trivial rfl rfl ?_
      refine op0 (sp_assign rfl rfl) rfl trivial rfl rfl ?_
      refine TL.nil ?_
      refine TC.seq ?_
      refine TC.region ?_
      refine op0 (sp_move rfl rfl) rfl trivial rfl rfl ?_
      refine op0 (sp_eql rfl rfl rfl) rfl trivial rfl rfl ?_
      refine op0 (sp_move rfl rfl) rfl trivial rfl rfl ?_
      rcases cond_cases h with ⟨h56, h⟩ | ⟨h56, h⟩
      · refine (boolLit 188 rfl h56).2 ?_
        refine op1 0 rfl (sp_loadBA rfl isBlk rfl vt26 rfl rfl) rfl ⟨_, rfl, rfl⟩ rfl rfl ?_
        refine op1 2 rfl (sp_loadBA rfl isBlk rfl vt26 rfl rfl) rfl ⟨_, rfl, rfl⟩ rfl rfl ?_
        refine op0 (sp_eqlS rfl rfl rfl rfl rfl (eq26 _ _ _ _)) rfl ⟨_, rfl, rfl⟩ rfl rfl ?_
        refine op0 (sp_pickT rfl rfl rfl) rfl trivial rfl rfl ?_
        refine op0 (sp_move rfl rfl) rfl trivial rfl rfl ?_
        rcases cond_cases h with ⟨h57, h⟩ | ⟨h57, h⟩
        · refine (boolLit 193 rfl h57).2 ?_
          refine op0 (sp_move rfl rfl) rfl ⟨_, rfl, rfl⟩ rfl rfl ?_
          refine op0 (sp_move rfl rfl) rfl ⟨_, rfl, rfl⟩ rfl rfl ?_
          refine op0 (sp_eqlB rfl Try.underlying4 rfl rfl) rfl ⟨_, rfl, rfl⟩ rfl rfl ?_
          refine op0 (sp_pickT rfl rfl rfl) rfl trivial rfl rfl ?_
          refine op0 (sp_move rfl rfl) rfl trivial rfl rfl ?_
          rcases cond_cases h with ⟨h58, h⟩ | ⟨h58, h⟩
          · refine (boolLit 198 rfl h58).2 ?_
            refine op0 (sp_move rfl rfl) rfl ⟨_, rfl, rfl⟩ rfl rfl ?_
            refine op0 (sp_move rfl rfl) rfl ⟨_, rfl, rfl⟩ rfl rfl ?_
            refine op1 1 rfl (sp_lenM (N := l23.length) (len_map _ _) rfl rfl isOwn Try.underlying22) rfl ⟨_, rfl, rfl⟩ rfl rfl ?_
            refine op0 (sp_rem rfl rfl rfl (by decide)) rfl ⟨_, rfl, rfl⟩ rfl rfl ?_
            refine op0 (sp_eql rfl rfl rfl) rfl ⟨_, rfl, rfl⟩ rfl rfl ?_
            refine op0 (sp_eqlB rfl Try.underlying4 rfl rfl) rfl ⟨_, rfl, rfl⟩ rfl rfl ?_
            refine op0 (sp_pickT rfl rfl rfl) rfl trivial rfl rfl ?_
            refine op0 (sp_move rfl rfl) rfl trivial rfl rfl ?_
            rcases cond_cases h with ⟨h59, h⟩ | ⟨h59, h⟩
            · refine (boolLit 206 rfl h59).2 ?_
              obtain ⟨r30, h60, h⟩ := bind_inv h
              refine op0 (sp_call (avs := []) (need := []) (v := .val (.bool r30)) (news := []) rfl rfl rfl Try.call12 (atJ [] [] (fc_law01_known h60) rfl rfl) (.inl (roAll rfl))) rfl ⟨_, rfl, rfl⟩ rfl rfl ?_
              refine op0 (sp_pickT rfl rfl rfl) rfl trivial rfl rfl ?_
              refine op0 (sp_assign rfl rfl) rfl trivial rfl rfl ?_
              refine TL.nil ?_
              cases h
              exact retJ [] (.tmp rfl .nil) rfl trivial rfl rfl
            · refine (boolLit 206 rfl h59).2 ?_
              refine opSkip rfl ⟨_, rfl, .inl rfl⟩ rfl ?_
              refine op0 (sp_pickF rfl rfl rfl) rfl trivial rfl rfl ?_
              refine op0 (sp_assign rfl rfl) rfl trivial rfl rfl ?_
              refine TL.nil ?_
              cases h
              exact retJ [] (.tmp rfl .nil) rfl trivial rfl rfl
          · refine (boolLit 198 rfl h58).2 ?_
            refine opSkip rfl ⟨_, rfl, .inl rfl⟩ rfl ?_
            refine opSkip rfl ⟨_, rfl, .inl rfl⟩ rfl ?_
            refine opSkip rfl ⟨_, rfl, .inl rfl⟩ rfl ?_
            refine opSkip rfl ⟨_, rfl, .inl rfl⟩ rfl ?_
            refine opSkip rfl ⟨_, rfl, .inl rfl⟩ rfl ?_
            refine opSkip rfl ⟨_, rfl, .inl rfl⟩ rfl ?_
            refine op0 (sp_pickF rfl rfl rfl) rfl trivial rfl rfl ?_
            refine op0 (sp_move rfl rfl) rfl trivial rfl rfl ?_
            refine opSkip rfl ⟨_, rfl, .inl rfl⟩ rfl ?_
            refine op0 (sp_pickF rfl rfl rfl) rfl trivial rfl rfl ?_
            refine op0 (sp_assign rfl rfl) rfl trivial rfl rfl ?_
            refine TL.nil ?_
            cases h
            exact retJ [] (.tmp rfl .nil) rfl trivial rfl rfl
        · refine (boolLit 193 rfl h57).2 ?_
          refine opSkip rfl ⟨_, rfl, .inl rfl⟩ rfl ?_
          refine opSkip rfl ⟨_, rfl, .inl rfl⟩ rfl ?_
          refine opSkip rfl ⟨_, rfl, .inl rfl⟩ rfl ?_
          refine op0 (sp_pickF rfl rfl rfl) rfl trivial rfl rfl ?_
          refine op0 (sp_move rfl rfl) rfl trivial rfl rfl ?_
          refine opSkip rfl ⟨_, rfl, .inl rfl⟩ rfl ?_
          refine opSkip rfl ⟨_, rfl, .inl rfl⟩ rfl ?_
          refine opSkip rfl ⟨_, rfl, .inl rfl⟩ rfl ?_
          refine opSkip rfl ⟨_, rfl, .inl rfl⟩ rfl ?_
          refine opSkip rfl ⟨_, rfl, .inl rfl⟩ rfl ?_
          refine opSkip rfl ⟨_, rfl, .inl rfl⟩ rfl ?_
          refine op0 (sp_pickF rfl rfl rfl) rfl trivial rfl rfl ?_
          refine op0 (sp_move rfl rfl) rfl trivial rfl rfl ?_
          refine opSkip rfl ⟨_, rfl, .inl rfl⟩ rfl ?_
          refine op0 (sp_pickF rfl rfl rfl) rfl trivial rfl rfl ?_
          refine op0 (sp_assign rfl rfl) rfl trivial rfl rfl ?_
          refine TL.nil ?_
          cases h
          exact retJ [] (.tmp rfl .nil) rfl trivial rfl rfl
      · refine (boolLit 188 rfl h56).2 ?_
        refine opSkip rfl ⟨_, rfl, .inl rfl⟩ rfl ?_
        refine opSkip rfl ⟨_, rfl, .inl rfl⟩ rfl ?_
        refine opSkip rfl ⟨_, rfl, .inl rfl⟩ rfl ?_
        refine op0 (sp_pickF rfl rfl rfl) rfl trivial rfl rfl ?_
        refine op0 (sp_move rfl rfl) rfl trivial rfl rfl ?_
        refine opSkip rfl ⟨_, rfl, .inl rfl⟩ rfl ?_
        refine opSkip rfl ⟨_, rfl, .inl rfl⟩ rfl ?_
        refine opSkip rfl ⟨_, rfl, .inl rfl⟩ rfl ?_
        refine op0 (sp_pickF rfl rfl rfl) rfl trivial rfl rfl ?_
        refine op0 (sp_move rfl rfl) rfl trivial rfl rfl ?_
        refine opSkip rfl ⟨_, rfl, .inl rfl⟩ rfl ?_
        refine opSkip rfl ⟨_, rfl, .inl rfl⟩ rfl ?_
        refine opSkip rfl ⟨_, rfl, .inl rfl⟩ rfl ?_
        refine opSkip rfl ⟨_, rfl, .inl rfl⟩ rfl ?_
        refine opSkip rfl ⟨_, rfl, .inl rfl⟩ rfl ?_
        refine opSkip rfl ⟨_, rfl, .inl rfl⟩ rfl ?_
        refine op0 (sp_pickF rfl rfl rfl) rfl trivial rfl rfl ?_
        refine op0 (sp_move rfl rfl) rfl trivial rfl rfl ?_
        refine opSkip rfl ⟨_, rfl, .inl rfl⟩ rfl ?_
        refine op0 (sp_pickF rfl rfl rfl) rfl trivial rfl rfl ?_
        refine op0 (sp_assign rfl rfl) rfl trivial rfl rfl ?_
        refine TL.nil ?_
        cases h
        exact retJ [] (.tmp rfl .nil) rfl trivial rfl rfl
def ev_law01_TrainCycles_l3 (n : Nat) (turns2 : Int) (l7 : List (Int × Int)) (r11 : Int × Int) (r9 : Int × Int × Bool × Int) : Nat → Int → Option Bool
  | 0, _ => none
  | m + 1, i13 => cond (decide (i13 ≤ 62)) (cond (i13 == 61) (chk (in64 turns2) <| chk (in64 (turns2 + 1)) <| ev_law01_TrainCycles_j4 n i13 l7 r11 (fun i13q => ev_law01_TrainCycles_l3 n turns2 l7 r11 r9 m i13q) (turns2 + 1)) (ev_law01_TrainCycles_j4 n i13 l7 r11 (fun i13q => ev_law01_TrainCycles_l3 n turns2 l7 r11 r9 m i13q) i13)) (chk (in64 ((l7.length : Int) - 1)) <| ev_law01_TrainCycles_l7 n r9 n ((l7.length : Int) - 1) l7 r9.1 r9.2.1 ([] : List (Int × Int)))
set_option maxRecDepth 100000 in
set_option maxHeartbeats 2000000 in
theorem ok_law01_TrainCycles_l3 {n : Nat} {w0 : World} {R0 : Nat → Prop} {env0 : Env} {r : Bool} {turns2 : Int} {r9 : Int × Int × Bool × Int} {r11 : Int × Int} {l7 : List (Int × Int)} : ∀ (m : Nat) (i13 : Int), ev_law01_TrainCycles_l3 n turns2 l7 r11 r9 m i13 = some r → TC Try.prog ⟨w0, fun _ => False, R0⟩ 209 (bodyPost Try.prog Try.f9 (Post ⟨w0, fun _ => False, R0⟩ env0 (.val (.bool r)) [])) [.code (sub (bodyOf Try.f9) [1, 1, 1, 1, 1, 1, 0, 1, 0, 0, 0, 0]), .code (sub (bodyOf Try.f9) [1, 1, 1, 1, 1, 1, 0, 1, 0, 0, 0, 1]), .code (sub (bodyOf Try.f9) [1, 1, 1, 1, 1, 1, 0, 1, 0, 0, 1]), .inLoop (sub (bodyOf Try.f9) [1, 1, 1, 1, 1, 1, 0, 1, 0, 0]), .inBlock 2, .code (sub (bodyOf Try.f9) [1, 1, 1, 1, 1, 1, 1])] ([(1, .val (.int .u16 turns2)), (5, .ref 1), (7, .ptr 5 0), (8, .val (.bool r9.2.2.1)), (10, .val (.int .i64 r11.1)), (12, .val (.int .i64 i13))]) ([.row 1 33 2 (List.map en_api_TrainPair l7), .blk 5 [.val (.int .i64 r9.1), .val (.int .i64 r9.2.1)] 26]) := by
  intro m
  induction m with
  | zero => intro i13 h; exact none_no h
  | succ m ih =>
    intro i13 h
    rw [ev_law01_TrainCycles_l3] at h
    refine TC.region ?_
    refine op0 (sp_move rfl rfl) rfl trivial rfl rfl ?_
    refine op0 (sp_leq rfl rfl rfl) rfl trivial rfl rfl ?_
    refine TL.nil ?_
    refine TC.cond (b := (decide (i13 ≤ 62))) rfl (fun h24 => ?_) (fun h24 => ?_)
    · have h := cond_t h h24
      refine TC.skip ?_
      refine TC.seq ?_
      refine TC.block ?_
      refine TC.seq ?_
      refine TC.region ?_
      refine op0 (sp_move rfl rfl) rfl trivial rfl rfl ?_
      refine op0 (sp_assign rfl rfl) rfl trivial rfl rfl ?_
      refine TL.nil ?_
      refine TC.seq ?_
      refine TC.seq ?_
      refine TC.region ?_
      refine op0 (sp_move rfl rfl) rfl trivial rfl rfl ?_
      refine op0 (sp_eql rfl rfl rfl) rfl trivial rfl rfl ?_
      refine TL.nil ?_
      refine TC.cond (b := (i13 == 61)) rfl (fun h25 => ?_) (fun h25 => ?_)
      · have h := cond_t h h25
        refine TC.region ?_
        refine op0 (sp_move rfl rfl) rfl trivial rfl rfl ?_
        obtain ⟨h26, h⟩ := chk_inv h
        refine op0 (sp_conv rfl Try.underlying72 Try.underlying3 rfl h26) rfl trivial rfl rfl ?_
        obtain ⟨h27, h⟩ := chk_inv h
        refine op0 (sp_add rfl rfl rfl h27) rfl trivial rfl rfl ?_
        refine op0 (sp_assign rfl rfl) rfl trivial rfl rfl ?_
        refine TL.nil ?_
        refine TC.seq ?_
        refine TC.seq ?_
        refine subJ [] (ok_law01_TrainCycles_j4 (turns2 := turns2) (r9 := r9) ih h) ?_ ?_ ?_
        · exact ⟨rfl, rfl, rfl, rfl, rfl, rfl, rfl, trivial⟩
        · exact ⟨mem_at 0 rfl, mem_at 1 rfl, trivial⟩
        · rfl
      · have h := cond_f h h25
        refine TC.skip ?_
        refine TC.seq ?_
        refine TC.seq ?_
        refine subJ [] (ok_law01_TrainCycles_j4 (turns2 := turns2) (r9 := r9) ih h) ?_ ?_ ?_
        · exact ⟨rfl, rfl, rfl, rfl, rfl, rfl, rfl, trivial⟩
        · exact ⟨mem_at 0 rfl, mem_at 1 rfl, trivial⟩
        · rfl
    · have h := cond_f h h24
      refine TC.exit rfl ?_
      refine TC.seq ?_
      refine TC.region ?_
      refine op0 (sp_emptyM 7 (List.map en_api_TrainPair []) rfl rfl sl22) rfl trivial rfl rfl ?_
      refine op0 (sp_assign rfl rfl) rfl trivial rfl rfl ?_
      refine TL.nil ?_
      refine TC.seq ?_
      refine TC.seq ?_
      refine TC.region ?_
      refine op0 (sp_move rfl rfl) rfl trivial rfl rfl ?_
      refine op1 1 rfl (sp_lenM (N := l7.length) (len_map _ _) rfl rfl isOwn Try.underlying22) rfl trivial rfl rfl ?_
      obtain ⟨h45, h⟩ := chk_inv h
      refine op0 (sp_sub rfl rfl rfl h45) rfl trivial rfl rfl ?_
      refine op0 (sp_assign rfl rfl) rfl trivial rfl rfl ?_
      refine TL.nil ?_
      refine TC.block ?_
      refine TC.loop ?_
      refine TC.seq ?_
      refine TC.seq ?_
      refine subJ [] (ok_law01_TrainCycles_l7 _ _ _ _ _ _ h) ?_ ?_ ?_
      · exact ⟨rfl, rfl, rfl, rfl, rfl, trivial⟩
      · exact ⟨mem_at 1 rfl, mem_at 2 rfl, mem_at 0 rfl, trivial⟩
      · rfl
def ev_law01_TrainCycles_j2 (n : Nat) (turns2 : Int) (l7 : List (Int × Int)) (r11 : Int × Int) (r9 : Int × Int × Bool × Int) : Option Bool :=
  ev_law01_TrainCycles_l3 n turns2 l7 r11 r9 n 1
set_option maxRecDepth 100000 in
set_option maxHeartbeats 2000000 in
theorem ok_law01_TrainCycles_j2 {n : Nat} {w0 : World} {R0 : Nat → Prop} {env0 : Env} {r : Bool} {turns2 : Int} {r9 : Int × Int × Bool × Int} {r11 : Int × Int} {l7 : List (Int × Int)} (h : ev_law01_TrainCycles_j2 n turns2 l7 r11 r9 = some r) : TC Try.prog ⟨w0, fun _ => False, R0⟩ 209 (bodyPost Try.prog Try.f9 (Post ⟨w0, fun _ => False, R0⟩ env0 (.val (.bool r)) [])) [.code (sub (bodyOf Try.f9) [1, 1, 1, 1, 1, 0, 1, 1]), .code (sub (bodyOf Try.f9) [1, 1, 1, 1, 1, 1])] ([(1, .val (.int .u16 turns2)), (5, .ref 1), (7, .ptr 5 0), (8, .val (.bool r9.2.2.1)), (10, .val (.int .i64 r11.1))]) ([.row 1 33 2 (List.map en_api_TrainPair l7), .blk 5 [.val (.int .i64 r9.1), .val (.int .i64 r9.2.1)] 26]) := by
  rw [ev_law01_TrainCycles_j2] at h
  refine TC.skip ?_
  refine TC.seq ?_
  refine TC.seq ?_
  refine TC.region ?_
  refine op0 (sp_assign rfl rfl) rfl trivial rfl rfl ?_
  refine TL.nil ?_
  refine TC.block ?_
  refine TC.loop ?_
  refine TC.seq ?_
  refine TC.seq ?_
  refine subJ [] (ok_law01_TrainCycles_l3 _ _ h) ?_ ?_ ?_
  · exact ⟨rfl, rfl, rfl, rfl, rfl, rfl, trivial⟩
  · exact ⟨mem_at 0 rfl, mem_at 1 rfl, trivial⟩
  · rfl
def ev_law01_TrainCycles_j1 (n : Nat) (turns2 : Int) (l7 : List (Int × Int)) : Option Bool :=
  (ev_law01_pairs n l7).bind fun r8 => (ev_train_Turns n r8).bind fun r9 => (ev_law01_pairs n l7).bind fun r10 => (ev_train_Cycle n r10).bind fun r11 => cond (r9.2.2.2 != 0) (some false) (cond (r11.2 != 0) (some false) (cond (decide (r11.1 < 1)) (some false) (cond (decide (r9.1 < 1)) (some false) (cond (decide (r9.2.1 < 1)) (some false) ((ev_law01_gcd n r9.1 r9.2.1).bind fun r12 => cond (r12 != 1) (some false) (chk (r9.2.1 != 0) <| cond ((Int.tmod r11.1 r9.2.1) != 0) (some false) (ev_law01_TrainCycles_j2 n turns2 l7 r11 r9)))))))
set_option maxRecDepth 100000 in
set_option maxHeartbeats 2000000 in
theorem ok_law01_TrainCycles_j1 {n : Nat} {w0 : World} {R0 : Nat → Prop} {env0 : Env} {r : Bool} {turns2 : Int} {l7 : List (Int × Int)} (h : ev_law01_TrainCycles_j1 n turns2 l7 = some r) : TC Try.prog ⟨w0, fun _ => False, R0⟩ 209 (bodyPost Try.prog Try.f9 (Post ⟨w0, fun _ => False, R0⟩ env0 (.val (.bool r)) [])) [.code (sub (bodyOf Try.f9) [1, 1, 1, 0]), .code (sub (bodyOf Try.f9) [1, 1, 1, 1])] ([(1, .val (.int .u16 turns2)), (5, .ref 1)]) ([.row 1 33 2 (List.map en_api_TrainPair l7)]) := by
  rw [ev_law01_TrainCycles_j1] at h
  refine TC.region ?_
  refine op0 (sp_move rfl rfl) rfl trivial rfl rfl ?_
  obtain ⟨r8, h11, h⟩ := bind_inv h
  refine op1 0 rfl (sp_call (avs := [.ref 1]) (need := [.row 1 33 2 (List.map en_api_TrainPair l7)]) (v := .ref 4) (news := [.row 4 33 2 (List.map en_api_TrainPair r8)]) rfl rfl rfl Try.call13 (atJ [(0, 1)] [(0, 4)] (fc_law01_pairs h11) rfl rfl) (.inr (List.forall_mem_cons.2 ⟨indep_map en_api_TrainPair_flat, (by simp)⟩))) rfl trivial rfl rfl ?_
  obtain ⟨r9, h12, h⟩ := bind_inv h
  refine op1 0 rfl (sp_call (avs := [.ref 4]) (need := [.row 4 33 2 (List.map en_api_TrainPair r8)]) (v := .tup [.agg [.val (.int .i64 r9.1), .val (.int .i64 r9.2.1)], .val (.bool r9.2.2.1), .val (.int .i64 r9.2.2.2)]) (news := []) rfl rfl rfl Try.call14 (atJ [(0, 4)] [] (fc_train_Turns h12) rfl rfl) (.inr (fun x hx => nomatch hx))) rfl trivial rfl rfl ?_
  refine op0 (sp_move rfl rfl) rfl trivial rfl rfl ?_
  refine op0 (sp_extract rfl rfl rfl) rfl trivial rfl rfl ?_
  refine op0 (sp_extract rfl rfl rfl) rfl trivial rfl rfl ?_
  refine op0 (sp_extract rfl rfl rfl) rfl trivial rfl rfl ?_
  refine op0 (sp_alloc 5 rfl Try.zeroValue26 rfl) rfl trivial rfl rfl ?_
  refine stoB 0 (cells' := [.val (.int .i64 r9.1), .val (.int .i64 r9.2.1)]) rfl rfl trivial rfl rfl rfl rfl vt26 rfl rfl rfl ?_
  refine op0 (sp_assign rfl rfl) rfl trivial rfl rfl ?_
  refine op0 (sp_assign rfl rfl) rfl trivial rfl rfl ?_
  refine TL.nil ?_
  refine TC.seq ?_
  refine TC.region ?_
  refine op0 (sp_move rfl rfl) rfl trivial rfl rfl ?_
  obtain ⟨r10, h13, h⟩ := bind_inv h
  refine op1 2 rfl (sp_call (avs := [.ref 1]) (need := [.row 1 33 2 (List.map en_api_TrainPair l7)]) (v := .ref 6) (news := [.row 6 33 2 (List.map en_api_TrainPair r10)]) rfl rfl rfl Try.call13 (atJ [(0, 1)] [(0, 6)] (fc_law01_pairs h13) rfl rfl) (.inr (List.forall_mem_cons.2 ⟨indep_map en_api_TrainPair_flat, (by simp)⟩))) rfl trivial rfl rfl ?_
  obtain ⟨r11, h14, h⟩ := bind_inv h
  refine op1 0 rfl (sp_call (avs := [.ref 6]) (need := [.row 6 33 2 (List.map en_api_TrainPair r10)]) (v := .tup [.val (.int .i64 r11.1), .val (.int .i64 r11.2)]) (news := []) rfl rfl rfl Try.call15 (atJ [(0, 6)] [] (fc_train_Cycle h14) rfl rfl) (.inr (fun x hx => nomatch hx))) rfl trivial rfl rfl ?_
  refine op0 (sp_move rfl rfl) rfl trivial rfl rfl ?_
  refine op0 (sp_extract rfl rfl rfl) rfl trivial rfl rfl ?_
  refine op0 (sp_extract rfl rfl rfl) rfl trivial rfl rfl ?_
  refine op0 (sp_assign rfl rfl) rfl trivial rfl rfl ?_
  refine op0 (sp_assign rfl rfl) rfl trivial rfl rfl ?_
  refine TL.nil ?_
  refine TC.seq ?_
  refine TC.seq ?_
  refine TC.region ?_
  refine op0 (sp_move rfl rfl) rfl trivial rfl rfl ?_
  refine op0 (sp_neq rfl rfl rfl) rfl trivial rfl rfl ?_
  refine op0 (sp_move rfl rfl) rfl trivial rfl rfl ?_
  rcases cond_cases h with ⟨h15, h⟩ | ⟨h15, h⟩
  · refine (boolLit 67 rfl h15).2 ?_
    refine opSkip rfl ⟨_, rfl, .inl rfl⟩ rfl ?_
    refine opSkip rfl ⟨_, rfl, .inl rfl⟩ rfl ?_
    refine op0 (sp_pickT rfl rfl rfl) rfl trivial rfl rfl ?_
    refine op0 (sp_move rfl rfl) rfl trivial rfl rfl ?_
    refine opSkip rfl ⟨_, rfl, .inl rfl⟩ rfl ?_
    refine opSkip rfl ⟨_, rfl, .inl rfl⟩ rfl ?_
    refine op0 (sp_pickT rfl rfl rfl) rfl trivial rfl rfl ?_
    refine op0 (sp_move rfl rfl) rfl trivial rfl rfl ?_
    refine opSkip rfl ⟨_, rfl, .inl rfl⟩ rfl ?_
    refine opSkip rfl ⟨_, rfl, .inl rfl⟩ rfl ?_
    refine opSkip rfl ⟨_, rfl, .inl rfl⟩ rfl ?_
    refine op0 (sp_pickT rfl rfl rfl) rfl trivial rfl rfl ?_
    refine op0 (sp_move rfl rfl) rfl trivial rfl rfl ?_
    refine opSkip rfl ⟨_, rfl, .inl rfl⟩ rfl ?_
    refine opSkip rfl ⟨_, rfl, .inl rfl⟩ rfl ?_
    refine opSkip rfl ⟨_, rfl, .inl rfl⟩ rfl ?_
    refine op0 (sp_pickT rfl rfl rfl) rfl trivial rfl rfl ?_
    refine op0 (sp_move rfl rfl) rfl trivial rfl rfl ?_
    refine opSkip rfl ⟨_, rfl, .inl rfl⟩ rfl ?_
    refine opSkip rfl ⟨_, rfl, .inl rfl⟩ rfl ?_
    refine opSkip rfl ⟨_, rfl, .inl rfl⟩ rfl ?_
    refine opSkip rfl ⟨_, rfl, .inl rfl⟩ rfl ?_
    refine opSkip rfl ⟨_, rfl, .inl rfl⟩ rfl ?_
    refine opSkip rfl ⟨_, rfl, .inl rfl⟩ rfl ?_
    refine op0 (sp_pickT rfl rfl rfl) rfl trivial rfl rfl ?_
    refine op0 (sp_move rfl rfl) rfl trivial rfl rfl ?_
    refine opSkip rfl ⟨_, rfl, .inl rfl⟩ rfl ?_
    refine opSkip rfl ⟨_, rfl, .inl rfl⟩ rfl ?_
    refine opSkip rfl ⟨_, rfl, .inl rfl⟩ rfl ?_
    refine opSkip rfl ⟨_, rfl, .inl rfl⟩ rfl ?_
    refine opSkip rfl ⟨_, rfl, .inl rfl⟩ rfl ?_
    refine op0 (sp_pickT rfl rfl rfl) rfl trivial rfl rfl ?_
    refine TL.nil ?_
    refine TC.condT rfl ?_
    refine TC.seq ?_
    refine TC.region ?_
    refine op0 (sp_assign rfl rfl) rfl trivial rfl rfl ?_
    refine TL.nil ?_
    cases h
    exact retJ [] (.tmp rfl .nil) rfl trivial rfl rfl
  · refine (boolLit 67 rfl h15).2 ?_
    refine op0 (sp_move rfl rfl) rfl ⟨_, rfl, rfl⟩ rfl rfl ?_
    refine op0 (sp_neq rfl rfl rfl) rfl ⟨_, rfl, rfl⟩ rfl rfl ?_
    refine op0 (sp_pickF rfl rfl rfl) rfl trivial rfl rfl ?_
    refine op0 (sp_move rfl rfl) rfl trivial rfl rfl ?_
    rcases cond_cases h with ⟨h16, h⟩ | ⟨h16, h⟩
    · refine (boolLit 71 rfl h16).2 ?_
      refine opSkip rfl ⟨_, rfl, .inl rfl⟩ rfl ?_
      refine opSkip rfl ⟨_, rfl, .inl rfl⟩ rfl ?_
      refine op0 (sp_pickT rfl rfl rfl) rfl trivial rfl rfl ?_
      refine op0 (sp_move rfl rfl) rfl trivial rfl rfl ?_
      refine opSkip rfl ⟨_, rfl, .inl rfl⟩ rfl ?_
      refine opSkip rfl ⟨_, rfl, .inl rfl⟩ rfl ?_
      refine opSkip rfl ⟨_, rfl, .inl rfl⟩ rfl ?_
      refine op0 (sp_pickT rfl rfl rfl) rfl trivial rfl rfl ?_
      refine op0 (sp_move rfl rfl) rfl trivial rfl rfl ?_
      refine opSkip rfl ⟨_, rfl, .inl rfl⟩ rfl ?_
      refine opSkip rfl ⟨_, rfl, .inl rfl⟩ rfl ?_
      refine opSkip rfl ⟨_, rfl, .inl rfl⟩ rfl ?_
      refine op0 (sp_pickT rfl rfl rfl) rfl trivial rfl rfl ?_
      refine op0 (sp_move rfl rfl) rfl trivial rfl rfl ?_
      refine opSkip rfl ⟨_, rfl, .inl rfl⟩ rfl ?_
      refine opSkip rfl ⟨_, rfl, .inl rfl⟩ rfl ?_
      refine opSkip rfl ⟨_, rfl, .inl rfl⟩ rfl ?_
      refine opSkip rfl ⟨_, rfl, .inl rfl⟩ rfl ?_
      refine opSkip rfl ⟨_, rfl, .inl rfl⟩ rfl ?_
      refine opSkip rfl ⟨_, rfl, .inl rfl⟩ rfl ?_
      refine op0 (sp_pickT rfl rfl rfl) rfl trivial rfl rfl ?_
      refine op0 (sp_move rfl rfl) rfl trivial rfl rfl ?_
      refine opSkip rfl ⟨_, rfl, .inl rfl⟩ rfl ?_
      refine opSkip rfl ⟨_, rfl, .inl rfl⟩ rfl ?_
      refine opSkip rfl ⟨_, rfl, .inl rfl⟩ rfl ?_
      refine opSkip rfl ⟨_, rfl, .inl rfl⟩ rfl ?_
      refine opSkip rfl ⟨_, rfl, .inl rfl⟩ rfl ?_
      refine op0 (sp_pickT rfl rfl rfl) rfl trivial rfl rfl ?_
      refine TL.nil ?_
      refine TC.condT rfl ?_
      refine TC.seq ?_
      refine TC.region ?_
      refine op0 (sp_assign rfl rfl) rfl trivial rfl rfl ?_
      refine TL.nil ?_
      cases h
      exact retJ [] (.tmp rfl .nil) rfl trivial rfl rfl
    · refine (boolLit 71 rfl h16).2 ?_
      refine op0 (sp_move rfl rfl) rfl ⟨_, rfl, rfl⟩ rfl rfl ?_
      refine op0 (sp_lss rfl rfl rfl) rfl ⟨_, rfl, rfl⟩ rfl rfl ?_
      refine op0 (sp_pickF rfl rfl rfl) rfl trivial rfl rfl ?_
      refine op0 (sp_move rfl rfl) rfl trivial rfl rfl ?_
      rcases cond_cases h with ⟨h17, h⟩ | ⟨h17, h⟩
      · refine (boolLit 75 rfl h17).2 ?_
        refine opSkip rfl ⟨_, rfl, .inl rfl⟩ rfl ?_
        refine opSkip rfl ⟨_, rfl, .inl rfl⟩ rfl ?_
        refine opSkip rfl ⟨_, rfl, .inl rfl⟩ rfl ?_
        refine op0 (sp_pickT rfl rfl rfl) rfl trivial rfl rfl ?_
        refine op0 (sp_move rfl rfl) rfl trivial rfl rfl ?_
        refine opSkip rfl ⟨_, rfl, .inl rfl⟩ rfl ?_
        refine opSkip rfl ⟨_, rfl, .inl rfl⟩ rfl ?_
        refine opSkip rfl ⟨_, rfl, .inl rfl⟩ rfl ?_
        refine op0 (sp_pickT rfl rfl rfl) rfl trivial rfl rfl ?_
        refine op0 (sp_move rfl rfl) rfl trivial rfl rfl ?_
        refine opSkip rfl ⟨_, rfl, .inl rfl⟩ rfl ?_
        refine opSkip rfl ⟨_, rfl, .inl rfl⟩ rfl ?_
        refine opSkip rfl ⟨_, rfl, .inl rfl⟩ rfl ?_
        refine opSkip rfl ⟨_, rfl, .inl rfl⟩ rfl ?_
        refine opSkip rfl ⟨_, rfl, .inl rfl⟩ rfl ?_
        refine opSkip rfl ⟨_, rfl, .inl rfl⟩ rfl ?_
        refine op0 (sp_pickT rfl rfl rfl) rfl trivial rfl rfl ?_
        refine op0 (sp_move rfl rfl) rfl trivial rfl rfl ?_
        refine opSkip rfl ⟨_, rfl, .inl rfl⟩ rfl ?_
        refine opSkip rfl ⟨_, rfl, .inl rfl⟩ rfl ?_
        refine opSkip rfl ⟨_, rfl, .inl rfl⟩ rfl ?_
        refine opSkip rfl ⟨_, rfl, .inl rfl⟩ rfl ?_
        refine opSkip rfl ⟨_, rfl, .inl rfl⟩ rfl ?_
        refine op0 (sp_pickT rfl rfl rfl) rfl trivial rfl rfl ?_
        refine TL.nil ?_
        refine TC.condT rfl ?_
        refine TC.seq ?_
        refine TC.region ?_
        refine op0 (sp_assign rfl rfl) rfl trivial rfl rfl ?_
        refine TL.nil ?_
        cases h
        exact retJ [] (.tmp rfl .nil) rfl trivial rfl rfl
      · refine (boolLit 75 rfl h17).2 ?_
        refine op1 1 rfl (sp_fieldAddrB rfl isBlk rfl ft26_0 vt3 (by decide)) rfl ⟨_, rfl, rfl⟩ rfl rfl ?_
        refine op1 1 rfl (sp_loadB rfl isBlk rfl vt3 rfl) rfl ⟨_, rfl, rfl⟩ rfl rfl ?_
        refine op0 (sp_lss rfl rfl rfl) rfl ⟨_, rfl, rfl⟩ rfl rfl ?_
        refine op0 (sp_pickF rfl rfl rfl) rfl trivial rfl rfl ?_
        refine op0 (sp_move rfl rfl) rfl trivial rfl rfl ?_
        rcases cond_cases h with ⟨h18, h⟩ | ⟨h18, h⟩
        · refine (boolLit 80 rfl h18).2 ?_
          refine opSkip rfl ⟨_, rfl, .inl rfl⟩ rfl ?_
          refine opSkip rfl ⟨_, rfl, .inl rfl⟩ rfl ?_
          refine opSkip rfl ⟨_, rfl, .inl rfl⟩ rfl ?_
          refine op0 (sp_pickT rfl rfl rfl) rfl trivial rfl rfl ?_
          refine op0 (sp_move rfl rfl) rfl trivial rfl rfl ?_
          refine opSkip rfl ⟨_, rfl, .inl rfl⟩ rfl ?_
          refine opSkip rfl ⟨_, rfl, .inl rfl⟩ rfl ?_
          refine opSkip rfl ⟨_, rfl, .inl rfl⟩ rfl ?_
          refine opSkip rfl ⟨_, rfl, .inl rfl⟩ rfl ?_
          refine opSkip rfl ⟨_, rfl, .inl rfl⟩ rfl ?_
          refine opSkip rfl ⟨_, rfl, .inl rfl⟩ rfl ?_
          refine op0 (sp_pickT rfl rfl rfl) rfl trivial rfl rfl ?_
          refine op0 (sp_move rfl rfl) rfl trivial rfl rfl ?_
          refine opSkip rfl ⟨_, rfl, .inl rfl⟩ rfl ?_
          refine opSkip rfl ⟨_, rfl, .inl rfl⟩ rfl ?_
          refine opSkip rfl ⟨_, rfl, .inl rfl⟩ rfl ?_
          refine opSkip rfl ⟨_, rfl, .inl rfl⟩ rfl ?_
          refine opSkip rfl ⟨_, rfl, .inl rfl⟩ rfl ?_
          refine op0 (sp_pickT rfl rfl rfl) rfl trivial rfl rfl ?_
          refine TL.nil ?_
          refine TC.condT rfl ?_
          refine TC.seq ?_
          refine TC.region ?_
          refine op0 (sp_assign rfl rfl) rfl trivial rfl rfl ?_
          refine TL.nil ?_
          cases h
          exact retJ [] (.tmp rfl .nil) rfl trivial rfl rfl
        · refine (boolLit 80 rfl h18).2 ?_
          refine op1 1 rfl (sp_fieldAddrB rfl isBlk rfl ft26_1 vt3 (by decide)) rfl ⟨_, rfl, rfl⟩ rfl rfl ?_
          refine op1 1 rfl (sp_loadB rfl isBlk rfl vt3 rfl) rfl ⟨_, rfl, rfl⟩ rfl rfl ?_
          refine op0 (sp_lss rfl rfl rfl) rfl ⟨_, rfl, rfl⟩ rfl rfl ?_
          refine op0 (sp_pickF rfl rfl rfl) rfl trivial rfl rfl ?_
          refine op0 (sp_move rfl rfl) rfl trivial rfl rfl ?_
          rcases cond_cases h with ⟨h19, h⟩ | ⟨h19, h⟩
          · refine (boolLit 85 rfl h19).2 ?_
            refine opSkip rfl ⟨_, rfl, .inl rfl⟩ rfl ?_
            refine opSkip rfl ⟨_, rfl, .inl rfl⟩ rfl ?_
            refine opSkip rfl ⟨_, rfl, .inl rfl⟩ rfl ?_
            refine opSkip rfl ⟨_, rfl, .inl rfl⟩ rfl ?_
            refine opSkip rfl ⟨_, rfl, .inl rfl⟩ rfl ?_
            refine opSkip rfl ⟨_, rfl, .inl rfl⟩ rfl ?_
            refine op0 (sp_pickT rfl rfl rfl) rfl trivial rfl rfl ?_
            refine op0 (sp_move rfl rfl) rfl trivial rfl rfl ?_
            refine opSkip rfl ⟨_, rfl, .inl rfl⟩ rfl ?_
            refine opSkip rfl ⟨_, rfl, .inl rfl⟩ rfl ?_
            refine opSkip rfl ⟨_, rfl, .inl rfl⟩ rfl ?_
            refine opSkip rfl ⟨_, rfl, .inl rfl⟩ rfl ?_
            refine opSkip rfl ⟨_, rfl, .inl rfl⟩ rfl ?_
            refine op0 (sp_pickT rfl rfl rfl) rfl trivial rfl rfl ?_
            refine TL.nil ?_
            refine TC.condT rfl ?_
            refine TC.seq ?_
            refine TC.region ?_
            refine op0 (sp_assign rfl rfl) rfl trivial rfl rfl ?_
            refine TL.nil ?_
            cases h
            exact retJ [] (.tmp rfl .nil) rfl trivial rfl rfl
          · refine (boolLit 85 rfl h19).2 ?_
            refine op1 1 rfl (sp_fieldAddrB rfl isBlk rfl ft26_0 vt3 (by decide)) rfl ⟨_, rfl, rfl⟩ rfl rfl ?_
            refine op1 1 rfl (sp_loadB rfl isBlk rfl vt3 rfl) rfl ⟨_, rfl, rfl⟩ rfl rfl ?_
            refine op1 1 rfl (sp_fieldAddrB rfl isBlk rfl ft26_1 vt3 (by decide)) rfl ⟨_, rfl, rfl⟩ rfl rfl ?_
            refine op1 1 rfl (sp_loadB rfl isBlk rfl vt3 rfl) rfl ⟨_, rfl, rfl⟩ rfl rfl ?_
            obtain ⟨r12, h20, h⟩ := bind_inv h
            refine op0 (sp_call (avs := [.val (.int .i64 r9.1), .val (.int .i64 r9.2.1)]) (need := []) (v := .val (.int .i64 r12)) (news := []) rfl rfl rfl Try.call40 (atJ [] [] (fc_law01_gcd h20) rfl rfl) (.inl (roAll rfl))) rfl ⟨_, rfl, rfl⟩ rfl rfl ?_
            refine op0 (sp_neq rfl rfl rfl) rfl ⟨_, rfl, rfl⟩ rfl rfl ?_
            refine op0 (sp_pickF rfl rfl rfl) rfl trivial rfl rfl ?_
            refine op0 (sp_move rfl rfl) rfl trivial rfl rfl ?_
            rcases cond_cases h with ⟨h21, h⟩ | ⟨h21, h⟩
            · refine (boolLit 93 rfl h21).2 ?_
              refine opSkip rfl ⟨_, rfl, .inl rfl⟩ rfl ?_
              refine opSkip rfl ⟨_, rfl, .inl rfl⟩ rfl ?_
              refine opSkip rfl ⟨_, rfl, .inl rfl⟩ rfl ?_
              refine opSkip rfl ⟨_, rfl, .inl rfl⟩ rfl ?_
              refine opSkip rfl ⟨_, rfl, .inl rfl⟩ rfl ?_
              refine op0 (sp_pickT rfl rfl rfl) rfl trivial rfl rfl ?_
              refine TL.nil ?_
              refine TC.condT rfl ?_
              refine TC.seq ?_
              refine TC.region ?_
              refine op0 (sp_assign rfl rfl) rfl trivial rfl rfl ?_
              refine TL.nil ?_
              cases h
              exact retJ [] (.tmp rfl .nil) rfl trivial rfl rfl
            · refine (boolLit 93 rfl h21).2 ?_
              refine op0 (sp_move rfl rfl) rfl ⟨_, rfl, rfl⟩ rfl rfl ?_
              refine op1 1 rfl (sp_fieldAddrB rfl isBlk rfl ft26_1 vt3 (by decide)) rfl ⟨_, rfl, rfl⟩ rfl rfl ?_
              refine op1 1 rfl (sp_loadB rfl isBlk rfl vt3 rfl) rfl ⟨_, rfl, rfl⟩ rfl rfl ?_
              obtain ⟨h22, h⟩ := chk_inv h
              refine op0 (sp_rem rfl rfl rfl h22) rfl ⟨_, rfl, rfl⟩ rfl rfl ?_
              refine op0 (sp_neq rfl rfl rfl) rfl ⟨_, rfl, rfl⟩ rfl rfl ?_
              refine op0 (sp_pickF rfl rfl rfl) rfl trivial rfl rfl ?_
              refine TL.nil ?_
              refine TC.cond (b := ((Int.tmod r11.1 r9.2.1) != 0)) rfl (fun h23 => ?_) (fun h23 => ?_)
              · have h := cond_t h h23
                refine TC.seq ?_
                refine TC.region ?_
                refine op0 (sp_assign rfl rfl) rfl trivial rfl rfl ?_
                refine TL.nil ?_
                cases h
                exact retJ [] (.tmp rfl .nil) rfl trivial rfl rfl
              · have h := cond_f h h23
                refine subJ [] (ok_law01_TrainCycles_j2 h) ?_ ?_ ?_
                · exact ⟨rfl, rfl, rfl, rfl, rfl, trivial⟩
                · exact ⟨mem_at 3 rfl, mem_at 1 rfl, trivial⟩
                · rfl
def ev_law01_TrainCycles_l0 (n : Nat) (turns2 : Int) : Nat → Int → (List (Int × Int)) → (List (Int × Int)) → Option Bool
  | 0, _, _, _ => none
  | m + 1, i3, l4, l5 => cond (decide (i3 < (l4.length : Int))) (cond (decide (i3 < 3)) (idx l4 i3 fun x6 => chk (in64 x6.1) <| chk (in64 ((6 : Int) + x6.1)) <| chk (in64 x6.2) <| chk (in64 ((6 : Int) + x6.2)) <| chk (room 16 (l5.length + ([(((6 : Int) + x6.1), ((6 : Int) + x6.2))] : List (Int × Int)).length)) <| chk (in64 (i3 + 1)) <| ev_law01_TrainCycles_l0 n turns2 m (i3 + 1) l4 (l5 ++ ([(((6 : Int) + x6.1), ((6 : Int) + x6.2))] : List (Int × Int)))) (ev_law01_TrainCycles_j1 n turns2 l5)) (ev_law01_TrainCycles_j1 n turns2 l5)
set_option maxRecDepth 100000 in
set_option maxHeartbeats 2000000 in
theorem ok_law01_TrainCycles_l0 {n : Nat} {w0 : World} {R0 : Nat → Prop} {env0 : Env} {r : Bool} {turns2 : Int} : ∀ (m : Nat) (i3 : Int) (l4 : List (Int × Int)) (l5 : List (Int × Int)), ev_law01_TrainCycles_l0 n turns2 m i3 l4 l5 = some r → TC Try.prog ⟨w0, fun _ => False, R0⟩ 209 (bodyPost Try.prog Try.f9 (Post ⟨w0, fun _ => False, R0⟩ env0 (.val (.bool r)) [])) [.code (sub (bodyOf Try.f9) [1, 1, 0, 1, 0, 0, 0, 0]), .code (sub (bodyOf Try.f9) [1, 1, 0, 1, 0, 0, 0, 1]), .code (sub (bodyOf Try.f9) [1, 1, 0, 1, 0, 0, 1]), .inLoop (sub (bodyOf Try.f9) [1, 1, 0, 1, 0, 0]), .inBlock 0, .code (sub (bodyOf Try.f9) [1, 1, 1])] ([(0, .ref 0), (1, .val (.int .u16 turns2)), (5, .ref 1), (6, .val (.int .i64 i3))]) ([.ro 0 2 (List.map en_2_uint8 l4), .row 1 33 2 (List.map en_api_TrainPair l5)]) := by
  intro m
  induction m with
  | zero => intro i3 l4 l5 h; exact none_no h
  | succ m ih =>
    intro i3 l4 l5 h
    rw [ev_law01_TrainCycles_l0] at h
    refine TC.region ?_
    refine op0 (sp_move rfl rfl) rfl trivial rfl rfl ?_
    refine op0 (sp_move rfl rfl) rfl trivial rfl rfl ?_
    refine op1 0 rfl (sp_lenM (N := l4.length) (len_map _ _) rfl rfl isRo Try.underlying75) rfl trivial rfl rfl ?_
    refine op0 (sp_lss rfl rfl rfl) rfl trivial rfl rfl ?_
    refine op0 (sp_move rfl rfl) rfl trivial rfl rfl ?_
    rcases cond_cases h with ⟨h1, h⟩ | ⟨h1, h⟩
    · refine (boolLit 28 rfl h1).2 ?_
      refine op0 (sp_move rfl rfl) rfl ⟨_, rfl, rfl⟩ rfl rfl ?_
      refine op0 (sp_lss rfl rfl rfl) rfl ⟨_, rfl, rfl⟩ rfl rfl ?_
      refine op0 (sp_pickT rfl rfl rfl) rfl trivial rfl rfl ?_
      refine TL.nil ?_
      refine TC.cond (b := (decide (i3 < 3))) rfl (fun h2 => ?_) (fun h2 => ?_)
      · have h := cond_t h h2
        refine TC.skip ?_
        refine TC.seq ?_
        refine TC.block ?_
        obtain ⟨x6, h3, h4, h⟩ := idx_inv h
        obtain ⟨h5, h⟩ := chk_inv h
        obtain ⟨h6, h⟩ := chk_inv h
        obtain ⟨h7, h⟩ := chk_inv h
        obtain ⟨h8, h⟩ := chk_inv h
        refine drawJ 17 [⟨.ref 1, [], [], []⟩, ⟨.ref 0, [], [], []⟩, ⟨.val (.int .i64 i3), [], [], []⟩, ⟨.cell 0 ((i3 : Int).toNat * 2), [], [.ro 0 2 (List.map en_2_uint8 l4)], []⟩, ⟨.cell 0 ((i3 : Int).toNat * 2 + 0), [], [.ro 0 2 (List.map en_2_uint8 l4)], []⟩, ⟨.val (.int .u8 x6.1), [], [.ro 0 2 (List.map en_2_uint8 l4)], []⟩, ⟨.val (.int .i64 x6.1), [], [], []⟩, ⟨.val (.int .i64 ((6 : Int) + x6.1)), [], [], []⟩, ⟨.ref 0, [], [], []⟩, ⟨.val (.int .i64 i3), [], [], []⟩, ⟨.cell 0 ((i3 : Int).toNat * 2), [], [.ro 0 2 (List.map en_2_uint8 l4)], []⟩, ⟨.cell 0 ((i3 : Int).toNat * 2 + 1), [], [.ro 0 2 (List.map en_2_uint8 l4)], []⟩, ⟨.val (.int .u8 x6.2), [], [.ro 0 2 (List.map en_2_uint8 l4)], []⟩, ⟨.val (.int .i64 x6.2), [], [], []⟩, ⟨.val (.int .i64 ((6 : Int) + x6.2)), [], [], []⟩, ⟨.agg [.val (.int .i64 ((6 : Int) + x6.1)), .val (.int .i64 ((6 : Int) + x6.2))], [], [], []⟩, ⟨.ref 2, [.row 2 33 2 (List.map en_api_TrainPair ([(((6 : Int) + x6.1), ((6 : Int) + x6.2))] : List (Int × Int)))], [], []⟩] rfl ?_ rfl ?_ rfl ?_ ?_
        · kernel_rfl
        · kernel_rfl
        · exact DAll.op' (sp_move rfl rfl) trivial rfl (From.ok (ps := []) trivial) (DAll.op' (sp_move rfl rfl) trivial rfl (From.ok (ps := []) trivial) (DAll.op' (sp_move rfl rfl) trivial rfl (From.ok (ps := []) trivial) (DAll.op' (sp_indexS rfl rfl rfl isRo sl75 h3 (map_get _ h4)) trivial rfl (From.ok (ps := [(none, 0)]) ⟨⟨rfl, by kernel_rfl⟩, trivial⟩) (DAll.op' (sp_indexAR (q := (i3 : Int).toNat) (len := 2) (iv := 0) rfl rfl rfl isRo Try.underlying76 vt5 (by decide) (map_get _ h4) (fun h => nomatch h)) trivial rfl (From.ok (ps := [(none, 0)]) ⟨⟨rfl, by kernel_rfl⟩, trivial⟩) (DAll.op' (sp_loadR (i := (i3 : Int).toNat) (j := 0) rfl rfl isRo vt5 rfl (map_get _ h4) rfl (.v (.nil)) (nodup_of_B rfl)) trivial rfl (From.ok (ps := [(none, 0)]) ⟨⟨rfl, by kernel_rfl⟩, trivial⟩) (DAll.op' (sp_conv rfl Try.underlying5 Try.underlying3 rfl h5) trivial rfl (From.ok (ps := []) trivial) (DAll.op' (sp_add rfl rfl rfl h6) trivial rfl (From.ok (ps := []) trivial) (DAll.op' (sp_move rfl rfl) trivial rfl (From.ok (ps := []) trivial) (DAll.op' (sp_move rfl rfl) trivial rfl (From.ok (ps := []) trivial) (DAll.op' (sp_indexS rfl rfl rfl isRo sl75 h3 (map_get _ h4)) trivial rfl (From.ok (ps := [(none, 0)]) ⟨⟨rfl, by kernel_rfl⟩, trivial⟩) (DAll.op' (sp_indexAR (q := (i3 : Int).toNat) (len := 2) (iv := 1) rfl rfl rfl isRo Try.underlying76 vt5 (by decide) (map_get _ h4) (fun h => nomatch h)) trivial rfl (From.ok (ps := [(none, 0)]) ⟨⟨rfl, by kernel_rfl⟩, trivial⟩) (DAll.op' (sp_loadR (i := (i3 : Int).toNat) (j := 1) rfl rfl isRo vt5 rfl (map_get _ h4) rfl (.v (.nil)) (nodup_of_B rfl)) trivial rfl (From.ok (ps := [(none, 0)]) ⟨⟨rfl, by kernel_rfl⟩, trivial⟩) (DAll.op' (sp_conv rfl Try.underlying5 Try.underlying3 rfl h7) trivial rfl (From.ok (ps := []) trivial) (DAll.op' (sp_add rfl rfl rfl h8) trivial rfl (From.ok (ps := []) trivial) (DAll.op' (sp_build (qs := [(0, .val (.int .i64 ((6 : Int) + x6.1))), (1, .val (.int .i64 ((6 : Int) + x6.2)))]) rfl bt33 rfl rfl rfl rfl) trivial rfl (From.ok (ps := []) trivial) (DAll.op' (sp_buildSlice (qs := [.agg [.val (.int .i64 ((6 : Int) + x6.1)), .val (.int .i64 ((6 : Int) + x6.2))]]) (need := []) (els := List.map en_api_TrainPair ([(((6 : Int) + x6.1), ((6 : Int) + x6.2))] : List (Int × Int))) 2 rfl sl22 (by decide) (by decide) rfl rfl rfl (.v (.v (.nil))) (map_len fun _ => rfl) rfl rfl rfl) trivial rfl (From.ok (ps := []) trivial) (.nil)))))))))))))))))
        obtain ⟨h9, h⟩ := chk_inv h
        refine appM 2 0 (N := l5.length) (N2 := ([(((6 : Int) + x6.1), ((6 : Int) + x6.2))] : List (Int × Int)).length) 3 rfl rfl trivial rfl rfl rfl rfl rfl isOwn rfl sl22 (len_map _ _) (len_map _ _) h9 (map_app _ _ _) rfl ?_
        refine op0 (sp_assign rfl rfl) rfl trivial rfl rfl ?_
        refine TL.nil ?_
        refine TC.inBlock ?_
        refine TC.region ?_
        refine op0 (sp_move rfl rfl) rfl trivial rfl rfl ?_
        obtain ⟨h10, h⟩ := chk_inv h
        refine op0 (sp_add rfl rfl rfl h10) rfl trivial rfl rfl ?_
        refine op0 (sp_assign rfl rfl) rfl trivial rfl rfl ?_
        refine TL.nil ?_
        refine TC.inLoop ?_
        refine TC.seq ?_
        refine TC.seq ?_
        refine subJ [(1, 3)] (ih _ _ _ h) ?_ ?_ ?_
        · exact ⟨rfl, rfl, rfl, rfl, trivial⟩
        · exact ⟨mem_at 2 rfl, mem_at 0 rfl, trivial⟩
        · rfl
      · have h := cond_f h h2
        refine TC.exit rfl ?_
        refine TC.seq ?_
        refine subJ [] (ok_law01_TrainCycles_j1 h) ?_ ?_ ?_
        · exact ⟨rfl, rfl, trivial⟩
        · exact ⟨mem_at 1 rfl, trivial⟩
        · rfl
    · refine (boolLit 28 rfl h1).2 ?_
      refine opSkip rfl ⟨_, rfl, .inl rfl⟩ rfl ?_
      refine opSkip rfl ⟨_, rfl, .inl rfl⟩ rfl ?_
      refine op0 (sp_pickF rfl rfl rfl) rfl trivial rfl rfl ?_
      refine TL.nil ?_
      refine TC.condF rfl ?_
      refine TC.exit rfl ?_
      refine TC.seq ?_
      refine subJ [] (ok_law01_TrainCycles_j1 h) ?_ ?_ ?_
      · exact ⟨rfl, rfl, trivial⟩
      · exact ⟨mem_at 1 rfl, trivial⟩
      · rfl
def ev_law01_TrainCycles (n : Nat) (by_1 : List (Int × Int)) (turns2 : Int) : Option Bool :=
  ev_law01_TrainCycles_l0 n turns2 n 0 by_1 ([] : List (Int × Int))
set_option maxRecDepth 100000 in
set_option maxHeartbeats 2000000 in
theorem fc_law01_TrainCycles {n : Nat} {by_1 : List (Int × Int)} {turns2 : Int} {r : Bool} (h : ev_law01_TrainCycles n by_1 turns2 = some r) : FC Try.prog 9 [.ref 0, .val (.int .u16 turns2)] [.ro 0 2 (List.map en_2_uint8 by_1)] (.val (.bool r)) [] := by
  refine introJ (nz := 209) Try.func9 rfl rfl rfl (fun w0 R0 env0 => ?_)
  rw [ev_law01_TrainCycles] at h
  refine TC.seq ?_
  refine TC.region ?_
  refine op0 (sp_assign rfl rfl) rfl trivial rfl rfl ?_
  refine TL.nil ?_
  refine TC.seq ?_
  refine TC.region ?_
  refine op0 (sp_emptyM 1 (List.map en_api_TrainPair []) rfl rfl sl22) rfl trivial rfl rfl ?_
  refine op0 (sp_assign rfl rfl) rfl trivial rfl rfl ?_
  refine TL.nil ?_
  refine TC.seq ?_
  refine TC.seq ?_
  refine TC.region ?_
  refine op0 (sp_assign rfl rfl) rfl trivial rfl rfl ?_
  refine TL.nil ?_
  refine TC.block ?_
  refine TC.loop ?_
  refine TC.seq ?_
  refine TC.seq ?_
  refine subJ [] (ok_law01_TrainCycles_l0 _ _ _ _ h) ?_ ?_ ?_
  · exact ⟨rfl, rfl, rfl, rfl, trivial⟩
  · exact ⟨mem_at 1 rfl, mem_at 0 rfl, trivial⟩
  · rfl
end
end Go.Proofs.Ytabjhlfgcmmbfaa.Sy
