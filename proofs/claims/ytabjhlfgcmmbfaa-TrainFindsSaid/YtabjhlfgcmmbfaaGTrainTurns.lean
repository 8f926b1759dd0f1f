/- What functions of the program compute, and that they do: printed by symgen.py. -/
import Derived.Test.YtabjhlfgcmmbfaaGLib
import Derived.Test.YtabjhlfgcmmbfaaGturretlaw01
import Derived.Test.YtabjhlfgcmmbfaaGTrain
import Derived.Test.YtabjhlfgcmmbfaaGTurretref01
set_option linter.unusedSimpArgs false
set_option linter.unusedVariables false
namespace Go.Proofs.Ytabjhlfgcmmbfaa.Sy
open Go.RowKit
noncomputable section

/- law01_TrainTurns -/
def ev_law01_TrainTurns_l0 (n : Nat) (l1 : List (Int × Int)) (r3 : (List (Int × Int))) (r4 : Int × Int × Bool × Int) (r5 : Int × Int) : Nat → Int → Option Bool
  | 0, _ => none
  | m + 1, i6 => cond (decide (i6 < (l1.length : Int))) (idx r3 i6 fun x7 => idx l1 i6 fun x8 => cond (!((x7.1 == x8.1) && (x7.2 == x8.2))) (some false) (chk (in64 (i6 + 1)) <| ev_law01_TrainTurns_l0 n l1 r3 r4 r5 m (i6 + 1))) ((ev_ref01_Pairs n l1).bind fun r9 => cond (r9 != 0) (cond (r4.2.2.2 == r9) (cond (r5.2 == r9) (cond ((r4.1 == 0) && (r4.2.1 == 0)) (cond (!r4.2.2.1) (cond (r5.1 == 0) ((ev_law01_known n).bind fun r10 => some r10) (some false)) (some false)) (some false)) (some false)) (some false)) (cond (r4.2.2.2 == 0) (cond (r5.2 == 0) ((ev_ref01_Turns n l1).bind fun r11 => cond ((r4.1 == r11.1) && (r4.2.1 == r11.2)) (cond (r4.2.2.1 == ((Int.tmod (l1.length : Int) 2) == 1)) ((ev_ref01_Cycle n l1).bind fun r12 => cond (r5.1 == r12) ((ev_law01_known n).bind fun r13 => some r13) (some false)) (some false)) (some false)) (some false)) (some false)))
set_option maxRecDepth 100000 in
set_option maxHeartbeats 2000000 in
theorem ok_law01_TrainTurns_l0 {n : Nat} {w0 : World} {R0 : Nat → Prop} {env0 : Env} {r : Bool} {r4 : Int × Int × Bool × Int} {r5 : Int × Int} {l1 : List (Int × Int)} {r3 : (List (Int × Int))} : ∀ (m : Nat) (i6 : Int), ev_law01_TrainTurns_l0 n l1 r3 r4 r5 m i6 = some r → TC Try.prog ⟨w0, fun _ => False, R0⟩ 100 (bodyPost Try.prog Try.f3 (Post ⟨w0, fun _ => False, R0⟩ env0 (.val (.bool r)) [])) [.code (sub (bodyOf Try.f3) [1, 1, 1, 1, 1, 0, 1, 0, 0, 0, 0]), .code (sub (bodyOf Try.f3) [1, 1, 1, 1, 1, 0, 1, 0, 0, 0, 1]), .code (sub (bodyOf Try.f3) [1, 1, 1, 1, 1, 0, 1, 0, 0, 1]), .inLoop (sub (bodyOf Try.f3) [1, 1, 1, 1, 1, 0, 1, 0, 0]), .inBlock 0, .code (sub (bodyOf Try.f3) [1, 1, 1, 1, 1, 1])] ([(0, .ref 0), (3, .ref 1), (4, .ptr 2 0), (5, .val (.bool r4.2.2.1)), (6, .val (.int .i64 r4.2.2.2)), (7, .val (.int .i64 r5.1)), (8, .val (.int .i64 r5.2)), (9, .val (.int .i64 i6))]) ([.ro 0 2 (List.map en_api_TrainPair l1), .row 1 33 2 (List.map en_api_TrainPair r3), .blk 2 [.val (.int .i64 r4.1), .val (.int .i64 r4.2.1)] 26]) := by
  intro m
  induction m with
  | zero => intro i6 h; exact none_no h
  | succ m ih =>
    intro i6 h
    rw [ev_law01_TrainTurns_l0] at h
    refine TC.region ?_
    refine op0 (sp_move rfl rfl) rfl trivial rfl rfl ?_
    refine op0 (sp_move rfl rfl) rfl trivial rfl rfl ?_
    refine op1 0 rfl (sp_lenM (N := l1.length) (len_map _ _) rfl rfl isRo Try.underlying22) rfl trivial rfl rfl ?_
    refine op0 (sp_lss rfl rfl rfl) rfl trivial rfl rfl ?_
    refine TL.nil ?_
    refine TC.cond (b := (decide (i6 < (l1.length : Int)))) rfl (fun h6 => ?_) (fun h6 => ?_)
    · have h := cond_t h h6
      refine TC.skip ?_
      refine TC.seq ?_
      refine TC.block ?_
      refine TC.seq ?_
      obtain ⟨x7, h7, h8, h⟩ := idx_inv h
      obtain ⟨x8, h9, h10, h⟩ := idx_inv h
      refine drawJ 8 [⟨.ref 1, [], [], []⟩, ⟨.val (.int .i64 i6), [], [], []⟩, ⟨.cell 1 ((i6 : Int).toNat * 2), [], [.row 1 33 2 (List.map en_api_TrainPair r3)], []⟩, ⟨.agg [.val (.int .i64 x7.1), .val (.int .i64 x7.2)], [], [.row 1 33 2 (List.map en_api_TrainPair r3)], []⟩, ⟨.ref 0, [], [], []⟩, ⟨.val (.int .i64 i6), [], [], []⟩, ⟨.cell 0 ((i6 : Int).toNat * 2), [], [.ro 0 2 (List.map en_api_TrainPair l1)], []⟩, ⟨.agg [.val (.int .i64 x8.1), .val (.int .i64 x8.2)], [], [.ro 0 2 (List.map en_api_TrainPair l1)], []⟩] rfl ?_ rfl ?_ rfl ?_ ?_
      · kernel_rfl
      · kernel_rfl
      · exact DAll.op' (sp_move rfl rfl) trivial rfl (From.ok (ps := []) trivial) (DAll.op' (sp_move rfl rfl) trivial rfl (From.ok (ps := []) trivial) (DAll.op' (sp_indexS rfl rfl rfl isOwn sl22 h7 (map_get _ h8)) trivial rfl (From.ok (ps := [(none, 1)]) ⟨⟨rfl, rfl⟩, trivial⟩) (DAll.op' (sp_loadRA (i := (i6 : Int).toNat) (j := 0) (as_ := [.val (.int .i64 x7.1), .val (.int .i64 x7.2)]) (ns := []) rfl rfl isOwn vt33 rfl (map_get _ h8) rfl rfl (by decide) (.v (.v (.nil))) (nodup_of_B rfl)) trivial rfl (From.ok (ps := [(none, 1)]) ⟨⟨rfl, rfl⟩, trivial⟩) (DAll.op' (sp_move rfl rfl) trivial rfl (From.ok (ps := []) trivial) (DAll.op' (sp_move rfl rfl) trivial rfl (From.ok (ps := []) trivial) (DAll.op' (sp_indexS rfl rfl rfl isRo sl22 h9 (map_get _ h10)) trivial rfl (From.ok (ps := [(none, 0)]) ⟨⟨rfl, rfl⟩, trivial⟩) (DAll.op' (sp_loadRA (i := (i6 : Int).toNat) (j := 0) (as_ := [.val (.int .i64 x8.1), .val (.int .i64 x8.2)]) (ns := []) rfl rfl isRo vt33 rfl (map_get _ h10) rfl rfl (by decide) (.v (.v (.nil))) (nodup_of_B rfl)) trivial rfl (From.ok (ps := [(none, 0)]) ⟨⟨rfl, rfl⟩, trivial⟩) (.nil))))))))
      refine op0 (sp_neqS rfl rfl rfl rfl rfl (eq33 _ _ _ _)) rfl trivial rfl rfl ?_
      refine TL.nil ?_
      refine TC.cond (b := (!((x7.1 == x8.1) && (x7.2 == x8.2)))) rfl (fun h11 => ?_) (fun h11 => ?_)
      · have h := cond_t h h11
        refine TC.seq ?_
        refine TC.region ?_
        refine op0 (sp_assign rfl rfl) rfl trivial rfl rfl ?_
        refine TL.nil ?_
        cases h
        exact retJ [] (.tmp rfl .nil) rfl trivial rfl rfl
      · have h := cond_f h h11
        refine TC.skip ?_
        refine TC.inBlock ?_
        refine TC.region ?_
        refine op0 (sp_move rfl rfl) rfl trivial rfl rfl ?_
        obtain ⟨h12, h⟩ := chk_inv h
        refine op0 (sp_add rfl rfl rfl h12) rfl trivial rfl rfl ?_
        refine op0 (sp_assign rfl rfl) rfl trivial rfl rfl ?_
        refine TL.nil ?_
        refine TC.inLoop ?_
        refine TC.seq ?_
        refine TC.seq ?_
        refine subJ [] (ih _ h) ?_ ?_ ?_
        · exact ⟨rfl, rfl, rfl, rfl, rfl, rfl, rfl, rfl, trivial⟩
        · exact ⟨mem_at 0 rfl, mem_at 1 rfl, mem_at 2 rfl, trivial⟩
        · rfl
    · have h := cond_f h h6
      refine TC.exit rfl ?_
      refine TC.seq ?_
      refine TC.seq ?_
      refine TC.region ?_
      refine op0 (sp_move rfl rfl) rfl trivial rfl rfl ?_
      obtain ⟨r9, h13, h⟩ := bind_inv h
      refine op1 0 rfl (sp_call (avs := [.ref 0]) (need := [.ro 0 2 (List.map en_api_TrainPair l1)]) (v := .val (.int .i64 r9)) (news := []) rfl rfl rfl Try.call16 (atJ [] [] (fc_ref01_Pairs h13) rfl rfl) (.inl (roAll rfl))) rfl trivial rfl rfl ?_
      refine op0 (sp_assign rfl rfl) rfl trivial rfl rfl ?_
      refine TL.nil ?_
      refine TC.seq ?_
      refine TC.region ?_
      refine op0 (sp_move rfl rfl) rfl trivial rfl rfl ?_
      refine op0 (sp_neq rfl rfl rfl) rfl trivial rfl rfl ?_
      refine TL.nil ?_
      refine TC.cond (b := (r9 != 0)) rfl (fun h14 => ?_) (fun h14 => ?_)
      · have h := cond_t h h14
        refine TC.seq ?_
        refine TC.region ?_
        refine op0 (sp_move rfl rfl) rfl trivial rfl rfl ?_
        refine op0 (sp_move rfl rfl) rfl trivial rfl rfl ?_
        refine op0 (sp_eql rfl rfl rfl) rfl trivial rfl rfl ?_
        refine op0 (sp_move rfl rfl) rfl trivial rfl rfl ?_
        rcases cond_cases h with ⟨h15, h⟩ | ⟨h15, h⟩
        · refine (boolLit 50 rfl h15).2 ?_
          refine op0 (sp_move rfl rfl) rfl ⟨_, rfl, rfl⟩ rfl rfl ?_
          refine op0 (sp_move rfl rfl) rfl ⟨_, rfl, rfl⟩ rfl rfl ?_
          refine op0 (sp_eql rfl rfl rfl) rfl ⟨_, rfl, rfl⟩ rfl rfl ?_
          refine op0 (sp_pickT rfl rfl rfl) rfl trivial rfl rfl ?_
          refine op0 (sp_move rfl rfl) rfl trivial rfl rfl ?_
          rcases cond_cases h with ⟨h16, h⟩ | ⟨h16, h⟩
          · refine (boolLit 55 rfl h16).2 ?_
            refine op1 2 rfl (sp_loadBA rfl isBlk rfl vt26 rfl rfl) rfl ⟨_, rfl, rfl⟩ rfl rfl ?_
            refine op0 (sp_build (qs := []) rfl bt26 rfl rfl rfl rfl) rfl ⟨_, rfl, rfl⟩ rfl rfl ?_
            refine op0 (sp_eqlS rfl rfl rfl rfl rfl (eq26 _ _ _ _)) rfl ⟨_, rfl, rfl⟩ rfl rfl ?_
            refine op0 (sp_pickT rfl rfl rfl) rfl trivial rfl rfl ?_
            refine op0 (sp_move rfl rfl) rfl trivial rfl rfl ?_
            rcases cond_cases h with ⟨h17, h⟩ | ⟨h17, h⟩
            · refine (boolLit 60 rfl h17).2 ?_
              refine op0 (sp_move rfl rfl) rfl ⟨_, rfl, rfl⟩ rfl rfl ?_
              refine op0 (sp_not rfl rfl) rfl ⟨_, rfl, rfl⟩ rfl rfl ?_
              refine op0 (sp_pickT rfl rfl rfl) rfl trivial rfl rfl ?_
              refine op0 (sp_move rfl rfl) rfl trivial rfl rfl ?_
              rcases cond_cases h with ⟨h18, h⟩ | ⟨h18, h⟩
              · refine (boolLit 64 rfl h18).2 ?_
                refine op0 (sp_move rfl rfl) rfl ⟨_, rfl, rfl⟩ rfl rfl ?_
                refine op0 (sp_eql rfl rfl rfl) rfl ⟨_, rfl, rfl⟩ rfl rfl ?_
                refine op0 (sp_pickT rfl rfl rfl) rfl trivial rfl rfl ?_
                refine op0 (sp_move rfl rfl) rfl trivial rfl rfl ?_
                rcases cond_cases h with ⟨h19, h⟩ | ⟨h19, h⟩
                · refine (boolLit 68 rfl h19).2 ?_
                  obtain ⟨r10, h20, h⟩ := bind_inv h
                  refine op0 (sp_call (avs := []) (need := []) (v := .val (.bool r10)) (news := []) rfl rfl rfl Try.call12 (atJ [] [] (fc_law01_known h20) rfl rfl) (.inl (roAll rfl))) rfl ⟨_, rfl, rfl⟩ rfl rfl ?_
                  refine op0 (sp_pickT rfl rfl rfl) rfl trivial rfl rfl ?_
                  refine op0 (sp_assign rfl rfl) rfl trivial rfl rfl ?_
                  refine TL.nil ?_
                  cases h
                  exact retJ [] (.tmp rfl .nil) rfl trivial rfl rfl
                · refine (boolLit 68 rfl h19).2 ?_
                  refine opSkip rfl ⟨_, rfl, .inl rfl⟩ rfl ?_
                  refine op0 (sp_pickF rfl rfl rfl) rfl trivial rfl rfl ?_
                  refine op0 (sp_assign rfl rfl) rfl trivial rfl rfl ?_
                  refine TL.nil ?_
                  cases h
                  exact retJ [] (.tmp rfl .nil) rfl trivial rfl rfl
              · refine (boolLit 64 rfl h18).2 ?_
                refine opSkip rfl ⟨_, rfl, .inl rfl⟩ rfl ?_
                refine opSkip rfl ⟨_, rfl, .inl rfl⟩ rfl ?_
                refine op0 (sp_pickF rfl rfl rfl) rfl trivial rfl rfl ?_
                refine op0 (sp_move rfl rfl) rfl trivial rfl rfl ?_
                refine opSkip rfl ⟨_, rfl, .inl rfl⟩ rfl ?_
                refine op0 (sp_pickF rfl rfl rfl) rfl trivial rfl rfl ?_
                refine op0 (sp_assign rfl rfl) rfl trivial rfl rfl ?_
                refine TL.nil ?_
                cases h
                exact retJ [] (.tmp rfl .nil) rfl trivial rfl rfl
            · refine (boolLit 60 rfl h17).2 ?_
              refine opSkip rfl ⟨_, rfl, .inl rfl⟩ rfl ?_
              refine opSkip rfl ⟨_, rfl, .inl rfl⟩ rfl ?_
              refine op0 (sp_pickF rfl rfl rfl) rfl trivial rfl rfl ?_
              refine op0 (sp_move rfl rfl) rfl trivial rfl rfl ?_
              refine opSkip rfl ⟨_, rfl, .inl rfl⟩ rfl ?_
              refine opSkip rfl ⟨_, rfl, .inl rfl⟩ rfl ?_
              refine op0 (sp_pickF rfl rfl rfl) rfl trivial rfl rfl ?_
              refine op0 (sp_move rfl rfl) rfl trivial rfl rfl ?_
              refine opSkip rfl ⟨_, rfl, .inl rfl⟩ rfl ?_
              refine op0 (sp_pickF rfl rfl rfl) rfl trivial rfl rfl ?_
              refine op0 (sp_assign rfl rfl) rfl trivial rfl rfl ?_
              refine TL.nil ?_
              cases h
              exact retJ [] (.tmp rfl .nil) rfl trivial rfl rfl
          · refine (boolLit 55 rfl h16).2 ?_
            refine opSkip rfl ⟨_, rfl, .inl rfl⟩ rfl ?_
            refine opSkip rfl ⟨_, rfl, .inl rfl⟩ rfl ?_
            refine opSkip rfl ⟨_, rfl, .inl rfl⟩ rfl ?_
            refine op0 (sp_pickF rfl rfl rfl) rfl trivial rfl rfl ?_
            refine op0 (sp_move rfl rfl) rfl trivial rfl rfl ?_
            refine opSkip rfl ⟨_, rfl, .inl rfl⟩ rfl ?_
            refine opSkip rfl ⟨_, rfl, .inl rfl⟩ rfl ?_
            refine op0 (sp_pickF rfl rfl rfl) rfl trivial rfl rfl ?_
            refine op0 (sp_move rfl rfl) rfl trivial rfl rfl ?_
            refine opSkip rfl ⟨_, rfl, .inl rfl⟩ rfl ?_
            refine opSkip rfl ⟨_, rfl, .inl rfl⟩ rfl ?_
            refine op0 (sp_pickF rfl rfl rfl) rfl trivial rfl rfl ?_
            refine op0 (sp_move rfl rfl) rfl trivial rfl rfl ?_
            refine opSkip rfl ⟨_, rfl, .inl rfl⟩ rfl ?_
            refine op0 (sp_pickF rfl rfl rfl) rfl trivial rfl rfl ?_
            refine op0 (sp_assign rfl rfl) rfl trivial rfl rfl ?_
            refine TL.nil ?_
            cases h
            exact retJ [] (.tmp rfl .nil) rfl trivial rfl rfl
        · refine (boolLit 50 rfl h15).2 ?_
          refine opSkip rfl ⟨_, rfl, .inl rfl⟩ rfl ?_
          refine opSkip rfl ⟨_, rfl, .inl rfl⟩ rfl ?_
          refine opSkip rfl ⟨_, rfl, .inl rfl⟩ rfl ?_
          refine op0 (sp_pickF rfl rfl rfl) rfl trivial rfl rfl ?_
          refine op0 (sp_move rfl rfl) rfl trivial rfl rfl ?_
          refine opSkip rfl ⟨_, rfl, .inl rfl⟩ rfl ?_
          refine opSkip rfl ⟨_, rfl, .inl rfl⟩ rfl ?_
          refine opSkip rfl ⟨_, rfl, .inl rfl⟩ rfl ?_
          refine op0 (sp_pickF rfl rfl rfl) rfl trivial rfl rfl ?_
          refine op0 (sp_move rfl rfl) rfl trivial rfl rfl ?_
          refine opSkip rfl ⟨_, rfl, .inl rfl⟩ rfl ?_
          refine opSkip rfl ⟨_, rfl, .inl rfl⟩ rfl ?_
          refine op0 (sp_pickF rfl rfl rfl) rfl trivial rfl rfl ?_
          refine op0 (sp_move rfl rfl) rfl trivial rfl rfl ?_
          refine opSkip rfl ⟨_, rfl, .inl rfl⟩ rfl ?_
          refine opSkip rfl ⟨_, rfl, .inl rfl⟩ rfl ?_
          refine op0 (sp_pickF rfl rfl rfl) rfl trivial rfl rfl ?_
          refine op0 (sp_move rfl rfl) rfl trivial rfl rfl ?_
          refine opSkip rfl ⟨_, rfl, .inl rfl⟩ rfl ?_
          refine op0 (sp_pickF rfl rfl rfl) rfl trivial rfl rfl ?_
          refine op0 (sp_assign rfl rfl) rfl trivial rfl rfl ?_
          refine TL.nil ?_
          cases h
          exact retJ [] (.tmp rfl .nil) rfl trivial rfl rfl
      · have h := cond_f h h14
        refine TC.skip ?_
        refine TC.seq ?_
        rcases cond_cases h with ⟨h21, h⟩ | ⟨h21, h⟩
        · rcases cond_cases h with ⟨h22, h⟩ | ⟨h22, h⟩
          · obtain ⟨r11, h23, h⟩ := bind_inv h
            rcases cond_cases h with ⟨h24, h⟩ | ⟨h24, h⟩
            · rcases cond_cases h with ⟨h25, h⟩ | ⟨h25, h⟩
              · obtain ⟨r12, h26, h⟩ := bind_inv h
                refine drawJ 24 [⟨.val (.int .i64 r4.2.2.2), [], [], []⟩, ⟨.val (.bool (r4.2.2.2 == 0)), [], [], []⟩, ⟨.val (.bool true), [], [], []⟩, ⟨.val (.int .i64 r5.2), [], [], []⟩, ⟨.val (.bool (r5.2 == 0)), [], [], []⟩, ⟨.val (.bool (r5.2 == 0)), [], [], []⟩, ⟨.val (.bool true), [], [], []⟩, ⟨.agg [.val (.int .i64 r4.1), .val (.int .i64 r4.2.1)], [], [.blk 2 [.val (.int .i64 r4.1), .val (.int .i64 r4.2.1)] 26], []⟩, ⟨.ref 0, [], [], []⟩, ⟨.agg [.val (.int .i64 r11.1), .val (.int .i64 r11.2)], [], [.ro 0 2 (List.map en_api_TrainPair l1)], []⟩, ⟨.val (.bool ((r4.1 == r11.1) && (r4.2.1 == r11.2))), [], [], []⟩, ⟨.val (.bool ((r4.1 == r11.1) && (r4.2.1 == r11.2))), [], [], []⟩, ⟨.val (.bool true), [], [], []⟩, ⟨.val (.bool r4.2.2.1), [], [], []⟩, ⟨.ref 0, [], [], []⟩, ⟨.val (.int .i64 (l1.length : Int)), [], [.ro 0 2 (List.map en_api_TrainPair l1)], []⟩, ⟨.val (.int .i64 (Int.tmod (l1.length : Int) 2)), [], [], []⟩, ⟨.val (.bool ((Int.tmod (l1.length : Int) 2) == 1)), [], [], []⟩, ⟨.val (.bool (r4.2.2.1 == ((Int.tmod (l1.length : Int) 2) == 1))), [], [], []⟩, ⟨.val (.bool (r4.2.2.1 == ((Int.tmod (l1.length : Int) 2) == 1))), [], [], []⟩, ⟨.val (.bool true), [], [], []⟩, ⟨.val (.int .i64 r5.1), [], [], []⟩, ⟨.ref 0, [], [], []⟩, ⟨.val (.int .i64 r12), [], [.ro 0 2 (List.map en_api_TrainPair l1)], []⟩] rfl ?_ rfl ?_ rfl ?_ ?_
                · kernel_rfl
                · kernel_rfl
                · exact DAll.op' (sp_move rfl rfl) trivial rfl (From.ok (ps := []) trivial) (DAll.op' (sp_eql rfl rfl rfl) trivial rfl (From.ok (ps := []) trivial) (DAll.op' (sp_castB h21 (sp_move rfl rfl)) trivial rfl (From.ok (ps := []) trivial) (DAll.op' (sp_move rfl rfl) ⟨_, rfl, rfl⟩ rfl (From.ok (ps := []) trivial) (DAll.op' (sp_eql rfl rfl rfl) ⟨_, rfl, rfl⟩ rfl (From.ok (ps := []) trivial) (DAll.op' (sp_pickT rfl rfl rfl) trivial rfl (From.ok (ps := []) trivial) (DAll.op' (sp_castB h22 (sp_move rfl rfl)) trivial rfl (From.ok (ps := []) trivial) (DAll.op' (sp_loadBA rfl isBlk rfl vt26 rfl rfl) ⟨_, rfl, rfl⟩ rfl (From.ok (ps := [(none, 2)]) ⟨⟨rfl, by kernel_rfl⟩, trivial⟩) (DAll.op' (sp_move rfl rfl) ⟨_, rfl, rfl⟩ rfl (From.ok (ps := []) trivial) (DAll.op' (sp_call (avs := [.ref 0]) (need := [.ro 0 2 (List.map en_api_TrainPair l1)]) (v := .agg [.val (.int .i64 r11.1), .val (.int .i64 r11.2)]) (news := []) rfl rfl rfl Try.call17 (atJ [] [] (fc_ref01_Turns h23) rfl rfl) (.inl (roAll rfl))) ⟨_, rfl, rfl⟩ rfl (From.ok (ps := [(none, 0)]) ⟨⟨rfl, by kernel_rfl⟩, trivial⟩) (DAll.op' (sp_eqlS rfl rfl rfl rfl rfl (eq26 _ _ _ _)) ⟨_, rfl, rfl⟩ rfl (From.ok (ps := []) trivial) (DAll.op' (sp_pickT rfl rfl rfl) trivial rfl (From.ok (ps := []) trivial) (DAll.op' (sp_castB h24 (sp_move rfl rfl)) trivial rfl (From.ok (ps := []) trivial) (DAll.op' (sp_move rfl rfl) ⟨_, rfl, rfl⟩ rfl (From.ok (ps := []) trivial) (DAll.op' (sp_move rfl rfl) ⟨_, rfl, rfl⟩ rfl (From.ok (ps := []) trivial) (DAll.op' (sp_lenM (N := l1.length) (len_map _ _) rfl rfl isRo Try.underlying22) ⟨_, rfl, rfl⟩ rfl (From.ok (ps := [(none, 0)]) ⟨⟨rfl, by kernel_rfl⟩, trivial⟩) (DAll.op' (sp_rem rfl rfl rfl (by decide)) ⟨_, rfl, rfl⟩ rfl (From.ok (ps := []) trivial) (DAll.op' (sp_eql rfl rfl rfl) ⟨_, rfl, rfl⟩ rfl (From.ok (ps := []) trivial) (DAll.op' (sp_eqlB rfl Try.underlying4 rfl rfl) ⟨_, rfl, rfl⟩ rfl (From.ok (ps := []) trivial) (DAll.op' (sp_pickT rfl rfl rfl) trivial rfl (From.ok (ps := []) trivial) (DAll.op' (sp_castB h25 (sp_move rfl rfl)) trivial rfl (From.ok (ps := []) trivial) (DAll.op' (sp_move rfl rfl) ⟨_, rfl, rfl⟩ rfl (From.ok (ps := []) trivial) (DAll.op' (sp_move rfl rfl) ⟨_, rfl, rfl⟩ rfl (From.ok (ps := []) trivial) (DAll.op' (sp_call (avs := [.ref 0]) (need := [.ro 0 2 (List.map en_api_TrainPair l1)]) (v := .val (.int .i64 r12)) (news := []) rfl rfl rfl Try.call18 (atJ [] [] (fc_ref01_Cycle h26) rfl rfl) (.inl (roAll rfl))) ⟨_, rfl, rfl⟩ rfl (From.ok (ps := [(none, 0)]) ⟨⟨rfl, by kernel_rfl⟩, trivial⟩) (.nil))))))))))))))))))))))))
                refine op0 (sp_eql rfl rfl rfl) rfl ⟨_, rfl, rfl⟩ rfl rfl ?_
                refine op0 (sp_pickT rfl rfl rfl) rfl trivial rfl rfl ?_
                refine op0 (sp_move rfl rfl) rfl trivial rfl rfl ?_
                rcases cond_cases h with ⟨h27, h⟩ | ⟨h27, h⟩
                · refine (boolLit 97 rfl h27).2 ?_
                  obtain ⟨r13, h28, h⟩ := bind_inv h
                  refine op0 (sp_call (avs := []) (need := []) (v := .val (.bool r13)) (news := []) rfl rfl rfl Try.call12 (atJ [] [] (fc_law01_known h28) rfl rfl) (.inl (roAll rfl))) rfl ⟨_, rfl, rfl⟩ rfl rfl ?_
                  refine op0 (sp_pickT rfl rfl rfl) rfl trivial rfl rfl ?_
                  refine op0 (sp_assign rfl rfl) rfl trivial rfl rfl ?_
                  refine TL.nil ?_
                  cases h
                  exact retJ [] (.tmp rfl .nil) rfl trivial rfl rfl
                · refine (boolLit 97 rfl h27).2 ?_
                  refine opSkip rfl ⟨_, rfl, .inl rfl⟩ rfl ?_
                  refine op0 (sp_pickF rfl rfl rfl) rfl trivial rfl rfl ?_
                  refine op0 (sp_assign rfl rfl) rfl trivial rfl rfl ?_
                  refine TL.nil ?_
                  cases h
                  exact retJ [] (.tmp rfl .nil) rfl trivial rfl rfl
              · refine drawJ 24 [⟨.val (.int .i64 r4.2.2.2), [], [], []⟩, ⟨.val (.bool (r4.2.2.2 == 0)), [], [], []⟩, ⟨.val (.bool true), [], [], []⟩, ⟨.val (.int .i64 r5.2), [], [], []⟩, ⟨.val (.bool (r5.2 == 0)), [], [], []⟩, ⟨.val (.bool (r5.2 == 0)), [], [], []⟩, ⟨.val (.bool true), [], [], []⟩, ⟨.agg [.val (.int .i64 r4.1), .val (.int .i64 r4.2.1)], [], [.blk 2 [.val (.int .i64 r4.1), .val (.int .i64 r4.2.1)] 26], []⟩, ⟨.ref 0, [], [], []⟩, ⟨.agg [.val (.int .i64 r11.1), .val (.int .i64 r11.2)], [], [.ro 0 2 (List.map en_api_TrainPair l1)], []⟩, ⟨.val (.bool ((r4.1 == r11.1) && (r4.2.1 == r11.2))), [], [], []⟩, ⟨.val (.bool ((r4.1 == r11.1) && (r4.2.1 == r11.2))), [], [], []⟩, ⟨.val (.bool true), [], [], []⟩, ⟨.val (.bool r4.2.2.1), [], [], []⟩, ⟨.ref 0, [], [], []⟩, ⟨.val (.int .i64 (l1.length : Int)), [], [.ro 0 2 (List.map en_api_TrainPair l1)], []⟩, ⟨.val (.int .i64 (Int.tmod (l1.length : Int) 2)), [], [], []⟩, ⟨.val (.bool ((Int.tmod (l1.length : Int) 2) == 1)), [], [], []⟩, ⟨.val (.bool (r4.2.2.1 == ((Int.tmod (l1.length : Int) 2) == 1))), [], [], []⟩, ⟨.val (.bool (r4.2.2.1 == ((Int.tmod (l1.length : Int) 2) == 1))), [], [], []⟩, ⟨.val (.bool false), [], [], []⟩, ⟨.val (undef), [], [], []⟩, ⟨.val (undef), [], [], []⟩, ⟨.val (undef), [], [], []⟩] rfl ?_ rfl ?_ rfl ?_ ?_
                · kernel_rfl
                · kernel_rfl
                · exact DAll.op' (sp_move rfl rfl) trivial rfl (From.ok (ps := []) trivial) (DAll.op' (sp_eql rfl rfl rfl) trivial rfl (From.ok (ps := []) trivial) (DAll.op' (sp_castB h21 (sp_move rfl rfl)) trivial rfl (From.ok (ps := []) trivial) (DAll.op' (sp_move rfl rfl) ⟨_, rfl, rfl⟩ rfl (From.ok (ps := []) trivial) (DAll.op' (sp_eql rfl rfl rfl) ⟨_, rfl, rfl⟩ rfl (From.ok (ps := []) trivial) (DAll.op' (sp_pickT rfl rfl rfl) trivial rfl (From.ok (ps := []) trivial) (DAll.op' (sp_castB h22 (sp_move rfl rfl)) trivial rfl (From.ok (ps := []) trivial) (DAll.op' (sp_loadBA rfl isBlk rfl vt26 rfl rfl) ⟨_, rfl, rfl⟩ rfl (From.ok (ps := [(none, 2)]) ⟨⟨rfl, by kernel_rfl⟩, trivial⟩) (DAll.op' (sp_move rfl rfl) ⟨_, rfl, rfl⟩ rfl (From.ok (ps := []) trivial) (DAll.op' (sp_call (avs := [.ref 0]) (need := [.ro 0 2 (List.map en_api_TrainPair l1)]) (v := .agg [.val (.int .i64 r11.1), .val (.int .i64 r11.2)]) (news := []) rfl rfl rfl Try.call17 (atJ [] [] (fc_ref01_Turns h23) rfl rfl) (.inl (roAll rfl))) ⟨_, rfl, rfl⟩ rfl (From.ok (ps := [(none, 0)]) ⟨⟨rfl, by kernel_rfl⟩, trivial⟩) (DAll.op' (sp_eqlS rfl rfl rfl rfl rfl (eq26 _ _ _ _)) ⟨_, rfl, rfl⟩ rfl (From.ok (ps := []) trivial) (DAll.op' (sp_pickT rfl rfl rfl) trivial rfl (From.ok (ps := []) trivial) (DAll.op' (sp_castB h24 (sp_move rfl rfl)) trivial rfl (From.ok (ps := []) trivial) (DAll.op' (sp_move rfl rfl) ⟨_, rfl, rfl⟩ rfl (From.ok (ps := []) trivial) (DAll.op' (sp_move rfl rfl) ⟨_, rfl, rfl⟩ rfl (From.ok (ps := []) trivial) (DAll.op' (sp_lenM (N := l1.length) (len_map _ _) rfl rfl isRo Try.underlying22) ⟨_, rfl, rfl⟩ rfl (From.ok (ps := [(none, 0)]) ⟨⟨rfl, by kernel_rfl⟩, trivial⟩) (DAll.op' (sp_rem rfl rfl rfl (by decide)) ⟨_, rfl, rfl⟩ rfl (From.ok (ps := []) trivial) (DAll.op' (sp_eql rfl rfl rfl) ⟨_, rfl, rfl⟩ rfl (From.ok (ps := []) trivial) (DAll.op' (sp_eqlB rfl Try.underlying4 rfl rfl) ⟨_, rfl, rfl⟩ rfl (From.ok (ps := []) trivial) (DAll.op' (sp_pickT rfl rfl rfl) trivial rfl (From.ok (ps := []) trivial) (DAll.op' (sp_castB h25 (sp_move rfl rfl)) trivial rfl (From.ok (ps := []) trivial) (.skip ⟨_, rfl, .inl rfl⟩ rfl rfl rfl (.skip ⟨_, rfl, .inl rfl⟩ rfl rfl rfl (.skip ⟨_, rfl, .inl rfl⟩ rfl rfl rfl (.nil))))))))))))))))))))))))
                refine opSkip rfl ⟨_, rfl, .inl rfl⟩ rfl ?_
                refine op0 (sp_pickF rfl rfl rfl) rfl trivial rfl rfl ?_
                refine op0 (sp_move rfl rfl) rfl trivial rfl rfl ?_
                refine opSkip rfl ⟨_, rfl, .inl rfl⟩ rfl ?_
                refine op0 (sp_pickF rfl rfl rfl) rfl trivial rfl rfl ?_
                refine op0 (sp_assign rfl rfl) rfl trivial rfl rfl ?_
                refine TL.nil ?_
                cases h
                exact retJ [] (.tmp rfl .nil) rfl trivial rfl rfl
            · refine drawJ 24 [⟨.val (.int .i64 r4.2.2.2), [], [], []⟩, ⟨.val (.bool (r4.2.2.2 == 0)), [], [], []⟩, ⟨.val (.bool true), [], [], []⟩, ⟨.val (.int .i64 r5.2), [], [], []⟩, ⟨.val (.bool (r5.2 == 0)), [], [], []⟩, ⟨.val (.bool (r5.2 == 0)), [], [], []⟩, ⟨.val (.bool true), [], [], []⟩, ⟨.agg [.val (.int .i64 r4.1), .val (.int .i64 r4.2.1)], [], [.blk 2 [.val (.int .i64 r4.1), .val (.int .i64 r4.2.1)] 26], []⟩, ⟨.ref 0, [], [], []⟩, ⟨.agg [.val (.int .i64 r11.1), .val (.int .i64 r11.2)], [], [.ro 0 2 (List.map en_api_TrainPair l1)], []⟩, ⟨.val (.bool ((r4.1 == r11.1) && (r4.2.1 == r11.2))), [], [], []⟩, ⟨.val (.bool ((r4.1 == r11.1) && (r4.2.1 == r11.2))), [], [], []⟩, ⟨.val (.bool false), [], [], []⟩, ⟨.val (undef), [], [], []⟩, ⟨.val (undef), [], [], []⟩, ⟨.val (undef), [], [], []⟩, ⟨.val (undef), [], [], []⟩, ⟨.val (undef), [], [], []⟩, ⟨.val (undef), [], [], []⟩, ⟨.val (.bool false), [], [], []⟩, ⟨.val (.bool false), [], [], []⟩, ⟨.val (undef), [], [], []⟩, ⟨.val (undef), [], [], []⟩, ⟨.val (undef), [], [], []⟩] rfl ?_ rfl ?_ rfl ?_ ?_
              · kernel_rfl
              · kernel_rfl
              · exact DAll.op' (sp_move rfl rfl) trivial rfl (From.ok (ps := []) trivial) (DAll.op' (sp_eql rfl rfl rfl) trivial rfl (From.ok (ps := []) trivial) (DAll.op' (sp_castB h21 (sp_move rfl rfl)) trivial rfl (From.ok (ps := []) trivial) (DAll.op' (sp_move rfl rfl) ⟨_, rfl, rfl⟩ rfl (From.ok (ps := []) trivial) (DAll.op' (sp_eql rfl rfl rfl) ⟨_, rfl, rfl⟩ rfl (From.ok (ps := []) trivial) (DAll.op' (sp_pickT rfl rfl rfl) trivial rfl (From.ok (ps := []) trivial) (DAll.op' (sp_castB h22 (sp_move rfl rfl)) trivial rfl (From.ok (ps := []) trivial) (DAll.op' (sp_loadBA rfl isBlk rfl vt26 rfl rfl) ⟨_, rfl, rfl⟩ rfl (From.ok (ps := [(none, 2)]) ⟨⟨rfl, by kernel_rfl⟩, trivial⟩) (DAll.op' (sp_move rfl rfl) ⟨_, rfl, rfl⟩ rfl (From.ok (ps := []) trivial) (DAll.op' (sp_call (avs := [.ref 0]) (need := [.ro 0 2 (List.map en_api_TrainPair l1)]) (v := .agg [.val (.int .i64 r11.1), .val (.int .i64 r11.2)]) (news := []) rfl rfl rfl Try.call17 (atJ [] [] (fc_ref01_Turns h23) rfl rfl) (.inl (roAll rfl))) ⟨_, rfl, rfl⟩ rfl (From.ok (ps := [(none, 0)]) ⟨⟨rfl, by kernel_rfl⟩, trivial⟩) (DAll.op' (sp_eqlS rfl rfl rfl rfl rfl (eq26 _ _ _ _)) ⟨_, rfl, rfl⟩ rfl (From.ok (ps := []) trivial) (DAll.op' (sp_pickT rfl rfl rfl) trivial rfl (From.ok (ps := []) trivial) (DAll.op' (sp_castB h24 (sp_move rfl rfl)) trivial rfl (From.ok (ps := []) trivial) (.skip ⟨_, rfl, .inl rfl⟩ rfl rfl rfl (.skip ⟨_, rfl, .inl rfl⟩ rfl rfl rfl (.skip ⟨_, rfl, .inl rfl⟩ rfl rfl rfl (.skip ⟨_, rfl, .inl rfl⟩ rfl rfl rfl (.skip ⟨_, rfl, .inl rfl⟩ rfl rfl rfl (.skip ⟨_, rfl, .inl rfl⟩ rfl rfl rfl (DAll.op' (sp_pickF rfl rfl rfl) trivial rfl (From.ok (ps := []) trivial) (DAll.op' (sp_move rfl rfl) trivial rfl (From.ok (ps := []) trivial) (.skip ⟨_, rfl, .inl rfl⟩ rfl rfl rfl (.skip ⟨_, rfl, .inl rfl⟩ rfl rfl rfl (.skip ⟨_, rfl, .inl rfl⟩ rfl rfl rfl (.nil))))))))))))))))))))))))
              refine opSkip rfl ⟨_, rfl, .inl rfl⟩ rfl ?_
              refine op0 (sp_pickF rfl rfl rfl) rfl trivial rfl rfl ?_
              refine op0 (sp_move rfl rfl) rfl trivial rfl rfl ?_
              refine opSkip rfl ⟨_, rfl, .inl rfl⟩ rfl ?_
              refine op0 (sp_pickF rfl rfl rfl) rfl trivial rfl rfl ?_
              refine op0 (sp_assign rfl rfl) rfl trivial rfl rfl ?_
              refine TL.nil ?_
              cases h
              exact retJ [] (.tmp rfl .nil) rfl trivial rfl rfl
          · refine drawJ 24 [⟨.val (.int .i64 r4.2.2.2), [], [], []⟩, ⟨.val (.bool (r4.2.2.2 == 0)), [], [], []⟩, ⟨.val (.bool true), [], [], []⟩, ⟨.val (.int .i64 r5.2), [], [], []⟩, ⟨.val (.bool (r5.2 == 0)), [], [], []⟩, ⟨.val (.bool (r5.2 == 0)), [], [], []⟩, ⟨.val (.bool false), [], [], []⟩, ⟨.val (undef), [], [], []⟩, ⟨.val (undef), [], [], []⟩, ⟨.val (undef), [], [], []⟩, ⟨.val (undef), [], [], []⟩, ⟨.val (.bool false), [], [], []⟩, ⟨.val (.bool false), [], [], []⟩, ⟨.val (undef), [], [], []⟩, ⟨.val (undef), [], [], []⟩, ⟨.val (undef), [], [], []⟩, ⟨.val (undef), [], [], []⟩, ⟨.val (undef), [], [], []⟩, ⟨.val (undef), [], [], []⟩, ⟨.val (.bool false), [], [], []⟩, ⟨.val (.bool false), [], [], []⟩, ⟨.val (undef), [], [], []⟩, ⟨.val (undef), [], [], []⟩, ⟨.val (undef), [], [], []⟩] rfl ?_ rfl ?_ rfl ?_ ?_
            · kernel_rfl
            · kernel_rfl
            · exact DAll.op' (sp_move rfl rfl) trivial rfl (From.ok (ps := []) trivial) (DAll.op' (sp_eql rfl rfl rfl) trivial rfl (From.ok (ps := []) trivial) (DAll.op' (sp_castB h21 (sp_move rfl rfl)) trivial rfl (From.ok (ps := []) trivial) (DAll.op' (sp_move rfl rfl) ⟨_, rfl, rfl⟩ rfl (From.ok (ps := []) trivial) (DAll.op' (sp_eql rfl rfl rfl) ⟨_, rfl, rfl⟩ rfl (From.ok (ps := []) trivial) (DAll.op' (sp_pickT rfl rfl rfl) trivial rfl (From.ok (ps := []) trivial) (DAll.op' (sp_castB h22 (sp_move rfl rfl)) trivial rfl (From.ok (ps := []) trivial) (.skip ⟨_, rfl, .inl rfl⟩ rfl rfl rfl (.skip ⟨_, rfl, .inl rfl⟩ rfl rfl rfl (.skip ⟨_, rfl, .inl rfl⟩ rfl rfl rfl (.skip ⟨_, rfl, .inl rfl⟩ rfl rfl rfl (DAll.op' (sp_pickF rfl rfl rfl) trivial rfl (From.ok (ps := []) trivial) (DAll.op' (sp_move rfl rfl) trivial rfl (From.ok (ps := []) trivial) (.skip ⟨_, rfl, .inl rfl⟩ rfl rfl rfl (.skip ⟨_, rfl, .inl rfl⟩ rfl rfl rfl (.skip ⟨_, rfl, .inl rfl⟩ rfl rfl rfl (.skip ⟨_, rfl, .inl rfl⟩ rfl rfl rfl (.skip ⟨_, rfl, .inl rfl⟩ rfl rfl rfl (.skip ⟨_, rfl, .inl rfl⟩ rfl rfl rfl (DAll.op' (sp_pickF rfl rfl rfl) trivial rfl (From.ok (ps := []) trivial) (DAll.op' (sp_move rfl rfl) trivial rfl (From.ok (ps := []) trivial) (.skip ⟨_, rfl, .inl rfl⟩ rfl rfl rfl (.skip ⟨_, rfl, .inl rfl⟩ rfl rfl rfl (.skip ⟨_, rfl, .inl rfl⟩ rfl rfl rfl (.nil))))))))))))))))))))))))
            refine opSkip rfl ⟨_, rfl, .inl rfl⟩ rfl ?_
            refine op0 (sp_pickF rfl rfl rfl) rfl trivial rfl rfl ?_
            refine op0 (sp_move rfl rfl) rfl trivial rfl rfl ?_
            refine opSkip rfl ⟨_, rfl, .inl rfl⟩ rfl ?_
            refine op0 (sp_pickF rfl rfl rfl) rfl trivial rfl rfl ?_
            refine op0 (sp_assign rfl rfl) rfl trivial rfl rfl ?_
            refine TL.nil ?_
            cases h
            exact retJ [] (.tmp rfl .nil) rfl trivial rfl rfl
        · refine drawJ 24 [⟨.val (.int .i64 r4.2.2.2), [], [], []⟩, ⟨.val (.bool (r4.2.2.2 == 0)), [], [], []⟩, ⟨.val (.bool false), [], [], []⟩, ⟨.val (undef), [], [], []⟩, ⟨.val (undef), [], [], []⟩, ⟨.val (.bool false), [], [], []⟩, ⟨.val (.bool false), [], [], []⟩, ⟨.val (undef), [], [], []⟩, ⟨.val (undef), [], [], []⟩, ⟨.val (undef), [], [], []⟩, ⟨.val (undef), [], [], []⟩, ⟨.val (.bool false), [], [], []⟩, ⟨.val (.bool false), [], [], []⟩, ⟨.val (undef), [], [], []⟩, ⟨.val (undef), [], [], []⟩, ⟨.val (undef), [], [], []⟩, ⟨.val (undef), [], [], []⟩, ⟨.val (undef), [], [], []⟩, ⟨.val (undef), [], [], []⟩, ⟨.val (.bool false), [], [], []⟩, ⟨.val (.bool false), [], [], []⟩, ⟨.val (undef), [], [], []⟩, ⟨.val (undef), [], [], []⟩, ⟨.val (undef), [], [], []⟩] rfl ?_ rfl ?_ rfl ?_ ?_
          · kernel_rfl
          · kernel_rfl
          · exact DAll.op' (sp_move rfl rfl) trivial rfl (From.ok (ps := []) trivial) (DAll.op' (sp_eql rfl rfl rfl) trivial rfl (From.ok (ps := []) trivial) (DAll.op' (sp_castB h21 (sp_move rfl rfl)) trivial rfl (From.ok (ps := []) trivial) (.skip ⟨_, rfl, .inl rfl⟩ rfl rfl rfl (.skip ⟨_, rfl, .inl rfl⟩ rfl rfl rfl (DAll.op' (sp_pickF rfl rfl rfl) trivial rfl (From.ok (ps := []) trivial) (DAll.op' (sp_move rfl rfl) trivial rfl (From.ok (ps := []) trivial) (.skip ⟨_, rfl, .inl rfl⟩ rfl rfl rfl (.skip ⟨_, rfl, .inl rfl⟩ rfl rfl rfl (.skip ⟨_, rfl, .inl rfl⟩ rfl rfl rfl (.skip ⟨_, rfl, .inl rfl⟩ rfl rfl rfl (DAll.op' (sp_pickF rfl rfl rfl) trivial rfl (From.ok (ps := []) trivial) (DAll.op' (sp_move rfl rfl) trivial rfl (From.ok (ps := []) trivial) (.skip ⟨_, rfl, .inl rfl⟩ rfl rfl rfl (.skip ⟨_, rfl, .inl rfl⟩ rfl rfl rfl (.skip ⟨_, rfl, .inl rfl⟩ rfl rfl rfl (.skip ⟨_, rfl, .inl rfl⟩ rfl rfl rfl (.skip ⟨_, rfl, .inl rfl⟩ rfl rfl rfl (.skip ⟨_, rfl, .inl rfl⟩ rfl rfl rfl (DAll.op' (sp_pickF rfl rfl rfl) trivial rfl (From.ok (ps := []) trivial) (DAll.op' (sp_move rfl rfl) trivial rfl (From.ok (ps := []) trivial) (.skip ⟨_, rfl, .inl rfl⟩ rfl rfl rfl (.skip ⟨_, rfl, .inl rfl⟩ rfl rfl rfl (.skip ⟨_, rfl, .inl rfl⟩ rfl rfl rfl (.nil))))))))))))))))))))))))
          refine opSkip rfl ⟨_, rfl, .inl rfl⟩ rfl ?_
          refine op0 (sp_pickF rfl rfl rfl) rfl trivial rfl rfl ?_
          refine op0 (sp_move rfl rfl) rfl trivial rfl rfl ?_
          refine opSkip rfl ⟨_, rfl, .inl rfl⟩ rfl ?_
          refine op0 (sp_pickF rfl rfl rfl) rfl trivial rfl rfl ?_
          refine op0 (sp_assign rfl rfl) rfl trivial rfl rfl ?_
          refine TL.nil ?_
          cases h
          exact retJ [] (.tmp rfl .nil) rfl trivial rfl rfl
def ev_law01_TrainTurns (n : Nat) (l1 : List (Int × Int)) : Option Bool :=
  cond (decide ((10 : Int) < (l1.length : Int))) ((ev_law01_known n).bind fun r2 => some r2) ((ev_law01_pairs n l1).bind fun r3 => (ev_train_Turns n r3).bind fun r4 => (ev_train_Cycle n r3).bind fun r5 => ev_law01_TrainTurns_l0 n l1 r3 r4 r5 n 0)
set_option maxRecDepth 100000 in
set_option maxHeartbeats 2000000 in
theorem fc_law01_TrainTurns {n : Nat} {l1 : List (Int × Int)} {r : Bool} (h : ev_law01_TrainTurns n l1 = some r) : FC Try.prog 3 [.ref 0] [.ro 0 2 (List.map en_api_TrainPair l1)] (.val (.bool r)) [] := by
  refine introJ (nz := 100) Try.func3 rfl rfl rfl (fun w0 R0 env0 => ?_)
  rw [ev_law01_TrainTurns] at h
  refine TC.seq ?_
  refine TC.region ?_
  refine op0 (sp_assign rfl rfl) rfl trivial rfl rfl ?_
  refine TL.nil ?_
  refine TC.seq ?_
  refine TC.seq ?_
  refine TC.region ?_
  refine op0 (sp_move rfl rfl) rfl trivial rfl rfl ?_
  refine op1 0 rfl (sp_lenM (N := l1.length) (len_map _ _) rfl rfl isRo Try.underlying22) rfl trivial rfl rfl ?_
  refine op0 (sp_gtr rfl rfl rfl) rfl trivial rfl rfl ?_
  refine TL.nil ?_
  refine TC.cond (b := (decide ((10 : Int) < (l1.length : Int)))) rfl (fun h1 => ?_) (fun h1 => ?_)
  · have h := cond_t h h1
    refine TC.seq ?_
    refine TC.region ?_
    obtain ⟨r2, h2, h⟩ := bind_inv h
    refine op0 (sp_call (avs := []) (need := []) (v := .val (.bool r2)) (news := []) rfl rfl rfl Try.call12 (atJ [] [] (fc_law01_known h2) rfl rfl) (.inl (roAll rfl))) rfl trivial rfl rfl ?_
    refine op0 (sp_assign rfl rfl) rfl trivial rfl rfl ?_
    refine TL.nil ?_
    cases h
    exact retJ [] (.tmp rfl .nil) rfl trivial rfl rfl
  · have h := cond_f h h1
    refine TC.skip ?_
    refine TC.seq ?_
    refine TC.region ?_
    refine op0 (sp_move rfl rfl) rfl trivial rfl rfl ?_
    obtain ⟨r3, h3, h⟩ := bind_inv h
    refine op1 0 rfl (sp_call (avs := [.ref 0]) (need := [.ro 0 2 (List.map en_api_TrainPair l1)]) (v := .ref 1) (news := [.row 1 33 2 (List.map en_api_TrainPair r3)]) rfl rfl rfl Try.call13 (atJ [] [(0, 1)] (fc_law01_pairs h3) rfl rfl) (.inl (roAll rfl))) rfl trivial rfl rfl ?_
    refine op0 (sp_assign rfl rfl) rfl trivial rfl rfl ?_
    refine TL.nil ?_
    refine TC.seq ?_
    refine TC.region ?_
    refine op0 (sp_move rfl rfl) rfl trivial rfl rfl ?_
    obtain ⟨r4, h4, h⟩ := bind_inv h
    refine op1 0 rfl (sp_call (avs := [.ref 1]) (need := [.row 1 33 2 (List.map en_api_TrainPair r3)]) (v := .tup [.agg [.val (.int .i64 r4.1), .val (.int .i64 r4.2.1)], .val (.bool r4.2.2.1), .val (.int .i64 r4.2.2.2)]) (news := []) rfl rfl rfl Try.call14 (atJ [(0, 1)] [] (fc_train_Turns h4) rfl rfl) (.inr (fun x hx => nomatch hx))) rfl trivial rfl rfl ?_
    refine op0 (sp_move rfl rfl) rfl trivial rfl rfl ?_
    refine op0 (sp_extract rfl rfl rfl) rfl trivial rfl rfl ?_
    refine op0 (sp_extract rfl rfl rfl) rfl trivial rfl rfl ?_
    refine op0 (sp_extract rfl rfl rfl) rfl trivial rfl rfl ?_
    refine op0 (sp_alloc 2 rfl Try.zeroValue26 rfl) rfl trivial rfl rfl ?_
    refine stoB 0 (cells' := [.val (.int .i64 r4.1), .val (.int .i64 r4.2.1)]) rfl rfl trivial rfl rfl rfl rfl vt26 rfl rfl rfl ?_
    refine op0 (sp_assign rfl rfl) rfl trivial rfl rfl ?_
    refine op0 (sp_assign rfl rfl) rfl trivial rfl rfl ?_
    refine TL.nil ?_
    refine TC.seq ?_
    refine TC.region ?_
    refine op0 (sp_move rfl rfl) rfl trivial rfl rfl ?_
    obtain ⟨r5, h5, h⟩ := bind_inv h
    refine op1 1 rfl (sp_call (avs := [.ref 1]) (need := [.row 1 33 2 (List.map en_api_TrainPair r3)]) (v := .tup [.val (.int .i64 r5.1), .val (.int .i64 r5.2)]) (news := []) rfl rfl rfl Try.call15 (atJ [(0, 1)] [] (fc_train_Cycle h5) rfl rfl) (.inr (fun x hx => nomatch hx))) rfl trivial rfl rfl ?_
    refine op0 (sp_move rfl rfl) rfl trivial rfl rfl ?_
    refine op0 (sp_extract rfl rfl rfl) rfl trivial rfl rfl ?_
    refine op0 (sp_extract rfl rfl rfl) rfl trivial rfl rfl ?_
    refine op0 (sp_assign rfl rfl) rfl trivial rfl rfl ?_
    refine op0 (sp_assign rfl rfl) rfl trivial rfl rfl ?_
    refine TL.nil ?_
    refine TC.seq ?_
    refine TC.seq ?_
    refine TC.region ?_
    refine op0 (sp_assign rfl rfl) rfl trivial rfl rfl ?_
    refine TL.nil ?_
    refine TC.block ?_
    refine TC.loop ?_
    refine TC.seq ?_
    refine TC.seq ?_
    refine subJ [] (ok_law01_TrainTurns_l0 _ _ h) ?_ ?_ ?_
    · exact ⟨rfl, rfl, rfl, rfl, rfl, rfl, rfl, rfl, trivial⟩
    · exact ⟨mem_at 2 rfl, mem_at 1 rfl, mem_at 0 rfl, trivial⟩
    · rfl
end
end Go.Proofs.Ytabjhlfgcmmbfaa.Sy
