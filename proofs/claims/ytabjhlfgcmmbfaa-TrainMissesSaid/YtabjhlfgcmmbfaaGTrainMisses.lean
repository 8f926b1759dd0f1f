/- What functions of the program compute, and that they do: printed by symgen.py. -/
import Derived.Test.YtabjhlfgcmmbfaaGLib
import Derived.Test.YtabjhlfgcmmbfaaGturretlaw01
import Derived.Test.YtabjhlfgcmmbfaaGTrain
import Derived.Test.YtabjhlfgcmmbfaaGTurretref01
set_option linter.unusedSimpArgs false
set_option linter.unusedVariables false
namespace Go.Proofs.Ytabjhlfgcmmbfaa.Sy
open Go.RowKit
noncomputable section

/- law01_TrainMisses -/
def ev_law01_TrainMisses_l2 (n : Nat) (r9 : (List Int) × Int) : Nat → (List Int) → (List Int) → (List Int) → (List Int) → Option Bool
  | 0, _, _, _, _ => none
  | m + 1, l18, l19, l20, l21 => chk (in64 ((l20.length : Int) + (l21.length : Int))) <| cond (decide ((0 : Int) < ((l20.length : Int) + (l21.length : Int)))) (cond ((l21.length : Int) == 0) (idx l20 0 fun x22 => chk (room 8 (l19.length + ([x22] : List Int).length)) <| chk (decide (0 ≤ (1 : Int)) && (decide ((1 : Int) ≤ (l20.length : Int)) && decide ((l20.length : Int) ≤ (l20.length : Int)))) <| ev_law01_TrainMisses_l2 n r9 m l18 (l19 ++ ([x22] : List Int)) (List.drop (1 : Int).toNat (List.take ((l20.length : Int) : Int).toNat l20)) l21) (cond (decide ((0 : Int) < (l20.length : Int))) (idx l20 0 fun x23 => idx l21 0 fun x24 => cond (decide (x23 < x24)) (chk (room 8 (l19.length + ([x23] : List Int).length)) <| chk (decide (0 ≤ (1 : Int)) && (decide ((1 : Int) ≤ (l20.length : Int)) && decide ((l20.length : Int) ≤ (l20.length : Int)))) <| ev_law01_TrainMisses_l2 n r9 m l18 (l19 ++ ([x23] : List Int)) (List.drop (1 : Int).toNat (List.take ((l20.length : Int) : Int).toNat l20)) l21) (chk (room 8 (l19.length + ([x24] : List Int).length)) <| chk (decide (0 ≤ (1 : Int)) && (decide ((1 : Int) ≤ (l21.length : Int)) && decide ((l21.length : Int) ≤ (l21.length : Int)))) <| ev_law01_TrainMisses_l2 n r9 m l18 (l19 ++ ([x24] : List Int)) l20 (List.drop (1 : Int).toNat (List.take ((l21.length : Int) : Int).toNat l21)))) (idx l21 0 fun x25 => chk (room 8 (l19.length + ([x25] : List Int).length)) <| chk (decide (0 ≤ (1 : Int)) && (decide ((1 : Int) ≤ (l21.length : Int)) && decide ((l21.length : Int) ≤ (l21.length : Int)))) <| ev_law01_TrainMisses_l2 n r9 m l18 (l19 ++ ([x25] : List Int)) l20 (List.drop (1 : Int).toNat (List.take ((l21.length : Int) : Int).toNat l21))))) (cond (r9.2 == 0) ((ev_ref01_Same n l18 l19).bind fun r26 => cond r26 ((ev_law01_known n).bind fun r27 => some r27) (some false)) (some false))
set_option maxRecDepth 100000 in
set_option maxHeartbeats 2000000 in
theorem ok_law01_TrainMisses_l2 {n : Nat} {w0 : World} {R0 : Nat → Prop} {env0 : Env} {r : Bool} {r9 : (List Int) × Int} : ∀ (m : Nat) (l18 : List Int) (l19 : List Int) (l20 : List Int) (l21 : List Int), ev_law01_TrainMisses_l2 n r9 m l18 l19 l20 l21 = some r → TC Try.prog ⟨w0, fun _ => False, R0⟩ 135 (bodyPost Try.prog Try.f4 (Post ⟨w0, fun _ => False, R0⟩ env0 (.val (.bool r)) [])) [.code (sub (bodyOf Try.f4) [1, 1, 1, 1, 1, 1, 1, 1, 1, 1, 0, 0, 0, 0, 0]), .code (sub (bodyOf Try.f4) [1, 1, 1, 1, 1, 1, 1, 1, 1, 1, 0, 0, 0, 0, 1]), .code (sub (bodyOf Try.f4) [1, 1, 1, 1, 1, 1, 1, 1, 1, 1, 0, 0, 0, 1]), .inLoop (sub (bodyOf Try.f4) [1, 1, 1, 1, 1, 1, 1, 1, 1, 1, 0, 0, 0]), .inBlock 0, .code (sub (bodyOf Try.f4) [1, 1, 1, 1, 1, 1, 1, 1, 1, 1, 1])] ([(7, .ref 7), (8, .val (.int .i64 r9.2)), (10, .ref 8), (11, .ref 10), (12, .ref 11)]) ([.row 7 3 1 (List.map en_int l18), .row 8 3 1 (List.map en_int l19), .ro 10 1 (List.map en_int l20), .ro 11 1 (List.map en_int l21)]) := by
  intro m
  induction m with
  | zero => intro l18 l19 l20 l21 h; exact none_no h
  | succ m ih =>
    intro l18 l19 l20 l21 h
    rw [ev_law01_TrainMisses_l2] at h
    refine TC.region ?_
    refine op0 (sp_move rfl rfl) rfl trivial rfl rfl ?_
    refine op1 2 rfl (sp_lenM (N := l20.length) (len_map _ _) rfl rfl isRo Try.underlying38) rfl trivial rfl rfl ?_
    refine op0 (sp_move rfl rfl) rfl trivial rfl rfl ?_
    refine op1 3 rfl (sp_lenM (N := l21.length) (len_map _ _) rfl rfl isRo Try.underlying38) rfl trivial rfl rfl ?_
    obtain ⟨h24, h⟩ := chk_inv h
    refine op0 (sp_add rfl rfl rfl h24) rfl trivial rfl rfl ?_
    refine op0 (sp_gtr rfl rfl rfl) rfl trivial rfl rfl ?_
    refine TL.nil ?_
    refine TC.cond (b := (decide ((0 : Int) < ((l20.length : Int) + (l21.length : Int))))) rfl (fun h25 => ?_) (fun h25 => ?_)
    · have h := cond_t h h25
      refine TC.skip ?_
      refine TC.block ?_
      refine TC.seq ?_
      rcases cond_cases h with ⟨h26, h⟩ | ⟨h26, h⟩
      · refine drawJ 14 [⟨.ref 11, [], [], []⟩, ⟨.val (.int .i64 (l21.length : Int)), [], [.ro 11 1 (List.map en_int l21)], []⟩, ⟨.val (.bool ((l21.length : Int) == 0)), [], [], []⟩, ⟨.val (.bool true), [], [], []⟩, ⟨.val (undef), [], [], []⟩, ⟨.val (undef), [], [], []⟩, ⟨.val (undef), [], [], []⟩, ⟨.val (undef), [], [], []⟩, ⟨.val (undef), [], [], []⟩, ⟨.val (undef), [], [], []⟩, ⟨.val (undef), [], [], []⟩, ⟨.val (undef), [], [], []⟩, ⟨.val (undef), [], [], []⟩, ⟨.val (undef), [], [], []⟩] rfl ?_ rfl ?_ rfl ?_ ?_
        · kernel_rfl
        · kernel_rfl
        · exact DAll.op' (sp_move rfl rfl) trivial rfl (From.ok (ps := []) trivial) (DAll.op' (sp_lenM (N := l21.length) (len_map _ _) rfl rfl isRo Try.underlying38) trivial rfl (From.ok (ps := [(none, 3)]) ⟨⟨rfl, rfl⟩, trivial⟩) (DAll.op' (sp_eql rfl rfl rfl) trivial rfl (From.ok (ps := []) trivial) (DAll.op' (sp_castB h26 (sp_move rfl rfl)) trivial rfl (From.ok (ps := []) trivial) (.skip ⟨_, rfl, .inl rfl⟩ rfl rfl rfl (.skip ⟨_, rfl, .inl rfl⟩ rfl rfl rfl (.skip ⟨_, rfl, .inl rfl⟩ rfl rfl rfl (.skip ⟨_, rfl, .inl rfl⟩ rfl rfl rfl (.skip ⟨_, rfl, .inr rfl⟩ rfl rfl rfl (.skip ⟨_, rfl, .inr rfl⟩ rfl rfl rfl (.skip ⟨_, rfl, .inr rfl⟩ rfl rfl rfl (.skip ⟨_, rfl, .inr rfl⟩ rfl rfl rfl (.skip ⟨_, rfl, .inr rfl⟩ rfl rfl rfl (.skip ⟨_, rfl, .inr rfl⟩ rfl rfl rfl (.nil))))))))))))))
        refine opSkip rfl ⟨_, rfl, .inr rfl⟩ rfl ?_
        refine opSkip rfl ⟨_, rfl, .inl rfl⟩ rfl ?_
        refine op0 (sp_pickT rfl rfl rfl) rfl trivial rfl rfl ?_
        refine TL.nil ?_
        refine TC.condT rfl ?_
        obtain ⟨x22, h27, h28, h⟩ := idx_inv h
        obtain ⟨h29, h⟩ := chk_inv h
        obtain ⟨h30, h⟩ := chk_inv h
        refine drawJ 9 [⟨.ref 8, [], [], []⟩, ⟨.ref 10, [], [], []⟩, ⟨.cell 10 ((0 : Int).toNat * 1), [], [.ro 10 1 (List.map en_int l20)], []⟩, ⟨.val (.int .i64 x22), [], [.ro 10 1 (List.map en_int l20)], []⟩, ⟨.ref 12, [.row 12 3 1 (List.map en_int ([x22] : List Int))], [], []⟩, ⟨.ref 13, [.row 13 3 1 (List.map en_int (l19 ++ ([x22] : List Int)))], [.row 12 3 1 (List.map en_int ([x22] : List Int))], [.row 8 3 1 (List.map en_int l19)]⟩, ⟨.ref 10, [], [], []⟩, ⟨.ref 14, [.ro 14 1 (List.map en_int (List.drop (1 : Int).toNat (List.take ((l20.length : Int) : Int).toNat l20)))], [.ro 10 1 (List.map en_int l20)], []⟩, ⟨.ref 13, [], [], []⟩] rfl ?_ rfl ?_ rfl ?_ ?_
        · kernel_rfl
        · kernel_rfl
        · exact DAll.op' (sp_move rfl rfl) trivial rfl (From.ok (ps := []) trivial) (DAll.op' (sp_move rfl rfl) trivial rfl (From.ok (ps := []) trivial) (DAll.op' (sp_indexS rfl rfl rfl isRo sl38 h27 (map_get _ h28)) trivial rfl (From.ok (ps := [(none, 2)]) ⟨⟨rfl, by kernel_rfl⟩, trivial⟩) (DAll.op' (sp_loadR (i := (0 : Int).toNat) (j := 0) rfl rfl isRo vt3 rfl (map_get _ h28) rfl (.v (.nil)) (nodup_of_B rfl)) trivial rfl (From.ok (ps := [(none, 2)]) ⟨⟨rfl, by kernel_rfl⟩, trivial⟩) (DAll.op' (sp_buildSlice (qs := [.val (.int .i64 x22)]) (need := []) (els := List.map en_int ([x22] : List Int)) 12 rfl sl38 (by decide) (by decide) rfl rfl rfl (.v (.nil)) (map_len fun _ => rfl) rfl rfl rfl) trivial rfl (From.ok (ps := []) trivial) (DAll.opT (ts_append (N := l19.length) (N2 := ([x22] : List Int).length) 13 rfl rfl rfl isOwn rfl sl38 (len_map _ _) (len_map _ _) h29 (map_app _ _ _) rfl) trivial (From.ok (ps := [(none, 1)]) ⟨⟨rfl, by kernel_rfl⟩, trivial⟩) (From.ok (ps := [(some 4, 0)]) ⟨⟨_, rfl, by kernel_rfl, rfl, by kernel_rfl⟩, trivial⟩) (DAll.op' (sp_move rfl rfl) trivial rfl (From.ok (ps := []) trivial) (DAll.op' (sp_sliceM (l := 1) (h := (l20.length : Int)) 14 (len_map _ _) rfl rfl sl38 (cut_some rfl) cut_none h30 (map_cut _ _ _ _)) trivial rfl (From.ok (ps := [(none, 2)]) ⟨⟨rfl, by kernel_rfl⟩, trivial⟩) (DAll.op' (sp_assign rfl rfl) trivial rfl (From.ok (ps := []) trivial) (.nil)))))))))
        refine op0 (sp_assign rfl rfl) rfl trivial rfl rfl ?_
        refine TL.nil ?_
        refine TC.inBlock ?_
        refine TC.inLoop ?_
        refine TC.seq ?_
        refine TC.seq ?_
        refine subJ [(8, 13), (10, 14)] (ih _ _ _ _ h) ?_ ?_ ?_
        · exact ⟨rfl, rfl, rfl, rfl, rfl, trivial⟩
        · exact ⟨mem_at 3 rfl, mem_at 1 rfl, mem_at 0 rfl, mem_at 5 rfl, trivial⟩
        · rfl
      · rcases cond_cases h with ⟨h31, h⟩ | ⟨h31, h⟩
        · obtain ⟨x23, h32, h33, h⟩ := idx_inv h
          obtain ⟨x24, h34, h35, h⟩ := idx_inv h
          refine drawJ 14 [⟨.ref 11, [], [], []⟩, ⟨.val (.int .i64 (l21.length : Int)), [], [.ro 11 1 (List.map en_int l21)], []⟩, ⟨.val (.bool ((l21.length : Int) == 0)), [], [], []⟩, ⟨.val (.bool false), [], [], []⟩, ⟨.ref 10, [], [], []⟩, ⟨.val (.int .i64 (l20.length : Int)), [], [.ro 10 1 (List.map en_int l20)], []⟩, ⟨.val (.bool (decide ((0 : Int) < (l20.length : Int)))), [], [], []⟩, ⟨.val (.bool true), [], [], []⟩, ⟨.ref 10, [], [], []⟩, ⟨.cell 10 ((0 : Int).toNat * 1), [], [.ro 10 1 (List.map en_int l20)], []⟩, ⟨.val (.int .i64 x23), [], [.ro 10 1 (List.map en_int l20)], []⟩, ⟨.ref 11, [], [], []⟩, ⟨.cell 11 ((0 : Int).toNat * 1), [], [.ro 11 1 (List.map en_int l21)], []⟩, ⟨.val (.int .i64 x24), [], [.ro 11 1 (List.map en_int l21)], []⟩] rfl ?_ rfl ?_ rfl ?_ ?_
          · kernel_rfl
          · kernel_rfl
          · exact DAll.op' (sp_move rfl rfl) trivial rfl (From.ok (ps := []) trivial) (DAll.op' (sp_lenM (N := l21.length) (len_map _ _) rfl rfl isRo Try.underlying38) trivial rfl (From.ok (ps := [(none, 3)]) ⟨⟨rfl, rfl⟩, trivial⟩) (DAll.op' (sp_eql rfl rfl rfl) trivial rfl (From.ok (ps := []) trivial) (DAll.op' (sp_castB h26 (sp_move rfl rfl)) trivial rfl (From.ok (ps := []) trivial) (DAll.op' (sp_move rfl rfl) ⟨_, rfl, rfl⟩ rfl (From.ok (ps := []) trivial) (DAll.op' (sp_lenM (N := l20.length) (len_map _ _) rfl rfl isRo Try.underlying38) ⟨_, rfl, rfl⟩ rfl (From.ok (ps := [(none, 2)]) ⟨⟨rfl, rfl⟩, trivial⟩) (DAll.op' (sp_gtr rfl rfl rfl) ⟨_, rfl, rfl⟩ rfl (From.ok (ps := []) trivial) (DAll.op' (sp_castB h31 (sp_move rfl rfl)) ⟨_, rfl, rfl⟩ rfl (From.ok (ps := []) trivial) (DAll.op' (sp_move rfl rfl) ⟨_, rfl, rfl⟩ rfl (From.ok (ps := []) trivial) (DAll.op' (sp_indexS rfl rfl rfl isRo sl38 h32 (map_get _ h33)) ⟨_, rfl, rfl⟩ rfl (From.ok (ps := [(none, 2)]) ⟨⟨rfl, rfl⟩, trivial⟩) (DAll.op' (sp_loadR (i := (0 : Int).toNat) (j := 0) rfl rfl isRo vt3 rfl (map_get _ h33) rfl (.v (.nil)) (nodup_of_B rfl)) ⟨_, rfl, rfl⟩ rfl (From.ok (ps := [(none, 2)]) ⟨⟨rfl, rfl⟩, trivial⟩) (DAll.op' (sp_move rfl rfl) ⟨_, rfl, rfl⟩ rfl (From.ok (ps := []) trivial) (DAll.op' (sp_indexS rfl rfl rfl isRo sl38 h34 (map_get _ h35)) ⟨_, rfl, rfl⟩ rfl (From.ok (ps := [(none, 3)]) ⟨⟨rfl, rfl⟩, trivial⟩) (DAll.op' (sp_loadR (i := (0 : Int).toNat) (j := 0) rfl rfl isRo vt3 rfl (map_get _ h35) rfl (.v (.nil)) (nodup_of_B rfl)) ⟨_, rfl, rfl⟩ rfl (From.ok (ps := [(none, 3)]) ⟨⟨rfl, rfl⟩, trivial⟩) (.nil))))))))))))))
          refine op0 (sp_lss rfl rfl rfl) rfl ⟨_, rfl, rfl⟩ rfl rfl ?_
          refine op0 (sp_pickT rfl rfl rfl) rfl ⟨_, rfl, rfl⟩ rfl rfl ?_
          refine op0 (sp_pickF rfl rfl rfl) rfl trivial rfl rfl ?_
          refine TL.nil ?_
          refine TC.cond (b := (decide (x23 < x24))) rfl (fun h36 => ?_) (fun h36 => ?_)
          · have h := cond_t h h36
            obtain ⟨h37, h⟩ := chk_inv h
            obtain ⟨h38, h⟩ := chk_inv h
            refine drawJ 9 [⟨.ref 8, [], [], []⟩, ⟨.ref 10, [], [], []⟩, ⟨.cell 10 ((0 : Int).toNat * 1), [], [.ro 10 1 (List.map en_int l20)], []⟩, ⟨.val (.int .i64 x23), [], [.ro 10 1 (List.map en_int l20)], []⟩, ⟨.ref 15, [.row 15 3 1 (List.map en_int ([x23] : List Int))], [], []⟩, ⟨.ref 16, [.row 16 3 1 (List.map en_int (l19 ++ ([x23] : List Int)))], [.row 15 3 1 (List.map en_int ([x23] : List Int))], [.row 8 3 1 (List.map en_int l19)]⟩, ⟨.ref 10, [], [], []⟩, ⟨.ref 17, [.ro 17 1 (List.map en_int (List.drop (1 : Int).toNat (List.take ((l20.length : Int) : Int).toNat l20)))], [.ro 10 1 (List.map en_int l20)], []⟩, ⟨.ref 16, [], [], []⟩] rfl ?_ rfl ?_ rfl ?_ ?_
            · kernel_rfl
            · kernel_rfl
            · exact DAll.op' (sp_move rfl rfl) trivial rfl (From.ok (ps := []) trivial) (DAll.op' (sp_move rfl rfl) trivial rfl (From.ok (ps := []) trivial) (DAll.op' (sp_indexS rfl rfl rfl isRo sl38 h32 (map_get _ h33)) trivial rfl (From.ok (ps := [(none, 2)]) ⟨⟨rfl, by kernel_rfl⟩, trivial⟩) (DAll.op' (sp_loadR (i := (0 : Int).toNat) (j := 0) rfl rfl isRo vt3 rfl (map_get _ h33) rfl (.v (.nil)) (nodup_of_B rfl)) trivial rfl (From.ok (ps := [(none, 2)]) ⟨⟨rfl, by kernel_rfl⟩, trivial⟩) (DAll.op' (sp_buildSlice (qs := [.val (.int .i64 x23)]) (need := []) (els := List.map en_int ([x23] : List Int)) 15 rfl sl38 (by decide) (by decide) rfl rfl rfl (.v (.nil)) (map_len fun _ => rfl) rfl rfl rfl) trivial rfl (From.ok (ps := []) trivial) (DAll.opT (ts_append (N := l19.length) (N2 := ([x23] : List Int).length) 16 rfl rfl rfl isOwn rfl sl38 (len_map _ _) (len_map _ _) h37 (map_app _ _ _) rfl) trivial (From.ok (ps := [(none, 1)]) ⟨⟨rfl, by kernel_rfl⟩, trivial⟩) (From.ok (ps := [(some 4, 0)]) ⟨⟨_, rfl, by kernel_rfl, rfl, by kernel_rfl⟩, trivial⟩) (DAll.op' (sp_move rfl rfl) trivial rfl (From.ok (ps := []) trivial) (DAll.op' (sp_sliceM (l := 1) (h := (l20.length : Int)) 17 (len_map _ _) rfl rfl sl38 (cut_some rfl) cut_none h38 (map_cut _ _ _ _)) trivial rfl (From.ok (ps := [(none, 2)]) ⟨⟨rfl, by kernel_rfl⟩, trivial⟩) (DAll.op' (sp_assign rfl rfl) trivial rfl (From.ok (ps := []) trivial) (.nil)))))))))
            refine op0 (sp_assign rfl rfl) rfl trivial rfl rfl ?_
            refine TL.nil ?_
            refine TC.inBlock ?_
            refine TC.inLoop ?_
            refine TC.seq ?_
            refine TC.seq ?_
            refine subJ [(8, 16), (10, 17)] (ih _ _ _ _ h) ?_ ?_ ?_
            · exact ⟨rfl, rfl, rfl, rfl, rfl, trivial⟩
            · exact ⟨mem_at 3 rfl, mem_at 1 rfl, mem_at 0 rfl, mem_at 5 rfl, trivial⟩
            · rfl
          · have h := cond_f h h36
            obtain ⟨h39, h⟩ := chk_inv h
            obtain ⟨h40, h⟩ := chk_inv h
            refine drawJ 9 [⟨.ref 8, [], [], []⟩, ⟨.ref 11, [], [], []⟩, ⟨.cell 11 ((0 : Int).toNat * 1), [], [.ro 11 1 (List.map en_int l21)], []⟩, ⟨.val (.int .i64 x24), [], [.ro 11 1 (List.map en_int l21)], []⟩, ⟨.ref 18, [.row 18 3 1 (List.map en_int ([x24] : List Int))], [], []⟩, ⟨.ref 19, [.row 19 3 1 (List.map en_int (l19 ++ ([x24] : List Int)))], [.row 18 3 1 (List.map en_int ([x24] : List Int))], [.row 8 3 1 (List.map en_int l19)]⟩, ⟨.ref 11, [], [], []⟩, ⟨.ref 20, [.ro 20 1 (List.map en_int (List.drop (1 : Int).toNat (List.take ((l21.length : Int) : Int).toNat l21)))], [.ro 11 1 (List.map en_int l21)], []⟩, ⟨.ref 19, [], [], []⟩] rfl ?_ rfl ?_ rfl ?_ ?_
            · kernel_rfl
            · kernel_rfl
            · exact DAll.op' (sp_move rfl rfl) trivial rfl (From.ok (ps := []) trivial) (DAll.op' (sp_move rfl rfl) trivial rfl (From.ok (ps := []) trivial) (DAll.op' (sp_indexS rfl rfl rfl isRo sl38 h34 (map_get _ h35)) trivial rfl (From.ok (ps := [(none, 3)]) ⟨⟨rfl, by kernel_rfl⟩, trivial⟩) (DAll.op' (sp_loadR (i := (0 : Int).toNat) (j := 0) rfl rfl isRo vt3 rfl (map_get _ h35) rfl (.v (.nil)) (nodup_of_B rfl)) trivial rfl (From.ok (ps := [(none, 3)]) ⟨⟨rfl, by kernel_rfl⟩, trivial⟩) (DAll.op' (sp_buildSlice (qs := [.val (.int .i64 x24)]) (need := []) (els := List.map en_int ([x24] : List Int)) 18 rfl sl38 (by decide) (by decide) rfl rfl rfl (.v (.nil)) (map_len fun _ => rfl) rfl rfl rfl) trivial rfl (From.ok (ps := []) trivial) (DAll.opT (ts_append (N := l19.length) (N2 := ([x24] : List Int).length) 19 rfl rfl rfl isOwn rfl sl38 (len_map _ _) (len_map _ _) h39 (map_app _ _ _) rfl) trivial (From.ok (ps := [(none, 1)]) ⟨⟨rfl, by kernel_rfl⟩, trivial⟩) (From.ok (ps := [(some 4, 0)]) ⟨⟨_, rfl, by kernel_rfl, rfl, by kernel_rfl⟩, trivial⟩) (DAll.op' (sp_move rfl rfl) trivial rfl (From.ok (ps := []) trivial) (DAll.op' (sp_sliceM (l := 1) (h := (l21.length : Int)) 20 (len_map _ _) rfl rfl sl38 (cut_some rfl) cut_none h40 (map_cut _ _ _ _)) trivial rfl (From.ok (ps := [(none, 3)]) ⟨⟨rfl, by kernel_rfl⟩, trivial⟩) (DAll.op' (sp_assign rfl rfl) trivial rfl (From.ok (ps := []) trivial) (.nil)))))))))
            refine op0 (sp_assign rfl rfl) rfl trivial rfl rfl ?_
            refine TL.nil ?_
            refine TC.inBlock ?_
            refine TC.inLoop ?_
            refine TC.seq ?_
            refine TC.seq ?_
            refine subJ [(8, 19), (11, 20)] (ih _ _ _ _ h) ?_ ?_ ?_
            · exact ⟨rfl, rfl, rfl, rfl, rfl, trivial⟩
            · exact ⟨mem_at 3 rfl, mem_at 1 rfl, mem_at 4 rfl, mem_at 0 rfl, trivial⟩
            · rfl
        · refine drawJ 14 [⟨.ref 11, [], [], []⟩, ⟨.val (.int .i64 (l21.length : Int)), [], [.ro 11 1 (List.map en_int l21)], []⟩, ⟨.val (.bool ((l21.length : Int) == 0)), [], [], []⟩, ⟨.val (.bool false), [], [], []⟩, ⟨.ref 10, [], [], []⟩, ⟨.val (.int .i64 (l20.length : Int)), [], [.ro 10 1 (List.map en_int l20)], []⟩, ⟨.val (.bool (decide ((0 : Int) < (l20.length : Int)))), [], [], []⟩, ⟨.val (.bool false), [], [], []⟩, ⟨.val (undef), [], [], []⟩, ⟨.val (undef), [], [], []⟩, ⟨.val (undef), [], [], []⟩, ⟨.val (undef), [], [], []⟩, ⟨.val (undef), [], [], []⟩, ⟨.val (undef), [], [], []⟩] rfl ?_ rfl ?_ rfl ?_ ?_
          · kernel_rfl
          · kernel_rfl
          · exact DAll.op' (sp_move rfl rfl) trivial rfl (From.ok (ps := []) trivial) (DAll.op' (sp_lenM (N := l21.length) (len_map _ _) rfl rfl isRo Try.underlying38) trivial rfl (From.ok (ps := [(none, 3)]) ⟨⟨rfl, rfl⟩, trivial⟩) (DAll.op' (sp_eql rfl rfl rfl) trivial rfl (From.ok (ps := []) trivial) (DAll.op' (sp_castB h26 (sp_move rfl rfl)) trivial rfl (From.ok (ps := []) trivial) (DAll.op' (sp_move rfl rfl) ⟨_, rfl, rfl⟩ rfl (From.ok (ps := []) trivial) (DAll.op' (sp_lenM (N := l20.length) (len_map _ _) rfl rfl isRo Try.underlying38) ⟨_, rfl, rfl⟩ rfl (From.ok (ps := [(none, 2)]) ⟨⟨rfl, rfl⟩, trivial⟩) (DAll.op' (sp_gtr rfl rfl rfl) ⟨_, rfl, rfl⟩ rfl (From.ok (ps := []) trivial) (DAll.op' (sp_castB h31 (sp_move rfl rfl)) ⟨_, rfl, rfl⟩ rfl (From.ok (ps := []) trivial) (.skip ⟨_, rfl, .inl rfl⟩ rfl rfl rfl (.skip ⟨_, rfl, .inl rfl⟩ rfl rfl rfl (.skip ⟨_, rfl, .inl rfl⟩ rfl rfl rfl (.skip ⟨_, rfl, .inl rfl⟩ rfl rfl rfl (.skip ⟨_, rfl, .inl rfl⟩ rfl rfl rfl (.skip ⟨_, rfl, .inl rfl⟩ rfl rfl rfl (.nil))))))))))))))
          refine opSkip rfl ⟨_, rfl, .inl rfl⟩ rfl ?_
          refine op0 (sp_pickF rfl rfl rfl) rfl ⟨_, rfl, rfl⟩ rfl rfl ?_
          refine op0 (sp_pickF rfl rfl rfl) rfl trivial rfl rfl ?_
          refine TL.nil ?_
          refine TC.condF rfl ?_
          obtain ⟨x25, h41, h42, h⟩ := idx_inv h
          obtain ⟨h43, h⟩ := chk_inv h
          obtain ⟨h44, h⟩ := chk_inv h
          refine drawJ 9 [⟨.ref 8, [], [], []⟩, ⟨.ref 11, [], [], []⟩, ⟨.cell 11 ((0 : Int).toNat * 1), [], [.ro 11 1 (List.map en_int l21)], []⟩, ⟨.val (.int .i64 x25), [], [.ro 11 1 (List.map en_int l21)], []⟩, ⟨.ref 21, [.row 21 3 1 (List.map en_int ([x25] : List Int))], [], []⟩, ⟨.ref 22, [.row 22 3 1 (List.map en_int (l19 ++ ([x25] : List Int)))], [.row 21 3 1 (List.map en_int ([x25] : List Int))], [.row 8 3 1 (List.map en_int l19)]⟩, ⟨.ref 11, [], [], []⟩, ⟨.ref 23, [.ro 23 1 (List.map en_int (List.drop (1 : Int).toNat (List.take ((l21.length : Int) : Int).toNat l21)))], [.ro 11 1 (List.map en_int l21)], []⟩, ⟨.ref 22, [], [], []⟩] rfl ?_ rfl ?_ rfl ?_ ?_
          · kernel_rfl
          · kernel_rfl
          · exact DAll.op' (sp_move rfl rfl) trivial rfl (From.ok (ps := []) trivial) (DAll.op' (sp_move rfl rfl) trivial rfl (From.ok (ps := []) trivial) (DAll.op' (sp_indexS rfl rfl rfl isRo sl38 h41 (map_get _ h42)) trivial rfl (From.ok (ps := [(none, 3)]) ⟨⟨rfl, by kernel_rfl⟩, trivial⟩) (DAll.op' (sp_loadR (i := (0 : Int).toNat) (j := 0) rfl rfl isRo vt3 rfl (map_get _ h42) rfl (.v (.nil)) (nodup_of_B rfl)) trivial rfl (From.ok (ps := [(none, 3)]) ⟨⟨rfl, by kernel_rfl⟩, trivial⟩) (DAll.op' (sp_buildSlice (qs := [.val (.int .i64 x25)]) (need := []) (els := List.map en_int ([x25] : List Int)) 21 rfl sl38 (by decide) (by decide) rfl rfl rfl (.v (.nil)) (map_len fun _ => rfl) rfl rfl rfl) trivial rfl (From.ok (ps := []) trivial) (DAll.opT (ts_append (N := l19.length) (N2 := ([x25] : List Int).length) 22 rfl rfl rfl isOwn rfl sl38 (len_map _ _) (len_map _ _) h43 (map_app _ _ _) rfl) trivial (From.ok (ps := [(none, 1)]) ⟨⟨rfl, by kernel_rfl⟩, trivial⟩) (From.ok (ps := [(some 4, 0)]) ⟨⟨_, rfl, by kernel_rfl, rfl, by kernel_rfl⟩, trivial⟩) (DAll.op' (sp_move rfl rfl) trivial rfl (From.ok (ps := []) trivial) (DAll.op' (sp_sliceM (l := 1) (h := (l21.length : Int)) 23 (len_map _ _) rfl rfl sl38 (cut_some rfl) cut_none h44 (map_cut _ _ _ _)) trivial rfl (From.ok (ps := [(none, 3)]) ⟨⟨rfl, by kernel_rfl⟩, trivial⟩) (DAll.op' (sp_assign rfl rfl) trivial rfl (From.ok (ps := []) trivial) (.nil)))))))))
          refine op0 (sp_assign rfl rfl) rfl trivial rfl rfl ?_
          refine TL.nil ?_
          refine TC.inBlock ?_
          refine TC.inLoop ?_
          refine TC.seq ?_
          refine TC.seq ?_
          refine subJ [(8, 22), (11, 23)] (ih _ _ _ _ h) ?_ ?_ ?_
          · exact ⟨rfl, rfl, rfl, rfl, rfl, trivial⟩
          · exact ⟨mem_at 3 rfl, mem_at 1 rfl, mem_at 4 rfl, mem_at 0 rfl, trivial⟩
          · rfl
    · have h := cond_f h h25
      refine TC.exit rfl ?_
      refine TC.seq ?_
      refine TC.region ?_
      refine op0 (sp_move rfl rfl) rfl trivial rfl rfl ?_
      refine op0 (sp_eql rfl rfl rfl) rfl trivial rfl rfl ?_
      refine op0 (sp_move rfl rfl) rfl trivial rfl rfl ?_
      rcases cond_cases h with ⟨h45, h⟩ | ⟨h45, h⟩
      · refine (boolLit 127 rfl h45).2 ?_
        refine op0 (sp_move rfl rfl) rfl ⟨_, rfl, rfl⟩ rfl rfl ?_
        refine op0 (sp_move rfl rfl) rfl ⟨_, rfl, rfl⟩ rfl rfl ?_
        obtain ⟨r26, h46, h⟩ := bind_inv h
        refine opN (need := [.row 7 3 1 (List.map en_int l18), .row 8 3 1 (List.map en_int l19)]) [0, 1] ⟨rfl, rfl, trivial⟩ (sp_call (avs := [.ref 7, .ref 8]) (need := [.row 7 3 1 (List.map en_int l18), .row 8 3 1 (List.map en_int l19)]) (v := .val (.bool r26)) (news := []) rfl rfl rfl Try.call27 (atJ [(0, 7), (1, 8)] [] (fc_ref01_Same h46) rfl rfl) (.inr (fun x hx => nomatch hx))) rfl ⟨_, rfl, rfl⟩ rfl rfl ?_
        refine op0 (sp_pickT rfl rfl rfl) rfl trivial rfl rfl ?_
        refine op0 (sp_move rfl rfl) rfl trivial rfl rfl ?_
        rcases cond_cases h with ⟨h47, h⟩ | ⟨h47, h⟩
        · refine (boolLit 132 rfl h47).2 ?_
          obtain ⟨r27, h48, h⟩ := bind_inv h
          refine op0 (sp_call (avs := []) (need := []) (v := .val (.bool r27)) (news := []) rfl rfl rfl Try.call12 (atJ [] [] (fc_law01_known h48) rfl rfl) (.inl (roAll rfl))) rfl ⟨_, rfl, rfl⟩ rfl rfl ?_
          refine op0 (sp_pickT rfl rfl rfl) rfl trivial rfl rfl ?_
          refine op0 (sp_assign rfl rfl) rfl trivial rfl rfl ?_
          refine TL.nil ?_
          cases h
          exact retJ [] (.tmp rfl .nil) rfl trivial rfl rfl
        · refine (boolLit 132 rfl h47).2 ?_
          refine opSkip rfl ⟨_, rfl, .inl rfl⟩ rfl ?_
          refine op0 (sp_pickF rfl rfl rfl) rfl trivial rfl rfl ?_
          refine op0 (sp_assign rfl rfl) rfl trivial rfl rfl ?_
          refine TL.nil ?_
          cases h
          exact retJ [] (.tmp rfl .nil) rfl trivial rfl rfl
      · refine (boolLit 127 rfl h45).2 ?_
        refine opSkip rfl ⟨_, rfl, .inl rfl⟩ rfl ?_
        refine opSkip rfl ⟨_, rfl, .inl rfl⟩ rfl ?_
        refine opSkip rfl ⟨_, rfl, .inl rfl⟩ rfl ?_
        refine op0 (sp_pickF rfl rfl rfl) rfl trivial rfl rfl ?_
        refine op0 (sp_move rfl rfl) rfl trivial rfl rfl ?_
        refine opSkip rfl ⟨_, rfl, .inl rfl⟩ rfl ?_
        refine op0 (sp_pickF rfl rfl rfl) rfl trivial rfl rfl ?_
        refine op0 (sp_assign rfl rfl) rfl trivial rfl rfl ?_
        refine TL.nil ?_
        cases h
        exact retJ [] (.tmp rfl .nil) rfl trivial rfl rfl
def ev_law01_TrainMisses_j1 (n : Nat) (r8 : Int) (r9 : (List Int) × Int) (want3 : Int) (want4 : Int) (s1 : List Int) (s2 : List Int) : Option Bool :=
  cond (r8 != 0) (cond (r9.2 == r8) (cond ((r9.1.length : Int) == 0) ((ev_law01_known n).bind fun r12 => some r12) (some false)) (some false)) ((ev_ref01_Wanted n want3 want4).bind fun r13 => cond (!r13) (cond (r9.2 == 2) (cond ((r9.1.length : Int) == 0) ((ev_law01_known n).bind fun r14 => some r14) (some false)) (some false)) ((ev_ref01_Lowest n want3 want4).bind fun r15 => (ev_ref01_Missing n r15.1 s1).bind fun r16 => (ev_ref01_Missing n r15.2 s2).bind fun r17 => ev_law01_TrainMisses_l2 n r9 n r9.1 ([] : List Int) r16 r17))
set_option maxRecDepth 100000 in
set_option maxHeartbeats 2000000 in
theorem ok_law01_TrainMisses_j1 {n : Nat} {w0 : World} {R0 : Nat → Prop} {env0 : Env} {r : Bool} {r8 : Int} {r9 : (List Int) × Int} {want3 : Int} {want4 : Int} {s1 : List Int} {s2 : List Int} (h : ev_law01_TrainMisses_j1 n r8 r9 want3 want4 s1 s2 = some r) : TC Try.prog ⟨w0, fun _ => False, R0⟩ 135 (bodyPost Try.prog Try.f4 (Post ⟨w0, fun _ => False, R0⟩ env0 (.val (.bool r)) [])) [.code (sub (bodyOf Try.f4) [1, 1, 1, 1, 1, 0, 1, 1]), .code (sub (bodyOf Try.f4) [1, 1, 1, 1, 1, 1])] ([(2, .ptr 2 0), (3, .ptr 3 0), (6, .val (.int .i64 r8)), (7, .ref 7), (8, .val (.int .i64 r9.2))]) ([.blk 2 [.ref 0, .ref 1] 40, .blk 3 [.val (.int .i64 want3), .val (.int .i64 want4)] 26, .row 7 3 1 (List.map en_int r9.1), .ro 0 1 (List.map en_int s1), .ro 1 1 (List.map en_int s2)]) := by
  rw [ev_law01_TrainMisses_j1] at h
  refine TC.skip ?_
  refine TC.seq ?_
  refine TC.seq ?_
  refine TC.region ?_
  refine op0 (sp_move rfl rfl) rfl trivial rfl rfl ?_
  refine op0 (sp_neq rfl rfl rfl) rfl trivial rfl rfl ?_
  refine TL.nil ?_
  refine TC.cond (b := (r8 != 0)) rfl (fun h12 => ?_) (fun h12 => ?_)
  · have h := cond_t h h12
    refine TC.seq ?_
    refine TC.region ?_
    refine op0 (sp_move rfl rfl) rfl trivial rfl rfl ?_
    refine op0 (sp_move rfl rfl) rfl trivial rfl rfl ?_
    refine op0 (sp_eql rfl rfl rfl) rfl trivial rfl rfl ?_
    refine op0 (sp_move rfl rfl) rfl trivial rfl rfl ?_
    rcases cond_cases h with ⟨h13, h⟩ | ⟨h13, h⟩
    · refine (boolLit 49 rfl h13).2 ?_
      refine op0 (sp_move rfl rfl) rfl ⟨_, rfl, rfl⟩ rfl rfl ?_
      refine op1 2 rfl (sp_lenM (N := r9.1.length) (len_map _ _) rfl rfl isOwn Try.underlying38) rfl ⟨_, rfl, rfl⟩ rfl rfl ?_
      refine op0 (sp_eql rfl rfl rfl) rfl ⟨_, rfl, rfl⟩ rfl rfl ?_
      refine op0 (sp_pickT rfl rfl rfl) rfl trivial rfl rfl ?_
      refine op0 (sp_move rfl rfl) rfl trivial rfl rfl ?_
      rcases cond_cases h with ⟨h14, h⟩ | ⟨h14, h⟩
      · refine (boolLit 54 rfl h14).2 ?_
        obtain ⟨r12, h15, h⟩ := bind_inv h
        refine op0 (sp_call (avs := []) (need := []) (v := .val (.bool r12)) (news := []) rfl rfl rfl Try.call12 (atJ [] [] (fc_law01_known h15) rfl rfl) (.inl (roAll rfl))) rfl ⟨_, rfl, rfl⟩ rfl rfl ?_
        refine op0 (sp_pickT rfl rfl rfl) rfl trivial rfl rfl ?_
        refine op0 (sp_assign rfl rfl) rfl trivial rfl rfl ?_
        refine TL.nil ?_
        cases h
        exact retJ [] (.tmp rfl .nil) rfl trivial rfl rfl
      · refine (boolLit 54 rfl h14).2 ?_
        refine opSkip rfl ⟨_, rfl, .inl rfl⟩ rfl ?_
        refine op0 (sp_pickF rfl rfl rfl) rfl trivial rfl rfl ?_
        refine op0 (sp_assign rfl rfl) rfl trivial rfl rfl ?_
        refine TL.nil ?_
        cases h
        exact retJ [] (.tmp rfl .nil) rfl trivial rfl rfl
    · refine (boolLit 49 rfl h13).2 ?_
      refine opSkip rfl ⟨_, rfl, .inl rfl⟩ rfl ?_
      refine opSkip rfl ⟨_, rfl, .inl rfl⟩ rfl ?_
      refine opSkip rfl ⟨_, rfl, .inl rfl⟩ rfl ?_
      refine op0 (sp_pickF rfl rfl rfl) rfl trivial rfl rfl ?_
      refine op0 (sp_move rfl rfl) rfl trivial rfl rfl ?_
      refine opSkip rfl ⟨_, rfl, .inl rfl⟩ rfl ?_
      refine op0 (sp_pickF rfl rfl rfl) rfl trivial rfl rfl ?_
      refine op0 (sp_assign rfl rfl) rfl trivial rfl rfl ?_
      refine TL.nil ?_
      cases h
      exact retJ [] (.tmp rfl .nil) rfl trivial rfl rfl
  · have h := cond_f h h12
    refine TC.skip ?_
    refine TC.seq ?_
    refine TC.seq ?_
    refine TC.region ?_
    refine op1 1 rfl (sp_loadBA rfl isBlk rfl vt26 rfl rfl) rfl trivial rfl rfl ?_
    obtain ⟨r13, h16, h⟩ := bind_inv h
    refine op0 (sp_call (avs := [.agg [.val (.int .i64 want3), .val (.int .i64 want4)]]) (need := []) (v := .val (.bool r13)) (news := []) rfl rfl rfl Try.call24 (atJ [] [] (fc_ref01_Wanted h16) rfl rfl) (.inl (roAll rfl))) rfl trivial rfl rfl ?_
    refine op0 (sp_not rfl rfl) rfl trivial rfl rfl ?_
    refine TL.nil ?_
    refine TC.cond (b := (!r13)) rfl (fun h17 => ?_) (fun h17 => ?_)
    · have h := cond_t h h17
      refine TC.seq ?_
      refine TC.region ?_
      refine op0 (sp_move rfl rfl) rfl trivial rfl rfl ?_
      refine op0 (sp_eql rfl rfl rfl) rfl trivial rfl rfl ?_
      refine op0 (sp_move rfl rfl) rfl trivial rfl rfl ?_
      rcases cond_cases h with ⟨h18, h⟩ | ⟨h18, h⟩
      · refine (boolLit 62 rfl h18).2 ?_
        refine op0 (sp_move rfl rfl) rfl ⟨_, rfl, rfl⟩ rfl rfl ?_
        refine op1 2 rfl (sp_lenM (N := r9.1.length) (len_map _ _) rfl rfl isOwn Try.underlying38) rfl ⟨_, rfl, rfl⟩ rfl rfl ?_
        refine op0 (sp_eql rfl rfl rfl) rfl ⟨_, rfl, rfl⟩ rfl rfl ?_
        refine op0 (sp_pickT rfl rfl rfl) rfl trivial rfl rfl ?_
        refine op0 (sp_move rfl rfl) rfl trivial rfl rfl ?_
        rcases cond_cases h with ⟨h19, h⟩ | ⟨h19, h⟩
        · refine (boolLit 67 rfl h19).2 ?_
          obtain ⟨r14, h20, h⟩ := bind_inv h
          refine op0 (sp_call (avs := []) (need := []) (v := .val (.bool r14)) (news := []) rfl rfl rfl Try.call12 (atJ [] [] (fc_law01_known h20) rfl rfl) (.inl (roAll rfl))) rfl ⟨_, rfl, rfl⟩ rfl rfl ?_
          refine op0 (sp_pickT rfl rfl rfl) rfl trivial rfl rfl ?_
          refine op0 (sp_assign rfl rfl) rfl trivial rfl rfl ?_
          refine TL.nil ?_
          cases h
          exact retJ [] (.tmp rfl .nil) rfl trivial rfl rfl
        · refine (boolLit 67 rfl h19).2 ?_
          refine opSkip rfl ⟨_, rfl, .inl rfl⟩ rfl ?_
          refine op0 (sp_pickF rfl rfl rfl) rfl trivial rfl rfl ?_
          refine op0 (sp_assign rfl rfl) rfl trivial rfl rfl ?_
          refine TL.nil ?_
          cases h
          exact retJ [] (.tmp rfl .nil) rfl trivial rfl rfl
      · refine (boolLit 62 rfl h18).2 ?_
        refine opSkip rfl ⟨_, rfl, .inl rfl⟩ rfl ?_
        refine opSkip rfl ⟨_, rfl, .inl rfl⟩ rfl ?_
        refine opSkip rfl ⟨_, rfl, .inl rfl⟩ rfl ?_
        refine op0 (sp_pickF rfl rfl rfl) rfl trivial rfl rfl ?_
        refine op0 (sp_move rfl rfl) rfl trivial rfl rfl ?_
        refine opSkip rfl ⟨_, rfl, .inl rfl⟩ rfl ?_
        refine op0 (sp_pickF rfl rfl rfl) rfl trivial rfl rfl ?_
        refine op0 (sp_assign rfl rfl) rfl trivial rfl rfl ?_
        refine TL.nil ?_
        cases h
        exact retJ [] (.tmp rfl .nil) rfl trivial rfl rfl
    · have h := cond_f h h17
      refine TC.skip ?_
      refine TC.seq ?_
      refine TC.region ?_
      refine op1 1 rfl (sp_fieldAddrB rfl isBlk rfl ft26_0 vt3 (by decide)) rfl trivial rfl rfl ?_
      refine op1 1 rfl (sp_loadB rfl isBlk rfl vt3 rfl) rfl trivial rfl rfl ?_
      refine op1 1 rfl (sp_fieldAddrB rfl isBlk rfl ft26_1 vt3 (by decide)) rfl trivial rfl rfl ?_
      refine op1 1 rfl (sp_loadB rfl isBlk rfl vt3 rfl) rfl trivial rfl rfl ?_
      obtain ⟨r15, h21, h⟩ := bind_inv h
      refine op0 (sp_call (avs := [.val (.int .i64 want3), .val (.int .i64 want4)]) (need := []) (v := .agg [.val (.int .i64 r15.1), .val (.int .i64 r15.2)]) (news := []) rfl rfl rfl Try.call25 (atJ [] [] (fc_ref01_Lowest h21) rfl rfl) (.inl (roAll rfl))) rfl trivial rfl rfl ?_
      refine op0 (sp_emptyM 8 (List.map en_int []) rfl rfl sl38) rfl trivial rfl rfl ?_
      refine op0 (sp_alloc 9 rfl Try.zeroValue26 rfl) rfl trivial rfl rfl ?_
      refine stoB 0 (cells' := [.val (.int .i64 r15.1), .val (.int .i64 r15.2)]) rfl rfl trivial rfl rfl rfl rfl vt26 rfl rfl rfl ?_
      refine op0 (sp_assign rfl rfl) rfl trivial rfl rfl ?_
      refine TL.nil ?_
      refine TC.seq ?_
      obtain ⟨r16, h22, h⟩ := bind_inv h
      refine drawJ 9 [⟨.ptr 9 0, [], [.blk 9 [.val (.int .i64 r15.1), .val (.int .i64 r15.2)] 26], []⟩, ⟨.val (.int .i64 r15.1), [], [.blk 9 [.val (.int .i64 r15.1), .val (.int .i64 r15.2)] 26], []⟩, ⟨.ptr 2 0, [], [.blk 2 [.ref 0, .ref 1] 40], []⟩, ⟨.ref 0, [], [.blk 2 [.ref 0, .ref 1] 40], []⟩, ⟨.ref 10, [.row 10 3 1 (List.map en_int r16)], [.ro 0 1 (List.map en_int s1)], []⟩, ⟨.ptr 9 1, [], [.blk 9 [.val (.int .i64 r15.1), .val (.int .i64 r15.2)] 26], []⟩, ⟨.val (.int .i64 r15.2), [], [.blk 9 [.val (.int .i64 r15.1), .val (.int .i64 r15.2)] 26], []⟩, ⟨.ptr 2 1, [], [.blk 2 [.ref 0, .ref 1] 40], []⟩, ⟨.ref 1, [], [.blk 2 [.ref 0, .ref 1] 40], []⟩] rfl ?_ rfl ?_ rfl ?_ ?_
      · kernel_rfl
      · kernel_rfl
      · exact DAll.op' (sp_fieldAddrB rfl isBlk rfl ft26_0 vt3 (by decide)) trivial rfl (From.ok (ps := [(none, 0)]) ⟨⟨rfl, rfl⟩, trivial⟩) (DAll.op' (sp_loadB rfl isBlk rfl vt3 rfl) trivial rfl (From.ok (ps := [(none, 0)]) ⟨⟨rfl, rfl⟩, trivial⟩) (DAll.op' (sp_fieldAddrB rfl isBlk rfl ft40_0 vt38 (by decide)) trivial rfl (From.ok (ps := [(none, 2)]) ⟨⟨rfl, rfl⟩, trivial⟩) (DAll.op' (sp_loadB rfl isBlk rfl vt38 rfl) trivial rfl (From.ok (ps := [(none, 2)]) ⟨⟨rfl, rfl⟩, trivial⟩) (DAll.op' (sp_call (avs := [.val (.int .i64 r15.1), .ref 0]) (need := [.ro 0 1 (List.map en_int s1)]) (v := .ref 10) (news := [.row 10 3 1 (List.map en_int r16)]) rfl rfl rfl Try.call26 (atJ [] [(0, 10)] (fc_ref01_Missing h22) rfl rfl) (.inl (roAll rfl))) trivial rfl (From.ok (ps := [(none, 5)]) ⟨⟨rfl, rfl⟩, trivial⟩) (DAll.op' (sp_fieldAddrB rfl isBlk rfl ft26_1 vt3 (by decide)) trivial rfl (From.ok (ps := [(none, 0)]) ⟨⟨rfl, rfl⟩, trivial⟩) (DAll.op' (sp_loadB rfl isBlk rfl vt3 rfl) trivial rfl (From.ok (ps := [(none, 0)]) ⟨⟨rfl, rfl⟩, trivial⟩) (DAll.op' (sp_fieldAddrB rfl isBlk rfl ft40_1 vt38 (by decide)) trivial rfl (From.ok (ps := [(none, 2)]) ⟨⟨rfl, rfl⟩, trivial⟩) (DAll.op' (sp_loadB rfl isBlk rfl vt38 rfl) trivial rfl (From.ok (ps := [(none, 2)]) ⟨⟨rfl, rfl⟩, trivial⟩) (.nil)))))))))
      obtain ⟨r17, h23, h⟩ := bind_inv h
      refine op1 7 rfl (sp_call (avs := [.val (.int .i64 r15.2), .ref 1]) (need := [.ro 1 1 (List.map en_int s2)]) (v := .ref 11) (news := [.row 11 3 1 (List.map en_int r17)]) rfl rfl rfl Try.call26 (atJ [(0, 1)] [(0, 11)] (fc_ref01_Missing h23) rfl rfl) (.inl (roAll rfl))) rfl trivial rfl rfl ?_
      refine op0 (sp_assign rfl rfl) rfl trivial rfl rfl ?_
      refine op0 (sp_assign rfl rfl) rfl trivial rfl rfl ?_
      refine TL.nil ?_
      refine TC.seq ?_
      refine TC.block ?_
      refine TC.loop ?_
      refine TC.seq ?_
      refine TC.seq ?_
      refine TC.freeze 1 rfl ?_
      refine TC.freeze 0 rfl ?_
      refine subJ [] (ok_law01_TrainMisses_l2 _ _ _ _ _ h) ?_ ?_ ?_
      · exact ⟨rfl, rfl, rfl, rfl, rfl, trivial⟩
      · exact ⟨mem_at 6 rfl, mem_at 3 rfl, mem_at 1 rfl, mem_at 0 rfl, trivial⟩
      · rfl
def ev_law01_TrainMisses_j0 (n : Nat) (s1 : List Int) (s2 : List Int) (want3 : Int) (want4 : Int) : Option Bool :=
  (ev_law01_copied n s1 s2).bind fun r7 => (ev_train_Check n r7.1 r7.2).bind fun r8 => (ev_train_Missing n r7.1 r7.2 want3 want4).bind fun r9 => (ev_law01_same n r7.1 r7.2 s1 s2).bind fun r10 => cond (!r10) (some false) ((ev_ref01_Check n s1 s2).bind fun r11 => cond (r8 != r11) (some false) (ev_law01_TrainMisses_j1 n r8 r9 want3 want4 s1 s2))
set_option maxRecDepth 100000 in
set_option maxHeartbeats 2000000 in
theorem ok_law01_TrainMisses_j0 {n : Nat} {w0 : World} {R0 : Nat → Prop} {env0 : Env} {r : Bool} {want3 : Int} {want4 : Int} {s1 : List Int} {s2 : List Int} (h : ev_law01_TrainMisses_j0 n s1 s2 want3 want4 = some r) : TC Try.prog ⟨w0, fun _ => False, R0⟩ 135 (bodyPost Try.prog Try.f4 (Post ⟨w0, fun _ => False, R0⟩ env0 (.val (.bool r)) [])) [.code (sub (bodyOf Try.f4) [1, 0, 1, 1]), .code (sub (bodyOf Try.f4) [1, 1])] ([(2, .ptr 2 0), (3, .ptr 3 0)]) ([.blk 2 [.ref 0, .ref 1] 40, .blk 3 [.val (.int .i64 want3), .val (.int .i64 want4)] 26, .ro 0 1 (List.map en_int s1), .ro 1 1 (List.map en_int s2)]) := by
  rw [ev_law01_TrainMisses_j0] at h
  refine TC.skip ?_
  refine TC.seq ?_
  refine TC.region ?_
  refine op1 0 rfl (sp_loadBA rfl isBlk rfl vt40 rfl rfl) rfl trivial rfl rfl ?_
  obtain ⟨r7, h5, h⟩ := bind_inv h
  refine opN (need := [.ro 0 1 (List.map en_int s1), .ro 1 1 (List.map en_int s2)]) [2, 3] ⟨rfl, rfl, trivial⟩ (sp_call (avs := [.agg [.ref 0, .ref 1]]) (need := [.ro 0 1 (List.map en_int s1), .ro 1 1 (List.map en_int s2)]) (v := .agg [.ref 4, .ref 5]) (news := [.row 4 3 1 (List.map en_int r7.1), .row 5 3 1 (List.map en_int r7.2)]) rfl rfl rfl Try.call19 (atJ [] [(0, 4), (1, 5)] (fc_law01_copied h5) rfl rfl) (.inl (roAll rfl))) rfl trivial rfl rfl ?_
  refine op0 (sp_alloc 6 rfl Try.zeroValue40 rfl) rfl trivial rfl rfl ?_
  refine stoB 0 (cells' := [.ref 4, .ref 5]) rfl rfl trivial rfl rfl rfl rfl vt40 rfl rfl rfl ?_
  refine TL.nil ?_
  refine TC.seq ?_
  refine TC.region ?_
  refine op1 0 rfl (sp_loadBA rfl isBlk rfl vt40 rfl rfl) rfl trivial rfl rfl ?_
  obtain ⟨r8, h6, h⟩ := bind_inv h
  refine opN (need := [.row 4 3 1 (List.map en_int r7.1), .row 5 3 1 (List.map en_int r7.2)]) [1, 2] ⟨rfl, rfl, trivial⟩ (sp_call (avs := [.agg [.ref 4, .ref 5]]) (need := [.row 4 3 1 (List.map en_int r7.1), .row 5 3 1 (List.map en_int r7.2)]) (v := .val (.int .i64 r8)) (news := []) rfl rfl rfl Try.call20 (atJ [(0, 4), (1, 5)] [] (fc_train_Check h6) rfl rfl) (.inr (fun x hx => nomatch hx))) rfl trivial rfl rfl ?_
  refine op0 (sp_assign rfl rfl) rfl trivial rfl rfl ?_
  refine TL.nil ?_
  refine TC.seq ?_
  refine TC.region ?_
  refine op1 0 rfl (sp_loadBA rfl isBlk rfl vt40 rfl rfl) rfl trivial rfl rfl ?_
  refine op1 4 rfl (sp_loadBA rfl isBlk rfl vt26 rfl rfl) rfl trivial rfl rfl ?_
  obtain ⟨r9, h7, h⟩ := bind_inv h
  refine opN (need := [.row 4 3 1 (List.map en_int r7.1), .row 5 3 1 (List.map en_int r7.2)]) [1, 2] ⟨rfl, rfl, trivial⟩ (sp_call (avs := [.agg [.ref 4, .ref 5], .agg [.val (.int .i64 want3), .val (.int .i64 want4)]]) (need := [.row 4 3 1 (List.map en_int r7.1), .row 5 3 1 (List.map en_int r7.2)]) (v := .tup [.ref 7, .val (.int .i64 r9.2)]) (news := [.row 7 3 1 (List.map en_int r9.1)]) rfl rfl rfl Try.call21 (atJ [(0, 4), (1, 5)] [(0, 7)] (fc_train_Missing h7) rfl rfl) (.inr (List.forall_mem_cons.2 ⟨indep_map en_int_flat, (by simp)⟩))) rfl trivial rfl rfl ?_
  refine op0 (sp_move rfl rfl) rfl trivial rfl rfl ?_
  refine op0 (sp_extract rfl rfl rfl) rfl trivial rfl rfl ?_
  refine op0 (sp_extract rfl rfl rfl) rfl trivial rfl rfl ?_
  refine op0 (sp_assign rfl rfl) rfl trivial rfl rfl ?_
  refine op0 (sp_assign rfl rfl) rfl trivial rfl rfl ?_
  refine TL.nil ?_
  refine TC.seq ?_
  refine TC.seq ?_
  refine TC.region ?_
  refine op1 1 rfl (sp_loadBA rfl isBlk rfl vt40 rfl rfl) rfl trivial rfl rfl ?_
  refine op1 4 rfl (sp_loadBA rfl isBlk rfl vt40 rfl rfl) rfl trivial rfl rfl ?_
  obtain ⟨r10, h8, h⟩ := bind_inv h
  refine opN (need := [.row 4 3 1 (List.map en_int r7.1), .row 5 3 1 (List.map en_int r7.2), .ro 0 1 (List.map en_int s1), .ro 1 1 (List.map en_int s2)]) [2, 3, 6, 7] ⟨rfl, rfl, rfl, rfl, trivial⟩ (sp_call (avs := [.agg [.ref 4, .ref 5], .agg [.ref 0, .ref 1]]) (need := [.row 4 3 1 (List.map en_int r7.1), .row 5 3 1 (List.map en_int r7.2), .ro 0 1 (List.map en_int s1), .ro 1 1 (List.map en_int s2)]) (v := .val (.bool r10)) (news := []) rfl rfl rfl Try.call22 (atJ [(0, 4), (1, 5), (2, 0), (3, 1)] [] (fc_law01_same h8) rfl rfl) (.inr (fun x hx => nomatch hx))) rfl trivial rfl rfl ?_
  refine op0 (sp_not rfl rfl) rfl trivial rfl rfl ?_
  refine op0 (sp_move rfl rfl) rfl trivial rfl rfl ?_
  rcases cond_cases h with ⟨h9, h⟩ | ⟨h9, h⟩
  · refine (boolLit 38 rfl h9).2 ?_
    refine opSkip rfl ⟨_, rfl, .inl rfl⟩ rfl ?_
    refine opSkip rfl ⟨_, rfl, .inl rfl⟩ rfl ?_
    refine opSkip rfl ⟨_, rfl, .inl rfl⟩ rfl ?_
    refine opSkip rfl ⟨_, rfl, .inl rfl⟩ rfl ?_
    refine op0 (sp_pickT rfl rfl rfl) rfl trivial rfl rfl ?_
    refine TL.nil ?_
    refine TC.condT rfl ?_
    refine TC.seq ?_
    refine TC.region ?_
    refine op0 (sp_assign rfl rfl) rfl trivial rfl rfl ?_
    refine TL.nil ?_
    cases h
    exact retJ [] (.tmp rfl .nil) rfl trivial rfl rfl
  · refine (boolLit 38 rfl h9).2 ?_
    refine op0 (sp_move rfl rfl) rfl ⟨_, rfl, rfl⟩ rfl rfl ?_
    refine op1 4 rfl (sp_loadBA rfl isBlk rfl vt40 rfl rfl) rfl ⟨_, rfl, rfl⟩ rfl rfl ?_
    obtain ⟨r11, h10, h⟩ := bind_inv h
    refine opN (need := [.ro 0 1 (List.map en_int s1), .ro 1 1 (List.map en_int s2)]) [6, 7] ⟨rfl, rfl, trivial⟩ (sp_call (avs := [.agg [.ref 0, .ref 1]]) (need := [.ro 0 1 (List.map en_int s1), .ro 1 1 (List.map en_int s2)]) (v := .val (.int .i64 r11)) (news := []) rfl rfl rfl Try.call23 (atJ [] [] (fc_ref01_Check h10) rfl rfl) (.inl (roAll rfl))) rfl ⟨_, rfl, rfl⟩ rfl rfl ?_
    refine op0 (sp_neq rfl rfl rfl) rfl ⟨_, rfl, rfl⟩ rfl rfl ?_
    refine op0 (sp_pickF rfl rfl rfl) rfl trivial rfl rfl ?_
    refine TL.nil ?_
    refine TC.cond (b := (r8 != r11)) rfl (fun h11 => ?_) (fun h11 => ?_)
    · have h := cond_t h h11
      refine TC.seq ?_
      refine TC.region ?_
      refine op0 (sp_assign rfl rfl) rfl trivial rfl rfl ?_
      refine TL.nil ?_
      cases h
      exact retJ [] (.tmp rfl .nil) rfl trivial rfl rfl
    · have h := cond_f h h11
      refine subJ [] (ok_law01_TrainMisses_j1 h) ?_ ?_ ?_
      · exact ⟨rfl, rfl, rfl, rfl, rfl, trivial⟩
      · exact ⟨mem_at 4 rfl, mem_at 5 rfl, mem_at 0 rfl, mem_at 6 rfl, mem_at 7 rfl, trivial⟩
      · rfl
def ev_law01_TrainMisses (n : Nat) (s1 : List Int) (s2 : List Int) (want3 : Int) (want4 : Int) : Option Bool :=
  cond (decide ((15 : Int) < (s1.length : Int))) ((ev_law01_known n).bind fun r5 => some r5) (cond (decide ((15 : Int) < (s2.length : Int))) ((ev_law01_known n).bind fun r6 => some r6) (ev_law01_TrainMisses_j0 n s1 s2 want3 want4))
set_option maxRecDepth 100000 in
set_option maxHeartbeats 2000000 in
theorem fc_law01_TrainMisses {n : Nat} {s1 : List Int} {s2 : List Int} {want3 : Int} {want4 : Int} {r : Bool} (h : ev_law01_TrainMisses n s1 s2 want3 want4 = some r) : FC Try.prog 4 [.agg [.ref 0, .ref 1], .agg [.val (.int .i64 want3), .val (.int .i64 want4)]] [.ro 0 1 (List.map en_int s1), .ro 1 1 (List.map en_int s2)] (.val (.bool r)) [] := by
  refine introJ (nz := 135) Try.func4 rfl rfl rfl (fun w0 R0 env0 => ?_)
  rw [ev_law01_TrainMisses] at h
  refine TC.seq ?_
  refine TC.region ?_
  refine op0 (sp_box 2 rfl rfl rfl rfl rfl) rfl trivial rfl rfl ?_
  refine op0 (sp_box 3 rfl rfl rfl rfl rfl) rfl trivial rfl rfl ?_
  refine op0 (sp_assign rfl rfl) rfl trivial rfl rfl ?_
  refine TL.nil ?_
  refine TC.seq ?_
  refine TC.seq ?_
  refine TC.region ?_
  refine op1 1 rfl (sp_fieldAddrB rfl isBlk rfl ft40_0 vt38 (by decide)) rfl trivial rfl rfl ?_
  refine op1 1 rfl (sp_loadB rfl isBlk rfl vt38 rfl) rfl trivial rfl rfl ?_
  refine op1 2 rfl (sp_lenM (N := s1.length) (len_map _ _) rfl rfl isRo Try.underlying38) rfl trivial rfl rfl ?_
  refine op0 (sp_gtr rfl rfl rfl) rfl trivial rfl rfl ?_
  refine op0 (sp_move rfl rfl) rfl trivial rfl rfl ?_
  rcases cond_cases h with ⟨h1, h⟩ | ⟨h1, h⟩
  · refine (boolLit 17 rfl h1).2 ?_
    refine opSkip rfl ⟨_, rfl, .inl rfl⟩ rfl ?_
    refine opSkip rfl ⟨_, rfl, .inl rfl⟩ rfl ?_
    refine opSkip rfl ⟨_, rfl, .inl rfl⟩ rfl ?_
    refine opSkip rfl ⟨_, rfl, .inl rfl⟩ rfl ?_
    refine op0 (sp_pickT rfl rfl rfl) rfl trivial rfl rfl ?_
    refine TL.nil ?_
    refine TC.condT rfl ?_
    refine TC.seq ?_
    refine TC.region ?_
    obtain ⟨r5, h2, h⟩ := bind_inv h
    refine op0 (sp_call (avs := []) (need := []) (v := .val (.bool r5)) (news := []) rfl rfl rfl Try.call12 (atJ [] [] (fc_law01_known h2) rfl rfl) (.inl (roAll rfl))) rfl trivial rfl rfl ?_
    refine op0 (sp_assign rfl rfl) rfl trivial rfl rfl ?_
    refine TL.nil ?_
    cases h
    exact retJ [] (.tmp rfl .nil) rfl trivial rfl rfl
  · refine (boolLit 17 rfl h1).2 ?_
    refine op1 1 rfl (sp_fieldAddrB rfl isBlk rfl ft40_1 vt38 (by decide)) rfl ⟨_, rfl, rfl⟩ rfl rfl ?_
    refine op1 1 rfl (sp_loadB rfl isBlk rfl vt38 rfl) rfl ⟨_, rfl, rfl⟩ rfl rfl ?_
    refine op1 3 rfl (sp_lenM (N := s2.length) (len_map _ _) rfl rfl isRo Try.underlying38) rfl ⟨_, rfl, rfl⟩ rfl rfl ?_
    refine op0 (sp_gtr rfl rfl rfl) rfl ⟨_, rfl, rfl⟩ rfl rfl ?_
    refine op0 (sp_pickF rfl rfl rfl) rfl trivial rfl rfl ?_
    refine TL.nil ?_
    refine TC.cond (b := (decide ((15 : Int) < (s2.length : Int)))) rfl (fun h3 => ?_) (fun h3 => ?_)
    · have h := cond_t h h3
      refine TC.seq ?_
      refine TC.region ?_
      obtain ⟨r6, h4, h⟩ := bind_inv h
      refine op0 (sp_call (avs := []) (need := []) (v := .val (.bool r6)) (news := []) rfl rfl rfl Try.call12 (atJ [] [] (fc_law01_known h4) rfl rfl) (.inl (roAll rfl))) rfl trivial rfl rfl ?_
      refine op0 (sp_assign rfl rfl) rfl trivial rfl rfl ?_
      refine TL.nil ?_
      cases h
      exact retJ [] (.tmp rfl .nil) rfl trivial rfl rfl
    · have h := cond_f h h3
      refine subJ [] (ok_law01_TrainMisses_j0 h) ?_ ?_ ?_
      · exact ⟨rfl, rfl, trivial⟩
      · exact ⟨mem_at 1 rfl, mem_at 0 rfl, mem_at 2 rfl, mem_at 3 rfl, trivial⟩
      · rfl
end
end Go.Proofs.Ytabjhlfgcmmbfaa.Sy
