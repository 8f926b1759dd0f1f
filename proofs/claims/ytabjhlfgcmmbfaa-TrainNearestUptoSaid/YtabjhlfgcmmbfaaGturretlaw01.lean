/- What functions of the program compute, and that they do: printed by symgen.py. -/
import Derived.Test.YtabjhlfgcmmbfaaGLib
import Derived.Test.YtabjhlfgcmmbfaaGTrain
import Derived.Test.YtabjhlfgcmmbfaaGTurretref01
set_option linter.unusedSimpArgs false
set_option linter.unusedVariables false
namespace Go.Proofs.Ytabjhlfgcmmbfaa.Sy
open Go.RowKit
noncomputable section

/- law01_made -/
def ev_law01_made_l3 (n : Nat) (l6 : List Int) (i9 : Int) (i4 : Int) (l5 : List Int) (l7 : List Bool) (k_law01_made_l0 : Int → (List Int) → (List Int) → (List Bool) → Option ((List Int))) : Nat → Int → Option ((List Int))
  | 0, _ => none
  | m + 1, i12 => cond (decide (i12 < (l6.length : Int))) (idx l6 i12 fun x13 => cond (decide (x13 < i9)) (chk (in64 (i12 + 1)) <| ev_law01_made_l3 n l6 i9 i4 l5 l7 k_law01_made_l0 m (i12 + 1)) (chk (decide (0 ≤ (i12 : Int)) && decide ((i12 : Int) ≤ (l6.length : Int))) <| chk (decide (0 ≤ (i12 : Int)) && (decide ((i12 : Int) ≤ (l6.length : Int)) && decide ((l6.length : Int) ≤ (l6.length : Int)))) <| chk (room 8 (([i9] : List Int).length + (List.drop (i12 : Int).toNat (List.take ((l6.length : Int) : Int).toNat l6)).length)) <| chk (room 8 ((List.take (i12 : Int).toNat l6).length + (([i9] : List Int) ++ (List.drop (i12 : Int).toNat (List.take ((l6.length : Int) : Int).toNat l6))).length)) <| chk (in64 (i4 + 1)) <| k_law01_made_l0 (i4 + 1) l5 ((List.take (i12 : Int).toNat l6) ++ (([i9] : List Int) ++ (List.drop (i12 : Int).toNat (List.take ((l6.length : Int) : Int).toNat l6)))) (List.set l7 ((i9 : Int).toNat) true))) (chk (decide (0 ≤ (i12 : Int)) && decide ((i12 : Int) ≤ (l6.length : Int))) <| chk (decide (0 ≤ (i12 : Int)) && (decide ((i12 : Int) ≤ (l6.length : Int)) && decide ((l6.length : Int) ≤ (l6.length : Int)))) <| chk (room 8 (([i9] : List Int).length + (List.drop (i12 : Int).toNat (List.take ((l6.length : Int) : Int).toNat l6)).length)) <| chk (room 8 ((List.take (i12 : Int).toNat l6).length + (([i9] : List Int) ++ (List.drop (i12 : Int).toNat (List.take ((l6.length : Int) : Int).toNat l6))).length)) <| chk (in64 (i4 + 1)) <| k_law01_made_l0 (i4 + 1) l5 ((List.take (i12 : Int).toNat l6) ++ (([i9] : List Int) ++ (List.drop (i12 : Int).toNat (List.take ((l6.length : Int) : Int).toNat l6)))) (List.set l7 ((i9 : Int).toNat) true))
set_option maxRecDepth 100000 in
set_option maxHeartbeats 2000000 in
theorem ok_law01_made_l3 {n : Nat} {w0 : World} {R0 : Nat → Prop} {env0 : Env} {r : (List Int)} {least2 : Int} {most3 : Int} {i9 : Int} {l6 : List Int} {i4 : Int} {l5 : List Int} {l7 : List Bool} {k_law01_made_l0 : Int → (List Int) → (List Int) → (List Bool) → Option ((List Int))} (hk_law01_made_l0 : ∀ (i4 : Int) (l5 : List Int) (l6 : List Int) (l7 : List Bool), k_law01_made_l0 i4 l5 l6 l7 = some r → TC Try.prog ⟨w0, fun _ => False, R0⟩ 73 (bodyPost Try.prog Try.f66 (Post ⟨w0, fun _ => False, R0⟩ env0 (.ref 0) [.row 0 3 1 (List.map en_int r)])) [.code (sub (bodyOf Try.f66) [1, 1, 0, 1, 0, 0, 0, 0]), .code (sub (bodyOf Try.f66) [1, 1, 0, 1, 0, 0, 0, 1]), .code (sub (bodyOf Try.f66) [1, 1, 0, 1, 0, 0, 1]), .inLoop (sub (bodyOf Try.f66) [1, 1, 0, 1, 0, 0]), .inBlock 0, .code (sub (bodyOf Try.f66) [1, 1, 1])] ([(0, .ref 0), (1, .val (.int .i64 least2)), (2, .val (.int .i64 most3)), (7, .ref 1), (8, .ptr 2 0), (9, .val (.int .i64 i4))]) ([.ro 0 1 (List.map en_uint8 l5), .row 1 3 1 (List.map en_int l6), .inv 2 (arrI 128 vx_bool l7)])) : ∀ (m : Nat) (i12 : Int), ev_law01_made_l3 n l6 i9 i4 l5 l7 k_law01_made_l0 m i12 = some r → TC Try.prog ⟨w0, fun _ => False, R0⟩ 73 (bodyPost Try.prog Try.f66 (Post ⟨w0, fun _ => False, R0⟩ env0 (.ref 0) [.row 0 3 1 (List.map en_int r)])) [.code (sub (bodyOf Try.f66) [1, 1, 0, 1, 0, 0, 1, 0, 0, 1, 1, 1, 0, 1, 1, 0, 0, 0, 0, 0]), .code (sub (bodyOf Try.f66) [1, 1, 0, 1, 0, 0, 1, 0, 0, 1, 1, 1, 0, 1, 1, 0, 0, 0, 0, 1]), .code (sub (bodyOf Try.f66) [1, 1, 0, 1, 0, 0, 1, 0, 0, 1, 1, 1, 0, 1, 1, 0, 0, 0, 1]), .inLoop (sub (bodyOf Try.f66) [1, 1, 0, 1, 0, 0, 1, 0, 0, 1, 1, 1, 0, 1, 1, 0, 0, 0]), .inBlock 2, .code (sub (bodyOf Try.f66) [1, 1, 0, 1, 0, 0, 1, 0, 0, 1, 1, 1, 0, 1, 1, 1]), .inBlock 1, .code (sub (bodyOf Try.f66) [1, 1, 0, 1, 0, 0, 1, 1]), .inLoop (sub (bodyOf Try.f66) [1, 1, 0, 1, 0, 0]), .inBlock 0, .code (sub (bodyOf Try.f66) [1, 1, 1])] ([(0, .ref 0), (1, .val (.int .i64 least2)), (2, .val (.int .i64 most3)), (7, .ref 1), (8, .ptr 2 0), (9, .val (.int .i64 i4)), (10, .val (.int .i64 i9)), (11, .val (.int .i64 i12))]) ([.ro 0 1 (List.map en_uint8 l5), .row 1 3 1 (List.map en_int l6), .inv 2 (arrI 128 vx_bool (List.set l7 ((i9 : Int).toNat) true))]) := by
  intro m
  induction m with
  | zero => intro i12 h; exact none_no h
  | succ m ih =>
    intro i12 h
    rw [ev_law01_made_l3] at h
    refine TC.region ?_
    refine op0 (sp_move rfl rfl) rfl trivial rfl rfl ?_
    refine op0 (sp_move rfl rfl) rfl trivial rfl rfl ?_
    refine op1 1 rfl (sp_lenM (N := l6.length) (len_map _ _) rfl rfl isOwn Try.underlying38) rfl trivial rfl rfl ?_
    refine op0 (sp_lss rfl rfl rfl) rfl trivial rfl rfl ?_
    refine op0 (sp_move rfl rfl) rfl trivial rfl rfl ?_
    rcases cond_cases h with ⟨h14, h⟩ | ⟨h14, h⟩
    · refine (boolLit 52 rfl h14).2 ?_
      refine op0 (sp_move rfl rfl) rfl ⟨_, rfl, rfl⟩ rfl rfl ?_
      refine op0 (sp_move rfl rfl) rfl ⟨_, rfl, rfl⟩ rfl rfl ?_
      obtain ⟨x13, h15, h16, h⟩ := idx_inv h
      refine op1 1 rfl (sp_indexS rfl rfl rfl isOwn sl38 h15 (map_get _ h16)) rfl ⟨_, rfl, rfl⟩ rfl rfl ?_
      refine op1 1 rfl (sp_loadR (i := (i12 : Int).toNat) (j := 0) rfl rfl isOwn vt3 rfl (map_get _ h16) rfl (.v (.nil)) (nodup_of_B rfl)) rfl ⟨_, rfl, rfl⟩ rfl rfl ?_
      refine op0 (sp_move rfl rfl) rfl ⟨_, rfl, rfl⟩ rfl rfl ?_
      refine op0 (sp_lss rfl rfl rfl) rfl ⟨_, rfl, rfl⟩ rfl rfl ?_
      refine op0 (sp_pickT rfl rfl rfl) rfl trivial rfl rfl ?_
      refine TL.nil ?_
      refine TC.cond (b := (decide (x13 < i9))) rfl (fun h17 => ?_) (fun h17 => ?_)
      · have h := cond_t h h17
        refine TC.skip ?_
        refine TC.block ?_
        refine TC.region ?_
        refine op0 (sp_move rfl rfl) rfl trivial rfl rfl ?_
        obtain ⟨h18, h⟩ := chk_inv h
        refine op0 (sp_add rfl rfl rfl h18) rfl trivial rfl rfl ?_
        refine op0 (sp_assign rfl rfl) rfl trivial rfl rfl ?_
        refine TL.nil ?_
        refine TC.inBlock ?_
        refine TC.inLoop ?_
        refine TC.seq ?_
        refine TC.seq ?_
        refine subJ [] (ih _ h) ?_ ?_ ?_
        · exact ⟨rfl, rfl, rfl, rfl, rfl, rfl, rfl, rfl, trivial⟩
        · exact ⟨mem_at 0 rfl, mem_at 1 rfl, mem_at 2 rfl, trivial⟩
        · rfl
      · have h := cond_f h h17
        refine TC.exit rfl ?_
        refine TC.pin 3 1 rfl rfl fun u14 => ?_
        obtain ⟨h19, h⟩ := chk_inv h
        obtain ⟨h20, h⟩ := chk_inv h
        obtain ⟨h21, h⟩ := chk_inv h
        refine drawJ 9 [⟨.ref 1, [], [], []⟩, ⟨.val (.int .i64 i12), [], [], []⟩, ⟨.val (cutV u14 (i12 : Int).toNat), [], [.row 1 3 1 (List.map en_int l6), .pin 3 1 u14], []⟩, ⟨.val (.int .i64 i9), [], [], []⟩, ⟨.ref 4, [.row 4 3 1 (List.map en_int ([i9] : List Int))], [], []⟩, ⟨.ref 1, [], [], []⟩, ⟨.val (.int .i64 i12), [], [], []⟩, ⟨.val (viewV u14 1 (i12 : Int).toNat ((l6.length : Int) : Int).toNat), [], [.row 1 3 1 (List.map en_int l6), .pin 3 1 u14], []⟩, ⟨.ref 5, [.row 5 3 1 (List.map en_int (([i9] : List Int) ++ (List.drop (i12 : Int).toNat (List.take ((l6.length : Int) : Int).toNat l6))))], [.row 1 3 1 (List.map en_int l6), .pin 3 1 u14], [.row 4 3 1 (List.map en_int ([i9] : List Int))]⟩] rfl ?_ rfl ?_ rfl ?_ ?_
        · kernel_rfl
        · kernel_rfl
        · exact DAll.op' (sp_move rfl rfl) trivial rfl (From.ok (ps := []) trivial) (DAll.op' (sp_move rfl rfl) trivial rfl (From.ok (ps := []) trivial) (DAll.op' (sp_cutPin (h := i12) (len_map _ _) rfl rfl sl38 (cut_some rfl) h19) trivial rfl (From.ok (ps := [(none, 2), (none, 0)]) ⟨⟨rfl, by kernel_rfl⟩, ⟨rfl, by kernel_rfl⟩, trivial⟩) (DAll.op' (sp_move rfl rfl) trivial rfl (From.ok (ps := []) trivial) (DAll.op' (sp_buildSlice (qs := [.val (.int .i64 i9)]) (need := []) (els := List.map en_int ([i9] : List Int)) 4 rfl sl38 (by decide) (by decide) rfl rfl rfl (.v (.nil)) (map_len fun _ => rfl) rfl rfl rfl) trivial rfl (From.ok (ps := []) trivial) (DAll.op' (sp_move rfl rfl) trivial rfl (From.ok (ps := []) trivial) (DAll.op' (sp_move rfl rfl) trivial rfl (From.ok (ps := []) trivial) (DAll.op' (sp_view (l := i12) (h := (l6.length : Int)) (len_map _ _) rfl rfl isOwn sl38 (cut_some rfl) cut_none h20) trivial rfl (From.ok (ps := [(none, 2), (none, 0)]) ⟨⟨rfl, by kernel_rfl⟩, ⟨rfl, by kernel_rfl⟩, trivial⟩) (DAll.opT (ts_appendG (N := ([i9] : List Int).length) (N2 := (List.drop (i12 : Int).toNat (List.take ((l6.length : Int) : Int).toNat l6)).length) (need := [.row 1 3 1 (List.map en_int l6), .pin 3 1 u14]) 5 rfl rfl rfl dst_ref (from_view 0 1 rfl rfl isOwn (view_ble (len_map _ _) h20) (map_cut _ _ _ _)) sl38 (len_map _ _) (len_map _ _) h21 (map_app _ _ _) rfl) trivial (From.ok (ps := [(some 4, 0)]) ⟨⟨_, rfl, by kernel_rfl, rfl, by kernel_rfl⟩, trivial⟩) (From.ok (ps := [(none, 2), (none, 0)]) ⟨⟨rfl, by kernel_rfl⟩, ⟨rfl, by kernel_rfl⟩, trivial⟩) (.nil)))))))))
        obtain ⟨h22, h⟩ := chk_inv h
        refine opT (take := [.row 1 3 1 (List.map en_int l6)]) (need := [.pin 3 1 u14, .row 5 3 1 (List.map en_int (([i9] : List Int) ++ (List.drop (i12 : Int).toNat (List.take ((l6.length : Int) : Int).toNat l6))))]) (V' := [.row 6 3 1 (List.map en_int ((List.take (i12 : Int).toNat l6) ++ (([i9] : List Int) ++ (List.drop (i12 : Int).toNat (List.take ((l6.length : Int) : Int).toNat l6))))), .row 5 3 1 (List.map en_int (([i9] : List Int) ++ (List.drop (i12 : Int).toNat (List.take ((l6.length : Int) : Int).toNat l6)))), .pin 3 1 u14, .ro 0 1 (List.map en_uint8 l5), .inv 2 (arrI 128 vx_bool (List.set l7 ((i9 : Int).toNat) true))]) [3] [1, 0] (ts_appendG (N := (List.take (i12 : Int).toNat l6).length) (N2 := (([i9] : List Int) ++ (List.drop (i12 : Int).toNat (List.take ((l6.length : Int) : Int).toNat l6))).length) (need := [.pin 3 1 u14, .row 5 3 1 (List.map en_int (([i9] : List Int) ++ (List.drop (i12 : Int).toNat (List.take ((l6.length : Int) : Int).toNat l6))))]) 6 rfl rfl rfl (dst_cut 0 rfl (cut_ble (len_map _ _) h19) (map_take _ _ _)) (from_ref 1 rfl isOwn) sl38 (len_map _ _) (len_map _ _) h22 (map_app _ _ _) rfl) trivial rfl ⟨rfl, trivial⟩ ⟨rfl, rfl, trivial⟩ rfl rfl ?_
        refine op0 (sp_assign rfl rfl) rfl trivial rfl rfl ?_
        refine TL.nil ?_
        refine TC.inBlock ?_
        refine TC.region ?_
        refine op0 (sp_move rfl rfl) rfl trivial rfl rfl ?_
        obtain ⟨h23, h⟩ := chk_inv h
        refine op0 (sp_add rfl rfl rfl h23) rfl trivial rfl rfl ?_
        refine op0 (sp_assign rfl rfl) rfl trivial rfl rfl ?_
        refine TL.nil ?_
        refine TC.inLoop ?_
        refine TC.seq ?_
        refine TC.seq ?_
        refine subJ [(1, 6)] (hk_law01_made_l0 _ _ _ _ h) ?_ ?_ ?_
        · exact ⟨rfl, rfl, rfl, rfl, rfl, rfl, trivial⟩
        · exact ⟨mem_at 3 rfl, mem_at 0 rfl, mem_at 4 rfl, trivial⟩
        · rfl
    · refine (boolLit 52 rfl h14).2 ?_
      refine opSkip rfl ⟨_, rfl, .inl rfl⟩ rfl ?_
      refine opSkip rfl ⟨_, rfl, .inl rfl⟩ rfl ?_
      refine opSkip rfl ⟨_, rfl, .inl rfl⟩ rfl ?_
      refine opSkip rfl ⟨_, rfl, .inl rfl⟩ rfl ?_
      refine opSkip rfl ⟨_, rfl, .inl rfl⟩ rfl ?_
      refine opSkip rfl ⟨_, rfl, .inl rfl⟩ rfl ?_
      refine op0 (sp_pickF rfl rfl rfl) rfl trivial rfl rfl ?_
      refine TL.nil ?_
      refine TC.condF rfl ?_
      refine TC.exit rfl ?_
      refine TC.pin 7 1 rfl rfl fun u15 => ?_
      obtain ⟨h24, h⟩ := chk_inv h
      obtain ⟨h25, h⟩ := chk_inv h
      obtain ⟨h26, h⟩ := chk_inv h
      refine drawJ 9 [⟨.ref 1, [], [], []⟩, ⟨.val (.int .i64 i12), [], [], []⟩, ⟨.val (cutV u15 (i12 : Int).toNat), [], [.row 1 3 1 (List.map en_int l6), .pin 7 1 u15], []⟩, ⟨.val (.int .i64 i9), [], [], []⟩, ⟨.ref 8, [.row 8 3 1 (List.map en_int ([i9] : List Int))], [], []⟩, ⟨.ref 1, [], [], []⟩, ⟨.val (.int .i64 i12), [], [], []⟩, ⟨.val (viewV u15 1 (i12 : Int).toNat ((l6.length : Int) : Int).toNat), [], [.row 1 3 1 (List.map en_int l6), .pin 7 1 u15], []⟩, ⟨.ref 9, [.row 9 3 1 (List.map en_int (([i9] : List Int) ++ (List.drop (i12 : Int).toNat (List.take ((l6.length : Int) : Int).toNat l6))))], [.row 1 3 1 (List.map en_int l6), .pin 7 1 u15], [.row 8 3 1 (List.map en_int ([i9] : List Int))]⟩] rfl ?_ rfl ?_ rfl ?_ ?_
      · kernel_rfl
      · kernel_rfl
      · exact DAll.op' (sp_move rfl rfl) trivial rfl (From.ok (ps := []) trivial) (DAll.op' (sp_move rfl rfl) trivial rfl (From.ok (ps := []) trivial) (DAll.op' (sp_cutPin (h := i12) (len_map _ _) rfl rfl sl38 (cut_some rfl) h24) trivial rfl (From.ok (ps := [(none, 2), (none, 0)]) ⟨⟨rfl, by kernel_rfl⟩, ⟨rfl, by kernel_rfl⟩, trivial⟩) (DAll.op' (sp_move rfl rfl) trivial rfl (From.ok (ps := []) trivial) (DAll.op' (sp_buildSlice (qs := [.val (.int .i64 i9)]) (need := []) (els := List.map en_int ([i9] : List Int)) 8 rfl sl38 (by decide) (by decide) rfl rfl rfl (.v (.nil)) (map_len fun _ => rfl) rfl rfl rfl) trivial rfl (From.ok (ps := []) trivial) (DAll.op' (sp_move rfl rfl) trivial rfl (From.ok (ps := []) trivial) (DAll.op' (sp_move rfl rfl) trivial rfl (From.ok (ps := []) trivial) (DAll.op' (sp_view (l := i12) (h := (l6.length : Int)) (len_map _ _) rfl rfl isOwn sl38 (cut_some rfl) cut_none h25) trivial rfl (From.ok (ps := [(none, 2), (none, 0)]) ⟨⟨rfl, by kernel_rfl⟩, ⟨rfl, by kernel_rfl⟩, trivial⟩) (DAll.opT (ts_appendG (N := ([i9] : List Int).length) (N2 := (List.drop (i12 : Int).toNat (List.take ((l6.length : Int) : Int).toNat l6)).length) (need := [.row 1 3 1 (List.map en_int l6), .pin 7 1 u15]) 9 rfl rfl rfl dst_ref (from_view 0 1 rfl rfl isOwn (view_ble (len_map _ _) h25) (map_cut _ _ _ _)) sl38 (len_map _ _) (len_map _ _) h26 (map_app _ _ _) rfl) trivial (From.ok (ps := [(some 4, 0)]) ⟨⟨_, rfl, by kernel_rfl, rfl, by kernel_rfl⟩, trivial⟩) (From.ok (ps := [(none, 2), (none, 0)]) ⟨⟨rfl, by kernel_rfl⟩, ⟨rfl, by kernel_rfl⟩, trivial⟩) (.nil)))))))))
      obtain ⟨h27, h⟩ := chk_inv h
      refine opT (take := [.row 1 3 1 (List.map en_int l6)]) (need := [.pin 7 1 u15, .row 9 3 1 (List.map en_int (([i9] : List Int) ++ (List.drop (i12 : Int).toNat (List.take ((l6.length : Int) : Int).toNat l6))))]) (V' := [.row 10 3 1 (List.map en_int ((List.take (i12 : Int).toNat l6) ++ (([i9] : List Int) ++ (List.drop (i12 : Int).toNat (List.take ((l6.length : Int) : Int).toNat l6))))), .row 9 3 1 (List.map en_int (([i9] : List Int) ++ (List.drop (i12 : Int).toNat (List.take ((l6.length : Int) : Int).toNat l6)))), .pin 7 1 u15, .ro 0 1 (List.map en_uint8 l5), .inv 2 (arrI 128 vx_bool (List.set l7 ((i9 : Int).toNat) true))]) [3] [1, 0] (ts_appendG (N := (List.take (i12 : Int).toNat l6).length) (N2 := (([i9] : List Int) ++ (List.drop (i12 : Int).toNat (List.take ((l6.length : Int) : Int).toNat l6))).length) (need := [.pin 7 1 u15, .row 9 3 1 (List.map en_int (([i9] : List Int) ++ (List.drop (i12 : Int).toNat (List.take ((l6.length : Int) : Int).toNat l6))))]) 10 rfl rfl rfl (dst_cut 0 rfl (cut_ble (len_map _ _) h24) (map_take _ _ _)) (from_ref 1 rfl isOwn) sl38 (len_map _ _) (len_map _ _) h27 (map_app _ _ _) rfl) trivial rfl ⟨rfl, trivial⟩ ⟨rfl, rfl, trivial⟩ rfl rfl ?_
      refine op0 (sp_assign rfl rfl) rfl trivial rfl rfl ?_
      refine TL.nil ?_
      refine TC.inBlock ?_
      refine TC.region ?_
      refine op0 (sp_move rfl rfl) rfl trivial rfl rfl ?_
      obtain ⟨h28, h⟩ := chk_inv h
      refine op0 (sp_add rfl rfl rfl h28) rfl trivial rfl rfl ?_
      refine op0 (sp_assign rfl rfl) rfl trivial rfl rfl ?_
      refine TL.nil ?_
      refine TC.inLoop ?_
      refine TC.seq ?_
      refine TC.seq ?_
      refine subJ [(1, 10)] (hk_law01_made_l0 _ _ _ _ h) ?_ ?_ ?_
      · exact ⟨rfl, rfl, rfl, rfl, rfl, rfl, trivial⟩
      · exact ⟨mem_at 3 rfl, mem_at 0 rfl, mem_at 4 rfl, trivial⟩
      · rfl
def ev_law01_made_j2 (n : Nat) (l7 : List Bool) (l6 : List Int) (i4 : Int) (l5 : List Int) (k_law01_made_l0 : Int → (List Int) → (List Int) → (List Bool) → Option ((List Int))) (i9 : Int) : Option ((List Int)) :=
  chk (decide (0 ≤ i9) && decide (i9 < 656)) <| idx l7 i9 fun x10 => cond (!x10) (chk (decide (0 ≤ i9) && decide (i9 < 656)) <| idx l7 i9 fun x11 => ev_law01_made_l3 n l6 i9 i4 l5 l7 k_law01_made_l0 n 0) (chk (in64 (i4 + 1)) <| k_law01_made_l0 (i4 + 1) l5 l6 l7)
set_option maxRecDepth 100000 in
set_option maxHeartbeats 2000000 in
theorem ok_law01_made_j2 {n : Nat} {w0 : World} {R0 : Nat → Prop} {env0 : Env} {r : (List Int)} {least2 : Int} {most3 : Int} {l7 : List Bool} {l6 : List Int} {i4 : Int} {l5 : List Int} {k_law01_made_l0 : Int → (List Int) → (List Int) → (List Bool) → Option ((List Int))} {i9 : Int} (hk_law01_made_l0 : ∀ (i4 : Int) (l5 : List Int) (l6 : List Int) (l7 : List Bool), k_law01_made_l0 i4 l5 l6 l7 = some r → TC Try.prog ⟨w0, fun _ => False, R0⟩ 73 (bodyPost Try.prog Try.f66 (Post ⟨w0, fun _ => False, R0⟩ env0 (.ref 0) [.row 0 3 1 (List.map en_int r)])) [.code (sub (bodyOf Try.f66) [1, 1, 0, 1, 0, 0, 0, 0]), .code (sub (bodyOf Try.f66) [1, 1, 0, 1, 0, 0, 0, 1]), .code (sub (bodyOf Try.f66) [1, 1, 0, 1, 0, 0, 1]), .inLoop (sub (bodyOf Try.f66) [1, 1, 0, 1, 0, 0]), .inBlock 0, .code (sub (bodyOf Try.f66) [1, 1, 1])] ([(0, .ref 0), (1, .val (.int .i64 least2)), (2, .val (.int .i64 most3)), (7, .ref 1), (8, .ptr 2 0), (9, .val (.int .i64 i4))]) ([.ro 0 1 (List.map en_uint8 l5), .row 1 3 1 (List.map en_int l6), .inv 2 (arrI 128 vx_bool l7)])) (h : ev_law01_made_j2 n l7 l6 i4 l5 k_law01_made_l0 i9 = some r) : TC Try.prog ⟨w0, fun _ => False, R0⟩ 73 (bodyPost Try.prog Try.f66 (Post ⟨w0, fun _ => False, R0⟩ env0 (.ref 0) [.row 0 3 1 (List.map en_int r)])) [.code (sub (bodyOf Try.f66) [1, 1, 0, 1, 0, 0, 1, 0, 0, 1, 1, 0]), .code (sub (bodyOf Try.f66) [1, 1, 0, 1, 0, 0, 1, 0, 0, 1, 1, 1]), .inBlock 1, .code (sub (bodyOf Try.f66) [1, 1, 0, 1, 0, 0, 1, 1]), .inLoop (sub (bodyOf Try.f66) [1, 1, 0, 1, 0, 0]), .inBlock 0, .code (sub (bodyOf Try.f66) [1, 1, 1])] ([(0, .ref 0), (1, .val (.int .i64 least2)), (2, .val (.int .i64 most3)), (7, .ref 1), (8, .ptr 2 0), (9, .val (.int .i64 i4)), (10, .val (.int .i64 i9))]) ([.ro 0 1 (List.map en_uint8 l5), .row 1 3 1 (List.map en_int l6), .inv 2 (arrI 128 vx_bool l7)]) := by
  rw [ev_law01_made_j2] at h
  refine TC.region ?_
  refine op0 (sp_move rfl rfl) rfl trivial rfl rfl ?_
  obtain ⟨h7, h⟩ := chk_inv h
  obtain ⟨x10, h8, h9, h⟩ := idx_inv h
  refine op1 2 rfl (sp_indexX (len := 656) rfl isArrO rfl rfl Try.underlying128 vt4 h7) rfl trivial rfl rfl ?_
  refine op1 2 rfl (sp_loadX (i := (i9 : Int).toNat) (j := 0) rfl isArrO rfl vt4 (fun _ => rfl) rfl h9 rfl) rfl trivial rfl rfl ?_
  refine op0 (sp_not rfl rfl) rfl trivial rfl rfl ?_
  refine TL.nil ?_
  refine TC.cond (b := (!x10)) rfl (fun h10 => ?_) (fun h10 => ?_)
  · have h := cond_t h h10
    refine TC.seq ?_
    refine TC.region ?_
    refine op0 (sp_move rfl rfl) rfl trivial rfl rfl ?_
    obtain ⟨h11, h⟩ := chk_inv h
    obtain ⟨x11, h12, h13, h⟩ := idx_inv h
    refine op1 2 rfl (sp_indexX (len := 656) rfl isArrO rfl rfl Try.underlying128 vt4 h11) rfl trivial rfl rfl ?_
    refine opT (take := [.inv 2 (arrI 128 vx_bool l7)]) (need := []) (V' := [.inv 2 (arrI 128 vx_bool (List.set l7 ((i9 : Int).toNat) true)), .ro 0 1 (List.map en_uint8 l5), .row 1 3 1 (List.map en_int l6)]) [2] [] (ts_storeX (i := (i9 : Int).toNat) (j := 0) (z' := true) (vs := [.bool true]) rfl rfl rfl rfl rfl vt4 rfl (fun _ => rfl) rfl h13 rfl rfl) trivial rfl ⟨rfl, trivial⟩ trivial rfl rfl ?_
    refine TL.nil ?_
    refine TC.seq ?_
    refine TC.region ?_
    refine op0 (sp_assign rfl rfl) rfl trivial rfl rfl ?_
    refine TL.nil ?_
    refine TC.seq ?_
    refine TC.block ?_
    refine TC.loop ?_
    refine TC.seq ?_
    refine TC.seq ?_
    refine subJ [] (ok_law01_made_l3 (least2 := least2) (most3 := most3) hk_law01_made_l0 _ _ h) ?_ ?_ ?_
    · exact ⟨rfl, rfl, rfl, rfl, rfl, rfl, rfl, rfl, trivial⟩
    · exact ⟨mem_at 1 rfl, mem_at 2 rfl, mem_at 0 rfl, trivial⟩
    · rfl
  · have h := cond_f h h10
    refine TC.skip ?_
    refine TC.inBlock ?_
    refine TC.region ?_
    refine op0 (sp_move rfl rfl) rfl trivial rfl rfl ?_
    obtain ⟨h29, h⟩ := chk_inv h
    refine op0 (sp_add rfl rfl rfl h29) rfl trivial rfl rfl ?_
    refine op0 (sp_assign rfl rfl) rfl trivial rfl rfl ?_
    refine TL.nil ?_
    refine TC.inLoop ?_
    refine TC.seq ?_
    refine TC.seq ?_
    refine subJ [] (hk_law01_made_l0 _ _ _ _ h) ?_ ?_ ?_
    · exact ⟨rfl, rfl, rfl, rfl, rfl, rfl, trivial⟩
    · exact ⟨mem_at 0 rfl, mem_at 1 rfl, mem_at 2 rfl, trivial⟩
    · rfl
def ev_law01_made_j1 (n : Nat) (i4 : Int) (l5 : List Int) (least2 : Int) (l7 : List Bool) (l6 : List Int) (k_law01_made_l0 : Int → (List Int) → (List Int) → (List Bool) → Option ((List Int))) : Option ((List Int)) :=
  cond (decide (i4 < (l5.length : Int))) (idx l5 i4 fun x8 => chk (in64 x8) <| chk (in64 (least2 + x8)) <| ev_law01_made_j2 n l7 l6 i4 l5 k_law01_made_l0 (least2 + x8)) (ev_law01_made_j2 n l7 l6 i4 l5 k_law01_made_l0 least2)
set_option maxRecDepth 100000 in
set_option maxHeartbeats 2000000 in
theorem ok_law01_made_j1 {n : Nat} {w0 : World} {R0 : Nat → Prop} {env0 : Env} {r : (List Int)} {least2 : Int} {most3 : Int} {i4 : Int} {l5 : List Int} {l7 : List Bool} {l6 : List Int} {k_law01_made_l0 : Int → (List Int) → (List Int) → (List Bool) → Option ((List Int))} (hk_law01_made_l0 : ∀ (i4 : Int) (l5 : List Int) (l6 : List Int) (l7 : List Bool), k_law01_made_l0 i4 l5 l6 l7 = some r → TC Try.prog ⟨w0, fun _ => False, R0⟩ 73 (bodyPost Try.prog Try.f66 (Post ⟨w0, fun _ => False, R0⟩ env0 (.ref 0) [.row 0 3 1 (List.map en_int r)])) [.code (sub (bodyOf Try.f66) [1, 1, 0, 1, 0, 0, 0, 0]), .code (sub (bodyOf Try.f66) [1, 1, 0, 1, 0, 0, 0, 1]), .code (sub (bodyOf Try.f66) [1, 1, 0, 1, 0, 0, 1]), .inLoop (sub (bodyOf Try.f66) [1, 1, 0, 1, 0, 0]), .inBlock 0, .code (sub (bodyOf Try.f66) [1, 1, 1])] ([(0, .ref 0), (1, .val (.int .i64 least2)), (2, .val (.int .i64 most3)), (7, .ref 1), (8, .ptr 2 0), (9, .val (.int .i64 i4))]) ([.ro 0 1 (List.map en_uint8 l5), .row 1 3 1 (List.map en_int l6), .inv 2 (arrI 128 vx_bool l7)])) (h : ev_law01_made_j1 n i4 l5 least2 l7 l6 k_law01_made_l0 = some r) : TC Try.prog ⟨w0, fun _ => False, R0⟩ 73 (bodyPost Try.prog Try.f66 (Post ⟨w0, fun _ => False, R0⟩ env0 (.ref 0) [.row 0 3 1 (List.map en_int r)])) [.code (sub (bodyOf Try.f66) [1, 1, 0, 1, 0, 0, 0, 1, 0]), .code (sub (bodyOf Try.f66) [1, 1, 0, 1, 0, 0, 1]), .inLoop (sub (bodyOf Try.f66) [1, 1, 0, 1, 0, 0]), .inBlock 0, .code (sub (bodyOf Try.f66) [1, 1, 1])] ([(0, .ref 0), (1, .val (.int .i64 least2)), (2, .val (.int .i64 most3)), (7, .ref 1), (8, .ptr 2 0), (9, .val (.int .i64 i4))]) ([.ro 0 1 (List.map en_uint8 l5), .row 1 3 1 (List.map en_int l6), .inv 2 (arrI 128 vx_bool l7)]) := by
  rw [ev_law01_made_j1] at h
  refine TC.skip ?_
  refine TC.seq ?_
  refine TC.block ?_
  refine TC.seq ?_
  refine TC.region ?_
  refine op0 (sp_move rfl rfl) rfl trivial rfl rfl ?_
  refine op0 (sp_assign rfl rfl) rfl trivial rfl rfl ?_
  refine TL.nil ?_
  refine TC.seq ?_
  refine TC.seq ?_
  refine TC.region ?_
  refine op0 (sp_move rfl rfl) rfl trivial rfl rfl ?_
  refine op0 (sp_move rfl rfl) rfl trivial rfl rfl ?_
  refine op1 0 rfl (sp_lenM (N := l5.length) (len_map _ _) rfl rfl isRo Try.underlying62) rfl trivial rfl rfl ?_
  refine op0 (sp_lss rfl rfl rfl) rfl trivial rfl rfl ?_
  refine TL.nil ?_
  refine TC.cond (b := (decide (i4 < (l5.length : Int)))) rfl (fun h2 => ?_) (fun h2 => ?_)
  · have h := cond_t h h2
    refine TC.region ?_
    refine op0 (sp_move rfl rfl) rfl trivial rfl rfl ?_
    refine op0 (sp_move rfl rfl) rfl trivial rfl rfl ?_
    refine op0 (sp_move rfl rfl) rfl trivial rfl rfl ?_
    obtain ⟨x8, h3, h4, h⟩ := idx_inv h
    refine op1 0 rfl (sp_indexS rfl rfl rfl isRo sl62 h3 (map_get _ h4)) rfl trivial rfl rfl ?_
    refine op1 0 rfl (sp_loadR (i := (i4 : Int).toNat) (j := 0) rfl rfl isRo vt5 rfl (map_get _ h4) rfl (.v (.nil)) (nodup_of_B rfl)) rfl trivial rfl rfl ?_
    obtain ⟨h5, h⟩ := chk_inv h
    refine op0 (sp_conv rfl Try.underlying5 Try.underlying3 rfl h5) rfl trivial rfl rfl ?_
    obtain ⟨h6, h⟩ := chk_inv h
    refine op0 (sp_add rfl rfl rfl h6) rfl trivial rfl rfl ?_
    refine op0 (sp_assign rfl rfl) rfl trivial rfl rfl ?_
    refine TL.nil ?_
    refine TC.seq ?_
    refine subJ [] (ok_law01_made_j2 (least2 := least2) (most3 := most3) hk_law01_made_l0 h) ?_ ?_ ?_
    · exact ⟨rfl, rfl, rfl, rfl, rfl, rfl, rfl, trivial⟩
    · exact ⟨mem_at 0 rfl, mem_at 1 rfl, mem_at 2 rfl, trivial⟩
    · rfl
  · have h := cond_f h h2
    refine TC.skip ?_
    refine TC.seq ?_
    refine subJ [] (ok_law01_made_j2 (least2 := least2) (most3 := most3) hk_law01_made_l0 h) ?_ ?_ ?_
    · exact ⟨rfl, rfl, rfl, rfl, rfl, rfl, rfl, trivial⟩
    · exact ⟨mem_at 0 rfl, mem_at 1 rfl, mem_at 2 rfl, trivial⟩
    · rfl
def ev_law01_made_l0 (n : Nat) (least2 : Int) (most3 : Int) : Nat → Int → (List Int) → (List Int) → (List Bool) → Option ((List Int))
  | 0, _, _, _, _ => none
  | m + 1, i4, l5, l6, l7 => cond (i4 == 0) (ev_law01_made_j1 n i4 l5 least2 l7 l6 (fun i4q l5q l6q l7q => ev_law01_made_l0 n least2 most3 m i4q l5q l6q l7q)) (cond (decide (i4 < (l5.length : Int))) (cond (decide ((l6.length : Int) < most3)) (ev_law01_made_j1 n i4 l5 least2 l7 l6 (fun i4q l5q l6q l7q => ev_law01_made_l0 n least2 most3 m i4q l5q l6q l7q)) (some l6)) (some l6))
set_option maxRecDepth 100000 in
set_option maxHeartbeats 2000000 in
theorem ok_law01_made_l0 {n : Nat} {w0 : World} {R0 : Nat → Prop} {env0 : Env} {r : (List Int)} {least2 : Int} {most3 : Int} : ∀ (m : Nat) (i4 : Int) (l5 : List Int) (l6 : List Int) (l7 : List Bool), ev_law01_made_l0 n least2 most3 m i4 l5 l6 l7 = some r → TC Try.prog ⟨w0, fun _ => False, R0⟩ 73 (bodyPost Try.prog Try.f66 (Post ⟨w0, fun _ => False, R0⟩ env0 (.ref 0) [.row 0 3 1 (List.map en_int r)])) [.code (sub (bodyOf Try.f66) [1, 1, 0, 1, 0, 0, 0, 0]), .code (sub (bodyOf Try.f66) [1, 1, 0, 1, 0, 0, 0, 1]), .code (sub (bodyOf Try.f66) [1, 1, 0, 1, 0, 0, 1]), .inLoop (sub (bodyOf Try.f66) [1, 1, 0, 1, 0, 0]), .inBlock 0, .code (sub (bodyOf Try.f66) [1, 1, 1])] ([(0, .ref 0), (1, .val (.int .i64 least2)), (2, .val (.int .i64 most3)), (7, .ref 1), (8, .ptr 2 0), (9, .val (.int .i64 i4))]) ([.ro 0 1 (List.map en_uint8 l5), .row 1 3 1 (List.map en_int l6), .inv 2 (arrI 128 vx_bool l7)]) := by
  intro m
  induction m with
  | zero => intro i4 l5 l6 l7 h; exact none_no h
  | succ m ih =>
    intro i4 l5 l6 l7 h
    rw [ev_law01_made_l0] at h
    refine TC.region ?_
    refine op0 (sp_move rfl rfl) rfl trivial rfl rfl ?_
    refine op0 (sp_eql rfl rfl rfl) rfl trivial rfl rfl ?_
    refine op0 (sp_move rfl rfl) rfl trivial rfl rfl ?_
    rcases cond_cases h with ⟨h1, h⟩ | ⟨h1, h⟩
    · refine (boolLit 16 rfl h1).2 ?_
      refine opSkip rfl ⟨_, rfl, .inl rfl⟩ rfl ?_
      refine opSkip rfl ⟨_, rfl, .inl rfl⟩ rfl ?_
      refine opSkip rfl ⟨_, rfl, .inl rfl⟩ rfl ?_
      refine opSkip rfl ⟨_, rfl, .inl rfl⟩ rfl ?_
      refine opSkip rfl ⟨_, rfl, .inl rfl⟩ rfl ?_
      refine opSkip rfl ⟨_, rfl, .inr rfl⟩ rfl ?_
      refine opSkip rfl ⟨_, rfl, .inr rfl⟩ rfl ?_
      refine opSkip rfl ⟨_, rfl, .inr rfl⟩ rfl ?_
      refine opSkip rfl ⟨_, rfl, .inr rfl⟩ rfl ?_
      refine opSkip rfl ⟨_, rfl, .inl rfl⟩ rfl ?_
      refine op0 (sp_pickT rfl rfl rfl) rfl trivial rfl rfl ?_
      refine TL.nil ?_
      refine TC.condT rfl ?_
      refine subJ [] (ok_law01_made_j1 (most3 := most3) ih h) ?_ ?_ ?_
      · exact ⟨rfl, rfl, rfl, rfl, rfl, rfl, trivial⟩
      · exact ⟨mem_at 0 rfl, mem_at 1 rfl, mem_at 2 rfl, trivial⟩
      · rfl
    · refine (boolLit 16 rfl h1).2 ?_
      refine op0 (sp_move rfl rfl) rfl ⟨_, rfl, rfl⟩ rfl rfl ?_
      refine op0 (sp_move rfl rfl) rfl ⟨_, rfl, rfl⟩ rfl rfl ?_
      refine op1 0 rfl (sp_lenM (N := l5.length) (len_map _ _) rfl rfl isRo Try.underlying62) rfl ⟨_, rfl, rfl⟩ rfl rfl ?_
      refine op0 (sp_lss rfl rfl rfl) rfl ⟨_, rfl, rfl⟩ rfl rfl ?_
      refine op0 (sp_move rfl rfl) rfl ⟨_, rfl, rfl⟩ rfl rfl ?_
      rcases cond_cases h with ⟨h30, h⟩ | ⟨h30, h⟩
      · refine (boolLit 21 rfl h30).2 ?_
        refine op0 (sp_move rfl rfl) rfl ⟨_, rfl, rfl⟩ rfl rfl ?_
        refine op1 1 rfl (sp_lenM (N := l6.length) (len_map _ _) rfl rfl isOwn Try.underlying38) rfl ⟨_, rfl, rfl⟩ rfl rfl ?_
        refine op0 (sp_move rfl rfl) rfl ⟨_, rfl, rfl⟩ rfl rfl ?_
        refine op0 (sp_lss rfl rfl rfl) rfl ⟨_, rfl, rfl⟩ rfl rfl ?_
        refine op0 (sp_pickT rfl rfl rfl) rfl ⟨_, rfl, rfl⟩ rfl rfl ?_
        refine op0 (sp_pickF rfl rfl rfl) rfl trivial rfl rfl ?_
        refine TL.nil ?_
        refine TC.cond (b := (decide ((l6.length : Int) < most3))) rfl (fun h31 => ?_) (fun h31 => ?_)
        · have h := cond_t h h31
          refine subJ [] (ok_law01_made_j1 (most3 := most3) ih h) ?_ ?_ ?_
          · exact ⟨rfl, rfl, rfl, rfl, rfl, rfl, trivial⟩
          · exact ⟨mem_at 0 rfl, mem_at 1 rfl, mem_at 2 rfl, trivial⟩
          · rfl
        · have h := cond_f h h31
          refine TC.exit rfl ?_
          refine TC.seq ?_
          refine TC.region ?_
          refine op0 (sp_move rfl rfl) rfl trivial rfl rfl ?_
          refine op0 (sp_assign rfl rfl) rfl trivial rfl rfl ?_
          refine TL.nil ?_
          cases h
          exact retJ [(0, 1)] (.tmp rfl .nil) rfl ⟨mem_at 1 rfl, trivial⟩ rfl rfl
      · refine (boolLit 21 rfl h30).2 ?_
        refine opSkip rfl ⟨_, rfl, .inl rfl⟩ rfl ?_
        refine opSkip rfl ⟨_, rfl, .inl rfl⟩ rfl ?_
        refine opSkip rfl ⟨_, rfl, .inl rfl⟩ rfl ?_
        refine opSkip rfl ⟨_, rfl, .inl rfl⟩ rfl ?_
        refine op0 (sp_pickF rfl rfl rfl) rfl ⟨_, rfl, rfl⟩ rfl rfl ?_
        refine op0 (sp_pickF rfl rfl rfl) rfl trivial rfl rfl ?_
        refine TL.nil ?_
        refine TC.condF rfl ?_
        refine TC.exit rfl ?_
        refine TC.seq ?_
        refine TC.region ?_
        refine op0 (sp_move rfl rfl) rfl trivial rfl rfl ?_
        refine op0 (sp_assign rfl rfl) rfl trivial rfl rfl ?_
        refine TL.nil ?_
        cases h
        exact retJ [(0, 1)] (.tmp rfl .nil) rfl ⟨mem_at 1 rfl, trivial⟩ rfl rfl
def ev_law01_made (n : Nat) (by_1 : List Int) (least2 : Int) (most3 : Int) : Option ((List Int)) :=
  ev_law01_made_l0 n least2 most3 n 0 by_1 ([] : List Int) (List.replicate 656 (false : Bool))
set_option maxRecDepth 100000 in
set_option maxHeartbeats 2000000 in
theorem fc_law01_made {n : Nat} {by_1 : List Int} {least2 : Int} {most3 : Int} {r : (List Int)} (h : ev_law01_made n by_1 least2 most3 = some r) : FC Try.prog 66 [.ref 0, .val (.int .i64 least2), .val (.int .i64 most3)] [.ro 0 1 (List.map en_uint8 by_1)] (.ref 0) [.row 0 3 1 (List.map en_int r)] := by
  refine introJ (nz := 73) Try.func66 rfl rfl rfl (fun w0 R0 env0 => ?_)
  rw [ev_law01_made] at h
  refine TC.seq ?_
  refine TC.region ?_
  refine op0 (sp_assign rfl rfl) rfl trivial rfl rfl ?_
  refine TL.nil ?_
  refine TC.seq ?_
  refine TC.region ?_
  refine op0 (sp_emptyM 1 (List.map en_int []) rfl rfl sl38) rfl trivial rfl rfl ?_
  refine op0 (sp_build (qs := []) rfl bt128 rfl rfl rfl rfl) rfl trivial rfl rfl ?_
  refine op0 (sp_alloc 2 rfl Try.zeroValue128 rfl) rfl trivial rfl rfl ?_
  refine op0 (sp_assign rfl rfl) rfl trivial rfl rfl ?_
  refine stoB 0 (cells' := [.val (.bool false), .val (.bool false), .val (.bool false), .val (.bool false), .val (.bool false), .val (.bool false), .val (.bool false), .val (.bool false), .val (.bool false), .val (.bool false), .val (.bool false), .val (.bool false), .val (.bool false), .val (.bool false), .val (.bool false), .val (.bool false), .val (.bool false), .val (.bool false), .val (.bool false), .val (.bool false), .val (.bool false), .val (.bool false), .val (.bool false), .val (.bool false), .val (.bool false), .val (.bool false), .val (.bool false), .val (.bool false), .val (.bool false), .val (.bool false), .val (.bool false), .val (.bool false), .val (.bool false), .val (.bool false), .val (.bool false), .val (.bool false), .val (.bool false), .val (.bool false), .val (.bool false), .val (.bool false), .val (.bool false), .val (.bool false), .val (.bool false), .val (.bool false), .val (.bool false), .val (.bool false), .val (.bool false), .val (.bool false), .val (.bool false), .val (.bool false), .val (.bool false), .val (.bool false), .val (.bool false), .val (.bool false), .val (.bool false), .val (.bool false), .val (.bool false), .val (.bool false), .val (.bool false), .val (.bool false), .val (.bool false), .val (.bool false), .val (.bool false), .val (.bool false), .val (.bool false), .val (.bool false), .val (.bool false), .val (.bool false), .val (.bool false), .val (.bool false), .val (.bool false), .val (.bool false), .val (.bool false), .val (.bool false), .val (.bool false), .val (.bool false), .val (.bool false), .val (.bool false), .val (.bool false), .val (.bool false), .val (.bool false), .val (.bool false), .val (.bool false), .val (.bool false), .val (.bool false), .val (.bool false), .val (.bool false), .val (.bool false), .val (.bool false), .val (.bool false), .val (.bool false), .val (.bool false), .val (.bool false), .val (.bool false), .val (.bool false), .val (.bool false), .val (.bool false), .val (.bool false), .val (.bool false), .val (.bool false), .val (.bool false), .val (.bool false), .val (.bool false), .val (.bool false), .val (.bool false), .val (.bool false), .val (.bool false), .val (.bool false), .val (.bool false), .val (.bool false), .val (.bool false), .val (.bool false), .val (.bool false), .val (.bool false), .val (.bool false), .val (.bool false), .val (.bool false), .val (.bool false), .val (.bool false), .val (.bool false), .val (.bool false), .val (.bool false), .val (.bool false), .val (.bool false), .val (.bool false), .val (.bool false), .val (.bool false), .val (.bool false), .val (.bool false), .val (.bool false), .val (.bool false), .val (.bool false), .val (.bool false), .val (.bool false), .val (.bool false), .val (.bool false), .val (.bool false), .val (.bool false), .val (.bool false), .val (.bool false), .val (.bool false), .val (.bool false), .val (.bool false), .val (.bool false), .val (.bool false), .val (.bool false), .val (.bool false), .val (.bool false), .val (.bool false), .val (.bool false), .val (.bool false), .val (.bool false), .val (.bool false), .val (.bool false), .val (.bool false), .val (.bool false), .val (.bool false), .val (.bool false), .val (.bool false), .val (.bool false), .val (.bool false), .val (.bool false), .val (.bool false), .val (.bool false), .val (.bool false), .val (.bool false), .val (.bool false), .val (.bool false), .val (.bool false), .val (.bool false), .val (.bool false), .val (.bool false), .val (.bool false), .val (.bool false), .val (.bool false), .val (.bool false), .val (.bool false), .val (.bool false), .val (.bool false), .val (.bool false), .val (.bool false), .val (.bool false), .val (.bool false), .val (.bool false), .val (.bool false), .val (.bool false), .val (.bool false), .val (.bool false), .val (.bool false), .val (.bool false), .val (.bool false), .val (.bool false), .val (.bool false), .val (.bool false), .val (.bool false), .val (.bool false), .val (.bool false), .val (.bool false), .val (.bool false), .val (.bool false), .val (.bool false), .val (.bool false), .val (.bool false), .val (.bool false), .val (.bool false), .val (.bool false), .val (.bool false), .val (.bool false), .val (.bool false), .val (.bool false), .val (.bool false), .val (.bool false), .val (.bool false), .val (.bool false), .val (.bool false), .val (.bool false), .val (.bool false), .val (.bool false), .val (.bool false), .val (.bool false), .val (.bool false), .val (.bool false), .val (.bool false), .val (.bool false), .val (.bool false), .val (.bool false), .val (.bool false), .val (.bool false), .val (.bool false), .val (.bool false), .val (.bool false), .val (.bool false), .val (.bool false), .val (.bool false), .val (.bool false), .val (.bool false), .val (.bool false), .val (.bool false), .val (.bool false), .val (.bool false), .val (.bool false), .val (.bool false), .val (.bool false), .val (.bool false), .val (.bool false), .val (.bool false), .val (.bool false), .val (.bool false), .val (.bool false), .val (.bool false), .val (.bool false), .val (.bool false), .val (.bool false), .val (.bool false), .val (.bool false), .val (.bool false), .val (.bool false), .val (.bool false), .val (.bool false), .val (.bool false), .val (.bool false), .val (.bool false), .val (.bool false), .val (.bool false), .val (.bool false), .val (.bool false), .val (.bool false), .val (.bool false), .val (.bool false), .val (.bool false), .val (.bool false), .val (.bool false), .val (.bool false), .val (.bool false), .val (.bool false), .val (.bool false), .val (.bool false), .val (.bool false), .val (.bool false), .val (.bool false), .val (.bool false), .val (.bool false), .val (.bool false), .val (.bool false), .val (.bool false), .val (.bool false), .val (.bool false), .val (.bool false), .val (.bool false), .val (.bool false), .val (.bool false), .val (.bool false), .val (.bool false), .val (.bool false), .val (.bool false), .val (.bool false), .val (.bool false), .val (.bool false), .val (.bool false), .val (.bool false), .val (.bool false), .val (.bool false), .val (.bool false), .val (.bool false), .val (.bool false), .val (.bool false), .val (.bool false), .val (.bool false), .val (.bool false), .val (.bool false), .val (.bool false), .val (.bool false), .val (.bool false), .val (.bool false), .val (.bool false), .val (.bool false), .val (.bool false), .val (.bool false), .val (.bool false), .val (.bool false), .val (.bool false), .val (.bool false), .val (.bool false), .val (.bool false), .val (.bool false), .val (.bool false), .val (.bool false), .val (.bool false), .val (.bool false), .val (.bool false), .val (.bool false), .val (.bool false), .val (.bool false), .val (.bool false), .val (.bool false), .val (.bool false), .val (.bool false), .val (.bool false), .val (.bool false), .val (.bool false), .val (.bool false), .val (.bool false), .val (.bool false), .val (.bool false), .val (.bool false), .val (.bool false), .val (.bool false), .val (.bool false), .val (.bool false), .val (.bool false), .val (.bool false), .val (.bool false), .val (.bool false), .val (.bool false), .val (.bool false), .val (.bool false), .val (.bool false), .val (.bool false), .val (.bool false), .val (.bool false), .val (.bool false), .val (.bool false), .val (.bool false), .val (.bool false), .val (.bool false), .val (.bool false), .val (.bool false), .val (.bool false), .val (.bool false), .val (.bool false), .val (.bool false), .val (.bool false), .val (.bool false), .val (.bool false), .val (.bool false), .val (.bool false), .val (.bool false), .val (.bool false), .val (.bool false), .val (.bool false), .val (.bool false), .val (.bool false), .val (.bool false), .val (.bool false), .val (.bool false), .val (.bool false), .val (.bool false), .val (.bool false), .val (.bool false), .val (.bool false), .val (.bool false), .val (.bool false), .val (.bool false), .val (.bool false), .val (.bool false), .val (.bool false), .val (.bool false), .val (.bool false), .val (.bool false), .val (.bool false), .val (.bool false), .val (.bool false), .val (.bool false), .val (.bool false), .val (.bool false), .val (.bool false), .val (.bool false), .val (.bool false), .val (.bool false), .val (.bool false), .val (.bool false), .val (.bool false), .val (.bool false), .val (.bool false), .val (.bool false), .val (.bool false), .val (.bool false), .val (.bool false), .val (.bool false), .val (.bool false), .val (.bool false), .val (.bool false), .val (.bool false), .val (.bool false), .val (.bool false), .val (.bool false), .val (.bool false), .val (.bool false), .val (.bool false), .val (.bool false), .val (.bool false), .val (.bool false), .val (.bool false), .val (.bool false), .val (.bool false), .val (.bool false), .val (.bool false), .val (.bool false), .val (.bool false), .val (.bool false), .val (.bool false), .val (.bool false), .val (.bool false), .val (.bool false), .val (.bool false), .val (.bool false), .val (.bool false), .val (.bool false), .val (.bool false), .val (.bool false), .val (.bool false), .val (.bool false), .val (.bool false), .val (.bool false), .val (.bool false), .val (.bool false), .val (.bool false), .val (.bool false), .val (.bool false), .val (.bool false), .val (.bool false), .val (.bool false), .val (.bool false), .val (.bool false), .val (.bool false), .val (.bool false), .val (.bool false), .val (.bool false), .val (.bool false), .val (.bool false), .val (.bool false), .val (.bool false), .val (.bool false), .val (.bool false), .val (.bool false), .val (.bool false), .val (.bool false), .val (.bool false), .val (.bool false), .val (.bool false), .val (.bool false), .val (.bool false), .val (.bool false), .val (.bool false), .val (.bool false), .val (.bool false), .val (.bool false), .val (.bool false), .val (.bool false), .val (.bool false), .val (.bool false), .val (.bool false), .val (.bool false), .val (.bool false), .val (.bool false), .val (.bool false), .val (.bool false), .val (.bool false), .val (.bool false), .val (.bool false), .val (.bool false), .val (.bool false), .val (.bool false), .val (.bool false), .val (.bool false), .val (.bool false), .val (.bool false), .val (.bool false), .val (.bool false), .val (.bool false), .val (.bool false), .val (.bool false), .val (.bool false), .val (.bool false), .val (.bool false), .val (.bool false), .val (.bool false), .val (.bool false), .val (.bool false), .val (.bool false), .val (.bool false), .val (.bool false), .val (.bool false), .val (.bool false), .val (.bool false), .val (.bool false), .val (.bool false), .val (.bool false), .val (.bool false), .val (.bool false), .val (.bool false), .val (.bool false), .val (.bool false), .val (.bool false), .val (.bool false), .val (.bool false), .val (.bool false), .val (.bool false), .val (.bool false), .val (.bool false), .val (.bool false), .val (.bool false), .val (.bool false), .val (.bool false), .val (.bool false), .val (.bool false), .val (.bool false), .val (.bool false), .val (.bool false), .val (.bool false), .val (.bool false), .val (.bool false), .val (.bool false), .val (.bool false), .val (.bool false), .val (.bool false), .val (.bool false), .val (.bool false), .val (.bool false), .val (.bool false), .val (.bool false), .val (.bool false), .val (.bool false), .val (.bool false), .val (.bool false), .val (.bool false), .val (.bool false), .val (.bool false), .val (.bool false), .val (.bool false), .val (.bool false), .val (.bool false), .val (.bool false), .val (.bool false), .val (.bool false), .val (.bool false), .val (.bool false), .val (.bool false), .val (.bool false), .val (.bool false), .val (.bool false), .val (.bool false), .val (.bool false), .val (.bool false), .val (.bool false), .val (.bool false), .val (.bool false), .val (.bool false), .val (.bool false), .val (.bool false), .val (.bool false), .val (.bool false), .val (.bool false), .val (.bool false), .val (.bool false), .val (.bool false), .val (.bool false), .val (.bool false), .val (.bool false), .val (.bool false), .val (.bool false), .val (.bool false), .val (.bool false), .val (.bool false), .val (.bool false), .val (.bool false), .val (.bool false), .val (.bool false), .val (.bool false), .val (.bool false), .val (.bool false), .val (.bool false), .val (.bool false), .val (.bool false), .val (.bool false), .val (.bool false), .val (.bool false), .val (.bool false), .val (.bool false), .val (.bool false), .val (.bool false), .val (.bool false), .val (.bool false), .val (.bool false), .val (.bool false), .val (.bool false), .val (.bool false), .val (.bool false), .val (.bool false), .val (.bool false), .val (.bool false), .val (.bool false), .val (.bool false), .val (.bool false), .val (.bool false), .val (.bool false), .val (.bool false), .val (.bool false), .val (.bool false), .val (.bool false), .val (.bool false), .val (.bool false), .val (.bool false), .val (.bool false), .val (.bool false), .val (.bool false), .val (.bool false), .val (.bool false), .val (.bool false), .val (.bool false), .val (.bool false), .val (.bool false), .val (.bool false), .val (.bool false), .val (.bool false), .val (.bool false)]) rfl rfl trivial rfl rfl rfl rfl vt128 rfl rfl rfl ?_
  refine TL.nil ?_
  refine TC.seq ?_
  refine TC.seq ?_
  refine TC.region ?_
  refine op0 (sp_assign rfl rfl) rfl trivial rfl rfl ?_
  refine TL.nil ?_
  refine TC.block ?_
  refine TC.loop ?_
  refine TC.toArr 0 (List.replicate 656 (false : Bool)) vx_bool rfl (by kernel_rfl) ?_
  refine TC.seq ?_
  refine TC.seq ?_
  refine subJ [] (ok_law01_made_l0 _ _ _ _ _ h) ?_ ?_ ?_
  · exact ⟨rfl, rfl, rfl, rfl, rfl, rfl, trivial⟩
  · exact ⟨mem_at 2 rfl, mem_at 1 rfl, mem_at 0 rfl, trivial⟩
  · rfl
/- law01_Cutters_shop -/
def ev_law01_Cutters_shop (n : Nat) (c1 : List Int) (c2 : List Int) : Option ((List Int) × (List Int)) :=
  (ev_law01_made n c1 30 6).bind fun r3 => (ev_law01_made n c2 6 6).bind fun r4 => some (r3, r4)
set_option maxRecDepth 100000 in
set_option maxHeartbeats 2000000 in
theorem fc_law01_Cutters_shop {n : Nat} {c1 : List Int} {c2 : List Int} {r : (List Int) × (List Int)} (h : ev_law01_Cutters_shop n c1 c2 = some r) : FC Try.prog 34 [.agg [.ref 0, .ref 1]] [.ro 0 1 (List.map en_uint8 c1), .ro 1 1 (List.map en_uint8 c2)] (.agg [.ref 0, .ref 1]) [.row 0 3 1 (List.map en_int r.1), .row 1 3 1 (List.map en_int r.2)] := by
  refine introJ (nz := 10) Try.func34 rfl rfl rfl (fun w0 R0 env0 => ?_)
  rw [ev_law01_Cutters_shop] at h
  refine TC.seq ?_
  refine TC.region ?_
  refine op0 (sp_box 2 rfl rfl rfl rfl rfl) rfl trivial rfl rfl ?_
  refine op0 (sp_alloc 3 rfl Try.zeroValue40 rfl) rfl trivial rfl rfl ?_
  refine TL.nil ?_
  refine TC.seq ?_
  obtain ⟨r3, h1, h⟩ := bind_inv h
  refine drawJ 5 [⟨.ptr 2 0, [], [.blk 2 [.ref 0, .ref 1] 64], []⟩, ⟨.ref 0, [], [.blk 2 [.ref 0, .ref 1] 64], []⟩, ⟨.ref 4, [.row 4 3 1 (List.map en_int r3)], [.ro 0 1 (List.map en_uint8 c1)], []⟩, ⟨.ptr 2 1, [], [.blk 2 [.ref 0, .ref 1] 64], []⟩, ⟨.ref 1, [], [.blk 2 [.ref 0, .ref 1] 64], []⟩] rfl ?_ rfl ?_ rfl ?_ ?_
  · kernel_rfl
  · kernel_rfl
  · exact DAll.op' (sp_fieldAddrB rfl isBlk rfl ft64_0 vt62 (by decide)) trivial rfl (From.ok (ps := [(none, 1)]) ⟨⟨rfl, rfl⟩, trivial⟩) (DAll.op' (sp_loadB rfl isBlk rfl vt62 rfl) trivial rfl (From.ok (ps := [(none, 1)]) ⟨⟨rfl, rfl⟩, trivial⟩) (DAll.op' (sp_call (avs := [.ref 0, .val (.int .i64 30), .val (.int .i64 6)]) (need := [.ro 0 1 (List.map en_uint8 c1)]) (v := .ref 4) (news := [.row 4 3 1 (List.map en_int r3)]) rfl rfl rfl Try.call66 (atJ [] [(0, 4)] (fc_law01_made h1) rfl rfl) (.inl (roAll rfl))) trivial rfl (From.ok (ps := [(none, 2)]) ⟨⟨rfl, rfl⟩, trivial⟩) (DAll.op' (sp_fieldAddrB rfl isBlk rfl ft64_1 vt62 (by decide)) trivial rfl (From.ok (ps := [(none, 1)]) ⟨⟨rfl, rfl⟩, trivial⟩) (DAll.op' (sp_loadB rfl isBlk rfl vt62 rfl) trivial rfl (From.ok (ps := [(none, 1)]) ⟨⟨rfl, rfl⟩, trivial⟩) (.nil)))))
  obtain ⟨r4, h2, h⟩ := bind_inv h
  refine op1 4 rfl (sp_call (avs := [.ref 1, .val (.int .i64 6), .val (.int .i64 6)]) (need := [.ro 1 1 (List.map en_uint8 c2)]) (v := .ref 5) (news := [.row 5 3 1 (List.map en_int r4)]) rfl rfl rfl Try.call66 (atJ [(0, 1)] [(0, 5)] (fc_law01_made h2) rfl rfl) (.inl (roAll rfl))) rfl trivial rfl rfl ?_
  refine op0 (sp_build (qs := [(0, .ref 4), (1, .ref 5)]) rfl bt40 rfl rfl rfl rfl) rfl trivial rfl rfl ?_
  refine stoB 2 (cells' := [.ref 4, .ref 5]) rfl rfl trivial rfl rfl rfl rfl vt40 rfl rfl rfl ?_
  refine TL.nil ?_
  cases h
  exact retJ [(0, 4), (1, 5)] (.cells rfl (mem_at 2 rfl) isBlk vt40 rfl rfl (.nil)) rfl ⟨mem_at 1 rfl, mem_at 0 rfl, trivial⟩ rfl rfl
/- law01_picked -/
def ev_law01_picked_l3 (n : Nat) (l17 : List Int) (x26 : Int) (i14 : Int) (l15 : List Int) (l16 : List Int) (l18 : List Int) (l19 : List Int) (l20 : List Int) (l21 : List Int) (l22 : List Int) (l23 : List Int) (k_law01_picked_l1 : Int → (List Int) → (List Int) → (List Int) → (List Int) → (List Int) → (List Int) → (List Int) → (List Int) → (List Int) → Option ((List Int) × (List Int))) : Nat → Int → Option ((List Int) × (List Int))
  | 0, _ => none
  | m + 1, i27 => cond (decide (i27 < (l17.length : Int))) (idx l17 i27 fun x28 => cond (decide (x28 < x26)) (chk (in64 (i27 + 1)) <| ev_law01_picked_l3 n l17 x26 i14 l15 l16 l18 l19 l20 l21 l22 l23 k_law01_picked_l1 m (i27 + 1)) (chk (decide (0 ≤ (i27 : Int)) && decide ((i27 : Int) ≤ (l17.length : Int))) <| chk (decide (0 ≤ (i27 : Int)) && (decide ((i27 : Int) ≤ (l17.length : Int)) && decide ((l17.length : Int) ≤ (l17.length : Int)))) <| chk (room 8 (([x26] : List Int).length + (List.drop (i27 : Int).toNat (List.take ((l17.length : Int) : Int).toNat l17)).length)) <| chk (room 8 ((List.take (i27 : Int).toNat l17).length + (([x26] : List Int) ++ (List.drop (i27 : Int).toNat (List.take ((l17.length : Int) : Int).toNat l17))).length)) <| chk (in64 (i14 + 1)) <| k_law01_picked_l1 (i14 + 1) l15 l16 ((List.take (i27 : Int).toNat l17) ++ (([x26] : List Int) ++ (List.drop (i27 : Int).toNat (List.take ((l17.length : Int) : Int).toNat l17)))) l18 l19 l20 l21 l22 l23)) (chk (decide (0 ≤ (i27 : Int)) && decide ((i27 : Int) ≤ (l17.length : Int))) <| chk (decide (0 ≤ (i27 : Int)) && (decide ((i27 : Int) ≤ (l17.length : Int)) && decide ((l17.length : Int) ≤ (l17.length : Int)))) <| chk (room 8 (([x26] : List Int).length + (List.drop (i27 : Int).toNat (List.take ((l17.length : Int) : Int).toNat l17)).length)) <| chk (room 8 ((List.take (i27 : Int).toNat l17).length + (([x26] : List Int) ++ (List.drop (i27 : Int).toNat (List.take ((l17.length : Int) : Int).toNat l17))).length)) <| chk (in64 (i14 + 1)) <| k_law01_picked_l1 (i14 + 1) l15 l16 ((List.take (i27 : Int).toNat l17) ++ (([x26] : List Int) ++ (List.drop (i27 : Int).toNat (List.take ((l17.length : Int) : Int).toNat l17)))) l18 l19 l20 l21 l22 l23)
set_option maxRecDepth 100000 in
set_option maxHeartbeats 2000000 in
theorem ok_law01_picked_l3 {n : Nat} {w0 : World} {R0 : Nat → Prop} {env0 : Env} {r : (List Int) × (List Int)} {pairs4 : Int} {i5 : Int} {x26 : Int} {l17 : List Int} {i14 : Int} {l15 : List Int} {l16 : List Int} {l18 : List Int} {l19 : List Int} {l20 : List Int} {l21 : List Int} {l22 : List Int} {l23 : List Int} {k_law01_picked_l1 : Int → (List Int) → (List Int) → (List Int) → (List Int) → (List Int) → (List Int) → (List Int) → (List Int) → (List Int) → Option ((List Int) × (List Int))} (hk_law01_picked_l1 : ∀ (i14 : Int) (l15 : List Int) (l16 : List Int) (l17 : List Int) (l18 : List Int) (l19 : List Int) (l20 : List Int) (l21 : List Int) (l22 : List Int) (l23 : List Int), k_law01_picked_l1 i14 l15 l16 l17 l18 l19 l20 l21 l22 l23 = some r → TC Try.prog ⟨w0, fun _ => False, R0⟩ 85 (bodyPost Try.prog Try.f35 (Post ⟨w0, fun _ => False, R0⟩ env0 (.agg [.ref 0, .ref 1]) [.row 0 3 1 (List.map en_int r.1), .row 1 3 1 (List.map en_int r.2)])) [.code (sub (bodyOf Try.f35) [1, 1, 0, 1, 0, 0, 1, 0, 0, 1, 0, 1, 0, 0, 0, 0]), .code (sub (bodyOf Try.f35) [1, 1, 0, 1, 0, 0, 1, 0, 0, 1, 0, 1, 0, 0, 0, 1]), .code (sub (bodyOf Try.f35) [1, 1, 0, 1, 0, 0, 1, 0, 0, 1, 0, 1, 0, 0, 1]), .inLoop (sub (bodyOf Try.f35) [1, 1, 0, 1, 0, 0, 1, 0, 0, 1, 0, 1, 0, 0]), .inBlock 2, .code (sub (bodyOf Try.f35) [1, 1, 0, 1, 0, 0, 1, 0, 0, 1, 1]), .inBlock 1, .code (sub (bodyOf Try.f35) [1, 1, 0, 1, 0, 0, 1, 1]), .inLoop (sub (bodyOf Try.f35) [1, 1, 0, 1, 0, 0]), .inBlock 0, .code (sub (bodyOf Try.f35) [1, 1, 1])] ([(1, .ref 2), (2, .val (.int .i64 pairs4)), (3, .ptr 3 0), (6, .ptr 4 0), (7, .ptr 5 0), (8, .val (.int .i64 i5)), (9, .ref 10), (10, .ref 11), (11, .val (.int .i64 i14))]) ([.ro 2 1 (List.map en_uint8 l15), .blk 3 [.ref 0, .ref 1] 40, .blk 4 [.ref 6, .ref 7] 57, .blk 5 [.ref 8, .ref 9] 57, .ro 10 1 (List.map en_int l16), .row 11 3 1 (List.map en_int l17), .ro 0 1 (List.map en_int l18), .ro 1 1 (List.map en_int l19), .row 6 3 1 (List.map en_int l20), .row 7 3 1 (List.map en_int l21), .row 8 3 1 (List.map en_int l22), .row 9 3 1 (List.map en_int l23)])) : ∀ (m : Nat) (i27 : Int), ev_law01_picked_l3 n l17 x26 i14 l15 l16 l18 l19 l20 l21 l22 l23 k_law01_picked_l1 m i27 = some r → TC Try.prog ⟨w0, fun _ => False, R0⟩ 85 (bodyPost Try.prog Try.f35 (Post ⟨w0, fun _ => False, R0⟩ env0 (.agg [.ref 0, .ref 1]) [.row 0 3 1 (List.map en_int r.1), .row 1 3 1 (List.map en_int r.2)])) [.code (sub (bodyOf Try.f35) [1, 1, 0, 1, 0, 0, 1, 0, 0, 1, 0, 1, 0, 0, 1, 0, 0, 1, 1, 1, 0, 0, 0, 0, 0]), .code (sub (bodyOf Try.f35) [1, 1, 0, 1, 0, 0, 1, 0, 0, 1, 0, 1, 0, 0, 1, 0, 0, 1, 1, 1, 0, 0, 0, 0, 1]), .code (sub (bodyOf Try.f35) [1, 1, 0, 1, 0, 0, 1, 0, 0, 1, 0, 1, 0, 0, 1, 0, 0, 1, 1, 1, 0, 0, 0, 1]), .inLoop (sub (bodyOf Try.f35) [1, 1, 0, 1, 0, 0, 1, 0, 0, 1, 0, 1, 0, 0, 1, 0, 0, 1, 1, 1, 0, 0, 0]), .inBlock 4, .code (sub (bodyOf Try.f35) [1, 1, 0, 1, 0, 0, 1, 0, 0, 1, 0, 1, 0, 0, 1, 0, 0, 1, 1, 1, 1]), .inBlock 3, .code (sub (bodyOf Try.f35) [1, 1, 0, 1, 0, 0, 1, 0, 0, 1, 0, 1, 0, 0, 1, 1]), .inLoop (sub (bodyOf Try.f35) [1, 1, 0, 1, 0, 0, 1, 0, 0, 1, 0, 1, 0, 0]), .inBlock 2, .code (sub (bodyOf Try.f35) [1, 1, 0, 1, 0, 0, 1, 0, 0, 1, 1]), .inBlock 1, .code (sub (bodyOf Try.f35) [1, 1, 0, 1, 0, 0, 1, 1]), .inLoop (sub (bodyOf Try.f35) [1, 1, 0, 1, 0, 0]), .inBlock 0, .code (sub (bodyOf Try.f35) [1, 1, 1])] ([(1, .ref 2), (2, .val (.int .i64 pairs4)), (3, .ptr 3 0), (6, .ptr 4 0), (7, .ptr 5 0), (8, .val (.int .i64 i5)), (9, .ref 10), (10, .ref 11), (11, .val (.int .i64 i14)), (13, .val (.int .i64 x26)), (14, .val (.int .i64 i27))]) ([.ro 2 1 (List.map en_uint8 l15), .blk 3 [.ref 0, .ref 1] 40, .blk 4 [.ref 6, .ref 7] 57, .blk 5 [.ref 8, .ref 9] 57, .ro 10 1 (List.map en_int l16), .row 11 3 1 (List.map en_int l17), .ro 0 1 (List.map en_int l18), .ro 1 1 (List.map en_int l19), .row 6 3 1 (List.map en_int l20), .row 7 3 1 (List.map en_int l21), .row 8 3 1 (List.map en_int l22), .row 9 3 1 (List.map en_int l23)]) := by
  intro m
  induction m with
  | zero => intro i27 h; exact none_no h
  | succ m ih =>
    intro i27 h
    rw [ev_law01_picked_l3] at h
    refine TC.region ?_
    refine op0 (sp_move rfl rfl) rfl trivial rfl rfl ?_
    refine op0 (sp_move rfl rfl) rfl trivial rfl rfl ?_
    refine op1 5 rfl (sp_lenM (N := l17.length) (len_map _ _) rfl rfl isOwn Try.underlying38) rfl trivial rfl rfl ?_
    refine op0 (sp_lss rfl rfl rfl) rfl trivial rfl rfl ?_
    refine op0 (sp_move rfl rfl) rfl trivial rfl rfl ?_
    rcases cond_cases h with ⟨h16, h⟩ | ⟨h16, h⟩
    · refine (boolLit 58 rfl h16).2 ?_
      refine op0 (sp_move rfl rfl) rfl ⟨_, rfl, rfl⟩ rfl rfl ?_
      refine op0 (sp_move rfl rfl) rfl ⟨_, rfl, rfl⟩ rfl rfl ?_
      obtain ⟨x28, h17, h18, h⟩ := idx_inv h
      refine op1 5 rfl (sp_indexS rfl rfl rfl isOwn sl38 h17 (map_get _ h18)) rfl ⟨_, rfl, rfl⟩ rfl rfl ?_
      refine op1 5 rfl (sp_loadR (i := (i27 : Int).toNat) (j := 0) rfl rfl isOwn vt3 rfl (map_get _ h18) rfl (.v (.nil)) (nodup_of_B rfl)) rfl ⟨_, rfl, rfl⟩ rfl rfl ?_
      refine op0 (sp_move rfl rfl) rfl ⟨_, rfl, rfl⟩ rfl rfl ?_
      refine op0 (sp_lss rfl rfl rfl) rfl ⟨_, rfl, rfl⟩ rfl rfl ?_
      refine op0 (sp_pickT rfl rfl rfl) rfl trivial rfl rfl ?_
      refine TL.nil ?_
      refine TC.cond (b := (decide (x28 < x26))) rfl (fun h19 => ?_) (fun h19 => ?_)
      · have h := cond_t h h19
        refine TC.skip ?_
        refine TC.block ?_
        refine TC.region ?_
        refine op0 (sp_move rfl rfl) rfl trivial rfl rfl ?_
        obtain ⟨h20, h⟩ := chk_inv h
        refine op0 (sp_add rfl rfl rfl h20) rfl trivial rfl rfl ?_
        refine op0 (sp_assign rfl rfl) rfl trivial rfl rfl ?_
        refine TL.nil ?_
        refine TC.inBlock ?_
        refine TC.inLoop ?_
        refine TC.seq ?_
        refine TC.seq ?_
        refine subJ [] (ih _ h) ?_ ?_ ?_
        · exact ⟨rfl, rfl, rfl, rfl, rfl, rfl, rfl, rfl, rfl, rfl, rfl, trivial⟩
        · exact ⟨mem_at 0 rfl, mem_at 1 rfl, mem_at 2 rfl, mem_at 3 rfl, mem_at 4 rfl, mem_at 5 rfl, mem_at 6 rfl, mem_at 7 rfl, mem_at 8 rfl, mem_at 9 rfl, mem_at 10 rfl, mem_at 11 rfl, trivial⟩
        · rfl
      · have h := cond_f h h19
        refine TC.exit rfl ?_
        refine TC.pin 12 11 rfl rfl fun u29 => ?_
        obtain ⟨h21, h⟩ := chk_inv h
        obtain ⟨h22, h⟩ := chk_inv h
        obtain ⟨h23, h⟩ := chk_inv h
        refine drawJ 9 [⟨.ref 11, [], [], []⟩, ⟨.val (.int .i64 i27), [], [], []⟩, ⟨.val (cutV u29 (i27 : Int).toNat), [], [.row 11 3 1 (List.map en_int l17), .pin 12 11 u29], []⟩, ⟨.val (.int .i64 x26), [], [], []⟩, ⟨.ref 13, [.row 13 3 1 (List.map en_int ([x26] : List Int))], [], []⟩, ⟨.ref 11, [], [], []⟩, ⟨.val (.int .i64 i27), [], [], []⟩, ⟨.val (viewV u29 1 (i27 : Int).toNat ((l17.length : Int) : Int).toNat), [], [.row 11 3 1 (List.map en_int l17), .pin 12 11 u29], []⟩, ⟨.ref 14, [.row 14 3 1 (List.map en_int (([x26] : List Int) ++ (List.drop (i27 : Int).toNat (List.take ((l17.length : Int) : Int).toNat l17))))], [.row 11 3 1 (List.map en_int l17), .pin 12 11 u29], [.row 13 3 1 (List.map en_int ([x26] : List Int))]⟩] rfl ?_ rfl ?_ rfl ?_ ?_
        · kernel_rfl
        · kernel_rfl
        · exact DAll.op' (sp_move rfl rfl) trivial rfl (From.ok (ps := []) trivial) (DAll.op' (sp_move rfl rfl) trivial rfl (From.ok (ps := []) trivial) (DAll.op' (sp_cutPin (h := i27) (len_map _ _) rfl rfl sl38 (cut_some rfl) h21) trivial rfl (From.ok (ps := [(none, 6), (none, 0)]) ⟨⟨rfl, by kernel_rfl⟩, ⟨rfl, by kernel_rfl⟩, trivial⟩) (DAll.op' (sp_move rfl rfl) trivial rfl (From.ok (ps := []) trivial) (DAll.op' (sp_buildSlice (qs := [.val (.int .i64 x26)]) (need := []) (els := List.map en_int ([x26] : List Int)) 13 rfl sl38 (by decide) (by decide) rfl rfl rfl (.v (.nil)) (map_len fun _ => rfl) rfl rfl rfl) trivial rfl (From.ok (ps := []) trivial) (DAll.op' (sp_move rfl rfl) trivial rfl (From.ok (ps := []) trivial) (DAll.op' (sp_move rfl rfl) trivial rfl (From.ok (ps := []) trivial) (DAll.op' (sp_view (l := i27) (h := (l17.length : Int)) (len_map _ _) rfl rfl isOwn sl38 (cut_some rfl) cut_none h22) trivial rfl (From.ok (ps := [(none, 6), (none, 0)]) ⟨⟨rfl, by kernel_rfl⟩, ⟨rfl, by kernel_rfl⟩, trivial⟩) (DAll.opT (ts_appendG (N := ([x26] : List Int).length) (N2 := (List.drop (i27 : Int).toNat (List.take ((l17.length : Int) : Int).toNat l17)).length) (need := [.row 11 3 1 (List.map en_int l17), .pin 12 11 u29]) 14 rfl rfl rfl dst_ref (from_view 0 1 rfl rfl isOwn (view_ble (len_map _ _) h22) (map_cut _ _ _ _)) sl38 (len_map _ _) (len_map _ _) h23 (map_app _ _ _) rfl) trivial (From.ok (ps := [(some 4, 0)]) ⟨⟨_, rfl, by kernel_rfl, rfl, by kernel_rfl⟩, trivial⟩) (From.ok (ps := [(none, 6), (none, 0)]) ⟨⟨rfl, by kernel_rfl⟩, ⟨rfl, by kernel_rfl⟩, trivial⟩) (.nil)))))))))
        obtain ⟨h24, h⟩ := chk_inv h
        refine opT (take := [.row 11 3 1 (List.map en_int l17)]) (need := [.pin 12 11 u29, .row 14 3 1 (List.map en_int (([x26] : List Int) ++ (List.drop (i27 : Int).toNat (List.take ((l17.length : Int) : Int).toNat l17))))]) (V' := [.row 15 3 1 (List.map en_int ((List.take (i27 : Int).toNat l17) ++ (([x26] : List Int) ++ (List.drop (i27 : Int).toNat (List.take ((l17.length : Int) : Int).toNat l17))))), .row 14 3 1 (List.map en_int (([x26] : List Int) ++ (List.drop (i27 : Int).toNat (List.take ((l17.length : Int) : Int).toNat l17)))), .pin 12 11 u29, .ro 2 1 (List.map en_uint8 l15), .blk 3 [.ref 0, .ref 1] 40, .blk 4 [.ref 6, .ref 7] 57, .blk 5 [.ref 8, .ref 9] 57, .ro 10 1 (List.map en_int l16), .ro 0 1 (List.map en_int l18), .ro 1 1 (List.map en_int l19), .row 6 3 1 (List.map en_int l20), .row 7 3 1 (List.map en_int l21), .row 8 3 1 (List.map en_int l22), .row 9 3 1 (List.map en_int l23)]) [7] [1, 0] (ts_appendG (N := (List.take (i27 : Int).toNat l17).length) (N2 := (([x26] : List Int) ++ (List.drop (i27 : Int).toNat (List.take ((l17.length : Int) : Int).toNat l17))).length) (need := [.pin 12 11 u29, .row 14 3 1 (List.map en_int (([x26] : List Int) ++ (List.drop (i27 : Int).toNat (List.take ((l17.length : Int) : Int).toNat l17))))]) 15 rfl rfl rfl (dst_cut 0 rfl (cut_ble (len_map _ _) h21) (map_take _ _ _)) (from_ref 1 rfl isOwn) sl38 (len_map _ _) (len_map _ _) h24 (map_app _ _ _) rfl) trivial rfl ⟨rfl, trivial⟩ ⟨rfl, rfl, trivial⟩ rfl rfl ?_
        refine op0 (sp_assign rfl rfl) rfl trivial rfl rfl ?_
        refine TL.nil ?_
        refine TC.inBlock ?_
        refine TC.region ?_
        refine op0 (sp_move rfl rfl) rfl trivial rfl rfl ?_
        obtain ⟨h25, h⟩ := chk_inv h
        refine op0 (sp_add rfl rfl rfl h25) rfl trivial rfl rfl ?_
        refine op0 (sp_assign rfl rfl) rfl trivial rfl rfl ?_
        refine TL.nil ?_
        refine TC.inLoop ?_
        refine TC.seq ?_
        refine TC.seq ?_
        refine subJ [(11, 15)] (hk_law01_picked_l1 _ _ _ _ _ _ _ _ _ _ h) ?_ ?_ ?_
        · exact ⟨rfl, rfl, rfl, rfl, rfl, rfl, rfl, rfl, rfl, trivial⟩
        · exact ⟨mem_at 3 rfl, mem_at 4 rfl, mem_at 5 rfl, mem_at 6 rfl, mem_at 7 rfl, mem_at 0 rfl, mem_at 8 rfl, mem_at 9 rfl, mem_at 10 rfl, mem_at 11 rfl, mem_at 12 rfl, mem_at 13 rfl, trivial⟩
        · rfl
    · refine (boolLit 58 rfl h16).2 ?_
      refine opSkip rfl ⟨_, rfl, .inl rfl⟩ rfl ?_
      refine opSkip rfl ⟨_, rfl, .inl rfl⟩ rfl ?_
      refine opSkip rfl ⟨_, rfl, .inl rfl⟩ rfl ?_
      refine opSkip rfl ⟨_, rfl, .inl rfl⟩ rfl ?_
      refine opSkip rfl ⟨_, rfl, .inl rfl⟩ rfl ?_
      refine opSkip rfl ⟨_, rfl, .inl rfl⟩ rfl ?_
      refine op0 (sp_pickF rfl rfl rfl) rfl trivial rfl rfl ?_
      refine TL.nil ?_
      refine TC.condF rfl ?_
      refine TC.exit rfl ?_
      refine TC.pin 16 11 rfl rfl fun u30 => ?_
      obtain ⟨h26, h⟩ := chk_inv h
      obtain ⟨h27, h⟩ := chk_inv h
      obtain ⟨h28, h⟩ := chk_inv h
      refine drawJ 9 [⟨.ref 11, [], [], []⟩, ⟨.val (.int .i64 i27), [], [], []⟩, ⟨.val (cutV u30 (i27 : Int).toNat), [], [.row 11 3 1 (List.map en_int l17), .pin 16 11 u30], []⟩, ⟨.val (.int .i64 x26), [], [], []⟩, ⟨.ref 17, [.row 17 3 1 (List.map en_int ([x26] : List Int))], [], []⟩, ⟨.ref 11, [], [], []⟩, ⟨.val (.int .i64 i27), [], [], []⟩, ⟨.val (viewV u30 1 (i27 : Int).toNat ((l17.length : Int) : Int).toNat), [], [.row 11 3 1 (List.map en_int l17), .pin 16 11 u30], []⟩, ⟨.ref 18, [.row 18 3 1 (List.map en_int (([x26] : List Int) ++ (List.drop (i27 : Int).toNat (List.take ((l17.length : Int) : Int).toNat l17))))], [.row 11 3 1 (List.map en_int l17), .pin 16 11 u30], [.row 17 3 1 (List.map en_int ([x26] : List Int))]⟩] rfl ?_ rfl ?_ rfl ?_ ?_
      · kernel_rfl
      · kernel_rfl
      · exact DAll.op' (sp_move rfl rfl) trivial rfl (From.ok (ps := []) trivial) (DAll.op' (sp_move rfl rfl) trivial rfl (From.ok (ps := []) trivial) (DAll.op' (sp_cutPin (h := i27) (len_map _ _) rfl rfl sl38 (cut_some rfl) h26) trivial rfl (From.ok (ps := [(none, 6), (none, 0)]) ⟨⟨rfl, by kernel_rfl⟩, ⟨rfl, by kernel_rfl⟩, trivial⟩) (DAll.op' (sp_move rfl rfl) trivial rfl (From.ok (ps := []) trivial) (DAll.op' (sp_buildSlice (qs := [.val (.int .i64 x26)]) (need := []) (els := List.map en_int ([x26] : List Int)) 17 rfl sl38 (by decide) (by decide) rfl rfl rfl (.v (.nil)) (map_len fun _ => rfl) rfl rfl rfl) trivial rfl (From.ok (ps := []) trivial) (DAll.op' (sp_move rfl rfl) trivial rfl (From.ok (ps := []) trivial) (DAll.op' (sp_move rfl rfl) trivial rfl (From.ok (ps := []) trivial) (DAll.op' (sp_view (l := i27) (h := (l17.length : Int)) (len_map _ _) rfl rfl isOwn sl38 (cut_some rfl) cut_none h27) trivial rfl (From.ok (ps := [(none, 6), (none, 0)]) ⟨⟨rfl, by kernel_rfl⟩, ⟨rfl, by kernel_rfl⟩, trivial⟩) (DAll.opT (ts_appendG (N := ([x26] : List Int).length) (N2 := (List.drop (i27 : Int).toNat (List.take ((l17.length : Int) : Int).toNat l17)).length) (need := [.row 11 3 1 (List.map en_int l17), .pin 16 11 u30]) 18 rfl rfl rfl dst_ref (from_view 0 1 rfl rfl isOwn (view_ble (len_map _ _) h27) (map_cut _ _ _ _)) sl38 (len_map _ _) (len_map _ _) h28 (map_app _ _ _) rfl) trivial (From.ok (ps := [(some 4, 0)]) ⟨⟨_, rfl, by kernel_rfl, rfl, by kernel_rfl⟩, trivial⟩) (From.ok (ps := [(none, 6), (none, 0)]) ⟨⟨rfl, by kernel_rfl⟩, ⟨rfl, by kernel_rfl⟩, trivial⟩) (.nil)))))))))
      obtain ⟨h29, h⟩ := chk_inv h
      refine opT (take := [.row 11 3 1 (List.map en_int l17)]) (need := [.pin 16 11 u30, .row 18 3 1 (List.map en_int (([x26] : List Int) ++ (List.drop (i27 : Int).toNat (List.take ((l17.length : Int) : Int).toNat l17))))]) (V' := [.row 19 3 1 (List.map en_int ((List.take (i27 : Int).toNat l17) ++ (([x26] : List Int) ++ (List.drop (i27 : Int).toNat (List.take ((l17.length : Int) : Int).toNat l17))))), .row 18 3 1 (List.map en_int (([x26] : List Int) ++ (List.drop (i27 : Int).toNat (List.take ((l17.length : Int) : Int).toNat l17)))), .pin 16 11 u30, .ro 2 1 (List.map en_uint8 l15), .blk 3 [.ref 0, .ref 1] 40, .blk 4 [.ref 6, .ref 7] 57, .blk 5 [.ref 8, .ref 9] 57, .ro 10 1 (List.map en_int l16), .ro 0 1 (List.map en_int l18), .ro 1 1 (List.map en_int l19), .row 6 3 1 (List.map en_int l20), .row 7 3 1 (List.map en_int l21), .row 8 3 1 (List.map en_int l22), .row 9 3 1 (List.map en_int l23)]) [7] [1, 0] (ts_appendG (N := (List.take (i27 : Int).toNat l17).length) (N2 := (([x26] : List Int) ++ (List.drop (i27 : Int).toNat (List.take ((l17.length : Int) : Int).toNat l17))).length) (need := [.pin 16 11 u30, .row 18 3 1 (List.map en_int (([x26] : List Int) ++ (List.drop (i27 : Int).toNat (List.take ((l17.length : Int) : Int).toNat l17))))]) 19 rfl rfl rfl (dst_cut 0 rfl (cut_ble (len_map _ _) h26) (map_take _ _ _)) (from_ref 1 rfl isOwn) sl38 (len_map _ _) (len_map _ _) h29 (map_app _ _ _) rfl) trivial rfl ⟨rfl, trivial⟩ ⟨rfl, rfl, trivial⟩ rfl rfl ?_
      refine op0 (sp_assign rfl rfl) rfl trivial rfl rfl ?_
      refine TL.nil ?_
      refine TC.inBlock ?_
      refine TC.region ?_
      refine op0 (sp_move rfl rfl) rfl trivial rfl rfl ?_
      obtain ⟨h30, h⟩ := chk_inv h
      refine op0 (sp_add rfl rfl rfl h30) rfl trivial rfl rfl ?_
      refine op0 (sp_assign rfl rfl) rfl trivial rfl rfl ?_
      refine TL.nil ?_
      refine TC.inLoop ?_
      refine TC.seq ?_
      refine TC.seq ?_
      refine subJ [(11, 19)] (hk_law01_picked_l1 _ _ _ _ _ _ _ _ _ _ h) ?_ ?_ ?_
      · exact ⟨rfl, rfl, rfl, rfl, rfl, rfl, rfl, rfl, rfl, trivial⟩
      · exact ⟨mem_at 3 rfl, mem_at 4 rfl, mem_at 5 rfl, mem_at 6 rfl, mem_at 7 rfl, mem_at 0 rfl, mem_at 8 rfl, mem_at 9 rfl, mem_at 10 rfl, mem_at 11 rfl, mem_at 12 rfl, mem_at 13 rfl, trivial⟩
      · rfl
def ev_law01_picked_j2 (n : Nat) (l16 : List Int) (l17 : List Int) (i14 : Int) (l15 : List Int) (l18 : List Int) (l19 : List Int) (l20 : List Int) (l21 : List Int) (l22 : List Int) (l23 : List Int) (k_law01_picked_l1 : Int → (List Int) → (List Int) → (List Int) → (List Int) → (List Int) → (List Int) → (List Int) → (List Int) → (List Int) → Option ((List Int) × (List Int))) (i25 : Int) : Option ((List Int) × (List Int)) :=
  chk ((l16.length : Int) != 0) <| idx l16 (Int.tmod i25 (l16.length : Int)) fun x26 => ev_law01_picked_l3 n l17 x26 i14 l15 l16 l18 l19 l20 l21 l22 l23 k_law01_picked_l1 n 0
set_option maxRecDepth 100000 in
set_option maxHeartbeats 2000000 in
theorem ok_law01_picked_j2 {n : Nat} {w0 : World} {R0 : Nat → Prop} {env0 : Env} {r : (List Int) × (List Int)} {pairs4 : Int} {i5 : Int} {l16 : List Int} {l17 : List Int} {i14 : Int} {l15 : List Int} {l18 : List Int} {l19 : List Int} {l20 : List Int} {l21 : List Int} {l22 : List Int} {l23 : List Int} {k_law01_picked_l1 : Int → (List Int) → (List Int) → (List Int) → (List Int) → (List Int) → (List Int) → (List Int) → (List Int) → (List Int) → Option ((List Int) × (List Int))} {i25 : Int} (hk_law01_picked_l1 : ∀ (i14 : Int) (l15 : List Int) (l16 : List Int) (l17 : List Int) (l18 : List Int) (l19 : List Int) (l20 : List Int) (l21 : List Int) (l22 : List Int) (l23 : List Int), k_law01_picked_l1 i14 l15 l16 l17 l18 l19 l20 l21 l22 l23 = some r → TC Try.prog ⟨w0, fun _ => False, R0⟩ 85 (bodyPost Try.prog Try.f35 (Post ⟨w0, fun _ => False, R0⟩ env0 (.agg [.ref 0, .ref 1]) [.row 0 3 1 (List.map en_int r.1), .row 1 3 1 (List.map en_int r.2)])) [.code (sub (bodyOf Try.f35) [1, 1, 0, 1, 0, 0, 1, 0, 0, 1, 0, 1, 0, 0, 0, 0]), .code (sub (bodyOf Try.f35) [1, 1, 0, 1, 0, 0, 1, 0, 0, 1, 0, 1, 0, 0, 0, 1]), .code (sub (bodyOf Try.f35) [1, 1, 0, 1, 0, 0, 1, 0, 0, 1, 0, 1, 0, 0, 1]), .inLoop (sub (bodyOf Try.f35) [1, 1, 0, 1, 0, 0, 1, 0, 0, 1, 0, 1, 0, 0]), .inBlock 2, .code (sub (bodyOf Try.f35) [1, 1, 0, 1, 0, 0, 1, 0, 0, 1, 1]), .inBlock 1, .code (sub (bodyOf Try.f35) [1, 1, 0, 1, 0, 0, 1, 1]), .inLoop (sub (bodyOf Try.f35) [1, 1, 0, 1, 0, 0]), .inBlock 0, .code (sub (bodyOf Try.f35) [1, 1, 1])] ([(1, .ref 2), (2, .val (.int .i64 pairs4)), (3, .ptr 3 0), (6, .ptr 4 0), (7, .ptr 5 0), (8, .val (.int .i64 i5)), (9, .ref 10), (10, .ref 11), (11, .val (.int .i64 i14))]) ([.ro 2 1 (List.map en_uint8 l15), .blk 3 [.ref 0, .ref 1] 40, .blk 4 [.ref 6, .ref 7] 57, .blk 5 [.ref 8, .ref 9] 57, .ro 10 1 (List.map en_int l16), .row 11 3 1 (List.map en_int l17), .ro 0 1 (List.map en_int l18), .ro 1 1 (List.map en_int l19), .row 6 3 1 (List.map en_int l20), .row 7 3 1 (List.map en_int l21), .row 8 3 1 (List.map en_int l22), .row 9 3 1 (List.map en_int l23)])) (h : ev_law01_picked_j2 n l16 l17 i14 l15 l18 l19 l20 l21 l22 l23 k_law01_picked_l1 i25 = some r) : TC Try.prog ⟨w0, fun _ => False, R0⟩ 85 (bodyPost Try.prog Try.f35 (Post ⟨w0, fun _ => False, R0⟩ env0 (.agg [.ref 0, .ref 1]) [.row 0 3 1 (List.map en_int r.1), .row 1 3 1 (List.map en_int r.2)])) [.code (sub (bodyOf Try.f35) [1, 1, 0, 1, 0, 0, 1, 0, 0, 1, 0, 1, 0, 0, 1, 0, 0, 1, 1, 0]), .code (sub (bodyOf Try.f35) [1, 1, 0, 1, 0, 0, 1, 0, 0, 1, 0, 1, 0, 0, 1, 0, 0, 1, 1, 1]), .inBlock 3, .code (sub (bodyOf Try.f35) [1, 1, 0, 1, 0, 0, 1, 0, 0, 1, 0, 1, 0, 0, 1, 1]), .inLoop (sub (bodyOf Try.f35) [1, 1, 0, 1, 0, 0, 1, 0, 0, 1, 0, 1, 0, 0]), .inBlock 2, .code (sub (bodyOf Try.f35) [1, 1, 0, 1, 0, 0, 1, 0, 0, 1, 1]), .inBlock 1, .code (sub (bodyOf Try.f35) [1, 1, 0, 1, 0, 0, 1, 1]), .inLoop (sub (bodyOf Try.f35) [1, 1, 0, 1, 0, 0]), .inBlock 0, .code (sub (bodyOf Try.f35) [1, 1, 1])] ([(1, .ref 2), (2, .val (.int .i64 pairs4)), (3, .ptr 3 0), (6, .ptr 4 0), (7, .ptr 5 0), (8, .val (.int .i64 i5)), (9, .ref 10), (10, .ref 11), (11, .val (.int .i64 i14)), (12, .val (.int .i64 i25))]) ([.ro 2 1 (List.map en_uint8 l15), .blk 3 [.ref 0, .ref 1] 40, .blk 4 [.ref 6, .ref 7] 57, .blk 5 [.ref 8, .ref 9] 57, .ro 10 1 (List.map en_int l16), .row 11 3 1 (List.map en_int l17), .ro 0 1 (List.map en_int l18), .ro 1 1 (List.map en_int l19), .row 6 3 1 (List.map en_int l20), .row 7 3 1 (List.map en_int l21), .row 8 3 1 (List.map en_int l22), .row 9 3 1 (List.map en_int l23)]) := by
  rw [ev_law01_picked_j2] at h
  refine TC.region ?_
  refine op0 (sp_move rfl rfl) rfl trivial rfl rfl ?_
  refine op0 (sp_move rfl rfl) rfl trivial rfl rfl ?_
  refine op0 (sp_move rfl rfl) rfl trivial rfl rfl ?_
  refine op1 4 rfl (sp_lenM (N := l16.length) (len_map _ _) rfl rfl isRo Try.underlying38) rfl trivial rfl rfl ?_
  obtain ⟨h13, h⟩ := chk_inv h
  refine op0 (sp_rem rfl rfl rfl h13) rfl trivial rfl rfl ?_
  obtain ⟨x26, h14, h15, h⟩ := idx_inv h
  refine op1 4 rfl (sp_indexS rfl rfl rfl isRo sl38 h14 (map_get _ h15)) rfl trivial rfl rfl ?_
  refine op1 4 rfl (sp_loadR (i := ((Int.tmod i25 (l16.length : Int)) : Int).toNat) (j := 0) rfl rfl isRo vt3 rfl (map_get _ h15) rfl (.v (.nil)) (nodup_of_B rfl)) rfl trivial rfl rfl ?_
  refine op0 (sp_assign rfl rfl) rfl trivial rfl rfl ?_
  refine op0 (sp_assign rfl rfl) rfl trivial rfl rfl ?_
  refine TL.nil ?_
  refine TC.seq ?_
  refine TC.block ?_
  refine TC.loop ?_
  refine TC.seq ?_
  refine TC.seq ?_
  refine subJ [] (ok_law01_picked_l3 (pairs4 := pairs4) (i5 := i5) hk_law01_picked_l1 _ _ h) ?_ ?_ ?_
  · exact ⟨rfl, rfl, rfl, rfl, rfl, rfl, rfl, rfl, rfl, rfl, rfl, trivial⟩
  · exact ⟨mem_at 0 rfl, mem_at 1 rfl, mem_at 2 rfl, mem_at 3 rfl, mem_at 4 rfl, mem_at 5 rfl, mem_at 6 rfl, mem_at 7 rfl, mem_at 8 rfl, mem_at 9 rfl, mem_at 10 rfl, mem_at 11 rfl, trivial⟩
  · rfl
def ev_law01_picked_l1 (n : Nat) (pairs4 : Int) (i5 : Int) (k_law01_picked_l0 : Int → (List Int) → (List Int) → (List Int) → (List Int) → (List Int) → (List Int) → (List Int) → Option ((List Int) × (List Int))) : Nat → Int → (List Int) → (List Int) → (List Int) → (List Int) → (List Int) → (List Int) → (List Int) → (List Int) → (List Int) → Option ((List Int) × (List Int))
  | 0, _, _, _, _, _, _, _, _, _, _ => none
  | m + 1, i14, l15, l16, l17, l18, l19, l20, l21, l22, l23 => cond (decide (i14 < pairs4)) (cond (decide ((0 : Int) < (l15.length : Int))) (chk (in64 ((2 : Int) * i14)) <| chk (in64 (((2 : Int) * i14) + i5)) <| chk ((l15.length : Int) != 0) <| idx l15 (Int.tmod (((2 : Int) * i14) + i5) (l15.length : Int)) fun x24 => chk (in64 x24) <| ev_law01_picked_j2 n l16 l17 i14 l15 l18 l19 l20 l21 l22 l23 (fun i14q l15q l16q l17q l18q l19q l20q l21q l22q l23q => ev_law01_picked_l1 n pairs4 i5 k_law01_picked_l0 m i14q l15q l16q l17q l18q l19q l20q l21q l22q l23q) x24) (ev_law01_picked_j2 n l16 l17 i14 l15 l18 l19 l20 l21 l22 l23 (fun i14q l15q l16q l17q l18q l19q l20q l21q l22q l23q => ev_law01_picked_l1 n pairs4 i5 k_law01_picked_l0 m i14q l15q l16q l17q l18q l19q l20q l21q l22q l23q) 0)) (cond (i5 == 0) (chk (in64 (i5 + 1)) <| k_law01_picked_l0 (i5 + 1) l15 l20 l21 l17 l23 l18 l19) (chk (in64 (i5 + 1)) <| k_law01_picked_l0 (i5 + 1) l15 l20 l21 l22 l17 l18 l19))
set_option maxRecDepth 100000 in
set_option maxHeartbeats 2000000 in
theorem ok_law01_picked_l1 {n : Nat} {w0 : World} {R0 : Nat → Prop} {env0 : Env} {r : (List Int) × (List Int)} {pairs4 : Int} {i5 : Int} {k_law01_picked_l0 : Int → (List Int) → (List Int) → (List Int) → (List Int) → (List Int) → (List Int) → (List Int) → Option ((List Int) × (List Int))} (hk_law01_picked_l0 : ∀ (i5 : Int) (l6 : List Int) (l7 : List Int) (l8 : List Int) (l9 : List Int) (l10 : List Int) (l11 : List Int) (l12 : List Int), k_law01_picked_l0 i5 l6 l7 l8 l9 l10 l11 l12 = some r → TC Try.prog ⟨w0, fun _ => False, R0⟩ 85 (bodyPost Try.prog Try.f35 (Post ⟨w0, fun _ => False, R0⟩ env0 (.agg [.ref 0, .ref 1]) [.row 0 3 1 (List.map en_int r.1), .row 1 3 1 (List.map en_int r.2)])) [.code (sub (bodyOf Try.f35) [1, 1, 0, 1, 0, 0, 0, 0]), .code (sub (bodyOf Try.f35) [1, 1, 0, 1, 0, 0, 0, 1]), .code (sub (bodyOf Try.f35) [1, 1, 0, 1, 0, 0, 1]), .inLoop (sub (bodyOf Try.f35) [1, 1, 0, 1, 0, 0]), .inBlock 0, .code (sub (bodyOf Try.f35) [1, 1, 1])] ([(1, .ref 2), (2, .val (.int .i64 pairs4)), (3, .ptr 3 0), (6, .ptr 4 0), (7, .ptr 5 0), (8, .val (.int .i64 i5))]) ([.ro 2 1 (List.map en_uint8 l6), .blk 3 [.ref 0, .ref 1] 40, .row 6 3 1 (List.map en_int l7), .row 7 3 1 (List.map en_int l8), .blk 4 [.ref 6, .ref 7] 57, .row 8 3 1 (List.map en_int l9), .row 9 3 1 (List.map en_int l10), .blk 5 [.ref 8, .ref 9] 57, .ro 0 1 (List.map en_int l11), .ro 1 1 (List.map en_int l12)])) : ∀ (m : Nat) (i14 : Int) (l15 : List Int) (l16 : List Int) (l17 : List Int) (l18 : List Int) (l19 : List Int) (l20 : List Int) (l21 : List Int) (l22 : List Int) (l23 : List Int), ev_law01_picked_l1 n pairs4 i5 k_law01_picked_l0 m i14 l15 l16 l17 l18 l19 l20 l21 l22 l23 = some r → TC Try.prog ⟨w0, fun _ => False, R0⟩ 85 (bodyPost Try.prog Try.f35 (Post ⟨w0, fun _ => False, R0⟩ env0 (.agg [.ref 0, .ref 1]) [.row 0 3 1 (List.map en_int r.1), .row 1 3 1 (List.map en_int r.2)])) [.code (sub (bodyOf Try.f35) [1, 1, 0, 1, 0, 0, 1, 0, 0, 1, 0, 1, 0, 0, 0, 0]), .code (sub (bodyOf Try.f35) [1, 1, 0, 1, 0, 0, 1, 0, 0, 1, 0, 1, 0, 0, 0, 1]), .code (sub (bodyOf Try.f35) [1, 1, 0, 1, 0, 0, 1, 0, 0, 1, 0, 1, 0, 0, 1]), .inLoop (sub (bodyOf Try.f35) [1, 1, 0, 1, 0, 0, 1, 0, 0, 1, 0, 1, 0, 0]), .inBlock 2, .code (sub (bodyOf Try.f35) [1, 1, 0, 1, 0, 0, 1, 0, 0, 1, 1]), .inBlock 1, .code (sub (bodyOf Try.f35) [1, 1, 0, 1, 0, 0, 1, 1]), .inLoop (sub (bodyOf Try.f35) [1, 1, 0, 1, 0, 0]), .inBlock 0, .code (sub (bodyOf Try.f35) [1, 1, 1])] ([(1, .ref 2), (2, .val (.int .i64 pairs4)), (3, .ptr 3 0), (6, .ptr 4 0), (7, .ptr 5 0), (8, .val (.int .i64 i5)), (9, .ref 10), (10, .ref 11), (11, .val (.int .i64 i14))]) ([.ro 2 1 (List.map en_uint8 l15), .blk 3 [.ref 0, .ref 1] 40, .blk 4 [.ref 6, .ref 7] 57, .blk 5 [.ref 8, .ref 9] 57, .ro 10 1 (List.map en_int l16), .row 11 3 1 (List.map en_int l17), .ro 0 1 (List.map en_int l18), .ro 1 1 (List.map en_int l19), .row 6 3 1 (List.map en_int l20), .row 7 3 1 (List.map en_int l21), .row 8 3 1 (List.map en_int l22), .row 9 3 1 (List.map en_int l23)]) := by
  intro m
  induction m with
  | zero => intro i14 l15 l16 l17 l18 l19 l20 l21 l22 l23 h; exact none_no h
  | succ m ih =>
    intro i14 l15 l16 l17 l18 l19 l20 l21 l22 l23 h
    rw [ev_law01_picked_l1] at h
    refine TC.region ?_
    refine op0 (sp_move rfl rfl) rfl trivial rfl rfl ?_
    refine op0 (sp_move rfl rfl) rfl trivial rfl rfl ?_
    refine op0 (sp_lss rfl rfl rfl) rfl trivial rfl rfl ?_
    refine TL.nil ?_
    refine TC.cond (b := (decide (i14 < pairs4))) rfl (fun h5 => ?_) (fun h5 => ?_)
    · have h := cond_t h h5
      refine TC.skip ?_
      refine TC.seq ?_
      refine TC.block ?_
      refine TC.seq ?_
      refine TC.region ?_
      refine op0 (sp_assign rfl rfl) rfl trivial rfl rfl ?_
      refine TL.nil ?_
      refine TC.seq ?_
      refine TC.seq ?_
      refine TC.region ?_
      refine op0 (sp_move rfl rfl) rfl trivial rfl rfl ?_
      refine op1 0 rfl (sp_lenM (N := l15.length) (len_map _ _) rfl rfl isRo Try.underlying62) rfl trivial rfl rfl ?_
      refine op0 (sp_gtr rfl rfl rfl) rfl trivial rfl rfl ?_
      refine TL.nil ?_
      refine TC.cond (b := (decide ((0 : Int) < (l15.length : Int)))) rfl (fun h6 => ?_) (fun h6 => ?_)
      · have h := cond_t h h6
        refine TC.region ?_
        refine op0 (sp_move rfl rfl) rfl trivial rfl rfl ?_
        refine op0 (sp_move rfl rfl) rfl trivial rfl rfl ?_
        obtain ⟨h7, h⟩ := chk_inv h
        refine op0 (sp_mul rfl rfl rfl h7) rfl trivial rfl rfl ?_
        refine op0 (sp_move rfl rfl) rfl trivial rfl rfl ?_
        obtain ⟨h8, h⟩ := chk_inv h
        refine op0 (sp_add rfl rfl rfl h8) rfl trivial rfl rfl ?_
        refine op0 (sp_move rfl rfl) rfl trivial rfl rfl ?_
        refine op1 0 rfl (sp_lenM (N := l15.length) (len_map _ _) rfl rfl isRo Try.underlying62) rfl trivial rfl rfl ?_
        obtain ⟨h9, h⟩ := chk_inv h
        refine op0 (sp_rem rfl rfl rfl h9) rfl trivial rfl rfl ?_
        obtain ⟨x24, h10, h11, h⟩ := idx_inv h
        refine op1 0 rfl (sp_indexS rfl rfl rfl isRo sl62 h10 (map_get _ h11)) rfl trivial rfl rfl ?_
        refine op1 0 rfl (sp_loadR (i := ((Int.tmod (((2 : Int) * i14) + i5) (l15.length : Int)) : Int).toNat) (j := 0) rfl rfl isRo vt5 rfl (map_get _ h11) rfl (.v (.nil)) (nodup_of_B rfl)) rfl trivial rfl rfl ?_
        obtain ⟨h12, h⟩ := chk_inv h
        refine op0 (sp_conv rfl Try.underlying5 Try.underlying3 rfl h12) rfl trivial rfl rfl ?_
        refine op0 (sp_assign rfl rfl) rfl trivial rfl rfl ?_
        refine TL.nil ?_
        refine TC.seq ?_
        refine subJ [] (ok_law01_picked_j2 (pairs4 := pairs4) (i5 := i5) ih h) ?_ ?_ ?_
        · exact ⟨rfl, rfl, rfl, rfl, rfl, rfl, rfl, rfl, rfl, rfl, trivial⟩
        · exact ⟨mem_at 0 rfl, mem_at 1 rfl, mem_at 2 rfl, mem_at 3 rfl, mem_at 4 rfl, mem_at 5 rfl, mem_at 6 rfl, mem_at 7 rfl, mem_at 8 rfl, mem_at 9 rfl, mem_at 10 rfl, mem_at 11 rfl, trivial⟩
        · rfl
      · have h := cond_f h h6
        refine TC.skip ?_
        refine TC.seq ?_
        refine subJ [] (ok_law01_picked_j2 (pairs4 := pairs4) (i5 := i5) ih h) ?_ ?_ ?_
        · exact ⟨rfl, rfl, rfl, rfl, rfl, rfl, rfl, rfl, rfl, rfl, trivial⟩
        · exact ⟨mem_at 0 rfl, mem_at 1 rfl, mem_at 2 rfl, mem_at 3 rfl, mem_at 4 rfl, mem_at 5 rfl, mem_at 6 rfl, mem_at 7 rfl, mem_at 8 rfl, mem_at 9 rfl, mem_at 10 rfl, mem_at 11 rfl, trivial⟩
        · rfl
    · have h := cond_f h h5
      refine TC.exit rfl ?_
      refine TC.seq ?_
      refine TC.region ?_
      refine op0 (sp_move rfl rfl) rfl trivial rfl rfl ?_
      refine op0 (sp_eql rfl rfl rfl) rfl trivial rfl rfl ?_
      refine TL.nil ?_
      refine TC.cond (b := (i5 == 0)) rfl (fun h31 => ?_) (fun h31 => ?_)
      · have h := cond_t h h31
        refine TC.region ?_
        refine op0 (sp_move rfl rfl) rfl trivial rfl rfl ?_
        refine op1 3 rfl (sp_fieldAddrB rfl isBlk rfl ft57_0 vt38 (by decide)) rfl trivial rfl rfl ?_
        refine stoB 3 (cells' := [.ref 11, .ref 9]) rfl rfl trivial rfl rfl rfl rfl vt38 rfl rfl rfl ?_
        refine TL.nil ?_
        refine TC.inBlock ?_
        refine TC.region ?_
        refine op0 (sp_move rfl rfl) rfl trivial rfl rfl ?_
        obtain ⟨h32, h⟩ := chk_inv h
        refine op0 (sp_add rfl rfl rfl h32) rfl trivial rfl rfl ?_
        refine op0 (sp_assign rfl rfl) rfl trivial rfl rfl ?_
        refine TL.nil ?_
        refine TC.inLoop ?_
        refine TC.seq ?_
        refine TC.seq ?_
        refine subJ [(8, 11)] (hk_law01_picked_l0 _ _ _ _ _ _ _ _ h) ?_ ?_ ?_
        · exact ⟨rfl, rfl, rfl, rfl, rfl, rfl, trivial⟩
        · exact ⟨mem_at 0 rfl, mem_at 1 rfl, mem_at 8 rfl, mem_at 9 rfl, mem_at 2 rfl, mem_at 5 rfl, mem_at 11 rfl, mem_at 3 rfl, mem_at 6 rfl, mem_at 7 rfl, trivial⟩
        · rfl
      · have h := cond_f h h31
        refine TC.region ?_
        refine op0 (sp_move rfl rfl) rfl trivial rfl rfl ?_
        refine op1 3 rfl (sp_fieldAddrB rfl isBlk rfl ft57_1 vt38 (by decide)) rfl trivial rfl rfl ?_
        refine stoB 3 (cells' := [.ref 8, .ref 11]) rfl rfl trivial rfl rfl rfl rfl vt38 rfl rfl rfl ?_
        refine TL.nil ?_
        refine TC.inBlock ?_
        refine TC.region ?_
        refine op0 (sp_move rfl rfl) rfl trivial rfl rfl ?_
        obtain ⟨h33, h⟩ := chk_inv h
        refine op0 (sp_add rfl rfl rfl h33) rfl trivial rfl rfl ?_
        refine op0 (sp_assign rfl rfl) rfl trivial rfl rfl ?_
        refine TL.nil ?_
        refine TC.inLoop ?_
        refine TC.seq ?_
        refine TC.seq ?_
        refine subJ [(9, 11)] (hk_law01_picked_l0 _ _ _ _ _ _ _ _ h) ?_ ?_ ?_
        · exact ⟨rfl, rfl, rfl, rfl, rfl, rfl, trivial⟩
        · exact ⟨mem_at 0 rfl, mem_at 1 rfl, mem_at 8 rfl, mem_at 9 rfl, mem_at 2 rfl, mem_at 10 rfl, mem_at 5 rfl, mem_at 3 rfl, mem_at 6 rfl, mem_at 7 rfl, trivial⟩
        · rfl
def ev_law01_picked_l0 (n : Nat) (pairs4 : Int) : Nat → Int → (List Int) → (List Int) → (List Int) → (List Int) → (List Int) → (List Int) → (List Int) → Option ((List Int) × (List Int))
  | 0, _, _, _, _, _, _, _, _ => none
  | m + 1, i5, l6, l7, l8, l9, l10, l11, l12 => cond (decide (i5 < 2)) (chk (decide (0 ≤ i5) && decide (i5 < 2)) <| idx ([l11, l12] : List (List Int)) i5 fun x13 => ev_law01_picked_l1 n pairs4 i5 (fun i5q l6q l7q l8q l9q l10q l11q l12q => ev_law01_picked_l0 n pairs4 m i5q l6q l7q l8q l9q l10q l11q l12q) n 0 l6 x13 ([] : List Int) l11 l12 l7 l8 l9 l10) (some (l9, l10))
set_option maxRecDepth 100000 in
set_option maxHeartbeats 2000000 in
theorem ok_law01_picked_l0 {n : Nat} {w0 : World} {R0 : Nat → Prop} {env0 : Env} {r : (List Int) × (List Int)} {pairs4 : Int} : ∀ (m : Nat) (i5 : Int) (l6 : List Int) (l7 : List Int) (l8 : List Int) (l9 : List Int) (l10 : List Int) (l11 : List Int) (l12 : List Int), ev_law01_picked_l0 n pairs4 m i5 l6 l7 l8 l9 l10 l11 l12 = some r → TC Try.prog ⟨w0, fun _ => False, R0⟩ 85 (bodyPost Try.prog Try.f35 (Post ⟨w0, fun _ => False, R0⟩ env0 (.agg [.ref 0, .ref 1]) [.row 0 3 1 (List.map en_int r.1), .row 1 3 1 (List.map en_int r.2)])) [.code (sub (bodyOf Try.f35) [1, 1, 0, 1, 0, 0, 0, 0]), .code (sub (bodyOf Try.f35) [1, 1, 0, 1, 0, 0, 0, 1]), .code (sub (bodyOf Try.f35) [1, 1, 0, 1, 0, 0, 1]), .inLoop (sub (bodyOf Try.f35) [1, 1, 0, 1, 0, 0]), .inBlock 0, .code (sub (bodyOf Try.f35) [1, 1, 1])] ([(1, .ref 2), (2, .val (.int .i64 pairs4)), (3, .ptr 3 0), (6, .ptr 4 0), (7, .ptr 5 0), (8, .val (.int .i64 i5))]) ([.ro 2 1 (List.map en_uint8 l6), .blk 3 [.ref 0, .ref 1] 40, .row 6 3 1 (List.map en_int l7), .row 7 3 1 (List.map en_int l8), .blk 4 [.ref 6, .ref 7] 57, .row 8 3 1 (List.map en_int l9), .row 9 3 1 (List.map en_int l10), .blk 5 [.ref 8, .ref 9] 57, .ro 0 1 (List.map en_int l11), .ro 1 1 (List.map en_int l12)]) := by
  intro m
  induction m with
  | zero => intro i5 l6 l7 l8 l9 l10 l11 l12 h; exact none_no h
  | succ m ih =>
    intro i5 l6 l7 l8 l9 l10 l11 l12 h
    rw [ev_law01_picked_l0] at h
    refine TC.region ?_
    refine op0 (sp_move rfl rfl) rfl trivial rfl rfl ?_
    refine op0 (sp_lss rfl rfl rfl) rfl trivial rfl rfl ?_
    refine TL.nil ?_
    refine TC.cond (b := (decide (i5 < 2))) rfl (fun h1 => ?_) (fun h1 => ?_)
    · have h := cond_t h h1
      refine TC.skip ?_
      refine TC.seq ?_
      refine TC.block ?_
      refine TC.seq ?_
      refine TC.region ?_
      refine op1 1 rfl (sp_fieldAddrB rfl isBlk rfl ft40_0 vt38 (by decide)) rfl trivial rfl rfl ?_
      refine op1 1 rfl (sp_loadB rfl isBlk rfl vt38 rfl) rfl trivial rfl rfl ?_
      refine op1 1 rfl (sp_fieldAddrB rfl isBlk rfl ft40_1 vt38 (by decide)) rfl trivial rfl rfl ?_
      refine op1 1 rfl (sp_loadB rfl isBlk rfl vt38 rfl) rfl trivial rfl rfl ?_
      refine op0 (sp_build (qs := [(0, .ref 0), (1, .ref 1)]) rfl bt89 rfl rfl rfl rfl) rfl trivial rfl rfl ?_
      refine op0 (sp_move rfl rfl) rfl trivial rfl rfl ?_
      obtain ⟨h4, h⟩ := chk_inv h
      obtain ⟨x13, h2, h3, h⟩ := idx_inv h
      refine opN (need := [.ro 0 1 (List.map en_int l11), .ro 1 1 (List.map en_int l12)]) [8, 9] ⟨rfl, rfl, trivial⟩ (sp_indexRef (ns := [0, 1]) (elss := List.map (List.map en_int) ([l11, l12] : List (List Int))) 10 rfl rfl rfl Try.underlying89 vt38 h4 rfl rfl rfl (map_get _ h3)) rfl trivial rfl rfl ?_
      refine op0 (sp_emptyM 11 (List.map en_int []) rfl rfl sl38) rfl trivial rfl rfl ?_
      refine op0 (sp_assign rfl rfl) rfl trivial rfl rfl ?_
      refine op0 (sp_assign rfl rfl) rfl trivial rfl rfl ?_
      refine TL.nil ?_
      refine TC.seq ?_
      refine TC.seq ?_
      refine TC.region ?_
      refine op0 (sp_assign rfl rfl) rfl trivial rfl rfl ?_
      refine TL.nil ?_
      refine TC.block ?_
      refine TC.loop ?_
      refine TC.seq ?_
      refine TC.seq ?_
      refine subJ [] (ok_law01_picked_l1 ih _ _ _ _ _ _ _ _ _ _ _ h) ?_ ?_ ?_
      · exact ⟨rfl, rfl, rfl, rfl, rfl, rfl, rfl, rfl, rfl, trivial⟩
      · exact ⟨mem_at 2 rfl, mem_at 3 rfl, mem_at 6 rfl, mem_at 9 rfl, mem_at 1 rfl, mem_at 0 rfl, mem_at 10 rfl, mem_at 11 rfl, mem_at 4 rfl, mem_at 5 rfl, mem_at 7 rfl, mem_at 8 rfl, trivial⟩
      · rfl
    · have h := cond_f h h1
      refine TC.exit rfl ?_
      refine TC.seq ?_
      refine TC.region ?_
      refine op1 7 rfl (sp_loadBA rfl isBlk rfl vt57 rfl rfl) rfl trivial rfl rfl ?_
      refine stoB 4 (cells' := [.ref 8, .ref 9]) rfl rfl trivial rfl rfl rfl rfl vt57 rfl rfl rfl ?_
      refine TL.nil ?_
      cases h
      exact retJ [(0, 8), (1, 9)] (.cells rfl (mem_at 4 rfl) isBlk vt57 rfl rfl (.nil)) rfl ⟨mem_at 5 rfl, mem_at 6 rfl, trivial⟩ rfl rfl
def ev_law01_picked (n : Nat) (s1 : List Int) (s2 : List Int) (by_3 : List Int) (pairs4 : Int) : Option ((List Int) × (List Int)) :=
  ev_law01_picked_l0 n pairs4 n 0 by_3 ([] : List Int) ([] : List Int) ([] : List Int) ([] : List Int) s1 s2
set_option maxRecDepth 100000 in
set_option maxHeartbeats 2000000 in
theorem fc_law01_picked {n : Nat} {s1 : List Int} {s2 : List Int} {by_3 : List Int} {pairs4 : Int} {r : (List Int) × (List Int)} (h : ev_law01_picked n s1 s2 by_3 pairs4 = some r) : FC Try.prog 35 [.agg [.ref 0, .ref 1], .ref 2, .val (.int .i64 pairs4)] [.ro 0 1 (List.map en_int s1), .ro 1 1 (List.map en_int s2), .ro 2 1 (List.map en_uint8 by_3)] (.agg [.ref 0, .ref 1]) [.row 0 3 1 (List.map en_int r.1), .row 1 3 1 (List.map en_int r.2)] := by
  refine introJ (nz := 85) Try.func35 rfl rfl rfl (fun w0 R0 env0 => ?_)
  rw [ev_law01_picked] at h
  refine TC.seq ?_
  refine TC.region ?_
  refine op0 (sp_box 3 rfl rfl rfl rfl rfl) rfl trivial rfl rfl ?_
  refine op0 (sp_alloc 4 rfl Try.zeroValue57 rfl) rfl trivial rfl rfl ?_
  refine TL.nil ?_
  refine TC.seq ?_
  refine TC.region ?_
  refine op0 (sp_build (qs := []) rfl bt57 rfl rfl rfl rfl) rfl trivial rfl rfl ?_
  refine op0 (sp_alloc 5 rfl Try.zeroValue57 rfl) rfl trivial rfl rfl ?_
  refine stoB 0 (cells' := [.val (.slice none 0 0), .val (.slice none 0 0)]) rfl rfl trivial rfl rfl rfl rfl vt57 rfl rfl rfl ?_
  refine TL.nil ?_
  refine TC.seq ?_
  refine TC.seq ?_
  refine TC.region ?_
  refine op0 (sp_assign rfl rfl) rfl trivial rfl rfl ?_
  refine TL.nil ?_
  refine TC.block ?_
  refine TC.loop ?_
  refine TC.seq ?_
  refine TC.seq ?_
  refine nilCellC 1 20 3 1 4 (List.map en_int []) [.ref 20, .val (.slice none 0 0)] rfl rfl rfl ?_
  refine nilCellC 2 21 3 1 4 (List.map en_int []) [.ref 20, .ref 21] rfl rfl rfl ?_
  refine nilCellC 2 22 3 1 5 (List.map en_int []) [.ref 22, .val (.slice none 0 0)] rfl rfl rfl ?_
  refine nilCellC 3 23 3 1 5 (List.map en_int []) [.ref 22, .ref 23] rfl rfl rfl ?_
  refine subJ [(6, 20), (7, 21), (8, 22), (9, 23)] (ok_law01_picked_l0 _ _ _ _ _ _ _ _ _ h) ?_ ?_ ?_
  · exact ⟨rfl, rfl, rfl, rfl, rfl, rfl, trivial⟩
  · exact ⟨mem_at 9 rfl, mem_at 6 rfl, mem_at 3 rfl, mem_at 2 rfl, mem_at 5 rfl, mem_at 1 rfl, mem_at 0 rfl, mem_at 4 rfl, mem_at 7 rfl, mem_at 8 rfl, trivial⟩
  · rfl
/- law01_product -/
def ev_law01_product_l0 (n : Nat) (l1 : List Int) : Nat → Int → Int → Option Int
  | 0, _, _ => none
  | m + 1, i2, i3 => cond (decide (i3 < (l1.length : Int))) (idx l1 i3 fun x4 => chk (in64 (i2 * x4)) <| chk (in64 (i3 + 1)) <| ev_law01_product_l0 n l1 m (i2 * x4) (i3 + 1)) (some i2)
set_option maxRecDepth 100000 in
set_option maxHeartbeats 2000000 in
theorem ok_law01_product_l0 {n : Nat} {w0 : World} {R0 : Nat → Prop} {env0 : Env} {r : Int} {l1 : List Int} : ∀ (m : Nat) (i2 : Int) (i3 : Int), ev_law01_product_l0 n l1 m i2 i3 = some r → TC Try.prog ⟨w0, fun _ => False, R0⟩ 18 (bodyPost Try.prog Try.f37 (Post ⟨w0, fun _ => False, R0⟩ env0 (.val (.int .i64 r)) [])) [.code (sub (bodyOf Try.f37) [1, 1, 0, 1, 0, 0, 0, 0]), .code (sub (bodyOf Try.f37) [1, 1, 0, 1, 0, 0, 0, 1]), .code (sub (bodyOf Try.f37) [1, 1, 0, 1, 0, 0, 1]), .inLoop (sub (bodyOf Try.f37) [1, 1, 0, 1, 0, 0]), .inBlock 0, .code (sub (bodyOf Try.f37) [1, 1, 1])] ([(0, .ref 0), (3, .val (.int .i64 i2)), (4, .val (.int .i64 i3))]) ([.ro 0 1 (List.map en_int l1)]) := by
  intro m
  induction m with
  | zero => intro i2 i3 h; exact none_no h
  | succ m ih =>
    intro i2 i3 h
    rw [ev_law01_product_l0] at h
    refine TC.region ?_
    refine op0 (sp_move rfl rfl) rfl trivial rfl rfl ?_
    refine op0 (sp_move rfl rfl) rfl trivial rfl rfl ?_
    refine op1 0 rfl (sp_lenM (N := l1.length) (len_map _ _) rfl rfl isRo Try.underlying38) rfl trivial rfl rfl ?_
    refine op0 (sp_lss rfl rfl rfl) rfl trivial rfl rfl ?_
    refine TL.nil ?_
    refine TC.cond (b := (decide (i3 < (l1.length : Int)))) rfl (fun h1 => ?_) (fun h1 => ?_)
    · have h := cond_t h h1
      refine TC.skip ?_
      refine TC.seq ?_
      refine TC.block ?_
      refine TC.region ?_
      refine op0 (sp_move rfl rfl) rfl trivial rfl rfl ?_
      refine op0 (sp_move rfl rfl) rfl trivial rfl rfl ?_
      refine op0 (sp_move rfl rfl) rfl trivial rfl rfl ?_
      obtain ⟨x4, h2, h3, h⟩ := idx_inv h
      refine op1 0 rfl (sp_indexS rfl rfl rfl isRo sl38 h2 (map_get _ h3)) rfl trivial rfl rfl ?_
      refine op1 0 rfl (sp_loadR (i := (i3 : Int).toNat) (j := 0) rfl rfl isRo vt3 rfl (map_get _ h3) rfl (.v (.nil)) (nodup_of_B rfl)) rfl trivial rfl rfl ?_
      obtain ⟨h4, h⟩ := chk_inv h
      refine op0 (sp_mul rfl rfl rfl h4) rfl trivial rfl rfl ?_
      refine op0 (sp_assign rfl rfl) rfl trivial rfl rfl ?_
      refine TL.nil ?_
      refine TC.inBlock ?_
      refine TC.region ?_
      refine op0 (sp_move rfl rfl) rfl trivial rfl rfl ?_
      obtain ⟨h5, h⟩ := chk_inv h
      refine op0 (sp_add rfl rfl rfl h5) rfl trivial rfl rfl ?_
      refine op0 (sp_assign rfl rfl) rfl trivial rfl rfl ?_
      refine TL.nil ?_
      refine TC.inLoop ?_
      refine TC.seq ?_
      refine TC.seq ?_
      refine subJ [] (ih _ _ h) ?_ ?_ ?_
      · exact ⟨rfl, rfl, rfl, trivial⟩
      · exact ⟨mem_at 0 rfl, trivial⟩
      · rfl
    · have h := cond_f h h1
      refine TC.exit rfl ?_
      refine TC.seq ?_
      refine TC.region ?_
      refine op0 (sp_move rfl rfl) rfl trivial rfl rfl ?_
      refine op0 (sp_assign rfl rfl) rfl trivial rfl rfl ?_
      refine TL.nil ?_
      cases h
      exact retJ [] (.tmp rfl .nil) rfl trivial rfl rfl
def ev_law01_product (n : Nat) (l1 : List Int) : Option Int :=
  ev_law01_product_l0 n l1 n 1 0
set_option maxRecDepth 100000 in
set_option maxHeartbeats 2000000 in
theorem fc_law01_product {n : Nat} {l1 : List Int} {r : Int} (h : ev_law01_product n l1 = some r) : FC Try.prog 37 [.ref 0] [.ro 0 1 (List.map en_int l1)] (.val (.int .i64 r)) [] := by
  refine introJ (nz := 18) Try.func37 rfl rfl rfl (fun w0 R0 env0 => ?_)
  rw [ev_law01_product] at h
  refine TC.seq ?_
  refine TC.region ?_
  refine op0 (sp_assign rfl rfl) rfl trivial rfl rfl ?_
  refine TL.nil ?_
  refine TC.seq ?_
  refine TC.region ?_
  refine op0 (sp_assign rfl rfl) rfl trivial rfl rfl ?_
  refine TL.nil ?_
  refine TC.seq ?_
  refine TC.seq ?_
  refine TC.region ?_
  refine op0 (sp_assign rfl rfl) rfl trivial rfl rfl ?_
  refine TL.nil ?_
  refine TC.block ?_
  refine TC.loop ?_
  refine TC.seq ?_
  refine TC.seq ?_
  refine subJ [] (ok_law01_product_l0 _ _ _ h) ?_ ?_ ?_
  · exact ⟨rfl, rfl, rfl, trivial⟩
  · exact ⟨mem_at 0 rfl, trivial⟩
  · rfl
/- law01_gcd -/
def ev_law01_gcd_l0 (n : Nat) : Nat → Int → Int → Option Int
  | 0, _, _ => none
  | m + 1, i3, i4 => cond (decide ((0 : Int) < i4)) (chk (i4 != 0) <| ev_law01_gcd_l0 n m i4 (Int.tmod i3 i4)) (some i3)
set_option maxRecDepth 100000 in
set_option maxHeartbeats 2000000 in
theorem ok_law01_gcd_l0 {n : Nat} {w0 : World} {R0 : Nat → Prop} {env0 : Env} {r : Int} : ∀ (m : Nat) (i3 : Int) (i4 : Int), ev_law01_gcd_l0 n m i3 i4 = some r → TC Try.prog ⟨w0, fun _ => False, R0⟩ 12 (bodyPost Try.prog Try.f40 (Post ⟨w0, fun _ => False, R0⟩ env0 (.val (.int .i64 r)) [])) [.code (sub (bodyOf Try.f40) [1, 0, 0, 0, 0, 0]), .code (sub (bodyOf Try.f40) [1, 0, 0, 0, 0, 1]), .code (sub (bodyOf Try.f40) [1, 0, 0, 0, 1]), .inLoop (sub (bodyOf Try.f40) [1, 0, 0, 0]), .inBlock 0, .code (sub (bodyOf Try.f40) [1, 1])] ([(0, .val (.int .i64 i3)), (1, .val (.int .i64 i4))]) ([]) := by
  intro m
  induction m with
  | zero => intro i3 i4 h; exact none_no h
  | succ m ih =>
    intro i3 i4 h
    rw [ev_law01_gcd_l0] at h
    refine TC.region ?_
    refine op0 (sp_move rfl rfl) rfl trivial rfl rfl ?_
    refine op0 (sp_gtr rfl rfl rfl) rfl trivial rfl rfl ?_
    refine TL.nil ?_
    refine TC.cond (b := (decide ((0 : Int) < i4))) rfl (fun h1 => ?_) (fun h1 => ?_)
    · have h := cond_t h h1
      refine TC.skip ?_
      refine TC.block ?_
      obtain ⟨h2, h⟩ := chk_inv h
      refine drawJ 5 [⟨.val (.int .i64 i4), [], [], []⟩, ⟨.val (.int .i64 i3), [], [], []⟩, ⟨.val (.int .i64 i4), [], [], []⟩, ⟨.val (.int .i64 (Int.tmod i3 i4)), [], [], []⟩, ⟨.val (.int .i64 i4), [], [], []⟩] rfl ?_ rfl ?_ rfl ?_ ?_
      · kernel_rfl
      · kernel_rfl
      · exact DAll.op' (sp_move rfl rfl) trivial rfl (From.ok (ps := []) trivial) (DAll.op' (sp_move rfl rfl) trivial rfl (From.ok (ps := []) trivial) (DAll.op' (sp_move rfl rfl) trivial rfl (From.ok (ps := []) trivial) (DAll.op' (sp_rem rfl rfl rfl h2) trivial rfl (From.ok (ps := []) trivial) (DAll.op' (sp_assign rfl rfl) trivial rfl (From.ok (ps := []) trivial) (.nil)))))
      refine op0 (sp_assign rfl rfl) rfl trivial rfl rfl ?_
      refine TL.nil ?_
      refine TC.inBlock ?_
      refine TC.inLoop ?_
      refine TC.seq ?_
      refine TC.seq ?_
      refine subJ [] (ih _ _ h) ?_ ?_ ?_
      · exact ⟨rfl, rfl, trivial⟩
      · exact trivial
      · rfl
    · have h := cond_f h h1
      refine TC.exit rfl ?_
      refine TC.seq ?_
      refine TC.region ?_
      refine op0 (sp_move rfl rfl) rfl trivial rfl rfl ?_
      refine op0 (sp_assign rfl rfl) rfl trivial rfl rfl ?_
      refine TL.nil ?_
      cases h
      exact retJ [] (.tmp rfl .nil) rfl trivial rfl rfl
def ev_law01_gcd (n : Nat) (a1 : Int) (b2 : Int) : Option Int :=
  ev_law01_gcd_l0 n n a1 b2
set_option maxRecDepth 100000 in
set_option maxHeartbeats 2000000 in
theorem fc_law01_gcd {n : Nat} {a1 : Int} {b2 : Int} {r : Int} (h : ev_law01_gcd n a1 b2 = some r) : FC Try.prog 40 [.val (.int .i64 a1), .val (.int .i64 b2)] [] (.val (.int .i64 r)) [] := by
  refine introJ (nz := 12) Try.func40 rfl rfl rfl (fun w0 R0 env0 => ?_)
  rw [ev_law01_gcd] at h
  refine TC.seq ?_
  refine TC.region ?_
  refine op0 (sp_assign rfl rfl) rfl trivial rfl rfl ?_
  refine TL.nil ?_
  refine TC.seq ?_
  refine TC.block ?_
  refine TC.loop ?_
  refine TC.seq ?_
  refine TC.seq ?_
  refine subJ [] (ok_law01_gcd_l0 _ _ _ h) ?_ ?_ ?_
  · exact ⟨rfl, rfl, trivial⟩
  · exact trivial
  · rfl
/- law01_lowest -/
def ev_law01_lowest (n : Nat) (num1 : Int) (den2 : Int) : Option (Int × Int × Bool) :=
  (ev_law01_gcd n num1 den2).bind fun r3 => chk (r3 != 0) <| chk (in64 (Int.tdiv num1 r3)) <| chk (r3 != 0) <| chk (in64 (Int.tdiv den2 r3)) <| cond (decide ((Int.tdiv num1 r3) ≤ 1000000)) (some ((Int.tdiv num1 r3), (Int.tdiv den2 r3), (decide ((Int.tdiv den2 r3) ≤ 1000000)))) (some ((Int.tdiv num1 r3), (Int.tdiv den2 r3), false))
set_option maxRecDepth 100000 in
set_option maxHeartbeats 2000000 in
theorem fc_law01_lowest {n : Nat} {num1 : Int} {den2 : Int} {r : Int × Int × Bool} (h : ev_law01_lowest n num1 den2 = some r) : FC Try.prog 36 [.val (.int .i64 num1), .val (.int .i64 den2)] [] (.tup [.agg [.val (.int .i64 r.1), .val (.int .i64 r.2.1)], .val (.bool r.2.2)]) [] := by
  refine introJ (nz := 27) Try.func36 rfl rfl rfl (fun w0 R0 env0 => ?_)
  rw [ev_law01_lowest] at h
  refine TC.seq ?_
  refine TC.region ?_
  refine op0 (sp_alloc 0 rfl Try.zeroValue26 rfl) rfl trivial rfl rfl ?_
  refine op0 (sp_assign rfl rfl) rfl trivial rfl rfl ?_
  refine TL.nil ?_
  refine TC.seq ?_
  refine TC.region ?_
  refine op0 (sp_move rfl rfl) rfl trivial rfl rfl ?_
  refine op0 (sp_move rfl rfl) rfl trivial rfl rfl ?_
  obtain ⟨r3, h1, h⟩ := bind_inv h
  refine op0 (sp_call (avs := [.val (.int .i64 num1), .val (.int .i64 den2)]) (need := []) (v := .val (.int .i64 r3)) (news := []) rfl rfl rfl Try.call40 (atJ [] [] (fc_law01_gcd h1) rfl rfl) (.inl (roAll rfl))) rfl trivial rfl rfl ?_
  refine op0 (sp_assign rfl rfl) rfl trivial rfl rfl ?_
  refine TL.nil ?_
  refine TC.seq ?_
  obtain ⟨h2, h⟩ := chk_inv h
  obtain ⟨h3, h⟩ := chk_inv h
  obtain ⟨h4, h⟩ := chk_inv h
  obtain ⟨h5, h⟩ := chk_inv h
  refine drawJ 8 [⟨.val (.int .i64 num1), [], [], []⟩, ⟨.val (.int .i64 r3), [], [], []⟩, ⟨.val (.int .i64 (Int.tdiv num1 r3)), [], [], []⟩, ⟨.val (.int .i64 den2), [], [], []⟩, ⟨.val (.int .i64 r3), [], [], []⟩, ⟨.val (.int .i64 (Int.tdiv den2 r3)), [], [], []⟩, ⟨.agg [.val (.int .i64 (Int.tdiv num1 r3)), .val (.int .i64 (Int.tdiv den2 r3))], [], [], []⟩, ⟨.ptr 1 0, [.blk 1 [.val (.int .i64 0), .val (.int .i64 0)] 26], [], []⟩] rfl ?_ rfl ?_ rfl ?_ ?_
  · kernel_rfl
  · kernel_rfl
  · exact DAll.op' (sp_move rfl rfl) trivial rfl (From.ok (ps := []) trivial) (DAll.op' (sp_move rfl rfl) trivial rfl (From.ok (ps := []) trivial) (DAll.op' (sp_quo rfl rfl rfl h2 h3) trivial rfl (From.ok (ps := []) trivial) (DAll.op' (sp_move rfl rfl) trivial rfl (From.ok (ps := []) trivial) (DAll.op' (sp_move rfl rfl) trivial rfl (From.ok (ps := []) trivial) (DAll.op' (sp_quo rfl rfl rfl h4 h5) trivial rfl (From.ok (ps := []) trivial) (DAll.op' (sp_build (qs := [(0, .val (.int .i64 (Int.tdiv num1 r3))), (1, .val (.int .i64 (Int.tdiv den2 r3)))]) rfl bt26 rfl rfl rfl rfl) trivial rfl (From.ok (ps := []) trivial) (DAll.op' (sp_alloc 1 rfl Try.zeroValue26 rfl) trivial rfl (From.ok (ps := []) trivial) (.nil))))))))
  refine stoB 0 (cells' := [.val (.int .i64 (Int.tdiv num1 r3)), .val (.int .i64 (Int.tdiv den2 r3))]) rfl rfl trivial rfl rfl rfl rfl vt26 rfl rfl rfl ?_
  refine TL.nil ?_
  refine TC.seq ?_
  rcases cond_cases h with ⟨h6, h⟩ | ⟨h6, h⟩
  · refine drawJ 10 [⟨.agg [.val (.int .i64 (Int.tdiv num1 r3)), .val (.int .i64 (Int.tdiv den2 r3))], [], [.blk 1 [.val (.int .i64 (Int.tdiv num1 r3)), .val (.int .i64 (Int.tdiv den2 r3))] 26], []⟩, ⟨.ptr 1 0, [], [.blk 1 [.val (.int .i64 (Int.tdiv num1 r3)), .val (.int .i64 (Int.tdiv den2 r3))] 26], []⟩, ⟨.val (.int .i64 (Int.tdiv num1 r3)), [], [.blk 1 [.val (.int .i64 (Int.tdiv num1 r3)), .val (.int .i64 (Int.tdiv den2 r3))] 26], []⟩, ⟨.val (.bool (decide ((Int.tdiv num1 r3) ≤ 1000000))), [], [], []⟩, ⟨.val (.bool true), [], [], []⟩, ⟨.ptr 1 1, [], [.blk 1 [.val (.int .i64 (Int.tdiv num1 r3)), .val (.int .i64 (Int.tdiv den2 r3))] 26], []⟩, ⟨.val (.int .i64 (Int.tdiv den2 r3)), [], [.blk 1 [.val (.int .i64 (Int.tdiv num1 r3)), .val (.int .i64 (Int.tdiv den2 r3))] 26], []⟩, ⟨.val (.bool (decide ((Int.tdiv den2 r3) ≤ 1000000))), [], [], []⟩, ⟨.val (.bool (decide ((Int.tdiv den2 r3) ≤ 1000000))), [], [], []⟩, ⟨.val (undef), [.blk 0 [.val (.int .i64 (Int.tdiv num1 r3)), .val (.int .i64 (Int.tdiv den2 r3))] 26], [], [.blk 0 [.val (.int .i64 0), .val (.int .i64 0)] 26]⟩] rfl ?_ rfl ?_ rfl ?_ ?_
    · kernel_rfl
    · kernel_rfl
    · exact DAll.op' (sp_loadBA rfl isBlk rfl vt26 rfl rfl) trivial rfl (From.ok (ps := [(none, 0)]) ⟨⟨rfl, by kernel_rfl⟩, trivial⟩) (DAll.op' (sp_fieldAddrB rfl isBlk rfl ft26_0 vt3 (by decide)) trivial rfl (From.ok (ps := [(none, 0)]) ⟨⟨rfl, by kernel_rfl⟩, trivial⟩) (DAll.op' (sp_loadB rfl isBlk rfl vt3 rfl) trivial rfl (From.ok (ps := [(none, 0)]) ⟨⟨rfl, by kernel_rfl⟩, trivial⟩) (DAll.op' (sp_leq rfl rfl rfl) trivial rfl (From.ok (ps := []) trivial) (DAll.op' (sp_castB h6 (sp_move rfl rfl)) trivial rfl (From.ok (ps := []) trivial) (DAll.op' (sp_fieldAddrB rfl isBlk rfl ft26_1 vt3 (by decide)) ⟨_, rfl, rfl⟩ rfl (From.ok (ps := [(none, 0)]) ⟨⟨rfl, by kernel_rfl⟩, trivial⟩) (DAll.op' (sp_loadB rfl isBlk rfl vt3 rfl) ⟨_, rfl, rfl⟩ rfl (From.ok (ps := [(none, 0)]) ⟨⟨rfl, by kernel_rfl⟩, trivial⟩) (DAll.op' (sp_leq rfl rfl rfl) ⟨_, rfl, rfl⟩ rfl (From.ok (ps := []) trivial) (DAll.op' (sp_pickT rfl rfl rfl) trivial rfl (From.ok (ps := []) trivial) (DAll.opT (ts_storeB (off := 0) (cells' := [.val (.int .i64 (Int.tdiv num1 r3)), .val (.int .i64 (Int.tdiv den2 r3))]) rfl rfl rfl rfl vt26 rfl rfl rfl) trivial (From.ok (ps := [(none, 1)]) ⟨⟨rfl, by kernel_rfl⟩, trivial⟩) (From.ok (ps := []) trivial) (.nil))))))))))
    refine op0 (sp_assign rfl rfl) rfl trivial rfl rfl ?_
    refine TL.nil ?_
    cases h
    exact retJ [] (.cells rfl (mem_at 0 rfl) isBlk vt26 rfl rfl (.tmp rfl .nil)) rfl trivial rfl rfl
  · refine drawJ 10 [⟨.agg [.val (.int .i64 (Int.tdiv num1 r3)), .val (.int .i64 (Int.tdiv den2 r3))], [], [.blk 1 [.val (.int .i64 (Int.tdiv num1 r3)), .val (.int .i64 (Int.tdiv den2 r3))] 26], []⟩, ⟨.ptr 1 0, [], [.blk 1 [.val (.int .i64 (Int.tdiv num1 r3)), .val (.int .i64 (Int.tdiv den2 r3))] 26], []⟩, ⟨.val (.int .i64 (Int.tdiv num1 r3)), [], [.blk 1 [.val (.int .i64 (Int.tdiv num1 r3)), .val (.int .i64 (Int.tdiv den2 r3))] 26], []⟩, ⟨.val (.bool (decide ((Int.tdiv num1 r3) ≤ 1000000))), [], [], []⟩, ⟨.val (.bool false), [], [], []⟩, ⟨.val (undef), [], [], []⟩, ⟨.val (undef), [], [], []⟩, ⟨.val (undef), [], [], []⟩, ⟨.val (.bool false), [], [], []⟩, ⟨.val (undef), [.blk 0 [.val (.int .i64 (Int.tdiv num1 r3)), .val (.int .i64 (Int.tdiv den2 r3))] 26], [], [.blk 0 [.val (.int .i64 0), .val (.int .i64 0)] 26]⟩] rfl ?_ rfl ?_ rfl ?_ ?_
    · kernel_rfl
    · kernel_rfl
    · exact DAll.op' (sp_loadBA rfl isBlk rfl vt26 rfl rfl) trivial rfl (From.ok (ps := [(none, 0)]) ⟨⟨rfl, by kernel_rfl⟩, trivial⟩) (DAll.op' (sp_fieldAddrB rfl isBlk rfl ft26_0 vt3 (by decide)) trivial rfl (From.ok (ps := [(none, 0)]) ⟨⟨rfl, by kernel_rfl⟩, trivial⟩) (DAll.op' (sp_loadB rfl isBlk rfl vt3 rfl) trivial rfl (From.ok (ps := [(none, 0)]) ⟨⟨rfl, by kernel_rfl⟩, trivial⟩) (DAll.op' (sp_leq rfl rfl rfl) trivial rfl (From.ok (ps := []) trivial) (DAll.op' (sp_castB h6 (sp_move rfl rfl)) trivial rfl (From.ok (ps := []) trivial) (.skip ⟨_, rfl, .inl rfl⟩ rfl rfl rfl (.skip ⟨_, rfl, .inl rfl⟩ rfl rfl rfl (.skip ⟨_, rfl, .inl rfl⟩ rfl rfl rfl (DAll.op' (sp_pickF rfl rfl rfl) trivial rfl (From.ok (ps := []) trivial) (DAll.opT (ts_storeB (off := 0) (cells' := [.val (.int .i64 (Int.tdiv num1 r3)), .val (.int .i64 (Int.tdiv den2 r3))]) rfl rfl rfl rfl vt26 rfl rfl rfl) trivial (From.ok (ps := [(none, 1)]) ⟨⟨rfl, by kernel_rfl⟩, trivial⟩) (From.ok (ps := []) trivial) (.nil))))))))))
    refine op0 (sp_assign rfl rfl) rfl trivial rfl rfl ?_
    refine TL.nil ?_
    cases h
    exact retJ [] (.cells rfl (mem_at 0 rfl) isBlk vt26 rfl rfl (.tmp rfl .nil)) rfl trivial rfl rfl
/- law01_shop -/
def ev_law01_shop (n : Nat) : Option ((List Int) × (List Int)) :=
  some (([60, 64, 96] : List Int), ([8, 10, 12] : List Int))
set_option maxRecDepth 100000 in
set_option maxHeartbeats 2000000 in
theorem fc_law01_shop {n : Nat}  {r : (List Int) × (List Int)} (h : ev_law01_shop n = some r) : FC Try.prog 43 [] [] (.agg [.ref 0, .ref 1]) [.row 0 3 1 (List.map en_int r.1), .row 1 3 1 (List.map en_int r.2)] := by
  refine introJ (nz := 4) Try.func43 rfl rfl rfl (fun w0 R0 env0 => ?_)
  rw [ev_law01_shop] at h
  refine TC.seq ?_
  refine TC.region ?_
  refine op0 (sp_alloc 0 rfl Try.zeroValue40 rfl) rfl trivial rfl rfl ?_
  refine TL.nil ?_
  refine TC.seq ?_
  refine TC.region ?_
  refine op0 (sp_buildSlice (qs := [.val (.int .i64 60), .val (.int .i64 64), .val (.int .i64 96)]) (need := []) (els := List.map en_int ([60, 64, 96] : List Int)) 1 rfl sl38 (by decide) (by decide) rfl rfl rfl (.v (.v (.v (.nil)))) (map_len fun _ => rfl) rfl rfl rfl) rfl trivial rfl rfl ?_
  refine op0 (sp_buildSlice (qs := [.val (.int .i64 8), .val (.int .i64 10), .val (.int .i64 12)]) (need := []) (els := List.map en_int ([8, 10, 12] : List Int)) 2 rfl sl38 (by decide) (by decide) rfl rfl rfl (.v (.v (.v (.nil)))) (map_len fun _ => rfl) rfl rfl rfl) rfl trivial rfl rfl ?_
  refine op0 (sp_build (qs := [(0, .ref 1), (1, .ref 2)]) rfl bt40 rfl rfl rfl rfl) rfl trivial rfl rfl ?_
  refine stoB 2 (cells' := [.ref 1, .ref 2]) rfl rfl trivial rfl rfl rfl rfl vt40 rfl rfl rfl ?_
  refine TL.nil ?_
  cases h
  exact retJ [(0, 1), (1, 2)] (.cells rfl (mem_at 2 rfl) isBlk vt40 rfl rfl (.nil)) rfl ⟨mem_at 1 rfl, mem_at 0 rfl, trivial⟩ rfl rfl
/- law01_known -/
def ev_law01_known_j0 (n : Nat) (r1 : Int × Int × Bool × Int) (r2 : Int × Int) (r6 : (List Int) × Int) (r4 : (List ((List Int) × (List Int))) × Int) (r10 : (List Int) × (List Int) × Int) : Option Bool :=
  cond ((r1.1 == 16) && (r1.2.1 == 3)) (cond r1.2.2.1 (cond (r2.1 == 3) ((ev_ref01_Same n r6.1 ([7, 11] : List Int)).bind fun r11 => cond r11 (idx r4.1 0 fun x12 => (ev_ref01_Equal n x12.1 x12.2 ([60, 64] : List Int) ([8, 10] : List Int)).bind fun r13 => cond r13 (idx r4.1 1 fun x14 => (ev_ref01_Equal n x14.1 x14.2 ([60, 96] : List Int) ([10, 12] : List Int)).bind fun r15 => cond r15 ((ev_ref01_Equal n r10.1 r10.2.1 ([60] : List Int) ([10] : List Int)).bind fun r16 => some r16) (some false)) (some false)) (some false)) (some false)) (some false)) (some false)
set_option maxRecDepth 100000 in
set_option maxHeartbeats 2000000 in
theorem ok_law01_known_j0 {n : Nat} {w0 : World} {R0 : Nat → Prop} {env0 : Env} {r : Bool} {r1 : Int × Int × Bool × Int} {r2 : Int × Int} {r4 : (List ((List Int) × (List Int))) × Int} {r6 : (List Int) × Int} {r10 : (List Int) × (List Int) × Int} (h : ev_law01_known_j0 n r1 r2 r6 r4 r10 = some r) : TC Try.prog ⟨w0, fun _ => False, R0⟩ 124 (bodyPost Try.prog Try.f12 (Post ⟨w0, fun _ => False, R0⟩ env0 (.val (.bool r)) [])) [.code (sub (bodyOf Try.f12) [1, 1, 1, 1, 1, 1, 1, 0, 1, 1]), .code (sub (bodyOf Try.f12) [1, 1, 1, 1, 1, 1, 1, 1])] ([(1, .ptr 1 0), (2, .val (.bool r1.2.2.1)), (4, .val (.int .i64 r2.1)), (6, .ref 5), (8, .ref 8), (12, .ptr 16 0)]) ([.blk 1 [.val (.int .i64 r1.1), .val (.int .i64 r1.2.1)] 26, .row 5 57 2 (List.map en_api_Train r4.1), .row 8 3 1 (List.map en_int r6.1), .blk 16 [.ref 14, .ref 15] 57, .ro 14 1 (List.map en_int r10.1), .ro 15 1 (List.map en_int r10.2.1)]) := by
  rw [ev_law01_known_j0] at h
  refine TC.skip ?_
  refine TC.seq ?_
  refine TC.region ?_
  refine op1 0 rfl (sp_loadBA rfl isBlk rfl vt26 rfl rfl) rfl trivial rfl rfl ?_
  refine op0 (sp_build (qs := [(0, .val (.int .i64 16)), (1, .val (.int .i64 3))]) rfl bt26 rfl rfl rfl rfl) rfl trivial rfl rfl ?_
  refine op0 (sp_eqlS rfl rfl rfl rfl rfl (eq26 _ _ _ _)) rfl trivial rfl rfl ?_
  refine op0 (sp_move rfl rfl) rfl trivial rfl rfl ?_
  rcases cond_cases h with ⟨h19, h⟩ | ⟨h19, h⟩
  · refine (boolLit 87 rfl h19).2 ?_
    refine op0 (sp_move rfl rfl) rfl ⟨_, rfl, rfl⟩ rfl rfl ?_
    refine op0 (sp_pickT rfl rfl rfl) rfl trivial rfl rfl ?_
    refine op0 (sp_move rfl rfl) rfl trivial rfl rfl ?_
    rcases cond_cases h with ⟨h20, h⟩ | ⟨h20, h⟩
    · refine (boolLit 90 rfl h20).2 ?_
      refine op0 (sp_move rfl rfl) rfl ⟨_, rfl, rfl⟩ rfl rfl ?_
      refine op0 (sp_eql rfl rfl rfl) rfl ⟨_, rfl, rfl⟩ rfl rfl ?_
      refine op0 (sp_pickT rfl rfl rfl) rfl trivial rfl rfl ?_
      refine op0 (sp_move rfl rfl) rfl trivial rfl rfl ?_
      rcases cond_cases h with ⟨h21, h⟩ | ⟨h21, h⟩
      · refine (boolLit 94 rfl h21).2 ?_
        refine op0 (sp_move rfl rfl) rfl ⟨_, rfl, rfl⟩ rfl rfl ?_
        refine op0 (sp_buildSlice (qs := [.val (.int .i64 7), .val (.int .i64 11)]) (need := []) (els := List.map en_int ([7, 11] : List Int)) 17 rfl sl38 (by decide) (by decide) rfl rfl rfl (.v (.v (.nil))) (map_len fun _ => rfl) rfl rfl rfl) rfl ⟨_, rfl, rfl⟩ rfl rfl ?_
        obtain ⟨r11, h22, h⟩ := bind_inv h
        refine opN (need := [.row 8 3 1 (List.map en_int r6.1), .row 17 3 1 (List.map en_int ([7, 11] : List Int))]) [3, 0] ⟨rfl, rfl, trivial⟩ (sp_call (avs := [.ref 8, .ref 17]) (need := [.row 8 3 1 (List.map en_int r6.1), .row 17 3 1 (List.map en_int ([7, 11] : List Int))]) (v := .val (.bool r11)) (news := []) rfl rfl rfl Try.call27 (atJ [(0, 8), (1, 17)] [] (fc_ref01_Same h22) rfl rfl) (.inr (fun x hx => nomatch hx))) rfl ⟨_, rfl, rfl⟩ rfl rfl ?_
        refine op0 (sp_pickT rfl rfl rfl) rfl trivial rfl rfl ?_
        refine op0 (sp_move rfl rfl) rfl trivial rfl rfl ?_
        rcases cond_cases h with ⟨h23, h⟩ | ⟨h23, h⟩
        · refine (boolLit 99 rfl h23).2 ?_
          refine op0 (sp_move rfl rfl) rfl ⟨_, rfl, rfl⟩ rfl rfl ?_
          obtain ⟨x12, h24, h25, h⟩ := idx_inv h
          refine op1 2 rfl (sp_indexS rfl rfl rfl isOwn sl52 h24 (map_get _ h25)) rfl ⟨_, rfl, rfl⟩ rfl rfl ?_
          refine op1 2 rfl (sp_loadRA (i := (0 : Int).toNat) (j := 0) (as_ := [.ref 18, .ref 19]) (ns := [.ro 18 1 (List.map en_int x12.1), .ro 19 1 (List.map en_int x12.2)]) rfl rfl isOwn vt57 rfl (map_get _ h25) rfl rfl (by decide) (.s (.s (.nil))) (nodup_of_B rfl)) rfl ⟨_, rfl, rfl⟩ rfl rfl ?_
          refine op0 (sp_buildSlice (qs := [.val (.int .i64 60), .val (.int .i64 64)]) (need := []) (els := List.map en_int ([60, 64] : List Int)) 20 rfl sl38 (by decide) (by decide) rfl rfl rfl (.v (.v (.nil))) (map_len fun _ => rfl) rfl rfl rfl) rfl ⟨_, rfl, rfl⟩ rfl rfl ?_
          refine op0 (sp_buildSlice (qs := [.val (.int .i64 8), .val (.int .i64 10)]) (need := []) (els := List.map en_int ([8, 10] : List Int)) 21 rfl sl38 (by decide) (by decide) rfl rfl rfl (.v (.v (.nil))) (map_len fun _ => rfl) rfl rfl rfl) rfl ⟨_, rfl, rfl⟩ rfl rfl ?_
          refine op0 (sp_build (qs := [(0, .ref 20), (1, .ref 21)]) rfl bt57 rfl rfl rfl rfl) rfl ⟨_, rfl, rfl⟩ rfl rfl ?_
          obtain ⟨r13, h26, h⟩ := bind_inv h
          refine opN (need := [.ro 18 1 (List.map en_int x12.1), .ro 19 1 (List.map en_int x12.2), .row 20 3 1 (List.map en_int ([60, 64] : List Int)), .row 21 3 1 (List.map en_int ([8, 10] : List Int))]) [2, 3, 1, 0] ⟨rfl, rfl, rfl, rfl, trivial⟩ (sp_call (avs := [.agg [.ref 18, .ref 19], .agg [.ref 20, .ref 21]]) (need := [.ro 18 1 (List.map en_int x12.1), .ro 19 1 (List.map en_int x12.2), .row 20 3 1 (List.map en_int ([60, 64] : List Int)), .row 21 3 1 (List.map en_int ([8, 10] : List Int))]) (v := .val (.bool r13)) (news := []) rfl rfl rfl Try.call31 (atJ [(0, 18), (1, 19), (2, 20), (3, 21)] [] (fc_ref01_Equal h26) rfl rfl) (.inr (fun x hx => nomatch hx))) rfl ⟨_, rfl, rfl⟩ rfl rfl ?_
          refine op0 (sp_pickT rfl rfl rfl) rfl trivial rfl rfl ?_
          refine op0 (sp_move rfl rfl) rfl trivial rfl rfl ?_
          rcases cond_cases h with ⟨h27, h⟩ | ⟨h27, h⟩
          · refine (boolLit 108 rfl h27).2 ?_
            refine op0 (sp_move rfl rfl) rfl ⟨_, rfl, rfl⟩ rfl rfl ?_
            obtain ⟨x14, h28, h29, h⟩ := idx_inv h
            refine op1 6 rfl (sp_indexS rfl rfl rfl isOwn sl52 h28 (map_get _ h29)) rfl ⟨_, rfl, rfl⟩ rfl rfl ?_
            refine op1 6 rfl (sp_loadRA (i := (1 : Int).toNat) (j := 0) (as_ := [.ref 22, .ref 23]) (ns := [.ro 22 1 (List.map en_int x14.1), .ro 23 1 (List.map en_int x14.2)]) rfl rfl isOwn vt57 rfl (map_get _ h29) rfl rfl (by decide) (.s (.s (.nil))) (nodup_of_B rfl)) rfl ⟨_, rfl, rfl⟩ rfl rfl ?_
            refine op0 (sp_buildSlice (qs := [.val (.int .i64 60), .val (.int .i64 96)]) (need := []) (els := List.map en_int ([60, 96] : List Int)) 24 rfl sl38 (by decide) (by decide) rfl rfl rfl (.v (.v (.nil))) (map_len fun _ => rfl) rfl rfl rfl) rfl ⟨_, rfl, rfl⟩ rfl rfl ?_
            refine op0 (sp_buildSlice (qs := [.val (.int .i64 10), .val (.int .i64 12)]) (need := []) (els := List.map en_int ([10, 12] : List Int)) 25 rfl sl38 (by decide) (by decide) rfl rfl rfl (.v (.v (.nil))) (map_len fun _ => rfl) rfl rfl rfl) rfl ⟨_, rfl, rfl⟩ rfl rfl ?_
            refine op0 (sp_build (qs := [(0, .ref 24), (1, .ref 25)]) rfl bt57 rfl rfl rfl rfl) rfl ⟨_, rfl, rfl⟩ rfl rfl ?_
            obtain ⟨r15, h30, h⟩ := bind_inv h
            refine opN (need := [.ro 22 1 (List.map en_int x14.1), .ro 23 1 (List.map en_int x14.2), .row 24 3 1 (List.map en_int ([60, 96] : List Int)), .row 25 3 1 (List.map en_int ([10, 12] : List Int))]) [2, 3, 1, 0] ⟨rfl, rfl, rfl, rfl, trivial⟩ (sp_call (avs := [.agg [.ref 22, .ref 23], .agg [.ref 24, .ref 25]]) (need := [.ro 22 1 (List.map en_int x14.1), .ro 23 1 (List.map en_int x14.2), .row 24 3 1 (List.map en_int ([60, 96] : List Int)), .row 25 3 1 (List.map en_int ([10, 12] : List Int))]) (v := .val (.bool r15)) (news := []) rfl rfl rfl Try.call31 (atJ [(0, 22), (1, 23), (2, 24), (3, 25)] [] (fc_ref01_Equal h30) rfl rfl) (.inr (fun x hx => nomatch hx))) rfl ⟨_, rfl, rfl⟩ rfl rfl ?_
            refine op0 (sp_pickT rfl rfl rfl) rfl trivial rfl rfl ?_
            refine op0 (sp_move rfl rfl) rfl trivial rfl rfl ?_
            rcases cond_cases h with ⟨h31, h⟩ | ⟨h31, h⟩
            · refine (boolLit 117 rfl h31).2 ?_
              refine op1 12 rfl (sp_loadBA rfl isBlk rfl vt57 rfl rfl) rfl ⟨_, rfl, rfl⟩ rfl rfl ?_
              refine op0 (sp_buildSlice (qs := [.val (.int .i64 60)]) (need := []) (els := List.map en_int ([60] : List Int)) 26 rfl sl38 (by decide) (by decide) rfl rfl rfl (.v (.nil)) (map_len fun _ => rfl) rfl rfl rfl) rfl ⟨_, rfl, rfl⟩ rfl rfl ?_
              refine op0 (sp_buildSlice (qs := [.val (.int .i64 10)]) (need := []) (els := List.map en_int ([10] : List Int)) 27 rfl sl38 (by decide) (by decide) rfl rfl rfl (.v (.nil)) (map_len fun _ => rfl) rfl rfl rfl) rfl ⟨_, rfl, rfl⟩ rfl rfl ?_
              refine op0 (sp_build (qs := [(0, .ref 26), (1, .ref 27)]) rfl bt57 rfl rfl rfl rfl) rfl ⟨_, rfl, rfl⟩ rfl rfl ?_
              obtain ⟨r16, h32, h⟩ := bind_inv h
              refine opN (need := [.ro 14 1 (List.map en_int r10.1), .ro 15 1 (List.map en_int r10.2.1), .row 26 3 1 (List.map en_int ([60] : List Int)), .row 27 3 1 (List.map en_int ([10] : List Int))]) [15, 16, 1, 0] ⟨rfl, rfl, rfl, rfl, trivial⟩ (sp_call (avs := [.agg [.ref 14, .ref 15], .agg [.ref 26, .ref 27]]) (need := [.ro 14 1 (List.map en_int r10.1), .ro 15 1 (List.map en_int r10.2.1), .row 26 3 1 (List.map en_int ([60] : List Int)), .row 27 3 1 (List.map en_int ([10] : List Int))]) (v := .val (.bool r16)) (news := []) rfl rfl rfl Try.call31 (atJ [(0, 14), (1, 15), (2, 26), (3, 27)] [] (fc_ref01_Equal h32) rfl rfl) (.inr (fun x hx => nomatch hx))) rfl ⟨_, rfl, rfl⟩ rfl rfl ?_
              refine op0 (sp_pickT rfl rfl rfl) rfl trivial rfl rfl ?_
              refine op0 (sp_assign rfl rfl) rfl trivial rfl rfl ?_
              refine TL.nil ?_
              cases h
              exact retJ [] (.tmp rfl .nil) rfl trivial rfl rfl
            · refine (boolLit 117 rfl h31).2 ?_
              refine opSkip rfl ⟨_, rfl, .inl rfl⟩ rfl ?_
              refine opSkip rfl ⟨_, rfl, .inl rfl⟩ rfl ?_
              refine opSkip rfl ⟨_, rfl, .inl rfl⟩ rfl ?_
              refine opSkip rfl ⟨_, rfl, .inl rfl⟩ rfl ?_
              refine opSkip rfl ⟨_, rfl, .inl rfl⟩ rfl ?_
              refine op0 (sp_pickF rfl rfl rfl) rfl trivial rfl rfl ?_
              refine op0 (sp_assign rfl rfl) rfl trivial rfl rfl ?_
              refine TL.nil ?_
              cases h
              exact retJ [] (.tmp rfl .nil) rfl trivial rfl rfl
          · refine (boolLit 108 rfl h27).2 ?_
            refine opSkip rfl ⟨_, rfl, .inl rfl⟩ rfl ?_
            refine opSkip rfl ⟨_, rfl, .inl rfl⟩ rfl ?_
            refine opSkip rfl ⟨_, rfl, .inl rfl⟩ rfl ?_
            refine opSkip rfl ⟨_, rfl, .inl rfl⟩ rfl ?_
            refine opSkip rfl ⟨_, rfl, .inl rfl⟩ rfl ?_
            refine opSkip rfl ⟨_, rfl, .inl rfl⟩ rfl ?_
            refine opSkip rfl ⟨_, rfl, .inl rfl⟩ rfl ?_
            refine op0 (sp_pickF rfl rfl rfl) rfl trivial rfl rfl ?_
            refine op0 (sp_move rfl rfl) rfl trivial rfl rfl ?_
            refine opSkip rfl ⟨_, rfl, .inl rfl⟩ rfl ?_
            refine opSkip rfl ⟨_, rfl, .inl rfl⟩ rfl ?_
            refine opSkip rfl ⟨_, rfl, .inl rfl⟩ rfl ?_
            refine opSkip rfl ⟨_, rfl, .inl rfl⟩ rfl ?_
            refine opSkip rfl ⟨_, rfl, .inl rfl⟩ rfl ?_
            refine op0 (sp_pickF rfl rfl rfl) rfl trivial rfl rfl ?_
            refine op0 (sp_assign rfl rfl) rfl trivial rfl rfl ?_
            refine TL.nil ?_
            cases h
            exact retJ [] (.tmp rfl .nil) rfl trivial rfl rfl
        · refine (boolLit 99 rfl h23).2 ?_
          refine opSkip rfl ⟨_, rfl, .inl rfl⟩ rfl ?_
          refine opSkip rfl ⟨_, rfl, .inl rfl⟩ rfl ?_
          refine opSkip rfl ⟨_, rfl, .inl rfl⟩ rfl ?_
          refine opSkip rfl ⟨_, rfl, .inl rfl⟩ rfl ?_
          refine opSkip rfl ⟨_, rfl, .inl rfl⟩ rfl ?_
          refine opSkip rfl ⟨_, rfl, .inl rfl⟩ rfl ?_
          refine opSkip rfl ⟨_, rfl, .inl rfl⟩ rfl ?_
          refine op0 (sp_pickF rfl rfl rfl) rfl trivial rfl rfl ?_
          refine op0 (sp_move rfl rfl) rfl trivial rfl rfl ?_
          refine opSkip rfl ⟨_, rfl, .inl rfl⟩ rfl ?_
          refine opSkip rfl ⟨_, rfl, .inl rfl⟩ rfl ?_
          refine opSkip rfl ⟨_, rfl, .inl rfl⟩ rfl ?_
          refine opSkip rfl ⟨_, rfl, .inl rfl⟩ rfl ?_
          refine opSkip rfl ⟨_, rfl, .inl rfl⟩ rfl ?_
          refine opSkip rfl ⟨_, rfl, .inl rfl⟩ rfl ?_
          refine opSkip rfl ⟨_, rfl, .inl rfl⟩ rfl ?_
          refine op0 (sp_pickF rfl rfl rfl) rfl trivial rfl rfl ?_
          refine op0 (sp_move rfl rfl) rfl trivial rfl rfl ?_
          refine opSkip rfl ⟨_, rfl, .inl rfl⟩ rfl ?_
          refine opSkip rfl ⟨_, rfl, .inl rfl⟩ rfl ?_
          refine opSkip rfl ⟨_, rfl, .inl rfl⟩ rfl ?_
          refine opSkip rfl ⟨_, rfl, .inl rfl⟩ rfl ?_
          refine opSkip rfl ⟨_, rfl, .inl rfl⟩ rfl ?_
          refine op0 (sp_pickF rfl rfl rfl) rfl trivial rfl rfl ?_
          refine op0 (sp_assign rfl rfl) rfl trivial rfl rfl ?_
          refine TL.nil ?_
          cases h
          exact retJ [] (.tmp rfl .nil) rfl trivial rfl rfl
      · refine (boolLit 94 rfl h21).2 ?_
        refine opSkip rfl ⟨_, rfl, .inl rfl⟩ rfl ?_
        refine opSkip rfl ⟨_, rfl, .inl rfl⟩ rfl ?_
        refine opSkip rfl ⟨_, rfl, .inl rfl⟩ rfl ?_
        refine op0 (sp_pickF rfl rfl rfl) rfl trivial rfl rfl ?_
        refine op0 (sp_move rfl rfl) rfl trivial rfl rfl ?_
        refine opSkip rfl ⟨_, rfl, .inl rfl⟩ rfl ?_
        refine opSkip rfl ⟨_, rfl, .inl rfl⟩ rfl ?_
        refine opSkip rfl ⟨_, rfl, .inl rfl⟩ rfl ?_
        refine opSkip rfl ⟨_, rfl, .inl rfl⟩ rfl ?_
        refine opSkip rfl ⟨_, rfl, .inl rfl⟩ rfl ?_
        refine opSkip rfl ⟨_, rfl, .inl rfl⟩ rfl ?_
        refine opSkip rfl ⟨_, rfl, .inl rfl⟩ rfl ?_
        refine op0 (sp_pickF rfl rfl rfl) rfl trivial rfl rfl ?_
        refine op0 (sp_move rfl rfl) rfl trivial rfl rfl ?_
        refine opSkip rfl ⟨_, rfl, .inl rfl⟩ rfl ?_
        refine opSkip rfl ⟨_, rfl, .inl rfl⟩ rfl ?_
        refine opSkip rfl ⟨_, rfl, .inl rfl⟩ rfl ?_
        refine opSkip rfl ⟨_, rfl, .inl rfl⟩ rfl ?_
        refine opSkip rfl ⟨_, rfl, .inl rfl⟩ rfl ?_
        refine opSkip rfl ⟨_, rfl, .inl rfl⟩ rfl ?_
        refine opSkip rfl ⟨_, rfl, .inl rfl⟩ rfl ?_
        refine op0 (sp_pickF rfl rfl rfl) rfl trivial rfl rfl ?_
        refine op0 (sp_move rfl rfl) rfl trivial rfl rfl ?_
        refine opSkip rfl ⟨_, rfl, .inl rfl⟩ rfl ?_
        refine opSkip rfl ⟨_, rfl, .inl rfl⟩ rfl ?_
        refine opSkip rfl ⟨_, rfl, .inl rfl⟩ rfl ?_
        refine opSkip rfl ⟨_, rfl, .inl rfl⟩ rfl ?_
        refine opSkip rfl ⟨_, rfl, .inl rfl⟩ rfl ?_
        refine op0 (sp_pickF rfl rfl rfl) rfl trivial rfl rfl ?_
        refine op0 (sp_assign rfl rfl) rfl trivial rfl rfl ?_
        refine TL.nil ?_
        cases h
        exact retJ [] (.tmp rfl .nil) rfl trivial rfl rfl
    · refine (boolLit 90 rfl h20).2 ?_
      refine opSkip rfl ⟨_, rfl, .inl rfl⟩ rfl ?_
      refine opSkip rfl ⟨_, rfl, .inl rfl⟩ rfl ?_
      refine op0 (sp_pickF rfl rfl rfl) rfl trivial rfl rfl ?_
      refine op0 (sp_move rfl rfl) rfl trivial rfl rfl ?_
      refine opSkip rfl ⟨_, rfl, .inl rfl⟩ rfl ?_
      refine opSkip rfl ⟨_, rfl, .inl rfl⟩ rfl ?_
      refine opSkip rfl ⟨_, rfl, .inl rfl⟩ rfl ?_
      refine op0 (sp_pickF rfl rfl rfl) rfl trivial rfl rfl ?_
      refine op0 (sp_move rfl rfl) rfl trivial rfl rfl ?_
      refine opSkip rfl ⟨_, rfl, .inl rfl⟩ rfl ?_
      refine opSkip rfl ⟨_, rfl, .inl rfl⟩ rfl ?_
      refine opSkip rfl ⟨_, rfl, .inl rfl⟩ rfl ?_
      refine opSkip rfl ⟨_, rfl, .inl rfl⟩ rfl ?_
      refine opSkip rfl ⟨_, rfl, .inl rfl⟩ rfl ?_
      refine opSkip rfl ⟨_, rfl, .inl rfl⟩ rfl ?_
      refine opSkip rfl ⟨_, rfl, .inl rfl⟩ rfl ?_
      refine op0 (sp_pickF rfl rfl rfl) rfl trivial rfl rfl ?_
      refine op0 (sp_move rfl rfl) rfl trivial rfl rfl ?_
      refine opSkip rfl ⟨_, rfl, .inl rfl⟩ rfl ?_
      refine opSkip rfl ⟨_, rfl, .inl rfl⟩ rfl ?_
      refine opSkip rfl ⟨_, rfl, .inl rfl⟩ rfl ?_
      refine opSkip rfl ⟨_, rfl, .inl rfl⟩ rfl ?_
      refine opSkip rfl ⟨_, rfl, .inl rfl⟩ rfl ?_
      refine opSkip rfl ⟨_, rfl, .inl rfl⟩ rfl ?_
      refine opSkip rfl ⟨_, rfl, .inl rfl⟩ rfl ?_
      refine op0 (sp_pickF rfl rfl rfl) rfl trivial rfl rfl ?_
      refine op0 (sp_move rfl rfl) rfl trivial rfl rfl ?_
      refine opSkip rfl ⟨_, rfl, .inl rfl⟩ rfl ?_
      refine opSkip rfl ⟨_, rfl, .inl rfl⟩ rfl ?_
      refine opSkip rfl ⟨_, rfl, .inl rfl⟩ rfl ?_
      refine opSkip rfl ⟨_, rfl, .inl rfl⟩ rfl ?_
      refine opSkip rfl ⟨_, rfl, .inl rfl⟩ rfl ?_
      refine op0 (sp_pickF rfl rfl rfl) rfl trivial rfl rfl ?_
      refine op0 (sp_assign rfl rfl) rfl trivial rfl rfl ?_
      refine TL.nil ?_
      cases h
      exact retJ [] (.tmp rfl .nil) rfl trivial rfl rfl
  · refine (boolLit 87 rfl h19).2 ?_
    refine opSkip rfl ⟨_, rfl, .inl rfl⟩ rfl ?_
    refine op0 (sp_pickF rfl rfl rfl) rfl trivial rfl rfl ?_
    refine op0 (sp_move rfl rfl) rfl trivial rfl rfl ?_
    refine opSkip rfl ⟨_, rfl, .inl rfl⟩ rfl ?_
    refine opSkip rfl ⟨_, rfl, .inl rfl⟩ rfl ?_
    refine op0 (sp_pickF rfl rfl rfl) rfl trivial rfl rfl ?_
    refine op0 (sp_move rfl rfl) rfl trivial rfl rfl ?_
    refine opSkip rfl ⟨_, rfl, .inl rfl⟩ rfl ?_
    refine opSkip rfl ⟨_, rfl, .inl rfl⟩ rfl ?_
    refine opSkip rfl ⟨_, rfl, .inl rfl⟩ rfl ?_
    refine op0 (sp_pickF rfl rfl rfl) rfl trivial rfl rfl ?_
    refine op0 (sp_move rfl rfl) rfl trivial rfl rfl ?_
    refine opSkip rfl ⟨_, rfl, .inl rfl⟩ rfl ?_
    refine opSkip rfl ⟨_, rfl, .inl rfl⟩ rfl ?_
    refine opSkip rfl ⟨_, rfl, .inl rfl⟩ rfl ?_
    refine opSkip rfl ⟨_, rfl, .inl rfl⟩ rfl ?_
    refine opSkip rfl ⟨_, rfl, .inl rfl⟩ rfl ?_
    refine opSkip rfl ⟨_, rfl, .inl rfl⟩ rfl ?_
    refine opSkip rfl ⟨_, rfl, .inl rfl⟩ rfl ?_
    refine op0 (sp_pickF rfl rfl rfl) rfl trivial rfl rfl ?_
    refine op0 (sp_move rfl rfl) rfl trivial rfl rfl ?_
    refine opSkip rfl ⟨_, rfl, .inl rfl⟩ rfl ?_
    refine opSkip rfl ⟨_, rfl, .inl rfl⟩ rfl ?_
    refine opSkip rfl ⟨_, rfl, .inl rfl⟩ rfl ?_
    refine opSkip rfl ⟨_, rfl, .inl rfl⟩ rfl ?_
    refine opSkip rfl ⟨_, rfl, .inl rfl⟩ rfl ?_
    refine opSkip rfl ⟨_, rfl, .inl rfl⟩ rfl ?_
    refine opSkip rfl ⟨_, rfl, .inl rfl⟩ rfl ?_
    refine op0 (sp_pickF rfl rfl rfl) rfl trivial rfl rfl ?_
    refine op0 (sp_move rfl rfl) rfl trivial rfl rfl ?_
    refine opSkip rfl ⟨_, rfl, .inl rfl⟩ rfl ?_
    refine opSkip rfl ⟨_, rfl, .inl rfl⟩ rfl ?_
    refine opSkip rfl ⟨_, rfl, .inl rfl⟩ rfl ?_
    refine opSkip rfl ⟨_, rfl, .inl rfl⟩ rfl ?_
    refine opSkip rfl ⟨_, rfl, .inl rfl⟩ rfl ?_
    refine op0 (sp_pickF rfl rfl rfl) rfl trivial rfl rfl ?_
    refine op0 (sp_assign rfl rfl) rfl trivial rfl rfl ?_
    refine TL.nil ?_
    cases h
    exact retJ [] (.tmp rfl .nil) rfl trivial rfl rfl
def ev_law01_known (n : Nat) : Option Bool :=
  (ev_train_Turns n ([(64, 12)] : List (Int × Int))).bind fun r1 => (ev_train_Cycle n ([(64, 12), (60, 8)] : List (Int × Int))).bind fun r2 => (ev_law01_shop n).bind fun r3 => (ev_train_Fewest n r3.1 r3.2 48 1).bind fun r4 => (ev_law01_shop n).bind fun r5 => (ev_train_Missing n r5.1 r5.2 14 22).bind fun r6 => (ev_law01_shop n).bind fun r7 => (ev_train_Fewest n r7.1 r7.2 9 1).bind fun r8 => (ev_law01_shop n).bind fun r9 => (ev_train_Near n r9.1 r9.2 59 10 1).bind fun r10 => cond (r1.2.2.2 != 0) (some false) (cond (r2.2 != 0) (some false) (cond (r4.2 != 0) (some false) (cond (r6.2 != 0) (some false) (cond (r8.2 != 7) (some false) (cond (r10.2.2 != 0) (some false) (cond ((r4.1.length : Int) != 2) (some false) (cond ((r8.1.length : Int) != 0) (some false) (ev_law01_known_j0 n r1 r2 r6 r4 r10))))))))
set_option maxRecDepth 100000 in
set_option maxHeartbeats 2000000 in
theorem fc_law01_known {n : Nat}  {r : Bool} (h : ev_law01_known n = some r) : FC Try.prog 12 [] [] (.val (.bool r)) [] := by
  refine introJ (nz := 124) Try.func12 rfl rfl rfl (fun w0 R0 env0 => ?_)
  rw [ev_law01_known] at h
  refine TC.seq ?_
  refine TC.region ?_
  refine op0 (sp_assign rfl rfl) rfl trivial rfl rfl ?_
  refine TL.nil ?_
  refine TC.seq ?_
  refine TC.region ?_
  refine op0 (sp_build (qs := [(0, .val (.int .i64 64)), (1, .val (.int .i64 12))]) rfl bt33 rfl rfl rfl rfl) rfl trivial rfl rfl ?_
  refine op0 (sp_buildSlice (qs := [.agg [.val (.int .i64 64), .val (.int .i64 12)]]) (need := []) (els := List.map en_api_TrainPair ([(64, 12)] : List (Int × Int))) 0 rfl sl22 (by decide) (by decide) rfl rfl rfl (.v (.v (.nil))) (map_len fun _ => rfl) rfl rfl rfl) rfl trivial rfl rfl ?_
  obtain ⟨r1, h1, h⟩ := bind_inv h
  refine op1 0 rfl (sp_call (avs := [.ref 0]) (need := [.row 0 33 2 (List.map en_api_TrainPair ([(64, 12)] : List (Int × Int)))]) (v := .tup [.agg [.val (.int .i64 r1.1), .val (.int .i64 r1.2.1)], .val (.bool r1.2.2.1), .val (.int .i64 r1.2.2.2)]) (news := []) rfl rfl rfl Try.call14 (atJ [] [] (fc_train_Turns h1) rfl rfl) (.inr (fun x hx => nomatch hx))) rfl trivial rfl rfl ?_
  refine op0 (sp_move rfl rfl) rfl trivial rfl rfl ?_
  refine op0 (sp_extract rfl rfl rfl) rfl trivial rfl rfl ?_
  refine op0 (sp_extract rfl rfl rfl) rfl trivial rfl rfl ?_
  refine op0 (sp_extract rfl rfl rfl) rfl trivial rfl rfl ?_
  refine op0 (sp_alloc 1 rfl Try.zeroValue26 rfl) rfl trivial rfl rfl ?_
  refine stoB 0 (cells' := [.val (.int .i64 r1.1), .val (.int .i64 r1.2.1)]) rfl rfl trivial rfl rfl rfl rfl vt26 rfl rfl rfl ?_
  refine op0 (sp_assign rfl rfl) rfl trivial rfl rfl ?_
  refine op0 (sp_assign rfl rfl) rfl trivial rfl rfl ?_
  refine TL.nil ?_
  refine TC.seq ?_
  refine TC.region ?_
  refine op0 (sp_build (qs := [(0, .val (.int .i64 64)), (1, .val (.int .i64 12))]) rfl bt33 rfl rfl rfl rfl) rfl trivial rfl rfl ?_
  refine op0 (sp_build (qs := [(0, .val (.int .i64 60)), (1, .val (.int .i64 8))]) rfl bt33 rfl rfl rfl rfl) rfl trivial rfl rfl ?_
  refine op0 (sp_buildSlice (qs := [.agg [.val (.int .i64 64), .val (.int .i64 12)], .agg [.val (.int .i64 60), .val (.int .i64 8)]]) (need := []) (els := List.map en_api_TrainPair ([(64, 12), (60, 8)] : List (Int × Int))) 2 rfl sl22 (by decide) (by decide) rfl rfl rfl (.v (.v (.v (.v (.nil))))) (map_len fun _ => rfl) rfl rfl rfl) rfl trivial rfl rfl ?_
  obtain ⟨r2, h2, h⟩ := bind_inv h
  refine op1 0 rfl (sp_call (avs := [.ref 2]) (need := [.row 2 33 2 (List.map en_api_TrainPair ([(64, 12), (60, 8)] : List (Int × Int)))]) (v := .tup [.val (.int .i64 r2.1), .val (.int .i64 r2.2)]) (news := []) rfl rfl rfl Try.call15 (atJ [(0, 2)] [] (fc_train_Cycle h2) rfl rfl) (.inr (fun x hx => nomatch hx))) rfl trivial rfl rfl ?_
  refine op0 (sp_move rfl rfl) rfl trivial rfl rfl ?_
  refine op0 (sp_extract rfl rfl rfl) rfl trivial rfl rfl ?_
  refine op0 (sp_extract rfl rfl rfl) rfl trivial rfl rfl ?_
  refine op0 (sp_assign rfl rfl) rfl trivial rfl rfl ?_
  refine op0 (sp_assign rfl rfl) rfl trivial rfl rfl ?_
  refine TL.nil ?_
  refine TC.seq ?_
  refine TC.region ?_
  obtain ⟨r3, h3, h⟩ := bind_inv h
  refine op0 (sp_call (avs := []) (need := []) (v := .agg [.ref 3, .ref 4]) (news := [.row 3 3 1 (List.map en_int r3.1), .row 4 3 1 (List.map en_int r3.2)]) rfl rfl rfl Try.call43 (atJ [] [(0, 3), (1, 4)] (fc_law01_shop h3) rfl rfl) (.inl (roAll rfl))) rfl trivial rfl rfl ?_
  refine op0 (sp_build (qs := [(0, .val (.int .i64 48)), (1, .val (.int .i64 1))]) rfl bt26 rfl rfl rfl rfl) rfl trivial rfl rfl ?_
  refine TL.freeze 0 rfl ?_
  refine TL.freeze 1 rfl ?_
  obtain ⟨r4, h4, h⟩ := bind_inv h
  refine opN (need := [.ro 3 1 (List.map en_int r3.1), .ro 4 1 (List.map en_int r3.2)]) [0, 1] ⟨rfl, rfl, trivial⟩ (sp_call (avs := [.agg [.ref 3, .ref 4], .agg [.val (.int .i64 48), .val (.int .i64 1)]]) (need := [.ro 3 1 (List.map en_int r3.1), .ro 4 1 (List.map en_int r3.2)]) (v := .tup [.ref 5, .val (.int .i64 r4.2)]) (news := [.row 5 57 2 (List.map en_api_Train r4.1)]) rfl rfl rfl Try.call29 (atJ [(0, 3), (1, 4)] [(0, 5)] (fc_train_Fewest h4) rfl rfl) (.inl (roAll rfl))) rfl trivial rfl rfl ?_
  refine op0 (sp_move rfl rfl) rfl trivial rfl rfl ?_
  refine op0 (sp_extract rfl rfl rfl) rfl trivial rfl rfl ?_
  refine op0 (sp_extract rfl rfl rfl) rfl trivial rfl rfl ?_
  refine op0 (sp_assign rfl rfl) rfl trivial rfl rfl ?_
  refine op0 (sp_assign rfl rfl) rfl trivial rfl rfl ?_
  refine TL.nil ?_
  refine TC.seq ?_
  refine TC.region ?_
  obtain ⟨r5, h5, h⟩ := bind_inv h
  refine op0 (sp_call (avs := []) (need := []) (v := .agg [.ref 6, .ref 7]) (news := [.row 6 3 1 (List.map en_int r5.1), .row 7 3 1 (List.map en_int r5.2)]) rfl rfl rfl Try.call43 (atJ [] [(0, 6), (1, 7)] (fc_law01_shop h5) rfl rfl) (.inl (roAll rfl))) rfl trivial rfl rfl ?_
  refine op0 (sp_build (qs := [(0, .val (.int .i64 14)), (1, .val (.int .i64 22))]) rfl bt26 rfl rfl rfl rfl) rfl trivial rfl rfl ?_
  obtain ⟨r6, h6, h⟩ := bind_inv h
  refine opN (need := [.row 6 3 1 (List.map en_int r5.1), .row 7 3 1 (List.map en_int r5.2)]) [0, 1] ⟨rfl, rfl, trivial⟩ (sp_call (avs := [.agg [.ref 6, .ref 7], .agg [.val (.int .i64 14), .val (.int .i64 22)]]) (need := [.row 6 3 1 (List.map en_int r5.1), .row 7 3 1 (List.map en_int r5.2)]) (v := .tup [.ref 8, .val (.int .i64 r6.2)]) (news := [.row 8 3 1 (List.map en_int r6.1)]) rfl rfl rfl Try.call21 (atJ [(0, 6), (1, 7)] [(0, 8)] (fc_train_Missing h6) rfl rfl) (.inr (List.forall_mem_cons.2 ⟨indep_map en_int_flat, (by simp)⟩))) rfl trivial rfl rfl ?_
  refine op0 (sp_move rfl rfl) rfl trivial rfl rfl ?_
  refine op0 (sp_extract rfl rfl rfl) rfl trivial rfl rfl ?_
  refine op0 (sp_extract rfl rfl rfl) rfl trivial rfl rfl ?_
  refine op0 (sp_assign rfl rfl) rfl trivial rfl rfl ?_
  refine op0 (sp_assign rfl rfl) rfl trivial rfl rfl ?_
  refine TL.nil ?_
  refine TC.seq ?_
  refine TC.region ?_
  obtain ⟨r7, h7, h⟩ := bind_inv h
  refine op0 (sp_call (avs := []) (need := []) (v := .agg [.ref 9, .ref 10]) (news := [.row 9 3 1 (List.map en_int r7.1), .row 10 3 1 (List.map en_int r7.2)]) rfl rfl rfl Try.call43 (atJ [] [(0, 9), (1, 10)] (fc_law01_shop h7) rfl rfl) (.inl (roAll rfl))) rfl trivial rfl rfl ?_
  refine op0 (sp_build (qs := [(0, .val (.int .i64 9)), (1, .val (.int .i64 1))]) rfl bt26 rfl rfl rfl rfl) rfl trivial rfl rfl ?_
  refine TL.freeze 0 rfl ?_
  refine TL.freeze 1 rfl ?_
  obtain ⟨r8, h8, h⟩ := bind_inv h
  refine opN (need := [.ro 9 1 (List.map en_int r7.1), .ro 10 1 (List.map en_int r7.2)]) [0, 1] ⟨rfl, rfl, trivial⟩ (sp_call (avs := [.agg [.ref 9, .ref 10], .agg [.val (.int .i64 9), .val (.int .i64 1)]]) (need := [.ro 9 1 (List.map en_int r7.1), .ro 10 1 (List.map en_int r7.2)]) (v := .tup [.ref 11, .val (.int .i64 r8.2)]) (news := [.row 11 57 2 (List.map en_api_Train r8.1)]) rfl rfl rfl Try.call29 (atJ [(0, 9), (1, 10)] [(0, 11)] (fc_train_Fewest h8) rfl rfl) (.inl (roAll rfl))) rfl trivial rfl rfl ?_
  refine op0 (sp_move rfl rfl) rfl trivial rfl rfl ?_
  refine op0 (sp_extract rfl rfl rfl) rfl trivial rfl rfl ?_
  refine op0 (sp_extract rfl rfl rfl) rfl trivial rfl rfl ?_
  refine op0 (sp_assign rfl rfl) rfl trivial rfl rfl ?_
  refine op0 (sp_assign rfl rfl) rfl trivial rfl rfl ?_
  refine TL.nil ?_
  refine TC.seq ?_
  refine TC.region ?_
  obtain ⟨r9, h9, h⟩ := bind_inv h
  refine op0 (sp_call (avs := []) (need := []) (v := .agg [.ref 12, .ref 13]) (news := [.row 12 3 1 (List.map en_int r9.1), .row 13 3 1 (List.map en_int r9.2)]) rfl rfl rfl Try.call43 (atJ [] [(0, 12), (1, 13)] (fc_law01_shop h9) rfl rfl) (.inl (roAll rfl))) rfl trivial rfl rfl ?_
  refine op0 (sp_build (qs := [(0, .val (.int .i64 59)), (1, .val (.int .i64 10))]) rfl bt26 rfl rfl rfl rfl) rfl trivial rfl rfl ?_
  refine TL.freeze 0 rfl ?_
  refine TL.freeze 1 rfl ?_
  obtain ⟨r10, h10, h⟩ := bind_inv h
  refine opN (need := [.ro 12 1 (List.map en_int r9.1), .ro 13 1 (List.map en_int r9.2)]) [0, 1] ⟨rfl, rfl, trivial⟩ (sp_call (avs := [.agg [.ref 12, .ref 13], .agg [.val (.int .i64 59), .val (.int .i64 10)], .val (.int .i64 1)]) (need := [.ro 12 1 (List.map en_int r9.1), .ro 13 1 (List.map en_int r9.2)]) (v := .tup [.agg [.ref 14, .ref 15], .val (.int .i64 r10.2.2)]) (news := [.ro 14 1 (List.map en_int r10.1), .ro 15 1 (List.map en_int r10.2.1)]) rfl rfl rfl Try.call32 (atJ [(0, 12), (1, 13)] [(500, 14), (501, 15)] (fc_train_Near h10) rfl rfl) (.inl (roAll rfl))) rfl trivial rfl rfl ?_
  refine op0 (sp_move rfl rfl) rfl trivial rfl rfl ?_
  refine op0 (sp_extract rfl rfl rfl) rfl trivial rfl rfl ?_
  refine op0 (sp_extract rfl rfl rfl) rfl trivial rfl rfl ?_
  refine op0 (sp_alloc 16 rfl Try.zeroValue57 rfl) rfl trivial rfl rfl ?_
  refine stoB 0 (cells' := [.ref 14, .ref 15]) rfl rfl trivial rfl rfl rfl rfl vt57 rfl rfl rfl ?_
  refine op0 (sp_assign rfl rfl) rfl trivial rfl rfl ?_
  refine TL.nil ?_
  refine TC.seq ?_
  refine TC.seq ?_
  refine TC.region ?_
  refine op0 (sp_move rfl rfl) rfl trivial rfl rfl ?_
  refine op0 (sp_neq rfl rfl rfl) rfl trivial rfl rfl ?_
  refine op0 (sp_move rfl rfl) rfl trivial rfl rfl ?_
  rcases cond_cases h with ⟨h11, h⟩ | ⟨h11, h⟩
  · refine (boolLit 54 rfl h11).2 ?_
    refine opSkip rfl ⟨_, rfl, .inl rfl⟩ rfl ?_
    refine opSkip rfl ⟨_, rfl, .inl rfl⟩ rfl ?_
    refine op0 (sp_pickT rfl rfl rfl) rfl trivial rfl rfl ?_
    refine op0 (sp_move rfl rfl) rfl trivial rfl rfl ?_
    refine opSkip rfl ⟨_, rfl, .inl rfl⟩ rfl ?_
    refine opSkip rfl ⟨_, rfl, .inl rfl⟩ rfl ?_
    refine op0 (sp_pickT rfl rfl rfl) rfl trivial rfl rfl ?_
    refine op0 (sp_move rfl rfl) rfl trivial rfl rfl ?_
    refine opSkip rfl ⟨_, rfl, .inl rfl⟩ rfl ?_
    refine opSkip rfl ⟨_, rfl, .inl rfl⟩ rfl ?_
    refine op0 (sp_pickT rfl rfl rfl) rfl trivial rfl rfl ?_
    refine op0 (sp_move rfl rfl) rfl trivial rfl rfl ?_
    refine opSkip rfl ⟨_, rfl, .inl rfl⟩ rfl ?_
    refine opSkip rfl ⟨_, rfl, .inl rfl⟩ rfl ?_
    refine op0 (sp_pickT rfl rfl rfl) rfl trivial rfl rfl ?_
    refine op0 (sp_move rfl rfl) rfl trivial rfl rfl ?_
    refine opSkip rfl ⟨_, rfl, .inl rfl⟩ rfl ?_
    refine opSkip rfl ⟨_, rfl, .inl rfl⟩ rfl ?_
    refine op0 (sp_pickT rfl rfl rfl) rfl trivial rfl rfl ?_
    refine op0 (sp_move rfl rfl) rfl trivial rfl rfl ?_
    refine opSkip rfl ⟨_, rfl, .inl rfl⟩ rfl ?_
    refine opSkip rfl ⟨_, rfl, .inl rfl⟩ rfl ?_
    refine opSkip rfl ⟨_, rfl, .inl rfl⟩ rfl ?_
    refine op0 (sp_pickT rfl rfl rfl) rfl trivial rfl rfl ?_
    refine op0 (sp_move rfl rfl) rfl trivial rfl rfl ?_
    refine opSkip rfl ⟨_, rfl, .inl rfl⟩ rfl ?_
    refine opSkip rfl ⟨_, rfl, .inl rfl⟩ rfl ?_
    refine opSkip rfl ⟨_, rfl, .inl rfl⟩ rfl ?_
    refine op0 (sp_pickT rfl rfl rfl) rfl trivial rfl rfl ?_
    refine TL.nil ?_
    refine TC.condT rfl ?_
    refine TC.seq ?_
    refine TC.region ?_
    refine op0 (sp_assign rfl rfl) rfl trivial rfl rfl ?_
    refine TL.nil ?_
    cases h
    exact retJ [] (.tmp rfl .nil) rfl trivial rfl rfl
  · refine (boolLit 54 rfl h11).2 ?_
    refine op0 (sp_move rfl rfl) rfl ⟨_, rfl, rfl⟩ rfl rfl ?_
    refine op0 (sp_neq rfl rfl rfl) rfl ⟨_, rfl, rfl⟩ rfl rfl ?_
    refine op0 (sp_pickF rfl rfl rfl) rfl trivial rfl rfl ?_
    refine op0 (sp_move rfl rfl) rfl trivial rfl rfl ?_
    rcases cond_cases h with ⟨h12, h⟩ | ⟨h12, h⟩
    · refine (boolLit 58 rfl h12).2 ?_
      refine opSkip rfl ⟨_, rfl, .inl rfl⟩ rfl ?_
      refine opSkip rfl ⟨_, rfl, .inl rfl⟩ rfl ?_
      refine op0 (sp_pickT rfl rfl rfl) rfl trivial rfl rfl ?_
      refine op0 (sp_move rfl rfl) rfl trivial rfl rfl ?_
      refine opSkip rfl ⟨_, rfl, .inl rfl⟩ rfl ?_
      refine opSkip rfl ⟨_, rfl, .inl rfl⟩ rfl ?_
      refine op0 (sp_pickT rfl rfl rfl) rfl trivial rfl rfl ?_
      refine op0 (sp_move rfl rfl) rfl trivial rfl rfl ?_
      refine opSkip rfl ⟨_, rfl, .inl rfl⟩ rfl ?_
      refine opSkip rfl ⟨_, rfl, .inl rfl⟩ rfl ?_
      refine op0 (sp_pickT rfl rfl rfl) rfl trivial rfl rfl ?_
      refine op0 (sp_move rfl rfl) rfl trivial rfl rfl ?_
      refine opSkip rfl ⟨_, rfl, .inl rfl⟩ rfl ?_
      refine opSkip rfl ⟨_, rfl, .inl rfl⟩ rfl ?_
      refine op0 (sp_pickT rfl rfl rfl) rfl trivial rfl rfl ?_
      refine op0 (sp_move rfl rfl) rfl trivial rfl rfl ?_
      refine opSkip rfl ⟨_, rfl, .inl rfl⟩ rfl ?_
      refine opSkip rfl ⟨_, rfl, .inl rfl⟩ rfl ?_
      refine opSkip rfl ⟨_, rfl, .inl rfl⟩ rfl ?_
      refine op0 (sp_pickT rfl rfl rfl) rfl trivial rfl rfl ?_
      refine op0 (sp_move rfl rfl) rfl trivial rfl rfl ?_
      refine opSkip rfl ⟨_, rfl, .inl rfl⟩ rfl ?_
      refine opSkip rfl ⟨_, rfl, .inl rfl⟩ rfl ?_
      refine opSkip rfl ⟨_, rfl, .inl rfl⟩ rfl ?_
      refine op0 (sp_pickT rfl rfl rfl) rfl trivial rfl rfl ?_
      refine TL.nil ?_
      refine TC.condT rfl ?_
      refine TC.seq ?_
      refine TC.region ?_
      refine op0 (sp_assign rfl rfl) rfl trivial rfl rfl ?_
      refine TL.nil ?_
      cases h
      exact retJ [] (.tmp rfl .nil) rfl trivial rfl rfl
    · refine (boolLit 58 rfl h12).2 ?_
      refine op0 (sp_move rfl rfl) rfl ⟨_, rfl, rfl⟩ rfl rfl ?_
      refine op0 (sp_neq rfl rfl rfl) rfl ⟨_, rfl, rfl⟩ rfl rfl ?_
      refine op0 (sp_pickF rfl rfl rfl) rfl trivial rfl rfl ?_
      refine op0 (sp_move rfl rfl) rfl trivial rfl rfl ?_
      rcases cond_cases h with ⟨h13, h⟩ | ⟨h13, h⟩
      · refine (boolLit 62 rfl h13).2 ?_
        refine opSkip rfl ⟨_, rfl, .inl rfl⟩ rfl ?_
        refine opSkip rfl ⟨_, rfl, .inl rfl⟩ rfl ?_
        refine op0 (sp_pickT rfl rfl rfl) rfl trivial rfl rfl ?_
        refine op0 (sp_move rfl rfl) rfl trivial rfl rfl ?_
        refine opSkip rfl ⟨_, rfl, .inl rfl⟩ rfl ?_
        refine opSkip rfl ⟨_, rfl, .inl rfl⟩ rfl ?_
        refine op0 (sp_pickT rfl rfl rfl) rfl trivial rfl rfl ?_
        refine op0 (sp_move rfl rfl) rfl trivial rfl rfl ?_
        refine opSkip rfl ⟨_, rfl, .inl rfl⟩ rfl ?_
        refine opSkip rfl ⟨_, rfl, .inl rfl⟩ rfl ?_
        refine op0 (sp_pickT rfl rfl rfl) rfl trivial rfl rfl ?_
        refine op0 (sp_move rfl rfl) rfl trivial rfl rfl ?_
        refine opSkip rfl ⟨_, rfl, .inl rfl⟩ rfl ?_
        refine opSkip rfl ⟨_, rfl, .inl rfl⟩ rfl ?_
        refine opSkip rfl ⟨_, rfl, .inl rfl⟩ rfl ?_
        refine op0 (sp_pickT rfl rfl rfl) rfl trivial rfl rfl ?_
        refine op0 (sp_move rfl rfl) rfl trivial rfl rfl ?_
        refine opSkip rfl ⟨_, rfl, .inl rfl⟩ rfl ?_
        refine opSkip rfl ⟨_, rfl, .inl rfl⟩ rfl ?_
        refine opSkip rfl ⟨_, rfl, .inl rfl⟩ rfl ?_
        refine op0 (sp_pickT rfl rfl rfl) rfl trivial rfl rfl ?_
        refine TL.nil ?_
        refine TC.condT rfl ?_
        refine TC.seq ?_
        refine TC.region ?_
        refine op0 (sp_assign rfl rfl) rfl trivial rfl rfl ?_
        refine TL.nil ?_
        cases h
        exact retJ [] (.tmp rfl .nil) rfl trivial rfl rfl
      · refine (boolLit 62 rfl h13).2 ?_
        refine op0 (sp_move rfl rfl) rfl ⟨_, rfl, rfl⟩ rfl rfl ?_
        refine op0 (sp_neq rfl rfl rfl) rfl ⟨_, rfl, rfl⟩ rfl rfl ?_
        refine op0 (sp_pickF rfl rfl rfl) rfl trivial rfl rfl ?_
        refine op0 (sp_move rfl rfl) rfl trivial rfl rfl ?_
        rcases cond_cases h with ⟨h14, h⟩ | ⟨h14, h⟩
        · refine (boolLit 66 rfl h14).2 ?_
          refine opSkip rfl ⟨_, rfl, .inl rfl⟩ rfl ?_
          refine opSkip rfl ⟨_, rfl, .inl rfl⟩ rfl ?_
          refine op0 (sp_pickT rfl rfl rfl) rfl trivial rfl rfl ?_
          refine op0 (sp_move rfl rfl) rfl trivial rfl rfl ?_
          refine opSkip rfl ⟨_, rfl, .inl rfl⟩ rfl ?_
          refine opSkip rfl ⟨_, rfl, .inl rfl⟩ rfl ?_
          refine op0 (sp_pickT rfl rfl rfl) rfl trivial rfl rfl ?_
          refine op0 (sp_move rfl rfl) rfl trivial rfl rfl ?_
          refine opSkip rfl ⟨_, rfl, .inl rfl⟩ rfl ?_
          refine opSkip rfl ⟨_, rfl, .inl rfl⟩ rfl ?_
          refine opSkip rfl ⟨_, rfl, .inl rfl⟩ rfl ?_
          refine op0 (sp_pickT rfl rfl rfl) rfl trivial rfl rfl ?_
          refine op0 (sp_move rfl rfl) rfl trivial rfl rfl ?_
          refine opSkip rfl ⟨_, rfl, .inl rfl⟩ rfl ?_
          refine opSkip rfl ⟨_, rfl, .inl rfl⟩ rfl ?_
          refine opSkip rfl ⟨_, rfl, .inl rfl⟩ rfl ?_
          refine op0 (sp_pickT rfl rfl rfl) rfl trivial rfl rfl ?_
          refine TL.nil ?_
          refine TC.condT rfl ?_
          refine TC.seq ?_
          refine TC.region ?_
          refine op0 (sp_assign rfl rfl) rfl trivial rfl rfl ?_
          refine TL.nil ?_
          cases h
          exact retJ [] (.tmp rfl .nil) rfl trivial rfl rfl
        · refine (boolLit 66 rfl h14).2 ?_
          refine op0 (sp_move rfl rfl) rfl ⟨_, rfl, rfl⟩ rfl rfl ?_
          refine op0 (sp_neq rfl rfl rfl) rfl ⟨_, rfl, rfl⟩ rfl rfl ?_
          refine op0 (sp_pickF rfl rfl rfl) rfl trivial rfl rfl ?_
          refine op0 (sp_move rfl rfl) rfl trivial rfl rfl ?_
          rcases cond_cases h with ⟨h15, h⟩ | ⟨h15, h⟩
          · refine (boolLit 70 rfl h15).2 ?_
            refine opSkip rfl ⟨_, rfl, .inl rfl⟩ rfl ?_
            refine opSkip rfl ⟨_, rfl, .inl rfl⟩ rfl ?_
            refine op0 (sp_pickT rfl rfl rfl) rfl trivial rfl rfl ?_
            refine op0 (sp_move rfl rfl) rfl trivial rfl rfl ?_
            refine opSkip rfl ⟨_, rfl, .inl rfl⟩ rfl ?_
            refine opSkip rfl ⟨_, rfl, .inl rfl⟩ rfl ?_
            refine opSkip rfl ⟨_, rfl, .inl rfl⟩ rfl ?_
            refine op0 (sp_pickT rfl rfl rfl) rfl trivial rfl rfl ?_
            refine op0 (sp_move rfl rfl) rfl trivial rfl rfl ?_
            refine opSkip rfl ⟨_, rfl, .inl rfl⟩ rfl ?_
            refine opSkip rfl ⟨_, rfl, .inl rfl⟩ rfl ?_
            refine opSkip rfl ⟨_, rfl, .inl rfl⟩ rfl ?_
            refine op0 (sp_pickT rfl rfl rfl) rfl trivial rfl rfl ?_
            refine TL.nil ?_
            refine TC.condT rfl ?_
            refine TC.seq ?_
            refine TC.region ?_
            refine op0 (sp_assign rfl rfl) rfl trivial rfl rfl ?_
            refine TL.nil ?_
            cases h
            exact retJ [] (.tmp rfl .nil) rfl trivial rfl rfl
          · refine (boolLit 70 rfl h15).2 ?_
            refine op0 (sp_move rfl rfl) rfl ⟨_, rfl, rfl⟩ rfl rfl ?_
            refine op0 (sp_neq rfl rfl rfl) rfl ⟨_, rfl, rfl⟩ rfl rfl ?_
            refine op0 (sp_pickF rfl rfl rfl) rfl trivial rfl rfl ?_
            refine op0 (sp_move rfl rfl) rfl trivial rfl rfl ?_
            rcases cond_cases h with ⟨h16, h⟩ | ⟨h16, h⟩
            · refine (boolLit 74 rfl h16).2 ?_
              refine opSkip rfl ⟨_, rfl, .inl rfl⟩ rfl ?_
              refine opSkip rfl ⟨_, rfl, .inl rfl⟩ rfl ?_
              refine opSkip rfl ⟨_, rfl, .inl rfl⟩ rfl ?_
              refine op0 (sp_pickT rfl rfl rfl) rfl trivial rfl rfl ?_
              refine op0 (sp_move rfl rfl) rfl trivial rfl rfl ?_
              refine opSkip rfl ⟨_, rfl, .inl rfl⟩ rfl ?_
              refine opSkip rfl ⟨_, rfl, .inl rfl⟩ rfl ?_
              refine opSkip rfl ⟨_, rfl, .inl rfl⟩ rfl ?_
              refine op0 (sp_pickT rfl rfl rfl) rfl trivial rfl rfl ?_
              refine TL.nil ?_
              refine TC.condT rfl ?_
              refine TC.seq ?_
              refine TC.region ?_
              refine op0 (sp_assign rfl rfl) rfl trivial rfl rfl ?_
              refine TL.nil ?_
              cases h
              exact retJ [] (.tmp rfl .nil) rfl trivial rfl rfl
            · refine (boolLit 74 rfl h16).2 ?_
              refine op0 (sp_move rfl rfl) rfl ⟨_, rfl, rfl⟩ rfl rfl ?_
              refine op1 11 rfl (sp_lenM (N := r4.1.length) (len_map _ _) rfl rfl isOwn Try.underlying52) rfl ⟨_, rfl, rfl⟩ rfl rfl ?_
              refine op0 (sp_neq rfl rfl rfl) rfl ⟨_, rfl, rfl⟩ rfl rfl ?_
              refine op0 (sp_pickF rfl rfl rfl) rfl trivial rfl rfl ?_
              refine op0 (sp_move rfl rfl) rfl trivial rfl rfl ?_
              rcases cond_cases h with ⟨h17, h⟩ | ⟨h17, h⟩
              · refine (boolLit 79 rfl h17).2 ?_
                refine opSkip rfl ⟨_, rfl, .inl rfl⟩ rfl ?_
                refine opSkip rfl ⟨_, rfl, .inl rfl⟩ rfl ?_
                refine opSkip rfl ⟨_, rfl, .inl rfl⟩ rfl ?_
                refine op0 (sp_pickT rfl rfl rfl) rfl trivial rfl rfl ?_
                refine TL.nil ?_
                refine TC.condT rfl ?_
                refine TC.seq ?_
                refine TC.region ?_
                refine op0 (sp_assign rfl rfl) rfl trivial rfl rfl ?_
                refine TL.nil ?_
                cases h
                exact retJ [] (.tmp rfl .nil) rfl trivial rfl rfl
              · refine (boolLit 79 rfl h17).2 ?_
                refine op0 (sp_move rfl rfl) rfl ⟨_, rfl, rfl⟩ rfl rfl ?_
                refine op1 5 rfl (sp_lenM (N := r8.1.length) (len_map _ _) rfl rfl isOwn Try.underlying52) rfl ⟨_, rfl, rfl⟩ rfl rfl ?_
                refine op0 (sp_neq rfl rfl rfl) rfl ⟨_, rfl, rfl⟩ rfl rfl ?_
                refine op0 (sp_pickF rfl rfl rfl) rfl trivial rfl rfl ?_
                refine TL.nil ?_
                refine TC.cond (b := ((r8.1.length : Int) != 0)) rfl (fun h18 => ?_) (fun h18 => ?_)
                · have h := cond_t h h18
                  refine TC.seq ?_
                  refine TC.region ?_
                  refine op0 (sp_assign rfl rfl) rfl trivial rfl rfl ?_
                  refine TL.nil ?_
                  cases h
                  exact retJ [] (.tmp rfl .nil) rfl trivial rfl rfl
                · have h := cond_f h h18
                  refine subJ [] (ok_law01_known_j0 h) ?_ ?_ ?_
                  · exact ⟨rfl, rfl, rfl, rfl, rfl, rfl, trivial⟩
                  · exact ⟨mem_at 15 rfl, mem_at 11 rfl, mem_at 8 rfl, mem_at 0 rfl, mem_at 1 rfl, mem_at 2 rfl, trivial⟩
                  · rfl
/- law01_copied -/
def ev_law01_copied (n : Nat) (s1 : List Int) (s2 : List Int) : Option ((List Int) × (List Int)) :=
  chk (room 8 (([] : List Int).length + s1.length)) <| chk (room 8 (([] : List Int).length + s2.length)) <| some ((([] : List Int) ++ s1), (([] : List Int) ++ s2))
set_option maxRecDepth 100000 in
set_option maxHeartbeats 2000000 in
theorem fc_law01_copied {n : Nat} {s1 : List Int} {s2 : List Int} {r : (List Int) × (List Int)} (h : ev_law01_copied n s1 s2 = some r) : FC Try.prog 19 [.agg [.ref 0, .ref 1]] [.ro 0 1 (List.map en_int s1), .ro 1 1 (List.map en_int s2)] (.agg [.ref 0, .ref 1]) [.row 0 3 1 (List.map en_int r.1), .row 1 3 1 (List.map en_int r.2)] := by
  refine introJ (nz := 12) Try.func19 rfl rfl rfl (fun w0 R0 env0 => ?_)
  rw [ev_law01_copied] at h
  refine TC.seq ?_
  refine TC.region ?_
  refine op0 (sp_box 2 rfl rfl rfl rfl rfl) rfl trivial rfl rfl ?_
  refine op0 (sp_alloc 3 rfl Try.zeroValue40 rfl) rfl trivial rfl rfl ?_
  refine TL.nil ?_
  refine TC.seq ?_
  obtain ⟨h1, h⟩ := chk_inv h
  refine drawJ 7 [⟨.ref 4, [.row 4 3 1 (List.map en_int ([] : List Int))], [], []⟩, ⟨.ptr 2 0, [], [.blk 2 [.ref 0, .ref 1] 40], []⟩, ⟨.ref 0, [], [.blk 2 [.ref 0, .ref 1] 40], []⟩, ⟨.ref 5, [.row 5 3 1 (List.map en_int (([] : List Int) ++ s1))], [.ro 0 1 (List.map en_int s1)], [.row 4 3 1 (List.map en_int ([] : List Int))]⟩, ⟨.ref 6, [.row 6 3 1 (List.map en_int ([] : List Int))], [], []⟩, ⟨.ptr 2 1, [], [.blk 2 [.ref 0, .ref 1] 40], []⟩, ⟨.ref 1, [], [.blk 2 [.ref 0, .ref 1] 40], []⟩] rfl ?_ rfl ?_ rfl ?_ ?_
  · kernel_rfl
  · kernel_rfl
  · exact DAll.op' (sp_emptyM 4 (List.map en_int []) rfl rfl sl38) trivial rfl (From.ok (ps := []) trivial) (DAll.op' (sp_fieldAddrB rfl isBlk rfl ft40_0 vt38 (by decide)) trivial rfl (From.ok (ps := [(none, 1)]) ⟨⟨rfl, by kernel_rfl⟩, trivial⟩) (DAll.op' (sp_loadB rfl isBlk rfl vt38 rfl) trivial rfl (From.ok (ps := [(none, 1)]) ⟨⟨rfl, by kernel_rfl⟩, trivial⟩) (DAll.opT (ts_append (N := ([] : List Int).length) (N2 := s1.length) 5 rfl rfl rfl isRo rfl sl38 (len_map _ _) (len_map _ _) h1 (map_app _ _ _) rfl) trivial (From.ok (ps := [(some 0, 0)]) ⟨⟨_, rfl, by kernel_rfl, rfl, by kernel_rfl⟩, trivial⟩) (From.ok (ps := [(none, 2)]) ⟨⟨rfl, by kernel_rfl⟩, trivial⟩) (DAll.op' (sp_emptyM 6 (List.map en_int []) rfl rfl sl38) trivial rfl (From.ok (ps := []) trivial) (DAll.op' (sp_fieldAddrB rfl isBlk rfl ft40_1 vt38 (by decide)) trivial rfl (From.ok (ps := [(none, 1)]) ⟨⟨rfl, by kernel_rfl⟩, trivial⟩) (DAll.op' (sp_loadB rfl isBlk rfl vt38 rfl) trivial rfl (From.ok (ps := [(none, 1)]) ⟨⟨rfl, by kernel_rfl⟩, trivial⟩) (.nil)))))))
  obtain ⟨h2, h⟩ := chk_inv h
  refine appM 0 5 (N := ([] : List Int).length) (N2 := s2.length) 7 rfl rfl trivial rfl rfl rfl rfl rfl isRo rfl sl38 (len_map _ _) (len_map _ _) h2 (map_app _ _ _) rfl ?_
  refine op0 (sp_build (qs := [(0, .ref 5), (1, .ref 7)]) rfl bt40 rfl rfl rfl rfl) rfl trivial rfl rfl ?_
  refine stoB 2 (cells' := [.ref 5, .ref 7]) rfl rfl trivial rfl rfl rfl rfl vt40 rfl rfl rfl ?_
  refine TL.nil ?_
  cases h
  exact retJ [(0, 5), (1, 7)] (.cells rfl (mem_at 2 rfl) isBlk vt40 rfl rfl (.nil)) rfl ⟨mem_at 1 rfl, mem_at 0 rfl, trivial⟩ rfl rfl
/- law01_of -/
def ev_law01_of_l3 (n : Nat) (x9 : List Int) (x8 : List Int) (i10 : Int) (k_law01_of_l2 : Int → Option Bool) : Nat → Bool → Int → Option Bool
  | 0, _, _ => none
  | m + 1, b11, i12 => cond (decide (i12 < (x9.length : Int))) (cond b11 (chk (in64 (i12 + 1)) <| ev_law01_of_l3 n x9 x8 i10 k_law01_of_l2 m true (i12 + 1)) (idx x9 i12 fun x13 => idx x8 i10 fun x14 => chk (in64 (i12 + 1)) <| ev_law01_of_l3 n x9 x8 i10 k_law01_of_l2 m (x13 == x14) (i12 + 1))) (cond (!b11) (some false) (cond (decide ((0 : Int) < i10)) (idx x8 i10 fun x15 => chk (in64 (i10 - 1)) <| idx x8 (i10 - 1) fun x16 => cond (decide (x15 < x16)) (some false) (chk (in64 (i10 + 1)) <| k_law01_of_l2 (i10 + 1))) (chk (in64 (i10 + 1)) <| k_law01_of_l2 (i10 + 1))))
set_option maxRecDepth 100000 in
set_option maxHeartbeats 2000000 in
theorem ok_law01_of_l3 {n : Nat} {w0 : World} {R0 : Nat → Prop} {env0 : Env} {r : Bool} {i7 : Int} {rr5 : Int} {rr6 : Int} {x8 : List Int} {x9 : List Int} {t1 : List Int} {t2 : List Int} {s3 : List Int} {s4 : List Int} {i10 : Int} {k_law01_of_l2 : Int → Option Bool} (hk_law01_of_l2 : ∀ (i10 : Int), k_law01_of_l2 i10 = some r → TC Try.prog ⟨w0, fun _ => False, R0⟩ 107 (bodyPost Try.prog Try.f38 (Post ⟨w0, fun _ => False, R0⟩ env0 (.val (.bool r)) [])) [.code (sub (bodyOf Try.f38) [1, 1, 0, 1, 0, 0, 1, 0, 0, 1, 1, 0, 0, 0, 0]), .code (sub (bodyOf Try.f38) [1, 1, 0, 1, 0, 0, 1, 0, 0, 1, 1, 0, 0, 0, 1]), .code (sub (bodyOf Try.f38) [1, 1, 0, 1, 0, 0, 1, 0, 0, 1, 1, 0, 0, 1]), .inLoop (sub (bodyOf Try.f38) [1, 1, 0, 1, 0, 0, 1, 0, 0, 1, 1, 0, 0]), .inBlock 2, .inBlock 1, .code (sub (bodyOf Try.f38) [1, 1, 0, 1, 0, 0, 1, 1]), .inLoop (sub (bodyOf Try.f38) [1, 1, 0, 1, 0, 0]), .inBlock 0, .code (sub (bodyOf Try.f38) [1, 1, 1])] ([(3, .ptr 4 0), (4, .ptr 5 0), (5, .ptr 6 0), (7, .val (.int .i64 i7)), (8, .ref 7), (9, .ref 8), (10, .val (.int .i64 i10))]) ([.blk 4 [.ref 0, .ref 1] 57, .blk 5 [.ref 2, .ref 3] 40, .blk 6 [.val (.int .i64 rr5), .val (.int .i64 rr6)] 26, .ro 7 1 (List.map en_int x8), .ro 8 1 (List.map en_int x9), .ro 0 1 (List.map en_int t1), .ro 1 1 (List.map en_int t2), .ro 2 1 (List.map en_int s3), .ro 3 1 (List.map en_int s4)])) : ∀ (m : Nat) (b11 : Bool) (i12 : Int), ev_law01_of_l3 n x9 x8 i10 k_law01_of_l2 m b11 i12 = some r → TC Try.prog ⟨w0, fun _ => False, R0⟩ 107 (bodyPost Try.prog Try.f38 (Post ⟨w0, fun _ => False, R0⟩ env0 (.val (.bool r)) [])) [.code (sub (bodyOf Try.f38) [1, 1, 0, 1, 0, 0, 1, 0, 0, 1, 1, 0, 0, 1, 0, 0, 1, 0, 1, 0, 0, 0, 0]), .code (sub (bodyOf Try.f38) [1, 1, 0, 1, 0, 0, 1, 0, 0, 1, 1, 0, 0, 1, 0, 0, 1, 0, 1, 0, 0, 0, 1]), .code (sub (bodyOf Try.f38) [1, 1, 0, 1, 0, 0, 1, 0, 0, 1, 1, 0, 0, 1, 0, 0, 1, 0, 1, 0, 0, 1]), .inLoop (sub (bodyOf Try.f38) [1, 1, 0, 1, 0, 0, 1, 0, 0, 1, 1, 0, 0, 1, 0, 0, 1, 0, 1, 0, 0]), .inBlock 4, .code (sub (bodyOf Try.f38) [1, 1, 0, 1, 0, 0, 1, 0, 0, 1, 1, 0, 0, 1, 0, 0, 1, 1]), .inBlock 3, .code (sub (bodyOf Try.f38) [1, 1, 0, 1, 0, 0, 1, 0, 0, 1, 1, 0, 0, 1, 1]), .inLoop (sub (bodyOf Try.f38) [1, 1, 0, 1, 0, 0, 1, 0, 0, 1, 1, 0, 0]), .inBlock 2, .inBlock 1, .code (sub (bodyOf Try.f38) [1, 1, 0, 1, 0, 0, 1, 1]), .inLoop (sub (bodyOf Try.f38) [1, 1, 0, 1, 0, 0]), .inBlock 0, .code (sub (bodyOf Try.f38) [1, 1, 1])] ([(3, .ptr 4 0), (4, .ptr 5 0), (5, .ptr 6 0), (7, .val (.int .i64 i7)), (8, .ref 7), (9, .ref 8), (10, .val (.int .i64 i10)), (11, .val (.bool b11)), (12, .val (.int .i64 i12))]) ([.blk 4 [.ref 0, .ref 1] 57, .blk 5 [.ref 2, .ref 3] 40, .blk 6 [.val (.int .i64 rr5), .val (.int .i64 rr6)] 26, .ro 7 1 (List.map en_int x8), .ro 8 1 (List.map en_int x9), .ro 0 1 (List.map en_int t1), .ro 1 1 (List.map en_int t2), .ro 2 1 (List.map en_int s3), .ro 3 1 (List.map en_int s4)]) := by
  intro m
  induction m with
  | zero => intro b11 i12 h; exact none_no h
  | succ m ih =>
    intro b11 i12 h
    rw [ev_law01_of_l3] at h
    refine TC.region ?_
    refine op0 (sp_move rfl rfl) rfl trivial rfl rfl ?_
    refine op0 (sp_move rfl rfl) rfl trivial rfl rfl ?_
    refine op1 4 rfl (sp_lenM (N := x9.length) (len_map _ _) rfl rfl isRo Try.underlying38) rfl trivial rfl rfl ?_
    refine op0 (sp_lss rfl rfl rfl) rfl trivial rfl rfl ?_
    refine TL.nil ?_
    refine TC.cond (b := (decide (i12 < (x9.length : Int)))) rfl (fun h12 => ?_) (fun h12 => ?_)
    · have h := cond_t h h12
      refine TC.skip ?_
      refine TC.seq ?_
      refine TC.block ?_
      rcases cond_cases h with ⟨h13, h⟩ | ⟨h13, h⟩
      · refine drawJ 10 [⟨.val (.bool b11), [], [], []⟩, ⟨.val (.bool true), [], [], []⟩, ⟨.val (undef), [], [], []⟩, ⟨.val (undef), [], [], []⟩, ⟨.val (undef), [], [], []⟩, ⟨.val (undef), [], [], []⟩, ⟨.val (undef), [], [], []⟩, ⟨.val (undef), [], [], []⟩, ⟨.val (undef), [], [], []⟩, ⟨.val (undef), [], [], []⟩] rfl ?_ rfl ?_ rfl ?_ ?_
        · kernel_rfl
        · kernel_rfl
        · exact DAll.op' (sp_move rfl rfl) trivial rfl (From.ok (ps := []) trivial) (DAll.op' (sp_castB h13 (sp_move rfl rfl)) trivial rfl (From.ok (ps := []) trivial) (.skip ⟨_, rfl, .inl rfl⟩ rfl rfl rfl (.skip ⟨_, rfl, .inl rfl⟩ rfl rfl rfl (.skip ⟨_, rfl, .inl rfl⟩ rfl rfl rfl (.skip ⟨_, rfl, .inl rfl⟩ rfl rfl rfl (.skip ⟨_, rfl, .inl rfl⟩ rfl rfl rfl (.skip ⟨_, rfl, .inl rfl⟩ rfl rfl rfl (.skip ⟨_, rfl, .inl rfl⟩ rfl rfl rfl (.skip ⟨_, rfl, .inl rfl⟩ rfl rfl rfl (.nil))))))))))
        refine opSkip rfl ⟨_, rfl, .inl rfl⟩ rfl ?_
        refine op0 (sp_pickT rfl rfl rfl) rfl trivial rfl rfl ?_
        refine op0 (sp_assign rfl rfl) rfl trivial rfl rfl ?_
        refine TL.nil ?_
        refine TC.inBlock ?_
        refine TC.region ?_
        refine op0 (sp_move rfl rfl) rfl trivial rfl rfl ?_
        obtain ⟨h14, h⟩ := chk_inv h
        refine op0 (sp_add rfl rfl rfl h14) rfl trivial rfl rfl ?_
        refine op0 (sp_assign rfl rfl) rfl trivial rfl rfl ?_
        refine TL.nil ?_
        refine TC.inLoop ?_
        refine TC.seq ?_
        refine TC.seq ?_
        refine subJ [] (ih _ _ h) ?_ ?_ ?_
        · exact ⟨rfl, rfl, rfl, rfl, rfl, rfl, rfl, rfl, rfl, trivial⟩
        · exact ⟨mem_at 0 rfl, mem_at 1 rfl, mem_at 2 rfl, mem_at 3 rfl, mem_at 4 rfl, mem_at 5 rfl, mem_at 6 rfl, mem_at 7 rfl, mem_at 8 rfl, trivial⟩
        · rfl
      · obtain ⟨x13, h15, h16, h⟩ := idx_inv h
        obtain ⟨x14, h17, h18, h⟩ := idx_inv h
        refine drawJ 10 [⟨.val (.bool b11), [], [], []⟩, ⟨.val (.bool false), [], [], []⟩, ⟨.ref 8, [], [], []⟩, ⟨.val (.int .i64 i12), [], [], []⟩, ⟨.cell 8 ((i12 : Int).toNat * 1), [], [.ro 8 1 (List.map en_int x9)], []⟩, ⟨.val (.int .i64 x13), [], [.ro 8 1 (List.map en_int x9)], []⟩, ⟨.ref 7, [], [], []⟩, ⟨.val (.int .i64 i10), [], [], []⟩, ⟨.cell 7 ((i10 : Int).toNat * 1), [], [.ro 7 1 (List.map en_int x8)], []⟩, ⟨.val (.int .i64 x14), [], [.ro 7 1 (List.map en_int x8)], []⟩] rfl ?_ rfl ?_ rfl ?_ ?_
        · kernel_rfl
        · kernel_rfl
        · exact DAll.op' (sp_move rfl rfl) trivial rfl (From.ok (ps := []) trivial) (DAll.op' (sp_castB h13 (sp_move rfl rfl)) trivial rfl (From.ok (ps := []) trivial) (DAll.op' (sp_move rfl rfl) ⟨_, rfl, rfl⟩ rfl (From.ok (ps := []) trivial) (DAll.op' (sp_move rfl rfl) ⟨_, rfl, rfl⟩ rfl (From.ok (ps := []) trivial) (DAll.op' (sp_indexS rfl rfl rfl isRo sl38 h15 (map_get _ h16)) ⟨_, rfl, rfl⟩ rfl (From.ok (ps := [(none, 4)]) ⟨⟨rfl, rfl⟩, trivial⟩) (DAll.op' (sp_loadR (i := (i12 : Int).toNat) (j := 0) rfl rfl isRo vt3 rfl (map_get _ h16) rfl (.v (.nil)) (nodup_of_B rfl)) ⟨_, rfl, rfl⟩ rfl (From.ok (ps := [(none, 4)]) ⟨⟨rfl, rfl⟩, trivial⟩) (DAll.op' (sp_move rfl rfl) ⟨_, rfl, rfl⟩ rfl (From.ok (ps := []) trivial) (DAll.op' (sp_move rfl rfl) ⟨_, rfl, rfl⟩ rfl (From.ok (ps := []) trivial) (DAll.op' (sp_indexS rfl rfl rfl isRo sl38 h17 (map_get _ h18)) ⟨_, rfl, rfl⟩ rfl (From.ok (ps := [(none, 3)]) ⟨⟨rfl, rfl⟩, trivial⟩) (DAll.op' (sp_loadR (i := (i10 : Int).toNat) (j := 0) rfl rfl isRo vt3 rfl (map_get _ h18) rfl (.v (.nil)) (nodup_of_B rfl)) ⟨_, rfl, rfl⟩ rfl (From.ok (ps := [(none, 3)]) ⟨⟨rfl, rfl⟩, trivial⟩) (.nil))))))))))
        refine op0 (sp_eql rfl rfl rfl) rfl ⟨_, rfl, rfl⟩ rfl rfl ?_
        refine op0 (sp_pickF rfl rfl rfl) rfl trivial rfl rfl ?_
        refine op0 (sp_assign rfl rfl) rfl trivial rfl rfl ?_
        refine TL.nil ?_
        refine TC.inBlock ?_
        refine TC.region ?_
        refine op0 (sp_move rfl rfl) rfl trivial rfl rfl ?_
        obtain ⟨h19, h⟩ := chk_inv h
        refine op0 (sp_add rfl rfl rfl h19) rfl trivial rfl rfl ?_
        refine op0 (sp_assign rfl rfl) rfl trivial rfl rfl ?_
        refine TL.nil ?_
        refine TC.inLoop ?_
        refine TC.seq ?_
        refine TC.seq ?_
        refine subJ [] (ih _ _ h) ?_ ?_ ?_
        · exact ⟨rfl, rfl, rfl, rfl, rfl, rfl, rfl, rfl, rfl, trivial⟩
        · exact ⟨mem_at 0 rfl, mem_at 1 rfl, mem_at 2 rfl, mem_at 3 rfl, mem_at 4 rfl, mem_at 5 rfl, mem_at 6 rfl, mem_at 7 rfl, mem_at 8 rfl, trivial⟩
        · rfl
    · have h := cond_f h h12
      refine TC.exit rfl ?_
      refine TC.seq ?_
      rcases cond_cases h with ⟨h20, h⟩ | ⟨h20, h⟩
      · refine drawJ 15 [⟨.val (.bool b11), [], [], []⟩, ⟨.val (.bool (!b11)), [], [], []⟩, ⟨.val (.bool true), [], [], []⟩, ⟨.val (undef), [], [], []⟩, ⟨.val (undef), [], [], []⟩, ⟨.val (undef), [], [], []⟩, ⟨.val (undef), [], [], []⟩, ⟨.val (undef), [], [], []⟩, ⟨.val (undef), [], [], []⟩, ⟨.val (undef), [], [], []⟩, ⟨.val (undef), [], [], []⟩, ⟨.val (undef), [], [], []⟩, ⟨.val (undef), [], [], []⟩, ⟨.val (undef), [], [], []⟩, ⟨.val (undef), [], [], []⟩] rfl ?_ rfl ?_ rfl ?_ ?_
        · kernel_rfl
        · kernel_rfl
        · exact DAll.op' (sp_move rfl rfl) trivial rfl (From.ok (ps := []) trivial) (DAll.op' (sp_not rfl rfl) trivial rfl (From.ok (ps := []) trivial) (DAll.op' (sp_castB h20 (sp_move rfl rfl)) trivial rfl (From.ok (ps := []) trivial) (.skip ⟨_, rfl, .inl rfl⟩ rfl rfl rfl (.skip ⟨_, rfl, .inl rfl⟩ rfl rfl rfl (.skip ⟨_, rfl, .inl rfl⟩ rfl rfl rfl (.skip ⟨_, rfl, .inr rfl⟩ rfl rfl rfl (.skip ⟨_, rfl, .inr rfl⟩ rfl rfl rfl (.skip ⟨_, rfl, .inr rfl⟩ rfl rfl rfl (.skip ⟨_, rfl, .inr rfl⟩ rfl rfl rfl (.skip ⟨_, rfl, .inr rfl⟩ rfl rfl rfl (.skip ⟨_, rfl, .inr rfl⟩ rfl rfl rfl (.skip ⟨_, rfl, .inr rfl⟩ rfl rfl rfl (.skip ⟨_, rfl, .inr rfl⟩ rfl rfl rfl (.skip ⟨_, rfl, .inr rfl⟩ rfl rfl rfl (.nil)))))))))))))))
        refine opSkip rfl ⟨_, rfl, .inr rfl⟩ rfl ?_
        refine opSkip rfl ⟨_, rfl, .inl rfl⟩ rfl ?_
        refine op0 (sp_pickT rfl rfl rfl) rfl trivial rfl rfl ?_
        refine TL.nil ?_
        refine TC.condT rfl ?_
        refine TC.seq ?_
        refine TC.region ?_
        refine op0 (sp_assign rfl rfl) rfl trivial rfl rfl ?_
        refine TL.nil ?_
        cases h
        exact retJ [] (.tmp rfl .nil) rfl trivial rfl rfl
      · rcases cond_cases h with ⟨h21, h⟩ | ⟨h21, h⟩
        · obtain ⟨x15, h22, h23, h⟩ := idx_inv h
          obtain ⟨h24, h⟩ := chk_inv h
          obtain ⟨x16, h25, h26, h⟩ := idx_inv h
          refine drawJ 15 [⟨.val (.bool b11), [], [], []⟩, ⟨.val (.bool (!b11)), [], [], []⟩, ⟨.val (.bool false), [], [], []⟩, ⟨.val (.int .i64 i10), [], [], []⟩, ⟨.val (.bool (decide ((0 : Int) < i10))), [], [], []⟩, ⟨.val (.bool true), [], [], []⟩, ⟨.ref 7, [], [], []⟩, ⟨.val (.int .i64 i10), [], [], []⟩, ⟨.cell 7 ((i10 : Int).toNat * 1), [], [.ro 7 1 (List.map en_int x8)], []⟩, ⟨.val (.int .i64 x15), [], [.ro 7 1 (List.map en_int x8)], []⟩, ⟨.ref 7, [], [], []⟩, ⟨.val (.int .i64 i10), [], [], []⟩, ⟨.val (.int .i64 (i10 - 1)), [], [], []⟩, ⟨.cell 7 (((i10 - 1) : Int).toNat * 1), [], [.ro 7 1 (List.map en_int x8)], []⟩, ⟨.val (.int .i64 x16), [], [.ro 7 1 (List.map en_int x8)], []⟩] rfl ?_ rfl ?_ rfl ?_ ?_
          · kernel_rfl
          · kernel_rfl
          · exact DAll.op' (sp_move rfl rfl) trivial rfl (From.ok (ps := []) trivial) (DAll.op' (sp_not rfl rfl) trivial rfl (From.ok (ps := []) trivial) (DAll.op' (sp_castB h20 (sp_move rfl rfl)) trivial rfl (From.ok (ps := []) trivial) (DAll.op' (sp_move rfl rfl) ⟨_, rfl, rfl⟩ rfl (From.ok (ps := []) trivial) (DAll.op' (sp_gtr rfl rfl rfl) ⟨_, rfl, rfl⟩ rfl (From.ok (ps := []) trivial) (DAll.op' (sp_castB h21 (sp_move rfl rfl)) ⟨_, rfl, rfl⟩ rfl (From.ok (ps := []) trivial) (DAll.op' (sp_move rfl rfl) ⟨_, rfl, rfl⟩ rfl (From.ok (ps := []) trivial) (DAll.op' (sp_move rfl rfl) ⟨_, rfl, rfl⟩ rfl (From.ok (ps := []) trivial) (DAll.op' (sp_indexS rfl rfl rfl isRo sl38 h22 (map_get _ h23)) ⟨_, rfl, rfl⟩ rfl (From.ok (ps := [(none, 3)]) ⟨⟨rfl, rfl⟩, trivial⟩) (DAll.op' (sp_loadR (i := (i10 : Int).toNat) (j := 0) rfl rfl isRo vt3 rfl (map_get _ h23) rfl (.v (.nil)) (nodup_of_B rfl)) ⟨_, rfl, rfl⟩ rfl (From.ok (ps := [(none, 3)]) ⟨⟨rfl, rfl⟩, trivial⟩) (DAll.op' (sp_move rfl rfl) ⟨_, rfl, rfl⟩ rfl (From.ok (ps := []) trivial) (DAll.op' (sp_move rfl rfl) ⟨_, rfl, rfl⟩ rfl (From.ok (ps := []) trivial) (DAll.op' (sp_sub rfl rfl rfl h24) ⟨_, rfl, rfl⟩ rfl (From.ok (ps := []) trivial) (DAll.op' (sp_indexS rfl rfl rfl isRo sl38 h25 (map_get _ h26)) ⟨_, rfl, rfl⟩ rfl (From.ok (ps := [(none, 3)]) ⟨⟨rfl, rfl⟩, trivial⟩) (DAll.op' (sp_loadR (i := ((i10 - 1) : Int).toNat) (j := 0) rfl rfl isRo vt3 rfl (map_get _ h26) rfl (.v (.nil)) (nodup_of_B rfl)) ⟨_, rfl, rfl⟩ rfl (From.ok (ps := [(none, 3)]) ⟨⟨rfl, rfl⟩, trivial⟩) (.nil)))))))))))))))
          refine op0 (sp_lss rfl rfl rfl) rfl ⟨_, rfl, rfl⟩ rfl rfl ?_
          refine op0 (sp_pickT rfl rfl rfl) rfl ⟨_, rfl, rfl⟩ rfl rfl ?_
          refine op0 (sp_pickF rfl rfl rfl) rfl trivial rfl rfl ?_
          refine TL.nil ?_
          refine TC.cond (b := (decide (x15 < x16))) rfl (fun h27 => ?_) (fun h27 => ?_)
          · have h := cond_t h h27
            refine TC.seq ?_
            refine TC.region ?_
            refine op0 (sp_assign rfl rfl) rfl trivial rfl rfl ?_
            refine TL.nil ?_
            cases h
            exact retJ [] (.tmp rfl .nil) rfl trivial rfl rfl
          · have h := cond_f h h27
            refine TC.skip ?_
            refine TC.inBlock ?_
            refine TC.region ?_
            refine op0 (sp_move rfl rfl) rfl trivial rfl rfl ?_
            obtain ⟨h28, h⟩ := chk_inv h
            refine op0 (sp_add rfl rfl rfl h28) rfl trivial rfl rfl ?_
            refine op0 (sp_assign rfl rfl) rfl trivial rfl rfl ?_
            refine TL.nil ?_
            refine TC.inLoop ?_
            refine TC.seq ?_
            refine TC.seq ?_
            refine subJ [] (hk_law01_of_l2 _ h) ?_ ?_ ?_
            · exact ⟨rfl, rfl, rfl, rfl, rfl, rfl, rfl, trivial⟩
            · exact ⟨mem_at 0 rfl, mem_at 1 rfl, mem_at 2 rfl, mem_at 3 rfl, mem_at 4 rfl, mem_at 5 rfl, mem_at 6 rfl, mem_at 7 rfl, mem_at 8 rfl, trivial⟩
            · rfl
        · refine drawJ 15 [⟨.val (.bool b11), [], [], []⟩, ⟨.val (.bool (!b11)), [], [], []⟩, ⟨.val (.bool false), [], [], []⟩, ⟨.val (.int .i64 i10), [], [], []⟩, ⟨.val (.bool (decide ((0 : Int) < i10))), [], [], []⟩, ⟨.val (.bool false), [], [], []⟩, ⟨.val (undef), [], [], []⟩, ⟨.val (undef), [], [], []⟩, ⟨.val (undef), [], [], []⟩, ⟨.val (undef), [], [], []⟩, ⟨.val (undef), [], [], []⟩, ⟨.val (undef), [], [], []⟩, ⟨.val (undef), [], [], []⟩, ⟨.val (undef), [], [], []⟩, ⟨.val (undef), [], [], []⟩] rfl ?_ rfl ?_ rfl ?_ ?_
          · kernel_rfl
          · kernel_rfl
          · exact DAll.op' (sp_move rfl rfl) trivial rfl (From.ok (ps := []) trivial) (DAll.op' (sp_not rfl rfl) trivial rfl (From.ok (ps := []) trivial) (DAll.op' (sp_castB h20 (sp_move rfl rfl)) trivial rfl (From.ok (ps := []) trivial) (DAll.op' (sp_move rfl rfl) ⟨_, rfl, rfl⟩ rfl (From.ok (ps := []) trivial) (DAll.op' (sp_gtr rfl rfl rfl) ⟨_, rfl, rfl⟩ rfl (From.ok (ps := []) trivial) (DAll.op' (sp_castB h21 (sp_move rfl rfl)) ⟨_, rfl, rfl⟩ rfl (From.ok (ps := []) trivial) (.skip ⟨_, rfl, .inl rfl⟩ rfl rfl rfl (.skip ⟨_, rfl, .inl rfl⟩ rfl rfl rfl (.skip ⟨_, rfl, .inl rfl⟩ rfl rfl rfl (.skip ⟨_, rfl, .inl rfl⟩ rfl rfl rfl (.skip ⟨_, rfl, .inl rfl⟩ rfl rfl rfl (.skip ⟨_, rfl, .inl rfl⟩ rfl rfl rfl (.skip ⟨_, rfl, .inl rfl⟩ rfl rfl rfl (.skip ⟨_, rfl, .inl rfl⟩ rfl rfl rfl (.skip ⟨_, rfl, .inl rfl⟩ rfl rfl rfl (.nil)))))))))))))))
          refine opSkip rfl ⟨_, rfl, .inl rfl⟩ rfl ?_
          refine op0 (sp_pickF rfl rfl rfl) rfl ⟨_, rfl, rfl⟩ rfl rfl ?_
          refine op0 (sp_pickF rfl rfl rfl) rfl trivial rfl rfl ?_
          refine TL.nil ?_
          refine TC.condF rfl ?_
          refine TC.skip ?_
          refine TC.inBlock ?_
          refine TC.region ?_
          refine op0 (sp_move rfl rfl) rfl trivial rfl rfl ?_
          obtain ⟨h29, h⟩ := chk_inv h
          refine op0 (sp_add rfl rfl rfl h29) rfl trivial rfl rfl ?_
          refine op0 (sp_assign rfl rfl) rfl trivial rfl rfl ?_
          refine TL.nil ?_
          refine TC.inLoop ?_
          refine TC.seq ?_
          refine TC.seq ?_
          refine subJ [] (hk_law01_of_l2 _ h) ?_ ?_ ?_
          · exact ⟨rfl, rfl, rfl, rfl, rfl, rfl, rfl, trivial⟩
          · exact ⟨mem_at 0 rfl, mem_at 1 rfl, mem_at 2 rfl, mem_at 3 rfl, mem_at 4 rfl, mem_at 5 rfl, mem_at 6 rfl, mem_at 7 rfl, mem_at 8 rfl, trivial⟩
          · rfl
def ev_law01_of_l2 (n : Nat) (x8 : List Int) (x9 : List Int) (i7 : Int) (k_law01_of_l1 : Int → Option Bool) : Nat → Int → Option Bool
  | 0, _ => none
  | m + 1, i10 => cond (decide (i10 < (x8.length : Int))) (ev_law01_of_l3 n x9 x8 i10 (fun i10q => ev_law01_of_l2 n x8 x9 i7 k_law01_of_l1 m i10q) n false 0) (chk (in64 (i7 + 1)) <| k_law01_of_l1 (i7 + 1))
set_option maxRecDepth 100000 in
set_option maxHeartbeats 2000000 in
theorem ok_law01_of_l2 {n : Nat} {w0 : World} {R0 : Nat → Prop} {env0 : Env} {r : Bool} {rr5 : Int} {rr6 : Int} {x8 : List Int} {x9 : List Int} {t1 : List Int} {t2 : List Int} {s3 : List Int} {s4 : List Int} {i7 : Int} {k_law01_of_l1 : Int → Option Bool} (hk_law01_of_l1 : ∀ (i7 : Int), k_law01_of_l1 i7 = some r → TC Try.prog ⟨w0, fun _ => False, R0⟩ 107 (bodyPost Try.prog Try.f38 (Post ⟨w0, fun _ => False, R0⟩ env0 (.val (.bool r)) [])) [.code (sub (bodyOf Try.f38) [1, 1, 0, 1, 0, 0, 0, 0]), .code (sub (bodyOf Try.f38) [1, 1, 0, 1, 0, 0, 0, 1]), .code (sub (bodyOf Try.f38) [1, 1, 0, 1, 0, 0, 1]), .inLoop (sub (bodyOf Try.f38) [1, 1, 0, 1, 0, 0]), .inBlock 0, .code (sub (bodyOf Try.f38) [1, 1, 1])] ([(3, .ptr 4 0), (4, .ptr 5 0), (5, .ptr 6 0), (7, .val (.int .i64 i7))]) ([.blk 4 [.ref 0, .ref 1] 57, .blk 5 [.ref 2, .ref 3] 40, .blk 6 [.val (.int .i64 rr5), .val (.int .i64 rr6)] 26, .ro 0 1 (List.map en_int t1), .ro 1 1 (List.map en_int t2), .ro 2 1 (List.map en_int s3), .ro 3 1 (List.map en_int s4)])) : ∀ (m : Nat) (i10 : Int), ev_law01_of_l2 n x8 x9 i7 k_law01_of_l1 m i10 = some r → TC Try.prog ⟨w0, fun _ => False, R0⟩ 107 (bodyPost Try.prog Try.f38 (Post ⟨w0, fun _ => False, R0⟩ env0 (.val (.bool r)) [])) [.code (sub (bodyOf Try.f38) [1, 1, 0, 1, 0, 0, 1, 0, 0, 1, 1, 0, 0, 0, 0]), .code (sub (bodyOf Try.f38) [1, 1, 0, 1, 0, 0, 1, 0, 0, 1, 1, 0, 0, 0, 1]), .code (sub (bodyOf Try.f38) [1, 1, 0, 1, 0, 0, 1, 0, 0, 1, 1, 0, 0, 1]), .inLoop (sub (bodyOf Try.f38) [1, 1, 0, 1, 0, 0, 1, 0, 0, 1, 1, 0, 0]), .inBlock 2, .inBlock 1, .code (sub (bodyOf Try.f38) [1, 1, 0, 1, 0, 0, 1, 1]), .inLoop (sub (bodyOf Try.f38) [1, 1, 0, 1, 0, 0]), .inBlock 0, .code (sub (bodyOf Try.f38) [1, 1, 1])] ([(3, .ptr 4 0), (4, .ptr 5 0), (5, .ptr 6 0), (7, .val (.int .i64 i7)), (8, .ref 7), (9, .ref 8), (10, .val (.int .i64 i10))]) ([.blk 4 [.ref 0, .ref 1] 57, .blk 5 [.ref 2, .ref 3] 40, .blk 6 [.val (.int .i64 rr5), .val (.int .i64 rr6)] 26, .ro 7 1 (List.map en_int x8), .ro 8 1 (List.map en_int x9), .ro 0 1 (List.map en_int t1), .ro 1 1 (List.map en_int t2), .ro 2 1 (List.map en_int s3), .ro 3 1 (List.map en_int s4)]) := by
  intro m
  induction m with
  | zero => intro i10 h; exact none_no h
  | succ m ih =>
    intro i10 h
    rw [ev_law01_of_l2] at h
    refine TC.region ?_
    refine op0 (sp_move rfl rfl) rfl trivial rfl rfl ?_
    refine op0 (sp_move rfl rfl) rfl trivial rfl rfl ?_
    refine op1 3 rfl (sp_lenM (N := x8.length) (len_map _ _) rfl rfl isRo Try.underlying38) rfl trivial rfl rfl ?_
    refine op0 (sp_lss rfl rfl rfl) rfl trivial rfl rfl ?_
    refine TL.nil ?_
    refine TC.cond (b := (decide (i10 < (x8.length : Int)))) rfl (fun h11 => ?_) (fun h11 => ?_)
    · have h := cond_t h h11
      refine TC.skip ?_
      refine TC.seq ?_
      refine TC.block ?_
      refine TC.seq ?_
      refine TC.region ?_
      refine op0 (sp_assign rfl rfl) rfl trivial rfl rfl ?_
      refine TL.nil ?_
      refine TC.seq ?_
      refine TC.seq ?_
      refine TC.region ?_
      refine op0 (sp_assign rfl rfl) rfl trivial rfl rfl ?_
      refine TL.nil ?_
      refine TC.block ?_
      refine TC.loop ?_
      refine TC.seq ?_
      refine TC.seq ?_
      refine subJ [] (ok_law01_of_l3 (i7 := i7) (rr5 := rr5) (rr6 := rr6) (t1 := t1) (t2 := t2) (s3 := s3) (s4 := s4) ih _ _ _ h) ?_ ?_ ?_
      · exact ⟨rfl, rfl, rfl, rfl, rfl, rfl, rfl, rfl, rfl, trivial⟩
      · exact ⟨mem_at 0 rfl, mem_at 1 rfl, mem_at 2 rfl, mem_at 3 rfl, mem_at 4 rfl, mem_at 5 rfl, mem_at 6 rfl, mem_at 7 rfl, mem_at 8 rfl, trivial⟩
      · rfl
    · have h := cond_f h h11
      refine TC.exit rfl ?_
      refine TC.inBlock ?_
      refine TC.region ?_
      refine op0 (sp_move rfl rfl) rfl trivial rfl rfl ?_
      obtain ⟨h30, h⟩ := chk_inv h
      refine op0 (sp_add rfl rfl rfl h30) rfl trivial rfl rfl ?_
      refine op0 (sp_assign rfl rfl) rfl trivial rfl rfl ?_
      refine TL.nil ?_
      refine TC.inLoop ?_
      refine TC.seq ?_
      refine TC.seq ?_
      refine subJ [] (hk_law01_of_l1 _ h) ?_ ?_ ?_
      · exact ⟨rfl, rfl, rfl, rfl, trivial⟩
      · exact ⟨mem_at 0 rfl, mem_at 1 rfl, mem_at 2 rfl, mem_at 5 rfl, mem_at 6 rfl, mem_at 7 rfl, mem_at 8 rfl, trivial⟩
      · rfl
def ev_law01_of_l1 (n : Nat) (t1 : List Int) (t2 : List Int) (s3 : List Int) (s4 : List Int) (rr5 : Int) (rr6 : Int) : Nat → Int → Option Bool
  | 0, _ => none
  | m + 1, i7 => cond (decide (i7 < 2)) (chk (decide (0 ≤ i7) && decide (i7 < 2)) <| idx ([t1, t2] : List (List Int)) i7 fun x8 => chk (decide (0 ≤ i7) && decide (i7 < 2)) <| idx ([s3, s4] : List (List Int)) i7 fun x9 => ev_law01_of_l2 n x8 x9 i7 (fun i7q => ev_law01_of_l1 n t1 t2 s3 s4 rr5 rr6 m i7q) n 0) ((ev_law01_product n t1).bind fun r17 => (ev_law01_product n t2).bind fun r18 => (ev_law01_lowest n r17 r18).bind fun r19 => some ((r19.1 == rr5) && (r19.2.1 == rr6)))
set_option maxRecDepth 100000 in
set_option maxHeartbeats 2000000 in
theorem ok_law01_of_l1 {n : Nat} {w0 : World} {R0 : Nat → Prop} {env0 : Env} {r : Bool} {rr5 : Int} {rr6 : Int} {t1 : List Int} {t2 : List Int} {s3 : List Int} {s4 : List Int} : ∀ (m : Nat) (i7 : Int), ev_law01_of_l1 n t1 t2 s3 s4 rr5 rr6 m i7 = some r → TC Try.prog ⟨w0, fun _ => False, R0⟩ 107 (bodyPost Try.prog Try.f38 (Post ⟨w0, fun _ => False, R0⟩ env0 (.val (.bool r)) [])) [.code (sub (bodyOf Try.f38) [1, 1, 0, 1, 0, 0, 0, 0]), .code (sub (bodyOf Try.f38) [1, 1, 0, 1, 0, 0, 0, 1]), .code (sub (bodyOf Try.f38) [1, 1, 0, 1, 0, 0, 1]), .inLoop (sub (bodyOf Try.f38) [1, 1, 0, 1, 0, 0]), .inBlock 0, .code (sub (bodyOf Try.f38) [1, 1, 1])] ([(3, .ptr 4 0), (4, .ptr 5 0), (5, .ptr 6 0), (7, .val (.int .i64 i7))]) ([.blk 4 [.ref 0, .ref 1] 57, .blk 5 [.ref 2, .ref 3] 40, .blk 6 [.val (.int .i64 rr5), .val (.int .i64 rr6)] 26, .ro 0 1 (List.map en_int t1), .ro 1 1 (List.map en_int t2), .ro 2 1 (List.map en_int s3), .ro 3 1 (List.map en_int s4)]) := by
  intro m
  induction m with
  | zero => intro i7 h; exact none_no h
  | succ m ih =>
    intro i7 h
    rw [ev_law01_of_l1] at h
    refine TC.region ?_
    refine op0 (sp_move rfl rfl) rfl trivial rfl rfl ?_
    refine op0 (sp_lss rfl rfl rfl) rfl trivial rfl rfl ?_
    refine TL.nil ?_
    refine TC.cond (b := (decide (i7 < 2))) rfl (fun h4 => ?_) (fun h4 => ?_)
    · have h := cond_t h h4
      refine TC.skip ?_
      refine TC.seq ?_
      refine TC.block ?_
      refine TC.seq ?_
      obtain ⟨h7, h⟩ := chk_inv h
      obtain ⟨x8, h5, h6, h⟩ := idx_inv h
      obtain ⟨h10, h⟩ := chk_inv h
      obtain ⟨x9, h8, h9, h⟩ := idx_inv h
      refine drawJ 15 [⟨.ptr 4 0, [], [.blk 4 [.ref 0, .ref 1] 57], []⟩, ⟨.ref 0, [], [.blk 4 [.ref 0, .ref 1] 57], []⟩, ⟨.ptr 4 1, [], [.blk 4 [.ref 0, .ref 1] 57], []⟩, ⟨.ref 1, [], [.blk 4 [.ref 0, .ref 1] 57], []⟩, ⟨.agg [.ref 0, .ref 1], [], [], []⟩, ⟨.val (.int .i64 i7), [], [], []⟩, ⟨.ref 7, [.ro 7 1 (List.map en_int x8)], [.ro 0 1 (List.map en_int t1), .ro 1 1 (List.map en_int t2)], []⟩, ⟨.ptr 5 0, [], [.blk 5 [.ref 2, .ref 3] 40], []⟩, ⟨.ref 2, [], [.blk 5 [.ref 2, .ref 3] 40], []⟩, ⟨.ptr 5 1, [], [.blk 5 [.ref 2, .ref 3] 40], []⟩, ⟨.ref 3, [], [.blk 5 [.ref 2, .ref 3] 40], []⟩, ⟨.agg [.ref 2, .ref 3], [], [], []⟩, ⟨.val (.int .i64 i7), [], [], []⟩, ⟨.ref 8, [.ro 8 1 (List.map en_int x9)], [.ro 2 1 (List.map en_int s3), .ro 3 1 (List.map en_int s4)], []⟩, ⟨.ref 7, [], [], []⟩] rfl ?_ rfl ?_ rfl ?_ ?_
      · kernel_rfl
      · kernel_rfl
      · exact DAll.op' (sp_fieldAddrB rfl isBlk rfl ft57_0 vt38 (by decide)) trivial rfl (From.ok (ps := [(none, 0)]) ⟨⟨rfl, rfl⟩, trivial⟩) (DAll.op' (sp_loadB rfl isBlk rfl vt38 rfl) trivial rfl (From.ok (ps := [(none, 0)]) ⟨⟨rfl, rfl⟩, trivial⟩) (DAll.op' (sp_fieldAddrB rfl isBlk rfl ft57_1 vt38 (by decide)) trivial rfl (From.ok (ps := [(none, 0)]) ⟨⟨rfl, rfl⟩, trivial⟩) (DAll.op' (sp_loadB rfl isBlk rfl vt38 rfl) trivial rfl (From.ok (ps := [(none, 0)]) ⟨⟨rfl, rfl⟩, trivial⟩) (DAll.op' (sp_build (qs := [(0, .ref 0), (1, .ref 1)]) rfl bt89 rfl rfl rfl rfl) trivial rfl (From.ok (ps := []) trivial) (DAll.op' (sp_move rfl rfl) trivial rfl (From.ok (ps := []) trivial) (DAll.op' (sp_indexRef (ns := [0, 1]) (elss := List.map (List.map en_int) ([t1, t2] : List (List Int))) 7 rfl rfl rfl Try.underlying89 vt38 h7 rfl rfl rfl (map_get _ h6)) trivial rfl (From.ok (ps := [(none, 3), (none, 4)]) ⟨⟨rfl, rfl⟩, ⟨rfl, rfl⟩, trivial⟩) (DAll.op' (sp_fieldAddrB rfl isBlk rfl ft40_0 vt38 (by decide)) trivial rfl (From.ok (ps := [(none, 1)]) ⟨⟨rfl, rfl⟩, trivial⟩) (DAll.op' (sp_loadB rfl isBlk rfl vt38 rfl) trivial rfl (From.ok (ps := [(none, 1)]) ⟨⟨rfl, rfl⟩, trivial⟩) (DAll.op' (sp_fieldAddrB rfl isBlk rfl ft40_1 vt38 (by decide)) trivial rfl (From.ok (ps := [(none, 1)]) ⟨⟨rfl, rfl⟩, trivial⟩) (DAll.op' (sp_loadB rfl isBlk rfl vt38 rfl) trivial rfl (From.ok (ps := [(none, 1)]) ⟨⟨rfl, rfl⟩, trivial⟩) (DAll.op' (sp_build (qs := [(0, .ref 2), (1, .ref 3)]) rfl bt89 rfl rfl rfl rfl) trivial rfl (From.ok (ps := []) trivial) (DAll.op' (sp_move rfl rfl) trivial rfl (From.ok (ps := []) trivial) (DAll.op' (sp_indexRef (ns := [2, 3]) (elss := List.map (List.map en_int) ([s3, s4] : List (List Int))) 8 rfl rfl rfl Try.underlying89 vt38 h10 rfl rfl rfl (map_get _ h9)) trivial rfl (From.ok (ps := [(none, 5), (none, 6)]) ⟨⟨rfl, rfl⟩, ⟨rfl, rfl⟩, trivial⟩) (DAll.op' (sp_assign rfl rfl) trivial rfl (From.ok (ps := []) trivial) (.nil)))))))))))))))
      refine op0 (sp_assign rfl rfl) rfl trivial rfl rfl ?_
      refine TL.nil ?_
      refine TC.seq ?_
      refine TC.region ?_
      refine op0 (sp_assign rfl rfl) rfl trivial rfl rfl ?_
      refine TL.nil ?_
      refine TC.block ?_
      refine TC.loop ?_
      refine TC.seq ?_
      refine TC.seq ?_
      refine subJ [] (ok_law01_of_l2 (rr5 := rr5) (rr6 := rr6) (t1 := t1) (t2 := t2) (s3 := s3) (s4 := s4) ih _ _ h) ?_ ?_ ?_
      · exact ⟨rfl, rfl, rfl, rfl, rfl, rfl, rfl, trivial⟩
      · exact ⟨mem_at 2 rfl, mem_at 3 rfl, mem_at 4 rfl, mem_at 1 rfl, mem_at 0 rfl, mem_at 5 rfl, mem_at 6 rfl, mem_at 7 rfl, mem_at 8 rfl, trivial⟩
      · rfl
    · have h := cond_f h h4
      refine TC.exit rfl ?_
      refine TC.seq ?_
      obtain ⟨r17, h31, h⟩ := bind_inv h
      obtain ⟨r18, h32, h⟩ := bind_inv h
      obtain ⟨r19, h33, h⟩ := bind_inv h
      refine drawJ 12 [⟨.ptr 4 0, [], [.blk 4 [.ref 0, .ref 1] 57], []⟩, ⟨.ref 0, [], [.blk 4 [.ref 0, .ref 1] 57], []⟩, ⟨.val (.int .i64 r17), [], [.ro 0 1 (List.map en_int t1)], []⟩, ⟨.ptr 4 1, [], [.blk 4 [.ref 0, .ref 1] 57], []⟩, ⟨.ref 1, [], [.blk 4 [.ref 0, .ref 1] 57], []⟩, ⟨.val (.int .i64 r18), [], [.ro 1 1 (List.map en_int t2)], []⟩, ⟨.tup [.agg [.val (.int .i64 r19.1), .val (.int .i64 r19.2.1)], .val (.bool r19.2.2)], [], [], []⟩, ⟨.tup [.agg [.val (.int .i64 r19.1), .val (.int .i64 r19.2.1)], .val (.bool r19.2.2)], [], [], []⟩, ⟨.agg [.val (.int .i64 r19.1), .val (.int .i64 r19.2.1)], [], [], []⟩, ⟨.val (.bool r19.2.2), [], [], []⟩, ⟨.ptr 9 0, [.blk 9 [.val (.int .i64 0), .val (.int .i64 0)] 26], [], []⟩, ⟨.val (undef), [.blk 9 [.val (.int .i64 r19.1), .val (.int .i64 r19.2.1)] 26], [], [.blk 9 [.val (.int .i64 0), .val (.int .i64 0)] 26]⟩] rfl ?_ rfl ?_ rfl ?_ ?_
      · kernel_rfl
      · kernel_rfl
      · exact DAll.op' (sp_fieldAddrB rfl isBlk rfl ft57_0 vt38 (by decide)) trivial rfl (From.ok (ps := [(none, 0)]) ⟨⟨rfl, by kernel_rfl⟩, trivial⟩) (DAll.op' (sp_loadB rfl isBlk rfl vt38 rfl) trivial rfl (From.ok (ps := [(none, 0)]) ⟨⟨rfl, by kernel_rfl⟩, trivial⟩) (DAll.op' (sp_call (avs := [.ref 0]) (need := [.ro 0 1 (List.map en_int t1)]) (v := .val (.int .i64 r17)) (news := []) rfl rfl rfl Try.call37 (atJ [] [] (fc_law01_product h31) rfl rfl) (.inl (roAll rfl))) trivial rfl (From.ok (ps := [(none, 3)]) ⟨⟨rfl, by kernel_rfl⟩, trivial⟩) (DAll.op' (sp_fieldAddrB rfl isBlk rfl ft57_1 vt38 (by decide)) trivial rfl (From.ok (ps := [(none, 0)]) ⟨⟨rfl, by kernel_rfl⟩, trivial⟩) (DAll.op' (sp_loadB rfl isBlk rfl vt38 rfl) trivial rfl (From.ok (ps := [(none, 0)]) ⟨⟨rfl, by kernel_rfl⟩, trivial⟩) (DAll.op' (sp_call (avs := [.ref 1]) (need := [.ro 1 1 (List.map en_int t2)]) (v := .val (.int .i64 r18)) (news := []) rfl rfl rfl Try.call37 (atJ [(0, 1)] [] (fc_law01_product h32) rfl rfl) (.inl (roAll rfl))) trivial rfl (From.ok (ps := [(none, 4)]) ⟨⟨rfl, by kernel_rfl⟩, trivial⟩) (DAll.op' (sp_call (avs := [.val (.int .i64 r17), .val (.int .i64 r18)]) (need := []) (v := .tup [.agg [.val (.int .i64 r19.1), .val (.int .i64 r19.2.1)], .val (.bool r19.2.2)]) (news := []) rfl rfl rfl Try.call36 (atJ [] [] (fc_law01_lowest h33) rfl rfl) (.inl (roAll rfl))) trivial rfl (From.ok (ps := []) trivial) (DAll.op' (sp_move rfl rfl) trivial rfl (From.ok (ps := []) trivial) (DAll.op' (sp_extract rfl rfl rfl) trivial rfl (From.ok (ps := []) trivial) (DAll.op' (sp_extract rfl rfl rfl) trivial rfl (From.ok (ps := []) trivial) (DAll.op' (sp_alloc 9 rfl Try.zeroValue26 rfl) trivial rfl (From.ok (ps := []) trivial) (DAll.opT (ts_storeB (off := 0) (cells' := [.val (.int .i64 r19.1), .val (.int .i64 r19.2.1)]) rfl rfl rfl rfl vt26 rfl rfl rfl) trivial (From.ok (ps := [(some 10, 0)]) ⟨⟨_, rfl, by kernel_rfl, rfl, by kernel_rfl⟩, trivial⟩) (From.ok (ps := []) trivial) (.nil))))))))))))
      refine op0 (sp_assign rfl rfl) rfl trivial rfl rfl ?_
      refine TL.nil ?_
      refine TC.seq ?_
      refine TC.region ?_
      refine op1 0 rfl (sp_loadBA rfl isBlk rfl vt26 rfl rfl) rfl trivial rfl rfl ?_
      refine op1 3 rfl (sp_loadBA rfl isBlk rfl vt26 rfl rfl) rfl trivial rfl rfl ?_
      refine op0 (sp_eqlS rfl rfl rfl rfl rfl (eq26 _ _ _ _)) rfl trivial rfl rfl ?_
      refine op0 (sp_assign rfl rfl) rfl trivial rfl rfl ?_
      refine TL.nil ?_
      cases h
      exact retJ [] (.tmp rfl .nil) rfl trivial rfl rfl
def ev_law01_of_j0 (n : Nat) (t1 : List Int) (t2 : List Int) (s3 : List Int) (s4 : List Int) (rr5 : Int) (rr6 : Int) : Option Bool :=
  ev_law01_of_l1 n t1 t2 s3 s4 rr5 rr6 n 0
set_option maxRecDepth 100000 in
set_option maxHeartbeats 2000000 in
theorem ok_law01_of_j0 {n : Nat} {w0 : World} {R0 : Nat → Prop} {env0 : Env} {r : Bool} {rr5 : Int} {rr6 : Int} {t1 : List Int} {t2 : List Int} {s3 : List Int} {s4 : List Int} (h : ev_law01_of_j0 n t1 t2 s3 s4 rr5 rr6 = some r) : TC Try.prog ⟨w0, fun _ => False, R0⟩ 107 (bodyPost Try.prog Try.f38 (Post ⟨w0, fun _ => False, R0⟩ env0 (.val (.bool r)) [])) [.code (sub (bodyOf Try.f38) [1, 0, 1, 1]), .code (sub (bodyOf Try.f38) [1, 1])] ([(3, .ptr 4 0), (4, .ptr 5 0), (5, .ptr 6 0)]) ([.blk 4 [.ref 0, .ref 1] 57, .blk 5 [.ref 2, .ref 3] 40, .blk 6 [.val (.int .i64 rr5), .val (.int .i64 rr6)] 26, .ro 0 1 (List.map en_int t1), .ro 1 1 (List.map en_int t2), .ro 2 1 (List.map en_int s3), .ro 3 1 (List.map en_int s4)]) := by
  rw [ev_law01_of_j0] at h
  refine TC.skip ?_
  refine TC.seq ?_
  refine TC.seq ?_
  refine TC.region ?_
  refine op0 (sp_assign rfl rfl) rfl trivial rfl rfl ?_
  refine TL.nil ?_
  refine TC.block ?_
  refine TC.loop ?_
  refine TC.seq ?_
  refine TC.seq ?_
  refine subJ [] (ok_law01_of_l1 _ _ h) ?_ ?_ ?_
  · exact ⟨rfl, rfl, rfl, rfl, trivial⟩
  · exact ⟨mem_at 0 rfl, mem_at 1 rfl, mem_at 2 rfl, mem_at 3 rfl, mem_at 4 rfl, mem_at 5 rfl, mem_at 6 rfl, trivial⟩
  · rfl
def ev_law01_of (n : Nat) (t1 : List Int) (t2 : List Int) (s3 : List Int) (s4 : List Int) (rr5 : Int) (rr6 : Int) : Option Bool :=
  cond ((t1.length : Int) != (t2.length : Int)) (some false) (cond (decide ((t1.length : Int) < 1)) (some false) (cond (decide ((4 : Int) < (t1.length : Int))) (some false) (ev_law01_of_j0 n t1 t2 s3 s4 rr5 rr6)))
set_option maxRecDepth 100000 in
set_option maxHeartbeats 2000000 in
theorem fc_law01_of {n : Nat} {t1 : List Int} {t2 : List Int} {s3 : List Int} {s4 : List Int} {rr5 : Int} {rr6 : Int} {r : Bool} (h : ev_law01_of n t1 t2 s3 s4 rr5 rr6 = some r) : FC Try.prog 38 [.agg [.ref 0, .ref 1], .agg [.ref 2, .ref 3], .agg [.val (.int .i64 rr5), .val (.int .i64 rr6)]] [.ro 0 1 (List.map en_int t1), .ro 1 1 (List.map en_int t2), .ro 2 1 (List.map en_int s3), .ro 3 1 (List.map en_int s4)] (.val (.bool r)) [] := by
  refine introJ (nz := 107) Try.func38 rfl rfl rfl (fun w0 R0 env0 => ?_)
  rw [ev_law01_of] at h
  refine TC.seq ?_
  refine TC.region ?_
  refine op0 (sp_box 4 rfl rfl rfl rfl rfl) rfl trivial rfl rfl ?_
  refine op0 (sp_box 5 rfl rfl rfl rfl rfl) rfl trivial rfl rfl ?_
  refine op0 (sp_box 6 rfl rfl rfl rfl rfl) rfl trivial rfl rfl ?_
  refine op0 (sp_assign rfl rfl) rfl trivial rfl rfl ?_
  refine TL.nil ?_
  refine TC.seq ?_
  refine TC.seq ?_
  refine TC.region ?_
  refine op1 2 rfl (sp_fieldAddrB rfl isBlk rfl ft57_0 vt38 (by decide)) rfl trivial rfl rfl ?_
  refine op1 2 rfl (sp_loadB rfl isBlk rfl vt38 rfl) rfl trivial rfl rfl ?_
  refine op1 3 rfl (sp_lenM (N := t1.length) (len_map _ _) rfl rfl isRo Try.underlying38) rfl trivial rfl rfl ?_
  refine op1 2 rfl (sp_fieldAddrB rfl isBlk rfl ft57_1 vt38 (by decide)) rfl trivial rfl rfl ?_
  refine op1 2 rfl (sp_loadB rfl isBlk rfl vt38 rfl) rfl trivial rfl rfl ?_
  refine op1 4 rfl (sp_lenM (N := t2.length) (len_map _ _) rfl rfl isRo Try.underlying38) rfl trivial rfl rfl ?_
  refine op0 (sp_neq rfl rfl rfl) rfl trivial rfl rfl ?_
  refine op0 (sp_move rfl rfl) rfl trivial rfl rfl ?_
  rcases cond_cases h with ⟨h1, h⟩ | ⟨h1, h⟩
  · refine (boolLit 22 rfl h1).2 ?_
    refine opSkip rfl ⟨_, rfl, .inl rfl⟩ rfl ?_
    refine opSkip rfl ⟨_, rfl, .inl rfl⟩ rfl ?_
    refine opSkip rfl ⟨_, rfl, .inl rfl⟩ rfl ?_
    refine opSkip rfl ⟨_, rfl, .inl rfl⟩ rfl ?_
    refine op0 (sp_pickT rfl rfl rfl) rfl trivial rfl rfl ?_
    refine op0 (sp_move rfl rfl) rfl trivial rfl rfl ?_
    refine opSkip rfl ⟨_, rfl, .inl rfl⟩ rfl ?_
    refine opSkip rfl ⟨_, rfl, .inl rfl⟩ rfl ?_
    refine opSkip rfl ⟨_, rfl, .inl rfl⟩ rfl ?_
    refine opSkip rfl ⟨_, rfl, .inl rfl⟩ rfl ?_
    refine op0 (sp_pickT rfl rfl rfl) rfl trivial rfl rfl ?_
    refine TL.nil ?_
    refine TC.condT rfl ?_
    refine TC.seq ?_
    refine TC.region ?_
    refine op0 (sp_assign rfl rfl) rfl trivial rfl rfl ?_
    refine TL.nil ?_
    cases h
    exact retJ [] (.tmp rfl .nil) rfl trivial rfl rfl
  · refine (boolLit 22 rfl h1).2 ?_
    refine op1 2 rfl (sp_fieldAddrB rfl isBlk rfl ft57_0 vt38 (by decide)) rfl ⟨_, rfl, rfl⟩ rfl rfl ?_
    refine op1 2 rfl (sp_loadB rfl isBlk rfl vt38 rfl) rfl ⟨_, rfl, rfl⟩ rfl rfl ?_
    refine op1 3 rfl (sp_lenM (N := t1.length) (len_map _ _) rfl rfl isRo Try.underlying38) rfl ⟨_, rfl, rfl⟩ rfl rfl ?_
    refine op0 (sp_lss rfl rfl rfl) rfl ⟨_, rfl, rfl⟩ rfl rfl ?_
    refine op0 (sp_pickF rfl rfl rfl) rfl trivial rfl rfl ?_
    refine op0 (sp_move rfl rfl) rfl trivial rfl rfl ?_
    rcases cond_cases h with ⟨h2, h⟩ | ⟨h2, h⟩
    · refine (boolLit 28 rfl h2).2 ?_
      refine opSkip rfl ⟨_, rfl, .inl rfl⟩ rfl ?_
      refine opSkip rfl ⟨_, rfl, .inl rfl⟩ rfl ?_
      refine opSkip rfl ⟨_, rfl, .inl rfl⟩ rfl ?_
      refine opSkip rfl ⟨_, rfl, .inl rfl⟩ rfl ?_
      refine op0 (sp_pickT rfl rfl rfl) rfl trivial rfl rfl ?_
      refine TL.nil ?_
      refine TC.condT rfl ?_
      refine TC.seq ?_
      refine TC.region ?_
      refine op0 (sp_assign rfl rfl) rfl trivial rfl rfl ?_
      refine TL.nil ?_
      cases h
      exact retJ [] (.tmp rfl .nil) rfl trivial rfl rfl
    · refine (boolLit 28 rfl h2).2 ?_
      refine op1 2 rfl (sp_fieldAddrB rfl isBlk rfl ft57_0 vt38 (by decide)) rfl ⟨_, rfl, rfl⟩ rfl rfl ?_
      refine op1 2 rfl (sp_loadB rfl isBlk rfl vt38 rfl) rfl ⟨_, rfl, rfl⟩ rfl rfl ?_
      refine op1 3 rfl (sp_lenM (N := t1.length) (len_map _ _) rfl rfl isRo Try.underlying38) rfl ⟨_, rfl, rfl⟩ rfl rfl ?_
      refine op0 (sp_gtr rfl rfl rfl) rfl ⟨_, rfl, rfl⟩ rfl rfl ?_
      refine op0 (sp_pickF rfl rfl rfl) rfl trivial rfl rfl ?_
      refine TL.nil ?_
      refine TC.cond (b := (decide ((4 : Int) < (t1.length : Int)))) rfl (fun h3 => ?_) (fun h3 => ?_)
      · have h := cond_t h h3
        refine TC.seq ?_
        refine TC.region ?_
        refine op0 (sp_assign rfl rfl) rfl trivial rfl rfl ?_
        refine TL.nil ?_
        cases h
        exact retJ [] (.tmp rfl .nil) rfl trivial rfl rfl
      · have h := cond_f h h3
        refine subJ [] (ok_law01_of_j0 h) ?_ ?_ ?_
        · exact ⟨rfl, rfl, rfl, trivial⟩
        · exact ⟨mem_at 2 rfl, mem_at 1 rfl, mem_at 0 rfl, mem_at 3 rfl, mem_at 4 rfl, mem_at 5 rfl, mem_at 6 rfl, trivial⟩
        · rfl
/- law01_equal -/
def ev_law01_equal_l1 (n : Nat) (a1 : List Int) (b3 : List Int) (a2 : List Int) (b4 : List Int) : Nat → Int → Option Bool
  | 0, _ => none
  | m + 1, i5 => cond (decide (i5 < (a1.length : Int))) (idx a1 i5 fun x6 => idx b3 i5 fun x7 => cond (x6 != x7) (some false) (idx a2 i5 fun x8 => idx b4 i5 fun x9 => cond (x8 != x9) (some false) (chk (in64 (i5 + 1)) <| ev_law01_equal_l1 n a1 b3 a2 b4 m (i5 + 1)))) (some true)
set_option maxRecDepth 100000 in
set_option maxHeartbeats 2000000 in
theorem ok_law01_equal_l1 {n : Nat} {w0 : World} {R0 : Nat → Prop} {env0 : Env} {r : Bool} {a1 : List Int} {a2 : List Int} {b3 : List Int} {b4 : List Int} : ∀ (m : Nat) (i5 : Int), ev_law01_equal_l1 n a1 b3 a2 b4 m i5 = some r → TC Try.prog ⟨w0, fun _ => False, R0⟩ 62 (bodyPost Try.prog Try.f39 (Post ⟨w0, fun _ => False, R0⟩ env0 (.val (.bool r)) [])) [.code (sub (bodyOf Try.f39) [1, 1, 0, 1, 0, 0, 0, 0]), .code (sub (bodyOf Try.f39) [1, 1, 0, 1, 0, 0, 0, 1]), .code (sub (bodyOf Try.f39) [1, 1, 0, 1, 0, 0, 1]), .inLoop (sub (bodyOf Try.f39) [1, 1, 0, 1, 0, 0]), .inBlock 0, .code (sub (bodyOf Try.f39) [1, 1, 1])] ([(2, .ptr 4 0), (3, .ptr 5 0), (5, .val (.int .i64 i5))]) ([.blk 4 [.ref 0, .ref 1] 57, .blk 5 [.ref 2, .ref 3] 57, .ro 0 1 (List.map en_int a1), .ro 1 1 (List.map en_int a2), .ro 2 1 (List.map en_int b3), .ro 3 1 (List.map en_int b4)]) := by
  intro m
  induction m with
  | zero => intro i5 h; exact none_no h
  | succ m ih =>
    intro i5 h
    rw [ev_law01_equal_l1] at h
    refine TC.region ?_
    refine op0 (sp_move rfl rfl) rfl trivial rfl rfl ?_
    refine op1 0 rfl (sp_fieldAddrB rfl isBlk rfl ft57_0 vt38 (by decide)) rfl trivial rfl rfl ?_
    refine op1 0 rfl (sp_loadB rfl isBlk rfl vt38 rfl) rfl trivial rfl rfl ?_
    refine op1 2 rfl (sp_lenM (N := a1.length) (len_map _ _) rfl rfl isRo Try.underlying38) rfl trivial rfl rfl ?_
    refine op0 (sp_lss rfl rfl rfl) rfl trivial rfl rfl ?_
    refine TL.nil ?_
    refine TC.cond (b := (decide (i5 < (a1.length : Int)))) rfl (fun h4 => ?_) (fun h4 => ?_)
    · have h := cond_t h h4
      refine TC.skip ?_
      refine TC.seq ?_
      refine TC.block ?_
      refine TC.seq ?_
      obtain ⟨x6, h5, h6, h⟩ := idx_inv h
      obtain ⟨x7, h7, h8, h⟩ := idx_inv h
      rcases cond_cases h with ⟨h9, h⟩ | ⟨h9, h⟩
      · refine drawJ 22 [⟨.ptr 4 0, [], [.blk 4 [.ref 0, .ref 1] 57], []⟩, ⟨.ref 0, [], [.blk 4 [.ref 0, .ref 1] 57], []⟩, ⟨.val (.int .i64 i5), [], [], []⟩, ⟨.cell 0 ((i5 : Int).toNat * 1), [], [.ro 0 1 (List.map en_int a1)], []⟩, ⟨.val (.int .i64 x6), [], [.ro 0 1 (List.map en_int a1)], []⟩, ⟨.ptr 5 0, [], [.blk 5 [.ref 2, .ref 3] 57], []⟩, ⟨.ref 2, [], [.blk 5 [.ref 2, .ref 3] 57], []⟩, ⟨.val (.int .i64 i5), [], [], []⟩, ⟨.cell 2 ((i5 : Int).toNat * 1), [], [.ro 2 1 (List.map en_int b3)], []⟩, ⟨.val (.int .i64 x7), [], [.ro 2 1 (List.map en_int b3)], []⟩, ⟨.val (.bool (x6 != x7)), [], [], []⟩, ⟨.val (.bool true), [], [], []⟩, ⟨.val (undef), [], [], []⟩, ⟨.val (undef), [], [], []⟩, ⟨.val (undef), [], [], []⟩, ⟨.val (undef), [], [], []⟩, ⟨.val (undef), [], [], []⟩, ⟨.val (undef), [], [], []⟩, ⟨.val (undef), [], [], []⟩, ⟨.val (undef), [], [], []⟩, ⟨.val (undef), [], [], []⟩, ⟨.val (undef), [], [], []⟩] rfl ?_ rfl ?_ rfl ?_ ?_
        · kernel_rfl
        · kernel_rfl
        · exact DAll.op' (sp_fieldAddrB rfl isBlk rfl ft57_0 vt38 (by decide)) trivial rfl (From.ok (ps := [(none, 0)]) ⟨⟨rfl, by kernel_rfl⟩, trivial⟩) (DAll.op' (sp_loadB rfl isBlk rfl vt38 rfl) trivial rfl (From.ok (ps := [(none, 0)]) ⟨⟨rfl, by kernel_rfl⟩, trivial⟩) (DAll.op' (sp_move rfl rfl) trivial rfl (From.ok (ps := []) trivial) (DAll.op' (sp_indexS rfl rfl rfl isRo sl38 h5 (map_get _ h6)) trivial rfl (From.ok (ps := [(none, 2)]) ⟨⟨rfl, by kernel_rfl⟩, trivial⟩) (DAll.op' (sp_loadR (i := (i5 : Int).toNat) (j := 0) rfl rfl isRo vt3 rfl (map_get _ h6) rfl (.v (.nil)) (nodup_of_B rfl)) trivial rfl (From.ok (ps := [(none, 2)]) ⟨⟨rfl, by kernel_rfl⟩, trivial⟩) (DAll.op' (sp_fieldAddrB rfl isBlk rfl ft57_0 vt38 (by decide)) trivial rfl (From.ok (ps := [(none, 1)]) ⟨⟨rfl, by kernel_rfl⟩, trivial⟩) (DAll.op' (sp_loadB rfl isBlk rfl vt38 rfl) trivial rfl (From.ok (ps := [(none, 1)]) ⟨⟨rfl, by kernel_rfl⟩, trivial⟩) (DAll.op' (sp_move rfl rfl) trivial rfl (From.ok (ps := []) trivial) (DAll.op' (sp_indexS rfl rfl rfl isRo sl38 h7 (map_get _ h8)) trivial rfl (From.ok (ps := [(none, 4)]) ⟨⟨rfl, by kernel_rfl⟩, trivial⟩) (DAll.op' (sp_loadR (i := (i5 : Int).toNat) (j := 0) rfl rfl isRo vt3 rfl (map_get _ h8) rfl (.v (.nil)) (nodup_of_B rfl)) trivial rfl (From.ok (ps := [(none, 4)]) ⟨⟨rfl, by kernel_rfl⟩, trivial⟩) (DAll.op' (sp_neq rfl rfl rfl) trivial rfl (From.ok (ps := []) trivial) (DAll.op' (sp_castB h9 (sp_move rfl rfl)) trivial rfl (From.ok (ps := []) trivial) (.skip ⟨_, rfl, .inl rfl⟩ rfl rfl rfl (.skip ⟨_, rfl, .inl rfl⟩ rfl rfl rfl (.skip ⟨_, rfl, .inl rfl⟩ rfl rfl rfl (.skip ⟨_, rfl, .inl rfl⟩ rfl rfl rfl (.skip ⟨_, rfl, .inl rfl⟩ rfl rfl rfl (.skip ⟨_, rfl, .inl rfl⟩ rfl rfl rfl (.skip ⟨_, rfl, .inl rfl⟩ rfl rfl rfl (.skip ⟨_, rfl, .inl rfl⟩ rfl rfl rfl (.skip ⟨_, rfl, .inl rfl⟩ rfl rfl rfl (.skip ⟨_, rfl, .inl rfl⟩ rfl rfl rfl (.nil))))))))))))))))))))))
        refine opSkip rfl ⟨_, rfl, .inl rfl⟩ rfl ?_
        refine op0 (sp_pickT rfl rfl rfl) rfl trivial rfl rfl ?_
        refine TL.nil ?_
        refine TC.condT rfl ?_
        refine TC.seq ?_
        refine TC.region ?_
        refine op0 (sp_assign rfl rfl) rfl trivial rfl rfl ?_
        refine TL.nil ?_
        cases h
        exact retJ [] (.tmp rfl .nil) rfl trivial rfl rfl
      · obtain ⟨x8, h10, h11, h⟩ := idx_inv h
        obtain ⟨x9, h12, h13, h⟩ := idx_inv h
        refine drawJ 22 [⟨.ptr 4 0, [], [.blk 4 [.ref 0, .ref 1] 57], []⟩, ⟨.ref 0, [], [.blk 4 [.ref 0, .ref 1] 57], []⟩, ⟨.val (.int .i64 i5), [], [], []⟩, ⟨.cell 0 ((i5 : Int).toNat * 1), [], [.ro 0 1 (List.map en_int a1)], []⟩, ⟨.val (.int .i64 x6), [], [.ro 0 1 (List.map en_int a1)], []⟩, ⟨.ptr 5 0, [], [.blk 5 [.ref 2, .ref 3] 57], []⟩, ⟨.ref 2, [], [.blk 5 [.ref 2, .ref 3] 57], []⟩, ⟨.val (.int .i64 i5), [], [], []⟩, ⟨.cell 2 ((i5 : Int).toNat * 1), [], [.ro 2 1 (List.map en_int b3)], []⟩, ⟨.val (.int .i64 x7), [], [.ro 2 1 (List.map en_int b3)], []⟩, ⟨.val (.bool (x6 != x7)), [], [], []⟩, ⟨.val (.bool false), [], [], []⟩, ⟨.ptr 4 1, [], [.blk 4 [.ref 0, .ref 1] 57], []⟩, ⟨.ref 1, [], [.blk 4 [.ref 0, .ref 1] 57], []⟩, ⟨.val (.int .i64 i5), [], [], []⟩, ⟨.cell 1 ((i5 : Int).toNat * 1), [], [.ro 1 1 (List.map en_int a2)], []⟩, ⟨.val (.int .i64 x8), [], [.ro 1 1 (List.map en_int a2)], []⟩, ⟨.ptr 5 1, [], [.blk 5 [.ref 2, .ref 3] 57], []⟩, ⟨.ref 3, [], [.blk 5 [.ref 2, .ref 3] 57], []⟩, ⟨.val (.int .i64 i5), [], [], []⟩, ⟨.cell 3 ((i5 : Int).toNat * 1), [], [.ro 3 1 (List.map en_int b4)], []⟩, ⟨.val (.int .i64 x9), [], [.ro 3 1 (List.map en_int b4)], []⟩] rfl ?_ rfl ?_ rfl ?_ ?_
        · kernel_rfl
        · kernel_rfl
        · exact DAll.op' (sp_fieldAddrB rfl isBlk rfl ft57_0 vt38 (by decide)) trivial rfl (From.ok (ps := [(none, 0)]) ⟨⟨rfl, by kernel_rfl⟩, trivial⟩) (DAll.op' (sp_loadB rfl isBlk rfl vt38 rfl) trivial rfl (From.ok (ps := [(none, 0)]) ⟨⟨rfl, by kernel_rfl⟩, trivial⟩) (DAll.op' (sp_move rfl rfl) trivial rfl (From.ok (ps := []) trivial) (DAll.op' (sp_indexS rfl rfl rfl isRo sl38 h5 (map_get _ h6)) trivial rfl (From.ok (ps := [(none, 2)]) ⟨⟨rfl, by kernel_rfl⟩, trivial⟩) (DAll.op' (sp_loadR (i := (i5 : Int).toNat) (j := 0) rfl rfl isRo vt3 rfl (map_get _ h6) rfl (.v (.nil)) (nodup_of_B rfl)) trivial rfl (From.ok (ps := [(none, 2)]) ⟨⟨rfl, by kernel_rfl⟩, trivial⟩) (DAll.op' (sp_fieldAddrB rfl isBlk rfl ft57_0 vt38 (by decide)) trivial rfl (From.ok (ps := [(none, 1)]) ⟨⟨rfl, by kernel_rfl⟩, trivial⟩) (DAll.op' (sp_loadB rfl isBlk rfl vt38 rfl) trivial rfl (From.ok (ps := [(none, 1)]) ⟨⟨rfl, by kernel_rfl⟩, trivial⟩) (DAll.op' (sp_move rfl rfl) trivial rfl (From.ok (ps := []) trivial) (DAll.op' (sp_indexS rfl rfl rfl isRo sl38 h7 (map_get _ h8)) trivial rfl (From.ok (ps := [(none, 4)]) ⟨⟨rfl, by kernel_rfl⟩, trivial⟩) (DAll.op' (sp_loadR (i := (i5 : Int).toNat) (j := 0) rfl rfl isRo vt3 rfl (map_get _ h8) rfl (.v (.nil)) (nodup_of_B rfl)) trivial rfl (From.ok (ps := [(none, 4)]) ⟨⟨rfl, by kernel_rfl⟩, trivial⟩) (DAll.op' (sp_neq rfl rfl rfl) trivial rfl (From.ok (ps := []) trivial) (DAll.op' (sp_castB h9 (sp_move rfl rfl)) trivial rfl (From.ok (ps := []) trivial) (DAll.op' (sp_fieldAddrB rfl isBlk rfl ft57_1 vt38 (by decide)) ⟨_, rfl, rfl⟩ rfl (From.ok (ps := [(none, 0)]) ⟨⟨rfl, by kernel_rfl⟩, trivial⟩) (DAll.op' (sp_loadB rfl isBlk rfl vt38 rfl) ⟨_, rfl, rfl⟩ rfl (From.ok (ps := [(none, 0)]) ⟨⟨rfl, by kernel_rfl⟩, trivial⟩) (DAll.op' (sp_move rfl rfl) ⟨_, rfl, rfl⟩ rfl (From.ok (ps := []) trivial) (DAll.op' (sp_indexS rfl rfl rfl isRo sl38 h10 (map_get _ h11)) ⟨_, rfl, rfl⟩ rfl (From.ok (ps := [(none, 3)]) ⟨⟨rfl, by kernel_rfl⟩, trivial⟩) (DAll.op' (sp_loadR (i := (i5 : Int).toNat) (j := 0) rfl rfl isRo vt3 rfl (map_get _ h11) rfl (.v (.nil)) (nodup_of_B rfl)) ⟨_, rfl, rfl⟩ rfl (From.ok (ps := [(none, 3)]) ⟨⟨rfl, by kernel_rfl⟩, trivial⟩) (DAll.op' (sp_fieldAddrB rfl isBlk rfl ft57_1 vt38 (by decide)) ⟨_, rfl, rfl⟩ rfl (From.ok (ps := [(none, 1)]) ⟨⟨rfl, by kernel_rfl⟩, trivial⟩) (DAll.op' (sp_loadB rfl isBlk rfl vt38 rfl) ⟨_, rfl, rfl⟩ rfl (From.ok (ps := [(none, 1)]) ⟨⟨rfl, by kernel_rfl⟩, trivial⟩) (DAll.op' (sp_move rfl rfl) ⟨_, rfl, rfl⟩ rfl (From.ok (ps := []) trivial) (DAll.op' (sp_indexS rfl rfl rfl isRo sl38 h12 (map_get _ h13)) ⟨_, rfl, rfl⟩ rfl (From.ok (ps := [(none, 5)]) ⟨⟨rfl, by kernel_rfl⟩, trivial⟩) (DAll.op' (sp_loadR (i := (i5 : Int).toNat) (j := 0) rfl rfl isRo vt3 rfl (map_get _ h13) rfl (.v (.nil)) (nodup_of_B rfl)) ⟨_, rfl, rfl⟩ rfl (From.ok (ps := [(none, 5)]) ⟨⟨rfl, by kernel_rfl⟩, trivial⟩) (.nil))))))))))))))))))))))
        refine op0 (sp_neq rfl rfl rfl) rfl ⟨_, rfl, rfl⟩ rfl rfl ?_
        refine op0 (sp_pickF rfl rfl rfl) rfl trivial rfl rfl ?_
        refine TL.nil ?_
        refine TC.cond (b := (x8 != x9)) rfl (fun h14 => ?_) (fun h14 => ?_)
        · have h := cond_t h h14
          refine TC.seq ?_
          refine TC.region ?_
          refine op0 (sp_assign rfl rfl) rfl trivial rfl rfl ?_
          refine TL.nil ?_
          cases h
          exact retJ [] (.tmp rfl .nil) rfl trivial rfl rfl
        · have h := cond_f h h14
          refine TC.skip ?_
          refine TC.inBlock ?_
          refine TC.region ?_
          refine op0 (sp_move rfl rfl) rfl trivial rfl rfl ?_
          obtain ⟨h15, h⟩ := chk_inv h
          refine op0 (sp_add rfl rfl rfl h15) rfl trivial rfl rfl ?_
          refine op0 (sp_assign rfl rfl) rfl trivial rfl rfl ?_
          refine TL.nil ?_
          refine TC.inLoop ?_
          refine TC.seq ?_
          refine TC.seq ?_
          refine subJ [] (ih _ h) ?_ ?_ ?_
          · exact ⟨rfl, rfl, rfl, trivial⟩
          · exact ⟨mem_at 0 rfl, mem_at 1 rfl, mem_at 2 rfl, mem_at 3 rfl, mem_at 4 rfl, mem_at 5 rfl, trivial⟩
          · rfl
    · have h := cond_f h h4
      refine TC.exit rfl ?_
      refine TC.seq ?_
      refine TC.region ?_
      refine op0 (sp_assign rfl rfl) rfl trivial rfl rfl ?_
      refine TL.nil ?_
      cases h
      exact retJ [] (.tmp rfl .nil) rfl trivial rfl rfl
def ev_law01_equal_j0 (n : Nat) (a1 : List Int) (b3 : List Int) (a2 : List Int) (b4 : List Int) : Option Bool :=
  ev_law01_equal_l1 n a1 b3 a2 b4 n 0
set_option maxRecDepth 100000 in
set_option maxHeartbeats 2000000 in
theorem ok_law01_equal_j0 {n : Nat} {w0 : World} {R0 : Nat → Prop} {env0 : Env} {r : Bool} {a1 : List Int} {a2 : List Int} {b3 : List Int} {b4 : List Int} (h : ev_law01_equal_j0 n a1 b3 a2 b4 = some r) : TC Try.prog ⟨w0, fun _ => False, R0⟩ 62 (bodyPost Try.prog Try.f39 (Post ⟨w0, fun _ => False, R0⟩ env0 (.val (.bool r)) [])) [.code (sub (bodyOf Try.f39) [1, 0, 1, 1]), .code (sub (bodyOf Try.f39) [1, 1])] ([(2, .ptr 4 0), (3, .ptr 5 0)]) ([.blk 4 [.ref 0, .ref 1] 57, .blk 5 [.ref 2, .ref 3] 57, .ro 0 1 (List.map en_int a1), .ro 1 1 (List.map en_int a2), .ro 2 1 (List.map en_int b3), .ro 3 1 (List.map en_int b4)]) := by
  rw [ev_law01_equal_j0] at h
  refine TC.skip ?_
  refine TC.seq ?_
  refine TC.seq ?_
  refine TC.region ?_
  refine op0 (sp_assign rfl rfl) rfl trivial rfl rfl ?_
  refine TL.nil ?_
  refine TC.block ?_
  refine TC.loop ?_
  refine TC.seq ?_
  refine TC.seq ?_
  refine subJ [] (ok_law01_equal_l1 _ _ h) ?_ ?_ ?_
  · exact ⟨rfl, rfl, rfl, trivial⟩
  · exact ⟨mem_at 0 rfl, mem_at 1 rfl, mem_at 2 rfl, mem_at 3 rfl, mem_at 4 rfl, mem_at 5 rfl, trivial⟩
  · rfl
def ev_law01_equal (n : Nat) (a1 : List Int) (a2 : List Int) (b3 : List Int) (b4 : List Int) : Option Bool :=
  cond ((a1.length : Int) != (b3.length : Int)) (some false) (cond ((a2.length : Int) != (b4.length : Int)) (some false) (cond ((a1.length : Int) != (a2.length : Int)) (some false) (ev_law01_equal_j0 n a1 b3 a2 b4)))
set_option maxRecDepth 100000 in
set_option maxHeartbeats 2000000 in
theorem fc_law01_equal {n : Nat} {a1 : List Int} {a2 : List Int} {b3 : List Int} {b4 : List Int} {r : Bool} (h : ev_law01_equal n a1 a2 b3 b4 = some r) : FC Try.prog 39 [.agg [.ref 0, .ref 1], .agg [.ref 2, .ref 3]] [.ro 0 1 (List.map en_int a1), .ro 1 1 (List.map en_int a2), .ro 2 1 (List.map en_int b3), .ro 3 1 (List.map en_int b4)] (.val (.bool r)) [] := by
  refine introJ (nz := 62) Try.func39 rfl rfl rfl (fun w0 R0 env0 => ?_)
  rw [ev_law01_equal] at h
  refine TC.seq ?_
  refine TC.region ?_
  refine op0 (sp_box 4 rfl rfl rfl rfl rfl) rfl trivial rfl rfl ?_
  refine op0 (sp_box 5 rfl rfl rfl rfl rfl) rfl trivial rfl rfl ?_
  refine op0 (sp_assign rfl rfl) rfl trivial rfl rfl ?_
  refine TL.nil ?_
  refine TC.seq ?_
  refine TC.seq ?_
  refine TC.region ?_
  refine op1 1 rfl (sp_fieldAddrB rfl isBlk rfl ft57_0 vt38 (by decide)) rfl trivial rfl rfl ?_
  refine op1 1 rfl (sp_loadB rfl isBlk rfl vt38 rfl) rfl trivial rfl rfl ?_
  refine op1 2 rfl (sp_lenM (N := a1.length) (len_map _ _) rfl rfl isRo Try.underlying38) rfl trivial rfl rfl ?_
  refine op1 0 rfl (sp_fieldAddrB rfl isBlk rfl ft57_0 vt38 (by decide)) rfl trivial rfl rfl ?_
  refine op1 0 rfl (sp_loadB rfl isBlk rfl vt38 rfl) rfl trivial rfl rfl ?_
  refine op1 4 rfl (sp_lenM (N := b3.length) (len_map _ _) rfl rfl isRo Try.underlying38) rfl trivial rfl rfl ?_
  refine op0 (sp_neq rfl rfl rfl) rfl trivial rfl rfl ?_
  refine op0 (sp_move rfl rfl) rfl trivial rfl rfl ?_
  rcases cond_cases h with ⟨h1, h⟩ | ⟨h1, h⟩
  · refine (boolLit 13 rfl h1).2 ?_
    refine opSkip rfl ⟨_, rfl, .inl rfl⟩ rfl ?_
    refine opSkip rfl ⟨_, rfl, .inl rfl⟩ rfl ?_
    refine opSkip rfl ⟨_, rfl, .inl rfl⟩ rfl ?_
    refine opSkip rfl ⟨_, rfl, .inl rfl⟩ rfl ?_
    refine opSkip rfl ⟨_, rfl, .inl rfl⟩ rfl ?_
    refine opSkip rfl ⟨_, rfl, .inl rfl⟩ rfl ?_
    refine opSkip rfl ⟨_, rfl, .inl rfl⟩ rfl ?_
    refine op0 (sp_pickT rfl rfl rfl) rfl trivial rfl rfl ?_
    refine op0 (sp_move rfl rfl) rfl trivial rfl rfl ?_
    refine opSkip rfl ⟨_, rfl, .inl rfl⟩ rfl ?_
    refine opSkip rfl ⟨_, rfl, .inl rfl⟩ rfl ?_
    refine opSkip rfl ⟨_, rfl, .inl rfl⟩ rfl ?_
    refine opSkip rfl ⟨_, rfl, .inl rfl⟩ rfl ?_
    refine opSkip rfl ⟨_, rfl, .inl rfl⟩ rfl ?_
    refine opSkip rfl ⟨_, rfl, .inl rfl⟩ rfl ?_
    refine opSkip rfl ⟨_, rfl, .inl rfl⟩ rfl ?_
    refine op0 (sp_pickT rfl rfl rfl) rfl trivial rfl rfl ?_
    refine TL.nil ?_
    refine TC.condT rfl ?_
    refine TC.seq ?_
    refine TC.region ?_
    refine op0 (sp_assign rfl rfl) rfl trivial rfl rfl ?_
    refine TL.nil ?_
    cases h
    exact retJ [] (.tmp rfl .nil) rfl trivial rfl rfl
  · refine (boolLit 13 rfl h1).2 ?_
    refine op1 1 rfl (sp_fieldAddrB rfl isBlk rfl ft57_1 vt38 (by decide)) rfl ⟨_, rfl, rfl⟩ rfl rfl ?_
    refine op1 1 rfl (sp_loadB rfl isBlk rfl vt38 rfl) rfl ⟨_, rfl, rfl⟩ rfl rfl ?_
    refine op1 3 rfl (sp_lenM (N := a2.length) (len_map _ _) rfl rfl isRo Try.underlying38) rfl ⟨_, rfl, rfl⟩ rfl rfl ?_
    refine op1 0 rfl (sp_fieldAddrB rfl isBlk rfl ft57_1 vt38 (by decide)) rfl ⟨_, rfl, rfl⟩ rfl rfl ?_
    refine op1 0 rfl (sp_loadB rfl isBlk rfl vt38 rfl) rfl ⟨_, rfl, rfl⟩ rfl rfl ?_
    refine op1 5 rfl (sp_lenM (N := b4.length) (len_map _ _) rfl rfl isRo Try.underlying38) rfl ⟨_, rfl, rfl⟩ rfl rfl ?_
    refine op0 (sp_neq rfl rfl rfl) rfl ⟨_, rfl, rfl⟩ rfl rfl ?_
    refine op0 (sp_pickF rfl rfl rfl) rfl trivial rfl rfl ?_
    refine op0 (sp_move rfl rfl) rfl trivial rfl rfl ?_
    rcases cond_cases h with ⟨h2, h⟩ | ⟨h2, h⟩
    · refine (boolLit 22 rfl h2).2 ?_
      refine opSkip rfl ⟨_, rfl, .inl rfl⟩ rfl ?_
      refine opSkip rfl ⟨_, rfl, .inl rfl⟩ rfl ?_
      refine opSkip rfl ⟨_, rfl, .inl rfl⟩ rfl ?_
      refine opSkip rfl ⟨_, rfl, .inl rfl⟩ rfl ?_
      refine opSkip rfl ⟨_, rfl, .inl rfl⟩ rfl ?_
      refine opSkip rfl ⟨_, rfl, .inl rfl⟩ rfl ?_
      refine opSkip rfl ⟨_, rfl, .inl rfl⟩ rfl ?_
      refine op0 (sp_pickT rfl rfl rfl) rfl trivial rfl rfl ?_
      refine TL.nil ?_
      refine TC.condT rfl ?_
      refine TC.seq ?_
      refine TC.region ?_
      refine op0 (sp_assign rfl rfl) rfl trivial rfl rfl ?_
      refine TL.nil ?_
      cases h
      exact retJ [] (.tmp rfl .nil) rfl trivial rfl rfl
    · refine (boolLit 22 rfl h2).2 ?_
      refine op1 1 rfl (sp_fieldAddrB rfl isBlk rfl ft57_0 vt38 (by decide)) rfl ⟨_, rfl, rfl⟩ rfl rfl ?_
      refine op1 1 rfl (sp_loadB rfl isBlk rfl vt38 rfl) rfl ⟨_, rfl, rfl⟩ rfl rfl ?_
      refine op1 2 rfl (sp_lenM (N := a1.length) (len_map _ _) rfl rfl isRo Try.underlying38) rfl ⟨_, rfl, rfl⟩ rfl rfl ?_
      refine op1 1 rfl (sp_fieldAddrB rfl isBlk rfl ft57_1 vt38 (by decide)) rfl ⟨_, rfl, rfl⟩ rfl rfl ?_
      refine op1 1 rfl (sp_loadB rfl isBlk rfl vt38 rfl) rfl ⟨_, rfl, rfl⟩ rfl rfl ?_
      refine op1 3 rfl (sp_lenM (N := a2.length) (len_map _ _) rfl rfl isRo Try.underlying38) rfl ⟨_, rfl, rfl⟩ rfl rfl ?_
      refine op0 (sp_neq rfl rfl rfl) rfl ⟨_, rfl, rfl⟩ rfl rfl ?_
      refine op0 (sp_pickF rfl rfl rfl) rfl trivial rfl rfl ?_
      refine TL.nil ?_
      refine TC.cond (b := ((a1.length : Int) != (a2.length : Int))) rfl (fun h3 => ?_) (fun h3 => ?_)
      · have h := cond_t h h3
        refine TC.seq ?_
        refine TC.region ?_
        refine op0 (sp_assign rfl rfl) rfl trivial rfl rfl ?_
        refine TL.nil ?_
        cases h
        exact retJ [] (.tmp rfl .nil) rfl trivial rfl rfl
      · have h := cond_f h h3
        refine subJ [] (ok_law01_equal_j0 h) ?_ ?_ ?_
        · exact ⟨rfl, rfl, trivial⟩
        · exact ⟨mem_at 1 rfl, mem_at 0 rfl, mem_at 2 rfl, mem_at 3 rfl, mem_at 4 rfl, mem_at 5 rfl, trivial⟩
        · rfl
/- law01_wider -/
def ev_law01_wider (n : Nat) (by_1 : List Int) (more2 : List Int) (least3 : Int) (most4 : Int) : Option ((List Int)) :=
  chk (room 1 (([] : List Int).length + by_1.length)) <| cond (((([] : List Int) ++ by_1).length : Int) == 0) (chk (room 1 ((([] : List Int) ++ by_1).length + ([0] : List Int).length)) <| chk (room 1 (((([] : List Int) ++ by_1) ++ ([0] : List Int)).length + more2.length)) <| (ev_law01_made n (((([] : List Int) ++ by_1) ++ ([0] : List Int)) ++ more2) least3 most4).bind fun r5 => some r5) (chk (room 1 ((([] : List Int) ++ by_1).length + more2.length)) <| (ev_law01_made n ((([] : List Int) ++ by_1) ++ more2) least3 most4).bind fun r6 => some r6)
set_option maxRecDepth 100000 in
set_option maxHeartbeats 2000000 in
theorem fc_law01_wider {n : Nat} {by_1 : List Int} {more2 : List Int} {least3 : Int} {most4 : Int} {r : (List Int)} (h : ev_law01_wider n by_1 more2 least3 most4 = some r) : FC Try.prog 41 [.ref 0, .ref 1, .val (.int .i64 least3), .val (.int .i64 most4)] [.ro 0 1 (List.map en_uint8 by_1), .ro 1 1 (List.map en_uint8 more2)] (.ref 0) [.row 0 3 1 (List.map en_int r)] := by
  refine introJ (nz := 25) Try.func41 rfl rfl rfl (fun w0 R0 env0 => ?_)
  rw [ev_law01_wider] at h
  refine TC.seq ?_
  refine TC.region ?_
  refine op0 (sp_assign rfl rfl) rfl trivial rfl rfl ?_
  refine TL.nil ?_
  refine TC.seq ?_
  refine TC.region ?_
  refine op0 (sp_emptyM 2 (List.map en_uint8 []) rfl rfl sl62) rfl trivial rfl rfl ?_
  refine op0 (sp_move rfl rfl) rfl trivial rfl rfl ?_
  obtain ⟨h1, h⟩ := chk_inv h
  refine appM 0 1 (N := ([] : List Int).length) (N2 := by_1.length) 3 rfl rfl trivial rfl rfl rfl rfl rfl isRo rfl sl62 (len_map _ _) (len_map _ _) h1 (map_app _ _ _) rfl ?_
  refine op0 (sp_assign rfl rfl) rfl trivial rfl rfl ?_
  refine TL.nil ?_
  refine TC.seq ?_
  refine TC.seq ?_
  refine TC.region ?_
  refine op0 (sp_move rfl rfl) rfl trivial rfl rfl ?_
  refine op1 0 rfl (sp_lenM (N := (([] : List Int) ++ by_1).length) (len_map _ _) rfl rfl isOwn Try.underlying62) rfl trivial rfl rfl ?_
  refine op0 (sp_eql rfl rfl rfl) rfl trivial rfl rfl ?_
  refine TL.nil ?_
  refine TC.cond (b := (((([] : List Int) ++ by_1).length : Int) == 0)) rfl (fun h2 => ?_) (fun h2 => ?_)
  · have h := cond_t h h2
    refine TC.region ?_
    refine op0 (sp_move rfl rfl) rfl trivial rfl rfl ?_
    refine op0 (sp_buildSlice (qs := [.val (.int .u8 0)]) (need := []) (els := List.map en_uint8 ([0] : List Int)) 4 rfl sl62 (by decide) (by decide) rfl rfl rfl (.v (.nil)) (map_len fun _ => rfl) rfl rfl rfl) rfl trivial rfl rfl ?_
    obtain ⟨h3, h⟩ := chk_inv h
    refine appM 1 0 (N := (([] : List Int) ++ by_1).length) (N2 := ([0] : List Int).length) 5 rfl rfl trivial rfl rfl rfl rfl rfl isOwn rfl sl62 (len_map _ _) (len_map _ _) h3 (map_app _ _ _) rfl ?_
    refine op0 (sp_assign rfl rfl) rfl trivial rfl rfl ?_
    refine TL.nil ?_
    refine TC.seq ?_
    refine TC.region ?_
    refine op0 (sp_move rfl rfl) rfl trivial rfl rfl ?_
    refine op0 (sp_move rfl rfl) rfl trivial rfl rfl ?_
    obtain ⟨h4, h⟩ := chk_inv h
    refine appM 0 3 (N := ((([] : List Int) ++ by_1) ++ ([0] : List Int)).length) (N2 := more2.length) 6 rfl rfl trivial rfl rfl rfl rfl rfl isRo rfl sl62 (len_map _ _) (len_map _ _) h4 (map_app _ _ _) rfl ?_
    refine op0 (sp_move rfl rfl) rfl trivial rfl rfl ?_
    refine op0 (sp_move rfl rfl) rfl trivial rfl rfl ?_
    obtain ⟨r5, h5, h⟩ := bind_inv h
    refine op1 0 rfl (sp_call (avs := [.ref 6, .val (.int .i64 least3), .val (.int .i64 most4)]) (need := [.row 6 5 1 (List.map en_uint8 (((([] : List Int) ++ by_1) ++ ([0] : List Int)) ++ more2))]) (v := .ref 7) (news := [.row 7 3 1 (List.map en_int r5)]) rfl rfl rfl Try.call66 (atJ [(0, 6)] [(0, 7)] (fc_law01_made h5) rfl rfl) (.inr (List.forall_mem_cons.2 ⟨indep_map en_int_flat, (by simp)⟩))) rfl trivial rfl rfl ?_
    refine op0 (sp_assign rfl rfl) rfl trivial rfl rfl ?_
    refine TL.nil ?_
    cases h
    exact retJ [(0, 7)] (.tmp rfl .nil) rfl ⟨mem_at 0 rfl, trivial⟩ rfl rfl
  · have h := cond_f h h2
    refine TC.skip ?_
    refine TC.seq ?_
    refine TC.region ?_
    refine op0 (sp_move rfl rfl) rfl trivial rfl rfl ?_
    refine op0 (sp_move rfl rfl) rfl trivial rfl rfl ?_
    obtain ⟨h6, h⟩ := chk_inv h
    refine appM 0 2 (N := (([] : List Int) ++ by_1).length) (N2 := more2.length) 8 rfl rfl trivial rfl rfl rfl rfl rfl isRo rfl sl62 (len_map _ _) (len_map _ _) h6 (map_app _ _ _) rfl ?_
    refine op0 (sp_move rfl rfl) rfl trivial rfl rfl ?_
    refine op0 (sp_move rfl rfl) rfl trivial rfl rfl ?_
    obtain ⟨r6, h7, h⟩ := bind_inv h
    refine op1 0 rfl (sp_call (avs := [.ref 8, .val (.int .i64 least3), .val (.int .i64 most4)]) (need := [.row 8 5 1 (List.map en_uint8 ((([] : List Int) ++ by_1) ++ more2))]) (v := .ref 9) (news := [.row 9 3 1 (List.map en_int r6)]) rfl rfl rfl Try.call66 (atJ [(0, 8)] [(0, 9)] (fc_law01_made h7) rfl rfl) (.inr (List.forall_mem_cons.2 ⟨indep_map en_int_flat, (by simp)⟩))) rfl trivial rfl rfl ?_
    refine op0 (sp_assign rfl rfl) rfl trivial rfl rfl ?_
    refine TL.nil ?_
    cases h
    exact retJ [(0, 9)] (.tmp rfl .nil) rfl ⟨mem_at 0 rfl, trivial⟩ rfl rfl
end
end Go.Proofs.Ytabjhlfgcmmbfaa.Sy
