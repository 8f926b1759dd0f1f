/- What functions of the program compute, and that they do: printed by symgen.py. -/
import Derived.Test.YtabjhlfgcmmbfaaGLib
import Derived.Test.YtabjhlfgcmmbfaaGTrainNearestS1
import Derived.Test.YtabjhlfgcmmbfaaGturretlaw01
import Derived.Test.YtabjhlfgcmmbfaaGTrain
set_option linter.unusedSimpArgs false
set_option linter.unusedVariables false
namespace Go.Proofs.Ytabjhlfgcmmbfaa.Sy
open Go.RowKit
noncomputable section

/- law01_TrainNearest -/
def ev_law01_TrainNearest_j5 (n : Nat) (r45 : (List Int) × (List Int) × Int) (i21 : Int) (i22 : Int) (r37 : Int × Int) (l27 : List Int) (l28 : List Int) (i19 : Int) (r32 : (List Int) × (List Int) × Int) (l20 : List Int) (l25 : List Int) (l26 : List Int) (k_law01_TrainNearest_l1 : Int → (List Int) → Int → Int → Int → Int → (List Int) → (List Int) → (List Int) → (List Int) → Option Bool) : Option Bool :=
  (ev_law01_TrainNearest_1 n r45.1 r45.2.1 i21 i22).bind fun r46 => chk (in64 (r46.1 * r37.2)) <| chk (in64 (r37.1 * r46.2)) <| cond (decide ((r37.1 * r46.2) < (r46.1 * r37.2))) (some false) ((ev_law01_copied n l27 l28).bind fun r49 => (ev_train_Fewest n r49.1 r49.2 i21 i22).bind fun r50 => cond (r50.2 == 0) (cond (decide ((0 : Int) < (r50.1.length : Int))) (idx r50.1 0 fun x51 => cond (decide ((x51.1.length : Int) ≤ i19)) ((ev_law01_equal n r32.1 r32.2.1 x51.1 x51.2).bind fun r52 => cond (!r52) (some false) (chk (in64 (i19 + 1)) <| k_law01_TrainNearest_l1 (i19 + 1) l20 i21 i22 r37.1 r37.2 l25 l26 l27 l28)) (chk (in64 (i19 + 1)) <| k_law01_TrainNearest_l1 (i19 + 1) l20 i21 i22 r37.1 r37.2 l25 l26 l27 l28)) (chk (in64 (i19 + 1)) <| k_law01_TrainNearest_l1 (i19 + 1) l20 i21 i22 r37.1 r37.2 l25 l26 l27 l28)) (chk (in64 (i19 + 1)) <| k_law01_TrainNearest_l1 (i19 + 1) l20 i21 i22 r37.1 r37.2 l25 l26 l27 l28))
set_option maxRecDepth 100000 in
set_option maxHeartbeats 2000000 in
theorem ok_law01_TrainNearest_j5 {n : Nat} {w0 : World} {R0 : Nat → Prop} {env0 : Env} {r : Bool} {r37 : Int × Int} {r32 : (List Int) × (List Int) × Int} {r45 : (List Int) × (List Int) × Int} {i21 : Int} {i22 : Int} {l27 : List Int} {l28 : List Int} {i19 : Int} {l20 : List Int} {l25 : List Int} {l26 : List Int} {k_law01_TrainNearest_l1 : Int → (List Int) → Int → Int → Int → Int → (List Int) → (List Int) → (List Int) → (List Int) → Option Bool} (hk_law01_TrainNearest_l1 : ∀ (i19 : Int) (l20 : List Int) (i21 : Int) (i22 : Int) (i23 : Int) (i24 : Int) (l25 : List Int) (l26 : List Int) (l27 : List Int) (l28 : List Int), k_law01_TrainNearest_l1 i19 l20 i21 i22 i23 i24 l25 l26 l27 l28 = some r → TC Try.prog ⟨w0, fun _ => False, R0⟩ 239 (bodyPost Try.prog Try.f11 (Post ⟨w0, fun _ => False, R0⟩ env0 (.val (.bool r)) [])) [.code (sub (bodyOf Try.f11) [1, 1, 1, 1, 1, 1, 0, 1, 0, 0, 0, 0]), .code (sub (bodyOf Try.f11) [1, 1, 1, 1, 1, 1, 0, 1, 0, 0, 0, 1]), .code (sub (bodyOf Try.f11) [1, 1, 1, 1, 1, 1, 0, 1, 0, 0, 1]), .inLoop (sub (bodyOf Try.f11) [1, 1, 1, 1, 1, 1, 0, 1, 0, 0]), .inBlock 0, .code (sub (bodyOf Try.f11) [1, 1, 1, 1, 1, 1, 1])] ([(2, .ref 2), (3, .ptr 3 0), (7, .ptr 7 0), (8, .ptr 8 0), (11, .fn 42 [] [.ptr 8 0]), (12, .ptr 12 0), (13, .val (.int .i64 i19))]) ([.ro 2 1 (List.map en_uint8 l20), .blk 3 [.ref 0, .ref 1] 64, .blk 7 [.ref 5, .ref 6] 40, .blk 8 [.val (.int .i64 i21), .val (.int .i64 i22)] 26, .blk 12 [.val (.int .i64 i23), .val (.int .i64 i24)] 82, .ro 0 1 (List.map en_uint8 l25), .ro 1 1 (List.map en_uint8 l26), .row 5 3 1 (List.map en_int l27), .row 6 3 1 (List.map en_int l28)])) (h : ev_law01_TrainNearest_j5 n r45 i21 i22 r37 l27 l28 i19 r32 l20 l25 l26 k_law01_TrainNearest_l1 = some r) : TC Try.prog ⟨w0, fun _ => False, R0⟩ 239 (bodyPost Try.prog Try.f11 (Post ⟨w0, fun _ => False, R0⟩ env0 (.val (.bool r)) [])) [.code (sub (bodyOf Try.f11) [1, 1, 1, 1, 1, 1, 0, 1, 0, 0, 1, 0, 0, 1, 1, 1, 1, 1, 1, 1, 1, 1, 0, 1, 1]), .code (sub (bodyOf Try.f11) [1, 1, 1, 1, 1, 1, 0, 1, 0, 0, 1, 0, 0, 1, 1, 1, 1, 1, 1, 1, 1, 1, 1]), .inBlock 1, .code (sub (bodyOf Try.f11) [1, 1, 1, 1, 1, 1, 0, 1, 0, 0, 1, 1]), .inLoop (sub (bodyOf Try.f11) [1, 1, 1, 1, 1, 1, 0, 1, 0, 0]), .inBlock 0, .code (sub (bodyOf Try.f11) [1, 1, 1, 1, 1, 1, 1])] ([(2, .ref 2), (3, .ptr 3 0), (7, .ptr 7 0), (8, .ptr 8 0), (11, .fn 42 [] [.ptr 8 0]), (12, .ptr 12 0), (13, .val (.int .i64 i19)), (14, .ptr 21 0), (18, .val (.int .i64 r37.1)), (19, .val (.int .i64 r37.2)), (24, .ptr 35 0)]) ([.ro 2 1 (List.map en_uint8 l20), .blk 3 [.ref 0, .ref 1] 64, .blk 7 [.ref 5, .ref 6] 40, .blk 8 [.val (.int .i64 i21), .val (.int .i64 i22)] 26, .blk 12 [.val (.int .i64 r37.1), .val (.int .i64 r37.2)] 82, .blk 21 [.ref 19, .ref 20] 57, .blk 35 [.ref 33, .ref 34] 57, .ro 0 1 (List.map en_uint8 l25), .ro 1 1 (List.map en_uint8 l26), .row 5 3 1 (List.map en_int l27), .row 6 3 1 (List.map en_int l28), .ro 19 1 (List.map en_int r32.1), .ro 20 1 (List.map en_int r32.2.1), .ro 33 1 (List.map en_int r45.1), .ro 34 1 (List.map en_int r45.2.1)]) := by
  rw [ev_law01_TrainNearest_j5] at h
  refine TC.skip ?_
  refine TC.seq ?_
  refine TC.seq ?_
  refine TC.region ?_
  refine op0 (sp_move rfl rfl) rfl trivial rfl rfl ?_
  refine op1 6 rfl (sp_loadBA rfl isBlk rfl vt57 rfl rfl) rfl trivial rfl rfl ?_
  obtain ⟨r46, h47, h⟩ := bind_inv h
  refine opN (need := [.ro 33 1 (List.map en_int r45.1), .ro 34 1 (List.map en_int r45.2.1), .blk 8 [.val (.int .i64 i21), .val (.int .i64 i22)] 26]) [13, 14, 3] ⟨rfl, rfl, rfl, trivial⟩ (sp_call (avs := [.agg [.ref 33, .ref 34]]) (need := [.ro 33 1 (List.map en_int r45.1), .ro 34 1 (List.map en_int r45.2.1), .blk 8 [.val (.int .i64 i21), .val (.int .i64 i22)] 26]) (v := .tup [.val (.int .i64 r46.1), .val (.int .i64 r46.2)]) (news := []) rfl rfl rfl Try.call42 (atJ [(0, 33), (1, 34), (2, 8)] [] (fc_law01_TrainNearest_1 h47) rfl rfl) (.inr (fun x hx => nomatch hx))) rfl trivial rfl rfl ?_
  refine op0 (sp_move rfl rfl) rfl trivial rfl rfl ?_
  refine op0 (sp_extract rfl rfl rfl) rfl trivial rfl rfl ?_
  refine op0 (sp_extract rfl rfl rfl) rfl trivial rfl rfl ?_
  refine op0 (sp_assign rfl rfl) rfl trivial rfl rfl ?_
  refine op0 (sp_assign rfl rfl) rfl trivial rfl rfl ?_
  refine TL.nil ?_
  refine TC.seq ?_
  refine TC.region ?_
  refine op0 (sp_move rfl rfl) rfl trivial rfl rfl ?_
  refine op0 (sp_move rfl rfl) rfl trivial rfl rfl ?_
  obtain ⟨h48, h⟩ := chk_inv h
  refine op0 (sp_mul rfl rfl rfl h48) rfl trivial rfl rfl ?_
  refine op0 (sp_move rfl rfl) rfl trivial rfl rfl ?_
  refine op0 (sp_move rfl rfl) rfl trivial rfl rfl ?_
  obtain ⟨h49, h⟩ := chk_inv h
  refine op0 (sp_mul rfl rfl rfl h49) rfl trivial rfl rfl ?_
  refine op0 (sp_gtr rfl rfl rfl) rfl trivial rfl rfl ?_
  refine TL.nil ?_
  refine TC.cond (b := (decide ((r37.1 * r46.2) < (r46.1 * r37.2)))) rfl (fun h50 => ?_) (fun h50 => ?_)
  · have h := cond_t h h50
    refine TC.seq ?_
    refine TC.region ?_
    refine op0 (sp_assign rfl rfl) rfl trivial rfl rfl ?_
    refine TL.nil ?_
    cases h
    exact retJ [] (.tmp rfl .nil) rfl trivial rfl rfl
  · have h := cond_f h h50
    refine TC.skip ?_
    refine TC.seq ?_
    obtain ⟨r49, h53, h⟩ := bind_inv h
    obtain ⟨r50, h54, h⟩ := bind_inv h
    refine drawJ 8 [⟨.agg [.ref 5, .ref 6], [], [.blk 7 [.ref 5, .ref 6] 40], []⟩, ⟨.agg [.ref 40, .ref 41], [.ro 40 1 (List.map en_int r49.1), .ro 41 1 (List.map en_int r49.2)], [.row 5 3 1 (List.map en_int l27), .row 6 3 1 (List.map en_int l28)], []⟩, ⟨.agg [.val (.int .i64 i21), .val (.int .i64 i22)], [], [.blk 8 [.val (.int .i64 i21), .val (.int .i64 i22)] 26], []⟩, ⟨.tup [.ref 42, .val (.int .i64 r50.2)], [.row 42 57 2 (List.map en_api_Train r50.1)], [.ro 40 1 (List.map en_int r49.1), .ro 41 1 (List.map en_int r49.2)], []⟩, ⟨.tup [.ref 42, .val (.int .i64 r50.2)], [], [], []⟩, ⟨.ref 42, [], [], []⟩, ⟨.val (.int .i64 r50.2), [], [], []⟩, ⟨.ref 42, [], [], []⟩] rfl ?_ rfl ?_ rfl ?_ ?_
    · kernel_rfl
    · kernel_rfl
    · exact DAll.op' (sp_loadBA rfl isBlk rfl vt40 rfl rfl) trivial rfl (From.ok (ps := [(none, 2)]) ⟨⟨rfl, rfl⟩, trivial⟩) (DAll.op' (OpSpec.froz (news := [.ro 40 1 (List.map en_int r49.1), .row 41 3 1 (List.map en_int r49.2)]) 1 rfl (OpSpec.froz (news := [.row 40 3 1 (List.map en_int r49.1), .row 41 3 1 (List.map en_int r49.2)]) 0 rfl (sp_call (avs := [.agg [.ref 5, .ref 6]]) (need := [.row 5 3 1 (List.map en_int l27), .row 6 3 1 (List.map en_int l28)]) (v := .agg [.ref 40, .ref 41]) (news := [.row 40 3 1 (List.map en_int r49.1), .row 41 3 1 (List.map en_int r49.2)]) rfl rfl rfl Try.call19 (atJ [(0, 5), (1, 6)] [(0, 40), (1, 41)] (fc_law01_copied h53) rfl rfl) (.inr (List.forall_mem_cons.2 ⟨indep_map en_int_flat, List.forall_mem_cons.2 ⟨indep_map en_int_flat, (by simp)⟩⟩))))) trivial rfl (From.ok (ps := [(none, 9), (none, 10)]) ⟨⟨rfl, rfl⟩, ⟨rfl, rfl⟩, trivial⟩) (DAll.op' (sp_loadBA rfl isBlk rfl vt26 rfl rfl) trivial rfl (From.ok (ps := [(none, 3)]) ⟨⟨rfl, rfl⟩, trivial⟩) (DAll.op' (sp_call (avs := [.agg [.ref 40, .ref 41], .agg [.val (.int .i64 i21), .val (.int .i64 i22)]]) (need := [.ro 40 1 (List.map en_int r49.1), .ro 41 1 (List.map en_int r49.2)]) (v := .tup [.ref 42, .val (.int .i64 r50.2)]) (news := [.row 42 57 2 (List.map en_api_Train r50.1)]) rfl rfl rfl Try.call29 (atJ [(0, 40), (1, 41)] [(0, 42)] (fc_train_Fewest h54) rfl rfl) (.inl (roAll rfl))) trivial rfl (From.ok (ps := [(some 1, 0), (some 1, 1)]) ⟨⟨_, rfl, rfl, rfl, rfl⟩, ⟨_, rfl, rfl, rfl, rfl⟩, trivial⟩) (DAll.op' (sp_move rfl rfl) trivial rfl (From.ok (ps := []) trivial) (DAll.op' (sp_extract rfl rfl rfl) trivial rfl (From.ok (ps := []) trivial) (DAll.op' (sp_extract rfl rfl rfl) trivial rfl (From.ok (ps := []) trivial) (DAll.op' (sp_assign rfl rfl) trivial rfl (From.ok (ps := []) trivial) (.nil))))))))
    refine op0 (sp_assign rfl rfl) rfl trivial rfl rfl ?_
    refine TL.nil ?_
    refine TC.seq ?_
    rcases cond_cases h with ⟨h55, h⟩ | ⟨h55, h⟩
    · rcases cond_cases h with ⟨h56, h⟩ | ⟨h56, h⟩
      · obtain ⟨x51, h57, h58, h⟩ := idx_inv h
        rcases cond_cases h with ⟨h59, h⟩ | ⟨h59, h⟩
        · refine drawJ 21 [⟨.val (.int .i64 r50.2), [], [], []⟩, ⟨.val (.bool (r50.2 == 0)), [], [], []⟩, ⟨.val (.bool true), [], [], []⟩, ⟨.ref 42, [], [], []⟩, ⟨.val (.int .i64 (r50.1.length : Int)), [], [.row 42 57 2 (List.map en_api_Train r50.1)], []⟩, ⟨.val (.bool (decide ((0 : Int) < (r50.1.length : Int)))), [], [], []⟩, ⟨.val (.bool (decide ((0 : Int) < (r50.1.length : Int)))), [], [], []⟩, ⟨.val (.bool true), [], [], []⟩, ⟨.ref 42, [], [], []⟩, ⟨.cell 42 ((0 : Int).toNat * 2), [], [.row 42 57 2 (List.map en_api_Train r50.1)], []⟩, ⟨.cell 42 ((0 : Int).toNat * 2 + 0), [], [.row 42 57 2 (List.map en_api_Train r50.1)], []⟩, ⟨.ref 43, [.ro 43 1 (List.map en_int x51.1)], [.row 42 57 2 (List.map en_api_Train r50.1)], []⟩, ⟨.val (.int .i64 (x51.1.length : Int)), [], [.ro 43 1 (List.map en_int x51.1)], []⟩, ⟨.val (.int .i64 i19), [], [], []⟩, ⟨.val (.bool (decide ((x51.1.length : Int) ≤ i19))), [], [], []⟩, ⟨.val (.bool (decide ((x51.1.length : Int) ≤ i19))), [], [], []⟩, ⟨.val (.bool true), [], [], []⟩, ⟨.agg [.ref 19, .ref 20], [], [.blk 21 [.ref 19, .ref 20] 57], []⟩, ⟨.ref 42, [], [], []⟩, ⟨.cell 42 ((0 : Int).toNat * 2), [], [.row 42 57 2 (List.map en_api_Train r50.1)], []⟩, ⟨.agg [.ref 44, .ref 45], [.ro 44 1 (List.map en_int x51.1), .ro 45 1 (List.map en_int x51.2)], [.row 42 57 2 (List.map en_api_Train r50.1)], []⟩] rfl ?_ rfl ?_ rfl ?_ ?_
          · kernel_rfl
          · kernel_rfl
          · exact DAll.op' (sp_move rfl rfl) trivial rfl (From.ok (ps := []) trivial) (DAll.op' (sp_eql rfl rfl rfl) trivial rfl (From.ok (ps := []) trivial) (DAll.op' (sp_castB h55 (sp_move rfl rfl)) trivial rfl (From.ok (ps := []) trivial) (DAll.op' (sp_move rfl rfl) ⟨_, rfl, rfl⟩ rfl (From.ok (ps := []) trivial) (DAll.op' (sp_lenM (N := r50.1.length) (len_map _ _) rfl rfl isOwn Try.underlying52) ⟨_, rfl, rfl⟩ rfl (From.ok (ps := [(none, 0)]) ⟨⟨rfl, by kernel_rfl⟩, trivial⟩) (DAll.op' (sp_gtr rfl rfl rfl) ⟨_, rfl, rfl⟩ rfl (From.ok (ps := []) trivial) (DAll.op' (sp_pickT rfl rfl rfl) trivial rfl (From.ok (ps := []) trivial) (DAll.op' (sp_castB h56 (sp_move rfl rfl)) trivial rfl (From.ok (ps := []) trivial) (DAll.op' (sp_move rfl rfl) ⟨_, rfl, rfl⟩ rfl (From.ok (ps := []) trivial) (DAll.op' (sp_indexS rfl rfl rfl isOwn sl52 h57 (map_get _ h58)) ⟨_, rfl, rfl⟩ rfl (From.ok (ps := [(none, 0)]) ⟨⟨rfl, by kernel_rfl⟩, trivial⟩) (DAll.op' (sp_fieldAddrR (i := (0 : Int).toNat) rfl rfl isOwn ft57_0 vt38 (by decide) (map_get _ h58) (fun h => nomatch h)) ⟨_, rfl, rfl⟩ rfl (From.ok (ps := [(none, 0)]) ⟨⟨rfl, by kernel_rfl⟩, trivial⟩) (DAll.op' (sp_loadR (i := (0 : Int).toNat) (j := 0) (ns := [.ro 43 1 (List.map en_int x51.1)]) rfl rfl isOwn vt38 rfl (map_get _ h58) rfl (.s (.nil)) (nodup_of_B rfl)) ⟨_, rfl, rfl⟩ rfl (From.ok (ps := [(none, 0)]) ⟨⟨rfl, by kernel_rfl⟩, trivial⟩) (DAll.op' (sp_lenM (N := x51.1.length) (len_map _ _) rfl rfl isRo Try.underlying38) ⟨_, rfl, rfl⟩ rfl (From.ok (ps := [(some 11, 0)]) ⟨⟨_, rfl, by kernel_rfl, rfl, by kernel_rfl⟩, trivial⟩) (DAll.op' (sp_move rfl rfl) ⟨_, rfl, rfl⟩ rfl (From.ok (ps := []) trivial) (DAll.op' (sp_leq rfl rfl rfl) ⟨_, rfl, rfl⟩ rfl (From.ok (ps := []) trivial) (DAll.op' (sp_pickT rfl rfl rfl) trivial rfl (From.ok (ps := []) trivial) (DAll.op' (sp_castB h59 (sp_move rfl rfl)) trivial rfl (From.ok (ps := []) trivial) (DAll.op' (sp_loadBA rfl isBlk rfl vt57 rfl rfl) ⟨_, rfl, rfl⟩ rfl (From.ok (ps := [(none, 8)]) ⟨⟨rfl, by kernel_rfl⟩, trivial⟩) (DAll.op' (sp_move rfl rfl) ⟨_, rfl, rfl⟩ rfl (From.ok (ps := []) trivial) (DAll.op' (sp_indexS rfl rfl rfl isOwn sl52 h57 (map_get _ h58)) ⟨_, rfl, rfl⟩ rfl (From.ok (ps := [(none, 0)]) ⟨⟨rfl, by kernel_rfl⟩, trivial⟩) (DAll.op' (sp_loadRA (i := (0 : Int).toNat) (j := 0) (as_ := [.ref 44, .ref 45]) (ns := [.ro 44 1 (List.map en_int x51.1), .ro 45 1 (List.map en_int x51.2)]) rfl rfl isOwn vt57 rfl (map_get _ h58) rfl rfl (by decide) (.s (.s (.nil))) (nodup_of_B rfl)) ⟨_, rfl, rfl⟩ rfl (From.ok (ps := [(none, 0)]) ⟨⟨rfl, by kernel_rfl⟩, trivial⟩) (.nil)))))))))))))))))))))
          obtain ⟨r52, h60, h⟩ := bind_inv h
          refine opN (need := [.ro 19 1 (List.map en_int r32.1), .ro 20 1 (List.map en_int r32.2.1), .ro 44 1 (List.map en_int x51.1), .ro 45 1 (List.map en_int x51.2)]) [17, 18, 0, 1] ⟨rfl, rfl, rfl, rfl, trivial⟩ (sp_call (avs := [.agg [.ref 19, .ref 20], .agg [.ref 44, .ref 45]]) (need := [.ro 19 1 (List.map en_int r32.1), .ro 20 1 (List.map en_int r32.2.1), .ro 44 1 (List.map en_int x51.1), .ro 45 1 (List.map en_int x51.2)]) (v := .val (.bool r52)) (news := []) rfl rfl rfl Try.call39 (atJ [(0, 19), (1, 20), (2, 44), (3, 45)] [] (fc_law01_equal h60) rfl rfl) (.inl (roAll rfl))) rfl ⟨_, rfl, rfl⟩ rfl rfl ?_
          refine op0 (sp_not rfl rfl) rfl ⟨_, rfl, rfl⟩ rfl rfl ?_
          refine op0 (sp_pickT rfl rfl rfl) rfl trivial rfl rfl ?_
          refine TL.nil ?_
          refine TC.cond (b := (!r52)) rfl (fun h61 => ?_) (fun h61 => ?_)
          · have h := cond_t h h61
            refine TC.seq ?_
            refine TC.region ?_
            refine op0 (sp_assign rfl rfl) rfl trivial rfl rfl ?_
            refine TL.nil ?_
            cases h
            exact retJ [] (.tmp rfl .nil) rfl trivial rfl rfl
          · have h := cond_f h h61
            refine TC.skip ?_
            refine TC.inBlock ?_
            refine TC.region ?_
            refine op0 (sp_move rfl rfl) rfl trivial rfl rfl ?_
            obtain ⟨h62, h⟩ := chk_inv h
            refine op0 (sp_add rfl rfl rfl h62) rfl trivial rfl rfl ?_
            refine op0 (sp_assign rfl rfl) rfl trivial rfl rfl ?_
            refine TL.nil ?_
            refine TC.inLoop ?_
            refine TC.seq ?_
            refine TC.seq ?_
            refine subJ [] (hk_law01_TrainNearest_l1 _ _ _ _ _ _ _ _ _ _ h) ?_ ?_ ?_
            · exact ⟨rfl, rfl, rfl, rfl, rfl, rfl, rfl, trivial⟩
            · exact ⟨mem_at 6 rfl, mem_at 7 rfl, mem_at 8 rfl, mem_at 9 rfl, mem_at 10 rfl, mem_at 13 rfl, mem_at 14 rfl, mem_at 15 rfl, mem_at 16 rfl, trivial⟩
            · rfl
        · refine drawJ 21 [⟨.val (.int .i64 r50.2), [], [], []⟩, ⟨.val (.bool (r50.2 == 0)), [], [], []⟩, ⟨.val (.bool true), [], [], []⟩, ⟨.ref 42, [], [], []⟩, ⟨.val (.int .i64 (r50.1.length : Int)), [], [.row 42 57 2 (List.map en_api_Train r50.1)], []⟩, ⟨.val (.bool (decide ((0 : Int) < (r50.1.length : Int)))), [], [], []⟩, ⟨.val (.bool (decide ((0 : Int) < (r50.1.length : Int)))), [], [], []⟩, ⟨.val (.bool true), [], [], []⟩, ⟨.ref 42, [], [], []⟩, ⟨.cell 42 ((0 : Int).toNat * 2), [], [.row 42 57 2 (List.map en_api_Train r50.1)], []⟩, ⟨.cell 42 ((0 : Int).toNat * 2 + 0), [], [.row 42 57 2 (List.map en_api_Train r50.1)], []⟩, ⟨.ref 43, [.ro 43 1 (List.map en_int x51.1)], [.row 42 57 2 (List.map en_api_Train r50.1)], []⟩, ⟨.val (.int .i64 (x51.1.length : Int)), [], [.ro 43 1 (List.map en_int x51.1)], []⟩, ⟨.val (.int .i64 i19), [], [], []⟩, ⟨.val (.bool (decide ((x51.1.length : Int) ≤ i19))), [], [], []⟩, ⟨.val (.bool (decide ((x51.1.length : Int) ≤ i19))), [], [], []⟩, ⟨.val (.bool false), [], [], []⟩, ⟨.val (undef), [], [], []⟩, ⟨.val (undef), [], [], []⟩, ⟨.val (undef), [], [], []⟩, ⟨.val (undef), [], [], []⟩] rfl ?_ rfl ?_ rfl ?_ ?_
          · kernel_rfl
          · kernel_rfl
          · exact DAll.op' (sp_move rfl rfl) trivial rfl (From.ok (ps := []) trivial) (DAll.op' (sp_eql rfl rfl rfl) trivial rfl (From.ok (ps := []) trivial) (DAll.op' (sp_castB h55 (sp_move rfl rfl)) trivial rfl (From.ok (ps := []) trivial) (DAll.op' (sp_move rfl rfl) ⟨_, rfl, rfl⟩ rfl (From.ok (ps := []) trivial) (DAll.op' (sp_lenM (N := r50.1.length) (len_map _ _) rfl rfl isOwn Try.underlying52) ⟨_, rfl, rfl⟩ rfl (From.ok (ps := [(none, 0)]) ⟨⟨rfl, by kernel_rfl⟩, trivial⟩) (DAll.op' (sp_gtr rfl rfl rfl) ⟨_, rfl, rfl⟩ rfl (From.ok (ps := []) trivial) (DAll.op' (sp_pickT rfl rfl rfl) trivial rfl (From.ok (ps := []) trivial) (DAll.op' (sp_castB h56 (sp_move rfl rfl)) trivial rfl (From.ok (ps := []) trivial) (DAll.op' (sp_move rfl rfl) ⟨_, rfl, rfl⟩ rfl (From.ok (ps := []) trivial) (DAll.op' (sp_indexS rfl rfl rfl isOwn sl52 h57 (map_get _ h58)) ⟨_, rfl, rfl⟩ rfl (From.ok (ps := [(none, 0)]) ⟨⟨rfl, by kernel_rfl⟩, trivial⟩) (DAll.op' (sp_fieldAddrR (i := (0 : Int).toNat) rfl rfl isOwn ft57_0 vt38 (by decide) (map_get _ h58) (fun h => nomatch h)) ⟨_, rfl, rfl⟩ rfl (From.ok (ps := [(none, 0)]) ⟨⟨rfl, by kernel_rfl⟩, trivial⟩) (DAll.op' (sp_loadR (i := (0 : Int).toNat) (j := 0) (ns := [.ro 43 1 (List.map en_int x51.1)]) rfl rfl isOwn vt38 rfl (map_get _ h58) rfl (.s (.nil)) (nodup_of_B rfl)) ⟨_, rfl, rfl⟩ rfl (From.ok (ps := [(none, 0)]) ⟨⟨rfl, by kernel_rfl⟩, trivial⟩) (DAll.op' (sp_lenM (N := x51.1.length) (len_map _ _) rfl rfl isRo Try.underlying38) ⟨_, rfl, rfl⟩ rfl (From.ok (ps := [(some 11, 0)]) ⟨⟨_, rfl, by kernel_rfl, rfl, by kernel_rfl⟩, trivial⟩) (DAll.op' (sp_move rfl rfl) ⟨_, rfl, rfl⟩ rfl (From.ok (ps := []) trivial) (DAll.op' (sp_leq rfl rfl rfl) ⟨_, rfl, rfl⟩ rfl (From.ok (ps := []) trivial) (DAll.op' (sp_pickT rfl rfl rfl) trivial rfl (From.ok (ps := []) trivial) (DAll.op' (sp_castB h59 (sp_move rfl rfl)) trivial rfl (From.ok (ps := []) trivial) (.skip ⟨_, rfl, .inl rfl⟩ rfl rfl rfl (.skip ⟨_, rfl, .inl rfl⟩ rfl rfl rfl (.skip ⟨_, rfl, .inl rfl⟩ rfl rfl rfl (.skip ⟨_, rfl, .inl rfl⟩ rfl rfl rfl (.nil)))))))))))))))))))))
          refine opSkip rfl ⟨_, rfl, .inl rfl⟩ rfl ?_
          refine opSkip rfl ⟨_, rfl, .inl rfl⟩ rfl ?_
          refine op0 (sp_pickF rfl rfl rfl) rfl trivial rfl rfl ?_
          refine TL.nil ?_
          refine TC.condF rfl ?_
          refine TC.skip ?_
          refine TC.inBlock ?_
          refine TC.region ?_
          refine op0 (sp_move rfl rfl) rfl trivial rfl rfl ?_
          obtain ⟨h63, h⟩ := chk_inv h
          refine op0 (sp_add rfl rfl rfl h63) rfl trivial rfl rfl ?_
          refine op0 (sp_assign rfl rfl) rfl trivial rfl rfl ?_
          refine TL.nil ?_
          refine TC.inLoop ?_
          refine TC.seq ?_
          refine TC.seq ?_
          refine subJ [] (hk_law01_TrainNearest_l1 _ _ _ _ _ _ _ _ _ _ h) ?_ ?_ ?_
          · exact ⟨rfl, rfl, rfl, rfl, rfl, rfl, rfl, trivial⟩
          · exact ⟨mem_at 4 rfl, mem_at 5 rfl, mem_at 6 rfl, mem_at 7 rfl, mem_at 8 rfl, mem_at 11 rfl, mem_at 12 rfl, mem_at 13 rfl, mem_at 14 rfl, trivial⟩
          · rfl
      · refine drawJ 21 [⟨.val (.int .i64 r50.2), [], [], []⟩, ⟨.val (.bool (r50.2 == 0)), [], [], []⟩, ⟨.val (.bool true), [], [], []⟩, ⟨.ref 42, [], [], []⟩, ⟨.val (.int .i64 (r50.1.length : Int)), [], [.row 42 57 2 (List.map en_api_Train r50.1)], []⟩, ⟨.val (.bool (decide ((0 : Int) < (r50.1.length : Int)))), [], [], []⟩, ⟨.val (.bool (decide ((0 : Int) < (r50.1.length : Int)))), [], [], []⟩, ⟨.val (.bool false), [], [], []⟩, ⟨.val (undef), [], [], []⟩, ⟨.val (undef), [], [], []⟩, ⟨.val (undef), [], [], []⟩, ⟨.val (undef), [], [], []⟩, ⟨.val (undef), [], [], []⟩, ⟨.val (undef), [], [], []⟩, ⟨.val (undef), [], [], []⟩, ⟨.val (.bool false), [], [], []⟩, ⟨.val (.bool false), [], [], []⟩, ⟨.val (undef), [], [], []⟩, ⟨.val (undef), [], [], []⟩, ⟨.val (undef), [], [], []⟩, ⟨.val (undef), [], [], []⟩] rfl ?_ rfl ?_ rfl ?_ ?_
        · kernel_rfl
        · kernel_rfl
        · exact DAll.op' (sp_move rfl rfl) trivial rfl (From.ok (ps := []) trivial) (DAll.op' (sp_eql rfl rfl rfl) trivial rfl (From.ok (ps := []) trivial) (DAll.op' (sp_castB h55 (sp_move rfl rfl)) trivial rfl (From.ok (ps := []) trivial) (DAll.op' (sp_move rfl rfl) ⟨_, rfl, rfl⟩ rfl (From.ok (ps := []) trivial) (DAll.op' (sp_lenM (N := r50.1.length) (len_map _ _) rfl rfl isOwn Try.underlying52) ⟨_, rfl, rfl⟩ rfl (From.ok (ps := [(none, 0)]) ⟨⟨rfl, by kernel_rfl⟩, trivial⟩) (DAll.op' (sp_gtr rfl rfl rfl) ⟨_, rfl, rfl⟩ rfl (From.ok (ps := []) trivial) (DAll.op' (sp_pickT rfl rfl rfl) trivial rfl (From.ok (ps := []) trivial) (DAll.op' (sp_castB h56 (sp_move rfl rfl)) trivial rfl (From.ok (ps := []) trivial) (.skip ⟨_, rfl, .inl rfl⟩ rfl rfl rfl (.skip ⟨_, rfl, .inl rfl⟩ rfl rfl rfl (.skip ⟨_, rfl, .inl rfl⟩ rfl rfl rfl (.skip ⟨_, rfl, .inl rfl⟩ rfl rfl rfl (.skip ⟨_, rfl, .inl rfl⟩ rfl rfl rfl (.skip ⟨_, rfl, .inl rfl⟩ rfl rfl rfl (.skip ⟨_, rfl, .inl rfl⟩ rfl rfl rfl (DAll.op' (sp_pickF rfl rfl rfl) trivial rfl (From.ok (ps := []) trivial) (DAll.op' (sp_move rfl rfl) trivial rfl (From.ok (ps := []) trivial) (.skip ⟨_, rfl, .inl rfl⟩ rfl rfl rfl (.skip ⟨_, rfl, .inl rfl⟩ rfl rfl rfl (.skip ⟨_, rfl, .inl rfl⟩ rfl rfl rfl (.skip ⟨_, rfl, .inl rfl⟩ rfl rfl rfl (.nil)))))))))))))))))))))
        refine opSkip rfl ⟨_, rfl, .inl rfl⟩ rfl ?_
        refine opSkip rfl ⟨_, rfl, .inl rfl⟩ rfl ?_
        refine op0 (sp_pickF rfl rfl rfl) rfl trivial rfl rfl ?_
        refine TL.nil ?_
        refine TC.condF rfl ?_
        refine TC.skip ?_
        refine TC.inBlock ?_
        refine TC.region ?_
        refine op0 (sp_move rfl rfl) rfl trivial rfl rfl ?_
        obtain ⟨h64, h⟩ := chk_inv h
        refine op0 (sp_add rfl rfl rfl h64) rfl trivial rfl rfl ?_
        refine op0 (sp_assign rfl rfl) rfl trivial rfl rfl ?_
        refine TL.nil ?_
        refine TC.inLoop ?_
        refine TC.seq ?_
        refine TC.seq ?_
        refine subJ [] (hk_law01_TrainNearest_l1 _ _ _ _ _ _ _ _ _ _ h) ?_ ?_ ?_
        · exact ⟨rfl, rfl, rfl, rfl, rfl, rfl, rfl, trivial⟩
        · exact ⟨mem_at 3 rfl, mem_at 4 rfl, mem_at 5 rfl, mem_at 6 rfl, mem_at 7 rfl, mem_at 10 rfl, mem_at 11 rfl, mem_at 12 rfl, mem_at 13 rfl, trivial⟩
        · rfl
    · refine drawJ 21 [⟨.val (.int .i64 r50.2), [], [], []⟩, ⟨.val (.bool (r50.2 == 0)), [], [], []⟩, ⟨.val (.bool false), [], [], []⟩, ⟨.val (undef), [], [], []⟩, ⟨.val (undef), [], [], []⟩, ⟨.val (undef), [], [], []⟩, ⟨.val (.bool false), [], [], []⟩, ⟨.val (.bool false), [], [], []⟩, ⟨.val (undef), [], [], []⟩, ⟨.val (undef), [], [], []⟩, ⟨.val (undef), [], [], []⟩, ⟨.val (undef), [], [], []⟩, ⟨.val (undef), [], [], []⟩, ⟨.val (undef), [], [], []⟩, ⟨.val (undef), [], [], []⟩, ⟨.val (.bool false), [], [], []⟩, ⟨.val (.bool false), [], [], []⟩, ⟨.val (undef), [], [], []⟩, ⟨.val (undef), [], [], []⟩, ⟨.val (undef), [], [], []⟩, ⟨.val (undef), [], [], []⟩] rfl ?_ rfl ?_ rfl ?_ ?_
      · kernel_rfl
      · kernel_rfl
      · exact DAll.op' (sp_move rfl rfl) trivial rfl (From.ok (ps := []) trivial) (DAll.op' (sp_eql rfl rfl rfl) trivial rfl (From.ok (ps := []) trivial) (DAll.op' (sp_castB h55 (sp_move rfl rfl)) trivial rfl (From.ok (ps := []) trivial) (.skip ⟨_, rfl, .inl rfl⟩ rfl rfl rfl (.skip ⟨_, rfl, .inl rfl⟩ rfl rfl rfl (.skip ⟨_, rfl, .inl rfl⟩ rfl rfl rfl (DAll.op' (sp_pickF rfl rfl rfl) trivial rfl (From.ok (ps := []) trivial) (DAll.op' (sp_move rfl rfl) trivial rfl (From.ok (ps := []) trivial) (.skip ⟨_, rfl, .inl rfl⟩ rfl rfl rfl (.skip ⟨_, rfl, .inl rfl⟩ rfl rfl rfl (.skip ⟨_, rfl, .inl rfl⟩ rfl rfl rfl (.skip ⟨_, rfl, .inl rfl⟩ rfl rfl rfl (.skip ⟨_, rfl, .inl rfl⟩ rfl rfl rfl (.skip ⟨_, rfl, .inl rfl⟩ rfl rfl rfl (.skip ⟨_, rfl, .inl rfl⟩ rfl rfl rfl (DAll.op' (sp_pickF rfl rfl rfl) trivial rfl (From.ok (ps := []) trivial) (DAll.op' (sp_move rfl rfl) trivial rfl (From.ok (ps := []) trivial) (.skip ⟨_, rfl, .inl rfl⟩ rfl rfl rfl (.skip ⟨_, rfl, .inl rfl⟩ rfl rfl rfl (.skip ⟨_, rfl, .inl rfl⟩ rfl rfl rfl (.skip ⟨_, rfl, .inl rfl⟩ rfl rfl rfl (.nil)))))))))))))))))))))
      refine opSkip rfl ⟨_, rfl, .inl rfl⟩ rfl ?_
      refine opSkip rfl ⟨_, rfl, .inl rfl⟩ rfl ?_
      refine op0 (sp_pickF rfl rfl rfl) rfl trivial rfl rfl ?_
      refine TL.nil ?_
      refine TC.condF rfl ?_
      refine TC.skip ?_
      refine TC.inBlock ?_
      refine TC.region ?_
      refine op0 (sp_move rfl rfl) rfl trivial rfl rfl ?_
      obtain ⟨h65, h⟩ := chk_inv h
      refine op0 (sp_add rfl rfl rfl h65) rfl trivial rfl rfl ?_
      refine op0 (sp_assign rfl rfl) rfl trivial rfl rfl ?_
      refine TL.nil ?_
      refine TC.inLoop ?_
      refine TC.seq ?_
      refine TC.seq ?_
      refine subJ [] (hk_law01_TrainNearest_l1 _ _ _ _ _ _ _ _ _ _ h) ?_ ?_ ?_
      · exact ⟨rfl, rfl, rfl, rfl, rfl, rfl, rfl, trivial⟩
      · exact ⟨mem_at 3 rfl, mem_at 4 rfl, mem_at 5 rfl, mem_at 6 rfl, mem_at 7 rfl, mem_at 10 rfl, mem_at 11 rfl, mem_at 12 rfl, mem_at 13 rfl, trivial⟩
      · rfl
def ev_law01_TrainNearest_l4 (n : Nat) (i19 : Int) (l27 : List Int) (l28 : List Int) (l20 : List Int) (i21 : Int) (i22 : Int) (r37 : Int × Int) (l25 : List Int) (r32 : (List Int) × (List Int) × Int) (l26 : List Int) (k_law01_TrainNearest_l1 : Int → (List Int) → Int → Int → Int → Int → (List Int) → (List Int) → (List Int) → (List Int) → Option Bool) : Nat → Int → Option Bool
  | 0, _ => none
  | m + 1, i38 => cond (decide (i38 ≤ i19)) ((ev_law01_picked n l27 l28 l20 i38).bind fun r39 => (ev_law01_TrainNearest_1 n r39.1 r39.2 i21 i22).bind fun r40 => chk (in64 (r40.1 * r37.2)) <| chk (in64 (r37.1 * r40.2)) <| cond (decide ((r40.1 * r37.2) < (r37.1 * r40.2))) (some false) (chk (in64 (i38 + 1)) <| ev_law01_TrainNearest_l4 n i19 l27 l28 l20 i21 i22 r37 l25 r32 l26 k_law01_TrainNearest_l1 m (i38 + 1))) ((ev_law01_wider n l25 l20 30 8).bind fun r41 => (ev_law01_copied n r41 l28).bind fun r44 => (ev_train_Near n r44.1 r44.2 i21 i22 i19).bind fun r45 => cond (r45.2.2 != 0) (some false) (cond (decide ((r45.1.length : Int) < 1)) (some false) (cond (decide (i19 < (r45.1.length : Int))) (some false) (cond ((r45.2.1.length : Int) != (r45.1.length : Int)) (some false) (ev_law01_TrainNearest_j5 n r45 i21 i22 r37 l27 l28 i19 r32 l20 l25 l26 k_law01_TrainNearest_l1)))))
set_option maxRecDepth 100000 in
set_option maxHeartbeats 2000000 in
theorem ok_law01_TrainNearest_l4 {n : Nat} {w0 : World} {R0 : Nat → Prop} {env0 : Env} {r : Bool} {r37 : Int × Int} {r32 : (List Int) × (List Int) × Int} {i19 : Int} {l27 : List Int} {l28 : List Int} {l20 : List Int} {i21 : Int} {i22 : Int} {l25 : List Int} {l26 : List Int} {k_law01_TrainNearest_l1 : Int → (List Int) → Int → Int → Int → Int → (List Int) → (List Int) → (List Int) → (List Int) → Option Bool} (hk_law01_TrainNearest_l1 : ∀ (i19 : Int) (l20 : List Int) (i21 : Int) (i22 : Int) (i23 : Int) (i24 : Int) (l25 : List Int) (l26 : List Int) (l27 : List Int) (l28 : List Int), k_law01_TrainNearest_l1 i19 l20 i21 i22 i23 i24 l25 l26 l27 l28 = some r → TC Try.prog ⟨w0, fun _ => False, R0⟩ 239 (bodyPost Try.prog Try.f11 (Post ⟨w0, fun _ => False, R0⟩ env0 (.val (.bool r)) [])) [.code (sub (bodyOf Try.f11) [1, 1, 1, 1, 1, 1, 0, 1, 0, 0, 0, 0]), .code (sub (bodyOf Try.f11) [1, 1, 1, 1, 1, 1, 0, 1, 0, 0, 0, 1]), .code (sub (bodyOf Try.f11) [1, 1, 1, 1, 1, 1, 0, 1, 0, 0, 1]), .inLoop (sub (bodyOf Try.f11) [1, 1, 1, 1, 1, 1, 0, 1, 0, 0]), .inBlock 0, .code (sub (bodyOf Try.f11) [1, 1, 1, 1, 1, 1, 1])] ([(2, .ref 2), (3, .ptr 3 0), (7, .ptr 7 0), (8, .ptr 8 0), (11, .fn 42 [] [.ptr 8 0]), (12, .ptr 12 0), (13, .val (.int .i64 i19))]) ([.ro 2 1 (List.map en_uint8 l20), .blk 3 [.ref 0, .ref 1] 64, .blk 7 [.ref 5, .ref 6] 40, .blk 8 [.val (.int .i64 i21), .val (.int .i64 i22)] 26, .blk 12 [.val (.int .i64 i23), .val (.int .i64 i24)] 82, .ro 0 1 (List.map en_uint8 l25), .ro 1 1 (List.map en_uint8 l26), .row 5 3 1 (List.map en_int l27), .row 6 3 1 (List.map en_int l28)])) : ∀ (m : Nat) (i38 : Int), ev_law01_TrainNearest_l4 n i19 l27 l28 l20 i21 i22 r37 l25 r32 l26 k_law01_TrainNearest_l1 m i38 = some r → TC Try.prog ⟨w0, fun _ => False, R0⟩ 239 (bodyPost Try.prog Try.f11 (Post ⟨w0, fun _ => False, R0⟩ env0 (.val (.bool r)) [])) [.code (sub (bodyOf Try.f11) [1, 1, 1, 1, 1, 1, 0, 1, 0, 0, 1, 0, 0, 1, 1, 1, 1, 1, 1, 0, 1, 0, 0, 0, 0]), .code (sub (bodyOf Try.f11) [1, 1, 1, 1, 1, 1, 0, 1, 0, 0, 1, 0, 0, 1, 1, 1, 1, 1, 1, 0, 1, 0, 0, 0, 1]), .code (sub (bodyOf Try.f11) [1, 1, 1, 1, 1, 1, 0, 1, 0, 0, 1, 0, 0, 1, 1, 1, 1, 1, 1, 0, 1, 0, 0, 1]), .inLoop (sub (bodyOf Try.f11) [1, 1, 1, 1, 1, 1, 0, 1, 0, 0, 1, 0, 0, 1, 1, 1, 1, 1, 1, 0, 1, 0, 0]), .inBlock 2, .code (sub (bodyOf Try.f11) [1, 1, 1, 1, 1, 1, 0, 1, 0, 0, 1, 0, 0, 1, 1, 1, 1, 1, 1, 1]), .inBlock 1, .code (sub (bodyOf Try.f11) [1, 1, 1, 1, 1, 1, 0, 1, 0, 0, 1, 1]), .inLoop (sub (bodyOf Try.f11) [1, 1, 1, 1, 1, 1, 0, 1, 0, 0]), .inBlock 0, .code (sub (bodyOf Try.f11) [1, 1, 1, 1, 1, 1, 1])] ([(2, .ref 2), (3, .ptr 3 0), (7, .ptr 7 0), (8, .ptr 8 0), (11, .fn 42 [] [.ptr 8 0]), (12, .ptr 12 0), (13, .val (.int .i64 i19)), (14, .ptr 21 0), (18, .val (.int .i64 r37.1)), (19, .val (.int .i64 r37.2)), (20, .val (.int .i64 i38))]) ([.ro 2 1 (List.map en_uint8 l20), .blk 3 [.ref 0, .ref 1] 64, .blk 7 [.ref 5, .ref 6] 40, .blk 8 [.val (.int .i64 i21), .val (.int .i64 i22)] 26, .blk 12 [.val (.int .i64 r37.1), .val (.int .i64 r37.2)] 82, .blk 21 [.ref 19, .ref 20] 57, .ro 0 1 (List.map en_uint8 l25), .ro 1 1 (List.map en_uint8 l26), .row 5 3 1 (List.map en_int l27), .row 6 3 1 (List.map en_int l28), .ro 19 1 (List.map en_int r32.1), .ro 20 1 (List.map en_int r32.2.1)]) := by
  intro m
  induction m with
  | zero => intro i38 h; exact none_no h
  | succ m ih =>
    intro i38 h
    rw [ev_law01_TrainNearest_l4] at h
    refine TC.region ?_
    refine op0 (sp_move rfl rfl) rfl trivial rfl rfl ?_
    refine op0 (sp_move rfl rfl) rfl trivial rfl rfl ?_
    refine op0 (sp_leq rfl rfl rfl) rfl trivial rfl rfl ?_
    refine TL.nil ?_
    refine TC.cond (b := (decide (i38 ≤ i19))) rfl (fun h31 => ?_) (fun h31 => ?_)
    · have h := cond_t h h31
      refine TC.skip ?_
      refine TC.seq ?_
      refine TC.block ?_
      refine TC.seq ?_
      refine TC.region ?_
      refine op0 (sp_move rfl rfl) rfl trivial rfl rfl ?_
      refine op1 2 rfl (sp_loadBA rfl isBlk rfl vt40 rfl rfl) rfl trivial rfl rfl ?_
      refine op0 (sp_move rfl rfl) rfl trivial rfl rfl ?_
      refine op0 (sp_move rfl rfl) rfl trivial rfl rfl ?_
      obtain ⟨r39, h32, h⟩ := bind_inv h
      refine opN (need := [.row 5 3 1 (List.map en_int l27), .row 6 3 1 (List.map en_int l28), .ro 2 1 (List.map en_uint8 l20)]) [8, 9, 0] ⟨rfl, rfl, rfl, trivial⟩ (sp_call (avs := [.agg [.ref 5, .ref 6], .ref 2, .val (.int .i64 i38)]) (need := [.row 5 3 1 (List.map en_int l27), .row 6 3 1 (List.map en_int l28), .ro 2 1 (List.map en_uint8 l20)]) (v := .agg [.ref 23, .ref 24]) (news := [.row 23 3 1 (List.map en_int r39.1), .row 24 3 1 (List.map en_int r39.2)]) rfl rfl rfl Try.call35 (atJ [(0, 5), (1, 6)] [(0, 23), (1, 24)] (fc_law01_picked h32) rfl rfl) (.inr (List.forall_mem_cons.2 ⟨indep_map en_int_flat, List.forall_mem_cons.2 ⟨indep_map en_int_flat, (by simp)⟩⟩))) rfl trivial rfl rfl ?_
      obtain ⟨r40, h33, h⟩ := bind_inv h
      refine opN (need := [.row 23 3 1 (List.map en_int r39.1), .row 24 3 1 (List.map en_int r39.2), .blk 8 [.val (.int .i64 i21), .val (.int .i64 i22)] 26]) [0, 1, 5] ⟨rfl, rfl, rfl, trivial⟩ (sp_call (avs := [.agg [.ref 23, .ref 24]]) (need := [.row 23 3 1 (List.map en_int r39.1), .row 24 3 1 (List.map en_int r39.2), .blk 8 [.val (.int .i64 i21), .val (.int .i64 i22)] 26]) (v := .tup [.val (.int .i64 r40.1), .val (.int .i64 r40.2)]) (news := []) rfl rfl rfl Try.call42 (atJ [(0, 23), (1, 24), (2, 8)] [] (fc_law01_TrainNearest_1 h33) rfl rfl) (.inr (fun x hx => nomatch hx))) rfl trivial rfl rfl ?_
      refine op0 (sp_move rfl rfl) rfl trivial rfl rfl ?_
      refine op0 (sp_extract rfl rfl rfl) rfl trivial rfl rfl ?_
      refine op0 (sp_extract rfl rfl rfl) rfl trivial rfl rfl ?_
      refine op0 (sp_assign rfl rfl) rfl trivial rfl rfl ?_
      refine op0 (sp_assign rfl rfl) rfl trivial rfl rfl ?_
      refine TL.nil ?_
      refine TC.seq ?_
      refine TC.region ?_
      refine op0 (sp_move rfl rfl) rfl trivial rfl rfl ?_
      refine op0 (sp_move rfl rfl) rfl trivial rfl rfl ?_
      obtain ⟨h34, h⟩ := chk_inv h
      refine op0 (sp_mul rfl rfl rfl h34) rfl trivial rfl rfl ?_
      refine op0 (sp_move rfl rfl) rfl trivial rfl rfl ?_
      refine op0 (sp_move rfl rfl) rfl trivial rfl rfl ?_
      obtain ⟨h35, h⟩ := chk_inv h
      refine op0 (sp_mul rfl rfl rfl h35) rfl trivial rfl rfl ?_
      refine op0 (sp_lss rfl rfl rfl) rfl trivial rfl rfl ?_
      refine TL.nil ?_
      refine TC.cond (b := (decide ((r40.1 * r37.2) < (r37.1 * r40.2)))) rfl (fun h36 => ?_) (fun h36 => ?_)
      · have h := cond_t h h36
        refine TC.seq ?_
        refine TC.region ?_
        refine op0 (sp_assign rfl rfl) rfl trivial rfl rfl ?_
        refine TL.nil ?_
        cases h
        exact retJ [] (.tmp rfl .nil) rfl trivial rfl rfl
      · have h := cond_f h h36
        refine TC.skip ?_
        refine TC.inBlock ?_
        refine TC.region ?_
        refine op0 (sp_move rfl rfl) rfl trivial rfl rfl ?_
        obtain ⟨h37, h⟩ := chk_inv h
        refine op0 (sp_add rfl rfl rfl h37) rfl trivial rfl rfl ?_
        refine op0 (sp_assign rfl rfl) rfl trivial rfl rfl ?_
        refine TL.nil ?_
        refine TC.inLoop ?_
        refine TC.seq ?_
        refine TC.seq ?_
        refine subJ [] (ih _ h) ?_ ?_ ?_
        · exact ⟨rfl, rfl, rfl, rfl, rfl, rfl, rfl, rfl, rfl, rfl, rfl, trivial⟩
        · exact ⟨mem_at 2 rfl, mem_at 3 rfl, mem_at 4 rfl, mem_at 5 rfl, mem_at 6 rfl, mem_at 7 rfl, mem_at 8 rfl, mem_at 9 rfl, mem_at 10 rfl, mem_at 11 rfl, mem_at 12 rfl, mem_at 13 rfl, trivial⟩
        · rfl
    · have h := cond_f h h31
      refine TC.exit rfl ?_
      refine TC.seq ?_
      obtain ⟨r41, h38, h⟩ := bind_inv h
      refine drawJ 8 [⟨.ptr 3 0, [], [.blk 3 [.ref 0, .ref 1] 64], []⟩, ⟨.ref 0, [], [.blk 3 [.ref 0, .ref 1] 64], []⟩, ⟨.ref 2, [], [], []⟩, ⟨.ref 25, [.row 25 3 1 (List.map en_int r41)], [.ro 0 1 (List.map en_uint8 l25), .ro 2 1 (List.map en_uint8 l20)], []⟩, ⟨.ptr 7 1, [], [.blk 7 [.ref 5, .ref 6] 40], []⟩, ⟨.ref 6, [], [.blk 7 [.ref 5, .ref 6] 40], []⟩, ⟨.agg [.ref 25, .ref 6], [], [], []⟩, ⟨.ptr 26 0, [.blk 26 [.val (.slice none 0 0), .val (.slice none 0 0)] 40], [], []⟩] rfl ?_ rfl ?_ rfl ?_ ?_
      · kernel_rfl
      · kernel_rfl
      · exact DAll.op' (sp_fieldAddrB rfl isBlk rfl ft64_0 vt62 (by decide)) trivial rfl (From.ok (ps := [(none, 1)]) ⟨⟨rfl, rfl⟩, trivial⟩) (DAll.op' (sp_loadB rfl isBlk rfl vt62 rfl) trivial rfl (From.ok (ps := [(none, 1)]) ⟨⟨rfl, rfl⟩, trivial⟩) (DAll.op' (sp_move rfl rfl) trivial rfl (From.ok (ps := []) trivial) (DAll.op' (sp_call (avs := [.ref 0, .ref 2, .val (.int .i64 30), .val (.int .i64 8)]) (need := [.ro 0 1 (List.map en_uint8 l25), .ro 2 1 (List.map en_uint8 l20)]) (v := .ref 25) (news := [.row 25 3 1 (List.map en_int r41)]) rfl rfl rfl Try.call41 (atJ [(1, 2)] [(0, 25)] (fc_law01_wider h38) rfl rfl) (.inl (roAll rfl))) trivial rfl (From.ok (ps := [(none, 6), (none, 0)]) ⟨⟨rfl, rfl⟩, ⟨rfl, rfl⟩, trivial⟩) (DAll.op' (sp_fieldAddrB rfl isBlk rfl ft40_1 vt38 (by decide)) trivial rfl (From.ok (ps := [(none, 2)]) ⟨⟨rfl, rfl⟩, trivial⟩) (DAll.op' (sp_loadB rfl isBlk rfl vt38 rfl) trivial rfl (From.ok (ps := [(none, 2)]) ⟨⟨rfl, rfl⟩, trivial⟩) (DAll.op' (sp_build (qs := [(0, .ref 25), (1, .ref 6)]) rfl bt40 rfl rfl rfl rfl) trivial rfl (From.ok (ps := []) trivial) (DAll.op' (sp_alloc 26 rfl Try.zeroValue40 rfl) trivial rfl (From.ok (ps := []) trivial) (.nil))))))))
      refine stoB 0 (cells' := [.ref 25, .ref 6]) rfl rfl trivial rfl rfl rfl rfl vt40 rfl rfl rfl ?_
      refine TL.nil ?_
      refine TC.seq ?_
      obtain ⟨r44, h41, h⟩ := bind_inv h
      obtain ⟨r45, h42, h⟩ := bind_inv h
      refine drawJ 10 [⟨.agg [.ref 25, .ref 6], [], [.blk 26 [.ref 25, .ref 6] 40], []⟩, ⟨.agg [.ref 31, .ref 32], [.ro 31 1 (List.map en_int r44.1), .ro 32 1 (List.map en_int r44.2)], [.row 25 3 1 (List.map en_int r41), .row 6 3 1 (List.map en_int l28)], []⟩, ⟨.agg [.val (.int .i64 i21), .val (.int .i64 i22)], [], [.blk 8 [.val (.int .i64 i21), .val (.int .i64 i22)] 26], []⟩, ⟨.val (.int .i64 i19), [], [], []⟩, ⟨.tup [.agg [.ref 33, .ref 34], .val (.int .i64 r45.2.2)], [.ro 33 1 (List.map en_int r45.1), .ro 34 1 (List.map en_int r45.2.1)], [.ro 31 1 (List.map en_int r44.1), .ro 32 1 (List.map en_int r44.2)], []⟩, ⟨.tup [.agg [.ref 33, .ref 34], .val (.int .i64 r45.2.2)], [], [], []⟩, ⟨.agg [.ref 33, .ref 34], [], [], []⟩, ⟨.val (.int .i64 r45.2.2), [], [], []⟩, ⟨.ptr 35 0, [.blk 35 [.val (.slice none 0 0), .val (.slice none 0 0)] 57], [], []⟩, ⟨.val (undef), [.blk 35 [.ref 33, .ref 34] 57], [], [.blk 35 [.val (.slice none 0 0), .val (.slice none 0 0)] 57]⟩] rfl ?_ rfl ?_ rfl ?_ ?_
      · kernel_rfl
      · kernel_rfl
      · exact DAll.op' (sp_loadBA rfl isBlk rfl vt40 rfl rfl) trivial rfl (From.ok (ps := [(none, 0)]) ⟨⟨rfl, by kernel_rfl⟩, trivial⟩) (DAll.op' (OpSpec.froz (news := [.ro 31 1 (List.map en_int r44.1), .row 32 3 1 (List.map en_int r44.2)]) 1 rfl (OpSpec.froz (news := [.row 31 3 1 (List.map en_int r44.1), .row 32 3 1 (List.map en_int r44.2)]) 0 rfl (sp_call (avs := [.agg [.ref 25, .ref 6]]) (need := [.row 25 3 1 (List.map en_int r41), .row 6 3 1 (List.map en_int l28)]) (v := .agg [.ref 31, .ref 32]) (news := [.row 31 3 1 (List.map en_int r44.1), .row 32 3 1 (List.map en_int r44.2)]) rfl rfl rfl Try.call19 (atJ [(0, 25), (1, 6)] [(0, 31), (1, 32)] (fc_law01_copied h41) rfl rfl) (.inr (List.forall_mem_cons.2 ⟨indep_map en_int_flat, List.forall_mem_cons.2 ⟨indep_map en_int_flat, (by simp)⟩⟩))))) trivial rfl (From.ok (ps := [(none, 1), (none, 11)]) ⟨⟨rfl, by kernel_rfl⟩, ⟨rfl, by kernel_rfl⟩, trivial⟩) (DAll.op' (sp_loadBA rfl isBlk rfl vt26 rfl rfl) trivial rfl (From.ok (ps := [(none, 5)]) ⟨⟨rfl, by kernel_rfl⟩, trivial⟩) (DAll.op' (sp_move rfl rfl) trivial rfl (From.ok (ps := []) trivial) (DAll.op' (sp_call (avs := [.agg [.ref 31, .ref 32], .agg [.val (.int .i64 i21), .val (.int .i64 i22)], .val (.int .i64 i19)]) (need := [.ro 31 1 (List.map en_int r44.1), .ro 32 1 (List.map en_int r44.2)]) (v := .tup [.agg [.ref 33, .ref 34], .val (.int .i64 r45.2.2)]) (news := [.ro 33 1 (List.map en_int r45.1), .ro 34 1 (List.map en_int r45.2.1)]) rfl rfl rfl Try.call32 (atJ [(0, 31), (1, 32)] [(500, 33), (501, 34)] (fc_train_Near h42) rfl rfl) (.inl (roAll rfl))) trivial rfl (From.ok (ps := [(some 1, 0), (some 1, 1)]) ⟨⟨_, rfl, by kernel_rfl, rfl, by kernel_rfl⟩, ⟨_, rfl, by kernel_rfl, rfl, by kernel_rfl⟩, trivial⟩) (DAll.op' (sp_move rfl rfl) trivial rfl (From.ok (ps := []) trivial) (DAll.op' (sp_extract rfl rfl rfl) trivial rfl (From.ok (ps := []) trivial) (DAll.op' (sp_extract rfl rfl rfl) trivial rfl (From.ok (ps := []) trivial) (DAll.op' (sp_alloc 35 rfl Try.zeroValue57 rfl) trivial rfl (From.ok (ps := []) trivial) (DAll.opT (ts_storeB (off := 0) (cells' := [.ref 33, .ref 34]) rfl rfl rfl rfl vt57 rfl rfl rfl) trivial (From.ok (ps := [(some 8, 0)]) ⟨⟨_, rfl, by kernel_rfl, rfl, by kernel_rfl⟩, trivial⟩) (From.ok (ps := []) trivial) (.nil))))))))))
      refine op0 (sp_assign rfl rfl) rfl trivial rfl rfl ?_
      refine TL.nil ?_
      refine TC.seq ?_
      refine TC.seq ?_
      refine TC.region ?_
      refine op0 (sp_move rfl rfl) rfl trivial rfl rfl ?_
      refine op0 (sp_neq rfl rfl rfl) rfl trivial rfl rfl ?_
      refine op0 (sp_move rfl rfl) rfl trivial rfl rfl ?_
      rcases cond_cases h with ⟨h43, h⟩ | ⟨h43, h⟩
      · refine (boolLit 172 rfl h43).2 ?_
        refine opSkip rfl ⟨_, rfl, .inl rfl⟩ rfl ?_
        refine opSkip rfl ⟨_, rfl, .inl rfl⟩ rfl ?_
        refine opSkip rfl ⟨_, rfl, .inl rfl⟩ rfl ?_
        refine opSkip rfl ⟨_, rfl, .inl rfl⟩ rfl ?_
        refine op0 (sp_pickT rfl rfl rfl) rfl trivial rfl rfl ?_
        refine op0 (sp_move rfl rfl) rfl trivial rfl rfl ?_
        refine opSkip rfl ⟨_, rfl, .inl rfl⟩ rfl ?_
        refine opSkip rfl ⟨_, rfl, .inl rfl⟩ rfl ?_
        refine opSkip rfl ⟨_, rfl, .inl rfl⟩ rfl ?_
        refine opSkip rfl ⟨_, rfl, .inl rfl⟩ rfl ?_
        refine opSkip rfl ⟨_, rfl, .inl rfl⟩ rfl ?_
        refine op0 (sp_pickT rfl rfl rfl) rfl trivial rfl rfl ?_
        refine op0 (sp_move rfl rfl) rfl trivial rfl rfl ?_
        refine opSkip rfl ⟨_, rfl, .inl rfl⟩ rfl ?_
        refine opSkip rfl ⟨_, rfl, .inl rfl⟩ rfl ?_
        refine opSkip rfl ⟨_, rfl, .inl rfl⟩ rfl ?_
        refine opSkip rfl ⟨_, rfl, .inl rfl⟩ rfl ?_
        refine opSkip rfl ⟨_, rfl, .inl rfl⟩ rfl ?_
        refine opSkip rfl ⟨_, rfl, .inl rfl⟩ rfl ?_
        refine opSkip rfl ⟨_, rfl, .inl rfl⟩ rfl ?_
        refine op0 (sp_pickT rfl rfl rfl) rfl trivial rfl rfl ?_
        refine TL.nil ?_
        refine TC.condT rfl ?_
        refine TC.seq ?_
        refine TC.region ?_
        refine op0 (sp_assign rfl rfl) rfl trivial rfl rfl ?_
        refine TL.nil ?_
        cases h
        exact retJ [] (.tmp rfl .nil) rfl trivial rfl rfl
      · refine (boolLit 172 rfl h43).2 ?_
        refine op1 0 rfl (sp_fieldAddrB rfl isBlk rfl ft57_0 vt38 (by decide)) rfl ⟨_, rfl, rfl⟩ rfl rfl ?_
        refine op1 0 rfl (sp_loadB rfl isBlk rfl vt38 rfl) rfl ⟨_, rfl, rfl⟩ rfl rfl ?_
        refine op1 1 rfl (sp_lenM (N := r45.1.length) (len_map _ _) rfl rfl isRo Try.underlying38) rfl ⟨_, rfl, rfl⟩ rfl rfl ?_
        refine op0 (sp_lss rfl rfl rfl) rfl ⟨_, rfl, rfl⟩ rfl rfl ?_
        refine op0 (sp_pickF rfl rfl rfl) rfl trivial rfl rfl ?_
        refine op0 (sp_move rfl rfl) rfl trivial rfl rfl ?_
        rcases cond_cases h with ⟨h44, h⟩ | ⟨h44, h⟩
        · refine (boolLit 178 rfl h44).2 ?_
          refine opSkip rfl ⟨_, rfl, .inl rfl⟩ rfl ?_
          refine opSkip rfl ⟨_, rfl, .inl rfl⟩ rfl ?_
          refine opSkip rfl ⟨_, rfl, .inl rfl⟩ rfl ?_
          refine opSkip rfl ⟨_, rfl, .inl rfl⟩ rfl ?_
          refine opSkip rfl ⟨_, rfl, .inl rfl⟩ rfl ?_
          refine op0 (sp_pickT rfl rfl rfl) rfl trivial rfl rfl ?_
          refine op0 (sp_move rfl rfl) rfl trivial rfl rfl ?_
          refine opSkip rfl ⟨_, rfl, .inl rfl⟩ rfl ?_
          refine opSkip rfl ⟨_, rfl, .inl rfl⟩ rfl ?_
          refine opSkip rfl ⟨_, rfl, .inl rfl⟩ rfl ?_
          refine opSkip rfl ⟨_, rfl, .inl rfl⟩ rfl ?_
          refine opSkip rfl ⟨_, rfl, .inl rfl⟩ rfl ?_
          refine opSkip rfl ⟨_, rfl, .inl rfl⟩ rfl ?_
          refine opSkip rfl ⟨_, rfl, .inl rfl⟩ rfl ?_
          refine op0 (sp_pickT rfl rfl rfl) rfl trivial rfl rfl ?_
          refine TL.nil ?_
          refine TC.condT rfl ?_
          refine TC.seq ?_
          refine TC.region ?_
          refine op0 (sp_assign rfl rfl) rfl trivial rfl rfl ?_
          refine TL.nil ?_
          cases h
          exact retJ [] (.tmp rfl .nil) rfl trivial rfl rfl
        · refine (boolLit 178 rfl h44).2 ?_
          refine op1 0 rfl (sp_fieldAddrB rfl isBlk rfl ft57_0 vt38 (by decide)) rfl ⟨_, rfl, rfl⟩ rfl rfl ?_
          refine op1 0 rfl (sp_loadB rfl isBlk rfl vt38 rfl) rfl ⟨_, rfl, rfl⟩ rfl rfl ?_
          refine op1 1 rfl (sp_lenM (N := r45.1.length) (len_map _ _) rfl rfl isRo Try.underlying38) rfl ⟨_, rfl, rfl⟩ rfl rfl ?_
          refine op0 (sp_move rfl rfl) rfl ⟨_, rfl, rfl⟩ rfl rfl ?_
          refine op0 (sp_gtr rfl rfl rfl) rfl ⟨_, rfl, rfl⟩ rfl rfl ?_
          refine op0 (sp_pickF rfl rfl rfl) rfl trivial rfl rfl ?_
          refine op0 (sp_move rfl rfl) rfl trivial rfl rfl ?_
          rcases cond_cases h with ⟨h45, h⟩ | ⟨h45, h⟩
          · refine (boolLit 185 rfl h45).2 ?_
            refine opSkip rfl ⟨_, rfl, .inl rfl⟩ rfl ?_
            refine opSkip rfl ⟨_, rfl, .inl rfl⟩ rfl ?_
            refine opSkip rfl ⟨_, rfl, .inl rfl⟩ rfl ?_
            refine opSkip rfl ⟨_, rfl, .inl rfl⟩ rfl ?_
            refine opSkip rfl ⟨_, rfl, .inl rfl⟩ rfl ?_
            refine opSkip rfl ⟨_, rfl, .inl rfl⟩ rfl ?_
            refine opSkip rfl ⟨_, rfl, .inl rfl⟩ rfl ?_
            refine op0 (sp_pickT rfl rfl rfl) rfl trivial rfl rfl ?_
            refine TL.nil ?_
            refine TC.condT rfl ?_
            refine TC.seq ?_
            refine TC.region ?_
            refine op0 (sp_assign rfl rfl) rfl trivial rfl rfl ?_
            refine TL.nil ?_
            cases h
            exact retJ [] (.tmp rfl .nil) rfl trivial rfl rfl
          · refine (boolLit 185 rfl h45).2 ?_
            refine op1 0 rfl (sp_fieldAddrB rfl isBlk rfl ft57_1 vt38 (by decide)) rfl ⟨_, rfl, rfl⟩ rfl rfl ?_
            refine op1 0 rfl (sp_loadB rfl isBlk rfl vt38 rfl) rfl ⟨_, rfl, rfl⟩ rfl rfl ?_
            refine op1 2 rfl (sp_lenM (N := r45.2.1.length) (len_map _ _) rfl rfl isRo Try.underlying38) rfl ⟨_, rfl, rfl⟩ rfl rfl ?_
            refine op1 0 rfl (sp_fieldAddrB rfl isBlk rfl ft57_0 vt38 (by decide)) rfl ⟨_, rfl, rfl⟩ rfl rfl ?_
            refine op1 0 rfl (sp_loadB rfl isBlk rfl vt38 rfl) rfl ⟨_, rfl, rfl⟩ rfl rfl ?_
            refine op1 1 rfl (sp_lenM (N := r45.1.length) (len_map _ _) rfl rfl isRo Try.underlying38) rfl ⟨_, rfl, rfl⟩ rfl rfl ?_
            refine op0 (sp_neq rfl rfl rfl) rfl ⟨_, rfl, rfl⟩ rfl rfl ?_
            refine op0 (sp_pickF rfl rfl rfl) rfl trivial rfl rfl ?_
            refine TL.nil ?_
            refine TC.cond (b := ((r45.2.1.length : Int) != (r45.1.length : Int))) rfl (fun h46 => ?_) (fun h46 => ?_)
            · have h := cond_t h h46
              refine TC.seq ?_
              refine TC.region ?_
              refine op0 (sp_assign rfl rfl) rfl trivial rfl rfl ?_
              refine TL.nil ?_
              cases h
              exact retJ [] (.tmp rfl .nil) rfl trivial rfl rfl
            · have h := cond_f h h46
              refine subJ [] (ok_law01_TrainNearest_j5 hk_law01_TrainNearest_l1 h) ?_ ?_ ?_
              · exact ⟨rfl, rfl, rfl, rfl, rfl, rfl, rfl, rfl, rfl, rfl, rfl, trivial⟩
              · exact ⟨mem_at 7 rfl, mem_at 8 rfl, mem_at 9 rfl, mem_at 10 rfl, mem_at 11 rfl, mem_at 12 rfl, mem_at 0 rfl, mem_at 13 rfl, mem_at 14 rfl, mem_at 15 rfl, mem_at 16 rfl, mem_at 17 rfl, mem_at 18 rfl, mem_at 1 rfl, mem_at 2 rfl, trivial⟩
              · rfl
def ev_law01_TrainNearest_j3 (n : Nat) (i19 : Int) (l27 : List Int) (l28 : List Int) (l20 : List Int) (i21 : Int) (i22 : Int) (r37 : Int × Int) (l25 : List Int) (r32 : (List Int) × (List Int) × Int) (l26 : List Int) (k_law01_TrainNearest_l1 : Int → (List Int) → Int → Int → Int → Int → (List Int) → (List Int) → (List Int) → (List Int) → Option Bool) : Option Bool :=
  ev_law01_TrainNearest_l4 n i19 l27 l28 l20 i21 i22 r37 l25 r32 l26 k_law01_TrainNearest_l1 n 1
set_option maxRecDepth 100000 in
set_option maxHeartbeats 2000000 in
theorem ok_law01_TrainNearest_j3 {n : Nat} {w0 : World} {R0 : Nat → Prop} {env0 : Env} {r : Bool} {r37 : Int × Int} {r32 : (List Int) × (List Int) × Int} {i23 : Int} {i24 : Int} {i19 : Int} {l27 : List Int} {l28 : List Int} {l20 : List Int} {i21 : Int} {i22 : Int} {l25 : List Int} {l26 : List Int} {k_law01_TrainNearest_l1 : Int → (List Int) → Int → Int → Int → Int → (List Int) → (List Int) → (List Int) → (List Int) → Option Bool} (hk_law01_TrainNearest_l1 : ∀ (i19 : Int) (l20 : List Int) (i21 : Int) (i22 : Int) (i23 : Int) (i24 : Int) (l25 : List Int) (l26 : List Int) (l27 : List Int) (l28 : List Int), k_law01_TrainNearest_l1 i19 l20 i21 i22 i23 i24 l25 l26 l27 l28 = some r → TC Try.prog ⟨w0, fun _ => False, R0⟩ 239 (bodyPost Try.prog Try.f11 (Post ⟨w0, fun _ => False, R0⟩ env0 (.val (.bool r)) [])) [.code (sub (bodyOf Try.f11) [1, 1, 1, 1, 1, 1, 0, 1, 0, 0, 0, 0]), .code (sub (bodyOf Try.f11) [1, 1, 1, 1, 1, 1, 0, 1, 0, 0, 0, 1]), .code (sub (bodyOf Try.f11) [1, 1, 1, 1, 1, 1, 0, 1, 0, 0, 1]), .inLoop (sub (bodyOf Try.f11) [1, 1, 1, 1, 1, 1, 0, 1, 0, 0]), .inBlock 0, .code (sub (bodyOf Try.f11) [1, 1, 1, 1, 1, 1, 1])] ([(2, .ref 2), (3, .ptr 3 0), (7, .ptr 7 0), (8, .ptr 8 0), (11, .fn 42 [] [.ptr 8 0]), (12, .ptr 12 0), (13, .val (.int .i64 i19))]) ([.ro 2 1 (List.map en_uint8 l20), .blk 3 [.ref 0, .ref 1] 64, .blk 7 [.ref 5, .ref 6] 40, .blk 8 [.val (.int .i64 i21), .val (.int .i64 i22)] 26, .blk 12 [.val (.int .i64 i23), .val (.int .i64 i24)] 82, .ro 0 1 (List.map en_uint8 l25), .ro 1 1 (List.map en_uint8 l26), .row 5 3 1 (List.map en_int l27), .row 6 3 1 (List.map en_int l28)])) (h : ev_law01_TrainNearest_j3 n i19 l27 l28 l20 i21 i22 r37 l25 r32 l26 k_law01_TrainNearest_l1 = some r) : TC Try.prog ⟨w0, fun _ => False, R0⟩ 239 (bodyPost Try.prog Try.f11 (Post ⟨w0, fun _ => False, R0⟩ env0 (.val (.bool r)) [])) [.code (sub (bodyOf Try.f11) [1, 1, 1, 1, 1, 1, 0, 1, 0, 0, 1, 0, 0, 1, 1, 1, 1, 0, 1, 1]), .code (sub (bodyOf Try.f11) [1, 1, 1, 1, 1, 1, 0, 1, 0, 0, 1, 0, 0, 1, 1, 1, 1, 1]), .inBlock 1, .code (sub (bodyOf Try.f11) [1, 1, 1, 1, 1, 1, 0, 1, 0, 0, 1, 1]), .inLoop (sub (bodyOf Try.f11) [1, 1, 1, 1, 1, 1, 0, 1, 0, 0]), .inBlock 0, .code (sub (bodyOf Try.f11) [1, 1, 1, 1, 1, 1, 1])] ([(2, .ref 2), (3, .ptr 3 0), (7, .ptr 7 0), (8, .ptr 8 0), (11, .fn 42 [] [.ptr 8 0]), (12, .ptr 12 0), (13, .val (.int .i64 i19)), (14, .ptr 21 0), (18, .val (.int .i64 r37.1)), (19, .val (.int .i64 r37.2))]) ([.ro 2 1 (List.map en_uint8 l20), .blk 3 [.ref 0, .ref 1] 64, .blk 7 [.ref 5, .ref 6] 40, .blk 8 [.val (.int .i64 i21), .val (.int .i64 i22)] 26, .blk 12 [.val (.int .i64 i23), .val (.int .i64 i24)] 82, .blk 21 [.ref 19, .ref 20] 57, .ro 0 1 (List.map en_uint8 l25), .ro 1 1 (List.map en_uint8 l26), .row 5 3 1 (List.map en_int l27), .row 6 3 1 (List.map en_int l28), .ro 19 1 (List.map en_int r32.1), .ro 20 1 (List.map en_int r32.2.1)]) := by
  rw [ev_law01_TrainNearest_j3] at h
  refine TC.skip ?_
  refine TC.seq ?_
  refine TC.region ?_
  refine op0 (sp_move rfl rfl) rfl trivial rfl rfl ?_
  refine op0 (sp_move rfl rfl) rfl trivial rfl rfl ?_
  refine op0 (sp_build (qs := [(0, .val (.int .i64 r37.1)), (1, .val (.int .i64 r37.2))]) rfl bt82 rfl rfl rfl rfl) rfl trivial rfl rfl ?_
  refine stoB 4 (cells' := [.val (.int .i64 r37.1), .val (.int .i64 r37.2)]) rfl rfl trivial rfl rfl rfl rfl vt82 rfl rfl rfl ?_
  refine TL.nil ?_
  refine TC.seq ?_
  refine TC.seq ?_
  refine TC.region ?_
  refine op0 (sp_assign rfl rfl) rfl trivial rfl rfl ?_
  refine TL.nil ?_
  refine TC.block ?_
  refine TC.loop ?_
  refine TC.seq ?_
  refine TC.seq ?_
  refine subJ [] (ok_law01_TrainNearest_l4 hk_law01_TrainNearest_l1 _ _ h) ?_ ?_ ?_
  · exact ⟨rfl, rfl, rfl, rfl, rfl, rfl, rfl, rfl, rfl, rfl, rfl, trivial⟩
  · exact ⟨mem_at 0 rfl, mem_at 1 rfl, mem_at 2 rfl, mem_at 3 rfl, mem_at 4 rfl, mem_at 5 rfl, mem_at 6 rfl, mem_at 7 rfl, mem_at 8 rfl, mem_at 9 rfl, mem_at 10 rfl, mem_at 11 rfl, trivial⟩
  · rfl
def ev_law01_TrainNearest_j2 (n : Nat) (r32 : (List Int) × (List Int) × Int) (i21 : Int) (i22 : Int) (i23 : Int) (i24 : Int) (i19 : Int) (l27 : List Int) (l28 : List Int) (l20 : List Int) (l25 : List Int) (l26 : List Int) (k_law01_TrainNearest_l1 : Int → (List Int) → Int → Int → Int → Int → (List Int) → (List Int) → (List Int) → (List Int) → Option Bool) : Option Bool :=
  (ev_law01_TrainNearest_1 n r32.1 r32.2.1 i21 i22).bind fun r37 => cond (decide ((0 : Int) ≤ i23)) (chk (in64 (r37.1 * i24)) <| chk (in64 (i23 * r37.2)) <| cond (decide ((i23 * r37.2) < (r37.1 * i24))) (some false) (ev_law01_TrainNearest_j3 n i19 l27 l28 l20 i21 i22 r37 l25 r32 l26 k_law01_TrainNearest_l1)) (ev_law01_TrainNearest_j3 n i19 l27 l28 l20 i21 i22 r37 l25 r32 l26 k_law01_TrainNearest_l1)
set_option maxRecDepth 100000 in
set_option maxHeartbeats 2000000 in
theorem ok_law01_TrainNearest_j2 {n : Nat} {w0 : World} {R0 : Nat → Prop} {env0 : Env} {r : Bool} {r32 : (List Int) × (List Int) × Int} {i21 : Int} {i22 : Int} {i23 : Int} {i24 : Int} {i19 : Int} {l27 : List Int} {l28 : List Int} {l20 : List Int} {l25 : List Int} {l26 : List Int} {k_law01_TrainNearest_l1 : Int → (List Int) → Int → Int → Int → Int → (List Int) → (List Int) → (List Int) → (List Int) → Option Bool} (hk_law01_TrainNearest_l1 : ∀ (i19 : Int) (l20 : List Int) (i21 : Int) (i22 : Int) (i23 : Int) (i24 : Int) (l25 : List Int) (l26 : List Int) (l27 : List Int) (l28 : List Int), k_law01_TrainNearest_l1 i19 l20 i21 i22 i23 i24 l25 l26 l27 l28 = some r → TC Try.prog ⟨w0, fun _ => False, R0⟩ 239 (bodyPost Try.prog Try.f11 (Post ⟨w0, fun _ => False, R0⟩ env0 (.val (.bool r)) [])) [.code (sub (bodyOf Try.f11) [1, 1, 1, 1, 1, 1, 0, 1, 0, 0, 0, 0]), .code (sub (bodyOf Try.f11) [1, 1, 1, 1, 1, 1, 0, 1, 0, 0, 0, 1]), .code (sub (bodyOf Try.f11) [1, 1, 1, 1, 1, 1, 0, 1, 0, 0, 1]), .inLoop (sub (bodyOf Try.f11) [1, 1, 1, 1, 1, 1, 0, 1, 0, 0]), .inBlock 0, .code (sub (bodyOf Try.f11) [1, 1, 1, 1, 1, 1, 1])] ([(2, .ref 2), (3, .ptr 3 0), (7, .ptr 7 0), (8, .ptr 8 0), (11, .fn 42 [] [.ptr 8 0]), (12, .ptr 12 0), (13, .val (.int .i64 i19))]) ([.ro 2 1 (List.map en_uint8 l20), .blk 3 [.ref 0, .ref 1] 64, .blk 7 [.ref 5, .ref 6] 40, .blk 8 [.val (.int .i64 i21), .val (.int .i64 i22)] 26, .blk 12 [.val (.int .i64 i23), .val (.int .i64 i24)] 82, .ro 0 1 (List.map en_uint8 l25), .ro 1 1 (List.map en_uint8 l26), .row 5 3 1 (List.map en_int l27), .row 6 3 1 (List.map en_int l28)])) (h : ev_law01_TrainNearest_j2 n r32 i21 i22 i23 i24 i19 l27 l28 l20 l25 l26 k_law01_TrainNearest_l1 = some r) : TC Try.prog ⟨w0, fun _ => False, R0⟩ 239 (bodyPost Try.prog Try.f11 (Post ⟨w0, fun _ => False, R0⟩ env0 (.val (.bool r)) [])) [.code (sub (bodyOf Try.f11) [1, 1, 1, 1, 1, 1, 0, 1, 0, 0, 1, 0, 0, 1, 1, 0, 1, 1]), .code (sub (bodyOf Try.f11) [1, 1, 1, 1, 1, 1, 0, 1, 0, 0, 1, 0, 0, 1, 1, 1]), .inBlock 1, .code (sub (bodyOf Try.f11) [1, 1, 1, 1, 1, 1, 0, 1, 0, 0, 1, 1]), .inLoop (sub (bodyOf Try.f11) [1, 1, 1, 1, 1, 1, 0, 1, 0, 0]), .inBlock 0, .code (sub (bodyOf Try.f11) [1, 1, 1, 1, 1, 1, 1])] ([(2, .ref 2), (3, .ptr 3 0), (7, .ptr 7 0), (8, .ptr 8 0), (11, .fn 42 [] [.ptr 8 0]), (12, .ptr 12 0), (13, .val (.int .i64 i19)), (14, .ptr 21 0)]) ([.ro 2 1 (List.map en_uint8 l20), .blk 3 [.ref 0, .ref 1] 64, .blk 7 [.ref 5, .ref 6] 40, .blk 8 [.val (.int .i64 i21), .val (.int .i64 i22)] 26, .blk 12 [.val (.int .i64 i23), .val (.int .i64 i24)] 82, .blk 21 [.ref 19, .ref 20] 57, .ro 0 1 (List.map en_uint8 l25), .ro 1 1 (List.map en_uint8 l26), .row 5 3 1 (List.map en_int l27), .row 6 3 1 (List.map en_int l28), .ro 19 1 (List.map en_int r32.1), .ro 20 1 (List.map en_int r32.2.1)]) := by
  rw [ev_law01_TrainNearest_j2] at h
  refine TC.skip ?_
  refine TC.seq ?_
  refine TC.region ?_
  refine op0 (sp_move rfl rfl) rfl trivial rfl rfl ?_
  refine op1 5 rfl (sp_loadBA rfl isBlk rfl vt57 rfl rfl) rfl trivial rfl rfl ?_
  obtain ⟨r37, h26, h⟩ := bind_inv h
  refine opN (need := [.ro 19 1 (List.map en_int r32.1), .ro 20 1 (List.map en_int r32.2.1), .blk 8 [.val (.int .i64 i21), .val (.int .i64 i22)] 26]) [10, 11, 3] ⟨rfl, rfl, rfl, trivial⟩ (sp_call (avs := [.agg [.ref 19, .ref 20]]) (need := [.ro 19 1 (List.map en_int r32.1), .ro 20 1 (List.map en_int r32.2.1), .blk 8 [.val (.int .i64 i21), .val (.int .i64 i22)] 26]) (v := .tup [.val (.int .i64 r37.1), .val (.int .i64 r37.2)]) (news := []) rfl rfl rfl Try.call42 (atJ [(0, 19), (1, 20), (2, 8)] [] (fc_law01_TrainNearest_1 h26) rfl rfl) (.inr (fun x hx => nomatch hx))) rfl trivial rfl rfl ?_
  refine op0 (sp_move rfl rfl) rfl trivial rfl rfl ?_
  refine op0 (sp_extract rfl rfl rfl) rfl trivial rfl rfl ?_
  refine op0 (sp_extract rfl rfl rfl) rfl trivial rfl rfl ?_
  refine op0 (sp_assign rfl rfl) rfl trivial rfl rfl ?_
  refine op0 (sp_assign rfl rfl) rfl trivial rfl rfl ?_
  refine TL.nil ?_
  refine TC.seq ?_
  refine TC.seq ?_
  refine TC.region ?_
  refine op1 4 rfl (sp_indexA (len := 2) (iv := 0) rfl isBlk rfl rfl Try.underlying82 vt3 (by decide)) rfl trivial rfl rfl ?_
  refine op1 4 rfl (sp_loadB rfl isBlk rfl vt3 rfl) rfl trivial rfl rfl ?_
  refine op0 (sp_geq rfl rfl rfl) rfl trivial rfl rfl ?_
  refine op0 (sp_move rfl rfl) rfl trivial rfl rfl ?_
  rcases cond_cases h with ⟨h27, h⟩ | ⟨h27, h⟩
  · refine (boolLit 120 rfl h27).2 ?_
    refine op0 (sp_move rfl rfl) rfl ⟨_, rfl, rfl⟩ rfl rfl ?_
    refine op1 4 rfl (sp_indexA (len := 2) (iv := 1) rfl isBlk rfl rfl Try.underlying82 vt3 (by decide)) rfl ⟨_, rfl, rfl⟩ rfl rfl ?_
    refine op1 4 rfl (sp_loadB rfl isBlk rfl vt3 rfl) rfl ⟨_, rfl, rfl⟩ rfl rfl ?_
    obtain ⟨h28, h⟩ := chk_inv h
    refine op0 (sp_mul rfl rfl rfl h28) rfl ⟨_, rfl, rfl⟩ rfl rfl ?_
    refine op1 4 rfl (sp_indexA (len := 2) (iv := 0) rfl isBlk rfl rfl Try.underlying82 vt3 (by decide)) rfl ⟨_, rfl, rfl⟩ rfl rfl ?_
    refine op1 4 rfl (sp_loadB rfl isBlk rfl vt3 rfl) rfl ⟨_, rfl, rfl⟩ rfl rfl ?_
    refine op0 (sp_move rfl rfl) rfl ⟨_, rfl, rfl⟩ rfl rfl ?_
    obtain ⟨h29, h⟩ := chk_inv h
    refine op0 (sp_mul rfl rfl rfl h29) rfl ⟨_, rfl, rfl⟩ rfl rfl ?_
    refine op0 (sp_gtr rfl rfl rfl) rfl ⟨_, rfl, rfl⟩ rfl rfl ?_
    refine op0 (sp_pickT rfl rfl rfl) rfl trivial rfl rfl ?_
    refine TL.nil ?_
    refine TC.cond (b := (decide ((i23 * r37.2) < (r37.1 * i24)))) rfl (fun h30 => ?_) (fun h30 => ?_)
    · have h := cond_t h h30
      refine TC.seq ?_
      refine TC.region ?_
      refine op0 (sp_assign rfl rfl) rfl trivial rfl rfl ?_
      refine TL.nil ?_
      cases h
      exact retJ [] (.tmp rfl .nil) rfl trivial rfl rfl
    · have h := cond_f h h30
      refine subJ [] (ok_law01_TrainNearest_j3 (i23 := i23) (i24 := i24) hk_law01_TrainNearest_l1 h) ?_ ?_ ?_
      · exact ⟨rfl, rfl, rfl, rfl, rfl, rfl, rfl, rfl, rfl, rfl, trivial⟩
      · exact ⟨mem_at 0 rfl, mem_at 1 rfl, mem_at 2 rfl, mem_at 3 rfl, mem_at 4 rfl, mem_at 5 rfl, mem_at 6 rfl, mem_at 7 rfl, mem_at 8 rfl, mem_at 9 rfl, mem_at 10 rfl, mem_at 11 rfl, trivial⟩
      · rfl
  · refine (boolLit 120 rfl h27).2 ?_
    refine opSkip rfl ⟨_, rfl, .inl rfl⟩ rfl ?_
    refine opSkip rfl ⟨_, rfl, .inl rfl⟩ rfl ?_
    refine opSkip rfl ⟨_, rfl, .inl rfl⟩ rfl ?_
    refine opSkip rfl ⟨_, rfl, .inl rfl⟩ rfl ?_
    refine opSkip rfl ⟨_, rfl, .inl rfl⟩ rfl ?_
    refine opSkip rfl ⟨_, rfl, .inl rfl⟩ rfl ?_
    refine opSkip rfl ⟨_, rfl, .inl rfl⟩ rfl ?_
    refine opSkip rfl ⟨_, rfl, .inl rfl⟩ rfl ?_
    refine opSkip rfl ⟨_, rfl, .inl rfl⟩ rfl ?_
    refine op0 (sp_pickF rfl rfl rfl) rfl trivial rfl rfl ?_
    refine TL.nil ?_
    refine TC.condF rfl ?_
    refine subJ [] (ok_law01_TrainNearest_j3 (i23 := i23) (i24 := i24) hk_law01_TrainNearest_l1 h) ?_ ?_ ?_
    · exact ⟨rfl, rfl, rfl, rfl, rfl, rfl, rfl, rfl, rfl, rfl, trivial⟩
    · exact ⟨mem_at 0 rfl, mem_at 1 rfl, mem_at 2 rfl, mem_at 3 rfl, mem_at 4 rfl, mem_at 5 rfl, mem_at 6 rfl, mem_at 7 rfl, mem_at 8 rfl, mem_at 9 rfl, mem_at 10 rfl, mem_at 11 rfl, trivial⟩
    · rfl
def ev_law01_TrainNearest_l1 (n : Nat) : Nat → Int → (List Int) → Int → Int → Int → Int → (List Int) → (List Int) → (List Int) → (List Int) → Option Bool
  | 0, _, _, _, _, _, _, _, _, _, _ => none
  | m + 1, i19, l20, i21, i22, i23, i24, l25, l26, l27, l28 => cond (decide (i19 ≤ 2)) ((ev_law01_copied n l27 l28).bind fun r31 => (ev_train_Near n r31.1 r31.2 i21 i22 i19).bind fun r32 => (ev_law01_product n r32.1).bind fun r33 => (ev_law01_product n r32.2.1).bind fun r34 => (ev_law01_lowest n (max (1 : Int) r33) (max (1 : Int) r34)).bind fun r35 => cond (r32.2.2 != 0) (some false) (cond (decide ((r32.1.length : Int) < 1)) (some false) (cond (decide (i19 < (r32.1.length : Int))) (some false) ((ev_law01_of n r32.1 r32.2.1 l27 l28 r35.1 r35.2.1).bind fun r36 => cond (!r36) (some false) (ev_law01_TrainNearest_j2 n r32 i21 i22 i23 i24 i19 l27 l28 l20 l25 l26 (fun i19q l20q i21q i22q i23q i24q l25q l26q l27q l28q => ev_law01_TrainNearest_l1 n m i19q l20q i21q i22q i23q i24q l25q l26q l27q l28q)))))) ((ev_law01_known n).bind fun r53 => some r53)
set_option maxRecDepth 100000 in
set_option maxHeartbeats 2000000 in
theorem ok_law01_TrainNearest_l1 {n : Nat} {w0 : World} {R0 : Nat → Prop} {env0 : Env} {r : Bool} : ∀ (m : Nat) (i19 : Int) (l20 : List Int) (i21 : Int) (i22 : Int) (i23 : Int) (i24 : Int) (l25 : List Int) (l26 : List Int) (l27 : List Int) (l28 : List Int), ev_law01_TrainNearest_l1 n m i19 l20 i21 i22 i23 i24 l25 l26 l27 l28 = some r → TC Try.prog ⟨w0, fun _ => False, R0⟩ 239 (bodyPost Try.prog Try.f11 (Post ⟨w0, fun _ => False, R0⟩ env0 (.val (.bool r)) [])) [.code (sub (bodyOf Try.f11) [1, 1, 1, 1, 1, 1, 0, 1, 0, 0, 0, 0]), .code (sub (bodyOf Try.f11) [1, 1, 1, 1, 1, 1, 0, 1, 0, 0, 0, 1]), .code (sub (bodyOf Try.f11) [1, 1, 1, 1, 1, 1, 0, 1, 0, 0, 1]), .inLoop (sub (bodyOf Try.f11) [1, 1, 1, 1, 1, 1, 0, 1, 0, 0]), .inBlock 0, .code (sub (bodyOf Try.f11) [1, 1, 1, 1, 1, 1, 1])] ([(2, .ref 2), (3, .ptr 3 0), (7, .ptr 7 0), (8, .ptr 8 0), (11, .fn 42 [] [.ptr 8 0]), (12, .ptr 12 0), (13, .val (.int .i64 i19))]) ([.ro 2 1 (List.map en_uint8 l20), .blk 3 [.ref 0, .ref 1] 64, .blk 7 [.ref 5, .ref 6] 40, .blk 8 [.val (.int .i64 i21), .val (.int .i64 i22)] 26, .blk 12 [.val (.int .i64 i23), .val (.int .i64 i24)] 82, .ro 0 1 (List.map en_uint8 l25), .ro 1 1 (List.map en_uint8 l26), .row 5 3 1 (List.map en_int l27), .row 6 3 1 (List.map en_int l28)]) := by
  intro m
  induction m with
  | zero => intro i19 l20 i21 i22 i23 i24 l25 l26 l27 l28 h; exact none_no h
  | succ m ih =>
    intro i19 l20 i21 i22 i23 i24 l25 l26 l27 l28 h
    rw [ev_law01_TrainNearest_l1] at h
    refine TC.region ?_
    refine op0 (sp_move rfl rfl) rfl trivial rfl rfl ?_
    refine op0 (sp_leq rfl rfl rfl) rfl trivial rfl rfl ?_
    refine TL.nil ?_
    refine TC.cond (b := (decide (i19 ≤ 2))) rfl (fun h13 => ?_) (fun h13 => ?_)
    · have h := cond_t h h13
      refine TC.skip ?_
      refine TC.seq ?_
      refine TC.block ?_
      refine TC.seq ?_
      obtain ⟨r31, h16, h⟩ := bind_inv h
      obtain ⟨r32, h17, h⟩ := bind_inv h
      refine drawJ 10 [⟨.agg [.ref 5, .ref 6], [], [.blk 7 [.ref 5, .ref 6] 40], []⟩, ⟨.agg [.ref 17, .ref 18], [.ro 17 1 (List.map en_int r31.1), .ro 18 1 (List.map en_int r31.2)], [.row 5 3 1 (List.map en_int l27), .row 6 3 1 (List.map en_int l28)], []⟩, ⟨.agg [.val (.int .i64 i21), .val (.int .i64 i22)], [], [.blk 8 [.val (.int .i64 i21), .val (.int .i64 i22)] 26], []⟩, ⟨.val (.int .i64 i19), [], [], []⟩, ⟨.tup [.agg [.ref 19, .ref 20], .val (.int .i64 r32.2.2)], [.ro 19 1 (List.map en_int r32.1), .ro 20 1 (List.map en_int r32.2.1)], [.ro 17 1 (List.map en_int r31.1), .ro 18 1 (List.map en_int r31.2)], []⟩, ⟨.tup [.agg [.ref 19, .ref 20], .val (.int .i64 r32.2.2)], [], [], []⟩, ⟨.agg [.ref 19, .ref 20], [], [], []⟩, ⟨.val (.int .i64 r32.2.2), [], [], []⟩, ⟨.ptr 21 0, [.blk 21 [.val (.slice none 0 0), .val (.slice none 0 0)] 57], [], []⟩, ⟨.val (undef), [.blk 21 [.ref 19, .ref 20] 57], [], [.blk 21 [.val (.slice none 0 0), .val (.slice none 0 0)] 57]⟩] rfl ?_ rfl ?_ rfl ?_ ?_
      · kernel_rfl
      · kernel_rfl
      · exact DAll.op' (sp_loadBA rfl isBlk rfl vt40 rfl rfl) trivial rfl (From.ok (ps := [(none, 2)]) ⟨⟨rfl, by kernel_rfl⟩, trivial⟩) (DAll.op' (OpSpec.froz (news := [.ro 17 1 (List.map en_int r31.1), .row 18 3 1 (List.map en_int r31.2)]) 1 rfl (OpSpec.froz (news := [.row 17 3 1 (List.map en_int r31.1), .row 18 3 1 (List.map en_int r31.2)]) 0 rfl (sp_call (avs := [.agg [.ref 5, .ref 6]]) (need := [.row 5 3 1 (List.map en_int l27), .row 6 3 1 (List.map en_int l28)]) (v := .agg [.ref 17, .ref 18]) (news := [.row 17 3 1 (List.map en_int r31.1), .row 18 3 1 (List.map en_int r31.2)]) rfl rfl rfl Try.call19 (atJ [(0, 5), (1, 6)] [(0, 17), (1, 18)] (fc_law01_copied h16) rfl rfl) (.inr (List.forall_mem_cons.2 ⟨indep_map en_int_flat, List.forall_mem_cons.2 ⟨indep_map en_int_flat, (by simp)⟩⟩))))) trivial rfl (From.ok (ps := [(none, 7), (none, 8)]) ⟨⟨rfl, by kernel_rfl⟩, ⟨rfl, by kernel_rfl⟩, trivial⟩) (DAll.op' (sp_loadBA rfl isBlk rfl vt26 rfl rfl) trivial rfl (From.ok (ps := [(none, 3)]) ⟨⟨rfl, by kernel_rfl⟩, trivial⟩) (DAll.op' (sp_move rfl rfl) trivial rfl (From.ok (ps := []) trivial) (DAll.op' (sp_call (avs := [.agg [.ref 17, .ref 18], .agg [.val (.int .i64 i21), .val (.int .i64 i22)], .val (.int .i64 i19)]) (need := [.ro 17 1 (List.map en_int r31.1), .ro 18 1 (List.map en_int r31.2)]) (v := .tup [.agg [.ref 19, .ref 20], .val (.int .i64 r32.2.2)]) (news := [.ro 19 1 (List.map en_int r32.1), .ro 20 1 (List.map en_int r32.2.1)]) rfl rfl rfl Try.call32 (atJ [(0, 17), (1, 18)] [(500, 19), (501, 20)] (fc_train_Near h17) rfl rfl) (.inl (roAll rfl))) trivial rfl (From.ok (ps := [(some 1, 0), (some 1, 1)]) ⟨⟨_, rfl, by kernel_rfl, rfl, by kernel_rfl⟩, ⟨_, rfl, by kernel_rfl, rfl, by kernel_rfl⟩, trivial⟩) (DAll.op' (sp_move rfl rfl) trivial rfl (From.ok (ps := []) trivial) (DAll.op' (sp_extract rfl rfl rfl) trivial rfl (From.ok (ps := []) trivial) (DAll.op' (sp_extract rfl rfl rfl) trivial rfl (From.ok (ps := []) trivial) (DAll.op' (sp_alloc 21 rfl Try.zeroValue57 rfl) trivial rfl (From.ok (ps := []) trivial) (DAll.opT (ts_storeB (off := 0) (cells' := [.ref 19, .ref 20]) rfl rfl rfl rfl vt57 rfl rfl rfl) trivial (From.ok (ps := [(some 8, 0)]) ⟨⟨_, rfl, by kernel_rfl, rfl, by kernel_rfl⟩, trivial⟩) (From.ok (ps := []) trivial) (.nil))))))))))
      refine op0 (sp_assign rfl rfl) rfl trivial rfl rfl ?_
      refine TL.nil ?_
      refine TC.seq ?_
      obtain ⟨r33, h18, h⟩ := bind_inv h
      obtain ⟨r34, h19, h⟩ := bind_inv h
      obtain ⟨r35, h20, h⟩ := bind_inv h
      refine drawJ 14 [⟨.ptr 21 0, [], [.blk 21 [.ref 19, .ref 20] 57], []⟩, ⟨.ref 19, [], [.blk 21 [.ref 19, .ref 20] 57], []⟩, ⟨.val (.int .i64 r33), [], [.ro 19 1 (List.map en_int r32.1)], []⟩, ⟨.val (.int .i64 (max (1 : Int) r33)), [], [], []⟩, ⟨.ptr 21 1, [], [.blk 21 [.ref 19, .ref 20] 57], []⟩, ⟨.ref 20, [], [.blk 21 [.ref 19, .ref 20] 57], []⟩, ⟨.val (.int .i64 r34), [], [.ro 20 1 (List.map en_int r32.2.1)], []⟩, ⟨.val (.int .i64 (max (1 : Int) r34)), [], [], []⟩, ⟨.tup [.agg [.val (.int .i64 r35.1), .val (.int .i64 r35.2.1)], .val (.bool r35.2.2)], [], [], []⟩, ⟨.tup [.agg [.val (.int .i64 r35.1), .val (.int .i64 r35.2.1)], .val (.bool r35.2.2)], [], [], []⟩, ⟨.agg [.val (.int .i64 r35.1), .val (.int .i64 r35.2.1)], [], [], []⟩, ⟨.val (.bool r35.2.2), [], [], []⟩, ⟨.ptr 22 0, [.blk 22 [.val (.int .i64 0), .val (.int .i64 0)] 26], [], []⟩, ⟨.val (undef), [.blk 22 [.val (.int .i64 r35.1), .val (.int .i64 r35.2.1)] 26], [], [.blk 22 [.val (.int .i64 0), .val (.int .i64 0)] 26]⟩] rfl ?_ rfl ?_ rfl ?_ ?_
      · kernel_rfl
      · kernel_rfl
      · exact DAll.op' (sp_fieldAddrB rfl isBlk rfl ft57_0 vt38 (by decide)) trivial rfl (From.ok (ps := [(none, 0)]) ⟨⟨rfl, by kernel_rfl⟩, trivial⟩) (DAll.op' (sp_loadB rfl isBlk rfl vt38 rfl) trivial rfl (From.ok (ps := [(none, 0)]) ⟨⟨rfl, by kernel_rfl⟩, trivial⟩) (DAll.op' (sp_call (avs := [.ref 19]) (need := [.ro 19 1 (List.map en_int r32.1)]) (v := .val (.int .i64 r33)) (news := []) rfl rfl rfl Try.call37 (atJ [(0, 19)] [] (fc_law01_product h18) rfl rfl) (.inl (roAll rfl))) trivial rfl (From.ok (ps := [(none, 1)]) ⟨⟨rfl, by kernel_rfl⟩, trivial⟩) (DAll.op' (sp_max rfl rfl rfl) trivial rfl (From.ok (ps := []) trivial) (DAll.op' (sp_fieldAddrB rfl isBlk rfl ft57_1 vt38 (by decide)) trivial rfl (From.ok (ps := [(none, 0)]) ⟨⟨rfl, by kernel_rfl⟩, trivial⟩) (DAll.op' (sp_loadB rfl isBlk rfl vt38 rfl) trivial rfl (From.ok (ps := [(none, 0)]) ⟨⟨rfl, by kernel_rfl⟩, trivial⟩) (DAll.op' (sp_call (avs := [.ref 20]) (need := [.ro 20 1 (List.map en_int r32.2.1)]) (v := .val (.int .i64 r34)) (news := []) rfl rfl rfl Try.call37 (atJ [(0, 20)] [] (fc_law01_product h19) rfl rfl) (.inl (roAll rfl))) trivial rfl (From.ok (ps := [(none, 2)]) ⟨⟨rfl, by kernel_rfl⟩, trivial⟩) (DAll.op' (sp_max rfl rfl rfl) trivial rfl (From.ok (ps := []) trivial) (DAll.op' (sp_call (avs := [.val (.int .i64 (max (1 : Int) r33)), .val (.int .i64 (max (1 : Int) r34))]) (need := []) (v := .tup [.agg [.val (.int .i64 r35.1), .val (.int .i64 r35.2.1)], .val (.bool r35.2.2)]) (news := []) rfl rfl rfl Try.call36 (atJ [] [] (fc_law01_lowest h20) rfl rfl) (.inl (roAll rfl))) trivial rfl (From.ok (ps := []) trivial) (DAll.op' (sp_move rfl rfl) trivial rfl (From.ok (ps := []) trivial) (DAll.op' (sp_extract rfl rfl rfl) trivial rfl (From.ok (ps := []) trivial) (DAll.op' (sp_extract rfl rfl rfl) trivial rfl (From.ok (ps := []) trivial) (DAll.op' (sp_alloc 22 rfl Try.zeroValue26 rfl) trivial rfl (From.ok (ps := []) trivial) (DAll.opT (ts_storeB (off := 0) (cells' := [.val (.int .i64 r35.1), .val (.int .i64 r35.2.1)]) rfl rfl rfl rfl vt26 rfl rfl rfl) trivial (From.ok (ps := [(some 12, 0)]) ⟨⟨_, rfl, by kernel_rfl, rfl, by kernel_rfl⟩, trivial⟩) (From.ok (ps := []) trivial) (.nil))))))))))))))
      refine op0 (sp_assign rfl rfl) rfl trivial rfl rfl ?_
      refine TL.nil ?_
      refine TC.seq ?_
      refine TC.seq ?_
      refine TC.region ?_
      refine op0 (sp_move rfl rfl) rfl trivial rfl rfl ?_
      refine op0 (sp_neq rfl rfl rfl) rfl trivial rfl rfl ?_
      refine op0 (sp_move rfl rfl) rfl trivial rfl rfl ?_
      rcases cond_cases h with ⟨h21, h⟩ | ⟨h21, h⟩
      · refine (boolLit 91 rfl h21).2 ?_
        refine opSkip rfl ⟨_, rfl, .inl rfl⟩ rfl ?_
        refine opSkip rfl ⟨_, rfl, .inl rfl⟩ rfl ?_
        refine opSkip rfl ⟨_, rfl, .inl rfl⟩ rfl ?_
        refine opSkip rfl ⟨_, rfl, .inl rfl⟩ rfl ?_
        refine op0 (sp_pickT rfl rfl rfl) rfl trivial rfl rfl ?_
        refine op0 (sp_move rfl rfl) rfl trivial rfl rfl ?_
        refine opSkip rfl ⟨_, rfl, .inl rfl⟩ rfl ?_
        refine opSkip rfl ⟨_, rfl, .inl rfl⟩ rfl ?_
        refine opSkip rfl ⟨_, rfl, .inl rfl⟩ rfl ?_
        refine opSkip rfl ⟨_, rfl, .inl rfl⟩ rfl ?_
        refine opSkip rfl ⟨_, rfl, .inl rfl⟩ rfl ?_
        refine op0 (sp_pickT rfl rfl rfl) rfl trivial rfl rfl ?_
        refine op0 (sp_move rfl rfl) rfl trivial rfl rfl ?_
        refine opSkip rfl ⟨_, rfl, .inl rfl⟩ rfl ?_
        refine opSkip rfl ⟨_, rfl, .inl rfl⟩ rfl ?_
        refine opSkip rfl ⟨_, rfl, .inl rfl⟩ rfl ?_
        refine opSkip rfl ⟨_, rfl, .inl rfl⟩ rfl ?_
        refine opSkip rfl ⟨_, rfl, .inl rfl⟩ rfl ?_
        refine op0 (sp_pickT rfl rfl rfl) rfl trivial rfl rfl ?_
        refine TL.nil ?_
        refine TC.condT rfl ?_
        refine TC.seq ?_
        refine TC.region ?_
        refine op0 (sp_assign rfl rfl) rfl trivial rfl rfl ?_
        refine TL.nil ?_
        cases h
        exact retJ [] (.tmp rfl .nil) rfl trivial rfl rfl
      · refine (boolLit 91 rfl h21).2 ?_
        refine op1 1 rfl (sp_fieldAddrB rfl isBlk rfl ft57_0 vt38 (by decide)) rfl ⟨_, rfl, rfl⟩ rfl rfl ?_
        refine op1 1 rfl (sp_loadB rfl isBlk rfl vt38 rfl) rfl ⟨_, rfl, rfl⟩ rfl rfl ?_
        refine op1 2 rfl (sp_lenM (N := r32.1.length) (len_map _ _) rfl rfl isRo Try.underlying38) rfl ⟨_, rfl, rfl⟩ rfl rfl ?_
        refine op0 (sp_lss rfl rfl rfl) rfl ⟨_, rfl, rfl⟩ rfl rfl ?_
        refine op0 (sp_pickF rfl rfl rfl) rfl trivial rfl rfl ?_
        refine op0 (sp_move rfl rfl) rfl trivial rfl rfl ?_
        rcases cond_cases h with ⟨h22, h⟩ | ⟨h22, h⟩
        · refine (boolLit 97 rfl h22).2 ?_
          refine opSkip rfl ⟨_, rfl, .inl rfl⟩ rfl ?_
          refine opSkip rfl ⟨_, rfl, .inl rfl⟩ rfl ?_
          refine opSkip rfl ⟨_, rfl, .inl rfl⟩ rfl ?_
          refine opSkip rfl ⟨_, rfl, .inl rfl⟩ rfl ?_
          refine opSkip rfl ⟨_, rfl, .inl rfl⟩ rfl ?_
          refine op0 (sp_pickT rfl rfl rfl) rfl trivial rfl rfl ?_
          refine op0 (sp_move rfl rfl) rfl trivial rfl rfl ?_
          refine opSkip rfl ⟨_, rfl, .inl rfl⟩ rfl ?_
          refine opSkip rfl ⟨_, rfl, .inl rfl⟩ rfl ?_
          refine opSkip rfl ⟨_, rfl, .inl rfl⟩ rfl ?_
          refine opSkip rfl ⟨_, rfl, .inl rfl⟩ rfl ?_
          refine opSkip rfl ⟨_, rfl, .inl rfl⟩ rfl ?_
          refine op0 (sp_pickT rfl rfl rfl) rfl trivial rfl rfl ?_
          refine TL.nil ?_
          refine TC.condT rfl ?_
          refine TC.seq ?_
          refine TC.region ?_
          refine op0 (sp_assign rfl rfl) rfl trivial rfl rfl ?_
          refine TL.nil ?_
          cases h
          exact retJ [] (.tmp rfl .nil) rfl trivial rfl rfl
        · refine (boolLit 97 rfl h22).2 ?_
          refine op1 1 rfl (sp_fieldAddrB rfl isBlk rfl ft57_0 vt38 (by decide)) rfl ⟨_, rfl, rfl⟩ rfl rfl ?_
          refine op1 1 rfl (sp_loadB rfl isBlk rfl vt38 rfl) rfl ⟨_, rfl, rfl⟩ rfl rfl ?_
          refine op1 2 rfl (sp_lenM (N := r32.1.length) (len_map _ _) rfl rfl isRo Try.underlying38) rfl ⟨_, rfl, rfl⟩ rfl rfl ?_
          refine op0 (sp_move rfl rfl) rfl ⟨_, rfl, rfl⟩ rfl rfl ?_
          refine op0 (sp_gtr rfl rfl rfl) rfl ⟨_, rfl, rfl⟩ rfl rfl ?_
          refine op0 (sp_pickF rfl rfl rfl) rfl trivial rfl rfl ?_
          refine op0 (sp_move rfl rfl) rfl trivial rfl rfl ?_
          rcases cond_cases h with ⟨h23, h⟩ | ⟨h23, h⟩
          · refine (boolLit 104 rfl h23).2 ?_
            refine opSkip rfl ⟨_, rfl, .inl rfl⟩ rfl ?_
            refine opSkip rfl ⟨_, rfl, .inl rfl⟩ rfl ?_
            refine opSkip rfl ⟨_, rfl, .inl rfl⟩ rfl ?_
            refine opSkip rfl ⟨_, rfl, .inl rfl⟩ rfl ?_
            refine opSkip rfl ⟨_, rfl, .inl rfl⟩ rfl ?_
            refine op0 (sp_pickT rfl rfl rfl) rfl trivial rfl rfl ?_
            refine TL.nil ?_
            refine TC.condT rfl ?_
            refine TC.seq ?_
            refine TC.region ?_
            refine op0 (sp_assign rfl rfl) rfl trivial rfl rfl ?_
            refine TL.nil ?_
            cases h
            exact retJ [] (.tmp rfl .nil) rfl trivial rfl rfl
          · refine (boolLit 104 rfl h23).2 ?_
            refine op1 1 rfl (sp_loadBA rfl isBlk rfl vt57 rfl rfl) rfl ⟨_, rfl, rfl⟩ rfl rfl ?_
            refine op1 8 rfl (sp_loadBA rfl isBlk rfl vt40 rfl rfl) rfl ⟨_, rfl, rfl⟩ rfl rfl ?_
            refine op1 0 rfl (sp_loadBA rfl isBlk rfl vt26 rfl rfl) rfl ⟨_, rfl, rfl⟩ rfl rfl ?_
            obtain ⟨r36, h24, h⟩ := bind_inv h
            refine opN (need := [.ro 19 1 (List.map en_int r32.1), .ro 20 1 (List.map en_int r32.2.1), .row 5 3 1 (List.map en_int l27), .row 6 3 1 (List.map en_int l28)]) [2, 3, 13, 14] ⟨rfl, rfl, rfl, rfl, trivial⟩ (sp_call (avs := [.agg [.ref 19, .ref 20], .agg [.ref 5, .ref 6], .agg [.val (.int .i64 r35.1), .val (.int .i64 r35.2.1)]]) (need := [.ro 19 1 (List.map en_int r32.1), .ro 20 1 (List.map en_int r32.2.1), .row 5 3 1 (List.map en_int l27), .row 6 3 1 (List.map en_int l28)]) (v := .val (.bool r36)) (news := []) rfl rfl rfl Try.call38 (atJ [(0, 19), (1, 20), (2, 5), (3, 6)] [] (fc_law01_of h24) rfl rfl) (.inr (fun x hx => nomatch hx))) rfl ⟨_, rfl, rfl⟩ rfl rfl ?_
            refine op0 (sp_not rfl rfl) rfl ⟨_, rfl, rfl⟩ rfl rfl ?_
            refine op0 (sp_pickF rfl rfl rfl) rfl trivial rfl rfl ?_
            refine TL.nil ?_
            refine TC.cond (b := (!r36)) rfl (fun h25 => ?_) (fun h25 => ?_)
            · have h := cond_t h h25
              refine TC.seq ?_
              refine TC.region ?_
              refine op0 (sp_assign rfl rfl) rfl trivial rfl rfl ?_
              refine TL.nil ?_
              cases h
              exact retJ [] (.tmp rfl .nil) rfl trivial rfl rfl
            · have h := cond_f h h25
              refine subJ [] (ok_law01_TrainNearest_j2 ih h) ?_ ?_ ?_
              · exact ⟨rfl, rfl, rfl, rfl, rfl, rfl, rfl, rfl, trivial⟩
              · exact ⟨mem_at 6 rfl, mem_at 7 rfl, mem_at 8 rfl, mem_at 9 rfl, mem_at 10 rfl, mem_at 1 rfl, mem_at 11 rfl, mem_at 12 rfl, mem_at 13 rfl, mem_at 14 rfl, mem_at 2 rfl, mem_at 3 rfl, trivial⟩
              · rfl
    · have h := cond_f h h13
      refine TC.exit rfl ?_
      refine TC.seq ?_
      refine TC.region ?_
      obtain ⟨r53, h66, h⟩ := bind_inv h
      refine op0 (sp_call (avs := []) (need := []) (v := .val (.bool r53)) (news := []) rfl rfl rfl Try.call12 (atJ [] [] (fc_law01_known h66) rfl rfl) (.inl (roAll rfl))) rfl trivial rfl rfl ?_
      refine op0 (sp_assign rfl rfl) rfl trivial rfl rfl ?_
      refine TL.nil ?_
      cases h
      exact retJ [] (.tmp rfl .nil) rfl trivial rfl rfl
def ev_law01_TrainNearest_j0 (n : Nat) (l12 : List Int) (i13 : Int) (i14 : Int) (l15 : List Int) (l16 : List Int) (l17 : List Int) (l18 : List Int) : Option Bool :=
  ev_law01_TrainNearest_l1 n n 1 l12 i13 i14 (-1) 1 l15 l16 l17 l18
set_option maxRecDepth 100000 in
set_option maxHeartbeats 2000000 in
theorem ok_law01_TrainNearest_j0 {n : Nat} {w0 : World} {R0 : Nat → Prop} {env0 : Env} {r : Bool} {l12 : List Int} {i13 : Int} {i14 : Int} {l15 : List Int} {l16 : List Int} {l17 : List Int} {l18 : List Int} (h : ev_law01_TrainNearest_j0 n l12 i13 i14 l15 l16 l17 l18 = some r) : TC Try.prog ⟨w0, fun _ => False, R0⟩ 239 (bodyPost Try.prog Try.f11 (Post ⟨w0, fun _ => False, R0⟩ env0 (.val (.bool r)) [])) [.code (sub (bodyOf Try.f11) [1, 1, 1, 1, 0]), .code (sub (bodyOf Try.f11) [1, 1, 1, 1, 1])] ([(2, .ref 2), (3, .ptr 3 0), (7, .ptr 7 0), (8, .ptr 8 0)]) ([.ro 2 1 (List.map en_uint8 l12), .blk 3 [.ref 0, .ref 1] 64, .blk 7 [.ref 5, .ref 6] 40, .blk 8 [.val (.int .i64 i13), .val (.int .i64 i14)] 26, .ro 0 1 (List.map en_uint8 l15), .ro 1 1 (List.map en_uint8 l16), .row 5 3 1 (List.map en_int l17), .row 6 3 1 (List.map en_int l18)]) := by
  rw [ev_law01_TrainNearest_j0] at h
  refine TC.region ?_
  refine op0 (sp_makeFunc (fi := []) (ca := [.tmp 8]) (fa := []) (cb := [.ptr 8 0]) rfl rfl rfl) rfl trivial rfl rfl ?_
  refine op0 (sp_assign rfl rfl) rfl trivial rfl rfl ?_
  refine TL.nil ?_
  refine TC.seq ?_
  refine TC.region ?_
  refine op0 (sp_build (qs := [(0, .val (.int .i64 (-1))), (1, .val (.int .i64 1))]) rfl bt82 rfl rfl rfl rfl) rfl trivial rfl rfl ?_
  refine op0 (sp_alloc 12 rfl Try.zeroValue82 rfl) rfl trivial rfl rfl ?_
  refine stoB 0 (cells' := [.val (.int .i64 (-1)), .val (.int .i64 1)]) rfl rfl trivial rfl rfl rfl rfl vt82 rfl rfl rfl ?_
  refine TL.nil ?_
  refine TC.seq ?_
  refine TC.seq ?_
  refine TC.region ?_
  refine op0 (sp_assign rfl rfl) rfl trivial rfl rfl ?_
  refine TL.nil ?_
  refine TC.block ?_
  refine TC.loop ?_
  refine TC.seq ?_
  refine TC.seq ?_
  refine subJ [] (ok_law01_TrainNearest_l1 _ _ _ _ _ _ _ _ _ _ _ h) ?_ ?_ ?_
  · exact ⟨rfl, rfl, rfl, rfl, rfl, rfl, rfl, trivial⟩
  · exact ⟨mem_at 1 rfl, mem_at 2 rfl, mem_at 3 rfl, mem_at 4 rfl, mem_at 0 rfl, mem_at 5 rfl, mem_at 6 rfl, mem_at 7 rfl, mem_at 8 rfl, trivial⟩
  · rfl
def ev_law01_TrainNearest (n : Nat) (c1 : List Int) (c2 : List Int) (want3 : Int) (want4 : Int) (by_5 : List Int) : Option Bool :=
  (ev_law01_Cutters_shop n c1 c2).bind fun r6 => chk (in64 want3) <| chk (in64 ((1 : Int) + want3)) <| chk (in64 want4) <| chk (in64 ((1 : Int) + want4)) <| (ev_law01_lowest n ((1 : Int) + want3) ((1 : Int) + want4)).bind fun r7 => cond ((Int.tmod (by_5.length : Int) 3) == 0) (chk (in64 ((1 : Int) + (Int.tmod (by_5.length : Int) 2))) <| (ev_law01_picked n r6.1 r6.2 by_5 ((1 : Int) + (Int.tmod (by_5.length : Int) 2))).bind fun r8 => (ev_law01_product n r8.1).bind fun r9 => (ev_law01_product n r8.2).bind fun r10 => (ev_law01_lowest n r9 r10).bind fun r11 => ev_law01_TrainNearest_j0 n by_5 r11.1 r11.2.1 c1 c2 r6.1 r6.2) (ev_law01_TrainNearest_j0 n by_5 r7.1 r7.2.1 c1 c2 r6.1 r6.2)
set_option maxRecDepth 100000 in
set_option maxHeartbeats 2000000 in
theorem fc_law01_TrainNearest {n : Nat} {c1 : List Int} {c2 : List Int} {want3 : Int} {want4 : Int} {by_5 : List Int} {r : Bool} (h : ev_law01_TrainNearest n c1 c2 want3 want4 by_5 = some r) : FC Try.prog 11 [.agg [.ref 0, .ref 1], .agg [.val (.int .u16 want3), .val (.int .u16 want4)], .ref 2] [.ro 0 1 (List.map en_uint8 c1), .ro 1 1 (List.map en_uint8 c2), .ro 2 1 (List.map en_uint8 by_5)] (.val (.bool r)) [] := by
  refine introJ (nz := 239) Try.func11 rfl rfl rfl (fun w0 R0 env0 => ?_)
  rw [ev_law01_TrainNearest] at h
  refine TC.seq ?_
  refine TC.region ?_
  refine op0 (sp_box 3 rfl rfl rfl rfl rfl) rfl trivial rfl rfl ?_
  refine op0 (sp_box 4 rfl rfl rfl rfl rfl) rfl trivial rfl rfl ?_
  refine op0 (sp_assign rfl rfl) rfl trivial rfl rfl ?_
  refine TL.nil ?_
  refine TC.seq ?_
  refine TC.region ?_
  refine op1 1 rfl (sp_loadBA rfl isBlk rfl vt64 rfl rfl) rfl trivial rfl rfl ?_
  obtain ⟨r6, h1, h⟩ := bind_inv h
  refine opN (need := [.ro 0 1 (List.map en_uint8 c1), .ro 1 1 (List.map en_uint8 c2)]) [2, 3] ⟨rfl, rfl, trivial⟩ (sp_call (avs := [.agg [.ref 0, .ref 1]]) (need := [.ro 0 1 (List.map en_uint8 c1), .ro 1 1 (List.map en_uint8 c2)]) (v := .agg [.ref 5, .ref 6]) (news := [.row 5 3 1 (List.map en_int r6.1), .row 6 3 1 (List.map en_int r6.2)]) rfl rfl rfl Try.call34 (atJ [] [(0, 5), (1, 6)] (fc_law01_Cutters_shop h1) rfl rfl) (.inl (roAll rfl))) rfl trivial rfl rfl ?_
  refine op0 (sp_alloc 7 rfl Try.zeroValue40 rfl) rfl trivial rfl rfl ?_
  refine stoB 0 (cells' := [.ref 5, .ref 6]) rfl rfl trivial rfl rfl rfl rfl vt40 rfl rfl rfl ?_
  refine TL.nil ?_
  refine TC.seq ?_
  refine TC.region ?_
  refine op1 3 rfl (sp_indexA (len := 2) (iv := 0) rfl isBlk rfl rfl Try.underlying73 vt72 (by decide)) rfl trivial rfl rfl ?_
  refine op1 3 rfl (sp_loadB rfl isBlk rfl vt72 rfl) rfl trivial rfl rfl ?_
  obtain ⟨h2, h⟩ := chk_inv h
  refine op0 (sp_conv rfl Try.underlying72 Try.underlying3 rfl h2) rfl trivial rfl rfl ?_
  obtain ⟨h3, h⟩ := chk_inv h
  refine op0 (sp_add rfl rfl rfl h3) rfl trivial rfl rfl ?_
  refine op1 3 rfl (sp_indexA (len := 2) (iv := 1) rfl isBlk rfl rfl Try.underlying73 vt72 (by decide)) rfl trivial rfl rfl ?_
  refine op1 3 rfl (sp_loadB rfl isBlk rfl vt72 rfl) rfl trivial rfl rfl ?_
  obtain ⟨h4, h⟩ := chk_inv h
  refine op0 (sp_conv rfl Try.underlying72 Try.underlying3 rfl h4) rfl trivial rfl rfl ?_
  obtain ⟨h5, h⟩ := chk_inv h
  refine op0 (sp_add rfl rfl rfl h5) rfl trivial rfl rfl ?_
  obtain ⟨r7, h6, h⟩ := bind_inv h
  refine op0 (sp_call (avs := [.val (.int .i64 ((1 : Int) + want3)), .val (.int .i64 ((1 : Int) + want4))]) (need := []) (v := .tup [.agg [.val (.int .i64 r7.1), .val (.int .i64 r7.2.1)], .val (.bool r7.2.2)]) (news := []) rfl rfl rfl Try.call36 (atJ [] [] (fc_law01_lowest h6) rfl rfl) (.inl (roAll rfl))) rfl trivial rfl rfl ?_
  refine op0 (sp_move rfl rfl) rfl trivial rfl rfl ?_
  refine op0 (sp_extract rfl rfl rfl) rfl trivial rfl rfl ?_
  refine op0 (sp_extract rfl rfl rfl) rfl trivial rfl rfl ?_
  refine op0 (sp_alloc 8 rfl Try.zeroValue26 rfl) rfl trivial rfl rfl ?_
  refine stoB 0 (cells' := [.val (.int .i64 r7.1), .val (.int .i64 r7.2.1)]) rfl rfl trivial rfl rfl rfl rfl vt26 rfl rfl rfl ?_
  refine op0 (sp_assign rfl rfl) rfl trivial rfl rfl ?_
  refine TL.nil ?_
  refine TC.seq ?_
  refine TC.seq ?_
  refine TC.region ?_
  refine op0 (sp_move rfl rfl) rfl trivial rfl rfl ?_
  refine op1 8 rfl (sp_lenM (N := by_5.length) (len_map _ _) rfl rfl isRo Try.underlying62) rfl trivial rfl rfl ?_
  refine op0 (sp_rem rfl rfl rfl (by decide)) rfl trivial rfl rfl ?_
  refine op0 (sp_eql rfl rfl rfl) rfl trivial rfl rfl ?_
  refine TL.nil ?_
  refine TC.cond (b := ((Int.tmod (by_5.length : Int) 3) == 0)) rfl (fun h7 => ?_) (fun h7 => ?_)
  · have h := cond_t h h7
    refine TC.seq ?_
    refine TC.region ?_
    refine op1 1 rfl (sp_loadBA rfl isBlk rfl vt40 rfl rfl) rfl trivial rfl rfl ?_
    refine op0 (sp_move rfl rfl) rfl trivial rfl rfl ?_
    refine op0 (sp_move rfl rfl) rfl trivial rfl rfl ?_
    refine op1 8 rfl (sp_lenM (N := by_5.length) (len_map _ _) rfl rfl isRo Try.underlying62) rfl trivial rfl rfl ?_
    refine op0 (sp_rem rfl rfl rfl (by decide)) rfl trivial rfl rfl ?_
    obtain ⟨h8, h⟩ := chk_inv h
    refine op0 (sp_add rfl rfl rfl h8) rfl trivial rfl rfl ?_
    obtain ⟨r8, h9, h⟩ := bind_inv h
    refine opN (need := [.row 5 3 1 (List.map en_int r6.1), .row 6 3 1 (List.map en_int r6.2), .ro 2 1 (List.map en_uint8 by_5)]) [2, 3, 8] ⟨rfl, rfl, rfl, trivial⟩ (sp_call (avs := [.agg [.ref 5, .ref 6], .ref 2, .val (.int .i64 ((1 : Int) + (Int.tmod (by_5.length : Int) 2)))]) (need := [.row 5 3 1 (List.map en_int r6.1), .row 6 3 1 (List.map en_int r6.2), .ro 2 1 (List.map en_uint8 by_5)]) (v := .agg [.ref 9, .ref 10]) (news := [.row 9 3 1 (List.map en_int r8.1), .row 10 3 1 (List.map en_int r8.2)]) rfl rfl rfl Try.call35 (atJ [(0, 5), (1, 6)] [(0, 9), (1, 10)] (fc_law01_picked h9) rfl rfl) (.inr (List.forall_mem_cons.2 ⟨indep_map en_int_flat, List.forall_mem_cons.2 ⟨indep_map en_int_flat, (by simp)⟩⟩))) rfl trivial rfl rfl ?_
    refine op0 (sp_alloc 11 rfl Try.zeroValue57 rfl) rfl trivial rfl rfl ?_
    refine stoB 0 (cells' := [.ref 9, .ref 10]) rfl rfl trivial rfl rfl rfl rfl vt57 rfl rfl rfl ?_
    refine TL.nil ?_
    obtain ⟨r9, h10, h⟩ := bind_inv h
    obtain ⟨r10, h11, h⟩ := bind_inv h
    obtain ⟨r11, h12, h⟩ := bind_inv h
    refine drawJ 11 [⟨.ptr 11 0, [], [.blk 11 [.ref 9, .ref 10] 57], []⟩, ⟨.ref 9, [], [.blk 11 [.ref 9, .ref 10] 57], []⟩, ⟨.val (.int .i64 r9), [], [.row 9 3 1 (List.map en_int r8.1)], []⟩, ⟨.ptr 11 1, [], [.blk 11 [.ref 9, .ref 10] 57], []⟩, ⟨.ref 10, [], [.blk 11 [.ref 9, .ref 10] 57], []⟩, ⟨.val (.int .i64 r10), [], [.row 10 3 1 (List.map en_int r8.2)], []⟩, ⟨.tup [.agg [.val (.int .i64 r11.1), .val (.int .i64 r11.2.1)], .val (.bool r11.2.2)], [], [], []⟩, ⟨.tup [.agg [.val (.int .i64 r11.1), .val (.int .i64 r11.2.1)], .val (.bool r11.2.2)], [], [], []⟩, ⟨.agg [.val (.int .i64 r11.1), .val (.int .i64 r11.2.1)], [], [], []⟩, ⟨.val (.bool r11.2.2), [], [], []⟩, ⟨.val (undef), [.blk 8 [.val (.int .i64 r11.1), .val (.int .i64 r11.2.1)] 26], [], [.blk 8 [.val (.int .i64 r7.1), .val (.int .i64 r7.2.1)] 26]⟩] rfl ?_ rfl ?_ rfl ?_ ?_
    · kernel_rfl
    · kernel_rfl
    · exact DAll.op' (sp_fieldAddrB rfl isBlk rfl ft57_0 vt38 (by decide)) trivial rfl (From.ok (ps := [(none, 0)]) ⟨⟨rfl, by kernel_rfl⟩, trivial⟩) (DAll.op' (sp_loadB rfl isBlk rfl vt38 rfl) trivial rfl (From.ok (ps := [(none, 0)]) ⟨⟨rfl, by kernel_rfl⟩, trivial⟩) (DAll.op' (sp_call (avs := [.ref 9]) (need := [.row 9 3 1 (List.map en_int r8.1)]) (v := .val (.int .i64 r9)) (news := []) rfl rfl rfl Try.call37 (atJ [(0, 9)] [] (fc_law01_product h10) rfl rfl) (.inr (fun x hx => nomatch hx))) trivial rfl (From.ok (ps := [(none, 1)]) ⟨⟨rfl, by kernel_rfl⟩, trivial⟩) (DAll.op' (sp_fieldAddrB rfl isBlk rfl ft57_1 vt38 (by decide)) trivial rfl (From.ok (ps := [(none, 0)]) ⟨⟨rfl, by kernel_rfl⟩, trivial⟩) (DAll.op' (sp_loadB rfl isBlk rfl vt38 rfl) trivial rfl (From.ok (ps := [(none, 0)]) ⟨⟨rfl, by kernel_rfl⟩, trivial⟩) (DAll.op' (sp_call (avs := [.ref 10]) (need := [.row 10 3 1 (List.map en_int r8.2)]) (v := .val (.int .i64 r10)) (news := []) rfl rfl rfl Try.call37 (atJ [(0, 10)] [] (fc_law01_product h11) rfl rfl) (.inr (fun x hx => nomatch hx))) trivial rfl (From.ok (ps := [(none, 2)]) ⟨⟨rfl, by kernel_rfl⟩, trivial⟩) (DAll.op' (sp_call (avs := [.val (.int .i64 r9), .val (.int .i64 r10)]) (need := []) (v := .tup [.agg [.val (.int .i64 r11.1), .val (.int .i64 r11.2.1)], .val (.bool r11.2.2)]) (news := []) rfl rfl rfl Try.call36 (atJ [] [] (fc_law01_lowest h12) rfl rfl) (.inl (roAll rfl))) trivial rfl (From.ok (ps := []) trivial) (DAll.op' (sp_move rfl rfl) trivial rfl (From.ok (ps := []) trivial) (DAll.op' (sp_extract rfl rfl rfl) trivial rfl (From.ok (ps := []) trivial) (DAll.op' (sp_extract rfl rfl rfl) trivial rfl (From.ok (ps := []) trivial) (DAll.opT (ts_storeB (off := 0) (cells' := [.val (.int .i64 r11.1), .val (.int .i64 r11.2.1)]) rfl rfl rfl rfl vt26 rfl rfl rfl) trivial (From.ok (ps := [(none, 3)]) ⟨⟨rfl, by kernel_rfl⟩, trivial⟩) (From.ok (ps := []) trivial) (.nil)))))))))))
    refine TL.nil ?_
    refine TC.seq ?_
    refine subJ [] (ok_law01_TrainNearest_j0 h) ?_ ?_ ?_
    · exact ⟨rfl, rfl, rfl, rfl, trivial⟩
    · exact ⟨mem_at 11 rfl, mem_at 8 rfl, mem_at 4 rfl, mem_at 0 rfl, mem_at 9 rfl, mem_at 10 rfl, mem_at 5 rfl, mem_at 6 rfl, trivial⟩
    · rfl
  · have h := cond_f h h7
    refine TC.skip ?_
    refine TC.seq ?_
    refine subJ [] (ok_law01_TrainNearest_j0 h) ?_ ?_ ?_
    · exact ⟨rfl, rfl, rfl, rfl, trivial⟩
    · exact ⟨mem_at 8 rfl, mem_at 5 rfl, mem_at 1 rfl, mem_at 0 rfl, mem_at 6 rfl, mem_at 7 rfl, mem_at 2 rfl, mem_at 3 rfl, trivial⟩
    · rfl
end
end Go.Proofs.Ytabjhlfgcmmbfaa.Sy
