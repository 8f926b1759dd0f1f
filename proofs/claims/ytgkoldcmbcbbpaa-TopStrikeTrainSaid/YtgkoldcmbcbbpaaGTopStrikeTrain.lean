/- What functions of the program compute, and that they do: printed by symgen.py. -/
import Derived.Test.YtgkoldcmbcbbpaaGLib
import Derived.Test.YtgkoldcmbcbbpaaGStrike
import Derived.Test.YtgkoldcmbcbbpaaGTrain
set_option linter.unusedSimpArgs false
set_option linter.unusedVariables false
namespace Go.Proofs.Ytgkoldcmbcbbpaa.Sy
open Go.RowKit
noncomputable section

/- top_TopStrikeTrain -/
def ev_top_TopStrikeTrain_l2 (n : Nat) (i20 : Int) (i21 : Int) (i22 : Int) (i23 : Int) (i24 : Int) (i14 : Int) (i15 : Int) (i16 : Int) (i17 : Int) (i18 : Int) (i19 : Int) (l25 : List Int) (l26 : List Int) (k_top_TopStrikeTrain_l1 : Int → Int → Int → Int → Int → Int → Int → Int → Int → Int → Int → (List Int) → (List Int) → Option Bool) : Nat → Bool → Bool → Int → Option Bool
  | 0, _, _, _ => none
  | m + 1, b27, b28, i29 => cond (decide (i29 < 5)) (cond b27 (cond b28 (chk (in64 (i29 + 1)) <| ev_top_TopStrikeTrain_l2 n i20 i21 i22 i23 i24 i14 i15 i16 i17 i18 i19 l25 l26 k_top_TopStrikeTrain_l1 m true true (i29 + 1)) (chk (decide (0 ≤ i29) && decide (i29 < 5)) <| idx ([i20, i21, i22, i23, i24] : List Int) i29 fun x30 => chk (in64 x30) <| chk (in64 ((6 : Int) + (Int.tmod x30 24))) <| chk (in64 (i29 + 1)) <| ev_top_TopStrikeTrain_l2 n i20 i21 i22 i23 i24 i14 i15 i16 i17 i18 i19 l25 l26 k_top_TopStrikeTrain_l1 m true (i14 == ((6 : Int) + (Int.tmod x30 24))) (i29 + 1))) (chk (decide (0 ≤ i29) && decide (i29 < 5)) <| idx ([i15, i16, i17, i18, i19] : List Int) i29 fun x31 => chk (in64 x31) <| chk (in64 ((30 : Int) + (Int.tmod x31 90))) <| cond b28 (chk (in64 (i29 + 1)) <| ev_top_TopStrikeTrain_l2 n i20 i21 i22 i23 i24 i14 i15 i16 i17 i18 i19 l25 l26 k_top_TopStrikeTrain_l1 m (i14 == ((30 : Int) + (Int.tmod x31 90))) true (i29 + 1)) (chk (decide (0 ≤ i29) && decide (i29 < 5)) <| idx ([i20, i21, i22, i23, i24] : List Int) i29 fun x32 => chk (in64 x32) <| chk (in64 ((6 : Int) + (Int.tmod x32 24))) <| chk (in64 (i29 + 1)) <| ev_top_TopStrikeTrain_l2 n i20 i21 i22 i23 i24 i14 i15 i16 i17 i18 i19 l25 l26 k_top_TopStrikeTrain_l1 m (i14 == ((30 : Int) + (Int.tmod x31 90))) (i14 == ((6 : Int) + (Int.tmod x32 24))) (i29 + 1)))) (cond b27 (chk (room 8 (l25.length + ([i14] : List Int).length)) <| cond b28 (chk (room 8 (l26.length + ([i14] : List Int).length)) <| chk (in64 (i14 + 1)) <| k_top_TopStrikeTrain_l1 (i14 + 1) i15 i16 i17 i18 i19 i20 i21 i22 i23 i24 (l25 ++ ([i14] : List Int)) (l26 ++ ([i14] : List Int))) (chk (in64 (i14 + 1)) <| k_top_TopStrikeTrain_l1 (i14 + 1) i15 i16 i17 i18 i19 i20 i21 i22 i23 i24 (l25 ++ ([i14] : List Int)) l26)) (cond b28 (chk (room 8 (l26.length + ([i14] : List Int).length)) <| chk (in64 (i14 + 1)) <| k_top_TopStrikeTrain_l1 (i14 + 1) i15 i16 i17 i18 i19 i20 i21 i22 i23 i24 l25 (l26 ++ ([i14] : List Int))) (chk (in64 (i14 + 1)) <| k_top_TopStrikeTrain_l1 (i14 + 1) i15 i16 i17 i18 i19 i20 i21 i22 i23 i24 l25 l26)))
set_option maxRecDepth 100000 in
set_option maxHeartbeats 2000000 in
theorem ok_top_TopStrikeTrain_l2 {n : Nat} {w0 : World} {R0 : Nat → Prop} {env0 : Env} {r : Bool} {r13 : Int × Int} {pins11 : Int} {i20 : Int} {i21 : Int} {i22 : Int} {i23 : Int} {i24 : Int} {i14 : Int} {i15 : Int} {i16 : Int} {i17 : Int} {i18 : Int} {i19 : Int} {l25 : List Int} {l26 : List Int} {k_top_TopStrikeTrain_l1 : Int → Int → Int → Int → Int → Int → Int → Int → Int → Int → Int → (List Int) → (List Int) → Option Bool} (hk_top_TopStrikeTrain_l1 : ∀ (i14 : Int) (i15 : Int) (i16 : Int) (i17 : Int) (i18 : Int) (i19 : Int) (i20 : Int) (i21 : Int) (i22 : Int) (i23 : Int) (i24 : Int) (l25 : List Int) (l26 : List Int), k_top_TopStrikeTrain_l1 i14 i15 i16 i17 i18 i19 i20 i21 i22 i23 i24 l25 l26 = some r → TC Try.prog ⟨w0, fun _ => False, R0⟩ 256 (bodyPost Try.prog Try.f6 (Post ⟨w0, fun _ => False, R0⟩ env0 (.val (.bool r)) [])) [.code (sub (bodyOf Try.f6) [1, 1, 1, 1, 1, 1, 0, 1, 0, 0, 0, 0]), .code (sub (bodyOf Try.f6) [1, 1, 1, 1, 1, 1, 0, 1, 0, 0, 0, 1]), .code (sub (bodyOf Try.f6) [1, 1, 1, 1, 1, 1, 0, 1, 0, 0, 1]), .inLoop (sub (bodyOf Try.f6) [1, 1, 1, 1, 1, 1, 0, 1, 0, 0]), .inBlock 0, .code (sub (bodyOf Try.f6) [1, 1, 1, 1, 1, 1, 1])] ([(7, .ptr 1 0), (8, .ptr 2 0), (9, .val (.int .i64 r13.1)), (11, .val (.int .i64 ((4 : Int) + (Int.tmod pins11 10)))), (12, .ptr 4 0), (13, .val (.int .i64 i14))]) ([.blk 1 [.val (.int .u8 i15), .val (.int .u8 i16), .val (.int .u8 i17), .val (.int .u8 i18), .val (.int .u8 i19)] 67, .blk 2 [.val (.int .u8 i20), .val (.int .u8 i21), .val (.int .u8 i22), .val (.int .u8 i23), .val (.int .u8 i24)] 67, .row 5 3 1 (List.map en_int l25), .row 6 3 1 (List.map en_int l26), .blk 4 [.ref 5, .ref 6] 70])) : ∀ (m : Nat) (b27 : Bool) (b28 : Bool) (i29 : Int), ev_top_TopStrikeTrain_l2 n i20 i21 i22 i23 i24 i14 i15 i16 i17 i18 i19 l25 l26 k_top_TopStrikeTrain_l1 m b27 b28 i29 = some r → TC Try.prog ⟨w0, fun _ => False, R0⟩ 256 (bodyPost Try.prog Try.f6 (Post ⟨w0, fun _ => False, R0⟩ env0 (.val (.bool r)) [])) [.code (sub (bodyOf Try.f6) [1, 1, 1, 1, 1, 1, 0, 1, 0, 0, 1, 0, 0, 1, 0, 1, 0, 0, 0, 0]), .code (sub (bodyOf Try.f6) [1, 1, 1, 1, 1, 1, 0, 1, 0, 0, 1, 0, 0, 1, 0, 1, 0, 0, 0, 1]), .code (sub (bodyOf Try.f6) [1, 1, 1, 1, 1, 1, 0, 1, 0, 0, 1, 0, 0, 1, 0, 1, 0, 0, 1]), .inLoop (sub (bodyOf Try.f6) [1, 1, 1, 1, 1, 1, 0, 1, 0, 0, 1, 0, 0, 1, 0, 1, 0, 0]), .inBlock 2, .code (sub (bodyOf Try.f6) [1, 1, 1, 1, 1, 1, 0, 1, 0, 0, 1, 0, 0, 1, 1]), .inBlock 1, .code (sub (bodyOf Try.f6) [1, 1, 1, 1, 1, 1, 0, 1, 0, 0, 1, 1]), .inLoop (sub (bodyOf Try.f6) [1, 1, 1, 1, 1, 1, 0, 1, 0, 0]), .inBlock 0, .code (sub (bodyOf Try.f6) [1, 1, 1, 1, 1, 1, 1])] ([(7, .ptr 1 0), (8, .ptr 2 0), (9, .val (.int .i64 r13.1)), (11, .val (.int .i64 ((4 : Int) + (Int.tmod pins11 10)))), (12, .ptr 4 0), (13, .val (.int .i64 i14)), (14, .val (.bool b27)), (15, .val (.bool b28)), (16, .val (.int .i64 i29))]) ([.blk 1 [.val (.int .u8 i15), .val (.int .u8 i16), .val (.int .u8 i17), .val (.int .u8 i18), .val (.int .u8 i19)] 67, .blk 2 [.val (.int .u8 i20), .val (.int .u8 i21), .val (.int .u8 i22), .val (.int .u8 i23), .val (.int .u8 i24)] 67, .blk 4 [.ref 5, .ref 6] 70, .row 5 3 1 (List.map en_int l25), .row 6 3 1 (List.map en_int l26)]) := by
  intro m
  induction m with
  | zero => intro b27 b28 i29 h; exact none_no h
  | succ m ih =>
    intro b27 b28 i29 h
    rw [ev_top_TopStrikeTrain_l2] at h
    refine TC.region ?_
    refine op0 (sp_move rfl rfl) rfl trivial rfl rfl ?_
    refine op0 (sp_lss rfl rfl rfl) rfl trivial rfl rfl ?_
    refine TL.nil ?_
    refine TC.cond (b := (decide (i29 < 5))) rfl (fun h8 => ?_) (fun h8 => ?_)
    · have h := cond_t h h8
      refine TC.skip ?_
      refine TC.seq ?_
      refine TC.block ?_
      rcases cond_cases h with ⟨h9, h⟩ | ⟨h9, h⟩
      · rcases cond_cases h with ⟨h10, h⟩ | ⟨h10, h⟩
        · refine drawJ 23 [⟨.val (.bool b27), [], [], []⟩, ⟨.val (.bool true), [], [], []⟩, ⟨.val (undef), [], [], []⟩, ⟨.val (undef), [], [], []⟩, ⟨.val (undef), [], [], []⟩, ⟨.val (undef), [], [], []⟩, ⟨.val (undef), [], [], []⟩, ⟨.val (undef), [], [], []⟩, ⟨.val (undef), [], [], []⟩, ⟨.val (undef), [], [], []⟩, ⟨.val (.bool true), [], [], []⟩, ⟨.val (.bool b28), [], [], []⟩, ⟨.val (.bool true), [], [], []⟩, ⟨.val (undef), [], [], []⟩, ⟨.val (undef), [], [], []⟩, ⟨.val (undef), [], [], []⟩, ⟨.val (undef), [], [], []⟩, ⟨.val (undef), [], [], []⟩, ⟨.val (undef), [], [], []⟩, ⟨.val (undef), [], [], []⟩, ⟨.val (undef), [], [], []⟩, ⟨.val (.bool true), [], [], []⟩, ⟨.val (.bool true), [], [], []⟩] rfl ?_ rfl ?_ rfl ?_ ?_
          · kernel_rfl
          · kernel_rfl
          · exact DAll.op' (sp_move rfl rfl) trivial rfl (From.ok (ps := []) trivial) (DAll.op' (sp_castB h9 (sp_move rfl rfl)) trivial rfl (From.ok (ps := []) trivial) (.skip ⟨_, rfl, .inl rfl⟩ rfl rfl rfl (.skip ⟨_, rfl, .inl rfl⟩ rfl rfl rfl (.skip ⟨_, rfl, .inl rfl⟩ rfl rfl rfl (.skip ⟨_, rfl, .inl rfl⟩ rfl rfl rfl (.skip ⟨_, rfl, .inl rfl⟩ rfl rfl rfl (.skip ⟨_, rfl, .inl rfl⟩ rfl rfl rfl (.skip ⟨_, rfl, .inl rfl⟩ rfl rfl rfl (.skip ⟨_, rfl, .inl rfl⟩ rfl rfl rfl (DAll.op' (sp_pickT rfl rfl rfl) trivial rfl (From.ok (ps := []) trivial) (DAll.op' (sp_move rfl rfl) trivial rfl (From.ok (ps := []) trivial) (DAll.op' (sp_castB h10 (sp_move rfl rfl)) trivial rfl (From.ok (ps := []) trivial) (.skip ⟨_, rfl, .inl rfl⟩ rfl rfl rfl (.skip ⟨_, rfl, .inl rfl⟩ rfl rfl rfl (.skip ⟨_, rfl, .inl rfl⟩ rfl rfl rfl (.skip ⟨_, rfl, .inl rfl⟩ rfl rfl rfl (.skip ⟨_, rfl, .inl rfl⟩ rfl rfl rfl (.skip ⟨_, rfl, .inl rfl⟩ rfl rfl rfl (.skip ⟨_, rfl, .inl rfl⟩ rfl rfl rfl (.skip ⟨_, rfl, .inl rfl⟩ rfl rfl rfl (DAll.op' (sp_pickT rfl rfl rfl) trivial rfl (From.ok (ps := []) trivial) (DAll.op' (sp_assign rfl rfl) trivial rfl (From.ok (ps := []) trivial) (.nil)))))))))))))))))))))))
          refine op0 (sp_assign rfl rfl) rfl trivial rfl rfl ?_
          refine TL.nil ?_
          refine TC.inBlock ?_
          refine TC.region ?_
          refine op0 (sp_move rfl rfl) rfl trivial rfl rfl ?_
          obtain ⟨h11, h⟩ := chk_inv h
          refine op0 (sp_add rfl rfl rfl h11) rfl trivial rfl rfl ?_
          refine op0 (sp_assign rfl rfl) rfl trivial rfl rfl ?_
          refine TL.nil ?_
          refine TC.inLoop ?_
          refine TC.seq ?_
          refine TC.seq ?_
          refine subJ [] (ih _ _ _ h) ?_ ?_ ?_
          · exact ⟨rfl, rfl, rfl, rfl, rfl, rfl, rfl, rfl, rfl, trivial⟩
          · exact ⟨mem_at 0 rfl, mem_at 1 rfl, mem_at 2 rfl, mem_at 3 rfl, mem_at 4 rfl, trivial⟩
          · rfl
        · obtain ⟨h12, h⟩ := chk_inv h
          obtain ⟨x30, h13, h14, h⟩ := idx_inv h
          obtain ⟨h15, h⟩ := chk_inv h
          obtain ⟨h16, h⟩ := chk_inv h
          refine drawJ 23 [⟨.val (.bool b27), [], [], []⟩, ⟨.val (.bool true), [], [], []⟩, ⟨.val (undef), [], [], []⟩, ⟨.val (undef), [], [], []⟩, ⟨.val (undef), [], [], []⟩, ⟨.val (undef), [], [], []⟩, ⟨.val (undef), [], [], []⟩, ⟨.val (undef), [], [], []⟩, ⟨.val (undef), [], [], []⟩, ⟨.val (undef), [], [], []⟩, ⟨.val (.bool true), [], [], []⟩, ⟨.val (.bool b28), [], [], []⟩, ⟨.val (.bool false), [], [], []⟩, ⟨.val (.int .i64 i14), [], [], []⟩, ⟨.val (.int .i64 i29), [], [], []⟩, ⟨.ptr 2 (0 + ((i29).toNat * 1 + 0)), [], [.blk 2 [.val (.int .u8 i20), .val (.int .u8 i21), .val (.int .u8 i22), .val (.int .u8 i23), .val (.int .u8 i24)] 67], []⟩, ⟨.val (.int .u8 x30), [], [.blk 2 [.val (.int .u8 i20), .val (.int .u8 i21), .val (.int .u8 i22), .val (.int .u8 i23), .val (.int .u8 i24)] 67], []⟩, ⟨.val (.int .i64 x30), [], [], []⟩, ⟨.val (.int .i64 (Int.tmod x30 24)), [], [], []⟩, ⟨.val (.int .i64 ((6 : Int) + (Int.tmod x30 24))), [], [], []⟩, ⟨.val (.bool (i14 == ((6 : Int) + (Int.tmod x30 24)))), [], [], []⟩, ⟨.val (.bool (i14 == ((6 : Int) + (Int.tmod x30 24)))), [], [], []⟩, ⟨.val (.bool true), [], [], []⟩] rfl ?_ rfl ?_ rfl ?_ ?_
          · kernel_rfl
          · kernel_rfl
          · exact DAll.op' (sp_move rfl rfl) trivial rfl (From.ok (ps := []) trivial) (DAll.op' (sp_castB h9 (sp_move rfl rfl)) trivial rfl (From.ok (ps := []) trivial) (.skip ⟨_, rfl, .inl rfl⟩ rfl rfl rfl (.skip ⟨_, rfl, .inl rfl⟩ rfl rfl rfl (.skip ⟨_, rfl, .inl rfl⟩ rfl rfl rfl (.skip ⟨_, rfl, .inl rfl⟩ rfl rfl rfl (.skip ⟨_, rfl, .inl rfl⟩ rfl rfl rfl (.skip ⟨_, rfl, .inl rfl⟩ rfl rfl rfl (.skip ⟨_, rfl, .inl rfl⟩ rfl rfl rfl (.skip ⟨_, rfl, .inl rfl⟩ rfl rfl rfl (DAll.op' (sp_pickT rfl rfl rfl) trivial rfl (From.ok (ps := []) trivial) (DAll.op' (sp_move rfl rfl) trivial rfl (From.ok (ps := []) trivial) (DAll.op' (sp_castB h10 (sp_move rfl rfl)) trivial rfl (From.ok (ps := []) trivial) (DAll.op' (sp_move rfl rfl) ⟨_, rfl, rfl⟩ rfl (From.ok (ps := []) trivial) (DAll.op' (sp_move rfl rfl) ⟨_, rfl, rfl⟩ rfl (From.ok (ps := []) trivial) (DAll.op' (sp_indexA (len := 5) rfl isBlk rfl rfl Try.underlying67 vt5 h12) ⟨_, rfl, rfl⟩ rfl (From.ok (ps := [(none, 1)]) ⟨⟨rfl, by kernel_rfl⟩, trivial⟩) (DAll.op' (sp_loadB rfl isBlk rfl vt5 (arr_get (enc := ax_uint8) (j := 0) (fun _ => rfl) rfl (pre := []) (post := []) (xs := ([i20, i21, i22, i23, i24] : List Int)) rfl h14 rfl)) ⟨_, rfl, rfl⟩ rfl (From.ok (ps := [(none, 1)]) ⟨⟨rfl, by kernel_rfl⟩, trivial⟩) (DAll.op' (sp_conv rfl Try.underlying5 Try.underlying3 rfl h15) ⟨_, rfl, rfl⟩ rfl (From.ok (ps := []) trivial) (DAll.op' (sp_rem rfl rfl rfl (by decide)) ⟨_, rfl, rfl⟩ rfl (From.ok (ps := []) trivial) (DAll.op' (sp_add rfl rfl rfl h16) ⟨_, rfl, rfl⟩ rfl (From.ok (ps := []) trivial) (DAll.op' (sp_eql rfl rfl rfl) ⟨_, rfl, rfl⟩ rfl (From.ok (ps := []) trivial) (DAll.op' (sp_pickF rfl rfl rfl) trivial rfl (From.ok (ps := []) trivial) (DAll.op' (sp_assign rfl rfl) trivial rfl (From.ok (ps := []) trivial) (.nil)))))))))))))))))))))))
          refine op0 (sp_assign rfl rfl) rfl trivial rfl rfl ?_
          refine TL.nil ?_
          refine TC.inBlock ?_
          refine TC.region ?_
          refine op0 (sp_move rfl rfl) rfl trivial rfl rfl ?_
          obtain ⟨h17, h⟩ := chk_inv h
          refine op0 (sp_add rfl rfl rfl h17) rfl trivial rfl rfl ?_
          refine op0 (sp_assign rfl rfl) rfl trivial rfl rfl ?_
          refine TL.nil ?_
          refine TC.inLoop ?_
          refine TC.seq ?_
          refine TC.seq ?_
          refine subJ [] (ih _ _ _ h) ?_ ?_ ?_
          · exact ⟨rfl, rfl, rfl, rfl, rfl, rfl, rfl, rfl, rfl, trivial⟩
          · exact ⟨mem_at 0 rfl, mem_at 1 rfl, mem_at 2 rfl, mem_at 3 rfl, mem_at 4 rfl, trivial⟩
          · rfl
      · obtain ⟨h18, h⟩ := chk_inv h
        obtain ⟨x31, h19, h20, h⟩ := idx_inv h
        obtain ⟨h21, h⟩ := chk_inv h
        obtain ⟨h22, h⟩ := chk_inv h
        rcases cond_cases h with ⟨h23, h⟩ | ⟨h23, h⟩
        · refine drawJ 23 [⟨.val (.bool b27), [], [], []⟩, ⟨.val (.bool false), [], [], []⟩, ⟨.val (.int .i64 i14), [], [], []⟩, ⟨.val (.int .i64 i29), [], [], []⟩, ⟨.ptr 1 (0 + ((i29).toNat * 1 + 0)), [], [.blk 1 [.val (.int .u8 i15), .val (.int .u8 i16), .val (.int .u8 i17), .val (.int .u8 i18), .val (.int .u8 i19)] 67], []⟩, ⟨.val (.int .u8 x31), [], [.blk 1 [.val (.int .u8 i15), .val (.int .u8 i16), .val (.int .u8 i17), .val (.int .u8 i18), .val (.int .u8 i19)] 67], []⟩, ⟨.val (.int .i64 x31), [], [], []⟩, ⟨.val (.int .i64 (Int.tmod x31 90)), [], [], []⟩, ⟨.val (.int .i64 ((30 : Int) + (Int.tmod x31 90))), [], [], []⟩, ⟨.val (.bool (i14 == ((30 : Int) + (Int.tmod x31 90)))), [], [], []⟩, ⟨.val (.bool (i14 == ((30 : Int) + (Int.tmod x31 90)))), [], [], []⟩, ⟨.val (.bool b28), [], [], []⟩, ⟨.val (.bool true), [], [], []⟩, ⟨.val (undef), [], [], []⟩, ⟨.val (undef), [], [], []⟩, ⟨.val (undef), [], [], []⟩, ⟨.val (undef), [], [], []⟩, ⟨.val (undef), [], [], []⟩, ⟨.val (undef), [], [], []⟩, ⟨.val (undef), [], [], []⟩, ⟨.val (undef), [], [], []⟩, ⟨.val (.bool true), [], [], []⟩, ⟨.val (.bool (i14 == ((30 : Int) + (Int.tmod x31 90)))), [], [], []⟩] rfl ?_ rfl ?_ rfl ?_ ?_
          · kernel_rfl
          · kernel_rfl
          · exact DAll.op' (sp_move rfl rfl) trivial rfl (From.ok (ps := []) trivial) (DAll.op' (sp_castB h9 (sp_move rfl rfl)) trivial rfl (From.ok (ps := []) trivial) (DAll.op' (sp_move rfl rfl) ⟨_, rfl, rfl⟩ rfl (From.ok (ps := []) trivial) (DAll.op' (sp_move rfl rfl) ⟨_, rfl, rfl⟩ rfl (From.ok (ps := []) trivial) (DAll.op' (sp_indexA (len := 5) rfl isBlk rfl rfl Try.underlying67 vt5 h18) ⟨_, rfl, rfl⟩ rfl (From.ok (ps := [(none, 0)]) ⟨⟨rfl, by kernel_rfl⟩, trivial⟩) (DAll.op' (sp_loadB rfl isBlk rfl vt5 (arr_get (enc := ax_uint8) (j := 0) (fun _ => rfl) rfl (pre := []) (post := []) (xs := ([i15, i16, i17, i18, i19] : List Int)) rfl h20 rfl)) ⟨_, rfl, rfl⟩ rfl (From.ok (ps := [(none, 0)]) ⟨⟨rfl, by kernel_rfl⟩, trivial⟩) (DAll.op' (sp_conv rfl Try.underlying5 Try.underlying3 rfl h21) ⟨_, rfl, rfl⟩ rfl (From.ok (ps := []) trivial) (DAll.op' (sp_rem rfl rfl rfl (by decide)) ⟨_, rfl, rfl⟩ rfl (From.ok (ps := []) trivial) (DAll.op' (sp_add rfl rfl rfl h22) ⟨_, rfl, rfl⟩ rfl (From.ok (ps := []) trivial) (DAll.op' (sp_eql rfl rfl rfl) ⟨_, rfl, rfl⟩ rfl (From.ok (ps := []) trivial) (DAll.op' (sp_pickF rfl rfl rfl) trivial rfl (From.ok (ps := []) trivial) (DAll.op' (sp_move rfl rfl) trivial rfl (From.ok (ps := []) trivial) (DAll.op' (sp_castB h23 (sp_move rfl rfl)) trivial rfl (From.ok (ps := []) trivial) (.skip ⟨_, rfl, .inl rfl⟩ rfl rfl rfl (.skip ⟨_, rfl, .inl rfl⟩ rfl rfl rfl (.skip ⟨_, rfl, .inl rfl⟩ rfl rfl rfl (.skip ⟨_, rfl, .inl rfl⟩ rfl rfl rfl (.skip ⟨_, rfl, .inl rfl⟩ rfl rfl rfl (.skip ⟨_, rfl, .inl rfl⟩ rfl rfl rfl (.skip ⟨_, rfl, .inl rfl⟩ rfl rfl rfl (.skip ⟨_, rfl, .inl rfl⟩ rfl rfl rfl (DAll.op' (sp_pickT rfl rfl rfl) trivial rfl (From.ok (ps := []) trivial) (DAll.op' (sp_assign rfl rfl) trivial rfl (From.ok (ps := []) trivial) (.nil)))))))))))))))))))))))
          refine op0 (sp_assign rfl rfl) rfl trivial rfl rfl ?_
          refine TL.nil ?_
          refine TC.inBlock ?_
          refine TC.region ?_
          refine op0 (sp_move rfl rfl) rfl trivial rfl rfl ?_
          obtain ⟨h24, h⟩ := chk_inv h
          refine op0 (sp_add rfl rfl rfl h24) rfl trivial rfl rfl ?_
          refine op0 (sp_assign rfl rfl) rfl trivial rfl rfl ?_
          refine TL.nil ?_
          refine TC.inLoop ?_
          refine TC.seq ?_
          refine TC.seq ?_
          refine subJ [] (ih _ _ _ h) ?_ ?_ ?_
          · exact ⟨rfl, rfl, rfl, rfl, rfl, rfl, rfl, rfl, rfl, trivial⟩
          · exact ⟨mem_at 0 rfl, mem_at 1 rfl, mem_at 2 rfl, mem_at 3 rfl, mem_at 4 rfl, trivial⟩
          · rfl
        · obtain ⟨h25, h⟩ := chk_inv h
          obtain ⟨x32, h26, h27, h⟩ := idx_inv h
          obtain ⟨h28, h⟩ := chk_inv h
          obtain ⟨h29, h⟩ := chk_inv h
          refine drawJ 23 [⟨.val (.bool b27), [], [], []⟩, ⟨.val (.bool false), [], [], []⟩, ⟨.val (.int .i64 i14), [], [], []⟩, ⟨.val (.int .i64 i29), [], [], []⟩, ⟨.ptr 1 (0 + ((i29).toNat * 1 + 0)), [], [.blk 1 [.val (.int .u8 i15), .val (.int .u8 i16), .val (.int .u8 i17), .val (.int .u8 i18), .val (.int .u8 i19)] 67], []⟩, ⟨.val (.int .u8 x31), [], [.blk 1 [.val (.int .u8 i15), .val (.int .u8 i16), .val (.int .u8 i17), .val (.int .u8 i18), .val (.int .u8 i19)] 67], []⟩, ⟨.val (.int .i64 x31), [], [], []⟩, ⟨.val (.int .i64 (Int.tmod x31 90)), [], [], []⟩, ⟨.val (.int .i64 ((30 : Int) + (Int.tmod x31 90))), [], [], []⟩, ⟨.val (.bool (i14 == ((30 : Int) + (Int.tmod x31 90)))), [], [], []⟩, ⟨.val (.bool (i14 == ((30 : Int) + (Int.tmod x31 90)))), [], [], []⟩, ⟨.val (.bool b28), [], [], []⟩, ⟨.val (.bool false), [], [], []⟩, ⟨.val (.int .i64 i14), [], [], []⟩, ⟨.val (.int .i64 i29), [], [], []⟩, ⟨.ptr 2 (0 + ((i29).toNat * 1 + 0)), [], [.blk 2 [.val (.int .u8 i20), .val (.int .u8 i21), .val (.int .u8 i22), .val (.int .u8 i23), .val (.int .u8 i24)] 67], []⟩, ⟨.val (.int .u8 x32), [], [.blk 2 [.val (.int .u8 i20), .val (.int .u8 i21), .val (.int .u8 i22), .val (.int .u8 i23), .val (.int .u8 i24)] 67], []⟩, ⟨.val (.int .i64 x32), [], [], []⟩, ⟨.val (.int .i64 (Int.tmod x32 24)), [], [], []⟩, ⟨.val (.int .i64 ((6 : Int) + (Int.tmod x32 24))), [], [], []⟩, ⟨.val (.bool (i14 == ((6 : Int) + (Int.tmod x32 24)))), [], [], []⟩, ⟨.val (.bool (i14 == ((6 : Int) + (Int.tmod x32 24)))), [], [], []⟩, ⟨.val (.bool (i14 == ((30 : Int) + (Int.tmod x31 90)))), [], [], []⟩] rfl ?_ rfl ?_ rfl ?_ ?_
          · kernel_rfl
          · kernel_rfl
          · exact DAll.op' (sp_move rfl rfl) trivial rfl (From.ok (ps := []) trivial) (DAll.op' (sp_castB h9 (sp_move rfl rfl)) trivial rfl (From.ok (ps := []) trivial) (DAll.op' (sp_move rfl rfl) ⟨_, rfl, rfl⟩ rfl (From.ok (ps := []) trivial) (DAll.op' (sp_move rfl rfl) ⟨_, rfl, rfl⟩ rfl (From.ok (ps := []) trivial) (DAll.op' (sp_indexA (len := 5) rfl isBlk rfl rfl Try.underlying67 vt5 h18) ⟨_, rfl, rfl⟩ rfl (From.ok (ps := [(none, 0)]) ⟨⟨rfl, by kernel_rfl⟩, trivial⟩) (DAll.op' (sp_loadB rfl isBlk rfl vt5 (arr_get (enc := ax_uint8) (j := 0) (fun _ => rfl) rfl (pre := []) (post := []) (xs := ([i15, i16, i17, i18, i19] : List Int)) rfl h20 rfl)) ⟨_, rfl, rfl⟩ rfl (From.ok (ps := [(none, 0)]) ⟨⟨rfl, by kernel_rfl⟩, trivial⟩) (DAll.op' (sp_conv rfl Try.underlying5 Try.underlying3 rfl h21) ⟨_, rfl, rfl⟩ rfl (From.ok (ps := []) trivial) (DAll.op' (sp_rem rfl rfl rfl (by decide)) ⟨_, rfl, rfl⟩ rfl (From.ok (ps := []) trivial) (DAll.op' (sp_add rfl rfl rfl h22) ⟨_, rfl, rfl⟩ rfl (From.ok (ps := []) trivial) (DAll.op' (sp_eql rfl rfl rfl) ⟨_, rfl, rfl⟩ rfl (From.ok (ps := []) trivial) (DAll.op' (sp_pickF rfl rfl rfl) trivial rfl (From.ok (ps := []) trivial) (DAll.op' (sp_move rfl rfl) trivial rfl (From.ok (ps := []) trivial) (DAll.op' (sp_castB h23 (sp_move rfl rfl)) trivial rfl (From.ok (ps := []) trivial) (DAll.op' (sp_move rfl rfl) ⟨_, rfl, rfl⟩ rfl (From.ok (ps := []) trivial) (DAll.op' (sp_move rfl rfl) ⟨_, rfl, rfl⟩ rfl (From.ok (ps := []) trivial) (DAll.op' (sp_indexA (len := 5) rfl isBlk rfl rfl Try.underlying67 vt5 h25) ⟨_, rfl, rfl⟩ rfl (From.ok (ps := [(none, 1)]) ⟨⟨rfl, by kernel_rfl⟩, trivial⟩) (DAll.op' (sp_loadB rfl isBlk rfl vt5 (arr_get (enc := ax_uint8) (j := 0) (fun _ => rfl) rfl (pre := []) (post := []) (xs := ([i20, i21, i22, i23, i24] : List Int)) rfl h27 rfl)) ⟨_, rfl, rfl⟩ rfl (From.ok (ps := [(none, 1)]) ⟨⟨rfl, by kernel_rfl⟩, trivial⟩) (DAll.op' (sp_conv rfl Try.underlying5 Try.underlying3 rfl h28) ⟨_, rfl, rfl⟩ rfl (From.ok (ps := []) trivial) (DAll.op' (sp_rem rfl rfl rfl (by decide)) ⟨_, rfl, rfl⟩ rfl (From.ok (ps := []) trivial) (DAll.op' (sp_add rfl rfl rfl h29) ⟨_, rfl, rfl⟩ rfl (From.ok (ps := []) trivial) (DAll.op' (sp_eql rfl rfl rfl) ⟨_, rfl, rfl⟩ rfl (From.ok (ps := []) trivial) (DAll.op' (sp_pickF rfl rfl rfl) trivial rfl (From.ok (ps := []) trivial) (DAll.op' (sp_assign rfl rfl) trivial rfl (From.ok (ps := []) trivial) (.nil)))))))))))))))))))))))
          refine op0 (sp_assign rfl rfl) rfl trivial rfl rfl ?_
          refine TL.nil ?_
          refine TC.inBlock ?_
          refine TC.region ?_
          refine op0 (sp_move rfl rfl) rfl trivial rfl rfl ?_
          obtain ⟨h30, h⟩ := chk_inv h
          refine op0 (sp_add rfl rfl rfl h30) rfl trivial rfl rfl ?_
          refine op0 (sp_assign rfl rfl) rfl trivial rfl rfl ?_
          refine TL.nil ?_
          refine TC.inLoop ?_
          refine TC.seq ?_
          refine TC.seq ?_
          refine subJ [] (ih _ _ _ h) ?_ ?_ ?_
          · exact ⟨rfl, rfl, rfl, rfl, rfl, rfl, rfl, rfl, rfl, trivial⟩
          · exact ⟨mem_at 0 rfl, mem_at 1 rfl, mem_at 2 rfl, mem_at 3 rfl, mem_at 4 rfl, trivial⟩
          · rfl
    · have h := cond_f h h8
      refine TC.exit rfl ?_
      refine TC.seq ?_
      refine TC.seq ?_
      refine TC.region ?_
      refine op0 (sp_move rfl rfl) rfl trivial rfl rfl ?_
      refine TL.nil ?_
      refine TC.cond (b := b27) rfl (fun h31 => ?_) (fun h31 => ?_)
      · have h := cond_t h h31
        refine TC.region ?_
        refine op1 2 rfl (sp_fieldAddrB rfl isBlk rfl ft70_0 vt50 (by decide)) rfl trivial rfl rfl ?_
        refine op1 2 rfl (sp_loadB rfl isBlk rfl vt50 rfl) rfl trivial rfl rfl ?_
        refine op0 (sp_move rfl rfl) rfl trivial rfl rfl ?_
        refine op0 (sp_buildSlice (qs := [.val (.int .i64 i14)]) (need := []) (els := List.map en_int ([i14] : List Int)) 7 rfl sl50 (by decide) (by decide) rfl rfl rfl (.v (.nil)) (map_len fun _ => rfl) rfl rfl rfl) rfl trivial rfl rfl ?_
        obtain ⟨h32, h⟩ := chk_inv h
        refine appM 4 0 (N := l25.length) (N2 := ([i14] : List Int).length) 8 rfl rfl trivial rfl rfl rfl rfl rfl isOwn rfl sl50 (len_map _ _) (len_map _ _) h32 (map_app _ _ _) rfl ?_
        refine op1 4 rfl (sp_fieldAddrB rfl isBlk rfl ft70_0 vt50 (by decide)) rfl trivial rfl rfl ?_
        refine stoB 4 (cells' := [.ref 8, .ref 6]) rfl rfl trivial rfl rfl rfl rfl vt50 rfl rfl rfl ?_
        refine TL.nil ?_
        refine TC.seq ?_
        refine TC.region ?_
        refine op0 (sp_move rfl rfl) rfl trivial rfl rfl ?_
        refine TL.nil ?_
        refine TC.cond (b := b28) rfl (fun h33 => ?_) (fun h33 => ?_)
        · have h := cond_t h h33
          refine TC.region ?_
          refine op1 4 rfl (sp_fieldAddrB rfl isBlk rfl ft70_1 vt50 (by decide)) rfl trivial rfl rfl ?_
          refine op1 4 rfl (sp_loadB rfl isBlk rfl vt50 rfl) rfl trivial rfl rfl ?_
          refine op0 (sp_move rfl rfl) rfl trivial rfl rfl ?_
          refine op0 (sp_buildSlice (qs := [.val (.int .i64 i14)]) (need := []) (els := List.map en_int ([i14] : List Int)) 9 rfl sl50 (by decide) (by decide) rfl rfl rfl (.v (.nil)) (map_len fun _ => rfl) rfl rfl rfl) rfl trivial rfl rfl ?_
          obtain ⟨h34, h⟩ := chk_inv h
          refine appM 6 0 (N := l26.length) (N2 := ([i14] : List Int).length) 10 rfl rfl trivial rfl rfl rfl rfl rfl isOwn rfl sl50 (len_map _ _) (len_map _ _) h34 (map_app _ _ _) rfl ?_
          refine op1 6 rfl (sp_fieldAddrB rfl isBlk rfl ft70_1 vt50 (by decide)) rfl trivial rfl rfl ?_
          refine stoB 6 (cells' := [.ref 8, .ref 10]) rfl rfl trivial rfl rfl rfl rfl vt50 rfl rfl rfl ?_
          refine TL.nil ?_
          refine TC.inBlock ?_
          refine TC.region ?_
          refine op0 (sp_move rfl rfl) rfl trivial rfl rfl ?_
          obtain ⟨h35, h⟩ := chk_inv h
          refine op0 (sp_add rfl rfl rfl h35) rfl trivial rfl rfl ?_
          refine op0 (sp_assign rfl rfl) rfl trivial rfl rfl ?_
          refine TL.nil ?_
          refine TC.inLoop ?_
          refine TC.seq ?_
          refine TC.seq ?_
          refine subJ [(5, 8), (6, 10)] (hk_top_TopStrikeTrain_l1 _ _ _ _ _ _ _ _ _ _ _ _ _ h) ?_ ?_ ?_
          · exact ⟨rfl, rfl, rfl, rfl, rfl, rfl, trivial⟩
          · exact ⟨mem_at 4 rfl, mem_at 5 rfl, mem_at 2 rfl, mem_at 0 rfl, mem_at 6 rfl, trivial⟩
          · rfl
        · have h := cond_f h h33
          refine TC.skip ?_
          refine TC.inBlock ?_
          refine TC.region ?_
          refine op0 (sp_move rfl rfl) rfl trivial rfl rfl ?_
          obtain ⟨h36, h⟩ := chk_inv h
          refine op0 (sp_add rfl rfl rfl h36) rfl trivial rfl rfl ?_
          refine op0 (sp_assign rfl rfl) rfl trivial rfl rfl ?_
          refine TL.nil ?_
          refine TC.inLoop ?_
          refine TC.seq ?_
          refine TC.seq ?_
          refine subJ [(5, 8)] (hk_top_TopStrikeTrain_l1 _ _ _ _ _ _ _ _ _ _ _ _ _ h) ?_ ?_ ?_
          · exact ⟨rfl, rfl, rfl, rfl, rfl, rfl, trivial⟩
          · exact ⟨mem_at 2 rfl, mem_at 3 rfl, mem_at 0 rfl, mem_at 5 rfl, mem_at 4 rfl, trivial⟩
          · rfl
      · have h := cond_f h h31
        refine TC.skip ?_
        refine TC.seq ?_
        refine TC.region ?_
        refine op0 (sp_move rfl rfl) rfl trivial rfl rfl ?_
        refine TL.nil ?_
        refine TC.cond (b := b28) rfl (fun h37 => ?_) (fun h37 => ?_)
        · have h := cond_t h h37
          refine TC.region ?_
          refine op1 2 rfl (sp_fieldAddrB rfl isBlk rfl ft70_1 vt50 (by decide)) rfl trivial rfl rfl ?_
          refine op1 2 rfl (sp_loadB rfl isBlk rfl vt50 rfl) rfl trivial rfl rfl ?_
          refine op0 (sp_move rfl rfl) rfl trivial rfl rfl ?_
          refine op0 (sp_buildSlice (qs := [.val (.int .i64 i14)]) (need := []) (els := List.map en_int ([i14] : List Int)) 11 rfl sl50 (by decide) (by decide) rfl rfl rfl (.v (.nil)) (map_len fun _ => rfl) rfl rfl rfl) rfl trivial rfl rfl ?_
          obtain ⟨h38, h⟩ := chk_inv h
          refine appM 5 0 (N := l26.length) (N2 := ([i14] : List Int).length) 12 rfl rfl trivial rfl rfl rfl rfl rfl isOwn rfl sl50 (len_map _ _) (len_map _ _) h38 (map_app _ _ _) rfl ?_
          refine op1 4 rfl (sp_fieldAddrB rfl isBlk rfl ft70_1 vt50 (by decide)) rfl trivial rfl rfl ?_
          refine stoB 4 (cells' := [.ref 5, .ref 12]) rfl rfl trivial rfl rfl rfl rfl vt50 rfl rfl rfl ?_
          refine TL.nil ?_
          refine TC.inBlock ?_
          refine TC.region ?_
          refine op0 (sp_move rfl rfl) rfl trivial rfl rfl ?_
          obtain ⟨h39, h⟩ := chk_inv h
          refine op0 (sp_add rfl rfl rfl h39) rfl trivial rfl rfl ?_
          refine op0 (sp_assign rfl rfl) rfl trivial rfl rfl ?_
          refine TL.nil ?_
          refine TC.inLoop ?_
          refine TC.seq ?_
          refine TC.seq ?_
          refine subJ [(6, 12)] (hk_top_TopStrikeTrain_l1 _ _ _ _ _ _ _ _ _ _ _ _ _ h) ?_ ?_ ?_
          · exact ⟨rfl, rfl, rfl, rfl, rfl, rfl, trivial⟩
          · exact ⟨mem_at 2 rfl, mem_at 3 rfl, mem_at 5 rfl, mem_at 0 rfl, mem_at 4 rfl, trivial⟩
          · rfl
        · have h := cond_f h h37
          refine TC.skip ?_
          refine TC.inBlock ?_
          refine TC.region ?_
          refine op0 (sp_move rfl rfl) rfl trivial rfl rfl ?_
          obtain ⟨h40, h⟩ := chk_inv h
          refine op0 (sp_add rfl rfl rfl h40) rfl trivial rfl rfl ?_
          refine op0 (sp_assign rfl rfl) rfl trivial rfl rfl ?_
          refine TL.nil ?_
          refine TC.inLoop ?_
          refine TC.seq ?_
          refine TC.seq ?_
          refine subJ [] (hk_top_TopStrikeTrain_l1 _ _ _ _ _ _ _ _ _ _ _ _ _ h) ?_ ?_ ?_
          · exact ⟨rfl, rfl, rfl, rfl, rfl, rfl, trivial⟩
          · exact ⟨mem_at 0 rfl, mem_at 1 rfl, mem_at 3 rfl, mem_at 4 rfl, mem_at 2 rfl, trivial⟩
          · rfl
def ev_top_TopStrikeTrain_l5 (n : Nat) (i38 : Int) (pins11 : Int) (r13 : Int × Int) (k_top_TopStrikeTrain_l3 : Int → (List ((List Int) × (List Int))) → Option Bool) : Nat → Int → (List ((List Int) × (List Int))) → (List (Int × Int)) → Option Bool
  | 0, _, _, _ => none
  | m + 1, i41, l42, l43 => idx l42 i38 fun x44 => cond (decide (i41 < (x44.1.length : Int))) (idx x44.1 i41 fun x45 => chk (in64 ((x44.2.length : Int) - 1)) <| chk (in64 (((x44.2.length : Int) - 1) - i41)) <| idx x44.2 (((x44.2.length : Int) - 1) - i41) fun x46 => chk (room 16 (l43.length + ([(x45, x46)] : List (Int × Int)).length)) <| chk (in64 (i41 + 1)) <| ev_top_TopStrikeTrain_l5 n i38 pins11 r13 k_top_TopStrikeTrain_l3 m (i41 + 1) l42 (l43 ++ ([(x45, x46)] : List (Int × Int)))) ((ev_train_Turns n l43).bind fun r47 => (ev_train_Cycle n l43).bind fun r48 => cond (r47.2.2.2 != 0) (some false) (cond (r48.2 != 0) (some false) (cond (decide (r47.2.1 < 1)) (some false) (chk (in64 (r47.1 * 2)) <| chk (in64 ((r47.1 * 2) * ((4 : Int) + (Int.tmod pins11 10)))) <| chk (in64 (r47.2.1 * r13.1)) <| cond (((r47.1 * 2) * ((4 : Int) + (Int.tmod pins11 10))) != (r47.2.1 * r13.1)) (some false) (cond (decide (r48.1 < 1)) (some false) (chk (in64 (r48.1 * r47.1)) <| chk (r47.2.1 != 0) <| cond ((Int.tmod (r48.1 * r47.1) r47.2.1) != 0) (some false) (chk (in64 (i38 + 1)) <| k_top_TopStrikeTrain_l3 (i38 + 1) l42)))))))
set_option maxRecDepth 100000 in
set_option maxHeartbeats 2000000 in
theorem ok_top_TopStrikeTrain_l5 {n : Nat} {w0 : World} {R0 : Nat → Prop} {env0 : Env} {r : Bool} {r13 : Int × Int} {pins11 : Int} {i38 : Int} {k_top_TopStrikeTrain_l3 : Int → (List ((List Int) × (List Int))) → Option Bool} (hk_top_TopStrikeTrain_l3 : ∀ (i38 : Int) (l39 : List ((List Int) × (List Int))), k_top_TopStrikeTrain_l3 i38 l39 = some r → TC Try.prog ⟨w0, fun _ => False, R0⟩ 256 (bodyPost Try.prog Try.f6 (Post ⟨w0, fun _ => False, R0⟩ env0 (.val (.bool r)) [])) [.code (sub (bodyOf Try.f6) [1, 1, 1, 1, 1, 1, 1, 1, 1, 0, 1, 0, 0, 0, 0]), .code (sub (bodyOf Try.f6) [1, 1, 1, 1, 1, 1, 1, 1, 1, 0, 1, 0, 0, 0, 1]), .code (sub (bodyOf Try.f6) [1, 1, 1, 1, 1, 1, 1, 1, 1, 0, 1, 0, 0, 1]), .inLoop (sub (bodyOf Try.f6) [1, 1, 1, 1, 1, 1, 1, 1, 1, 0, 1, 0, 0]), .inBlock 4, .code (sub (bodyOf Try.f6) [1, 1, 1, 1, 1, 1, 1, 1, 1, 1])] ([(9, .val (.int .i64 r13.1)), (11, .val (.int .i64 ((4 : Int) + (Int.tmod pins11 10)))), (17, .ref 13), (18, .val (.int .i64 i38))]) ([.row 13 74 2 (List.map en_api_Train l39)])) : ∀ (m : Nat) (i41 : Int) (l42 : List ((List Int) × (List Int))) (l43 : List (Int × Int)), ev_top_TopStrikeTrain_l5 n i38 pins11 r13 k_top_TopStrikeTrain_l3 m i41 l42 l43 = some r → TC Try.prog ⟨w0, fun _ => False, R0⟩ 256 (bodyPost Try.prog Try.f6 (Post ⟨w0, fun _ => False, R0⟩ env0 (.val (.bool r)) [])) [.code (sub (bodyOf Try.f6) [1, 1, 1, 1, 1, 1, 1, 1, 1, 0, 1, 0, 0, 1, 0, 0, 1, 1, 0, 1, 0, 0, 0, 0]), .code (sub (bodyOf Try.f6) [1, 1, 1, 1, 1, 1, 1, 1, 1, 0, 1, 0, 0, 1, 0, 0, 1, 1, 0, 1, 0, 0, 0, 1]), .code (sub (bodyOf Try.f6) [1, 1, 1, 1, 1, 1, 1, 1, 1, 0, 1, 0, 0, 1, 0, 0, 1, 1, 0, 1, 0, 0, 1]), .inLoop (sub (bodyOf Try.f6) [1, 1, 1, 1, 1, 1, 1, 1, 1, 0, 1, 0, 0, 1, 0, 0, 1, 1, 0, 1, 0, 0]), .inBlock 6, .code (sub (bodyOf Try.f6) [1, 1, 1, 1, 1, 1, 1, 1, 1, 0, 1, 0, 0, 1, 0, 0, 1, 1, 1]), .inBlock 5, .code (sub (bodyOf Try.f6) [1, 1, 1, 1, 1, 1, 1, 1, 1, 0, 1, 0, 0, 1, 1]), .inLoop (sub (bodyOf Try.f6) [1, 1, 1, 1, 1, 1, 1, 1, 1, 0, 1, 0, 0]), .inBlock 4, .code (sub (bodyOf Try.f6) [1, 1, 1, 1, 1, 1, 1, 1, 1, 1])] ([(9, .val (.int .i64 r13.1)), (11, .val (.int .i64 ((4 : Int) + (Int.tmod pins11 10)))), (17, .ref 13), (18, .val (.int .i64 i38)), (19, .ref 18), (20, .val (.int .i64 i41))]) ([.row 13 74 2 (List.map en_api_Train l42), .row 18 61 2 (List.map en_api_TrainPair l43)]) := by
  intro m
  induction m with
  | zero => intro i41 l42 l43 h; exact none_no h
  | succ m ih =>
    intro i41 l42 l43 h
    rw [ev_top_TopStrikeTrain_l5] at h
    refine TC.region ?_
    refine op0 (sp_move rfl rfl) rfl trivial rfl rfl ?_
    refine op0 (sp_move rfl rfl) rfl trivial rfl rfl ?_
    refine op0 (sp_move rfl rfl) rfl trivial rfl rfl ?_
    obtain ⟨x44, h60, h61, h⟩ := idx_inv h
    refine op1 0 rfl (sp_indexS rfl rfl rfl isOwn sl71 h60 (map_get _ h61)) rfl trivial rfl rfl ?_
    refine op1 0 rfl (sp_fieldAddrR (i := (i38 : Int).toNat) rfl rfl isOwn ft74_0 vt50 (by decide) (map_get _ h61) (fun h => nomatch h)) rfl trivial rfl rfl ?_
    refine op1 0 rfl (sp_loadR (i := (i38 : Int).toNat) (j := 0) (ns := [.ro 19 1 (List.map en_int x44.1)]) rfl rfl isOwn vt50 rfl (map_get _ h61) rfl (.s (.nil)) (nodup_of_B rfl)) rfl trivial rfl rfl ?_
    refine op1 0 rfl (sp_lenM (N := x44.1.length) (len_map _ _) rfl rfl isRo Try.underlying50) rfl trivial rfl rfl ?_
    refine op0 (sp_lss rfl rfl rfl) rfl trivial rfl rfl ?_
    refine TL.nil ?_
    refine TC.cond (b := (decide (i41 < (x44.1.length : Int)))) rfl (fun h62 => ?_) (fun h62 => ?_)
    · have h := cond_t h h62
      refine TC.skip ?_
      refine TC.seq ?_
      refine TC.block ?_
      obtain ⟨x45, h63, h64, h⟩ := idx_inv h
      obtain ⟨h65, h⟩ := chk_inv h
      obtain ⟨h66, h⟩ := chk_inv h
      obtain ⟨x46, h67, h68, h⟩ := idx_inv h
      refine drawJ 27 [⟨.ref 18, [], [], []⟩, ⟨.ref 13, [], [], []⟩, ⟨.val (.int .i64 i38), [], [], []⟩, ⟨.cell 13 ((i38 : Int).toNat * 2), [], [.row 13 74 2 (List.map en_api_Train l42)], []⟩, ⟨.cell 13 ((i38 : Int).toNat * 2 + 0), [], [.row 13 74 2 (List.map en_api_Train l42)], []⟩, ⟨.ref 20, [.ro 20 1 (List.map en_int x44.1)], [.row 13 74 2 (List.map en_api_Train l42)], []⟩, ⟨.val (.int .i64 i41), [], [], []⟩, ⟨.cell 20 ((i41 : Int).toNat * 1), [], [.ro 20 1 (List.map en_int x44.1)], []⟩, ⟨.val (.int .i64 x45), [], [.ro 20 1 (List.map en_int x44.1)], []⟩, ⟨.ref 13, [], [], []⟩, ⟨.val (.int .i64 i38), [], [], []⟩, ⟨.cell 13 ((i38 : Int).toNat * 2), [], [.row 13 74 2 (List.map en_api_Train l42)], []⟩, ⟨.cell 13 ((i38 : Int).toNat * 2 + 1), [], [.row 13 74 2 (List.map en_api_Train l42)], []⟩, ⟨.ref 21, [.ro 21 1 (List.map en_int x44.2)], [.row 13 74 2 (List.map en_api_Train l42)], []⟩, ⟨.ref 13, [], [], []⟩, ⟨.val (.int .i64 i38), [], [], []⟩, ⟨.cell 13 ((i38 : Int).toNat * 2), [], [.row 13 74 2 (List.map en_api_Train l42)], []⟩, ⟨.cell 13 ((i38 : Int).toNat * 2 + 1), [], [.row 13 74 2 (List.map en_api_Train l42)], []⟩, ⟨.ref 22, [.ro 22 1 (List.map en_int x44.2)], [.row 13 74 2 (List.map en_api_Train l42)], []⟩, ⟨.val (.int .i64 (x44.2.length : Int)), [], [.ro 22 1 (List.map en_int x44.2)], []⟩, ⟨.val (.int .i64 ((x44.2.length : Int) - 1)), [], [], []⟩, ⟨.val (.int .i64 i41), [], [], []⟩, ⟨.val (.int .i64 (((x44.2.length : Int) - 1) - i41)), [], [], []⟩, ⟨.cell 21 (((((x44.2.length : Int) - 1) - i41) : Int).toNat * 1), [], [.ro 21 1 (List.map en_int x44.2)], []⟩, ⟨.val (.int .i64 x46), [], [.ro 21 1 (List.map en_int x44.2)], []⟩, ⟨.agg [.val (.int .i64 x45), .val (.int .i64 x46)], [], [], []⟩, ⟨.ref 23, [.row 23 61 2 (List.map en_api_TrainPair ([(x45, x46)] : List (Int × Int)))], [], []⟩] rfl ?_ rfl ?_ rfl ?_ ?_
      · kernel_rfl
      · kernel_rfl
      · exact DAll.op' (sp_move rfl rfl) trivial rfl (From.ok (ps := []) trivial) (DAll.op' (sp_move rfl rfl) trivial rfl (From.ok (ps := []) trivial) (DAll.op' (sp_move rfl rfl) trivial rfl (From.ok (ps := []) trivial) (DAll.op' (sp_indexS rfl rfl rfl isOwn sl71 h60 (map_get _ h61)) trivial rfl (From.ok (ps := [(none, 1)]) ⟨⟨rfl, by kernel_rfl⟩, trivial⟩) (DAll.op' (sp_fieldAddrR (i := (i38 : Int).toNat) rfl rfl isOwn ft74_0 vt50 (by decide) (map_get _ h61) (fun h => nomatch h)) trivial rfl (From.ok (ps := [(none, 1)]) ⟨⟨rfl, by kernel_rfl⟩, trivial⟩) (DAll.op' (sp_loadR (i := (i38 : Int).toNat) (j := 0) (ns := [.ro 20 1 (List.map en_int x44.1)]) rfl rfl isOwn vt50 rfl (map_get _ h61) rfl (.s (.nil)) (nodup_of_B rfl)) trivial rfl (From.ok (ps := [(none, 1)]) ⟨⟨rfl, by kernel_rfl⟩, trivial⟩) (DAll.op' (sp_move rfl rfl) trivial rfl (From.ok (ps := []) trivial) (DAll.op' (sp_indexS rfl rfl rfl isRo sl50 h63 (map_get _ h64)) trivial rfl (From.ok (ps := [(some 5, 0)]) ⟨⟨_, rfl, by kernel_rfl, rfl, by kernel_rfl⟩, trivial⟩) (DAll.op' (sp_loadR (i := (i41 : Int).toNat) (j := 0) rfl rfl isRo vt3 rfl (map_get _ h64) rfl (.v (.nil)) (nodup_of_B rfl)) trivial rfl (From.ok (ps := [(some 5, 0)]) ⟨⟨_, rfl, by kernel_rfl, rfl, by kernel_rfl⟩, trivial⟩) (DAll.op' (sp_move rfl rfl) trivial rfl (From.ok (ps := []) trivial) (DAll.op' (sp_move rfl rfl) trivial rfl (From.ok (ps := []) trivial) (DAll.op' (sp_indexS rfl rfl rfl isOwn sl71 h60 (map_get _ h61)) trivial rfl (From.ok (ps := [(none, 1)]) ⟨⟨rfl, by kernel_rfl⟩, trivial⟩) (DAll.op' (sp_fieldAddrR (i := (i38 : Int).toNat) rfl rfl isOwn ft74_1 vt50 (by decide) (map_get _ h61) (fun h => nomatch h)) trivial rfl (From.ok (ps := [(none, 1)]) ⟨⟨rfl, by kernel_rfl⟩, trivial⟩) (DAll.op' (sp_loadR (i := (i38 : Int).toNat) (j := 1) (ns := [.ro 21 1 (List.map en_int x44.2)]) rfl rfl isOwn vt50 rfl (map_get _ h61) rfl (.s (.nil)) (nodup_of_B rfl)) trivial rfl (From.ok (ps := [(none, 1)]) ⟨⟨rfl, by kernel_rfl⟩, trivial⟩) (DAll.op' (sp_move rfl rfl) trivial rfl (From.ok (ps := []) trivial) (DAll.op' (sp_move rfl rfl) trivial rfl (From.ok (ps := []) trivial) (DAll.op' (sp_indexS rfl rfl rfl isOwn sl71 h60 (map_get _ h61)) trivial rfl (From.ok (ps := [(none, 1)]) ⟨⟨rfl, by kernel_rfl⟩, trivial⟩) (DAll.op' (sp_fieldAddrR (i := (i38 : Int).toNat) rfl rfl isOwn ft74_1 vt50 (by decide) (map_get _ h61) (fun h => nomatch h)) trivial rfl (From.ok (ps := [(none, 1)]) ⟨⟨rfl, by kernel_rfl⟩, trivial⟩) (DAll.op' (sp_loadR (i := (i38 : Int).toNat) (j := 1) (ns := [.ro 22 1 (List.map en_int x44.2)]) rfl rfl isOwn vt50 rfl (map_get _ h61) rfl (.s (.nil)) (nodup_of_B rfl)) trivial rfl (From.ok (ps := [(none, 1)]) ⟨⟨rfl, by kernel_rfl⟩, trivial⟩) (DAll.op' (sp_lenM (N := x44.2.length) (len_map _ _) rfl rfl isRo Try.underlying50) trivial rfl (From.ok (ps := [(some 18, 0)]) ⟨⟨_, rfl, by kernel_rfl, rfl, by kernel_rfl⟩, trivial⟩) (DAll.op' (sp_sub rfl rfl rfl h65) trivial rfl (From.ok (ps := []) trivial) (DAll.op' (sp_move rfl rfl) trivial rfl (From.ok (ps := []) trivial) (DAll.op' (sp_sub rfl rfl rfl h66) trivial rfl (From.ok (ps := []) trivial) (DAll.op' (sp_indexS rfl rfl rfl isRo sl50 h67 (map_get _ h68)) trivial rfl (From.ok (ps := [(some 13, 0)]) ⟨⟨_, rfl, by kernel_rfl, rfl, by kernel_rfl⟩, trivial⟩) (DAll.op' (sp_loadR (i := ((((x44.2.length : Int) - 1) - i41) : Int).toNat) (j := 0) rfl rfl isRo vt3 rfl (map_get _ h68) rfl (.v (.nil)) (nodup_of_B rfl)) trivial rfl (From.ok (ps := [(some 13, 0)]) ⟨⟨_, rfl, by kernel_rfl, rfl, by kernel_rfl⟩, trivial⟩) (DAll.op' (sp_build (qs := [(0, .val (.int .i64 x45)), (1, .val (.int .i64 x46))]) rfl bt61 rfl rfl rfl rfl) trivial rfl (From.ok (ps := []) trivial) (DAll.op' (sp_buildSlice (qs := [.agg [.val (.int .i64 x45), .val (.int .i64 x46)]]) (need := []) (els := List.map en_api_TrainPair ([(x45, x46)] : List (Int × Int))) 23 rfl sl23 (by decide) (by decide) rfl rfl rfl (.v (.v (.nil))) (map_len fun _ => rfl) rfl rfl rfl) trivial rfl (From.ok (ps := []) trivial) (.nil)))))))))))))))))))))))))))
      obtain ⟨h69, h⟩ := chk_inv h
      refine appM 6 0 (N := l43.length) (N2 := ([(x45, x46)] : List (Int × Int)).length) 24 rfl rfl trivial rfl rfl rfl rfl rfl isOwn rfl sl23 (len_map _ _) (len_map _ _) h69 (map_app _ _ _) rfl ?_
      refine op0 (sp_assign rfl rfl) rfl trivial rfl rfl ?_
      refine TL.nil ?_
      refine TC.inBlock ?_
      refine TC.region ?_
      refine op0 (sp_move rfl rfl) rfl trivial rfl rfl ?_
      obtain ⟨h70, h⟩ := chk_inv h
      refine op0 (sp_add rfl rfl rfl h70) rfl trivial rfl rfl ?_
      refine op0 (sp_assign rfl rfl) rfl trivial rfl rfl ?_
      refine TL.nil ?_
      refine TC.inLoop ?_
      refine TC.seq ?_
      refine TC.seq ?_
      refine subJ [(18, 24)] (ih _ _ _ h) ?_ ?_ ?_
      · exact ⟨rfl, rfl, rfl, rfl, rfl, rfl, trivial⟩
      · exact ⟨mem_at 6 rfl, mem_at 0 rfl, trivial⟩
      · rfl
    · have h := cond_f h h62
      refine TC.exit rfl ?_
      refine TC.seq ?_
      refine TC.region ?_
      refine op0 (sp_move rfl rfl) rfl trivial rfl rfl ?_
      obtain ⟨r47, h71, h⟩ := bind_inv h
      refine op1 2 rfl (sp_call (avs := [.ref 18]) (need := [.row 18 61 2 (List.map en_api_TrainPair l43)]) (v := .tup [.agg [.val (.int .i64 r47.1), .val (.int .i64 r47.2.1)], .val (.bool r47.2.2.1), .val (.int .i64 r47.2.2.2)]) (news := []) rfl rfl rfl Try.call16 (atJ [(0, 18)] [] (fc_train_Turns h71) rfl rfl) (.inr (fun x hx => nomatch hx))) rfl trivial rfl rfl ?_
      refine op0 (sp_move rfl rfl) rfl trivial rfl rfl ?_
      refine op0 (sp_extract rfl rfl rfl) rfl trivial rfl rfl ?_
      refine op0 (sp_extract rfl rfl rfl) rfl trivial rfl rfl ?_
      refine op0 (sp_extract rfl rfl rfl) rfl trivial rfl rfl ?_
      refine op0 (sp_alloc 25 rfl Try.zeroValue26 rfl) rfl trivial rfl rfl ?_
      refine stoB 0 (cells' := [.val (.int .i64 r47.1), .val (.int .i64 r47.2.1)]) rfl rfl trivial rfl rfl rfl rfl vt26 rfl rfl rfl ?_
      refine op0 (sp_assign rfl rfl) rfl trivial rfl rfl ?_
      refine op0 (sp_assign rfl rfl) rfl trivial rfl rfl ?_
      refine TL.nil ?_
      refine TC.seq ?_
      refine TC.region ?_
      refine op0 (sp_move rfl rfl) rfl trivial rfl rfl ?_
      obtain ⟨r48, h72, h⟩ := bind_inv h
      refine op1 3 rfl (sp_call (avs := [.ref 18]) (need := [.row 18 61 2 (List.map en_api_TrainPair l43)]) (v := .tup [.val (.int .i64 r48.1), .val (.int .i64 r48.2)]) (news := []) rfl rfl rfl Try.call17 (atJ [(0, 18)] [] (fc_train_Cycle h72) rfl rfl) (.inr (fun x hx => nomatch hx))) rfl trivial rfl rfl ?_
      refine op0 (sp_move rfl rfl) rfl trivial rfl rfl ?_
      refine op0 (sp_extract rfl rfl rfl) rfl trivial rfl rfl ?_
      refine op0 (sp_extract rfl rfl rfl) rfl trivial rfl rfl ?_
      refine op0 (sp_assign rfl rfl) rfl trivial rfl rfl ?_
      refine op0 (sp_assign rfl rfl) rfl trivial rfl rfl ?_
      refine TL.nil ?_
      refine TC.seq ?_
      refine TC.region ?_
      refine op0 (sp_move rfl rfl) rfl trivial rfl rfl ?_
      refine op0 (sp_neq rfl rfl rfl) rfl trivial rfl rfl ?_
      refine op0 (sp_move rfl rfl) rfl trivial rfl rfl ?_
      rcases cond_cases h with ⟨h73, h⟩ | ⟨h73, h⟩
      · refine (boolLit 212 rfl h73).2 ?_
        refine opSkip rfl ⟨_, rfl, .inl rfl⟩ rfl ?_
        refine opSkip rfl ⟨_, rfl, .inl rfl⟩ rfl ?_
        refine op0 (sp_pickT rfl rfl rfl) rfl trivial rfl rfl ?_
        refine op0 (sp_move rfl rfl) rfl trivial rfl rfl ?_
        refine opSkip rfl ⟨_, rfl, .inl rfl⟩ rfl ?_
        refine opSkip rfl ⟨_, rfl, .inl rfl⟩ rfl ?_
        refine opSkip rfl ⟨_, rfl, .inl rfl⟩ rfl ?_
        refine op0 (sp_pickT rfl rfl rfl) rfl trivial rfl rfl ?_
        refine op0 (sp_move rfl rfl) rfl trivial rfl rfl ?_
        refine opSkip rfl ⟨_, rfl, .inl rfl⟩ rfl ?_
        refine opSkip rfl ⟨_, rfl, .inl rfl⟩ rfl ?_
        refine opSkip rfl ⟨_, rfl, .inl rfl⟩ rfl ?_
        refine opSkip rfl ⟨_, rfl, .inl rfl⟩ rfl ?_
        refine opSkip rfl ⟨_, rfl, .inl rfl⟩ rfl ?_
        refine opSkip rfl ⟨_, rfl, .inl rfl⟩ rfl ?_
        refine opSkip rfl ⟨_, rfl, .inl rfl⟩ rfl ?_
        refine opSkip rfl ⟨_, rfl, .inl rfl⟩ rfl ?_
        refine opSkip rfl ⟨_, rfl, .inl rfl⟩ rfl ?_
        refine opSkip rfl ⟨_, rfl, .inl rfl⟩ rfl ?_
        refine op0 (sp_pickT rfl rfl rfl) rfl trivial rfl rfl ?_
        refine op0 (sp_move rfl rfl) rfl trivial rfl rfl ?_
        refine opSkip rfl ⟨_, rfl, .inl rfl⟩ rfl ?_
        refine opSkip rfl ⟨_, rfl, .inl rfl⟩ rfl ?_
        refine op0 (sp_pickT rfl rfl rfl) rfl trivial rfl rfl ?_
        refine op0 (sp_move rfl rfl) rfl trivial rfl rfl ?_
        refine opSkip rfl ⟨_, rfl, .inl rfl⟩ rfl ?_
        refine opSkip rfl ⟨_, rfl, .inl rfl⟩ rfl ?_
        refine opSkip rfl ⟨_, rfl, .inl rfl⟩ rfl ?_
        refine opSkip rfl ⟨_, rfl, .inl rfl⟩ rfl ?_
        refine opSkip rfl ⟨_, rfl, .inl rfl⟩ rfl ?_
        refine opSkip rfl ⟨_, rfl, .inl rfl⟩ rfl ?_
        refine opSkip rfl ⟨_, rfl, .inl rfl⟩ rfl ?_
        refine opSkip rfl ⟨_, rfl, .inl rfl⟩ rfl ?_
        refine op0 (sp_pickT rfl rfl rfl) rfl trivial rfl rfl ?_
        refine TL.nil ?_
        refine TC.condT rfl ?_
        refine TC.seq ?_
        refine TC.region ?_
        refine op0 (sp_assign rfl rfl) rfl trivial rfl rfl ?_
        refine TL.nil ?_
        cases h
        exact retJ [] (.tmp rfl .nil) rfl trivial rfl rfl
      · refine (boolLit 212 rfl h73).2 ?_
        refine op0 (sp_move rfl rfl) rfl ⟨_, rfl, rfl⟩ rfl rfl ?_
        refine op0 (sp_neq rfl rfl rfl) rfl ⟨_, rfl, rfl⟩ rfl rfl ?_
        refine op0 (sp_pickF rfl rfl rfl) rfl trivial rfl rfl ?_
        refine op0 (sp_move rfl rfl) rfl trivial rfl rfl ?_
        rcases cond_cases h with ⟨h74, h⟩ | ⟨h74, h⟩
        · refine (boolLit 216 rfl h74).2 ?_
          refine opSkip rfl ⟨_, rfl, .inl rfl⟩ rfl ?_
          refine opSkip rfl ⟨_, rfl, .inl rfl⟩ rfl ?_
          refine opSkip rfl ⟨_, rfl, .inl rfl⟩ rfl ?_
          refine op0 (sp_pickT rfl rfl rfl) rfl trivial rfl rfl ?_
          refine op0 (sp_move rfl rfl) rfl trivial rfl rfl ?_
          refine opSkip rfl ⟨_, rfl, .inl rfl⟩ rfl ?_
          refine opSkip rfl ⟨_, rfl, .inl rfl⟩ rfl ?_
          refine opSkip rfl ⟨_, rfl, .inl rfl⟩ rfl ?_
          refine opSkip rfl ⟨_, rfl, .inl rfl⟩ rfl ?_
          refine opSkip rfl ⟨_, rfl, .inl rfl⟩ rfl ?_
          refine opSkip rfl ⟨_, rfl, .inl rfl⟩ rfl ?_
          refine opSkip rfl ⟨_, rfl, .inl rfl⟩ rfl ?_
          refine opSkip rfl ⟨_, rfl, .inl rfl⟩ rfl ?_
          refine opSkip rfl ⟨_, rfl, .inl rfl⟩ rfl ?_
          refine opSkip rfl ⟨_, rfl, .inl rfl⟩ rfl ?_
          refine op0 (sp_pickT rfl rfl rfl) rfl trivial rfl rfl ?_
          refine op0 (sp_move rfl rfl) rfl trivial rfl rfl ?_
          refine opSkip rfl ⟨_, rfl, .inl rfl⟩ rfl ?_
          refine opSkip rfl ⟨_, rfl, .inl rfl⟩ rfl ?_
          refine op0 (sp_pickT rfl rfl rfl) rfl trivial rfl rfl ?_
          refine op0 (sp_move rfl rfl) rfl trivial rfl rfl ?_
          refine opSkip rfl ⟨_, rfl, .inl rfl⟩ rfl ?_
          refine opSkip rfl ⟨_, rfl, .inl rfl⟩ rfl ?_
          refine opSkip rfl ⟨_, rfl, .inl rfl⟩ rfl ?_
          refine opSkip rfl ⟨_, rfl, .inl rfl⟩ rfl ?_
          refine opSkip rfl ⟨_, rfl, .inl rfl⟩ rfl ?_
          refine opSkip rfl ⟨_, rfl, .inl rfl⟩ rfl ?_
          refine opSkip rfl ⟨_, rfl, .inl rfl⟩ rfl ?_
          refine opSkip rfl ⟨_, rfl, .inl rfl⟩ rfl ?_
          refine op0 (sp_pickT rfl rfl rfl) rfl trivial rfl rfl ?_
          refine TL.nil ?_
          refine TC.condT rfl ?_
          refine TC.seq ?_
          refine TC.region ?_
          refine op0 (sp_assign rfl rfl) rfl trivial rfl rfl ?_
          refine TL.nil ?_
          cases h
          exact retJ [] (.tmp rfl .nil) rfl trivial rfl rfl
        · refine (boolLit 216 rfl h74).2 ?_
          refine op1 0 rfl (sp_fieldAddrB rfl isBlk rfl ft26_1 vt3 (by decide)) rfl ⟨_, rfl, rfl⟩ rfl rfl ?_
          refine op1 0 rfl (sp_loadB rfl isBlk rfl vt3 rfl) rfl ⟨_, rfl, rfl⟩ rfl rfl ?_
          refine op0 (sp_lss rfl rfl rfl) rfl ⟨_, rfl, rfl⟩ rfl rfl ?_
          refine op0 (sp_pickF rfl rfl rfl) rfl trivial rfl rfl ?_
          refine op0 (sp_move rfl rfl) rfl trivial rfl rfl ?_
          rcases cond_cases h with ⟨h75, h⟩ | ⟨h75, h⟩
          · refine (boolLit 221 rfl h75).2 ?_
            refine opSkip rfl ⟨_, rfl, .inl rfl⟩ rfl ?_
            refine opSkip rfl ⟨_, rfl, .inl rfl⟩ rfl ?_
            refine opSkip rfl ⟨_, rfl, .inl rfl⟩ rfl ?_
            refine opSkip rfl ⟨_, rfl, .inl rfl⟩ rfl ?_
            refine opSkip rfl ⟨_, rfl, .inl rfl⟩ rfl ?_
            refine opSkip rfl ⟨_, rfl, .inl rfl⟩ rfl ?_
            refine opSkip rfl ⟨_, rfl, .inl rfl⟩ rfl ?_
            refine opSkip rfl ⟨_, rfl, .inl rfl⟩ rfl ?_
            refine opSkip rfl ⟨_, rfl, .inl rfl⟩ rfl ?_
            refine opSkip rfl ⟨_, rfl, .inl rfl⟩ rfl ?_
            refine op0 (sp_pickT rfl rfl rfl) rfl trivial rfl rfl ?_
            refine op0 (sp_move rfl rfl) rfl trivial rfl rfl ?_
            refine opSkip rfl ⟨_, rfl, .inl rfl⟩ rfl ?_
            refine opSkip rfl ⟨_, rfl, .inl rfl⟩ rfl ?_
            refine op0 (sp_pickT rfl rfl rfl) rfl trivial rfl rfl ?_
            refine op0 (sp_move rfl rfl) rfl trivial rfl rfl ?_
            refine opSkip rfl ⟨_, rfl, .inl rfl⟩ rfl ?_
            refine opSkip rfl ⟨_, rfl, .inl rfl⟩ rfl ?_
            refine opSkip rfl ⟨_, rfl, .inl rfl⟩ rfl ?_
            refine opSkip rfl ⟨_, rfl, .inl rfl⟩ rfl ?_
            refine opSkip rfl ⟨_, rfl, .inl rfl⟩ rfl ?_
            refine opSkip rfl ⟨_, rfl, .inl rfl⟩ rfl ?_
            refine opSkip rfl ⟨_, rfl, .inl rfl⟩ rfl ?_
            refine opSkip rfl ⟨_, rfl, .inl rfl⟩ rfl ?_
            refine op0 (sp_pickT rfl rfl rfl) rfl trivial rfl rfl ?_
            refine TL.nil ?_
            refine TC.condT rfl ?_
            refine TC.seq ?_
            refine TC.region ?_
            refine op0 (sp_assign rfl rfl) rfl trivial rfl rfl ?_
            refine TL.nil ?_
            cases h
            exact retJ [] (.tmp rfl .nil) rfl trivial rfl rfl
          · refine (boolLit 221 rfl h75).2 ?_
            refine op1 0 rfl (sp_fieldAddrB rfl isBlk rfl ft26_0 vt3 (by decide)) rfl ⟨_, rfl, rfl⟩ rfl rfl ?_
            refine op1 0 rfl (sp_loadB rfl isBlk rfl vt3 rfl) rfl ⟨_, rfl, rfl⟩ rfl rfl ?_
            obtain ⟨h76, h⟩ := chk_inv h
            refine op0 (sp_mul rfl rfl rfl h76) rfl ⟨_, rfl, rfl⟩ rfl rfl ?_
            refine op0 (sp_move rfl rfl) rfl ⟨_, rfl, rfl⟩ rfl rfl ?_
            obtain ⟨h77, h⟩ := chk_inv h
            refine op0 (sp_mul rfl rfl rfl h77) rfl ⟨_, rfl, rfl⟩ rfl rfl ?_
            refine op1 0 rfl (sp_fieldAddrB rfl isBlk rfl ft26_1 vt3 (by decide)) rfl ⟨_, rfl, rfl⟩ rfl rfl ?_
            refine op1 0 rfl (sp_loadB rfl isBlk rfl vt3 rfl) rfl ⟨_, rfl, rfl⟩ rfl rfl ?_
            refine op0 (sp_move rfl rfl) rfl ⟨_, rfl, rfl⟩ rfl rfl ?_
            obtain ⟨h78, h⟩ := chk_inv h
            refine op0 (sp_mul rfl rfl rfl h78) rfl ⟨_, rfl, rfl⟩ rfl rfl ?_
            refine op0 (sp_neq rfl rfl rfl) rfl ⟨_, rfl, rfl⟩ rfl rfl ?_
            refine op0 (sp_pickF rfl rfl rfl) rfl trivial rfl rfl ?_
            refine op0 (sp_move rfl rfl) rfl trivial rfl rfl ?_
            rcases cond_cases h with ⟨h79, h⟩ | ⟨h79, h⟩
            · refine (boolLit 233 rfl h79).2 ?_
              refine opSkip rfl ⟨_, rfl, .inl rfl⟩ rfl ?_
              refine opSkip rfl ⟨_, rfl, .inl rfl⟩ rfl ?_
              refine op0 (sp_pickT rfl rfl rfl) rfl trivial rfl rfl ?_
              refine op0 (sp_move rfl rfl) rfl trivial rfl rfl ?_
              refine opSkip rfl ⟨_, rfl, .inl rfl⟩ rfl ?_
              refine opSkip rfl ⟨_, rfl, .inl rfl⟩ rfl ?_
              refine opSkip rfl ⟨_, rfl, .inl rfl⟩ rfl ?_
              refine opSkip rfl ⟨_, rfl, .inl rfl⟩ rfl ?_
              refine opSkip rfl ⟨_, rfl, .inl rfl⟩ rfl ?_
              refine opSkip rfl ⟨_, rfl, .inl rfl⟩ rfl ?_
              refine opSkip rfl ⟨_, rfl, .inl rfl⟩ rfl ?_
              refine opSkip rfl ⟨_, rfl, .inl rfl⟩ rfl ?_
              refine op0 (sp_pickT rfl rfl rfl) rfl trivial rfl rfl ?_
              refine TL.nil ?_
              refine TC.condT rfl ?_
              refine TC.seq ?_
              refine TC.region ?_
              refine op0 (sp_assign rfl rfl) rfl trivial rfl rfl ?_
              refine TL.nil ?_
              cases h
              exact retJ [] (.tmp rfl .nil) rfl trivial rfl rfl
            · refine (boolLit 233 rfl h79).2 ?_
              refine op0 (sp_move rfl rfl) rfl ⟨_, rfl, rfl⟩ rfl rfl ?_
              refine op0 (sp_lss rfl rfl rfl) rfl ⟨_, rfl, rfl⟩ rfl rfl ?_
              refine op0 (sp_pickF rfl rfl rfl) rfl trivial rfl rfl ?_
              refine op0 (sp_move rfl rfl) rfl trivial rfl rfl ?_
              rcases cond_cases h with ⟨h80, h⟩ | ⟨h80, h⟩
              · refine (boolLit 237 rfl h80).2 ?_
                refine opSkip rfl ⟨_, rfl, .inl rfl⟩ rfl ?_
                refine opSkip rfl ⟨_, rfl, .inl rfl⟩ rfl ?_
                refine opSkip rfl ⟨_, rfl, .inl rfl⟩ rfl ?_
                refine opSkip rfl ⟨_, rfl, .inl rfl⟩ rfl ?_
                refine opSkip rfl ⟨_, rfl, .inl rfl⟩ rfl ?_
                refine opSkip rfl ⟨_, rfl, .inl rfl⟩ rfl ?_
                refine opSkip rfl ⟨_, rfl, .inl rfl⟩ rfl ?_
                refine opSkip rfl ⟨_, rfl, .inl rfl⟩ rfl ?_
                refine op0 (sp_pickT rfl rfl rfl) rfl trivial rfl rfl ?_
                refine TL.nil ?_
                refine TC.condT rfl ?_
                refine TC.seq ?_
                refine TC.region ?_
                refine op0 (sp_assign rfl rfl) rfl trivial rfl rfl ?_
                refine TL.nil ?_
                cases h
                exact retJ [] (.tmp rfl .nil) rfl trivial rfl rfl
              · refine (boolLit 237 rfl h80).2 ?_
                refine op0 (sp_move rfl rfl) rfl ⟨_, rfl, rfl⟩ rfl rfl ?_
                refine op1 0 rfl (sp_fieldAddrB rfl isBlk rfl ft26_0 vt3 (by decide)) rfl ⟨_, rfl, rfl⟩ rfl rfl ?_
                refine op1 0 rfl (sp_loadB rfl isBlk rfl vt3 rfl) rfl ⟨_, rfl, rfl⟩ rfl rfl ?_
                obtain ⟨h81, h⟩ := chk_inv h
                refine op0 (sp_mul rfl rfl rfl h81) rfl ⟨_, rfl, rfl⟩ rfl rfl ?_
                refine op1 0 rfl (sp_fieldAddrB rfl isBlk rfl ft26_1 vt3 (by decide)) rfl ⟨_, rfl, rfl⟩ rfl rfl ?_
                refine op1 0 rfl (sp_loadB rfl isBlk rfl vt3 rfl) rfl ⟨_, rfl, rfl⟩ rfl rfl ?_
                obtain ⟨h82, h⟩ := chk_inv h
                refine op0 (sp_rem rfl rfl rfl h82) rfl ⟨_, rfl, rfl⟩ rfl rfl ?_
                refine op0 (sp_neq rfl rfl rfl) rfl ⟨_, rfl, rfl⟩ rfl rfl ?_
                refine op0 (sp_pickF rfl rfl rfl) rfl trivial rfl rfl ?_
                refine TL.nil ?_
                refine TC.cond (b := ((Int.tmod (r48.1 * r47.1) r47.2.1) != 0)) rfl (fun h83 => ?_) (fun h83 => ?_)
                · have h := cond_t h h83
                  refine TC.seq ?_
                  refine TC.region ?_
                  refine op0 (sp_assign rfl rfl) rfl trivial rfl rfl ?_
                  refine TL.nil ?_
                  cases h
                  exact retJ [] (.tmp rfl .nil) rfl trivial rfl rfl
                · have h := cond_f h h83
                  refine TC.skip ?_
                  refine TC.inBlock ?_
                  refine TC.region ?_
                  refine op0 (sp_move rfl rfl) rfl trivial rfl rfl ?_
                  obtain ⟨h84, h⟩ := chk_inv h
                  refine op0 (sp_add rfl rfl rfl h84) rfl trivial rfl rfl ?_
                  refine op0 (sp_assign rfl rfl) rfl trivial rfl rfl ?_
                  refine TL.nil ?_
                  refine TC.inLoop ?_
                  refine TC.seq ?_
                  refine TC.seq ?_
                  refine subJ [] (hk_top_TopStrikeTrain_l3 _ _ h) ?_ ?_ ?_
                  · exact ⟨rfl, rfl, rfl, rfl, trivial⟩
                  · exact ⟨mem_at 2 rfl, trivial⟩
                  · rfl
def ev_top_TopStrikeTrain_j4 (n : Nat) (i38 : Int) (pins11 : Int) (r13 : Int × Int) (l39 : List ((List Int) × (List Int))) (k_top_TopStrikeTrain_l3 : Int → (List ((List Int) × (List Int))) → Option Bool) : Option Bool :=
  ev_top_TopStrikeTrain_l5 n i38 pins11 r13 k_top_TopStrikeTrain_l3 n 0 l39 ([] : List (Int × Int))
set_option maxRecDepth 100000 in
set_option maxHeartbeats 2000000 in
theorem ok_top_TopStrikeTrain_j4 {n : Nat} {w0 : World} {R0 : Nat → Prop} {env0 : Env} {r : Bool} {r13 : Int × Int} {pins11 : Int} {i38 : Int} {l39 : List ((List Int) × (List Int))} {k_top_TopStrikeTrain_l3 : Int → (List ((List Int) × (List Int))) → Option Bool} (hk_top_TopStrikeTrain_l3 : ∀ (i38 : Int) (l39 : List ((List Int) × (List Int))), k_top_TopStrikeTrain_l3 i38 l39 = some r → TC Try.prog ⟨w0, fun _ => False, R0⟩ 256 (bodyPost Try.prog Try.f6 (Post ⟨w0, fun _ => False, R0⟩ env0 (.val (.bool r)) [])) [.code (sub (bodyOf Try.f6) [1, 1, 1, 1, 1, 1, 1, 1, 1, 0, 1, 0, 0, 0, 0]), .code (sub (bodyOf Try.f6) [1, 1, 1, 1, 1, 1, 1, 1, 1, 0, 1, 0, 0, 0, 1]), .code (sub (bodyOf Try.f6) [1, 1, 1, 1, 1, 1, 1, 1, 1, 0, 1, 0, 0, 1]), .inLoop (sub (bodyOf Try.f6) [1, 1, 1, 1, 1, 1, 1, 1, 1, 0, 1, 0, 0]), .inBlock 4, .code (sub (bodyOf Try.f6) [1, 1, 1, 1, 1, 1, 1, 1, 1, 1])] ([(9, .val (.int .i64 r13.1)), (11, .val (.int .i64 ((4 : Int) + (Int.tmod pins11 10)))), (17, .ref 13), (18, .val (.int .i64 i38))]) ([.row 13 74 2 (List.map en_api_Train l39)])) (h : ev_top_TopStrikeTrain_j4 n i38 pins11 r13 l39 k_top_TopStrikeTrain_l3 = some r) : TC Try.prog ⟨w0, fun _ => False, R0⟩ 256 (bodyPost Try.prog Try.f6 (Post ⟨w0, fun _ => False, R0⟩ env0 (.val (.bool r)) [])) [.code (sub (bodyOf Try.f6) [1, 1, 1, 1, 1, 1, 1, 1, 1, 0, 1, 0, 0, 1, 0, 0, 0, 1, 1]), .code (sub (bodyOf Try.f6) [1, 1, 1, 1, 1, 1, 1, 1, 1, 0, 1, 0, 0, 1, 0, 0, 1]), .inBlock 5, .code (sub (bodyOf Try.f6) [1, 1, 1, 1, 1, 1, 1, 1, 1, 0, 1, 0, 0, 1, 1]), .inLoop (sub (bodyOf Try.f6) [1, 1, 1, 1, 1, 1, 1, 1, 1, 0, 1, 0, 0]), .inBlock 4, .code (sub (bodyOf Try.f6) [1, 1, 1, 1, 1, 1, 1, 1, 1, 1])] ([(9, .val (.int .i64 r13.1)), (11, .val (.int .i64 ((4 : Int) + (Int.tmod pins11 10)))), (17, .ref 13), (18, .val (.int .i64 i38))]) ([.row 13 74 2 (List.map en_api_Train l39)]) := by
  rw [ev_top_TopStrikeTrain_j4] at h
  refine TC.skip ?_
  refine TC.seq ?_
  refine TC.region ?_
  refine op0 (sp_emptyM 18 (List.map en_api_TrainPair []) rfl rfl sl23) rfl trivial rfl rfl ?_
  refine op0 (sp_assign rfl rfl) rfl trivial rfl rfl ?_
  refine TL.nil ?_
  refine TC.seq ?_
  refine TC.seq ?_
  refine TC.region ?_
  refine op0 (sp_assign rfl rfl) rfl trivial rfl rfl ?_
  refine TL.nil ?_
  refine TC.block ?_
  refine TC.loop ?_
  refine TC.seq ?_
  refine TC.seq ?_
  refine subJ [] (ok_top_TopStrikeTrain_l5 hk_top_TopStrikeTrain_l3 _ _ _ _ h) ?_ ?_ ?_
  · exact ⟨rfl, rfl, rfl, rfl, rfl, rfl, trivial⟩
  · exact ⟨mem_at 1 rfl, mem_at 0 rfl, trivial⟩
  · rfl
def ev_top_TopStrikeTrain_l3 (n : Nat) (pins11 : Int) (r13 : Int × Int) : Nat → Int → (List ((List Int) × (List Int))) → Option Bool
  | 0, _, _ => none
  | m + 1, i38, l39 => cond (decide (i38 < (l39.length : Int))) (idx l39 i38 fun x40 => cond ((x40.1.length : Int) != (x40.2.length : Int)) (some false) (cond (decide ((x40.1.length : Int) < 1)) (some false) (cond (decide ((4 : Int) < (x40.1.length : Int))) (some false) (ev_top_TopStrikeTrain_j4 n i38 pins11 r13 l39 (fun i38q l39q => ev_top_TopStrikeTrain_l3 n pins11 r13 m i38q l39q))))) (cond (decide ((0 : Int) < (l39.length : Int))) ((ev_top_pubTrain n).bind fun r49 => cond r49 ((ev_top_pubStrike n).bind fun r50 => some r50) (some false)) (some false))
set_option maxRecDepth 100000 in
set_option maxHeartbeats 2000000 in
theorem ok_top_TopStrikeTrain_l3 {n : Nat} {w0 : World} {R0 : Nat → Prop} {env0 : Env} {r : Bool} {r13 : Int × Int} {pins11 : Int} : ∀ (m : Nat) (i38 : Int) (l39 : List ((List Int) × (List Int))), ev_top_TopStrikeTrain_l3 n pins11 r13 m i38 l39 = some r → TC Try.prog ⟨w0, fun _ => False, R0⟩ 256 (bodyPost Try.prog Try.f6 (Post ⟨w0, fun _ => False, R0⟩ env0 (.val (.bool r)) [])) [.code (sub (bodyOf Try.f6) [1, 1, 1, 1, 1, 1, 1, 1, 1, 0, 1, 0, 0, 0, 0]), .code (sub (bodyOf Try.f6) [1, 1, 1, 1, 1, 1, 1, 1, 1, 0, 1, 0, 0, 0, 1]), .code (sub (bodyOf Try.f6) [1, 1, 1, 1, 1, 1, 1, 1, 1, 0, 1, 0, 0, 1]), .inLoop (sub (bodyOf Try.f6) [1, 1, 1, 1, 1, 1, 1, 1, 1, 0, 1, 0, 0]), .inBlock 4, .code (sub (bodyOf Try.f6) [1, 1, 1, 1, 1, 1, 1, 1, 1, 1])] ([(9, .val (.int .i64 r13.1)), (11, .val (.int .i64 ((4 : Int) + (Int.tmod pins11 10)))), (17, .ref 13), (18, .val (.int .i64 i38))]) ([.row 13 74 2 (List.map en_api_Train l39)]) := by
  intro m
  induction m with
  | zero => intro i38 l39 h; exact none_no h
  | succ m ih =>
    intro i38 l39 h
    rw [ev_top_TopStrikeTrain_l3] at h
    refine TC.region ?_
    refine op0 (sp_move rfl rfl) rfl trivial rfl rfl ?_
    refine op0 (sp_move rfl rfl) rfl trivial rfl rfl ?_
    refine op1 0 rfl (sp_lenM (N := l39.length) (len_map _ _) rfl rfl isOwn Try.underlying71) rfl trivial rfl rfl ?_
    refine op0 (sp_lss rfl rfl rfl) rfl trivial rfl rfl ?_
    refine TL.nil ?_
    refine TC.cond (b := (decide (i38 < (l39.length : Int)))) rfl (fun h54 => ?_) (fun h54 => ?_)
    · have h := cond_t h h54
      refine TC.skip ?_
      refine TC.seq ?_
      refine TC.block ?_
      refine TC.seq ?_
      refine TC.seq ?_
      obtain ⟨x40, h55, h56, h⟩ := idx_inv h
      rcases cond_cases h with ⟨h57, h⟩ | ⟨h57, h⟩
      · refine drawJ 25 [⟨.ref 13, [], [], []⟩, ⟨.val (.int .i64 i38), [], [], []⟩, ⟨.cell 13 ((i38 : Int).toNat * 2), [], [.row 13 74 2 (List.map en_api_Train l39)], []⟩, ⟨.cell 13 ((i38 : Int).toNat * 2 + 0), [], [.row 13 74 2 (List.map en_api_Train l39)], []⟩, ⟨.ref 14, [.ro 14 1 (List.map en_int x40.1)], [.row 13 74 2 (List.map en_api_Train l39)], []⟩, ⟨.val (.int .i64 (x40.1.length : Int)), [], [.ro 14 1 (List.map en_int x40.1)], []⟩, ⟨.ref 13, [], [], []⟩, ⟨.val (.int .i64 i38), [], [], []⟩, ⟨.cell 13 ((i38 : Int).toNat * 2), [], [.row 13 74 2 (List.map en_api_Train l39)], []⟩, ⟨.cell 13 ((i38 : Int).toNat * 2 + 1), [], [.row 13 74 2 (List.map en_api_Train l39)], []⟩, ⟨.ref 15, [.ro 15 1 (List.map en_int x40.2)], [.row 13 74 2 (List.map en_api_Train l39)], []⟩, ⟨.val (.int .i64 (x40.2.length : Int)), [], [.ro 15 1 (List.map en_int x40.2)], []⟩, ⟨.val (.bool ((x40.1.length : Int) != (x40.2.length : Int))), [], [], []⟩, ⟨.val (.bool true), [], [], []⟩, ⟨.val (undef), [], [], []⟩, ⟨.val (undef), [], [], []⟩, ⟨.val (undef), [], [], []⟩, ⟨.val (undef), [], [], []⟩, ⟨.val (undef), [], [], []⟩, ⟨.val (undef), [], [], []⟩, ⟨.val (undef), [], [], []⟩, ⟨.val (.bool true), [], [], []⟩, ⟨.val (.bool true), [], [], []⟩, ⟨.val (undef), [], [], []⟩, ⟨.val (undef), [], [], []⟩] rfl ?_ rfl ?_ rfl ?_ ?_
        · kernel_rfl
        · kernel_rfl
        · exact DAll.op' (sp_move rfl rfl) trivial rfl (From.ok (ps := []) trivial) (DAll.op' (sp_move rfl rfl) trivial rfl (From.ok (ps := []) trivial) (DAll.op' (sp_indexS rfl rfl rfl isOwn sl71 h55 (map_get _ h56)) trivial rfl (From.ok (ps := [(none, 0)]) ⟨⟨rfl, by kernel_rfl⟩, trivial⟩) (DAll.op' (sp_fieldAddrR (i := (i38 : Int).toNat) rfl rfl isOwn ft74_0 vt50 (by decide) (map_get _ h56) (fun h => nomatch h)) trivial rfl (From.ok (ps := [(none, 0)]) ⟨⟨rfl, by kernel_rfl⟩, trivial⟩) (DAll.op' (sp_loadR (i := (i38 : Int).toNat) (j := 0) (ns := [.ro 14 1 (List.map en_int x40.1)]) rfl rfl isOwn vt50 rfl (map_get _ h56) rfl (.s (.nil)) (nodup_of_B rfl)) trivial rfl (From.ok (ps := [(none, 0)]) ⟨⟨rfl, by kernel_rfl⟩, trivial⟩) (DAll.op' (sp_lenM (N := x40.1.length) (len_map _ _) rfl rfl isRo Try.underlying50) trivial rfl (From.ok (ps := [(some 4, 0)]) ⟨⟨_, rfl, by kernel_rfl, rfl, by kernel_rfl⟩, trivial⟩) (DAll.op' (sp_move rfl rfl) trivial rfl (From.ok (ps := []) trivial) (DAll.op' (sp_move rfl rfl) trivial rfl (From.ok (ps := []) trivial) (DAll.op' (sp_indexS rfl rfl rfl isOwn sl71 h55 (map_get _ h56)) trivial rfl (From.ok (ps := [(none, 0)]) ⟨⟨rfl, by kernel_rfl⟩, trivial⟩) (DAll.op' (sp_fieldAddrR (i := (i38 : Int).toNat) rfl rfl isOwn ft74_1 vt50 (by decide) (map_get _ h56) (fun h => nomatch h)) trivial rfl (From.ok (ps := [(none, 0)]) ⟨⟨rfl, by kernel_rfl⟩, trivial⟩) (DAll.op' (sp_loadR (i := (i38 : Int).toNat) (j := 1) (ns := [.ro 15 1 (List.map en_int x40.2)]) rfl rfl isOwn vt50 rfl (map_get _ h56) rfl (.s (.nil)) (nodup_of_B rfl)) trivial rfl (From.ok (ps := [(none, 0)]) ⟨⟨rfl, by kernel_rfl⟩, trivial⟩) (DAll.op' (sp_lenM (N := x40.2.length) (len_map _ _) rfl rfl isRo Try.underlying50) trivial rfl (From.ok (ps := [(some 10, 0)]) ⟨⟨_, rfl, by kernel_rfl, rfl, by kernel_rfl⟩, trivial⟩) (DAll.op' (sp_neq rfl rfl rfl) trivial rfl (From.ok (ps := []) trivial) (DAll.op' (sp_castB h57 (sp_move rfl rfl)) trivial rfl (From.ok (ps := []) trivial) (.skip ⟨_, rfl, .inl rfl⟩ rfl rfl rfl (.skip ⟨_, rfl, .inl rfl⟩ rfl rfl rfl (.skip ⟨_, rfl, .inl rfl⟩ rfl rfl rfl (.skip ⟨_, rfl, .inl rfl⟩ rfl rfl rfl (.skip ⟨_, rfl, .inl rfl⟩ rfl rfl rfl (.skip ⟨_, rfl, .inl rfl⟩ rfl rfl rfl (.skip ⟨_, rfl, .inl rfl⟩ rfl rfl rfl (DAll.op' (sp_pickT rfl rfl rfl) trivial rfl (From.ok (ps := []) trivial) (DAll.op' (sp_move rfl rfl) trivial rfl (From.ok (ps := []) trivial) (.skip ⟨_, rfl, .inl rfl⟩ rfl rfl rfl (.skip ⟨_, rfl, .inl rfl⟩ rfl rfl rfl (.nil)))))))))))))))))))))))))
        refine opSkip rfl ⟨_, rfl, .inl rfl⟩ rfl ?_
        refine opSkip rfl ⟨_, rfl, .inl rfl⟩ rfl ?_
        refine opSkip rfl ⟨_, rfl, .inl rfl⟩ rfl ?_
        refine opSkip rfl ⟨_, rfl, .inl rfl⟩ rfl ?_
        refine opSkip rfl ⟨_, rfl, .inl rfl⟩ rfl ?_
        refine op0 (sp_pickT rfl rfl rfl) rfl trivial rfl rfl ?_
        refine TL.nil ?_
        refine TC.condT rfl ?_
        refine TC.seq ?_
        refine TC.region ?_
        refine op0 (sp_assign rfl rfl) rfl trivial rfl rfl ?_
        refine TL.nil ?_
        cases h
        exact retJ [] (.tmp rfl .nil) rfl trivial rfl rfl
      · rcases cond_cases h with ⟨h58, h⟩ | ⟨h58, h⟩
        · refine drawJ 25 [⟨.ref 13, [], [], []⟩, ⟨.val (.int .i64 i38), [], [], []⟩, ⟨.cell 13 ((i38 : Int).toNat * 2), [], [.row 13 74 2 (List.map en_api_Train l39)], []⟩, ⟨.cell 13 ((i38 : Int).toNat * 2 + 0), [], [.row 13 74 2 (List.map en_api_Train l39)], []⟩, ⟨.ref 14, [.ro 14 1 (List.map en_int x40.1)], [.row 13 74 2 (List.map en_api_Train l39)], []⟩, ⟨.val (.int .i64 (x40.1.length : Int)), [], [.ro 14 1 (List.map en_int x40.1)], []⟩, ⟨.ref 13, [], [], []⟩, ⟨.val (.int .i64 i38), [], [], []⟩, ⟨.cell 13 ((i38 : Int).toNat * 2), [], [.row 13 74 2 (List.map en_api_Train l39)], []⟩, ⟨.cell 13 ((i38 : Int).toNat * 2 + 1), [], [.row 13 74 2 (List.map en_api_Train l39)], []⟩, ⟨.ref 15, [.ro 15 1 (List.map en_int x40.2)], [.row 13 74 2 (List.map en_api_Train l39)], []⟩, ⟨.val (.int .i64 (x40.2.length : Int)), [], [.ro 15 1 (List.map en_int x40.2)], []⟩, ⟨.val (.bool ((x40.1.length : Int) != (x40.2.length : Int))), [], [], []⟩, ⟨.val (.bool false), [], [], []⟩, ⟨.ref 13, [], [], []⟩, ⟨.val (.int .i64 i38), [], [], []⟩, ⟨.cell 13 ((i38 : Int).toNat * 2), [], [.row 13 74 2 (List.map en_api_Train l39)], []⟩, ⟨.cell 13 ((i38 : Int).toNat * 2 + 0), [], [.row 13 74 2 (List.map en_api_Train l39)], []⟩, ⟨.ref 16, [.ro 16 1 (List.map en_int x40.1)], [.row 13 74 2 (List.map en_api_Train l39)], []⟩, ⟨.val (.int .i64 (x40.1.length : Int)), [], [.ro 16 1 (List.map en_int x40.1)], []⟩, ⟨.val (.bool (decide ((x40.1.length : Int) < 1))), [], [], []⟩, ⟨.val (.bool (decide ((x40.1.length : Int) < 1))), [], [], []⟩, ⟨.val (.bool true), [], [], []⟩, ⟨.val (undef), [], [], []⟩, ⟨.val (undef), [], [], []⟩] rfl ?_ rfl ?_ rfl ?_ ?_
          · kernel_rfl
          · kernel_rfl
          · exact DAll.op' (sp_move rfl rfl) trivial rfl (From.ok (ps := []) trivial) (DAll.op' (sp_move rfl rfl) trivial rfl (From.ok (ps := []) trivial) (DAll.op' (sp_indexS rfl rfl rfl isOwn sl71 h55 (map_get _ h56)) trivial rfl (From.ok (ps := [(none, 0)]) ⟨⟨rfl, by kernel_rfl⟩, trivial⟩) (DAll.op' (sp_fieldAddrR (i := (i38 : Int).toNat) rfl rfl isOwn ft74_0 vt50 (by decide) (map_get _ h56) (fun h => nomatch h)) trivial rfl (From.ok (ps := [(none, 0)]) ⟨⟨rfl, by kernel_rfl⟩, trivial⟩) (DAll.op' (sp_loadR (i := (i38 : Int).toNat) (j := 0) (ns := [.ro 14 1 (List.map en_int x40.1)]) rfl rfl isOwn vt50 rfl (map_get _ h56) rfl (.s (.nil)) (nodup_of_B rfl)) trivial rfl (From.ok (ps := [(none, 0)]) ⟨⟨rfl, by kernel_rfl⟩, trivial⟩) (DAll.op' (sp_lenM (N := x40.1.length) (len_map _ _) rfl rfl isRo Try.underlying50) trivial rfl (From.ok (ps := [(some 4, 0)]) ⟨⟨_, rfl, by kernel_rfl, rfl, by kernel_rfl⟩, trivial⟩) (DAll.op' (sp_move rfl rfl) trivial rfl (From.ok (ps := []) trivial) (DAll.op' (sp_move rfl rfl) trivial rfl (From.ok (ps := []) trivial) (DAll.op' (sp_indexS rfl rfl rfl isOwn sl71 h55 (map_get _ h56)) trivial rfl (From.ok (ps := [(none, 0)]) ⟨⟨rfl, by kernel_rfl⟩, trivial⟩) (DAll.op' (sp_fieldAddrR (i := (i38 : Int).toNat) rfl rfl isOwn ft74_1 vt50 (by decide) (map_get _ h56) (fun h => nomatch h)) trivial rfl (From.ok (ps := [(none, 0)]) ⟨⟨rfl, by kernel_rfl⟩, trivial⟩) (DAll.op' (sp_loadR (i := (i38 : Int).toNat) (j := 1) (ns := [.ro 15 1 (List.map en_int x40.2)]) rfl rfl isOwn vt50 rfl (map_get _ h56) rfl (.s (.nil)) (nodup_of_B rfl)) trivial rfl (From.ok (ps := [(none, 0)]) ⟨⟨rfl, by kernel_rfl⟩, trivial⟩) (DAll.op' (sp_lenM (N := x40.2.length) (len_map _ _) rfl rfl isRo Try.underlying50) trivial rfl (From.ok (ps := [(some 10, 0)]) ⟨⟨_, rfl, by kernel_rfl, rfl, by kernel_rfl⟩, trivial⟩) (DAll.op' (sp_neq rfl rfl rfl) trivial rfl (From.ok (ps := []) trivial) (DAll.op' (sp_castB h57 (sp_move rfl rfl)) trivial rfl (From.ok (ps := []) trivial) (DAll.op' (sp_move rfl rfl) ⟨_, rfl, rfl⟩ rfl (From.ok (ps := []) trivial) (DAll.op' (sp_move rfl rfl) ⟨_, rfl, rfl⟩ rfl (From.ok (ps := []) trivial) (DAll.op' (sp_indexS rfl rfl rfl isOwn sl71 h55 (map_get _ h56)) ⟨_, rfl, rfl⟩ rfl (From.ok (ps := [(none, 0)]) ⟨⟨rfl, by kernel_rfl⟩, trivial⟩) (DAll.op' (sp_fieldAddrR (i := (i38 : Int).toNat) rfl rfl isOwn ft74_0 vt50 (by decide) (map_get _ h56) (fun h => nomatch h)) ⟨_, rfl, rfl⟩ rfl (From.ok (ps := [(none, 0)]) ⟨⟨rfl, by kernel_rfl⟩, trivial⟩) (DAll.op' (sp_loadR (i := (i38 : Int).toNat) (j := 0) (ns := [.ro 16 1 (List.map en_int x40.1)]) rfl rfl isOwn vt50 rfl (map_get _ h56) rfl (.s (.nil)) (nodup_of_B rfl)) ⟨_, rfl, rfl⟩ rfl (From.ok (ps := [(none, 0)]) ⟨⟨rfl, by kernel_rfl⟩, trivial⟩) (DAll.op' (sp_lenM (N := x40.1.length) (len_map _ _) rfl rfl isRo Try.underlying50) ⟨_, rfl, rfl⟩ rfl (From.ok (ps := [(some 18, 0)]) ⟨⟨_, rfl, by kernel_rfl, rfl, by kernel_rfl⟩, trivial⟩) (DAll.op' (sp_lss rfl rfl rfl) ⟨_, rfl, rfl⟩ rfl (From.ok (ps := []) trivial) (DAll.op' (sp_pickF rfl rfl rfl) trivial rfl (From.ok (ps := []) trivial) (DAll.op' (sp_castB h58 (sp_move rfl rfl)) trivial rfl (From.ok (ps := []) trivial) (.skip ⟨_, rfl, .inl rfl⟩ rfl rfl rfl (.skip ⟨_, rfl, .inl rfl⟩ rfl rfl rfl (.nil)))))))))))))))))))))))))
          refine opSkip rfl ⟨_, rfl, .inl rfl⟩ rfl ?_
          refine opSkip rfl ⟨_, rfl, .inl rfl⟩ rfl ?_
          refine opSkip rfl ⟨_, rfl, .inl rfl⟩ rfl ?_
          refine opSkip rfl ⟨_, rfl, .inl rfl⟩ rfl ?_
          refine opSkip rfl ⟨_, rfl, .inl rfl⟩ rfl ?_
          refine op0 (sp_pickT rfl rfl rfl) rfl trivial rfl rfl ?_
          refine TL.nil ?_
          refine TC.condT rfl ?_
          refine TC.seq ?_
          refine TC.region ?_
          refine op0 (sp_assign rfl rfl) rfl trivial rfl rfl ?_
          refine TL.nil ?_
          cases h
          exact retJ [] (.tmp rfl .nil) rfl trivial rfl rfl
        · refine drawJ 25 [⟨.ref 13, [], [], []⟩, ⟨.val (.int .i64 i38), [], [], []⟩, ⟨.cell 13 ((i38 : Int).toNat * 2), [], [.row 13 74 2 (List.map en_api_Train l39)], []⟩, ⟨.cell 13 ((i38 : Int).toNat * 2 + 0), [], [.row 13 74 2 (List.map en_api_Train l39)], []⟩, ⟨.ref 14, [.ro 14 1 (List.map en_int x40.1)], [.row 13 74 2 (List.map en_api_Train l39)], []⟩, ⟨.val (.int .i64 (x40.1.length : Int)), [], [.ro 14 1 (List.map en_int x40.1)], []⟩, ⟨.ref 13, [], [], []⟩, ⟨.val (.int .i64 i38), [], [], []⟩, ⟨.cell 13 ((i38 : Int).toNat * 2), [], [.row 13 74 2 (List.map en_api_Train l39)], []⟩, ⟨.cell 13 ((i38 : Int).toNat * 2 + 1), [], [.row 13 74 2 (List.map en_api_Train l39)], []⟩, ⟨.ref 15, [.ro 15 1 (List.map en_int x40.2)], [.row 13 74 2 (List.map en_api_Train l39)], []⟩, ⟨.val (.int .i64 (x40.2.length : Int)), [], [.ro 15 1 (List.map en_int x40.2)], []⟩, ⟨.val (.bool ((x40.1.length : Int) != (x40.2.length : Int))), [], [], []⟩, ⟨.val (.bool false), [], [], []⟩, ⟨.ref 13, [], [], []⟩, ⟨.val (.int .i64 i38), [], [], []⟩, ⟨.cell 13 ((i38 : Int).toNat * 2), [], [.row 13 74 2 (List.map en_api_Train l39)], []⟩, ⟨.cell 13 ((i38 : Int).toNat * 2 + 0), [], [.row 13 74 2 (List.map en_api_Train l39)], []⟩, ⟨.ref 16, [.ro 16 1 (List.map en_int x40.1)], [.row 13 74 2 (List.map en_api_Train l39)], []⟩, ⟨.val (.int .i64 (x40.1.length : Int)), [], [.ro 16 1 (List.map en_int x40.1)], []⟩, ⟨.val (.bool (decide ((x40.1.length : Int) < 1))), [], [], []⟩, ⟨.val (.bool (decide ((x40.1.length : Int) < 1))), [], [], []⟩, ⟨.val (.bool false), [], [], []⟩, ⟨.ref 13, [], [], []⟩, ⟨.val (.int .i64 i38), [], [], []⟩] rfl ?_ rfl ?_ rfl ?_ ?_
          · kernel_rfl
          · kernel_rfl
          · exact DAll.op' (sp_move rfl rfl) trivial rfl (From.ok (ps := []) trivial) (DAll.op' (sp_move rfl rfl) trivial rfl (From.ok (ps := []) trivial) (DAll.op' (sp_indexS rfl rfl rfl isOwn sl71 h55 (map_get _ h56)) trivial rfl (From.ok (ps := [(none, 0)]) ⟨⟨rfl, by kernel_rfl⟩, trivial⟩) (DAll.op' (sp_fieldAddrR (i := (i38 : Int).toNat) rfl rfl isOwn ft74_0 vt50 (by decide) (map_get _ h56) (fun h => nomatch h)) trivial rfl (From.ok (ps := [(none, 0)]) ⟨⟨rfl, by kernel_rfl⟩, trivial⟩) (DAll.op' (sp_loadR (i := (i38 : Int).toNat) (j := 0) (ns := [.ro 14 1 (List.map en_int x40.1)]) rfl rfl isOwn vt50 rfl (map_get _ h56) rfl (.s (.nil)) (nodup_of_B rfl)) trivial rfl (From.ok (ps := [(none, 0)]) ⟨⟨rfl, by kernel_rfl⟩, trivial⟩) (DAll.op' (sp_lenM (N := x40.1.length) (len_map _ _) rfl rfl isRo Try.underlying50) trivial rfl (From.ok (ps := [(some 4, 0)]) ⟨⟨_, rfl, by kernel_rfl, rfl, by kernel_rfl⟩, trivial⟩) (DAll.op' (sp_move rfl rfl) trivial rfl (From.ok (ps := []) trivial) (DAll.op' (sp_move rfl rfl) trivial rfl (From.ok (ps := []) trivial) (DAll.op' (sp_indexS rfl rfl rfl isOwn sl71 h55 (map_get _ h56)) trivial rfl (From.ok (ps := [(none, 0)]) ⟨⟨rfl, by kernel_rfl⟩, trivial⟩) (DAll.op' (sp_fieldAddrR (i := (i38 : Int).toNat) rfl rfl isOwn ft74_1 vt50 (by decide) (map_get _ h56) (fun h => nomatch h)) trivial rfl (From.ok (ps := [(none, 0)]) ⟨⟨rfl, by kernel_rfl⟩, trivial⟩) (DAll.op' (sp_loadR (i := (i38 : Int).toNat) (j := 1) (ns := [.ro 15 1 (List.map en_int x40.2)]) rfl rfl isOwn vt50 rfl (map_get _ h56) rfl (.s (.nil)) (nodup_of_B rfl)) trivial rfl (From.ok (ps := [(none, 0)]) ⟨⟨rfl, by kernel_rfl⟩, trivial⟩) (DAll.op' (sp_lenM (N := x40.2.length) (len_map _ _) rfl rfl isRo Try.underlying50) trivial rfl (From.ok (ps := [(some 10, 0)]) ⟨⟨_, rfl, by kernel_rfl, rfl, by kernel_rfl⟩, trivial⟩) (DAll.op' (sp_neq rfl rfl rfl) trivial rfl (From.ok (ps := []) trivial) (DAll.op' (sp_castB h57 (sp_move rfl rfl)) trivial rfl (From.ok (ps := []) trivial) (DAll.op' (sp_move rfl rfl) ⟨_, rfl, rfl⟩ rfl (From.ok (ps := []) trivial) (DAll.op' (sp_move rfl rfl) ⟨_, rfl, rfl⟩ rfl (From.ok (ps := []) trivial) (DAll.op' (sp_indexS rfl rfl rfl isOwn sl71 h55 (map_get _ h56)) ⟨_, rfl, rfl⟩ rfl (From.ok (ps := [(none, 0)]) ⟨⟨rfl, by kernel_rfl⟩, trivial⟩) (DAll.op' (sp_fieldAddrR (i := (i38 : Int).toNat) rfl rfl isOwn ft74_0 vt50 (by decide) (map_get _ h56) (fun h => nomatch h)) ⟨_, rfl, rfl⟩ rfl (From.ok (ps := [(none, 0)]) ⟨⟨rfl, by kernel_rfl⟩, trivial⟩) (DAll.op' (sp_loadR (i := (i38 : Int).toNat) (j := 0) (ns := [.ro 16 1 (List.map en_int x40.1)]) rfl rfl isOwn vt50 rfl (map_get _ h56) rfl (.s (.nil)) (nodup_of_B rfl)) ⟨_, rfl, rfl⟩ rfl (From.ok (ps := [(none, 0)]) ⟨⟨rfl, by kernel_rfl⟩, trivial⟩) (DAll.op' (sp_lenM (N := x40.1.length) (len_map _ _) rfl rfl isRo Try.underlying50) ⟨_, rfl, rfl⟩ rfl (From.ok (ps := [(some 18, 0)]) ⟨⟨_, rfl, by kernel_rfl, rfl, by kernel_rfl⟩, trivial⟩) (DAll.op' (sp_lss rfl rfl rfl) ⟨_, rfl, rfl⟩ rfl (From.ok (ps := []) trivial) (DAll.op' (sp_pickF rfl rfl rfl) trivial rfl (From.ok (ps := []) trivial) (DAll.op' (sp_castB h58 (sp_move rfl rfl)) trivial rfl (From.ok (ps := []) trivial) (DAll.op' (sp_move rfl rfl) ⟨_, rfl, rfl⟩ rfl (From.ok (ps := []) trivial) (DAll.op' (sp_move rfl rfl) ⟨_, rfl, rfl⟩ rfl (From.ok (ps := []) trivial) (.nil)))))))))))))))))))))))))
          refine op1 3 rfl (sp_indexS rfl rfl rfl isOwn sl71 h55 (map_get _ h56)) rfl ⟨_, rfl, rfl⟩ rfl rfl ?_
          refine op1 3 rfl (sp_fieldAddrR (i := (i38 : Int).toNat) rfl rfl isOwn ft74_0 vt50 (by decide) (map_get _ h56) (fun h => nomatch h)) rfl ⟨_, rfl, rfl⟩ rfl rfl ?_
          refine op1 3 rfl (sp_loadR (i := (i38 : Int).toNat) (j := 0) (ns := [.ro 17 1 (List.map en_int x40.1)]) rfl rfl isOwn vt50 rfl (map_get _ h56) rfl (.s (.nil)) (nodup_of_B rfl)) rfl ⟨_, rfl, rfl⟩ rfl rfl ?_
          refine op1 0 rfl (sp_lenM (N := x40.1.length) (len_map _ _) rfl rfl isRo Try.underlying50) rfl ⟨_, rfl, rfl⟩ rfl rfl ?_
          refine op0 (sp_gtr rfl rfl rfl) rfl ⟨_, rfl, rfl⟩ rfl rfl ?_
          refine op0 (sp_pickF rfl rfl rfl) rfl trivial rfl rfl ?_
          refine TL.nil ?_
          refine TC.cond (b := (decide ((4 : Int) < (x40.1.length : Int)))) rfl (fun h59 => ?_) (fun h59 => ?_)
          · have h := cond_t h h59
            refine TC.seq ?_
            refine TC.region ?_
            refine op0 (sp_assign rfl rfl) rfl trivial rfl rfl ?_
            refine TL.nil ?_
            cases h
            exact retJ [] (.tmp rfl .nil) rfl trivial rfl rfl
          · have h := cond_f h h59
            refine subJ [] (ok_top_TopStrikeTrain_j4 ih h) ?_ ?_ ?_
            · exact ⟨rfl, rfl, rfl, rfl, trivial⟩
            · exact ⟨mem_at 4 rfl, trivial⟩
            · rfl
    · have h := cond_f h h54
      refine TC.exit rfl ?_
      refine TC.seq ?_
      refine TC.region ?_
      refine op0 (sp_move rfl rfl) rfl trivial rfl rfl ?_
      refine op1 0 rfl (sp_lenM (N := l39.length) (len_map _ _) rfl rfl isOwn Try.underlying71) rfl trivial rfl rfl ?_
      refine op0 (sp_gtr rfl rfl rfl) rfl trivial rfl rfl ?_
      refine op0 (sp_move rfl rfl) rfl trivial rfl rfl ?_
      rcases cond_cases h with ⟨h85, h⟩ | ⟨h85, h⟩
      · refine (boolLit 250 rfl h85).2 ?_
        obtain ⟨r49, h86, h⟩ := bind_inv h
        refine op0 (sp_call (avs := []) (need := []) (v := .val (.bool r49)) (news := []) rfl rfl rfl Try.call18 (atJ [] [] (fc_top_pubTrain h86) rfl rfl) (.inl (roAll rfl))) rfl ⟨_, rfl, rfl⟩ rfl rfl ?_
        refine op0 (sp_pickT rfl rfl rfl) rfl trivial rfl rfl ?_
        refine op0 (sp_move rfl rfl) rfl trivial rfl rfl ?_
        rcases cond_cases h with ⟨h87, h⟩ | ⟨h87, h⟩
        · refine (boolLit 253 rfl h87).2 ?_
          obtain ⟨r50, h88, h⟩ := bind_inv h
          refine op0 (sp_call (avs := []) (need := []) (v := .val (.bool r50)) (news := []) rfl rfl rfl Try.call31 (atJ [] [] (fc_top_pubStrike h88) rfl rfl) (.inl (roAll rfl))) rfl ⟨_, rfl, rfl⟩ rfl rfl ?_
          refine op0 (sp_pickT rfl rfl rfl) rfl trivial rfl rfl ?_
          refine op0 (sp_assign rfl rfl) rfl trivial rfl rfl ?_
          refine TL.nil ?_
          cases h
          exact retJ [] (.tmp rfl .nil) rfl trivial rfl rfl
        · refine (boolLit 253 rfl h87).2 ?_
          refine opSkip rfl ⟨_, rfl, .inl rfl⟩ rfl ?_
          refine op0 (sp_pickF rfl rfl rfl) rfl trivial rfl rfl ?_
          refine op0 (sp_assign rfl rfl) rfl trivial rfl rfl ?_
          refine TL.nil ?_
          cases h
          exact retJ [] (.tmp rfl .nil) rfl trivial rfl rfl
      · refine (boolLit 250 rfl h85).2 ?_
        refine opSkip rfl ⟨_, rfl, .inl rfl⟩ rfl ?_
        refine op0 (sp_pickF rfl rfl rfl) rfl trivial rfl rfl ?_
        refine op0 (sp_move rfl rfl) rfl trivial rfl rfl ?_
        refine opSkip rfl ⟨_, rfl, .inl rfl⟩ rfl ?_
        refine op0 (sp_pickF rfl rfl rfl) rfl trivial rfl rfl ?_
        refine op0 (sp_assign rfl rfl) rfl trivial rfl rfl ?_
        refine TL.nil ?_
        cases h
        exact retJ [] (.tmp rfl .nil) rfl trivial rfl rfl
def ev_top_TopStrikeTrain_l1 (n : Nat) (r13 : Int × Int) (pins11 : Int) : Nat → Int → Int → Int → Int → Int → Int → Int → Int → Int → Int → Int → (List Int) → (List Int) → Option Bool
  | 0, _, _, _, _, _, _, _, _, _, _, _, _, _ => none
  | m + 1, i14, i15, i16, i17, i18, i19, i20, i21, i22, i23, i24, l25, l26 => cond (decide (i14 ≤ 400)) (ev_top_TopStrikeTrain_l2 n i20 i21 i22 i23 i24 i14 i15 i16 i17 i18 i19 l25 l26 (fun i14q i15q i16q i17q i18q i19q i20q i21q i22q i23q i24q l25q l26q => ev_top_TopStrikeTrain_l1 n r13 pins11 m i14q i15q i16q i17q i18q i19q i20q i21q i22q i23q i24q l25q l26q) n false false 0) (chk (in64 (Int.tdiv r13.1 2)) <| (ev_train_Fewest n l25 l26 (Int.tdiv r13.1 2) ((4 : Int) + (Int.tmod pins11 10))).bind fun r33 => cond (r33.2 != 0) (cond (r33.2 == 7) (cond ((r33.1.length : Int) == 0) ((ev_top_pubTrain n).bind fun r34 => cond r34 ((ev_top_pubStrike n).bind fun r35 => some r35) (some false)) (some false)) (cond (r33.2 == 5) (cond ((r33.1.length : Int) == 0) ((ev_top_pubTrain n).bind fun r36 => cond r36 ((ev_top_pubStrike n).bind fun r37 => some r37) (some false)) (some false)) (some false))) (ev_top_TopStrikeTrain_l3 n pins11 r13 n 0 r33.1))
set_option maxRecDepth 100000 in
set_option maxHeartbeats 2000000 in
theorem ok_top_TopStrikeTrain_l1 {n : Nat} {w0 : World} {R0 : Nat → Prop} {env0 : Env} {r : Bool} {r13 : Int × Int} {pins11 : Int} : ∀ (m : Nat) (i14 : Int) (i15 : Int) (i16 : Int) (i17 : Int) (i18 : Int) (i19 : Int) (i20 : Int) (i21 : Int) (i22 : Int) (i23 : Int) (i24 : Int) (l25 : List Int) (l26 : List Int), ev_top_TopStrikeTrain_l1 n r13 pins11 m i14 i15 i16 i17 i18 i19 i20 i21 i22 i23 i24 l25 l26 = some r → TC Try.prog ⟨w0, fun _ => False, R0⟩ 256 (bodyPost Try.prog Try.f6 (Post ⟨w0, fun _ => False, R0⟩ env0 (.val (.bool r)) [])) [.code (sub (bodyOf Try.f6) [1, 1, 1, 1, 1, 1, 0, 1, 0, 0, 0, 0]), .code (sub (bodyOf Try.f6) [1, 1, 1, 1, 1, 1, 0, 1, 0, 0, 0, 1]), .code (sub (bodyOf Try.f6) [1, 1, 1, 1, 1, 1, 0, 1, 0, 0, 1]), .inLoop (sub (bodyOf Try.f6) [1, 1, 1, 1, 1, 1, 0, 1, 0, 0]), .inBlock 0, .code (sub (bodyOf Try.f6) [1, 1, 1, 1, 1, 1, 1])] ([(7, .ptr 1 0), (8, .ptr 2 0), (9, .val (.int .i64 r13.1)), (11, .val (.int .i64 ((4 : Int) + (Int.tmod pins11 10)))), (12, .ptr 4 0), (13, .val (.int .i64 i14))]) ([.blk 1 [.val (.int .u8 i15), .val (.int .u8 i16), .val (.int .u8 i17), .val (.int .u8 i18), .val (.int .u8 i19)] 67, .blk 2 [.val (.int .u8 i20), .val (.int .u8 i21), .val (.int .u8 i22), .val (.int .u8 i23), .val (.int .u8 i24)] 67, .row 5 3 1 (List.map en_int l25), .row 6 3 1 (List.map en_int l26), .blk 4 [.ref 5, .ref 6] 70]) := by
  intro m
  induction m with
  | zero => intro i14 i15 i16 i17 i18 i19 i20 i21 i22 i23 i24 l25 l26 h; exact none_no h
  | succ m ih =>
    intro i14 i15 i16 i17 i18 i19 i20 i21 i22 i23 i24 l25 l26 h
    rw [ev_top_TopStrikeTrain_l1] at h
    refine TC.region ?_
    refine op0 (sp_move rfl rfl) rfl trivial rfl rfl ?_
    refine op0 (sp_leq rfl rfl rfl) rfl trivial rfl rfl ?_
    refine TL.nil ?_
    refine TC.cond (b := (decide (i14 ≤ 400))) rfl (fun h7 => ?_) (fun h7 => ?_)
    · have h := cond_t h h7
      refine TC.skip ?_
      refine TC.seq ?_
      refine TC.block ?_
      refine TC.seq ?_
      refine TC.region ?_
      refine op0 (sp_assign rfl rfl) rfl trivial rfl rfl ?_
      refine op0 (sp_assign rfl rfl) rfl trivial rfl rfl ?_
      refine TL.nil ?_
      refine TC.seq ?_
      refine TC.seq ?_
      refine TC.region ?_
      refine op0 (sp_assign rfl rfl) rfl trivial rfl rfl ?_
      refine TL.nil ?_
      refine TC.block ?_
      refine TC.loop ?_
      refine TC.seq ?_
      refine TC.seq ?_
      refine subJ [] (ok_top_TopStrikeTrain_l2 (r13 := r13) (pins11 := pins11) ih _ _ _ _ h) ?_ ?_ ?_
      · exact ⟨rfl, rfl, rfl, rfl, rfl, rfl, rfl, rfl, rfl, trivial⟩
      · exact ⟨mem_at 0 rfl, mem_at 1 rfl, mem_at 4 rfl, mem_at 2 rfl, mem_at 3 rfl, trivial⟩
      · rfl
    · have h := cond_f h h7
      refine TC.exit rfl ?_
      refine TC.seq ?_
      refine TC.region ?_
      refine op1 4 rfl (sp_loadBA rfl isBlk rfl vt70 rfl rfl) rfl trivial rfl rfl ?_
      refine op0 (sp_move rfl rfl) rfl trivial rfl rfl ?_
      obtain ⟨h41, h⟩ := chk_inv h
      refine op0 (sp_quo rfl rfl rfl (by decide) h41) rfl trivial rfl rfl ?_
      refine op0 (sp_move rfl rfl) rfl trivial rfl rfl ?_
      refine op0 (sp_build (qs := [(0, .val (.int .i64 (Int.tdiv r13.1 2))), (1, .val (.int .i64 ((4 : Int) + (Int.tmod pins11 10))))]) rfl bt26 rfl rfl rfl rfl) rfl trivial rfl rfl ?_
      refine TL.freeze 2 rfl ?_
      refine TL.freeze 3 rfl ?_
      obtain ⟨r33, h42, h⟩ := bind_inv h
      refine opN (need := [.ro 5 1 (List.map en_int l25), .ro 6 1 (List.map en_int l26)]) [2, 3] ⟨rfl, rfl, trivial⟩ (sp_call (avs := [.agg [.ref 5, .ref 6], .agg [.val (.int .i64 (Int.tdiv r13.1 2)), .val (.int .i64 ((4 : Int) + (Int.tmod pins11 10)))]]) (need := [.ro 5 1 (List.map en_int l25), .ro 6 1 (List.map en_int l26)]) (v := .tup [.ref 13, .val (.int .i64 r33.2)]) (news := [.row 13 74 2 (List.map en_api_Train r33.1)]) rfl rfl rfl Try.call34 (atJ [(0, 5), (1, 6)] [(0, 13)] (fc_train_Fewest h42) rfl rfl) (.inl (roAll rfl))) rfl trivial rfl rfl ?_
      refine op0 (sp_move rfl rfl) rfl trivial rfl rfl ?_
      refine op0 (sp_extract rfl rfl rfl) rfl trivial rfl rfl ?_
      refine op0 (sp_extract rfl rfl rfl) rfl trivial rfl rfl ?_
      refine op0 (sp_assign rfl rfl) rfl trivial rfl rfl ?_
      refine op0 (sp_assign rfl rfl) rfl trivial rfl rfl ?_
      refine TL.nil ?_
      refine TC.seq ?_
      refine TC.seq ?_
      refine TC.region ?_
      refine op0 (sp_move rfl rfl) rfl trivial rfl rfl ?_
      refine op0 (sp_neq rfl rfl rfl) rfl trivial rfl rfl ?_
      refine TL.nil ?_
      refine TC.cond (b := (r33.2 != 0)) rfl (fun h43 => ?_) (fun h43 => ?_)
      · have h := cond_t h h43
        refine TC.seq ?_
        refine TC.region ?_
        refine op0 (sp_move rfl rfl) rfl trivial rfl rfl ?_
        refine op0 (sp_eql rfl rfl rfl) rfl trivial rfl rfl ?_
        refine op0 (sp_move rfl rfl) rfl trivial rfl rfl ?_
        rcases cond_cases h with ⟨h44, h⟩ | ⟨h44, h⟩
        · refine (boolLit 108 rfl h44).2 ?_
          refine opSkip rfl ⟨_, rfl, .inl rfl⟩ rfl ?_
          refine opSkip rfl ⟨_, rfl, .inl rfl⟩ rfl ?_
          refine op0 (sp_pickT rfl rfl rfl) rfl trivial rfl rfl ?_
          refine op0 (sp_move rfl rfl) rfl trivial rfl rfl ?_
          refine op0 (sp_move rfl rfl) rfl ⟨_, rfl, rfl⟩ rfl rfl ?_
          refine op1 0 rfl (sp_lenM (N := r33.1.length) (len_map _ _) rfl rfl isOwn Try.underlying71) rfl ⟨_, rfl, rfl⟩ rfl rfl ?_
          refine op0 (sp_eql rfl rfl rfl) rfl ⟨_, rfl, rfl⟩ rfl rfl ?_
          refine op0 (sp_pickT rfl rfl rfl) rfl trivial rfl rfl ?_
          refine op0 (sp_move rfl rfl) rfl trivial rfl rfl ?_
          rcases cond_cases h with ⟨h45, h⟩ | ⟨h45, h⟩
          · refine (boolLit 117 rfl h45).2 ?_
            obtain ⟨r34, h46, h⟩ := bind_inv h
            refine op0 (sp_call (avs := []) (need := []) (v := .val (.bool r34)) (news := []) rfl rfl rfl Try.call18 (atJ [] [] (fc_top_pubTrain h46) rfl rfl) (.inl (roAll rfl))) rfl ⟨_, rfl, rfl⟩ rfl rfl ?_
            refine op0 (sp_pickT rfl rfl rfl) rfl trivial rfl rfl ?_
            refine op0 (sp_move rfl rfl) rfl trivial rfl rfl ?_
            rcases cond_cases h with ⟨h47, h⟩ | ⟨h47, h⟩
            · refine (boolLit 120 rfl h47).2 ?_
              obtain ⟨r35, h48, h⟩ := bind_inv h
              refine op0 (sp_call (avs := []) (need := []) (v := .val (.bool r35)) (news := []) rfl rfl rfl Try.call31 (atJ [] [] (fc_top_pubStrike h48) rfl rfl) (.inl (roAll rfl))) rfl ⟨_, rfl, rfl⟩ rfl rfl ?_
              refine op0 (sp_pickT rfl rfl rfl) rfl trivial rfl rfl ?_
              refine op0 (sp_assign rfl rfl) rfl trivial rfl rfl ?_
              refine TL.nil ?_
              cases h
              exact retJ [] (.tmp rfl .nil) rfl trivial rfl rfl
            · refine (boolLit 120 rfl h47).2 ?_
              refine opSkip rfl ⟨_, rfl, .inl rfl⟩ rfl ?_
              refine op0 (sp_pickF rfl rfl rfl) rfl trivial rfl rfl ?_
              refine op0 (sp_assign rfl rfl) rfl trivial rfl rfl ?_
              refine TL.nil ?_
              cases h
              exact retJ [] (.tmp rfl .nil) rfl trivial rfl rfl
          · refine (boolLit 117 rfl h45).2 ?_
            refine opSkip rfl ⟨_, rfl, .inl rfl⟩ rfl ?_
            refine op0 (sp_pickF rfl rfl rfl) rfl trivial rfl rfl ?_
            refine op0 (sp_move rfl rfl) rfl trivial rfl rfl ?_
            refine opSkip rfl ⟨_, rfl, .inl rfl⟩ rfl ?_
            refine op0 (sp_pickF rfl rfl rfl) rfl trivial rfl rfl ?_
            refine op0 (sp_assign rfl rfl) rfl trivial rfl rfl ?_
            refine TL.nil ?_
            cases h
            exact retJ [] (.tmp rfl .nil) rfl trivial rfl rfl
        · refine (boolLit 108 rfl h44).2 ?_
          refine op0 (sp_move rfl rfl) rfl ⟨_, rfl, rfl⟩ rfl rfl ?_
          refine op0 (sp_eql rfl rfl rfl) rfl ⟨_, rfl, rfl⟩ rfl rfl ?_
          refine op0 (sp_pickF rfl rfl rfl) rfl trivial rfl rfl ?_
          refine op0 (sp_move rfl rfl) rfl trivial rfl rfl ?_
          rcases cond_cases h with ⟨h49, h⟩ | ⟨h49, h⟩
          · refine (boolLit 112 rfl h49).2 ?_
            refine op0 (sp_move rfl rfl) rfl ⟨_, rfl, rfl⟩ rfl rfl ?_
            refine op1 0 rfl (sp_lenM (N := r33.1.length) (len_map _ _) rfl rfl isOwn Try.underlying71) rfl ⟨_, rfl, rfl⟩ rfl rfl ?_
            refine op0 (sp_eql rfl rfl rfl) rfl ⟨_, rfl, rfl⟩ rfl rfl ?_
            refine op0 (sp_pickT rfl rfl rfl) rfl trivial rfl rfl ?_
            refine op0 (sp_move rfl rfl) rfl trivial rfl rfl ?_
            rcases cond_cases h with ⟨h50, h⟩ | ⟨h50, h⟩
            · refine (boolLit 117 rfl h50).2 ?_
              obtain ⟨r36, h51, h⟩ := bind_inv h
              refine op0 (sp_call (avs := []) (need := []) (v := .val (.bool r36)) (news := []) rfl rfl rfl Try.call18 (atJ [] [] (fc_top_pubTrain h51) rfl rfl) (.inl (roAll rfl))) rfl ⟨_, rfl, rfl⟩ rfl rfl ?_
              refine op0 (sp_pickT rfl rfl rfl) rfl trivial rfl rfl ?_
              refine op0 (sp_move rfl rfl) rfl trivial rfl rfl ?_
              rcases cond_cases h with ⟨h52, h⟩ | ⟨h52, h⟩
              · refine (boolLit 120 rfl h52).2 ?_
                obtain ⟨r37, h53, h⟩ := bind_inv h
                refine op0 (sp_call (avs := []) (need := []) (v := .val (.bool r37)) (news := []) rfl rfl rfl Try.call31 (atJ [] [] (fc_top_pubStrike h53) rfl rfl) (.inl (roAll rfl))) rfl ⟨_, rfl, rfl⟩ rfl rfl ?_
                refine op0 (sp_pickT rfl rfl rfl) rfl trivial rfl rfl ?_
                refine op0 (sp_assign rfl rfl) rfl trivial rfl rfl ?_
                refine TL.nil ?_
                cases h
                exact retJ [] (.tmp rfl .nil) rfl trivial rfl rfl
              · refine (boolLit 120 rfl h52).2 ?_
                refine opSkip rfl ⟨_, rfl, .inl rfl⟩ rfl ?_
                refine op0 (sp_pickF rfl rfl rfl) rfl trivial rfl rfl ?_
                refine op0 (sp_assign rfl rfl) rfl trivial rfl rfl ?_
                refine TL.nil ?_
                cases h
                exact retJ [] (.tmp rfl .nil) rfl trivial rfl rfl
            · refine (boolLit 117 rfl h50).2 ?_
              refine opSkip rfl ⟨_, rfl, .inl rfl⟩ rfl ?_
              refine op0 (sp_pickF rfl rfl rfl) rfl trivial rfl rfl ?_
              refine op0 (sp_move rfl rfl) rfl trivial rfl rfl ?_
              refine opSkip rfl ⟨_, rfl, .inl rfl⟩ rfl ?_
              refine op0 (sp_pickF rfl rfl rfl) rfl trivial rfl rfl ?_
              refine op0 (sp_assign rfl rfl) rfl trivial rfl rfl ?_
              refine TL.nil ?_
              cases h
              exact retJ [] (.tmp rfl .nil) rfl trivial rfl rfl
          · refine (boolLit 112 rfl h49).2 ?_
            refine opSkip rfl ⟨_, rfl, .inl rfl⟩ rfl ?_
            refine opSkip rfl ⟨_, rfl, .inl rfl⟩ rfl ?_
            refine opSkip rfl ⟨_, rfl, .inl rfl⟩ rfl ?_
            refine op0 (sp_pickF rfl rfl rfl) rfl trivial rfl rfl ?_
            refine op0 (sp_move rfl rfl) rfl trivial rfl rfl ?_
            refine opSkip rfl ⟨_, rfl, .inl rfl⟩ rfl ?_
            refine op0 (sp_pickF rfl rfl rfl) rfl trivial rfl rfl ?_
            refine op0 (sp_move rfl rfl) rfl trivial rfl rfl ?_
            refine opSkip rfl ⟨_, rfl, .inl rfl⟩ rfl ?_
            refine op0 (sp_pickF rfl rfl rfl) rfl trivial rfl rfl ?_
            refine op0 (sp_assign rfl rfl) rfl trivial rfl rfl ?_
            refine TL.nil ?_
            cases h
            exact retJ [] (.tmp rfl .nil) rfl trivial rfl rfl
      · have h := cond_f h h43
        refine TC.skip ?_
        refine TC.seq ?_
        refine TC.seq ?_
        refine TC.region ?_
        refine op0 (sp_assign rfl rfl) rfl trivial rfl rfl ?_
        refine TL.nil ?_
        refine TC.block ?_
        refine TC.loop ?_
        refine TC.seq ?_
        refine TC.seq ?_
        refine subJ [] (ok_top_TopStrikeTrain_l3 _ _ _ h) ?_ ?_ ?_
        · exact ⟨rfl, rfl, rfl, rfl, trivial⟩
        · exact ⟨mem_at 0 rfl, trivial⟩
        · rfl
def ev_top_TopStrikeTrain_j0 (n : Nat) (pins11 : Int) (r13 : Int × Int) (cut1 : Int) (cut2 : Int) (cut3 : Int) (cut4 : Int) (cut5 : Int) (cut6 : Int) (cut7 : Int) (cut8 : Int) (cut9 : Int) (cut10 : Int) : Option Bool :=
  chk (in64 pins11) <| chk (in64 ((4 : Int) + (Int.tmod pins11 10))) <| ev_top_TopStrikeTrain_l1 n r13 pins11 n 6 cut1 cut2 cut3 cut4 cut5 cut6 cut7 cut8 cut9 cut10 ([] : List Int) ([] : List Int)
set_option maxRecDepth 100000 in
set_option maxHeartbeats 2000000 in
theorem ok_top_TopStrikeTrain_j0 {n : Nat} {w0 : World} {R0 : Nat → Prop} {env0 : Env} {r : Bool} {pins11 : Int} {r13 : Int × Int} {cut1 : Int} {cut2 : Int} {cut3 : Int} {cut4 : Int} {cut5 : Int} {cut6 : Int} {cut7 : Int} {cut8 : Int} {cut9 : Int} {cut10 : Int} (h : ev_top_TopStrikeTrain_j0 n pins11 r13 cut1 cut2 cut3 cut4 cut5 cut6 cut7 cut8 cut9 cut10 = some r) : TC Try.prog ⟨w0, fun _ => False, R0⟩ 256 (bodyPost Try.prog Try.f6 (Post ⟨w0, fun _ => False, R0⟩ env0 (.val (.bool r)) [])) [.code (sub (bodyOf Try.f6) [1, 1, 1, 0, 1, 1]), .code (sub (bodyOf Try.f6) [1, 1, 1, 1])] ([(1, .val (.int .u8 pins11)), (7, .ptr 1 0), (8, .ptr 2 0), (9, .val (.int .i64 r13.1))]) ([.blk 1 [.val (.int .u8 cut1), .val (.int .u8 cut2), .val (.int .u8 cut3), .val (.int .u8 cut4), .val (.int .u8 cut5)] 67, .blk 2 [.val (.int .u8 cut6), .val (.int .u8 cut7), .val (.int .u8 cut8), .val (.int .u8 cut9), .val (.int .u8 cut10)] 67]) := by
  rw [ev_top_TopStrikeTrain_j0] at h
  refine TC.skip ?_
  refine TC.seq ?_
  refine TC.region ?_
  refine op0 (sp_move rfl rfl) rfl trivial rfl rfl ?_
  obtain ⟨h5, h⟩ := chk_inv h
  refine op0 (sp_conv rfl Try.underlying5 Try.underlying3 rfl h5) rfl trivial rfl rfl ?_
  refine op0 (sp_rem rfl rfl rfl (by decide)) rfl trivial rfl rfl ?_
  obtain ⟨h6, h⟩ := chk_inv h
  refine op0 (sp_add rfl rfl rfl h6) rfl trivial rfl rfl ?_
  refine op0 (sp_assign rfl rfl) rfl trivial rfl rfl ?_
  refine TL.nil ?_
  refine TC.seq ?_
  refine TC.region ?_
  refine op0 (sp_build (qs := []) rfl bt70 rfl rfl rfl rfl) rfl trivial rfl rfl ?_
  refine op0 (sp_alloc 4 rfl Try.zeroValue70 rfl) rfl trivial rfl rfl ?_
  refine stoB 0 (cells' := [.val (.slice none 0 0), .val (.slice none 0 0)]) rfl rfl trivial rfl rfl rfl rfl vt70 rfl rfl rfl ?_
  refine TL.nil ?_
  refine TC.seq ?_
  refine TC.seq ?_
  refine TC.region ?_
  refine op0 (sp_assign rfl rfl) rfl trivial rfl rfl ?_
  refine TL.nil ?_
  refine TC.block ?_
  refine TC.loop ?_
  refine TC.seq ?_
  refine TC.seq ?_
  refine nilCellC 0 26 3 1 4 (List.map en_int []) [.ref 26, .val (.slice none 0 0)] rfl rfl rfl ?_
  refine nilCellC 1 27 3 1 4 (List.map en_int []) [.ref 26, .ref 27] rfl rfl rfl ?_
  refine subJ [(5, 26), (6, 27)] (ok_top_TopStrikeTrain_l1 _ _ _ _ _ _ _ _ _ _ _ _ _ _ h) ?_ ?_ ?_
  · exact ⟨rfl, rfl, rfl, rfl, rfl, rfl, trivial⟩
  · exact ⟨mem_at 3 rfl, mem_at 4 rfl, mem_at 1 rfl, mem_at 0 rfl, mem_at 2 rfl, trivial⟩
  · rfl
def ev_top_TopStrikeTrain (n : Nat) (cut1 : Int) (cut2 : Int) (cut3 : Int) (cut4 : Int) (cut5 : Int) (cut6 : Int) (cut7 : Int) (cut8 : Int) (cut9 : Int) (cut10 : Int) (pins11 : Int) (halves12 : Bool) : Option Bool :=
  (ev_strike_Day n halves12 false ([])).bind fun r13 => cond (r13.2 != 0) (some false) (cond (r13.1 != 156) (cond (r13.1 != 180) (some false) (ev_top_TopStrikeTrain_j0 n pins11 r13 cut1 cut2 cut3 cut4 cut5 cut6 cut7 cut8 cut9 cut10)) (ev_top_TopStrikeTrain_j0 n pins11 r13 cut1 cut2 cut3 cut4 cut5 cut6 cut7 cut8 cut9 cut10))
set_option maxRecDepth 100000 in
set_option maxHeartbeats 2000000 in
theorem fc_top_TopStrikeTrain {n : Nat} {cut1 : Int} {cut2 : Int} {cut3 : Int} {cut4 : Int} {cut5 : Int} {cut6 : Int} {cut7 : Int} {cut8 : Int} {cut9 : Int} {cut10 : Int} {pins11 : Int} {halves12 : Bool} {r : Bool} (h : ev_top_TopStrikeTrain n cut1 cut2 cut3 cut4 cut5 cut6 cut7 cut8 cut9 cut10 pins11 halves12 = some r) : FC Try.prog 6 [.agg [.val (.int .u8 cut1), .val (.int .u8 cut2), .val (.int .u8 cut3), .val (.int .u8 cut4), .val (.int .u8 cut5), .val (.int .u8 cut6), .val (.int .u8 cut7), .val (.int .u8 cut8), .val (.int .u8 cut9), .val (.int .u8 cut10)], .val (.int .u8 pins11), .val (.bool halves12)] [] (.val (.bool r)) [] := by
  refine introJ (nz := 256) Try.func6 rfl rfl rfl (fun w0 R0 env0 => ?_)
  rw [ev_top_TopStrikeTrain] at h
  refine TC.seq ?_
  refine TC.region ?_
  refine op0 (sp_box 0 rfl rfl rfl rfl rfl) rfl trivial rfl rfl ?_
  refine op0 (sp_assign rfl rfl) rfl trivial rfl rfl ?_
  refine TL.nil ?_
  refine TC.seq ?_
  refine drawJ 7 [⟨.ptr 0 0, [], [.blk 0 [.val (.int .u8 cut1), .val (.int .u8 cut2), .val (.int .u8 cut3), .val (.int .u8 cut4), .val (.int .u8 cut5), .val (.int .u8 cut6), .val (.int .u8 cut7), .val (.int .u8 cut8), .val (.int .u8 cut9), .val (.int .u8 cut10)] 68], []⟩, ⟨.agg [.val (.int .u8 cut1), .val (.int .u8 cut2), .val (.int .u8 cut3), .val (.int .u8 cut4), .val (.int .u8 cut5)], [], [.blk 0 [.val (.int .u8 cut1), .val (.int .u8 cut2), .val (.int .u8 cut3), .val (.int .u8 cut4), .val (.int .u8 cut5), .val (.int .u8 cut6), .val (.int .u8 cut7), .val (.int .u8 cut8), .val (.int .u8 cut9), .val (.int .u8 cut10)] 68], []⟩, ⟨.ptr 0 5, [], [.blk 0 [.val (.int .u8 cut1), .val (.int .u8 cut2), .val (.int .u8 cut3), .val (.int .u8 cut4), .val (.int .u8 cut5), .val (.int .u8 cut6), .val (.int .u8 cut7), .val (.int .u8 cut8), .val (.int .u8 cut9), .val (.int .u8 cut10)] 68], []⟩, ⟨.agg [.val (.int .u8 cut6), .val (.int .u8 cut7), .val (.int .u8 cut8), .val (.int .u8 cut9), .val (.int .u8 cut10)], [], [.blk 0 [.val (.int .u8 cut1), .val (.int .u8 cut2), .val (.int .u8 cut3), .val (.int .u8 cut4), .val (.int .u8 cut5), .val (.int .u8 cut6), .val (.int .u8 cut7), .val (.int .u8 cut8), .val (.int .u8 cut9), .val (.int .u8 cut10)] 68], []⟩, ⟨.ptr 1 0, [.blk 1 [.val (.int .u8 0), .val (.int .u8 0), .val (.int .u8 0), .val (.int .u8 0), .val (.int .u8 0)] 67], [], []⟩, ⟨.ptr 2 0, [.blk 2 [.val (.int .u8 0), .val (.int .u8 0), .val (.int .u8 0), .val (.int .u8 0), .val (.int .u8 0)] 67], [], []⟩, ⟨.val (undef), [.blk 1 [.val (.int .u8 cut1), .val (.int .u8 cut2), .val (.int .u8 cut3), .val (.int .u8 cut4), .val (.int .u8 cut5)] 67], [], [.blk 1 [.val (.int .u8 0), .val (.int .u8 0), .val (.int .u8 0), .val (.int .u8 0), .val (.int .u8 0)] 67]⟩] rfl ?_ rfl ?_ rfl ?_ ?_
  · kernel_rfl
  · kernel_rfl
  · exact DAll.op' (sp_indexA (len := 2) (iv := 0) rfl isBlk rfl rfl Try.underlying68 vt67 (by decide)) trivial rfl (From.ok (ps := [(none, 0)]) ⟨⟨rfl, by kernel_rfl⟩, trivial⟩) (DAll.op' (sp_loadBA rfl isBlk rfl vt67 rfl rfl) trivial rfl (From.ok (ps := [(none, 0)]) ⟨⟨rfl, by kernel_rfl⟩, trivial⟩) (DAll.op' (sp_indexA (len := 2) (iv := 1) rfl isBlk rfl rfl Try.underlying68 vt67 (by decide)) trivial rfl (From.ok (ps := [(none, 0)]) ⟨⟨rfl, by kernel_rfl⟩, trivial⟩) (DAll.op' (sp_loadBA rfl isBlk rfl vt67 rfl rfl) trivial rfl (From.ok (ps := [(none, 0)]) ⟨⟨rfl, by kernel_rfl⟩, trivial⟩) (DAll.op' (sp_alloc 1 rfl Try.zeroValue67 rfl) trivial rfl (From.ok (ps := []) trivial) (DAll.op' (sp_alloc 2 rfl Try.zeroValue67 rfl) trivial rfl (From.ok (ps := []) trivial) (DAll.opT (ts_storeB (off := 0) (cells' := [.val (.int .u8 cut1), .val (.int .u8 cut2), .val (.int .u8 cut3), .val (.int .u8 cut4), .val (.int .u8 cut5)]) rfl rfl rfl rfl vt67 rfl rfl rfl) trivial (From.ok (ps := [(some 4, 0)]) ⟨⟨_, rfl, by kernel_rfl, rfl, by kernel_rfl⟩, trivial⟩) (From.ok (ps := []) trivial) (.nil)))))))
  refine stoB 1 (cells' := [.val (.int .u8 cut6), .val (.int .u8 cut7), .val (.int .u8 cut8), .val (.int .u8 cut9), .val (.int .u8 cut10)]) rfl rfl trivial rfl rfl rfl rfl vt67 rfl rfl rfl ?_
  refine TL.nil ?_
  refine TC.seq ?_
  refine TC.region ?_
  refine op0 (sp_move rfl rfl) rfl trivial rfl rfl ?_
  refine op0 (sp_build (qs := [(0, .val (.bool halves12))]) rfl bt48 rfl rfl rfl rfl) rfl trivial rfl rfl ?_
  obtain ⟨r13, h1, h⟩ := bind_inv h
  refine op0 (sp_call (avs := [.agg [.val (.bool halves12), .val (.bool false), .val (.slice none 0 0)]]) (need := []) (v := .tup [.val (.int .i64 r13.1), .val (.int .i64 r13.2)]) (news := []) rfl rfl rfl Try.call28 (FC.nil (args := [.agg [.val (.bool halves12), .val (.bool false), .ref 3]]) 3 2 (atJ [(0, 3)] [] (fc_strike_Day h1) rfl rfl) rfl rfl rfl) (.inl (roAll rfl))) rfl trivial rfl rfl ?_
  refine op0 (sp_move rfl rfl) rfl trivial rfl rfl ?_
  refine op0 (sp_extract rfl rfl rfl) rfl trivial rfl rfl ?_
  refine op0 (sp_extract rfl rfl rfl) rfl trivial rfl rfl ?_
  refine op0 (sp_assign rfl rfl) rfl trivial rfl rfl ?_
  refine op0 (sp_assign rfl rfl) rfl trivial rfl rfl ?_
  refine TL.nil ?_
  refine TC.seq ?_
  refine TC.seq ?_
  refine TC.region ?_
  refine op0 (sp_move rfl rfl) rfl trivial rfl rfl ?_
  refine op0 (sp_neq rfl rfl rfl) rfl trivial rfl rfl ?_
  refine op0 (sp_move rfl rfl) rfl trivial rfl rfl ?_
  rcases cond_cases h with ⟨h2, h⟩ | ⟨h2, h⟩
  · refine (boolLit 38 rfl h2).2 ?_
    refine opSkip rfl ⟨_, rfl, .inl rfl⟩ rfl ?_
    refine opSkip rfl ⟨_, rfl, .inl rfl⟩ rfl ?_
    refine opSkip rfl ⟨_, rfl, .inl rfl⟩ rfl ?_
    refine opSkip rfl ⟨_, rfl, .inr rfl⟩ rfl ?_
    refine opSkip rfl ⟨_, rfl, .inr rfl⟩ rfl ?_
    refine opSkip rfl ⟨_, rfl, .inl rfl⟩ rfl ?_
    refine op0 (sp_pickT rfl rfl rfl) rfl trivial rfl rfl ?_
    refine TL.nil ?_
    refine TC.condT rfl ?_
    refine TC.seq ?_
    refine TC.region ?_
    refine op0 (sp_assign rfl rfl) rfl trivial rfl rfl ?_
    refine TL.nil ?_
    cases h
    exact retJ [] (.tmp rfl .nil) rfl trivial rfl rfl
  · refine (boolLit 38 rfl h2).2 ?_
    refine op0 (sp_move rfl rfl) rfl ⟨_, rfl, rfl⟩ rfl rfl ?_
    refine op0 (sp_neq rfl rfl rfl) rfl ⟨_, rfl, rfl⟩ rfl rfl ?_
    refine op0 (sp_move rfl rfl) rfl ⟨_, rfl, rfl⟩ rfl rfl ?_
    rcases cond_cases h with ⟨h3, h⟩ | ⟨h3, h⟩
    · refine (boolLit 41 rfl h3).2 ?_
      refine op0 (sp_move rfl rfl) rfl ⟨_, rfl, rfl⟩ rfl rfl ?_
      refine op0 (sp_neq rfl rfl rfl) rfl ⟨_, rfl, rfl⟩ rfl rfl ?_
      refine op0 (sp_pickT rfl rfl rfl) rfl ⟨_, rfl, rfl⟩ rfl rfl ?_
      refine op0 (sp_pickF rfl rfl rfl) rfl trivial rfl rfl ?_
      refine TL.nil ?_
      refine TC.cond (b := (r13.1 != 180)) rfl (fun h4 => ?_) (fun h4 => ?_)
      · have h := cond_t h h4
        refine TC.seq ?_
        refine TC.region ?_
        refine op0 (sp_assign rfl rfl) rfl trivial rfl rfl ?_
        refine TL.nil ?_
        cases h
        exact retJ [] (.tmp rfl .nil) rfl trivial rfl rfl
      · have h := cond_f h h4
        refine subJ [] (ok_top_TopStrikeTrain_j0 h) ?_ ?_ ?_
        · exact ⟨rfl, rfl, rfl, rfl, trivial⟩
        · exact ⟨mem_at 0 rfl, mem_at 1 rfl, trivial⟩
        · rfl
    · refine (boolLit 41 rfl h3).2 ?_
      refine opSkip rfl ⟨_, rfl, .inl rfl⟩ rfl ?_
      refine opSkip rfl ⟨_, rfl, .inl rfl⟩ rfl ?_
      refine op0 (sp_pickF rfl rfl rfl) rfl ⟨_, rfl, rfl⟩ rfl rfl ?_
      refine op0 (sp_pickF rfl rfl rfl) rfl trivial rfl rfl ?_
      refine TL.nil ?_
      refine TC.condF rfl ?_
      refine subJ [] (ok_top_TopStrikeTrain_j0 h) ?_ ?_ ?_
      · exact ⟨rfl, rfl, rfl, rfl, trivial⟩
      · exact ⟨mem_at 0 rfl, mem_at 1 rfl, trivial⟩
      · rfl
end
end Go.Proofs.Ytgkoldcmbcbbpaa.Sy
