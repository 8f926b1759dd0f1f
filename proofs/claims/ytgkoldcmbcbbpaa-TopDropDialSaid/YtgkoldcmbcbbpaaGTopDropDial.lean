/- What functions of the program compute, and that they do: printed by symgen.py. -/
import Derived.Test.YtgkoldcmbcbbpaaGLib
import Derived.Test.YtgkoldcmbcbbpaaGDial
import Derived.Test.YtgkoldcmbcbbpaaGDrop
set_option linter.unusedSimpArgs false
set_option linter.unusedVariables false
namespace Go.Proofs.Ytgkoldcmbcbbpaa.Sy
open Go.RowKit
noncomputable section

/- top_TopDropDial -/
def ev_top_TopDropDial_l2 (n : Nat) (r18 : (List (Int × Int)) × Int) (r15 : (List (Int × Int)) × Int) (r16 : Int × Int × Int) (later8 : Int) (r19 : Int × Int × Int) : Nat → Int → Option Bool
  | 0, _ => none
  | m + 1, i20 => cond (decide (i20 < (r18.1.length : Int))) (idx r18.1 i20 fun x21 => idx r15.1 i20 fun x22 => cond (!((x21.1 == x22.1) && (x21.2 == x22.2))) (some false) (chk (in64 (i20 + 1)) <| ev_top_TopDropDial_l2 n r18 r15 r16 later8 r19 m (i20 + 1))) (chk (in64 (r16.1 - (Int.tmod later8 3601))) <| chk (in64 (r16.2.1 - (Int.tmod later8 3601))) <| (ev_top_pubSpan n (r16.1 - (Int.tmod later8 3601)) (r16.2.1 - (Int.tmod later8 3601))).bind fun r23 => cond ((r19.1 == r23.1) && (r19.2.1 == r23.2)) ((ev_top_pubDrop n).bind fun r24 => cond r24 ((ev_top_pubDial n).bind fun r25 => some r25) (some false)) (some false))
set_option maxRecDepth 100000 in
set_option maxHeartbeats 2000000 in
theorem ok_top_TopDropDial_l2 {n : Nat} {w0 : World} {R0 : Nat → Prop} {env0 : Env} {r : Bool} {later8 : Int} {r15 : (List (Int × Int)) × Int} {r16 : Int × Int × Int} {r18 : (List (Int × Int)) × Int} {r19 : Int × Int × Int} : ∀ (m : Nat) (i20 : Int), ev_top_TopDropDial_l2 n r18 r15 r16 later8 r19 m i20 = some r → TC Try.prog ⟨w0, fun _ => False, R0⟩ 213 (bodyPost Try.prog Try.f8 (Post ⟨w0, fun _ => False, R0⟩ env0 (.val (.bool r)) [])) [.code (sub (bodyOf Try.f8) [1, 1, 1, 1, 1, 1, 1, 1, 1, 1, 1, 1, 1, 1, 0, 1, 0, 0, 0, 0]), .code (sub (bodyOf Try.f8) [1, 1, 1, 1, 1, 1, 1, 1, 1, 1, 1, 1, 1, 1, 0, 1, 0, 0, 0, 1]), .code (sub (bodyOf Try.f8) [1, 1, 1, 1, 1, 1, 1, 1, 1, 1, 1, 1, 1, 1, 0, 1, 0, 0, 1]), .inLoop (sub (bodyOf Try.f8) [1, 1, 1, 1, 1, 1, 1, 1, 1, 1, 1, 1, 1, 1, 0, 1, 0, 0]), .inBlock 0, .code (sub (bodyOf Try.f8) [1, 1, 1, 1, 1, 1, 1, 1, 1, 1, 1, 1, 1, 1, 1])] ([(11, .val (.int .i64 (Int.tmod later8 3601))), (15, .ref 11), (16, .ptr 12 0), (18, .ref 13), (20, .ptr 14 0), (22, .val (.int .i64 i20))]) ([.row 11 34 2 (List.map en_api_Span r15.1), .blk 12 [.val (.int .i64 r16.1), .val (.int .i64 r16.2.1)] 34, .row 13 34 2 (List.map en_api_Span r18.1), .blk 14 [.val (.int .i64 r19.1), .val (.int .i64 r19.2.1)] 34]) := by
  intro m
  induction m with
  | zero => intro i20 h; exact none_no h
  | succ m ih =>
    intro i20 h
    rw [ev_top_TopDropDial_l2] at h
    refine TC.region ?_
    refine op0 (sp_move rfl rfl) rfl trivial rfl rfl ?_
    refine op0 (sp_move rfl rfl) rfl trivial rfl rfl ?_
    refine op1 2 rfl (sp_lenM (N := r18.1.length) (len_map _ _) rfl rfl isOwn Try.underlying39) rfl trivial rfl rfl ?_
    refine op0 (sp_lss rfl rfl rfl) rfl trivial rfl rfl ?_
    refine TL.nil ?_
    refine TC.cond (b := (decide (i20 < (r18.1.length : Int)))) rfl (fun h57 => ?_) (fun h57 => ?_)
    · have h := cond_t h h57
      refine TC.skip ?_
      refine TC.seq ?_
      refine TC.block ?_
      refine TC.seq ?_
      obtain ⟨x21, h58, h59, h⟩ := idx_inv h
      obtain ⟨x22, h60, h61, h⟩ := idx_inv h
      refine drawJ 8 [⟨.ref 13, [], [], []⟩, ⟨.val (.int .i64 i20), [], [], []⟩, ⟨.cell 13 ((i20 : Int).toNat * 2), [], [.row 13 34 2 (List.map en_api_Span r18.1)], []⟩, ⟨.agg [.val (.int .i64 x21.1), .val (.int .i64 x21.2)], [], [.row 13 34 2 (List.map en_api_Span r18.1)], []⟩, ⟨.ref 11, [], [], []⟩, ⟨.val (.int .i64 i20), [], [], []⟩, ⟨.cell 11 ((i20 : Int).toNat * 2), [], [.row 11 34 2 (List.map en_api_Span r15.1)], []⟩, ⟨.agg [.val (.int .i64 x22.1), .val (.int .i64 x22.2)], [], [.row 11 34 2 (List.map en_api_Span r15.1)], []⟩] rfl ?_ rfl ?_ rfl ?_ ?_
      · kernel_rfl
      · kernel_rfl
      · exact DAll.op' (sp_move rfl rfl) trivial rfl (From.ok (ps := []) trivial) (DAll.op' (sp_move rfl rfl) trivial rfl (From.ok (ps := []) trivial) (DAll.op' (sp_indexS rfl rfl rfl isOwn sl39 h58 (map_get _ h59)) trivial rfl (From.ok (ps := [(none, 2)]) ⟨⟨rfl, rfl⟩, trivial⟩) (DAll.op' (sp_loadRA (i := (i20 : Int).toNat) (j := 0) (as_ := [.val (.int .i64 x21.1), .val (.int .i64 x21.2)]) (ns := []) rfl rfl isOwn vt34 rfl (map_get _ h59) rfl rfl (by decide) (.v (.v (.nil))) (nodup_of_B rfl)) trivial rfl (From.ok (ps := [(none, 2)]) ⟨⟨rfl, rfl⟩, trivial⟩) (DAll.op' (sp_move rfl rfl) trivial rfl (From.ok (ps := []) trivial) (DAll.op' (sp_move rfl rfl) trivial rfl (From.ok (ps := []) trivial) (DAll.op' (sp_indexS rfl rfl rfl isOwn sl39 h60 (map_get _ h61)) trivial rfl (From.ok (ps := [(none, 0)]) ⟨⟨rfl, rfl⟩, trivial⟩) (DAll.op' (sp_loadRA (i := (i20 : Int).toNat) (j := 0) (as_ := [.val (.int .i64 x22.1), .val (.int .i64 x22.2)]) (ns := []) rfl rfl isOwn vt34 rfl (map_get _ h61) rfl rfl (by decide) (.v (.v (.nil))) (nodup_of_B rfl)) trivial rfl (From.ok (ps := [(none, 0)]) ⟨⟨rfl, rfl⟩, trivial⟩) (.nil))))))))
      refine op0 (sp_neqS rfl rfl rfl rfl rfl (eq34 _ _ _ _)) rfl trivial rfl rfl ?_
      refine TL.nil ?_
      refine TC.cond (b := (!((x21.1 == x22.1) && (x21.2 == x22.2)))) rfl (fun h62 => ?_) (fun h62 => ?_)
      · have h := cond_t h h62
        refine TC.seq ?_
        refine TC.region ?_
        refine op0 (sp_assign rfl rfl) rfl trivial rfl rfl ?_
        refine TL.nil ?_
        cases h
        exact retJ [] (.tmp rfl .nil) rfl trivial rfl rfl
      · have h := cond_f h h62
        refine TC.skip ?_
        refine TC.inBlock ?_
        refine TC.region ?_
        refine op0 (sp_move rfl rfl) rfl trivial rfl rfl ?_
        obtain ⟨h63, h⟩ := chk_inv h
        refine op0 (sp_add rfl rfl rfl h63) rfl trivial rfl rfl ?_
        refine op0 (sp_assign rfl rfl) rfl trivial rfl rfl ?_
        refine TL.nil ?_
        refine TC.inLoop ?_
        refine TC.seq ?_
        refine TC.seq ?_
        refine subJ [] (ih _ h) ?_ ?_ ?_
        · exact ⟨rfl, rfl, rfl, rfl, rfl, rfl, trivial⟩
        · exact ⟨mem_at 0 rfl, mem_at 1 rfl, mem_at 2 rfl, mem_at 3 rfl, trivial⟩
        · rfl
    · have h := cond_f h h57
      refine TC.exit rfl ?_
      refine TC.seq ?_
      obtain ⟨h64, h⟩ := chk_inv h
      obtain ⟨h65, h⟩ := chk_inv h
      obtain ⟨r23, h66, h⟩ := bind_inv h
      refine drawJ 10 [⟨.agg [.val (.int .i64 r19.1), .val (.int .i64 r19.2.1)], [], [.blk 14 [.val (.int .i64 r19.1), .val (.int .i64 r19.2.1)] 34], []⟩, ⟨.ptr 12 0, [], [.blk 12 [.val (.int .i64 r16.1), .val (.int .i64 r16.2.1)] 34], []⟩, ⟨.val (.int .i64 r16.1), [], [.blk 12 [.val (.int .i64 r16.1), .val (.int .i64 r16.2.1)] 34], []⟩, ⟨.val (.int .i64 (Int.tmod later8 3601)), [], [], []⟩, ⟨.val (.int .i64 (r16.1 - (Int.tmod later8 3601))), [], [], []⟩, ⟨.ptr 12 1, [], [.blk 12 [.val (.int .i64 r16.1), .val (.int .i64 r16.2.1)] 34], []⟩, ⟨.val (.int .i64 r16.2.1), [], [.blk 12 [.val (.int .i64 r16.1), .val (.int .i64 r16.2.1)] 34], []⟩, ⟨.val (.int .i64 (Int.tmod later8 3601)), [], [], []⟩, ⟨.val (.int .i64 (r16.2.1 - (Int.tmod later8 3601))), [], [], []⟩, ⟨.agg [.val (.int .i64 r23.1), .val (.int .i64 r23.2)], [], [], []⟩] rfl ?_ rfl ?_ rfl ?_ ?_
      · kernel_rfl
      · kernel_rfl
      · exact DAll.op' (sp_loadBA rfl isBlk rfl vt34 rfl rfl) trivial rfl (From.ok (ps := [(none, 3)]) ⟨⟨rfl, rfl⟩, trivial⟩) (DAll.op' (sp_fieldAddrB rfl isBlk rfl ft34_0 vt3 (by decide)) trivial rfl (From.ok (ps := [(none, 1)]) ⟨⟨rfl, rfl⟩, trivial⟩) (DAll.op' (sp_loadB rfl isBlk rfl vt3 rfl) trivial rfl (From.ok (ps := [(none, 1)]) ⟨⟨rfl, rfl⟩, trivial⟩) (DAll.op' (sp_move rfl rfl) trivial rfl (From.ok (ps := []) trivial) (DAll.op' (sp_sub rfl rfl rfl h64) trivial rfl (From.ok (ps := []) trivial) (DAll.op' (sp_fieldAddrB rfl isBlk rfl ft34_1 vt3 (by decide)) trivial rfl (From.ok (ps := [(none, 1)]) ⟨⟨rfl, rfl⟩, trivial⟩) (DAll.op' (sp_loadB rfl isBlk rfl vt3 rfl) trivial rfl (From.ok (ps := [(none, 1)]) ⟨⟨rfl, rfl⟩, trivial⟩) (DAll.op' (sp_move rfl rfl) trivial rfl (From.ok (ps := []) trivial) (DAll.op' (sp_sub rfl rfl rfl h65) trivial rfl (From.ok (ps := []) trivial) (DAll.op' (sp_call (avs := [.val (.int .i64 (r16.1 - (Int.tmod later8 3601))), .val (.int .i64 (r16.2.1 - (Int.tmod later8 3601)))]) (need := []) (v := .agg [.val (.int .i64 r23.1), .val (.int .i64 r23.2)]) (news := []) rfl rfl rfl Try.call20 (atJ [] [] (fc_top_pubSpan h66) rfl rfl) (.inl (roAll rfl))) trivial rfl (From.ok (ps := []) trivial) (.nil))))))))))
      refine op0 (sp_eqlS rfl rfl rfl rfl rfl (eq34 _ _ _ _)) rfl trivial rfl rfl ?_
      refine op0 (sp_move rfl rfl) rfl trivial rfl rfl ?_
      rcases cond_cases h with ⟨h67, h⟩ | ⟨h67, h⟩
      · refine (boolLit 207 rfl h67).2 ?_
        obtain ⟨r24, h68, h⟩ := bind_inv h
        refine op0 (sp_call (avs := []) (need := []) (v := .val (.bool r24)) (news := []) rfl rfl rfl Try.call19 (atJ [] [] (fc_top_pubDrop h68) rfl rfl) (.inl (roAll rfl))) rfl ⟨_, rfl, rfl⟩ rfl rfl ?_
        refine op0 (sp_pickT rfl rfl rfl) rfl trivial rfl rfl ?_
        refine op0 (sp_move rfl rfl) rfl trivial rfl rfl ?_
        rcases cond_cases h with ⟨h69, h⟩ | ⟨h69, h⟩
        · refine (boolLit 210 rfl h69).2 ?_
          obtain ⟨r25, h70, h⟩ := bind_inv h
          refine op0 (sp_call (avs := []) (need := []) (v := .val (.bool r25)) (news := []) rfl rfl rfl Try.call45 (atJ [] [] (fc_top_pubDial h70) rfl rfl) (.inl (roAll rfl))) rfl ⟨_, rfl, rfl⟩ rfl rfl ?_
          refine op0 (sp_pickT rfl rfl rfl) rfl trivial rfl rfl ?_
          refine op0 (sp_assign rfl rfl) rfl trivial rfl rfl ?_
          refine TL.nil ?_
          cases h
          exact retJ [] (.tmp rfl .nil) rfl trivial rfl rfl
        · refine (boolLit 210 rfl h69).2 ?_
          refine opSkip rfl ⟨_, rfl, .inl rfl⟩ rfl ?_
          refine op0 (sp_pickF rfl rfl rfl) rfl trivial rfl rfl ?_
          refine op0 (sp_assign rfl rfl) rfl trivial rfl rfl ?_
          refine TL.nil ?_
          cases h
          exact retJ [] (.tmp rfl .nil) rfl trivial rfl rfl
      · refine (boolLit 207 rfl h67).2 ?_
        refine opSkip rfl ⟨_, rfl, .inl rfl⟩ rfl ?_
        refine op0 (sp_pickF rfl rfl rfl) rfl trivial rfl rfl ?_
        refine op0 (sp_move rfl rfl) rfl trivial rfl rfl ?_
        refine opSkip rfl ⟨_, rfl, .inl rfl⟩ rfl ?_
        refine op0 (sp_pickF rfl rfl rfl) rfl trivial rfl rfl ?_
        refine op0 (sp_assign rfl rfl) rfl trivial rfl rfl ?_
        refine TL.nil ?_
        cases h
        exact retJ [] (.tmp rfl .nil) rfl trivial rfl rfl
def ev_top_TopDropDial_j1 (n : Nat) (r18 : (List (Int × Int)) × Int) (r15 : (List (Int × Int)) × Int) (r16 : Int × Int × Int) (later8 : Int) (r19 : Int × Int × Int) : Option Bool :=
  ev_top_TopDropDial_l2 n r18 r15 r16 later8 r19 n 0
set_option maxRecDepth 100000 in
set_option maxHeartbeats 2000000 in
theorem ok_top_TopDropDial_j1 {n : Nat} {w0 : World} {R0 : Nat → Prop} {env0 : Env} {r : Bool} {later8 : Int} {r15 : (List (Int × Int)) × Int} {r16 : Int × Int × Int} {r18 : (List (Int × Int)) × Int} {r19 : Int × Int × Int} (h : ev_top_TopDropDial_j1 n r18 r15 r16 later8 r19 = some r) : TC Try.prog ⟨w0, fun _ => False, R0⟩ 213 (bodyPost Try.prog Try.f8 (Post ⟨w0, fun _ => False, R0⟩ env0 (.val (.bool r)) [])) [.code (sub (bodyOf Try.f8) [1, 1, 1, 1, 1, 1, 1, 1, 1, 1, 1, 1, 1, 0, 1, 1]), .code (sub (bodyOf Try.f8) [1, 1, 1, 1, 1, 1, 1, 1, 1, 1, 1, 1, 1, 1])] ([(11, .val (.int .i64 (Int.tmod later8 3601))), (15, .ref 11), (16, .ptr 12 0), (18, .ref 13), (20, .ptr 14 0)]) ([.row 11 34 2 (List.map en_api_Span r15.1), .blk 12 [.val (.int .i64 r16.1), .val (.int .i64 r16.2.1)] 34, .row 13 34 2 (List.map en_api_Span r18.1), .blk 14 [.val (.int .i64 r19.1), .val (.int .i64 r19.2.1)] 34]) := by
  rw [ev_top_TopDropDial_j1] at h
  refine TC.skip ?_
  refine TC.seq ?_
  refine TC.seq ?_
  refine TC.region ?_
  refine op0 (sp_assign rfl rfl) rfl trivial rfl rfl ?_
  refine TL.nil ?_
  refine TC.block ?_
  refine TC.loop ?_
  refine TC.seq ?_
  refine TC.seq ?_
  refine subJ [] (ok_top_TopDropDial_l2 _ _ h) ?_ ?_ ?_
  · exact ⟨rfl, rfl, rfl, rfl, rfl, rfl, trivial⟩
  · exact ⟨mem_at 0 rfl, mem_at 1 rfl, mem_at 2 rfl, mem_at 3 rfl, trivial⟩
  · rfl
def ev_top_TopDropDial_j0 (n : Nat) (r11 : Int × Int × Int) (later8 : Int) (v4 : Int) (v5 : Int) (wind6 : Int) (wind7 : Int) : Option Bool :=
  chk (in64 ((3600 : Int) * r11.1)) <| chk (in64 later8) <| chk (in64 v4) <| chk (in64 v5) <| chk (in64 (v5 - 128)) <| chk (in64 v4) <| chk (in64 (Int.tdiv v4 8)) <| chk (decide (0 ≤ (Int.tmod v5 4)) && decide ((Int.tmod v5 4) < 4)) <| idx ([1, 30, 60, 120] : List Int) (Int.tmod v5 4) fun x13 => chk (in64 wind6) <| chk (in64 (wind6 - 128)) <| chk (in64 wind6) <| chk (in64 (wind6 - 128)) <| chk (in64 wind7) <| chk (in64 ((wind6 - 128) + wind7)) <| (ev_top_pubSpan n (wind6 - 128) ((wind6 - 128) + wind7)).bind fun r14 => (ev_dial_Shows n x13 0 0 ([(0, 0, ([((Int.tmod v4 30), 1, 1)] : List (Int × Int × Int)), (v5 - 128), (Int.tdiv v4 8))] : List (Int × Int × (List (Int × Int × Int)) × Int × Int)) 0 ((3600 : Int) * r11.1) r14.1 r14.2).bind fun r15 => (ev_dial_Off n x13 0 0 ([(0, 0, ([((Int.tmod v4 30), 1, 1)] : List (Int × Int × Int)), (v5 - 128), (Int.tdiv v4 8))] : List (Int × Int × (List (Int × Int × Int)) × Int × Int)) 0 ((3600 : Int) * r11.1) r14.1 r14.2).bind fun r16 => chk (in64 (0 - (Int.tmod later8 3601))) <| chk (in64 (0 - (Int.tmod later8 3601))) <| (ev_top_pubSpan n (0 - (Int.tmod later8 3601)) (0 - (Int.tmod later8 3601))).bind fun r17 => chk (in64 (((3600 : Int) * r11.1) + (Int.tmod later8 3601))) <| (ev_dial_Shows n x13 r17.1 r17.2 ([(0, 0, ([((Int.tmod v4 30), 1, 1)] : List (Int × Int × Int)), (v5 - 128), (Int.tdiv v4 8))] : List (Int × Int × (List (Int × Int × Int)) × Int × Int)) 0 (((3600 : Int) * r11.1) + (Int.tmod later8 3601)) r14.1 r14.2).bind fun r18 => chk (in64 (((3600 : Int) * r11.1) + (Int.tmod later8 3601))) <| (ev_dial_Off n x13 r17.1 r17.2 ([(0, 0, ([((Int.tmod v4 30), 1, 1)] : List (Int × Int × Int)), (v5 - 128), (Int.tdiv v4 8))] : List (Int × Int × (List (Int × Int × Int)) × Int × Int)) 0 (((3600 : Int) * r11.1) + (Int.tmod later8 3601)) r14.1 r14.2).bind fun r19 => cond (r15.2 != 0) (some false) (cond (r16.2.2 != 0) (some false) (cond (r18.2 != 0) (some false) (cond (r19.2.2 != 0) (some false) (cond ((r18.1.length : Int) != (r15.1.length : Int)) (some false) (ev_top_TopDropDial_j1 n r18 r15 r16 later8 r19)))))
set_option maxRecDepth 100000 in
set_option maxHeartbeats 2000000 in
theorem ok_top_TopDropDial_j0 {n : Nat} {w0 : World} {R0 : Nat → Prop} {env0 : Env} {r : Bool} {later8 : Int} {v1 : Int} {v2 : Int} {v3 : Int} {v4 : Int} {v5 : Int} {wind6 : Int} {wind7 : Int} {r11 : Int × Int × Int} (h : ev_top_TopDropDial_j0 n r11 later8 v4 v5 wind6 wind7 = some r) : TC Try.prog ⟨w0, fun _ => False, R0⟩ 213 (bodyPost Try.prog Try.f8 (Post ⟨w0, fun _ => False, R0⟩ env0 (.val (.bool r)) [])) [.code (sub (bodyOf Try.f8) [1, 1, 1, 0, 1, 1]), .code (sub (bodyOf Try.f8) [1, 1, 1, 1])] ([(2, .val (.int .u16 later8)), (3, .ptr 0 0), (4, .ptr 1 0), (8, .ptr 4 0)]) ([.blk 0 [.val (.int .u8 v1), .val (.int .u8 v2), .val (.int .u8 v3), .val (.int .u8 v4), .val (.int .u8 v5)] 67, .blk 1 [.val (.int .u8 wind6), .val (.int .u8 wind7)] 45, .blk 4 [.val (.int .i64 r11.1), .val (.int .i64 r11.2.1)] 34]) := by
  rw [ev_top_TopDropDial_j0] at h
  refine TC.skip ?_
  refine TC.seq ?_
  refine TC.region ?_
  refine op1 2 rfl (sp_fieldAddrB rfl isBlk rfl ft34_0 vt3 (by decide)) rfl trivial rfl rfl ?_
  refine op1 2 rfl (sp_loadB rfl isBlk rfl vt3 rfl) rfl trivial rfl rfl ?_
  obtain ⟨h23, h⟩ := chk_inv h
  refine op0 (sp_mul rfl rfl rfl h23) rfl trivial rfl rfl ?_
  refine op0 (sp_move rfl rfl) rfl trivial rfl rfl ?_
  obtain ⟨h24, h⟩ := chk_inv h
  refine op0 (sp_conv rfl Try.underlying46 Try.underlying3 rfl h24) rfl trivial rfl rfl ?_
  refine op0 (sp_rem rfl rfl rfl (by decide)) rfl trivial rfl rfl ?_
  refine op0 (sp_assign rfl rfl) rfl trivial rfl rfl ?_
  refine op0 (sp_assign rfl rfl) rfl trivial rfl rfl ?_
  refine TL.nil ?_
  refine TC.seq ?_
  refine TC.region ?_
  refine op1 0 rfl (sp_indexA (len := 5) (iv := 3) rfl isBlk rfl rfl Try.underlying67 vt5 (by decide)) rfl trivial rfl rfl ?_
  refine op1 0 rfl (sp_loadB rfl isBlk rfl vt5 rfl) rfl trivial rfl rfl ?_
  obtain ⟨h25, h⟩ := chk_inv h
  refine op0 (sp_conv rfl Try.underlying5 Try.underlying3 rfl h25) rfl trivial rfl rfl ?_
  refine op0 (sp_rem rfl rfl rfl (by decide)) rfl trivial rfl rfl ?_
  refine op0 (sp_build (qs := [(0, .val (.int .i64 1)), (1, .val (.int .i64 1))]) rfl bt26 rfl rfl rfl rfl) rfl trivial rfl rfl ?_
  refine op0 (sp_build (qs := [(0, .val (.int .i64 (Int.tmod v4 30))), (1, .agg [.val (.int .i64 1), .val (.int .i64 1)])]) rfl bt104 rfl rfl rfl rfl) rfl trivial rfl rfl ?_
  refine op0 (sp_buildSlice (qs := [.agg [.val (.int .i64 (Int.tmod v4 30)), .val (.int .i64 1), .val (.int .i64 1)]]) (need := []) (els := List.map en_api_DialLink ([((Int.tmod v4 30), 1, 1)] : List (Int × Int × Int))) 5 rfl sl105 (by decide) (by decide) rfl rfl rfl (.v (.v (.v (.nil)))) (map_len fun _ => rfl) rfl rfl rfl) rfl trivial rfl rfl ?_
  refine op1 1 rfl (sp_indexA (len := 5) (iv := 4) rfl isBlk rfl rfl Try.underlying67 vt5 (by decide)) rfl trivial rfl rfl ?_
  refine op1 1 rfl (sp_loadB rfl isBlk rfl vt5 rfl) rfl trivial rfl rfl ?_
  obtain ⟨h26, h⟩ := chk_inv h
  refine op0 (sp_conv rfl Try.underlying5 Try.underlying3 rfl h26) rfl trivial rfl rfl ?_
  obtain ⟨h27, h⟩ := chk_inv h
  refine op0 (sp_sub rfl rfl rfl h27) rfl trivial rfl rfl ?_
  refine op1 1 rfl (sp_indexA (len := 5) (iv := 3) rfl isBlk rfl rfl Try.underlying67 vt5 (by decide)) rfl trivial rfl rfl ?_
  refine op1 1 rfl (sp_loadB rfl isBlk rfl vt5 rfl) rfl trivial rfl rfl ?_
  obtain ⟨h28, h⟩ := chk_inv h
  refine op0 (sp_conv rfl Try.underlying5 Try.underlying3 rfl h28) rfl trivial rfl rfl ?_
  obtain ⟨h29, h⟩ := chk_inv h
  refine op0 (sp_quo rfl rfl rfl (by decide) h29) rfl trivial rfl rfl ?_
  refine op0 (sp_build (qs := [(1, .ref 5), (2, .val (.int .i64 (v5 - 128))), (3, .val (.int .i64 (Int.tdiv v4 8)))]) rfl bt107 rfl rfl rfl rfl) rfl trivial rfl rfl ?_
  refine op0 (sp_alloc 6 rfl Try.zeroValue107 rfl) rfl trivial rfl rfl ?_
  refine stoB 0 (cells' := [.val (.int .i64 0), .val (.int .i64 0), .ref 5, .val (.int .i64 (v5 - 128)), .val (.int .i64 (Int.tdiv v4 8))]) rfl rfl trivial rfl rfl rfl rfl vt107 rfl rfl rfl ?_
  refine TL.nil ?_
  refine TC.seq ?_
  refine TC.freeze 1 rfl ?_
  obtain ⟨h35, h⟩ := chk_inv h
  obtain ⟨x13, h33, h34, h⟩ := idx_inv h
  refine drawJ 9 [⟨.agg [.val (.int .i64 1), .val (.int .i64 30), .val (.int .i64 60), .val (.int .i64 120)], [], [], []⟩, ⟨.ptr 0 4, [], [.blk 0 [.val (.int .u8 v1), .val (.int .u8 v2), .val (.int .u8 v3), .val (.int .u8 v4), .val (.int .u8 v5)] 67], []⟩, ⟨.val (.int .u8 v5), [], [.blk 0 [.val (.int .u8 v1), .val (.int .u8 v2), .val (.int .u8 v3), .val (.int .u8 v4), .val (.int .u8 v5)] 67], []⟩, ⟨.val (.int .u8 (Int.tmod v5 4)), [], [], []⟩, ⟨.val (.int .i64 x13), [], [], []⟩, ⟨.agg [.val (.int .i64 0), .val (.int .i64 0), .ref 5, .val (.int .i64 (v5 - 128)), .val (.int .i64 (Int.tdiv v4 8))], [], [.blk 6 [.val (.int .i64 0), .val (.int .i64 0), .ref 5, .val (.int .i64 (v5 - 128)), .val (.int .i64 (Int.tdiv v4 8))] 107], []⟩, ⟨.ref 8, [.row 8 107 5 (List.map en_api_DialFace ([(0, 0, ([((Int.tmod v4 30), 1, 1)] : List (Int × Int × Int)), (v5 - 128), (Int.tdiv v4 8))] : List (Int × Int × (List (Int × Int × Int)) × Int × Int)))], [.ro 5 3 (List.map en_api_DialLink ([((Int.tmod v4 30), 1, 1)] : List (Int × Int × Int)))], []⟩, ⟨.agg [.val (.int .i64 x13), .val (.int .i64 0), .val (.int .i64 0), .ref 8], [], [], []⟩, ⟨.ptr 9 0, [.blk 9 [.val (.int .i64 0), .val (.int .i64 0), .val (.int .i64 0), .val (.slice none 0 0)] 111], [], []⟩] rfl ?_ rfl ?_ rfl ?_ ?_
  · kernel_rfl
  · kernel_rfl
  · exact DAll.op' (sp_build (qs := [(0, .val (.int .i64 1)), (1, .val (.int .i64 30)), (2, .val (.int .i64 60)), (3, .val (.int .i64 120))]) rfl bt108 rfl rfl rfl rfl) trivial rfl (From.ok (ps := []) trivial) (DAll.op' (sp_indexA (len := 5) (iv := 4) rfl isBlk rfl rfl Try.underlying67 vt5 (by decide)) trivial rfl (From.ok (ps := [(none, 2)]) ⟨⟨rfl, rfl⟩, trivial⟩) (DAll.op' (sp_loadB rfl isBlk rfl vt5 rfl) trivial rfl (From.ok (ps := [(none, 2)]) ⟨⟨rfl, rfl⟩, trivial⟩) (DAll.op' (sp_rem rfl rfl rfl (by decide)) trivial rfl (From.ok (ps := []) trivial) (DAll.op' (sp_index rfl rfl rfl Try.underlying108 vt3 h35 (map_get (fun z => AV.val (.int .i64 z)) h34)) trivial rfl (From.ok (ps := []) trivial) (DAll.op' (sp_loadBA rfl isBlk rfl vt107 rfl rfl) trivial rfl (From.ok (ps := [(none, 0)]) ⟨⟨rfl, rfl⟩, trivial⟩) (DAll.op' (sp_buildSlice (qs := [.agg [.val (.int .i64 0), .val (.int .i64 0), .ref 5, .val (.int .i64 (v5 - 128)), .val (.int .i64 (Int.tdiv v4 8))]]) (need := [.ro 5 3 (List.map en_api_DialLink ([((Int.tmod v4 30), 1, 1)] : List (Int × Int × Int)))]) (els := List.map en_api_DialFace ([(0, 0, ([((Int.tmod v4 30), 1, 1)] : List (Int × Int × Int)), (v5 - 128), (Int.tdiv v4 8))] : List (Int × Int × (List (Int × Int × Int)) × Int × Int))) 8 rfl sl109 (by decide) (by decide) rfl rfl rfl (.v (.v (.s (mem_at 0 rfl) (.v (.v (.nil)))))) (map_len fun _ => rfl) rfl rfl rfl) trivial rfl (From.ok (ps := [(none, 1)]) ⟨⟨rfl, rfl⟩, trivial⟩) (DAll.op' (sp_build (qs := [(0, .val (.int .i64 x13)), (2, .ref 8)]) rfl bt111 rfl rfl rfl rfl) trivial rfl (From.ok (ps := []) trivial) (DAll.op' (sp_alloc 9 rfl Try.zeroValue111 rfl) trivial rfl (From.ok (ps := []) trivial) (.nil)))))))))
  refine stoB 0 (cells' := [.val (.int .i64 x13), .val (.int .i64 0), .val (.int .i64 0), .ref 8]) rfl rfl trivial rfl rfl rfl rfl vt111 rfl rfl rfl ?_
  refine TL.nil ?_
  refine TC.seq ?_
  refine TC.region ?_
  refine op1 5 rfl (sp_indexA (len := 2) (iv := 0) rfl isBlk rfl rfl Try.underlying45 vt5 (by decide)) rfl trivial rfl rfl ?_
  refine op1 5 rfl (sp_loadB rfl isBlk rfl vt5 rfl) rfl trivial rfl rfl ?_
  obtain ⟨h36, h⟩ := chk_inv h
  refine op0 (sp_conv rfl Try.underlying5 Try.underlying3 rfl h36) rfl trivial rfl rfl ?_
  obtain ⟨h37, h⟩ := chk_inv h
  refine op0 (sp_sub rfl rfl rfl h37) rfl trivial rfl rfl ?_
  refine op1 5 rfl (sp_indexA (len := 2) (iv := 0) rfl isBlk rfl rfl Try.underlying45 vt5 (by decide)) rfl trivial rfl rfl ?_
  refine op1 5 rfl (sp_loadB rfl isBlk rfl vt5 rfl) rfl trivial rfl rfl ?_
  obtain ⟨h38, h⟩ := chk_inv h
  refine op0 (sp_conv rfl Try.underlying5 Try.underlying3 rfl h38) rfl trivial rfl rfl ?_
  obtain ⟨h39, h⟩ := chk_inv h
  refine op0 (sp_sub rfl rfl rfl h39) rfl trivial rfl rfl ?_
  refine op1 5 rfl (sp_indexA (len := 2) (iv := 1) rfl isBlk rfl rfl Try.underlying45 vt5 (by decide)) rfl trivial rfl rfl ?_
  refine op1 5 rfl (sp_loadB rfl isBlk rfl vt5 rfl) rfl trivial rfl rfl ?_
  obtain ⟨h40, h⟩ := chk_inv h
  refine op0 (sp_conv rfl Try.underlying5 Try.underlying3 rfl h40) rfl trivial rfl rfl ?_
  obtain ⟨h41, h⟩ := chk_inv h
  refine op0 (sp_add rfl rfl rfl h41) rfl trivial rfl rfl ?_
  obtain ⟨r14, h42, h⟩ := bind_inv h
  refine op0 (sp_call (avs := [.val (.int .i64 (wind6 - 128)), .val (.int .i64 ((wind6 - 128) + wind7))]) (need := []) (v := .agg [.val (.int .i64 r14.1), .val (.int .i64 r14.2)]) (news := []) rfl rfl rfl Try.call20 (atJ [] [] (fc_top_pubSpan h42) rfl rfl) (.inl (roAll rfl))) rfl trivial rfl rfl ?_
  refine op0 (sp_alloc 10 rfl Try.zeroValue34 rfl) rfl trivial rfl rfl ?_
  refine stoB 0 (cells' := [.val (.int .i64 r14.1), .val (.int .i64 r14.2)]) rfl rfl trivial rfl rfl rfl rfl vt34 rfl rfl rfl ?_
  refine TL.nil ?_
  refine TC.seq ?_
  refine TC.region ?_
  refine op1 1 rfl (sp_loadBA rfl isBlk rfl vt111 rfl rfl) rfl trivial rfl rfl ?_
  refine op0 (sp_move rfl rfl) rfl trivial rfl rfl ?_
  refine op1 0 rfl (sp_loadBA rfl isBlk rfl vt34 rfl rfl) rfl trivial rfl rfl ?_
  obtain ⟨r15, h43, h⟩ := bind_inv h
  refine op1 2 rfl (sp_call (avs := [.agg [.val (.int .i64 x13), .val (.int .i64 0), .val (.int .i64 0), .ref 8], .val (.int .i64 0), .val (.int .i64 ((3600 : Int) * r11.1)), .agg [.val (.int .i64 r14.1), .val (.int .i64 r14.2)]]) (need := [.row 8 107 5 (List.map en_api_DialFace ([(0, 0, ([((Int.tmod v4 30), 1, 1)] : List (Int × Int × Int)), (v5 - 128), (Int.tdiv v4 8))] : List (Int × Int × (List (Int × Int × Int)) × Int × Int)))]) (v := .tup [.ref 11, .val (.int .i64 r15.2)]) (news := [.row 11 34 2 (List.map en_api_Span r15.1)]) rfl rfl rfl Try.call43 (atJ [(0, 8)] [(500, 11)] (fc_dial_Shows h43) rfl rfl) (.inr (List.forall_mem_cons.2 ⟨indep_map en_api_Span_flat, (by simp)⟩))) rfl trivial rfl rfl ?_
  refine op0 (sp_move rfl rfl) rfl trivial rfl rfl ?_
  refine op0 (sp_extract rfl rfl rfl) rfl trivial rfl rfl ?_
  refine op0 (sp_extract rfl rfl rfl) rfl trivial rfl rfl ?_
  refine op0 (sp_assign rfl rfl) rfl trivial rfl rfl ?_
  refine op0 (sp_assign rfl rfl) rfl trivial rfl rfl ?_
  refine TL.nil ?_
  refine TC.seq ?_
  refine TC.region ?_
  refine op1 2 rfl (sp_loadBA rfl isBlk rfl vt111 rfl rfl) rfl trivial rfl rfl ?_
  refine op0 (sp_move rfl rfl) rfl trivial rfl rfl ?_
  refine op1 1 rfl (sp_loadBA rfl isBlk rfl vt34 rfl rfl) rfl trivial rfl rfl ?_
  obtain ⟨r16, h44, h⟩ := bind_inv h
  refine op1 3 rfl (sp_call (avs := [.agg [.val (.int .i64 x13), .val (.int .i64 0), .val (.int .i64 0), .ref 8], .val (.int .i64 0), .val (.int .i64 ((3600 : Int) * r11.1)), .agg [.val (.int .i64 r14.1), .val (.int .i64 r14.2)]]) (need := [.row 8 107 5 (List.map en_api_DialFace ([(0, 0, ([((Int.tmod v4 30), 1, 1)] : List (Int × Int × Int)), (v5 - 128), (Int.tdiv v4 8))] : List (Int × Int × (List (Int × Int × Int)) × Int × Int)))]) (v := .tup [.agg [.val (.int .i64 r16.1), .val (.int .i64 r16.2.1)], .val (.int .i64 r16.2.2)]) (news := []) rfl rfl rfl Try.call44 (atJ [(0, 8)] [] (fc_dial_Off h44) rfl rfl) (.inr (fun x hx => nomatch hx))) rfl trivial rfl rfl ?_
  refine op0 (sp_move rfl rfl) rfl trivial rfl rfl ?_
  refine op0 (sp_extract rfl rfl rfl) rfl trivial rfl rfl ?_
  refine op0 (sp_extract rfl rfl rfl) rfl trivial rfl rfl ?_
  refine op0 (sp_alloc 12 rfl Try.zeroValue34 rfl) rfl trivial rfl rfl ?_
  refine stoB 0 (cells' := [.val (.int .i64 r16.1), .val (.int .i64 r16.2.1)]) rfl rfl trivial rfl rfl rfl rfl vt34 rfl rfl rfl ?_
  refine op0 (sp_assign rfl rfl) rfl trivial rfl rfl ?_
  refine TL.nil ?_
  refine TC.seq ?_
  refine TC.region ?_
  refine op0 (sp_move rfl rfl) rfl trivial rfl rfl ?_
  obtain ⟨h45, h⟩ := chk_inv h
  refine op0 (sp_neg rfl rfl h45) rfl trivial rfl rfl ?_
  refine op0 (sp_move rfl rfl) rfl trivial rfl rfl ?_
  obtain ⟨h46, h⟩ := chk_inv h
  refine op0 (sp_neg rfl rfl h46) rfl trivial rfl rfl ?_
  obtain ⟨r17, h47, h⟩ := bind_inv h
  refine op0 (sp_call (avs := [.val (.int .i64 (0 - (Int.tmod later8 3601))), .val (.int .i64 (0 - (Int.tmod later8 3601)))]) (need := []) (v := .agg [.val (.int .i64 r17.1), .val (.int .i64 r17.2)]) (news := []) rfl rfl rfl Try.call20 (atJ [] [] (fc_top_pubSpan h47) rfl rfl) (.inl (roAll rfl))) rfl trivial rfl rfl ?_
  refine op1 3 rfl (sp_fieldAddrB rfl isBlk rfl ft111_1 vt34 (by decide)) rfl trivial rfl rfl ?_
  refine stoB 3 (cells' := [.val (.int .i64 x13), .val (.int .i64 r17.1), .val (.int .i64 r17.2), .ref 8]) rfl rfl trivial rfl rfl rfl rfl vt34 rfl rfl rfl ?_
  refine TL.nil ?_
  refine TC.seq ?_
  refine TC.region ?_
  refine op1 3 rfl (sp_loadBA rfl isBlk rfl vt111 rfl rfl) rfl trivial rfl rfl ?_
  refine op0 (sp_move rfl rfl) rfl trivial rfl rfl ?_
  refine op0 (sp_move rfl rfl) rfl trivial rfl rfl ?_
  obtain ⟨h48, h⟩ := chk_inv h
  refine op0 (sp_add rfl rfl rfl h48) rfl trivial rfl rfl ?_
  refine op1 2 rfl (sp_loadBA rfl isBlk rfl vt34 rfl rfl) rfl trivial rfl rfl ?_
  obtain ⟨r18, h49, h⟩ := bind_inv h
  refine op1 4 rfl (sp_call (avs := [.agg [.val (.int .i64 x13), .val (.int .i64 r17.1), .val (.int .i64 r17.2), .ref 8], .val (.int .i64 0), .val (.int .i64 (((3600 : Int) * r11.1) + (Int.tmod later8 3601))), .agg [.val (.int .i64 r14.1), .val (.int .i64 r14.2)]]) (need := [.row 8 107 5 (List.map en_api_DialFace ([(0, 0, ([((Int.tmod v4 30), 1, 1)] : List (Int × Int × Int)), (v5 - 128), (Int.tdiv v4 8))] : List (Int × Int × (List (Int × Int × Int)) × Int × Int)))]) (v := .tup [.ref 13, .val (.int .i64 r18.2)]) (news := [.row 13 34 2 (List.map en_api_Span r18.1)]) rfl rfl rfl Try.call43 (atJ [(0, 8)] [(500, 13)] (fc_dial_Shows h49) rfl rfl) (.inr (List.forall_mem_cons.2 ⟨indep_map en_api_Span_flat, (by simp)⟩))) rfl trivial rfl rfl ?_
  refine op0 (sp_move rfl rfl) rfl trivial rfl rfl ?_
  refine op0 (sp_extract rfl rfl rfl) rfl trivial rfl rfl ?_
  refine op0 (sp_extract rfl rfl rfl) rfl trivial rfl rfl ?_
  refine op0 (sp_assign rfl rfl) rfl trivial rfl rfl ?_
  refine op0 (sp_assign rfl rfl) rfl trivial rfl rfl ?_
  refine TL.nil ?_
  refine TC.seq ?_
  refine TC.region ?_
  refine op1 4 rfl (sp_loadBA rfl isBlk rfl vt111 rfl rfl) rfl trivial rfl rfl ?_
  refine op0 (sp_move rfl rfl) rfl trivial rfl rfl ?_
  refine op0 (sp_move rfl rfl) rfl trivial rfl rfl ?_
  obtain ⟨h50, h⟩ := chk_inv h
  refine op0 (sp_add rfl rfl rfl h50) rfl trivial rfl rfl ?_
  refine op1 3 rfl (sp_loadBA rfl isBlk rfl vt34 rfl rfl) rfl trivial rfl rfl ?_
  obtain ⟨r19, h51, h⟩ := bind_inv h
  refine op1 5 rfl (sp_call (avs := [.agg [.val (.int .i64 x13), .val (.int .i64 r17.1), .val (.int .i64 r17.2), .ref 8], .val (.int .i64 0), .val (.int .i64 (((3600 : Int) * r11.1) + (Int.tmod later8 3601))), .agg [.val (.int .i64 r14.1), .val (.int .i64 r14.2)]]) (need := [.row 8 107 5 (List.map en_api_DialFace ([(0, 0, ([((Int.tmod v4 30), 1, 1)] : List (Int × Int × Int)), (v5 - 128), (Int.tdiv v4 8))] : List (Int × Int × (List (Int × Int × Int)) × Int × Int)))]) (v := .tup [.agg [.val (.int .i64 r19.1), .val (.int .i64 r19.2.1)], .val (.int .i64 r19.2.2)]) (news := []) rfl rfl rfl Try.call44 (atJ [(0, 8)] [] (fc_dial_Off h51) rfl rfl) (.inr (fun x hx => nomatch hx))) rfl trivial rfl rfl ?_
  refine op0 (sp_move rfl rfl) rfl trivial rfl rfl ?_
  refine op0 (sp_extract rfl rfl rfl) rfl trivial rfl rfl ?_
  refine op0 (sp_extract rfl rfl rfl) rfl trivial rfl rfl ?_
  refine op0 (sp_alloc 14 rfl Try.zeroValue34 rfl) rfl trivial rfl rfl ?_
  refine stoB 0 (cells' := [.val (.int .i64 r19.1), .val (.int .i64 r19.2.1)]) rfl rfl trivial rfl rfl rfl rfl vt34 rfl rfl rfl ?_
  refine op0 (sp_assign rfl rfl) rfl trivial rfl rfl ?_
  refine TL.nil ?_
  refine TC.seq ?_
  refine TC.seq ?_
  refine TC.region ?_
  refine op0 (sp_move rfl rfl) rfl trivial rfl rfl ?_
  refine op0 (sp_neq rfl rfl rfl) rfl trivial rfl rfl ?_
  refine op0 (sp_move rfl rfl) rfl trivial rfl rfl ?_
  rcases cond_cases h with ⟨h52, h⟩ | ⟨h52, h⟩
  · refine (boolLit 162 rfl h52).2 ?_
    refine opSkip rfl ⟨_, rfl, .inl rfl⟩ rfl ?_
    refine opSkip rfl ⟨_, rfl, .inl rfl⟩ rfl ?_
    refine op0 (sp_pickT rfl rfl rfl) rfl trivial rfl rfl ?_
    refine op0 (sp_move rfl rfl) rfl trivial rfl rfl ?_
    refine opSkip rfl ⟨_, rfl, .inl rfl⟩ rfl ?_
    refine opSkip rfl ⟨_, rfl, .inl rfl⟩ rfl ?_
    refine op0 (sp_pickT rfl rfl rfl) rfl trivial rfl rfl ?_
    refine op0 (sp_move rfl rfl) rfl trivial rfl rfl ?_
    refine opSkip rfl ⟨_, rfl, .inl rfl⟩ rfl ?_
    refine opSkip rfl ⟨_, rfl, .inl rfl⟩ rfl ?_
    refine op0 (sp_pickT rfl rfl rfl) rfl trivial rfl rfl ?_
    refine op0 (sp_move rfl rfl) rfl trivial rfl rfl ?_
    refine opSkip rfl ⟨_, rfl, .inl rfl⟩ rfl ?_
    refine opSkip rfl ⟨_, rfl, .inl rfl⟩ rfl ?_
    refine opSkip rfl ⟨_, rfl, .inl rfl⟩ rfl ?_
    refine opSkip rfl ⟨_, rfl, .inl rfl⟩ rfl ?_
    refine opSkip rfl ⟨_, rfl, .inl rfl⟩ rfl ?_
    refine op0 (sp_pickT rfl rfl rfl) rfl trivial rfl rfl ?_
    refine TL.nil ?_
    refine TC.condT rfl ?_
    refine TC.seq ?_
    refine TC.region ?_
    refine op0 (sp_assign rfl rfl) rfl trivial rfl rfl ?_
    refine TL.nil ?_
    cases h
    exact retJ [] (.tmp rfl .nil) rfl trivial rfl rfl
  · refine (boolLit 162 rfl h52).2 ?_
    refine op0 (sp_move rfl rfl) rfl ⟨_, rfl, rfl⟩ rfl rfl ?_
    refine op0 (sp_neq rfl rfl rfl) rfl ⟨_, rfl, rfl⟩ rfl rfl ?_
    refine op0 (sp_pickF rfl rfl rfl) rfl trivial rfl rfl ?_
    refine op0 (sp_move rfl rfl) rfl trivial rfl rfl ?_
    rcases cond_cases h with ⟨h53, h⟩ | ⟨h53, h⟩
    · refine (boolLit 166 rfl h53).2 ?_
      refine opSkip rfl ⟨_, rfl, .inl rfl⟩ rfl ?_
      refine opSkip rfl ⟨_, rfl, .inl rfl⟩ rfl ?_
      refine op0 (sp_pickT rfl rfl rfl) rfl trivial rfl rfl ?_
      refine op0 (sp_move rfl rfl) rfl trivial rfl rfl ?_
      refine opSkip rfl ⟨_, rfl, .inl rfl⟩ rfl ?_
      refine opSkip rfl ⟨_, rfl, .inl rfl⟩ rfl ?_
      refine op0 (sp_pickT rfl rfl rfl) rfl trivial rfl rfl ?_
      refine op0 (sp_move rfl rfl) rfl trivial rfl rfl ?_
      refine opSkip rfl ⟨_, rfl, .inl rfl⟩ rfl ?_
      refine opSkip rfl ⟨_, rfl, .inl rfl⟩ rfl ?_
      refine opSkip rfl ⟨_, rfl, .inl rfl⟩ rfl ?_
      refine opSkip rfl ⟨_, rfl, .inl rfl⟩ rfl ?_
      refine opSkip rfl ⟨_, rfl, .inl rfl⟩ rfl ?_
      refine op0 (sp_pickT rfl rfl rfl) rfl trivial rfl rfl ?_
      refine TL.nil ?_
      refine TC.condT rfl ?_
      refine TC.seq ?_
      refine TC.region ?_
      refine op0 (sp_assign rfl rfl) rfl trivial rfl rfl ?_
      refine TL.nil ?_
      cases h
      exact retJ [] (.tmp rfl .nil) rfl trivial rfl rfl
    · refine (boolLit 166 rfl h53).2 ?_
      refine op0 (sp_move rfl rfl) rfl ⟨_, rfl, rfl⟩ rfl rfl ?_
      refine op0 (sp_neq rfl rfl rfl) rfl ⟨_, rfl, rfl⟩ rfl rfl ?_
      refine op0 (sp_pickF rfl rfl rfl) rfl trivial rfl rfl ?_
      refine op0 (sp_move rfl rfl) rfl trivial rfl rfl ?_
      rcases cond_cases h with ⟨h54, h⟩ | ⟨h54, h⟩
      · refine (boolLit 170 rfl h54).2 ?_
        refine opSkip rfl ⟨_, rfl, .inl rfl⟩ rfl ?_
        refine opSkip rfl ⟨_, rfl, .inl rfl⟩ rfl ?_
        refine op0 (sp_pickT rfl rfl rfl) rfl trivial rfl rfl ?_
        refine op0 (sp_move rfl rfl) rfl trivial rfl rfl ?_
        refine opSkip rfl ⟨_, rfl, .inl rfl⟩ rfl ?_
        refine opSkip rfl ⟨_, rfl, .inl rfl⟩ rfl ?_
        refine opSkip rfl ⟨_, rfl, .inl rfl⟩ rfl ?_
        refine opSkip rfl ⟨_, rfl, .inl rfl⟩ rfl ?_
        refine opSkip rfl ⟨_, rfl, .inl rfl⟩ rfl ?_
        refine op0 (sp_pickT rfl rfl rfl) rfl trivial rfl rfl ?_
        refine TL.nil ?_
        refine TC.condT rfl ?_
        refine TC.seq ?_
        refine TC.region ?_
        refine op0 (sp_assign rfl rfl) rfl trivial rfl rfl ?_
        refine TL.nil ?_
        cases h
        exact retJ [] (.tmp rfl .nil) rfl trivial rfl rfl
      · refine (boolLit 170 rfl h54).2 ?_
        refine op0 (sp_move rfl rfl) rfl ⟨_, rfl, rfl⟩ rfl rfl ?_
        refine op0 (sp_neq rfl rfl rfl) rfl ⟨_, rfl, rfl⟩ rfl rfl ?_
        refine op0 (sp_pickF rfl rfl rfl) rfl trivial rfl rfl ?_
        refine op0 (sp_move rfl rfl) rfl trivial rfl rfl ?_
        rcases cond_cases h with ⟨h55, h⟩ | ⟨h55, h⟩
        · refine (boolLit 174 rfl h55).2 ?_
          refine opSkip rfl ⟨_, rfl, .inl rfl⟩ rfl ?_
          refine opSkip rfl ⟨_, rfl, .inl rfl⟩ rfl ?_
          refine opSkip rfl ⟨_, rfl, .inl rfl⟩ rfl ?_
          refine opSkip rfl ⟨_, rfl, .inl rfl⟩ rfl ?_
          refine opSkip rfl ⟨_, rfl, .inl rfl⟩ rfl ?_
          refine op0 (sp_pickT rfl rfl rfl) rfl trivial rfl rfl ?_
          refine TL.nil ?_
          refine TC.condT rfl ?_
          refine TC.seq ?_
          refine TC.region ?_
          refine op0 (sp_assign rfl rfl) rfl trivial rfl rfl ?_
          refine TL.nil ?_
          cases h
          exact retJ [] (.tmp rfl .nil) rfl trivial rfl rfl
        · refine (boolLit 174 rfl h55).2 ?_
          refine op0 (sp_move rfl rfl) rfl ⟨_, rfl, rfl⟩ rfl rfl ?_
          refine op1 1 rfl (sp_lenM (N := r18.1.length) (len_map _ _) rfl rfl isOwn Try.underlying39) rfl ⟨_, rfl, rfl⟩ rfl rfl ?_
          refine op0 (sp_move rfl rfl) rfl ⟨_, rfl, rfl⟩ rfl rfl ?_
          refine op1 3 rfl (sp_lenM (N := r15.1.length) (len_map _ _) rfl rfl isOwn Try.underlying39) rfl ⟨_, rfl, rfl⟩ rfl rfl ?_
          refine op0 (sp_neq rfl rfl rfl) rfl ⟨_, rfl, rfl⟩ rfl rfl ?_
          refine op0 (sp_pickF rfl rfl rfl) rfl trivial rfl rfl ?_
          refine TL.nil ?_
          refine TC.cond (b := ((r18.1.length : Int) != (r15.1.length : Int))) rfl (fun h56 => ?_) (fun h56 => ?_)
          · have h := cond_t h h56
            refine TC.seq ?_
            refine TC.region ?_
            refine op0 (sp_assign rfl rfl) rfl trivial rfl rfl ?_
            refine TL.nil ?_
            cases h
            exact retJ [] (.tmp rfl .nil) rfl trivial rfl rfl
          · have h := cond_f h h56
            refine subJ [] (ok_top_TopDropDial_j1 h) ?_ ?_ ?_
            · exact ⟨rfl, rfl, rfl, rfl, rfl, trivial⟩
            · exact ⟨mem_at 3 rfl, mem_at 2 rfl, mem_at 1 rfl, mem_at 0 rfl, trivial⟩
            · rfl
def ev_top_TopDropDial (n : Nat) (v1 : Int) (v2 : Int) (v3 : Int) (v4 : Int) (v5 : Int) (wind6 : Int) (wind7 : Int) (later8 : Int) : Option Bool :=
  chk (in64 v1) <| chk (in64 ((1 : Int) + v1)) <| chk (in64 v2) <| chk (in64 ((1 : Int) + (Int.tmod v2 5))) <| chk (in64 v2) <| chk (in64 ((1 : Int) + (Int.tmod v2 5))) <| (ev_top_pubSpan n ((1 : Int) + (Int.tmod v2 5)) ((1 : Int) + (Int.tmod v2 5))).bind fun r9 => (ev_top_pubHours n r9.1 r9.2).bind fun r10 => chk (in64 v3) <| chk (in64 (((1 : Int) + v1) + 1)) <| chk ((((1 : Int) + v1) + 1) != 0) <| (ev_drop_Goes n ((1 : Int) + v1) r10 (Int.tmod v3 (((1 : Int) + v1) + 1)) 0).bind fun r11 => cond (r11.2.2 != 0) (some false) (cond (r11.1 != r11.2.1) (some false) (chk (in64 v3) <| chk (in64 (((1 : Int) + v1) + 1)) <| chk ((((1 : Int) + v1) + 1) != 0) <| chk (in64 v2) <| chk (in64 ((1 : Int) + (Int.tmod v2 5))) <| chk (((1 : Int) + (Int.tmod v2 5)) != 0) <| chk (in64 (Int.tdiv (Int.tmod v3 (((1 : Int) + v1) + 1)) ((1 : Int) + (Int.tmod v2 5)))) <| cond (r11.1 != (Int.tdiv (Int.tmod v3 (((1 : Int) + v1) + 1)) ((1 : Int) + (Int.tmod v2 5)))) (some false) (ev_top_TopDropDial_j0 n r11 later8 v4 v5 wind6 wind7)))
set_option maxRecDepth 100000 in
set_option maxHeartbeats 2000000 in
theorem fc_top_TopDropDial {n : Nat} {v1 : Int} {v2 : Int} {v3 : Int} {v4 : Int} {v5 : Int} {wind6 : Int} {wind7 : Int} {later8 : Int} {r : Bool} (h : ev_top_TopDropDial n v1 v2 v3 v4 v5 wind6 wind7 later8 = some r) : FC Try.prog 8 [.agg [.val (.int .u8 v1), .val (.int .u8 v2), .val (.int .u8 v3), .val (.int .u8 v4), .val (.int .u8 v5)], .agg [.val (.int .u8 wind6), .val (.int .u8 wind7)], .val (.int .u16 later8)] [] (.val (.bool r)) [] := by
  refine introJ (nz := 213) Try.func8 rfl rfl rfl (fun w0 R0 env0 => ?_)
  rw [ev_top_TopDropDial] at h
  refine TC.seq ?_
  refine TC.region ?_
  refine op0 (sp_box 0 rfl rfl rfl rfl rfl) rfl trivial rfl rfl ?_
  refine op0 (sp_box 1 rfl rfl rfl rfl rfl) rfl trivial rfl rfl ?_
  refine op0 (sp_assign rfl rfl) rfl trivial rfl rfl ?_
  refine TL.nil ?_
  refine TC.seq ?_
  obtain ⟨h1, h⟩ := chk_inv h
  obtain ⟨h2, h⟩ := chk_inv h
  obtain ⟨h3, h⟩ := chk_inv h
  obtain ⟨h4, h⟩ := chk_inv h
  obtain ⟨h5, h⟩ := chk_inv h
  obtain ⟨h6, h⟩ := chk_inv h
  obtain ⟨r9, h7, h⟩ := bind_inv h
  obtain ⟨r10, h8, h⟩ := bind_inv h
  refine drawJ 18 [⟨.ptr 0 0, [], [.blk 0 [.val (.int .u8 v1), .val (.int .u8 v2), .val (.int .u8 v3), .val (.int .u8 v4), .val (.int .u8 v5)] 67], []⟩, ⟨.val (.int .u8 v1), [], [.blk 0 [.val (.int .u8 v1), .val (.int .u8 v2), .val (.int .u8 v3), .val (.int .u8 v4), .val (.int .u8 v5)] 67], []⟩, ⟨.val (.int .i64 v1), [], [], []⟩, ⟨.val (.int .i64 ((1 : Int) + v1)), [], [], []⟩, ⟨.ptr 0 1, [], [.blk 0 [.val (.int .u8 v1), .val (.int .u8 v2), .val (.int .u8 v3), .val (.int .u8 v4), .val (.int .u8 v5)] 67], []⟩, ⟨.val (.int .u8 v2), [], [.blk 0 [.val (.int .u8 v1), .val (.int .u8 v2), .val (.int .u8 v3), .val (.int .u8 v4), .val (.int .u8 v5)] 67], []⟩, ⟨.val (.int .i64 v2), [], [], []⟩, ⟨.val (.int .i64 (Int.tmod v2 5)), [], [], []⟩, ⟨.val (.int .i64 ((1 : Int) + (Int.tmod v2 5))), [], [], []⟩, ⟨.ptr 0 1, [], [.blk 0 [.val (.int .u8 v1), .val (.int .u8 v2), .val (.int .u8 v3), .val (.int .u8 v4), .val (.int .u8 v5)] 67], []⟩, ⟨.val (.int .u8 v2), [], [.blk 0 [.val (.int .u8 v1), .val (.int .u8 v2), .val (.int .u8 v3), .val (.int .u8 v4), .val (.int .u8 v5)] 67], []⟩, ⟨.val (.int .i64 v2), [], [], []⟩, ⟨.val (.int .i64 (Int.tmod v2 5)), [], [], []⟩, ⟨.val (.int .i64 ((1 : Int) + (Int.tmod v2 5))), [], [], []⟩, ⟨.agg [.val (.int .i64 r9.1), .val (.int .i64 r9.2)], [], [], []⟩, ⟨.ref 2, [.row 2 34 2 (List.map en_api_Span r10)], [], []⟩, ⟨.agg [.val (.int .i64 ((1 : Int) + v1)), .ref 2], [], [], []⟩, ⟨.ptr 3 0, [.blk 3 [.val (.int .i64 0), .val (.slice none 0 0)] 42], [], []⟩] rfl ?_ rfl ?_ rfl ?_ ?_
  · kernel_rfl
  · kernel_rfl
  · exact DAll.op' (sp_indexA (len := 5) (iv := 0) rfl isBlk rfl rfl Try.underlying67 vt5 (by decide)) trivial rfl (From.ok (ps := [(none, 1)]) ⟨⟨rfl, rfl⟩, trivial⟩) (DAll.op' (sp_loadB rfl isBlk rfl vt5 rfl) trivial rfl (From.ok (ps := [(none, 1)]) ⟨⟨rfl, rfl⟩, trivial⟩) (DAll.op' (sp_conv rfl Try.underlying5 Try.underlying3 rfl h1) trivial rfl (From.ok (ps := []) trivial) (DAll.op' (sp_add rfl rfl rfl h2) trivial rfl (From.ok (ps := []) trivial) (DAll.op' (sp_indexA (len := 5) (iv := 1) rfl isBlk rfl rfl Try.underlying67 vt5 (by decide)) trivial rfl (From.ok (ps := [(none, 1)]) ⟨⟨rfl, rfl⟩, trivial⟩) (DAll.op' (sp_loadB rfl isBlk rfl vt5 rfl) trivial rfl (From.ok (ps := [(none, 1)]) ⟨⟨rfl, rfl⟩, trivial⟩) (DAll.op' (sp_conv rfl Try.underlying5 Try.underlying3 rfl h3) trivial rfl (From.ok (ps := []) trivial) (DAll.op' (sp_rem rfl rfl rfl (by decide)) trivial rfl (From.ok (ps := []) trivial) (DAll.op' (sp_add rfl rfl rfl h4) trivial rfl (From.ok (ps := []) trivial) (DAll.op' (sp_indexA (len := 5) (iv := 1) rfl isBlk rfl rfl Try.underlying67 vt5 (by decide)) trivial rfl (From.ok (ps := [(none, 1)]) ⟨⟨rfl, rfl⟩, trivial⟩) (DAll.op' (sp_loadB rfl isBlk rfl vt5 rfl) trivial rfl (From.ok (ps := [(none, 1)]) ⟨⟨rfl, rfl⟩, trivial⟩) (DAll.op' (sp_conv rfl Try.underlying5 Try.underlying3 rfl h5) trivial rfl (From.ok (ps := []) trivial) (DAll.op' (sp_rem rfl rfl rfl (by decide)) trivial rfl (From.ok (ps := []) trivial) (DAll.op' (sp_add rfl rfl rfl h6) trivial rfl (From.ok (ps := []) trivial) (DAll.op' (sp_call (avs := [.val (.int .i64 ((1 : Int) + (Int.tmod v2 5))), .val (.int .i64 ((1 : Int) + (Int.tmod v2 5)))]) (need := []) (v := .agg [.val (.int .i64 r9.1), .val (.int .i64 r9.2)]) (news := []) rfl rfl rfl Try.call20 (atJ [] [] (fc_top_pubSpan h7) rfl rfl) (.inl (roAll rfl))) trivial rfl (From.ok (ps := []) trivial) (DAll.op' (sp_call (avs := [.agg [.val (.int .i64 r9.1), .val (.int .i64 r9.2)]]) (need := []) (v := .ref 2) (news := [.row 2 34 2 (List.map en_api_Span r10)]) rfl rfl rfl Try.call24 (atJ [] [(0, 2)] (fc_top_pubHours h8) rfl rfl) (.inl (roAll rfl))) trivial rfl (From.ok (ps := []) trivial) (DAll.op' (sp_build (qs := [(0, .val (.int .i64 ((1 : Int) + v1))), (1, .ref 2)]) rfl bt42 rfl rfl rfl rfl) trivial rfl (From.ok (ps := []) trivial) (DAll.op' (sp_alloc 3 rfl Try.zeroValue42 rfl) trivial rfl (From.ok (ps := []) trivial) (.nil))))))))))))))))))
  refine stoB 0 (cells' := [.val (.int .i64 ((1 : Int) + v1)), .ref 2]) rfl rfl trivial rfl rfl rfl rfl vt42 rfl rfl rfl ?_
  refine TL.nil ?_
  refine TC.seq ?_
  obtain ⟨h9, h⟩ := chk_inv h
  obtain ⟨h10, h⟩ := chk_inv h
  obtain ⟨h11, h⟩ := chk_inv h
  obtain ⟨r11, h12, h⟩ := bind_inv h
  refine drawJ 14 [⟨.agg [.val (.int .i64 ((1 : Int) + v1)), .ref 2], [], [.blk 3 [.val (.int .i64 ((1 : Int) + v1)), .ref 2] 42], []⟩, ⟨.ptr 0 2, [], [.blk 0 [.val (.int .u8 v1), .val (.int .u8 v2), .val (.int .u8 v3), .val (.int .u8 v4), .val (.int .u8 v5)] 67], []⟩, ⟨.val (.int .u8 v3), [], [.blk 0 [.val (.int .u8 v1), .val (.int .u8 v2), .val (.int .u8 v3), .val (.int .u8 v4), .val (.int .u8 v5)] 67], []⟩, ⟨.val (.int .i64 v3), [], [], []⟩, ⟨.ptr 3 0, [], [.blk 3 [.val (.int .i64 ((1 : Int) + v1)), .ref 2] 42], []⟩, ⟨.val (.int .i64 ((1 : Int) + v1)), [], [.blk 3 [.val (.int .i64 ((1 : Int) + v1)), .ref 2] 42], []⟩, ⟨.val (.int .i64 (((1 : Int) + v1) + 1)), [], [], []⟩, ⟨.val (.int .i64 (Int.tmod v3 (((1 : Int) + v1) + 1))), [], [], []⟩, ⟨.tup [.agg [.val (.int .i64 r11.1), .val (.int .i64 r11.2.1)], .val (.int .i64 r11.2.2)], [], [.row 2 34 2 (List.map en_api_Span r10)], []⟩, ⟨.tup [.agg [.val (.int .i64 r11.1), .val (.int .i64 r11.2.1)], .val (.int .i64 r11.2.2)], [], [], []⟩, ⟨.agg [.val (.int .i64 r11.1), .val (.int .i64 r11.2.1)], [], [], []⟩, ⟨.val (.int .i64 r11.2.2), [], [], []⟩, ⟨.ptr 4 0, [.blk 4 [.val (.int .i64 0), .val (.int .i64 0)] 34], [], []⟩, ⟨.val (undef), [.blk 4 [.val (.int .i64 r11.1), .val (.int .i64 r11.2.1)] 34], [], [.blk 4 [.val (.int .i64 0), .val (.int .i64 0)] 34]⟩] rfl ?_ rfl ?_ rfl ?_ ?_
  · kernel_rfl
  · kernel_rfl
  · exact DAll.op' (sp_loadBA rfl isBlk rfl vt42 rfl rfl) trivial rfl (From.ok (ps := [(none, 0)]) ⟨⟨rfl, by kernel_rfl⟩, trivial⟩) (DAll.op' (sp_indexA (len := 5) (iv := 2) rfl isBlk rfl rfl Try.underlying67 vt5 (by decide)) trivial rfl (From.ok (ps := [(none, 3)]) ⟨⟨rfl, by kernel_rfl⟩, trivial⟩) (DAll.op' (sp_loadB rfl isBlk rfl vt5 rfl) trivial rfl (From.ok (ps := [(none, 3)]) ⟨⟨rfl, by kernel_rfl⟩, trivial⟩) (DAll.op' (sp_conv rfl Try.underlying5 Try.underlying3 rfl h9) trivial rfl (From.ok (ps := []) trivial) (DAll.op' (sp_fieldAddrB rfl isBlk rfl ft42_0 vt3 (by decide)) trivial rfl (From.ok (ps := [(none, 0)]) ⟨⟨rfl, by kernel_rfl⟩, trivial⟩) (DAll.op' (sp_loadB rfl isBlk rfl vt3 rfl) trivial rfl (From.ok (ps := [(none, 0)]) ⟨⟨rfl, by kernel_rfl⟩, trivial⟩) (DAll.op' (sp_add rfl rfl rfl h10) trivial rfl (From.ok (ps := []) trivial) (DAll.op' (sp_rem rfl rfl rfl h11) trivial rfl (From.ok (ps := []) trivial) (DAll.op' (sp_call (avs := [.agg [.val (.int .i64 ((1 : Int) + v1)), .ref 2], .val (.int .i64 (Int.tmod v3 (((1 : Int) + v1) + 1))), .val (.int .i64 0)]) (need := [.row 2 34 2 (List.map en_api_Span r10)]) (v := .tup [.agg [.val (.int .i64 r11.1), .val (.int .i64 r11.2.1)], .val (.int .i64 r11.2.2)]) (news := []) rfl rfl rfl Try.call23 (atJ [(0, 2)] [] (fc_drop_Goes h12) rfl rfl) (.inr (fun x hx => nomatch hx))) trivial rfl (From.ok (ps := [(none, 1)]) ⟨⟨rfl, by kernel_rfl⟩, trivial⟩) (DAll.op' (sp_move rfl rfl) trivial rfl (From.ok (ps := []) trivial) (DAll.op' (sp_extract rfl rfl rfl) trivial rfl (From.ok (ps := []) trivial) (DAll.op' (sp_extract rfl rfl rfl) trivial rfl (From.ok (ps := []) trivial) (DAll.op' (sp_alloc 4 rfl Try.zeroValue34 rfl) trivial rfl (From.ok (ps := []) trivial) (DAll.opT (ts_storeB (off := 0) (cells' := [.val (.int .i64 r11.1), .val (.int .i64 r11.2.1)]) rfl rfl rfl rfl vt34 rfl rfl rfl) trivial (From.ok (ps := [(some 12, 0)]) ⟨⟨_, rfl, by kernel_rfl, rfl, by kernel_rfl⟩, trivial⟩) (From.ok (ps := []) trivial) (.nil))))))))))))))
  refine op0 (sp_assign rfl rfl) rfl trivial rfl rfl ?_
  refine TL.nil ?_
  refine TC.seq ?_
  refine TC.seq ?_
  rcases cond_cases h with ⟨h13, h⟩ | ⟨h13, h⟩
  · refine drawJ 25 [⟨.val (.int .i64 r11.2.2), [], [], []⟩, ⟨.val (.bool (r11.2.2 != 0)), [], [], []⟩, ⟨.val (.bool true), [], [], []⟩, ⟨.val (undef), [], [], []⟩, ⟨.val (undef), [], [], []⟩, ⟨.val (undef), [], [], []⟩, ⟨.val (undef), [], [], []⟩, ⟨.val (undef), [], [], []⟩, ⟨.val (.bool true), [], [], []⟩, ⟨.val (.bool true), [], [], []⟩, ⟨.val (undef), [], [], []⟩, ⟨.val (undef), [], [], []⟩, ⟨.val (undef), [], [], []⟩, ⟨.val (undef), [], [], []⟩, ⟨.val (undef), [], [], []⟩, ⟨.val (undef), [], [], []⟩, ⟨.val (undef), [], [], []⟩, ⟨.val (undef), [], [], []⟩, ⟨.val (undef), [], [], []⟩, ⟨.val (undef), [], [], []⟩, ⟨.val (undef), [], [], []⟩, ⟨.val (undef), [], [], []⟩, ⟨.val (undef), [], [], []⟩, ⟨.val (undef), [], [], []⟩, ⟨.val (undef), [], [], []⟩] rfl ?_ rfl ?_ rfl ?_ ?_
    · kernel_rfl
    · kernel_rfl
    · exact DAll.op' (sp_move rfl rfl) trivial rfl (From.ok (ps := []) trivial) (DAll.op' (sp_neq rfl rfl rfl) trivial rfl (From.ok (ps := []) trivial) (DAll.op' (sp_castB h13 (sp_move rfl rfl)) trivial rfl (From.ok (ps := []) trivial) (.skip ⟨_, rfl, .inl rfl⟩ rfl rfl rfl (.skip ⟨_, rfl, .inl rfl⟩ rfl rfl rfl (.skip ⟨_, rfl, .inl rfl⟩ rfl rfl rfl (.skip ⟨_, rfl, .inl rfl⟩ rfl rfl rfl (.skip ⟨_, rfl, .inl rfl⟩ rfl rfl rfl (DAll.op' (sp_pickT rfl rfl rfl) trivial rfl (From.ok (ps := []) trivial) (DAll.op' (sp_move rfl rfl) trivial rfl (From.ok (ps := []) trivial) (.skip ⟨_, rfl, .inl rfl⟩ rfl rfl rfl (.skip ⟨_, rfl, .inl rfl⟩ rfl rfl rfl (.skip ⟨_, rfl, .inl rfl⟩ rfl rfl rfl (.skip ⟨_, rfl, .inl rfl⟩ rfl rfl rfl (.skip ⟨_, rfl, .inl rfl⟩ rfl rfl rfl (.skip ⟨_, rfl, .inl rfl⟩ rfl rfl rfl (.skip ⟨_, rfl, .inl rfl⟩ rfl rfl rfl (.skip ⟨_, rfl, .inl rfl⟩ rfl rfl rfl (.skip ⟨_, rfl, .inl rfl⟩ rfl rfl rfl (.skip ⟨_, rfl, .inl rfl⟩ rfl rfl rfl (.skip ⟨_, rfl, .inl rfl⟩ rfl rfl rfl (.skip ⟨_, rfl, .inl rfl⟩ rfl rfl rfl (.skip ⟨_, rfl, .inl rfl⟩ rfl rfl rfl (.skip ⟨_, rfl, .inl rfl⟩ rfl rfl rfl (.skip ⟨_, rfl, .inl rfl⟩ rfl rfl rfl (.nil)))))))))))))))))))))))))
    refine opSkip rfl ⟨_, rfl, .inl rfl⟩ rfl ?_
    refine op0 (sp_pickT rfl rfl rfl) rfl trivial rfl rfl ?_
    refine TL.nil ?_
    refine TC.condT rfl ?_
    refine TC.seq ?_
    refine TC.region ?_
    refine op0 (sp_assign rfl rfl) rfl trivial rfl rfl ?_
    refine TL.nil ?_
    cases h
    exact retJ [] (.tmp rfl .nil) rfl trivial rfl rfl
  · rcases cond_cases h with ⟨h14, h⟩ | ⟨h14, h⟩
    · refine drawJ 25 [⟨.val (.int .i64 r11.2.2), [], [], []⟩, ⟨.val (.bool (r11.2.2 != 0)), [], [], []⟩, ⟨.val (.bool false), [], [], []⟩, ⟨.ptr 4 0, [], [.blk 4 [.val (.int .i64 r11.1), .val (.int .i64 r11.2.1)] 34], []⟩, ⟨.val (.int .i64 r11.1), [], [.blk 4 [.val (.int .i64 r11.1), .val (.int .i64 r11.2.1)] 34], []⟩, ⟨.ptr 4 1, [], [.blk 4 [.val (.int .i64 r11.1), .val (.int .i64 r11.2.1)] 34], []⟩, ⟨.val (.int .i64 r11.2.1), [], [.blk 4 [.val (.int .i64 r11.1), .val (.int .i64 r11.2.1)] 34], []⟩, ⟨.val (.bool (r11.1 != r11.2.1)), [], [], []⟩, ⟨.val (.bool (r11.1 != r11.2.1)), [], [], []⟩, ⟨.val (.bool true), [], [], []⟩, ⟨.val (undef), [], [], []⟩, ⟨.val (undef), [], [], []⟩, ⟨.val (undef), [], [], []⟩, ⟨.val (undef), [], [], []⟩, ⟨.val (undef), [], [], []⟩, ⟨.val (undef), [], [], []⟩, ⟨.val (undef), [], [], []⟩, ⟨.val (undef), [], [], []⟩, ⟨.val (undef), [], [], []⟩, ⟨.val (undef), [], [], []⟩, ⟨.val (undef), [], [], []⟩, ⟨.val (undef), [], [], []⟩, ⟨.val (undef), [], [], []⟩, ⟨.val (undef), [], [], []⟩, ⟨.val (undef), [], [], []⟩] rfl ?_ rfl ?_ rfl ?_ ?_
      · kernel_rfl
      · kernel_rfl
      · exact DAll.op' (sp_move rfl rfl) trivial rfl (From.ok (ps := []) trivial) (DAll.op' (sp_neq rfl rfl rfl) trivial rfl (From.ok (ps := []) trivial) (DAll.op' (sp_castB h13 (sp_move rfl rfl)) trivial rfl (From.ok (ps := []) trivial) (DAll.op' (sp_fieldAddrB rfl isBlk rfl ft34_0 vt3 (by decide)) ⟨_, rfl, rfl⟩ rfl (From.ok (ps := [(none, 0)]) ⟨⟨rfl, rfl⟩, trivial⟩) (DAll.op' (sp_loadB rfl isBlk rfl vt3 rfl) ⟨_, rfl, rfl⟩ rfl (From.ok (ps := [(none, 0)]) ⟨⟨rfl, rfl⟩, trivial⟩) (DAll.op' (sp_fieldAddrB rfl isBlk rfl ft34_1 vt3 (by decide)) ⟨_, rfl, rfl⟩ rfl (From.ok (ps := [(none, 0)]) ⟨⟨rfl, rfl⟩, trivial⟩) (DAll.op' (sp_loadB rfl isBlk rfl vt3 rfl) ⟨_, rfl, rfl⟩ rfl (From.ok (ps := [(none, 0)]) ⟨⟨rfl, rfl⟩, trivial⟩) (DAll.op' (sp_neq rfl rfl rfl) ⟨_, rfl, rfl⟩ rfl (From.ok (ps := []) trivial) (DAll.op' (sp_pickF rfl rfl rfl) trivial rfl (From.ok (ps := []) trivial) (DAll.op' (sp_castB h14 (sp_move rfl rfl)) trivial rfl (From.ok (ps := []) trivial) (.skip ⟨_, rfl, .inl rfl⟩ rfl rfl rfl (.skip ⟨_, rfl, .inl rfl⟩ rfl rfl rfl (.skip ⟨_, rfl, .inl rfl⟩ rfl rfl rfl (.skip ⟨_, rfl, .inl rfl⟩ rfl rfl rfl (.skip ⟨_, rfl, .inl rfl⟩ rfl rfl rfl (.skip ⟨_, rfl, .inl rfl⟩ rfl rfl rfl (.skip ⟨_, rfl, .inl rfl⟩ rfl rfl rfl (.skip ⟨_, rfl, .inl rfl⟩ rfl rfl rfl (.skip ⟨_, rfl, .inl rfl⟩ rfl rfl rfl (.skip ⟨_, rfl, .inl rfl⟩ rfl rfl rfl (.skip ⟨_, rfl, .inl rfl⟩ rfl rfl rfl (.skip ⟨_, rfl, .inl rfl⟩ rfl rfl rfl (.skip ⟨_, rfl, .inl rfl⟩ rfl rfl rfl (.skip ⟨_, rfl, .inl rfl⟩ rfl rfl rfl (.skip ⟨_, rfl, .inl rfl⟩ rfl rfl rfl (.nil)))))))))))))))))))))))))
      refine opSkip rfl ⟨_, rfl, .inl rfl⟩ rfl ?_
      refine op0 (sp_pickT rfl rfl rfl) rfl trivial rfl rfl ?_
      refine TL.nil ?_
      refine TC.condT rfl ?_
      refine TC.seq ?_
      refine TC.region ?_
      refine op0 (sp_assign rfl rfl) rfl trivial rfl rfl ?_
      refine TL.nil ?_
      cases h
      exact retJ [] (.tmp rfl .nil) rfl trivial rfl rfl
    · obtain ⟨h15, h⟩ := chk_inv h
      obtain ⟨h16, h⟩ := chk_inv h
      obtain ⟨h17, h⟩ := chk_inv h
      obtain ⟨h18, h⟩ := chk_inv h
      obtain ⟨h19, h⟩ := chk_inv h
      obtain ⟨h20, h⟩ := chk_inv h
      obtain ⟨h21, h⟩ := chk_inv h
      refine drawJ 25 [⟨.val (.int .i64 r11.2.2), [], [], []⟩, ⟨.val (.bool (r11.2.2 != 0)), [], [], []⟩, ⟨.val (.bool false), [], [], []⟩, ⟨.ptr 4 0, [], [.blk 4 [.val (.int .i64 r11.1), .val (.int .i64 r11.2.1)] 34], []⟩, ⟨.val (.int .i64 r11.1), [], [.blk 4 [.val (.int .i64 r11.1), .val (.int .i64 r11.2.1)] 34], []⟩, ⟨.ptr 4 1, [], [.blk 4 [.val (.int .i64 r11.1), .val (.int .i64 r11.2.1)] 34], []⟩, ⟨.val (.int .i64 r11.2.1), [], [.blk 4 [.val (.int .i64 r11.1), .val (.int .i64 r11.2.1)] 34], []⟩, ⟨.val (.bool (r11.1 != r11.2.1)), [], [], []⟩, ⟨.val (.bool (r11.1 != r11.2.1)), [], [], []⟩, ⟨.val (.bool false), [], [], []⟩, ⟨.ptr 4 0, [], [.blk 4 [.val (.int .i64 r11.1), .val (.int .i64 r11.2.1)] 34], []⟩, ⟨.val (.int .i64 r11.1), [], [.blk 4 [.val (.int .i64 r11.1), .val (.int .i64 r11.2.1)] 34], []⟩, ⟨.ptr 0 2, [], [.blk 0 [.val (.int .u8 v1), .val (.int .u8 v2), .val (.int .u8 v3), .val (.int .u8 v4), .val (.int .u8 v5)] 67], []⟩, ⟨.val (.int .u8 v3), [], [.blk 0 [.val (.int .u8 v1), .val (.int .u8 v2), .val (.int .u8 v3), .val (.int .u8 v4), .val (.int .u8 v5)] 67], []⟩, ⟨.val (.int .i64 v3), [], [], []⟩, ⟨.ptr 3 0, [], [.blk 3 [.val (.int .i64 ((1 : Int) + v1)), .ref 2] 42], []⟩, ⟨.val (.int .i64 ((1 : Int) + v1)), [], [.blk 3 [.val (.int .i64 ((1 : Int) + v1)), .ref 2] 42], []⟩, ⟨.val (.int .i64 (((1 : Int) + v1) + 1)), [], [], []⟩, ⟨.val (.int .i64 (Int.tmod v3 (((1 : Int) + v1) + 1))), [], [], []⟩, ⟨.ptr 0 1, [], [.blk 0 [.val (.int .u8 v1), .val (.int .u8 v2), .val (.int .u8 v3), .val (.int .u8 v4), .val (.int .u8 v5)] 67], []⟩, ⟨.val (.int .u8 v2), [], [.blk 0 [.val (.int .u8 v1), .val (.int .u8 v2), .val (.int .u8 v3), .val (.int .u8 v4), .val (.int .u8 v5)] 67], []⟩, ⟨.val (.int .i64 v2), [], [], []⟩, ⟨.val (.int .i64 (Int.tmod v2 5)), [], [], []⟩, ⟨.val (.int .i64 ((1 : Int) + (Int.tmod v2 5))), [], [], []⟩, ⟨.val (.int .i64 (Int.tdiv (Int.tmod v3 (((1 : Int) + v1) + 1)) ((1 : Int) + (Int.tmod v2 5)))), [], [], []⟩] rfl ?_ rfl ?_ rfl ?_ ?_
      · kernel_rfl
      · kernel_rfl
      · exact DAll.op' (sp_move rfl rfl) trivial rfl (From.ok (ps := []) trivial) (DAll.op' (sp_neq rfl rfl rfl) trivial rfl (From.ok (ps := []) trivial) (DAll.op' (sp_castB h13 (sp_move rfl rfl)) trivial rfl (From.ok (ps := []) trivial) (DAll.op' (sp_fieldAddrB rfl isBlk rfl ft34_0 vt3 (by decide)) ⟨_, rfl, rfl⟩ rfl (From.ok (ps := [(none, 0)]) ⟨⟨rfl, rfl⟩, trivial⟩) (DAll.op' (sp_loadB rfl isBlk rfl vt3 rfl) ⟨_, rfl, rfl⟩ rfl (From.ok (ps := [(none, 0)]) ⟨⟨rfl, rfl⟩, trivial⟩) (DAll.op' (sp_fieldAddrB rfl isBlk rfl ft34_1 vt3 (by decide)) ⟨_, rfl, rfl⟩ rfl (From.ok (ps := [(none, 0)]) ⟨⟨rfl, rfl⟩, trivial⟩) (DAll.op' (sp_loadB rfl isBlk rfl vt3 rfl) ⟨_, rfl, rfl⟩ rfl (From.ok (ps := [(none, 0)]) ⟨⟨rfl, rfl⟩, trivial⟩) (DAll.op' (sp_neq rfl rfl rfl) ⟨_, rfl, rfl⟩ rfl (From.ok (ps := []) trivial) (DAll.op' (sp_pickF rfl rfl rfl) trivial rfl (From.ok (ps := []) trivial) (DAll.op' (sp_castB h14 (sp_move rfl rfl)) trivial rfl (From.ok (ps := []) trivial) (DAll.op' (sp_fieldAddrB rfl isBlk rfl ft34_0 vt3 (by decide)) ⟨_, rfl, rfl⟩ rfl (From.ok (ps := [(none, 0)]) ⟨⟨rfl, rfl⟩, trivial⟩) (DAll.op' (sp_loadB rfl isBlk rfl vt3 rfl) ⟨_, rfl, rfl⟩ rfl (From.ok (ps := [(none, 0)]) ⟨⟨rfl, rfl⟩, trivial⟩) (DAll.op' (sp_indexA (len := 5) (iv := 2) rfl isBlk rfl rfl Try.underlying67 vt5 (by decide)) ⟨_, rfl, rfl⟩ rfl (From.ok (ps := [(none, 4)]) ⟨⟨rfl, rfl⟩, trivial⟩) (DAll.op' (sp_loadB rfl isBlk rfl vt5 rfl) ⟨_, rfl, rfl⟩ rfl (From.ok (ps := [(none, 4)]) ⟨⟨rfl, rfl⟩, trivial⟩) (DAll.op' (sp_conv rfl Try.underlying5 Try.underlying3 rfl h15) ⟨_, rfl, rfl⟩ rfl (From.ok (ps := []) trivial) (DAll.op' (sp_fieldAddrB rfl isBlk rfl ft42_0 vt3 (by decide)) ⟨_, rfl, rfl⟩ rfl (From.ok (ps := [(none, 1)]) ⟨⟨rfl, rfl⟩, trivial⟩) (DAll.op' (sp_loadB rfl isBlk rfl vt3 rfl) ⟨_, rfl, rfl⟩ rfl (From.ok (ps := [(none, 1)]) ⟨⟨rfl, rfl⟩, trivial⟩) (DAll.op' (sp_add rfl rfl rfl h16) ⟨_, rfl, rfl⟩ rfl (From.ok (ps := []) trivial) (DAll.op' (sp_rem rfl rfl rfl h17) ⟨_, rfl, rfl⟩ rfl (From.ok (ps := []) trivial) (DAll.op' (sp_indexA (len := 5) (iv := 1) rfl isBlk rfl rfl Try.underlying67 vt5 (by decide)) ⟨_, rfl, rfl⟩ rfl (From.ok (ps := [(none, 4)]) ⟨⟨rfl, rfl⟩, trivial⟩) (DAll.op' (sp_loadB rfl isBlk rfl vt5 rfl) ⟨_, rfl, rfl⟩ rfl (From.ok (ps := [(none, 4)]) ⟨⟨rfl, rfl⟩, trivial⟩) (DAll.op' (sp_conv rfl Try.underlying5 Try.underlying3 rfl h18) ⟨_, rfl, rfl⟩ rfl (From.ok (ps := []) trivial) (DAll.op' (sp_rem rfl rfl rfl (by decide)) ⟨_, rfl, rfl⟩ rfl (From.ok (ps := []) trivial) (DAll.op' (sp_add rfl rfl rfl h19) ⟨_, rfl, rfl⟩ rfl (From.ok (ps := []) trivial) (DAll.op' (sp_quo rfl rfl rfl h20 h21) ⟨_, rfl, rfl⟩ rfl (From.ok (ps := []) trivial) (.nil)))))))))))))))))))))))))
      refine op0 (sp_neq rfl rfl rfl) rfl ⟨_, rfl, rfl⟩ rfl rfl ?_
      refine op0 (sp_pickF rfl rfl rfl) rfl trivial rfl rfl ?_
      refine TL.nil ?_
      refine TC.cond (b := (r11.1 != (Int.tdiv (Int.tmod v3 (((1 : Int) + v1) + 1)) ((1 : Int) + (Int.tmod v2 5))))) rfl (fun h22 => ?_) (fun h22 => ?_)
      · have h := cond_t h h22
        refine TC.seq ?_
        refine TC.region ?_
        refine op0 (sp_assign rfl rfl) rfl trivial rfl rfl ?_
        refine TL.nil ?_
        cases h
        exact retJ [] (.tmp rfl .nil) rfl trivial rfl rfl
      · have h := cond_f h h22
        refine subJ [] (ok_top_TopDropDial_j0 (v1 := v1) (v2 := v2) (v3 := v3) h) ?_ ?_ ?_
        · exact ⟨rfl, rfl, rfl, rfl, trivial⟩
        · exact ⟨mem_at 4 rfl, mem_at 3 rfl, mem_at 0 rfl, trivial⟩
        · rfl
end
end Go.Proofs.Ytgkoldcmbcbbpaa.Sy
