/- What functions of the program compute, and that they do: printed by symgen.py. -/
import Derived.Test.YtglgkcfgjaoabaaGLib
import Derived.Test.YtglgkcfgjaoabaaGturretlaw05
import Derived.Test.YtglgkcfgjaoabaaGStrike
set_option linter.unusedSimpArgs false
set_option linter.unusedVariables false
namespace Go.Proofs.Ytglgkcfgjaoabaa.Sy
open Go.RowKit
noncomputable section

/- law05_StrikeBack -/
def ev_law05_StrikeBack_j3 (n : Nat) (r10 : (List (Int × Bool)) × Int × Int) (i15 : Int) (at_4 : Int) (w1 : Bool) (w2 : Int) (w3 : Int) (k_law05_StrikeBack_l2 : Int → Int → Option Bool) (i17 : Int) : Option Bool :=
  idx r10.1 i15 fun x18 => cond (decide ((0 : Int) < x18.1)) (chk (in64 (at_4 + i15)) <| (ev_law05_Wheel_silent n w1 w2 w3 (at_4 + i15)).bind fun r19 => cond r19 (some false) (chk (in64 (i15 + 1)) <| k_law05_StrikeBack_l2 i17 (i15 + 1))) (chk (in64 (i15 + 1)) <| k_law05_StrikeBack_l2 i17 (i15 + 1))
set_option maxRecDepth 100000 in
set_option maxHeartbeats 2000000 in
theorem ok_law05_StrikeBack_j3 {n : Nat} {w0 : World} {R0 : Nat → Prop} {env0 : Env} {r : Bool} {r8 : Int} {at_4 : Int} {at_5 : Int} {at_6 : Int} {r10 : (List (Int × Bool)) × Int × Int} {by_7 : List Int} {w1 : Bool} {w2 : Int} {w3 : Int} {i15 : Int} {k_law05_StrikeBack_l2 : Int → Int → Option Bool} {i17 : Int} (hk_law05_StrikeBack_l2 : ∀ (i14 : Int) (i15 : Int), k_law05_StrikeBack_l2 i14 i15 = some r → TC Try.prog ⟨w0, fun _ => False, R0⟩ 271 (bodyPost Try.prog Try.f8 (Post ⟨w0, fun _ => False, R0⟩ env0 (.val (.bool r)) [])) [.code (sub (bodyOf Try.f8) [1, 1, 1, 1, 1, 1, 1, 0, 1, 0, 1, 1, 1, 0, 0, 0, 0]), .code (sub (bodyOf Try.f8) [1, 1, 1, 1, 1, 1, 1, 0, 1, 0, 1, 1, 1, 0, 0, 0, 1]), .code (sub (bodyOf Try.f8) [1, 1, 1, 1, 1, 1, 1, 0, 1, 0, 1, 1, 1, 0, 0, 1]), .inLoop (sub (bodyOf Try.f8) [1, 1, 1, 1, 1, 1, 1, 0, 1, 0, 1, 1, 1, 0, 0]), .inBlock 0, .code (sub (bodyOf Try.f8) [1, 1, 1, 1, 1, 1, 1, 1])] ([(2, .ref 0), (3, .ptr 1 0), (7, .val (.int .i64 r8)), (8, .val (.int .i64 at_4)), (9, .val (.int .i64 (Int.tmod at_5 r8))), (10, .val (.int .i64 (at_4 + (Int.tmod at_6 31)))), (11, .ref 4), (12, .val (.int .i64 r10.2.1)), (13, .val (.int .i64 r10.2.2)), (14, .val (.int .i64 i14)), (18, .val (.int .i64 i15))]) ([.ro 0 1 (List.map en_uint8 by_7), .blk 1 [.val (.bool w1), .val (.int .u8 w2), .val (.int .u8 w3)] 64, .row 4 73 2 (List.map en_api_StrikeStep r10.1)])) (h : ev_law05_StrikeBack_j3 n r10 i15 at_4 w1 w2 w3 k_law05_StrikeBack_l2 i17 = some r) : TC Try.prog ⟨w0, fun _ => False, R0⟩ 271 (bodyPost Try.prog Try.f8 (Post ⟨w0, fun _ => False, R0⟩ env0 (.val (.bool r)) [])) [.code (sub (bodyOf Try.f8) [1, 1, 1, 1, 1, 1, 1, 0, 1, 0, 1, 1, 1, 0, 0, 1, 0, 0, 1, 0]), .code (sub (bodyOf Try.f8) [1, 1, 1, 1, 1, 1, 1, 0, 1, 0, 1, 1, 1, 0, 0, 1, 0, 0, 1, 1]), .inBlock 1, .code (sub (bodyOf Try.f8) [1, 1, 1, 1, 1, 1, 1, 0, 1, 0, 1, 1, 1, 0, 0, 1, 1]), .inLoop (sub (bodyOf Try.f8) [1, 1, 1, 1, 1, 1, 1, 0, 1, 0, 1, 1, 1, 0, 0]), .inBlock 0, .code (sub (bodyOf Try.f8) [1, 1, 1, 1, 1, 1, 1, 1])] ([(2, .ref 0), (3, .ptr 1 0), (7, .val (.int .i64 r8)), (8, .val (.int .i64 at_4)), (9, .val (.int .i64 (Int.tmod at_5 r8))), (10, .val (.int .i64 (at_4 + (Int.tmod at_6 31)))), (11, .ref 4), (12, .val (.int .i64 r10.2.1)), (13, .val (.int .i64 r10.2.2)), (14, .val (.int .i64 i17)), (18, .val (.int .i64 i15))]) ([.ro 0 1 (List.map en_uint8 by_7), .blk 1 [.val (.bool w1), .val (.int .u8 w2), .val (.int .u8 w3)] 64, .row 4 73 2 (List.map en_api_StrikeStep r10.1)]) := by
  rw [ev_law05_StrikeBack_j3] at h
  refine TC.region ?_
  refine op0 (sp_move rfl rfl) rfl trivial rfl rfl ?_
  refine op0 (sp_move rfl rfl) rfl trivial rfl rfl ?_
  obtain ⟨x18, h31, h32, h⟩ := idx_inv h
  refine op1 2 rfl (sp_indexS rfl rfl rfl isOwn sl50 h31 (map_get _ h32)) rfl trivial rfl rfl ?_
  refine op1 2 rfl (sp_fieldAddrR (i := (i15 : Int).toNat) rfl rfl isOwn ft73_0 vt3 (by decide) (map_get _ h32) (fun h => nomatch h)) rfl trivial rfl rfl ?_
  refine op1 2 rfl (sp_loadR (i := (i15 : Int).toNat) (j := 0) rfl rfl isOwn vt3 rfl (map_get _ h32) rfl (.v (.nil)) (nodup_of_B rfl)) rfl trivial rfl rfl ?_
  refine op0 (sp_gtr rfl rfl rfl) rfl trivial rfl rfl ?_
  refine op0 (sp_move rfl rfl) rfl trivial rfl rfl ?_
  rcases cond_cases h with ⟨h33, h⟩ | ⟨h33, h⟩
  · refine (boolLit 137 rfl h33).2 ?_
    refine op1 1 rfl (sp_loadBA rfl isBlk rfl vt64 rfl rfl) rfl ⟨_, rfl, rfl⟩ rfl rfl ?_
    refine op0 (sp_move rfl rfl) rfl ⟨_, rfl, rfl⟩ rfl rfl ?_
    refine op0 (sp_move rfl rfl) rfl ⟨_, rfl, rfl⟩ rfl rfl ?_
    obtain ⟨h34, h⟩ := chk_inv h
    refine op0 (sp_add rfl rfl rfl h34) rfl ⟨_, rfl, rfl⟩ rfl rfl ?_
    obtain ⟨r19, h35, h⟩ := bind_inv h
    refine op0 (sp_call (avs := [.agg [.val (.bool w1), .val (.int .u8 w2), .val (.int .u8 w3)], .val (.int .i64 (at_4 + i15))]) (need := []) (v := .val (.bool r19)) (news := []) rfl rfl rfl Try.call37 (atJ [] [] (fc_law05_Wheel_silent h35) rfl rfl) (.inl (roAll rfl))) rfl ⟨_, rfl, rfl⟩ rfl rfl ?_
    refine op0 (sp_pickT rfl rfl rfl) rfl trivial rfl rfl ?_
    refine TL.nil ?_
    refine TC.cond (b := r19) rfl (fun h36 => ?_) (fun h36 => ?_)
    · have h := cond_t h h36
      refine TC.seq ?_
      refine TC.region ?_
      refine op0 (sp_assign rfl rfl) rfl trivial rfl rfl ?_
      refine TL.nil ?_
      cases h
      exact retJ [] (.tmp rfl .nil) rfl trivial rfl rfl
    · have h := cond_f h h36
      refine TC.skip ?_
      refine TC.inBlock ?_
      refine TC.region ?_
      refine op0 (sp_move rfl rfl) rfl trivial rfl rfl ?_
      obtain ⟨h37, h⟩ := chk_inv h
      refine op0 (sp_add rfl rfl rfl h37) rfl trivial rfl rfl ?_
      refine op0 (sp_assign rfl rfl) rfl trivial rfl rfl ?_
      refine TL.nil ?_
      refine TC.inLoop ?_
      refine TC.seq ?_
      refine TC.seq ?_
      refine subJ [] (hk_law05_StrikeBack_l2 _ _ h) ?_ ?_ ?_
      · exact ⟨rfl, rfl, rfl, rfl, rfl, rfl, rfl, rfl, rfl, rfl, rfl, trivial⟩
      · exact ⟨mem_at 0 rfl, mem_at 1 rfl, mem_at 2 rfl, trivial⟩
      · rfl
  · refine (boolLit 137 rfl h33).2 ?_
    refine opSkip rfl ⟨_, rfl, .inl rfl⟩ rfl ?_
    refine opSkip rfl ⟨_, rfl, .inl rfl⟩ rfl ?_
    refine opSkip rfl ⟨_, rfl, .inl rfl⟩ rfl ?_
    refine opSkip rfl ⟨_, rfl, .inl rfl⟩ rfl ?_
    refine opSkip rfl ⟨_, rfl, .inl rfl⟩ rfl ?_
    refine op0 (sp_pickF rfl rfl rfl) rfl trivial rfl rfl ?_
    refine TL.nil ?_
    refine TC.condF rfl ?_
    refine TC.skip ?_
    refine TC.inBlock ?_
    refine TC.region ?_
    refine op0 (sp_move rfl rfl) rfl trivial rfl rfl ?_
    obtain ⟨h38, h⟩ := chk_inv h
    refine op0 (sp_add rfl rfl rfl h38) rfl trivial rfl rfl ?_
    refine op0 (sp_assign rfl rfl) rfl trivial rfl rfl ?_
    refine TL.nil ?_
    refine TC.inLoop ?_
    refine TC.seq ?_
    refine TC.seq ?_
    refine subJ [] (hk_law05_StrikeBack_l2 _ _ h) ?_ ?_ ?_
    · exact ⟨rfl, rfl, rfl, rfl, rfl, rfl, rfl, rfl, rfl, rfl, rfl, trivial⟩
    · exact ⟨mem_at 0 rfl, mem_at 1 rfl, mem_at 2 rfl, trivial⟩
    · rfl
def ev_law05_StrikeBack_l8 (n : Nat) (i38 : Int) (b34 : Bool) (i35 : Int) (i36 : Int) (r8 : Int) (b39 : Bool) (i23 : Int) (l37 : List (Int × Bool)) (i24 : Int) (l33 : List Int) (k_law05_StrikeBack_l5 : Int → Int → Int → Int → (List Int) → Bool → Int → Int → (List (Int × Bool)) → Option Bool) : Nat → Int → Int → Int → Option Bool
  | 0, _, _, _ => none
  | m + 1, i40, i41, i42 => cond (decide (i42 < i38)) ((ev_law05_Wheel_blows n b34 i35 i36 i40).bind fun r43 => chk (in64 (i41 + r43)) <| chk (in64 (i40 + 1)) <| chk (r8 != 0) <| chk (in64 (i42 + 1)) <| ev_law05_StrikeBack_l8 n i38 b34 i35 i36 r8 b39 i23 l37 i24 l33 k_law05_StrikeBack_l5 m (Int.tmod (i40 + 1) r8) (i41 + r43) (i42 + 1)) (cond b39 (chk (in64 (i23 + 1)) <| chk (room 16 (l37.length + ([(i38, b39)] : List (Int × Bool)).length)) <| chk (in64 (i24 + 1)) <| k_law05_StrikeBack_l5 i40 i41 (i23 + 1) (i24 + 1) l33 b34 i35 i36 (l37 ++ ([(i38, b39)] : List (Int × Bool)))) (chk (in64 (i40 + 1)) <| chk (r8 != 0) <| chk (room 16 (l37.length + ([(i38, b39)] : List (Int × Bool)).length)) <| chk (in64 (i24 + 1)) <| k_law05_StrikeBack_l5 (Int.tmod (i40 + 1) r8) i41 i23 (i24 + 1) l33 b34 i35 i36 (l37 ++ ([(i38, b39)] : List (Int × Bool)))))
set_option maxRecDepth 100000 in
set_option maxHeartbeats 2000000 in
theorem ok_law05_StrikeBack_l8 {n : Nat} {w0 : World} {R0 : Nat → Prop} {env0 : Env} {r : Bool} {r8 : Int} {at_4 : Int} {at_5 : Int} {at_6 : Int} {r10 : (List (Int × Bool)) × Int × Int} {i20 : Int} {l33 : List Int} {b34 : Bool} {i35 : Int} {i36 : Int} {l37 : List (Int × Bool)} {i38 : Int} {b39 : Bool} {i23 : Int} {i24 : Int} {k_law05_StrikeBack_l5 : Int → Int → Int → Int → (List Int) → Bool → Int → Int → (List (Int × Bool)) → Option Bool} (hk_law05_StrikeBack_l5 : ∀ (i21 : Int) (i22 : Int) (i23 : Int) (i24 : Int) (l25 : List Int) (b26 : Bool) (i27 : Int) (i28 : Int) (l29 : List (Int × Bool)), k_law05_StrikeBack_l5 i21 i22 i23 i24 l25 b26 i27 i28 l29 = some r → TC Try.prog ⟨w0, fun _ => False, R0⟩ 271 (bodyPost Try.prog Try.f8 (Post ⟨w0, fun _ => False, R0⟩ env0 (.val (.bool r)) [])) [.code (sub (bodyOf Try.f8) [1, 1, 1, 1, 1, 1, 1, 1, 1, 0, 1, 0, 0, 0, 0]), .code (sub (bodyOf Try.f8) [1, 1, 1, 1, 1, 1, 1, 1, 1, 0, 1, 0, 0, 0, 1]), .code (sub (bodyOf Try.f8) [1, 1, 1, 1, 1, 1, 1, 1, 1, 0, 1, 0, 0, 1]), .inLoop (sub (bodyOf Try.f8) [1, 1, 1, 1, 1, 1, 1, 1, 1, 0, 1, 0, 0]), .inBlock 2, .code (sub (bodyOf Try.f8) [1, 1, 1, 1, 1, 1, 1, 1, 1, 1])] ([(2, .ref 0), (3, .ptr 1 0), (7, .val (.int .i64 r8)), (8, .val (.int .i64 at_4)), (9, .val (.int .i64 (Int.tmod at_5 r8))), (10, .val (.int .i64 (at_4 + (Int.tmod at_6 31)))), (12, .val (.int .i64 r10.2.1)), (13, .val (.int .i64 r10.2.2)), (14, .val (.int .i64 i20)), (19, .ref 7), (20, .val (.int .i64 i21)), (21, .val (.int .i64 i22)), (22, .val (.int .i64 i23)), (23, .val (.int .i64 i24))]) ([.ro 0 1 (List.map en_uint8 l25), .blk 1 [.val (.bool b26), .val (.int .u8 i27), .val (.int .u8 i28)] 64, .row 7 73 2 (List.map en_api_StrikeStep l29)])) : ∀ (m : Nat) (i40 : Int) (i41 : Int) (i42 : Int), ev_law05_StrikeBack_l8 n i38 b34 i35 i36 r8 b39 i23 l37 i24 l33 k_law05_StrikeBack_l5 m i40 i41 i42 = some r → TC Try.prog ⟨w0, fun _ => False, R0⟩ 271 (bodyPost Try.prog Try.f8 (Post ⟨w0, fun _ => False, R0⟩ env0 (.val (.bool r)) [])) [.code (sub (bodyOf Try.f8) [1, 1, 1, 1, 1, 1, 1, 1, 1, 0, 1, 0, 0, 1, 0, 0, 1, 1, 1, 0, 1, 0, 0, 0, 0]), .code (sub (bodyOf Try.f8) [1, 1, 1, 1, 1, 1, 1, 1, 1, 0, 1, 0, 0, 1, 0, 0, 1, 1, 1, 0, 1, 0, 0, 0, 1]), .code (sub (bodyOf Try.f8) [1, 1, 1, 1, 1, 1, 1, 1, 1, 0, 1, 0, 0, 1, 0, 0, 1, 1, 1, 0, 1, 0, 0, 1]), .inLoop (sub (bodyOf Try.f8) [1, 1, 1, 1, 1, 1, 1, 1, 1, 0, 1, 0, 0, 1, 0, 0, 1, 1, 1, 0, 1, 0, 0]), .inBlock 4, .code (sub (bodyOf Try.f8) [1, 1, 1, 1, 1, 1, 1, 1, 1, 0, 1, 0, 0, 1, 0, 0, 1, 1, 1, 1]), .inBlock 3, .code (sub (bodyOf Try.f8) [1, 1, 1, 1, 1, 1, 1, 1, 1, 0, 1, 0, 0, 1, 1]), .inLoop (sub (bodyOf Try.f8) [1, 1, 1, 1, 1, 1, 1, 1, 1, 0, 1, 0, 0]), .inBlock 2, .code (sub (bodyOf Try.f8) [1, 1, 1, 1, 1, 1, 1, 1, 1, 1])] ([(2, .ref 0), (3, .ptr 1 0), (7, .val (.int .i64 r8)), (8, .val (.int .i64 at_4)), (9, .val (.int .i64 (Int.tmod at_5 r8))), (10, .val (.int .i64 (at_4 + (Int.tmod at_6 31)))), (12, .val (.int .i64 r10.2.1)), (13, .val (.int .i64 r10.2.2)), (14, .val (.int .i64 i20)), (19, .ref 7), (20, .val (.int .i64 i40)), (21, .val (.int .i64 i41)), (22, .val (.int .i64 i23)), (23, .val (.int .i64 i24)), (24, .ptr 8 0), (27, .val (.int .i64 i42))]) ([.ro 0 1 (List.map en_uint8 l33), .blk 1 [.val (.bool b34), .val (.int .u8 i35), .val (.int .u8 i36)] 64, .row 7 73 2 (List.map en_api_StrikeStep l37), .blk 8 [.val (.int .i64 i38), .val (.bool b39)] 73]) := by
  intro m
  induction m with
  | zero => intro i40 i41 i42 h; exact none_no h
  | succ m ih =>
    intro i40 i41 i42 h
    rw [ev_law05_StrikeBack_l8] at h
    refine TC.region ?_
    refine op0 (sp_move rfl rfl) rfl trivial rfl rfl ?_
    refine op1 3 rfl (sp_fieldAddrB rfl isBlk rfl ft73_0 vt3 (by decide)) rfl trivial rfl rfl ?_
    refine op1 3 rfl (sp_loadB rfl isBlk rfl vt3 rfl) rfl trivial rfl rfl ?_
    refine op0 (sp_lss rfl rfl rfl) rfl trivial rfl rfl ?_
    refine TL.nil ?_
    refine TC.cond (b := (decide (i42 < i38))) rfl (fun h57 => ?_) (fun h57 => ?_)
    · have h := cond_t h h57
      refine TC.skip ?_
      refine TC.seq ?_
      refine TC.block ?_
      obtain ⟨r43, h58, h⟩ := bind_inv h
      obtain ⟨h59, h⟩ := chk_inv h
      obtain ⟨h60, h⟩ := chk_inv h
      obtain ⟨h61, h⟩ := chk_inv h
      refine drawJ 10 [⟨.val (.int .i64 i41), [], [], []⟩, ⟨.agg [.val (.bool b34), .val (.int .u8 i35), .val (.int .u8 i36)], [], [.blk 1 [.val (.bool b34), .val (.int .u8 i35), .val (.int .u8 i36)] 64], []⟩, ⟨.val (.int .i64 i40), [], [], []⟩, ⟨.val (.int .i64 r43), [], [], []⟩, ⟨.val (.int .i64 (i41 + r43)), [], [], []⟩, ⟨.val (.int .i64 i40), [], [], []⟩, ⟨.val (.int .i64 (i40 + 1)), [], [], []⟩, ⟨.val (.int .i64 r8), [], [], []⟩, ⟨.val (.int .i64 (Int.tmod (i40 + 1) r8)), [], [], []⟩, ⟨.val (.int .i64 (i41 + r43)), [], [], []⟩] rfl ?_ rfl ?_ rfl ?_ ?_
      · kernel_rfl
      · kernel_rfl
      · exact DAll.op' (sp_move rfl rfl) trivial rfl (From.ok (ps := []) trivial) (DAll.op' (sp_loadBA rfl isBlk rfl vt64 rfl rfl) trivial rfl (From.ok (ps := [(none, 1)]) ⟨⟨rfl, rfl⟩, trivial⟩) (DAll.op' (sp_move rfl rfl) trivial rfl (From.ok (ps := []) trivial) (DAll.op' (sp_call (avs := [.agg [.val (.bool b34), .val (.int .u8 i35), .val (.int .u8 i36)], .val (.int .i64 i40)]) (need := []) (v := .val (.int .i64 r43)) (news := []) rfl rfl rfl Try.call36 (atJ [] [] (fc_law05_Wheel_blows h58) rfl rfl) (.inl (roAll rfl))) trivial rfl (From.ok (ps := []) trivial) (DAll.op' (sp_add rfl rfl rfl h59) trivial rfl (From.ok (ps := []) trivial) (DAll.op' (sp_move rfl rfl) trivial rfl (From.ok (ps := []) trivial) (DAll.op' (sp_add rfl rfl rfl h60) trivial rfl (From.ok (ps := []) trivial) (DAll.op' (sp_move rfl rfl) trivial rfl (From.ok (ps := []) trivial) (DAll.op' (sp_rem rfl rfl rfl h61) trivial rfl (From.ok (ps := []) trivial) (DAll.op' (sp_assign rfl rfl) trivial rfl (From.ok (ps := []) trivial) (.nil))))))))))
      refine op0 (sp_assign rfl rfl) rfl trivial rfl rfl ?_
      refine TL.nil ?_
      refine TC.inBlock ?_
      refine TC.region ?_
      refine op0 (sp_move rfl rfl) rfl trivial rfl rfl ?_
      obtain ⟨h62, h⟩ := chk_inv h
      refine op0 (sp_add rfl rfl rfl h62) rfl trivial rfl rfl ?_
      refine op0 (sp_assign rfl rfl) rfl trivial rfl rfl ?_
      refine TL.nil ?_
      refine TC.inLoop ?_
      refine TC.seq ?_
      refine TC.seq ?_
      refine subJ [] (ih _ _ _ h) ?_ ?_ ?_
      · exact ⟨rfl, rfl, rfl, rfl, rfl, rfl, rfl, rfl, rfl, rfl, rfl, rfl, rfl, rfl, rfl, rfl, trivial⟩
      · exact ⟨mem_at 0 rfl, mem_at 1 rfl, mem_at 2 rfl, mem_at 3 rfl, trivial⟩
      · rfl
    · have h := cond_f h h57
      refine TC.exit rfl ?_
      refine TC.seq ?_
      refine TC.seq ?_
      refine TC.region ?_
      refine op1 3 rfl (sp_fieldAddrB rfl isBlk rfl ft73_1 vt4 (by decide)) rfl trivial rfl rfl ?_
      refine op1 3 rfl (sp_loadB rfl isBlk rfl vt4 rfl) rfl trivial rfl rfl ?_
      refine TL.nil ?_
      refine TC.cond (b := b39) rfl (fun h63 => ?_) (fun h63 => ?_)
      · have h := cond_t h h63
        refine TC.region ?_
        refine op0 (sp_move rfl rfl) rfl trivial rfl rfl ?_
        obtain ⟨h64, h⟩ := chk_inv h
        refine op0 (sp_add rfl rfl rfl h64) rfl trivial rfl rfl ?_
        refine op0 (sp_assign rfl rfl) rfl trivial rfl rfl ?_
        refine TL.nil ?_
        refine TC.region ?_
        refine op0 (sp_move rfl rfl) rfl trivial rfl rfl ?_
        refine op1 3 rfl (sp_loadBA rfl isBlk rfl vt73 rfl rfl) rfl trivial rfl rfl ?_
        refine op0 (sp_buildSlice (qs := [.agg [.val (.int .i64 i38), .val (.bool b39)]]) (need := []) (els := List.map en_api_StrikeStep ([(i38, b39)] : List (Int × Bool))) 9 rfl sl50 (by decide) (by decide) rfl rfl rfl (.v (.v (.nil))) (map_len fun _ => rfl) rfl rfl rfl) rfl trivial rfl rfl ?_
        obtain ⟨h65, h⟩ := chk_inv h
        refine appM 3 0 (N := l37.length) (N2 := ([(i38, b39)] : List (Int × Bool)).length) 10 rfl rfl trivial rfl rfl rfl rfl rfl isOwn rfl sl50 (len_map _ _) (len_map _ _) h65 (map_app _ _ _) rfl ?_
        refine op0 (sp_assign rfl rfl) rfl trivial rfl rfl ?_
        refine TL.nil ?_
        refine TC.inBlock ?_
        refine TC.region ?_
        refine op0 (sp_move rfl rfl) rfl trivial rfl rfl ?_
        obtain ⟨h66, h⟩ := chk_inv h
        refine op0 (sp_add rfl rfl rfl h66) rfl trivial rfl rfl ?_
        refine op0 (sp_assign rfl rfl) rfl trivial rfl rfl ?_
        refine TL.nil ?_
        refine TC.inLoop ?_
        refine TC.seq ?_
        refine TC.seq ?_
        refine subJ [(7, 10)] (hk_law05_StrikeBack_l5 _ _ _ _ _ _ _ _ _ h) ?_ ?_ ?_
        · exact ⟨rfl, rfl, rfl, rfl, rfl, rfl, rfl, rfl, rfl, rfl, rfl, rfl, rfl, rfl, trivial⟩
        · exact ⟨mem_at 2 rfl, mem_at 3 rfl, mem_at 0 rfl, trivial⟩
        · rfl
      · have h := cond_f h h63
        refine TC.region ?_
        refine op0 (sp_move rfl rfl) rfl trivial rfl rfl ?_
        obtain ⟨h67, h⟩ := chk_inv h
        refine op0 (sp_add rfl rfl rfl h67) rfl trivial rfl rfl ?_
        refine op0 (sp_move rfl rfl) rfl trivial rfl rfl ?_
        obtain ⟨h68, h⟩ := chk_inv h
        refine op0 (sp_rem rfl rfl rfl h68) rfl trivial rfl rfl ?_
        refine op0 (sp_assign rfl rfl) rfl trivial rfl rfl ?_
        refine TL.nil ?_
        refine TC.region ?_
        refine op0 (sp_move rfl rfl) rfl trivial rfl rfl ?_
        refine op1 3 rfl (sp_loadBA rfl isBlk rfl vt73 rfl rfl) rfl trivial rfl rfl ?_
        refine op0 (sp_buildSlice (qs := [.agg [.val (.int .i64 i38), .val (.bool b39)]]) (need := []) (els := List.map en_api_StrikeStep ([(i38, b39)] : List (Int × Bool))) 11 rfl sl50 (by decide) (by decide) rfl rfl rfl (.v (.v (.nil))) (map_len fun _ => rfl) rfl rfl rfl) rfl trivial rfl rfl ?_
        obtain ⟨h69, h⟩ := chk_inv h
        refine appM 3 0 (N := l37.length) (N2 := ([(i38, b39)] : List (Int × Bool)).length) 12 rfl rfl trivial rfl rfl rfl rfl rfl isOwn rfl sl50 (len_map _ _) (len_map _ _) h69 (map_app _ _ _) rfl ?_
        refine op0 (sp_assign rfl rfl) rfl trivial rfl rfl ?_
        refine TL.nil ?_
        refine TC.inBlock ?_
        refine TC.region ?_
        refine op0 (sp_move rfl rfl) rfl trivial rfl rfl ?_
        obtain ⟨h70, h⟩ := chk_inv h
        refine op0 (sp_add rfl rfl rfl h70) rfl trivial rfl rfl ?_
        refine op0 (sp_assign rfl rfl) rfl trivial rfl rfl ?_
        refine TL.nil ?_
        refine TC.inLoop ?_
        refine TC.seq ?_
        refine TC.seq ?_
        refine subJ [(7, 12)] (hk_law05_StrikeBack_l5 _ _ _ _ _ _ _ _ _ h) ?_ ?_ ?_
        · exact ⟨rfl, rfl, rfl, rfl, rfl, rfl, rfl, rfl, rfl, rfl, rfl, rfl, rfl, rfl, trivial⟩
        · exact ⟨mem_at 2 rfl, mem_at 3 rfl, mem_at 0 rfl, trivial⟩
        · rfl
def ev_law05_StrikeBack_j7 (n : Nat) (r8 : Int) (i23 : Int) (i24 : Int) (i21 : Int) (i22 : Int) (k_law05_StrikeBack_l5 : Int → Int → Int → Int → (List Int) → Bool → Int → Int → (List (Int × Bool)) → Option Bool) (l33 : List Int) (b34 : Bool) (i35 : Int) (i36 : Int) (l37 : List (Int × Bool)) (i38 : Int) (b39 : Bool) : Option Bool :=
  ev_law05_StrikeBack_l8 n i38 b34 i35 i36 r8 b39 i23 l37 i24 l33 k_law05_StrikeBack_l5 n i21 i22 0
set_option maxRecDepth 100000 in
set_option maxHeartbeats 2000000 in
theorem ok_law05_StrikeBack_j7 {n : Nat} {w0 : World} {R0 : Nat → Prop} {env0 : Env} {r : Bool} {r8 : Int} {at_4 : Int} {at_5 : Int} {at_6 : Int} {r10 : (List (Int × Bool)) × Int × Int} {i20 : Int} {i23 : Int} {i24 : Int} {i21 : Int} {i22 : Int} {k_law05_StrikeBack_l5 : Int → Int → Int → Int → (List Int) → Bool → Int → Int → (List (Int × Bool)) → Option Bool} {l33 : List Int} {b34 : Bool} {i35 : Int} {i36 : Int} {l37 : List (Int × Bool)} {i38 : Int} {b39 : Bool} (hk_law05_StrikeBack_l5 : ∀ (i21 : Int) (i22 : Int) (i23 : Int) (i24 : Int) (l25 : List Int) (b26 : Bool) (i27 : Int) (i28 : Int) (l29 : List (Int × Bool)), k_law05_StrikeBack_l5 i21 i22 i23 i24 l25 b26 i27 i28 l29 = some r → TC Try.prog ⟨w0, fun _ => False, R0⟩ 271 (bodyPost Try.prog Try.f8 (Post ⟨w0, fun _ => False, R0⟩ env0 (.val (.bool r)) [])) [.code (sub (bodyOf Try.f8) [1, 1, 1, 1, 1, 1, 1, 1, 1, 0, 1, 0, 0, 0, 0]), .code (sub (bodyOf Try.f8) [1, 1, 1, 1, 1, 1, 1, 1, 1, 0, 1, 0, 0, 0, 1]), .code (sub (bodyOf Try.f8) [1, 1, 1, 1, 1, 1, 1, 1, 1, 0, 1, 0, 0, 1]), .inLoop (sub (bodyOf Try.f8) [1, 1, 1, 1, 1, 1, 1, 1, 1, 0, 1, 0, 0]), .inBlock 2, .code (sub (bodyOf Try.f8) [1, 1, 1, 1, 1, 1, 1, 1, 1, 1])] ([(2, .ref 0), (3, .ptr 1 0), (7, .val (.int .i64 r8)), (8, .val (.int .i64 at_4)), (9, .val (.int .i64 (Int.tmod at_5 r8))), (10, .val (.int .i64 (at_4 + (Int.tmod at_6 31)))), (12, .val (.int .i64 r10.2.1)), (13, .val (.int .i64 r10.2.2)), (14, .val (.int .i64 i20)), (19, .ref 7), (20, .val (.int .i64 i21)), (21, .val (.int .i64 i22)), (22, .val (.int .i64 i23)), (23, .val (.int .i64 i24))]) ([.ro 0 1 (List.map en_uint8 l25), .blk 1 [.val (.bool b26), .val (.int .u8 i27), .val (.int .u8 i28)] 64, .row 7 73 2 (List.map en_api_StrikeStep l29)])) (h : ev_law05_StrikeBack_j7 n r8 i23 i24 i21 i22 k_law05_StrikeBack_l5 l33 b34 i35 i36 l37 i38 b39 = some r) : TC Try.prog ⟨w0, fun _ => False, R0⟩ 271 (bodyPost Try.prog Try.f8 (Post ⟨w0, fun _ => False, R0⟩ env0 (.val (.bool r)) [])) [.code (sub (bodyOf Try.f8) [1, 1, 1, 1, 1, 1, 1, 1, 1, 0, 1, 0, 0, 1, 0, 0, 1, 1, 1, 0, 0]), .code (sub (bodyOf Try.f8) [1, 1, 1, 1, 1, 1, 1, 1, 1, 0, 1, 0, 0, 1, 0, 0, 1, 1, 1, 0, 1]), .code (sub (bodyOf Try.f8) [1, 1, 1, 1, 1, 1, 1, 1, 1, 0, 1, 0, 0, 1, 0, 0, 1, 1, 1, 1]), .inBlock 3, .code (sub (bodyOf Try.f8) [1, 1, 1, 1, 1, 1, 1, 1, 1, 0, 1, 0, 0, 1, 1]), .inLoop (sub (bodyOf Try.f8) [1, 1, 1, 1, 1, 1, 1, 1, 1, 0, 1, 0, 0]), .inBlock 2, .code (sub (bodyOf Try.f8) [1, 1, 1, 1, 1, 1, 1, 1, 1, 1])] ([(2, .ref 0), (3, .ptr 1 0), (7, .val (.int .i64 r8)), (8, .val (.int .i64 at_4)), (9, .val (.int .i64 (Int.tmod at_5 r8))), (10, .val (.int .i64 (at_4 + (Int.tmod at_6 31)))), (12, .val (.int .i64 r10.2.1)), (13, .val (.int .i64 r10.2.2)), (14, .val (.int .i64 i20)), (19, .ref 7), (20, .val (.int .i64 i21)), (21, .val (.int .i64 i22)), (22, .val (.int .i64 i23)), (23, .val (.int .i64 i24)), (24, .ptr 8 0)]) ([.ro 0 1 (List.map en_uint8 l33), .blk 1 [.val (.bool b34), .val (.int .u8 i35), .val (.int .u8 i36)] 64, .row 7 73 2 (List.map en_api_StrikeStep l37), .blk 8 [.val (.int .i64 i38), .val (.bool b39)] 73]) := by
  rw [ev_law05_StrikeBack_j7] at h
  refine TC.region ?_
  refine op0 (sp_assign rfl rfl) rfl trivial rfl rfl ?_
  refine TL.nil ?_
  refine TC.block ?_
  refine TC.loop ?_
  refine TC.seq ?_
  refine TC.seq ?_
  refine subJ [] (ok_law05_StrikeBack_l8 (at_4 := at_4) (at_5 := at_5) (at_6 := at_6) (r10 := r10) (i20 := i20) hk_law05_StrikeBack_l5 _ _ _ _ h) ?_ ?_ ?_
  · exact ⟨rfl, rfl, rfl, rfl, rfl, rfl, rfl, rfl, rfl, rfl, rfl, rfl, rfl, rfl, rfl, rfl, trivial⟩
  · exact ⟨mem_at 0 rfl, mem_at 1 rfl, mem_at 2 rfl, mem_at 3 rfl, trivial⟩
  · rfl
def ev_law05_StrikeBack_j6 (n : Nat) (i21 : Int) (r8 : Int) (i23 : Int) (i24 : Int) (i22 : Int) (l25 : List Int) (b26 : Bool) (i27 : Int) (i28 : Int) (l29 : List (Int × Bool)) (r30 : Int) (k_law05_StrikeBack_l5 : Int → Int → Int → Int → (List Int) → Bool → Int → Int → (List (Int × Bool)) → Option Bool) (i32 : Int) : Option Bool :=
  chk (in64 (i32 - i21)) <| chk (in64 ((i32 - i21) + r8)) <| chk (r8 != 0) <| ev_law05_StrikeBack_j7 n r8 i23 i24 i21 i22 k_law05_StrikeBack_l5 l25 b26 i27 i28 l29 (Int.tmod ((i32 - i21) + r8) r8) ((Int.tmod r30 3) == 1)
set_option maxRecDepth 100000 in
set_option maxHeartbeats 2000000 in
theorem ok_law05_StrikeBack_j6 {n : Nat} {w0 : World} {R0 : Nat → Prop} {env0 : Env} {r : Bool} {r8 : Int} {at_4 : Int} {at_5 : Int} {at_6 : Int} {r10 : (List (Int × Bool)) × Int × Int} {i20 : Int} {r30 : Int} {i21 : Int} {i23 : Int} {i24 : Int} {i22 : Int} {l25 : List Int} {b26 : Bool} {i27 : Int} {i28 : Int} {l29 : List (Int × Bool)} {k_law05_StrikeBack_l5 : Int → Int → Int → Int → (List Int) → Bool → Int → Int → (List (Int × Bool)) → Option Bool} {i32 : Int} (hk_law05_StrikeBack_l5 : ∀ (i21 : Int) (i22 : Int) (i23 : Int) (i24 : Int) (l25 : List Int) (b26 : Bool) (i27 : Int) (i28 : Int) (l29 : List (Int × Bool)), k_law05_StrikeBack_l5 i21 i22 i23 i24 l25 b26 i27 i28 l29 = some r → TC Try.prog ⟨w0, fun _ => False, R0⟩ 271 (bodyPost Try.prog Try.f8 (Post ⟨w0, fun _ => False, R0⟩ env0 (.val (.bool r)) [])) [.code (sub (bodyOf Try.f8) [1, 1, 1, 1, 1, 1, 1, 1, 1, 0, 1, 0, 0, 0, 0]), .code (sub (bodyOf Try.f8) [1, 1, 1, 1, 1, 1, 1, 1, 1, 0, 1, 0, 0, 0, 1]), .code (sub (bodyOf Try.f8) [1, 1, 1, 1, 1, 1, 1, 1, 1, 0, 1, 0, 0, 1]), .inLoop (sub (bodyOf Try.f8) [1, 1, 1, 1, 1, 1, 1, 1, 1, 0, 1, 0, 0]), .inBlock 2, .code (sub (bodyOf Try.f8) [1, 1, 1, 1, 1, 1, 1, 1, 1, 1])] ([(2, .ref 0), (3, .ptr 1 0), (7, .val (.int .i64 r8)), (8, .val (.int .i64 at_4)), (9, .val (.int .i64 (Int.tmod at_5 r8))), (10, .val (.int .i64 (at_4 + (Int.tmod at_6 31)))), (12, .val (.int .i64 r10.2.1)), (13, .val (.int .i64 r10.2.2)), (14, .val (.int .i64 i20)), (19, .ref 7), (20, .val (.int .i64 i21)), (21, .val (.int .i64 i22)), (22, .val (.int .i64 i23)), (23, .val (.int .i64 i24))]) ([.ro 0 1 (List.map en_uint8 l25), .blk 1 [.val (.bool b26), .val (.int .u8 i27), .val (.int .u8 i28)] 64, .row 7 73 2 (List.map en_api_StrikeStep l29)])) (h : ev_law05_StrikeBack_j6 n i21 r8 i23 i24 i22 l25 b26 i27 i28 l29 r30 k_law05_StrikeBack_l5 i32 = some r) : TC Try.prog ⟨w0, fun _ => False, R0⟩ 271 (bodyPost Try.prog Try.f8 (Post ⟨w0, fun _ => False, R0⟩ env0 (.val (.bool r)) [])) [.code (sub (bodyOf Try.f8) [1, 1, 1, 1, 1, 1, 1, 1, 1, 0, 1, 0, 0, 1, 0, 0, 1, 1, 0, 1, 0, 1, 1, 0, 1, 1]), .code (sub (bodyOf Try.f8) [1, 1, 1, 1, 1, 1, 1, 1, 1, 0, 1, 0, 0, 1, 0, 0, 1, 1, 1]), .inBlock 3, .code (sub (bodyOf Try.f8) [1, 1, 1, 1, 1, 1, 1, 1, 1, 0, 1, 0, 0, 1, 1]), .inLoop (sub (bodyOf Try.f8) [1, 1, 1, 1, 1, 1, 1, 1, 1, 0, 1, 0, 0]), .inBlock 2, .code (sub (bodyOf Try.f8) [1, 1, 1, 1, 1, 1, 1, 1, 1, 1])] ([(2, .ref 0), (3, .ptr 1 0), (7, .val (.int .i64 r8)), (8, .val (.int .i64 at_4)), (9, .val (.int .i64 (Int.tmod at_5 r8))), (10, .val (.int .i64 (at_4 + (Int.tmod at_6 31)))), (12, .val (.int .i64 r10.2.1)), (13, .val (.int .i64 r10.2.2)), (14, .val (.int .i64 i20)), (19, .ref 7), (20, .val (.int .i64 i21)), (21, .val (.int .i64 i22)), (22, .val (.int .i64 i23)), (23, .val (.int .i64 i24)), (24, .ptr 8 0), (26, .val (.int .i64 i32))]) ([.ro 0 1 (List.map en_uint8 l25), .blk 1 [.val (.bool b26), .val (.int .u8 i27), .val (.int .u8 i28)] 64, .row 7 73 2 (List.map en_api_StrikeStep l29), .blk 8 [.val (.int .i64 (Int.tdiv (Int.tmod (Int.tdiv r30 3) 8) 5)), .val (.bool ((Int.tmod r30 3) == 1))] 73]) := by
  rw [ev_law05_StrikeBack_j6] at h
  refine TC.region ?_
  refine op0 (sp_move rfl rfl) rfl trivial rfl rfl ?_
  refine op0 (sp_move rfl rfl) rfl trivial rfl rfl ?_
  obtain ⟨h54, h⟩ := chk_inv h
  refine op0 (sp_sub rfl rfl rfl h54) rfl trivial rfl rfl ?_
  refine op0 (sp_move rfl rfl) rfl trivial rfl rfl ?_
  obtain ⟨h55, h⟩ := chk_inv h
  refine op0 (sp_add rfl rfl rfl h55) rfl trivial rfl rfl ?_
  refine op0 (sp_move rfl rfl) rfl trivial rfl rfl ?_
  obtain ⟨h56, h⟩ := chk_inv h
  refine op0 (sp_rem rfl rfl rfl h56) rfl trivial rfl rfl ?_
  refine op1 3 rfl (sp_fieldAddrB rfl isBlk rfl ft73_0 vt3 (by decide)) rfl trivial rfl rfl ?_
  refine stoB 3 (cells' := [.val (.int .i64 (Int.tmod ((i32 - i21) + r8) r8)), .val (.bool ((Int.tmod r30 3) == 1))]) rfl rfl trivial rfl rfl rfl rfl vt3 rfl rfl rfl ?_
  refine TL.nil ?_
  refine TC.seq ?_
  refine TC.seq ?_
  refine subJ [] (ok_law05_StrikeBack_j7 (at_4 := at_4) (at_5 := at_5) (at_6 := at_6) (r10 := r10) (i20 := i20) hk_law05_StrikeBack_l5 h) ?_ ?_ ?_
  · exact ⟨rfl, rfl, rfl, rfl, rfl, rfl, rfl, rfl, rfl, rfl, rfl, rfl, rfl, rfl, rfl, trivial⟩
  · exact ⟨mem_at 0 rfl, mem_at 1 rfl, mem_at 2 rfl, mem_at 3 rfl, trivial⟩
  · rfl
def ev_law05_StrikeBack_j9 (n : Nat) (r8 : Int) (i21 : Int) (at_4 : Int) (at_6 : Int) (r10 : (List (Int × Bool)) × Int × Int) (i22 : Int) (i20 : Int) (i23 : Int) : Option Bool :=
  chk (r8 != 0) <| cond (i21 != (Int.tmod (at_4 + (Int.tmod at_6 31)) r8)) ((ev_law05_known n).bind fun r46 => some r46) (cond (r10.2.2 == 0) (cond (decide (r10.2.1 < i22)) ((ev_law05_known n).bind fun r47 => some r47) (cond (r10.2.1 == i22) (cond (decide (i20 ≤ i23)) ((ev_law05_known n).bind fun r48 => some r48) (some false)) (some false))) (some false))
set_option maxRecDepth 100000 in
set_option maxHeartbeats 2000000 in
theorem ok_law05_StrikeBack_j9 {n : Nat} {w0 : World} {R0 : Nat → Prop} {env0 : Env} {r : Bool} {r8 : Int} {at_4 : Int} {at_6 : Int} {r10 : (List (Int × Bool)) × Int × Int} {i20 : Int} {i21 : Int} {i22 : Int} {i23 : Int} (h : ev_law05_StrikeBack_j9 n r8 i21 at_4 at_6 r10 i22 i20 i23 = some r) : TC Try.prog ⟨w0, fun _ => False, R0⟩ 271 (bodyPost Try.prog Try.f8 (Post ⟨w0, fun _ => False, R0⟩ env0 (.val (.bool r)) [])) [.code (sub (bodyOf Try.f8) [1, 1, 1, 1, 1, 1, 1, 1, 1, 1, 1, 0, 1, 1]), .code (sub (bodyOf Try.f8) [1, 1, 1, 1, 1, 1, 1, 1, 1, 1, 1, 1])] ([(7, .val (.int .i64 r8)), (10, .val (.int .i64 (at_4 + (Int.tmod at_6 31)))), (12, .val (.int .i64 r10.2.1)), (13, .val (.int .i64 r10.2.2)), (14, .val (.int .i64 i20)), (20, .val (.int .i64 i21)), (21, .val (.int .i64 i22)), (22, .val (.int .i64 i23))]) ([]) := by
  rw [ev_law05_StrikeBack_j9] at h
  refine TC.skip ?_
  refine TC.seq ?_
  refine TC.region ?_
  refine op0 (sp_move rfl rfl) rfl trivial rfl rfl ?_
  refine op0 (sp_move rfl rfl) rfl trivial rfl rfl ?_
  refine op0 (sp_move rfl rfl) rfl trivial rfl rfl ?_
  obtain ⟨h76, h⟩ := chk_inv h
  refine op0 (sp_rem rfl rfl rfl h76) rfl trivial rfl rfl ?_
  refine op0 (sp_neq rfl rfl rfl) rfl trivial rfl rfl ?_
  refine op0 (sp_move rfl rfl) rfl trivial rfl rfl ?_
  rcases cond_cases h with ⟨h77, h⟩ | ⟨h77, h⟩
  · refine (boolLit 249 rfl h77).2 ?_
    refine opSkip rfl ⟨_, rfl, .inl rfl⟩ rfl ?_
    refine opSkip rfl ⟨_, rfl, .inl rfl⟩ rfl ?_
    refine opSkip rfl ⟨_, rfl, .inl rfl⟩ rfl ?_
    refine opSkip rfl ⟨_, rfl, .inr rfl⟩ rfl ?_
    refine opSkip rfl ⟨_, rfl, .inr rfl⟩ rfl ?_
    refine opSkip rfl ⟨_, rfl, .inr rfl⟩ rfl ?_
    refine opSkip rfl ⟨_, rfl, .inr rfl⟩ rfl ?_
    refine opSkip rfl ⟨_, rfl, .inr rfl⟩ rfl ?_
    refine opSkip rfl ⟨_, rfl, .inr rfl⟩ rfl ?_
    refine opSkip rfl ⟨_, rfl, .inr rfl⟩ rfl ?_
    refine opSkip rfl ⟨_, rfl, .inr rfl⟩ rfl ?_
    refine opSkip rfl ⟨_, rfl, .inr rfl⟩ rfl ?_
    refine opSkip rfl ⟨_, rfl, .inr rfl⟩ rfl ?_
    refine opSkip rfl ⟨_, rfl, .inr rfl⟩ rfl ?_
    refine opSkip rfl ⟨_, rfl, .inr rfl⟩ rfl ?_
    refine opSkip rfl ⟨_, rfl, .inr rfl⟩ rfl ?_
    refine opSkip rfl ⟨_, rfl, .inl rfl⟩ rfl ?_
    refine op0 (sp_pickT rfl rfl rfl) rfl trivial rfl rfl ?_
    refine op0 (sp_move rfl rfl) rfl trivial rfl rfl ?_
    obtain ⟨r46, h78, h⟩ := bind_inv h
    refine op0 (sp_call (avs := []) (need := []) (v := .val (.bool r46)) (news := []) rfl rfl rfl Try.call12 (atJ [] [] (fc_law05_known h78) rfl rfl) (.inl (roAll rfl))) rfl ⟨_, rfl, rfl⟩ rfl rfl ?_
    refine op0 (sp_pickT rfl rfl rfl) rfl trivial rfl rfl ?_
    refine op0 (sp_assign rfl rfl) rfl trivial rfl rfl ?_
    refine TL.nil ?_
    cases h
    exact retJ [] (.tmp rfl .nil) rfl trivial rfl rfl
  · refine (boolLit 249 rfl h77).2 ?_
    refine op0 (sp_move rfl rfl) rfl ⟨_, rfl, rfl⟩ rfl rfl ?_
    refine op0 (sp_eql rfl rfl rfl) rfl ⟨_, rfl, rfl⟩ rfl rfl ?_
    refine op0 (sp_move rfl rfl) rfl ⟨_, rfl, rfl⟩ rfl rfl ?_
    rcases cond_cases h with ⟨h79, h⟩ | ⟨h79, h⟩
    · refine (boolLit 252 rfl h79).2 ?_
      refine op0 (sp_move rfl rfl) rfl ⟨_, rfl, rfl⟩ rfl rfl ?_
      refine op0 (sp_move rfl rfl) rfl ⟨_, rfl, rfl⟩ rfl rfl ?_
      refine op0 (sp_lss rfl rfl rfl) rfl ⟨_, rfl, rfl⟩ rfl rfl ?_
      refine op0 (sp_move rfl rfl) rfl ⟨_, rfl, rfl⟩ rfl rfl ?_
      rcases cond_cases h with ⟨h80, h⟩ | ⟨h80, h⟩
      · refine (boolLit 256 rfl h80).2 ?_
        refine opSkip rfl ⟨_, rfl, .inl rfl⟩ rfl ?_
        refine opSkip rfl ⟨_, rfl, .inl rfl⟩ rfl ?_
        refine opSkip rfl ⟨_, rfl, .inl rfl⟩ rfl ?_
        refine opSkip rfl ⟨_, rfl, .inl rfl⟩ rfl ?_
        refine opSkip rfl ⟨_, rfl, .inr rfl⟩ rfl ?_
        refine opSkip rfl ⟨_, rfl, .inr rfl⟩ rfl ?_
        refine opSkip rfl ⟨_, rfl, .inr rfl⟩ rfl ?_
        refine opSkip rfl ⟨_, rfl, .inl rfl⟩ rfl ?_
        refine op0 (sp_pickT rfl rfl rfl) rfl ⟨_, rfl, rfl⟩ rfl rfl ?_
        refine op0 (sp_pickT rfl rfl rfl) rfl ⟨_, rfl, rfl⟩ rfl rfl ?_
        refine op0 (sp_pickF rfl rfl rfl) rfl trivial rfl rfl ?_
        refine op0 (sp_move rfl rfl) rfl trivial rfl rfl ?_
        obtain ⟨r47, h81, h⟩ := bind_inv h
        refine op0 (sp_call (avs := []) (need := []) (v := .val (.bool r47)) (news := []) rfl rfl rfl Try.call12 (atJ [] [] (fc_law05_known h81) rfl rfl) (.inl (roAll rfl))) rfl ⟨_, rfl, rfl⟩ rfl rfl ?_
        refine op0 (sp_pickT rfl rfl rfl) rfl trivial rfl rfl ?_
        refine op0 (sp_assign rfl rfl) rfl trivial rfl rfl ?_
        refine TL.nil ?_
        cases h
        exact retJ [] (.tmp rfl .nil) rfl trivial rfl rfl
      · refine (boolLit 256 rfl h80).2 ?_
        refine op0 (sp_move rfl rfl) rfl ⟨_, rfl, rfl⟩ rfl rfl ?_
        refine op0 (sp_move rfl rfl) rfl ⟨_, rfl, rfl⟩ rfl rfl ?_
        refine op0 (sp_eql rfl rfl rfl) rfl ⟨_, rfl, rfl⟩ rfl rfl ?_
        refine op0 (sp_move rfl rfl) rfl ⟨_, rfl, rfl⟩ rfl rfl ?_
        rcases cond_cases h with ⟨h82, h⟩ | ⟨h82, h⟩
        · refine (boolLit 260 rfl h82).2 ?_
          refine op0 (sp_move rfl rfl) rfl ⟨_, rfl, rfl⟩ rfl rfl ?_
          refine op0 (sp_move rfl rfl) rfl ⟨_, rfl, rfl⟩ rfl rfl ?_
          refine op0 (sp_leq rfl rfl rfl) rfl ⟨_, rfl, rfl⟩ rfl rfl ?_
          refine op0 (sp_pickT rfl rfl rfl) rfl ⟨_, rfl, rfl⟩ rfl rfl ?_
          refine op0 (sp_pickF rfl rfl rfl) rfl ⟨_, rfl, rfl⟩ rfl rfl ?_
          refine op0 (sp_pickT rfl rfl rfl) rfl ⟨_, rfl, rfl⟩ rfl rfl ?_
          refine op0 (sp_pickF rfl rfl rfl) rfl trivial rfl rfl ?_
          refine op0 (sp_move rfl rfl) rfl trivial rfl rfl ?_
          rcases cond_cases h with ⟨h83, h⟩ | ⟨h83, h⟩
          · refine (boolLit 268 rfl h83).2 ?_
            obtain ⟨r48, h84, h⟩ := bind_inv h
            refine op0 (sp_call (avs := []) (need := []) (v := .val (.bool r48)) (news := []) rfl rfl rfl Try.call12 (atJ [] [] (fc_law05_known h84) rfl rfl) (.inl (roAll rfl))) rfl ⟨_, rfl, rfl⟩ rfl rfl ?_
            refine op0 (sp_pickT rfl rfl rfl) rfl trivial rfl rfl ?_
            refine op0 (sp_assign rfl rfl) rfl trivial rfl rfl ?_
            refine TL.nil ?_
            cases h
            exact retJ [] (.tmp rfl .nil) rfl trivial rfl rfl
          · refine (boolLit 268 rfl h83).2 ?_
            refine opSkip rfl ⟨_, rfl, .inl rfl⟩ rfl ?_
            refine op0 (sp_pickF rfl rfl rfl) rfl trivial rfl rfl ?_
            refine op0 (sp_assign rfl rfl) rfl trivial rfl rfl ?_
            refine TL.nil ?_
            cases h
            exact retJ [] (.tmp rfl .nil) rfl trivial rfl rfl
        · refine (boolLit 260 rfl h82).2 ?_
          refine opSkip rfl ⟨_, rfl, .inl rfl⟩ rfl ?_
          refine opSkip rfl ⟨_, rfl, .inl rfl⟩ rfl ?_
          refine opSkip rfl ⟨_, rfl, .inl rfl⟩ rfl ?_
          refine op0 (sp_pickF rfl rfl rfl) rfl ⟨_, rfl, rfl⟩ rfl rfl ?_
          refine op0 (sp_pickF rfl rfl rfl) rfl ⟨_, rfl, rfl⟩ rfl rfl ?_
          refine op0 (sp_pickT rfl rfl rfl) rfl ⟨_, rfl, rfl⟩ rfl rfl ?_
          refine op0 (sp_pickF rfl rfl rfl) rfl trivial rfl rfl ?_
          refine op0 (sp_move rfl rfl) rfl trivial rfl rfl ?_
          refine opSkip rfl ⟨_, rfl, .inl rfl⟩ rfl ?_
          refine op0 (sp_pickF rfl rfl rfl) rfl trivial rfl rfl ?_
          refine op0 (sp_assign rfl rfl) rfl trivial rfl rfl ?_
          refine TL.nil ?_
          cases h
          exact retJ [] (.tmp rfl .nil) rfl trivial rfl rfl
    · refine (boolLit 252 rfl h79).2 ?_
      refine opSkip rfl ⟨_, rfl, .inl rfl⟩ rfl ?_
      refine opSkip rfl ⟨_, rfl, .inl rfl⟩ rfl ?_
      refine opSkip rfl ⟨_, rfl, .inl rfl⟩ rfl ?_
      refine opSkip rfl ⟨_, rfl, .inl rfl⟩ rfl ?_
      refine opSkip rfl ⟨_, rfl, .inr rfl⟩ rfl ?_
      refine opSkip rfl ⟨_, rfl, .inr rfl⟩ rfl ?_
      refine opSkip rfl ⟨_, rfl, .inr rfl⟩ rfl ?_
      refine opSkip rfl ⟨_, rfl, .inr rfl⟩ rfl ?_
      refine opSkip rfl ⟨_, rfl, .inr rfl⟩ rfl ?_
      refine opSkip rfl ⟨_, rfl, .inr rfl⟩ rfl ?_
      refine opSkip rfl ⟨_, rfl, .inr rfl⟩ rfl ?_
      refine opSkip rfl ⟨_, rfl, .inr rfl⟩ rfl ?_
      refine opSkip rfl ⟨_, rfl, .inl rfl⟩ rfl ?_
      refine op0 (sp_pickF rfl rfl rfl) rfl ⟨_, rfl, rfl⟩ rfl rfl ?_
      refine op0 (sp_pickF rfl rfl rfl) rfl trivial rfl rfl ?_
      refine op0 (sp_move rfl rfl) rfl trivial rfl rfl ?_
      refine opSkip rfl ⟨_, rfl, .inl rfl⟩ rfl ?_
      refine op0 (sp_pickF rfl rfl rfl) rfl trivial rfl rfl ?_
      refine op0 (sp_assign rfl rfl) rfl trivial rfl rfl ?_
      refine TL.nil ?_
      cases h
      exact retJ [] (.tmp rfl .nil) rfl trivial rfl rfl
def ev_law05_StrikeBack_l5 (n : Nat) (at_4 : Int) (at_6 : Int) (r8 : Int) (at_5 : Int) (r10 : (List (Int × Bool)) × Int × Int) (i20 : Int) : Nat → Int → Int → Int → Int → (List Int) → Bool → Int → Int → (List (Int × Bool)) → Option Bool
  | 0, _, _, _, _, _, _, _, _, _ => none
  | m + 1, i21, i22, i23, i24, l25, b26, i27, i28, l29 => cond (decide (i24 < (at_4 + (Int.tmod at_6 31)))) (chk (in64 (i24 - at_4)) <| (ev_law05_byteOf n l25 (i24 - at_4)).bind fun r30 => (ev_law05_Wheel_silent n b26 i27 i28 i24).bind fun r31 => cond (!r31) (chk (in64 (Int.tdiv r30 3)) <| chk (in64 (Int.tdiv (Int.tmod (Int.tdiv r30 3) 8) 5)) <| chk (in64 ((at_4 + (Int.tmod at_6 31)) - 1)) <| cond (i24 == ((at_4 + (Int.tmod at_6 31)) - 1)) (chk (in64 ((2 : Int) * r8)) <| chk (in64 ((at_4 + (Int.tmod at_6 31)) + ((2 : Int) * r8))) <| chk (in64 (((at_4 + (Int.tmod at_6 31)) + ((2 : Int) * r8)) - 1)) <| chk (r8 != 0) <| cond ((Int.tmod r30 3) == 1) (chk (r8 != 0) <| ev_law05_StrikeBack_j6 n i21 r8 i23 i24 i22 l25 b26 i27 i28 l29 r30 (fun i21q i22q i23q i24q l25q b26q i27q i28q l29q => ev_law05_StrikeBack_l5 n at_4 at_6 r8 at_5 r10 i20 m i21q i22q i23q i24q l25q b26q i27q i28q l29q) (Int.tmod (at_4 + (Int.tmod at_6 31)) r8)) (ev_law05_StrikeBack_j6 n i21 r8 i23 i24 i22 l25 b26 i27 i28 l29 r30 (fun i21q i22q i23q i24q l25q b26q i27q i28q l29q => ev_law05_StrikeBack_l5 n at_4 at_6 r8 at_5 r10 i20 m i21q i22q i23q i24q l25q b26q i27q i28q l29q) (Int.tmod (((at_4 + (Int.tmod at_6 31)) + ((2 : Int) * r8)) - 1) r8))) (ev_law05_StrikeBack_j7 n r8 i23 i24 i21 i22 (fun i21q i22q i23q i24q l25q b26q i27q i28q l29q => ev_law05_StrikeBack_l5 n at_4 at_6 r8 at_5 r10 i20 m i21q i22q i23q i24q l25q b26q i27q i28q l29q) l25 b26 i27 i28 l29 (Int.tdiv (Int.tmod (Int.tdiv r30 3) 8) 5) ((Int.tmod r30 3) == 1))) (ev_law05_StrikeBack_j7 n r8 i23 i24 i21 i22 (fun i21q i22q i23q i24q l25q b26q i27q i28q l29q => ev_law05_StrikeBack_l5 n at_4 at_6 r8 at_5 r10 i20 m i21q i22q i23q i24q l25q b26q i27q i28q l29q) l25 b26 i27 i28 l29 0 ((Int.tmod r30 3) == 1))) ((ev_law05_Wheel_rules n b26 i27 i28).bind fun r44 => (ev_strike_Play n r44.1 r44.2.1 r44.2.2 at_4 (Int.tmod at_5 r8) l29).bind fun r45 => cond (r45.2.2 != 0) (some false) (cond (r45.1 != i21) (some false) (cond (r45.2.1 != i22) (some false) (ev_law05_StrikeBack_j9 n r8 i21 at_4 at_6 r10 i22 i20 i23))))
set_option maxRecDepth 100000 in
set_option maxHeartbeats 2000000 in
theorem ok_law05_StrikeBack_l5 {n : Nat} {w0 : World} {R0 : Nat → Prop} {env0 : Env} {r : Bool} {r8 : Int} {at_4 : Int} {at_5 : Int} {at_6 : Int} {r10 : (List (Int × Bool)) × Int × Int} {i20 : Int} : ∀ (m : Nat) (i21 : Int) (i22 : Int) (i23 : Int) (i24 : Int) (l25 : List Int) (b26 : Bool) (i27 : Int) (i28 : Int) (l29 : List (Int × Bool)), ev_law05_StrikeBack_l5 n at_4 at_6 r8 at_5 r10 i20 m i21 i22 i23 i24 l25 b26 i27 i28 l29 = some r → TC Try.prog ⟨w0, fun _ => False, R0⟩ 271 (bodyPost Try.prog Try.f8 (Post ⟨w0, fun _ => False, R0⟩ env0 (.val (.bool r)) [])) [.code (sub (bodyOf Try.f8) [1, 1, 1, 1, 1, 1, 1, 1, 1, 0, 1, 0, 0, 0, 0]), .code (sub (bodyOf Try.f8) [1, 1, 1, 1, 1, 1, 1, 1, 1, 0, 1, 0, 0, 0, 1]), .code (sub (bodyOf Try.f8) [1, 1, 1, 1, 1, 1, 1, 1, 1, 0, 1, 0, 0, 1]), .inLoop (sub (bodyOf Try.f8) [1, 1, 1, 1, 1, 1, 1, 1, 1, 0, 1, 0, 0]), .inBlock 2, .code (sub (bodyOf Try.f8) [1, 1, 1, 1, 1, 1, 1, 1, 1, 1])] ([(2, .ref 0), (3, .ptr 1 0), (7, .val (.int .i64 r8)), (8, .val (.int .i64 at_4)), (9, .val (.int .i64 (Int.tmod at_5 r8))), (10, .val (.int .i64 (at_4 + (Int.tmod at_6 31)))), (12, .val (.int .i64 r10.2.1)), (13, .val (.int .i64 r10.2.2)), (14, .val (.int .i64 i20)), (19, .ref 7), (20, .val (.int .i64 i21)), (21, .val (.int .i64 i22)), (22, .val (.int .i64 i23)), (23, .val (.int .i64 i24))]) ([.ro 0 1 (List.map en_uint8 l25), .blk 1 [.val (.bool b26), .val (.int .u8 i27), .val (.int .u8 i28)] 64, .row 7 73 2 (List.map en_api_StrikeStep l29)]) := by
  intro m
  induction m with
  | zero => intro i21 i22 i23 i24 l25 b26 i27 i28 l29 h; exact none_no h
  | succ m ih =>
    intro i21 i22 i23 i24 l25 b26 i27 i28 l29 h
    rw [ev_law05_StrikeBack_l5] at h
    refine TC.region ?_
    refine op0 (sp_move rfl rfl) rfl trivial rfl rfl ?_
    refine op0 (sp_move rfl rfl) rfl trivial rfl rfl ?_
    refine op0 (sp_lss rfl rfl rfl) rfl trivial rfl rfl ?_
    refine TL.nil ?_
    refine TC.cond (b := (decide (i24 < (at_4 + (Int.tmod at_6 31))))) rfl (fun h39 => ?_) (fun h39 => ?_)
    · have h := cond_t h h39
      refine TC.skip ?_
      refine TC.seq ?_
      refine TC.block ?_
      refine TC.seq ?_
      refine TC.region ?_
      refine op0 (sp_build (qs := []) rfl bt73 rfl rfl rfl rfl) rfl trivial rfl rfl ?_
      refine op0 (sp_move rfl rfl) rfl trivial rfl rfl ?_
      refine op0 (sp_move rfl rfl) rfl trivial rfl rfl ?_
      refine op0 (sp_move rfl rfl) rfl trivial rfl rfl ?_
      obtain ⟨h40, h⟩ := chk_inv h
      refine op0 (sp_sub rfl rfl rfl h40) rfl trivial rfl rfl ?_
      obtain ⟨r30, h41, h⟩ := bind_inv h
      refine op1 0 rfl (sp_call (avs := [.ref 0, .val (.int .i64 (i24 - at_4))]) (need := [.ro 0 1 (List.map en_uint8 l25)]) (v := .val (.int .i64 r30)) (news := []) rfl rfl rfl Try.call35 (atJ [] [] (fc_law05_byteOf h41) rfl rfl) (.inl (roAll rfl))) rfl trivial rfl rfl ?_
      refine op0 (sp_alloc 8 rfl Try.zeroValue73 rfl) rfl trivial rfl rfl ?_
      refine stoB 0 (cells' := [.val (.int .i64 0), .val (.bool false)]) rfl rfl trivial rfl rfl rfl rfl vt73 rfl rfl rfl ?_
      refine op0 (sp_assign rfl rfl) rfl trivial rfl rfl ?_
      refine TL.nil ?_
      refine TC.seq ?_
      refine TC.region ?_
      refine op0 (sp_move rfl rfl) rfl trivial rfl rfl ?_
      refine op0 (sp_rem rfl rfl rfl (by decide)) rfl trivial rfl rfl ?_
      refine op0 (sp_eql rfl rfl rfl) rfl trivial rfl rfl ?_
      refine op1 0 rfl (sp_fieldAddrB rfl isBlk rfl ft73_1 vt4 (by decide)) rfl trivial rfl rfl ?_
      refine stoB 0 (cells' := [.val (.int .i64 0), .val (.bool ((Int.tmod r30 3) == 1))]) rfl rfl trivial rfl rfl rfl rfl vt4 rfl rfl rfl ?_
      refine TL.nil ?_
      refine TC.seq ?_
      refine TC.seq ?_
      refine TC.region ?_
      refine op1 2 rfl (sp_loadBA rfl isBlk rfl vt64 rfl rfl) rfl trivial rfl rfl ?_
      refine op0 (sp_move rfl rfl) rfl trivial rfl rfl ?_
      obtain ⟨r31, h42, h⟩ := bind_inv h
      refine op0 (sp_call (avs := [.agg [.val (.bool b26), .val (.int .u8 i27), .val (.int .u8 i28)], .val (.int .i64 i24)]) (need := []) (v := .val (.bool r31)) (news := []) rfl rfl rfl Try.call37 (atJ [] [] (fc_law05_Wheel_silent h42) rfl rfl) (.inl (roAll rfl))) rfl trivial rfl rfl ?_
      refine op0 (sp_not rfl rfl) rfl trivial rfl rfl ?_
      refine TL.nil ?_
      refine TC.cond (b := (!r31)) rfl (fun h43 => ?_) (fun h43 => ?_)
      · have h := cond_t h h43
        refine TC.seq ?_
        refine TC.region ?_
        refine op0 (sp_move rfl rfl) rfl trivial rfl rfl ?_
        obtain ⟨h44, h⟩ := chk_inv h
        refine op0 (sp_quo rfl rfl rfl (by decide) h44) rfl trivial rfl rfl ?_
        refine op0 (sp_rem rfl rfl rfl (by decide)) rfl trivial rfl rfl ?_
        obtain ⟨h45, h⟩ := chk_inv h
        refine op0 (sp_quo rfl rfl rfl (by decide) h45) rfl trivial rfl rfl ?_
        refine op1 0 rfl (sp_fieldAddrB rfl isBlk rfl ft73_0 vt3 (by decide)) rfl trivial rfl rfl ?_
        refine stoB 0 (cells' := [.val (.int .i64 (Int.tdiv (Int.tmod (Int.tdiv r30 3) 8) 5)), .val (.bool ((Int.tmod r30 3) == 1))]) rfl rfl trivial rfl rfl rfl rfl vt3 rfl rfl rfl ?_
        refine TL.nil ?_
        refine TC.seq ?_
        refine TC.region ?_
        refine op0 (sp_move rfl rfl) rfl trivial rfl rfl ?_
        refine op0 (sp_move rfl rfl) rfl trivial rfl rfl ?_
        obtain ⟨h46, h⟩ := chk_inv h
        refine op0 (sp_sub rfl rfl rfl h46) rfl trivial rfl rfl ?_
        refine op0 (sp_eql rfl rfl rfl) rfl trivial rfl rfl ?_
        refine TL.nil ?_
        refine TC.cond (b := (i24 == ((at_4 + (Int.tmod at_6 31)) - 1))) rfl (fun h47 => ?_) (fun h47 => ?_)
        · have h := cond_t h h47
          refine TC.seq ?_
          refine TC.region ?_
          refine op0 (sp_move rfl rfl) rfl trivial rfl rfl ?_
          refine op0 (sp_move rfl rfl) rfl trivial rfl rfl ?_
          obtain ⟨h48, h⟩ := chk_inv h
          refine op0 (sp_mul rfl rfl rfl h48) rfl trivial rfl rfl ?_
          obtain ⟨h49, h⟩ := chk_inv h
          refine op0 (sp_add rfl rfl rfl h49) rfl trivial rfl rfl ?_
          obtain ⟨h50, h⟩ := chk_inv h
          refine op0 (sp_sub rfl rfl rfl h50) rfl trivial rfl rfl ?_
          refine op0 (sp_move rfl rfl) rfl trivial rfl rfl ?_
          obtain ⟨h51, h⟩ := chk_inv h
          refine op0 (sp_rem rfl rfl rfl h51) rfl trivial rfl rfl ?_
          refine op0 (sp_assign rfl rfl) rfl trivial rfl rfl ?_
          refine TL.nil ?_
          refine TC.seq ?_
          refine TC.seq ?_
          refine TC.region ?_
          refine op1 0 rfl (sp_fieldAddrB rfl isBlk rfl ft73_1 vt4 (by decide)) rfl trivial rfl rfl ?_
          refine op1 0 rfl (sp_loadB rfl isBlk rfl vt4 rfl) rfl trivial rfl rfl ?_
          refine TL.nil ?_
          refine TC.cond (b := ((Int.tmod r30 3) == 1)) rfl (fun h52 => ?_) (fun h52 => ?_)
          · have h := cond_t h h52
            refine TC.region ?_
            refine op0 (sp_move rfl rfl) rfl trivial rfl rfl ?_
            refine op0 (sp_move rfl rfl) rfl trivial rfl rfl ?_
            obtain ⟨h53, h⟩ := chk_inv h
            refine op0 (sp_rem rfl rfl rfl h53) rfl trivial rfl rfl ?_
            refine op0 (sp_assign rfl rfl) rfl trivial rfl rfl ?_
            refine TL.nil ?_
            refine subJ [] (ok_law05_StrikeBack_j6 (at_4 := at_4) (at_5 := at_5) (at_6 := at_6) (r10 := r10) (i20 := i20) ih h) ?_ ?_ ?_
            · exact ⟨rfl, rfl, rfl, rfl, rfl, rfl, rfl, rfl, rfl, rfl, rfl, rfl, rfl, rfl, rfl, rfl, trivial⟩
            · exact ⟨mem_at 1 rfl, mem_at 2 rfl, mem_at 3 rfl, mem_at 0 rfl, trivial⟩
            · rfl
          · have h := cond_f h h52
            refine TC.skip ?_
            refine subJ [] (ok_law05_StrikeBack_j6 (at_4 := at_4) (at_5 := at_5) (at_6 := at_6) (r10 := r10) (i20 := i20) ih h) ?_ ?_ ?_
            · exact ⟨rfl, rfl, rfl, rfl, rfl, rfl, rfl, rfl, rfl, rfl, rfl, rfl, rfl, rfl, rfl, rfl, trivial⟩
            · exact ⟨mem_at 1 rfl, mem_at 2 rfl, mem_at 3 rfl, mem_at 0 rfl, trivial⟩
            · rfl
        · have h := cond_f h h47
          refine TC.skip ?_
          refine TC.seq ?_
          refine TC.seq ?_
          refine subJ [] (ok_law05_StrikeBack_j7 (at_4 := at_4) (at_5 := at_5) (at_6 := at_6) (r10 := r10) (i20 := i20) ih h) ?_ ?_ ?_
          · exact ⟨rfl, rfl, rfl, rfl, rfl, rfl, rfl, rfl, rfl, rfl, rfl, rfl, rfl, rfl, rfl, trivial⟩
          · exact ⟨mem_at 1 rfl, mem_at 2 rfl, mem_at 3 rfl, mem_at 0 rfl, trivial⟩
          · rfl
      · have h := cond_f h h43
        refine TC.skip ?_
        refine TC.seq ?_
        refine TC.seq ?_
        refine subJ [] (ok_law05_StrikeBack_j7 (at_4 := at_4) (at_5 := at_5) (at_6 := at_6) (r10 := r10) (i20 := i20) ih h) ?_ ?_ ?_
        · exact ⟨rfl, rfl, rfl, rfl, rfl, rfl, rfl, rfl, rfl, rfl, rfl, rfl, rfl, rfl, rfl, trivial⟩
        · exact ⟨mem_at 1 rfl, mem_at 2 rfl, mem_at 3 rfl, mem_at 0 rfl, trivial⟩
        · rfl
    · have h := cond_f h h39
      refine TC.exit rfl ?_
      refine TC.seq ?_
      refine TC.region ?_
      refine op1 1 rfl (sp_loadBA rfl isBlk rfl vt64 rfl rfl) rfl trivial rfl rfl ?_
      obtain ⟨r44, h71, h⟩ := bind_inv h
      refine op0 (sp_call (avs := [.agg [.val (.bool b26), .val (.int .u8 i27), .val (.int .u8 i28)]]) (need := []) (v := .agg [.val (.bool r44.1), .val (.bool r44.2.1), .ref 13]) (news := [.row 13 81 2 (List.map en_api_Span r44.2.2)]) rfl rfl rfl Try.call38 (atJ [] [(0, 13)] (fc_law05_Wheel_rules h71) rfl rfl) (.inl (roAll rfl))) rfl trivial rfl rfl ?_
      refine op0 (sp_move rfl rfl) rfl trivial rfl rfl ?_
      refine op0 (sp_move rfl rfl) rfl trivial rfl rfl ?_
      refine op0 (sp_move rfl rfl) rfl trivial rfl rfl ?_
      obtain ⟨r45, h72, h⟩ := bind_inv h
      refine opN (need := [.row 13 81 2 (List.map en_api_Span r44.2.2), .row 7 73 2 (List.map en_api_StrikeStep l29)]) [0, 3] ⟨rfl, rfl, trivial⟩ (sp_call (avs := [.agg [.val (.bool r44.1), .val (.bool r44.2.1), .ref 13], .val (.int .i64 at_4), .val (.int .i64 (Int.tmod at_5 r8)), .ref 7]) (need := [.row 13 81 2 (List.map en_api_Span r44.2.2), .row 7 73 2 (List.map en_api_StrikeStep l29)]) (v := .tup [.val (.int .i64 r45.1), .val (.int .i64 r45.2.1), .val (.int .i64 r45.2.2)]) (news := []) rfl rfl rfl Try.call28 (atJ [(0, 13), (1, 7)] [] (fc_strike_Play h72) rfl rfl) (.inr (fun x hx => nomatch hx))) rfl trivial rfl rfl ?_
      refine op0 (sp_move rfl rfl) rfl trivial rfl rfl ?_
      refine op0 (sp_extract rfl rfl rfl) rfl trivial rfl rfl ?_
      refine op0 (sp_extract rfl rfl rfl) rfl trivial rfl rfl ?_
      refine op0 (sp_extract rfl rfl rfl) rfl trivial rfl rfl ?_
      refine op0 (sp_assign rfl rfl) rfl trivial rfl rfl ?_
      refine op0 (sp_assign rfl rfl) rfl trivial rfl rfl ?_
      refine op0 (sp_assign rfl rfl) rfl trivial rfl rfl ?_
      refine TL.nil ?_
      refine TC.seq ?_
      refine TC.seq ?_
      refine TC.region ?_
      refine op0 (sp_move rfl rfl) rfl trivial rfl rfl ?_
      refine op0 (sp_neq rfl rfl rfl) rfl trivial rfl rfl ?_
      refine op0 (sp_move rfl rfl) rfl trivial rfl rfl ?_
      rcases cond_cases h with ⟨h73, h⟩ | ⟨h73, h⟩
      · refine (boolLit 234 rfl h73).2 ?_
        refine opSkip rfl ⟨_, rfl, .inl rfl⟩ rfl ?_
        refine opSkip rfl ⟨_, rfl, .inl rfl⟩ rfl ?_
        refine opSkip rfl ⟨_, rfl, .inl rfl⟩ rfl ?_
        refine op0 (sp_pickT rfl rfl rfl) rfl trivial rfl rfl ?_
        refine op0 (sp_move rfl rfl) rfl trivial rfl rfl ?_
        refine opSkip rfl ⟨_, rfl, .inl rfl⟩ rfl ?_
        refine opSkip rfl ⟨_, rfl, .inl rfl⟩ rfl ?_
        refine opSkip rfl ⟨_, rfl, .inl rfl⟩ rfl ?_
        refine op0 (sp_pickT rfl rfl rfl) rfl trivial rfl rfl ?_
        refine TL.nil ?_
        refine TC.condT rfl ?_
        refine TC.seq ?_
        refine TC.region ?_
        refine op0 (sp_assign rfl rfl) rfl trivial rfl rfl ?_
        refine TL.nil ?_
        cases h
        exact retJ [] (.tmp rfl .nil) rfl trivial rfl rfl
      · refine (boolLit 234 rfl h73).2 ?_
        refine op0 (sp_move rfl rfl) rfl ⟨_, rfl, rfl⟩ rfl rfl ?_
        refine op0 (sp_move rfl rfl) rfl ⟨_, rfl, rfl⟩ rfl rfl ?_
        refine op0 (sp_neq rfl rfl rfl) rfl ⟨_, rfl, rfl⟩ rfl rfl ?_
        refine op0 (sp_pickF rfl rfl rfl) rfl trivial rfl rfl ?_
        refine op0 (sp_move rfl rfl) rfl trivial rfl rfl ?_
        rcases cond_cases h with ⟨h74, h⟩ | ⟨h74, h⟩
        · refine (boolLit 239 rfl h74).2 ?_
          refine opSkip rfl ⟨_, rfl, .inl rfl⟩ rfl ?_
          refine opSkip rfl ⟨_, rfl, .inl rfl⟩ rfl ?_
          refine opSkip rfl ⟨_, rfl, .inl rfl⟩ rfl ?_
          refine op0 (sp_pickT rfl rfl rfl) rfl trivial rfl rfl ?_
          refine TL.nil ?_
          refine TC.condT rfl ?_
          refine TC.seq ?_
          refine TC.region ?_
          refine op0 (sp_assign rfl rfl) rfl trivial rfl rfl ?_
          refine TL.nil ?_
          cases h
          exact retJ [] (.tmp rfl .nil) rfl trivial rfl rfl
        · refine (boolLit 239 rfl h74).2 ?_
          refine op0 (sp_move rfl rfl) rfl ⟨_, rfl, rfl⟩ rfl rfl ?_
          refine op0 (sp_move rfl rfl) rfl ⟨_, rfl, rfl⟩ rfl rfl ?_
          refine op0 (sp_neq rfl rfl rfl) rfl ⟨_, rfl, rfl⟩ rfl rfl ?_
          refine op0 (sp_pickF rfl rfl rfl) rfl trivial rfl rfl ?_
          refine TL.nil ?_
          refine TC.cond (b := (r45.2.1 != i22)) rfl (fun h75 => ?_) (fun h75 => ?_)
          · have h := cond_t h h75
            refine TC.seq ?_
            refine TC.region ?_
            refine op0 (sp_assign rfl rfl) rfl trivial rfl rfl ?_
            refine TL.nil ?_
            cases h
            exact retJ [] (.tmp rfl .nil) rfl trivial rfl rfl
          · have h := cond_f h h75
            refine subJ [] (ok_law05_StrikeBack_j9 h) ?_ ?_ ?_
            · exact ⟨rfl, rfl, rfl, rfl, rfl, rfl, rfl, rfl, trivial⟩
            · exact trivial
            · rfl
def ev_law05_StrikeBack_j4 (n : Nat) (at_4 : Int) (at_6 : Int) (r8 : Int) (at_5 : Int) (r10 : (List (Int × Bool)) × Int × Int) (by_7 : List Int) (w1 : Bool) (w2 : Int) (w3 : Int) (i20 : Int) : Option Bool :=
  ev_law05_StrikeBack_l5 n at_4 at_6 r8 at_5 r10 i20 n (Int.tmod at_5 r8) 0 0 at_4 by_7 w1 w2 w3 ([] : List (Int × Bool))
set_option maxRecDepth 100000 in
set_option maxHeartbeats 2000000 in
theorem ok_law05_StrikeBack_j4 {n : Nat} {w0 : World} {R0 : Nat → Prop} {env0 : Env} {r : Bool} {r8 : Int} {at_4 : Int} {at_5 : Int} {at_6 : Int} {r10 : (List (Int × Bool)) × Int × Int} {by_7 : List Int} {w1 : Bool} {w2 : Int} {w3 : Int} {i20 : Int} (h : ev_law05_StrikeBack_j4 n at_4 at_6 r8 at_5 r10 by_7 w1 w2 w3 i20 = some r) : TC Try.prog ⟨w0, fun _ => False, R0⟩ 271 (bodyPost Try.prog Try.f8 (Post ⟨w0, fun _ => False, R0⟩ env0 (.val (.bool r)) [])) [.code (sub (bodyOf Try.f8) [1, 1, 1, 1, 1, 1, 1, 1, 0]), .code (sub (bodyOf Try.f8) [1, 1, 1, 1, 1, 1, 1, 1, 1])] ([(2, .ref 0), (3, .ptr 1 0), (7, .val (.int .i64 r8)), (8, .val (.int .i64 at_4)), (9, .val (.int .i64 (Int.tmod at_5 r8))), (10, .val (.int .i64 (at_4 + (Int.tmod at_6 31)))), (12, .val (.int .i64 r10.2.1)), (13, .val (.int .i64 r10.2.2)), (14, .val (.int .i64 i20))]) ([.ro 0 1 (List.map en_uint8 by_7), .blk 1 [.val (.bool w1), .val (.int .u8 w2), .val (.int .u8 w3)] 64]) := by
  rw [ev_law05_StrikeBack_j4] at h
  refine TC.region ?_
  refine op0 (sp_emptyM 7 (List.map en_api_StrikeStep []) rfl rfl sl50) rfl trivial rfl rfl ?_
  refine op0 (sp_move rfl rfl) rfl trivial rfl rfl ?_
  refine op0 (sp_assign rfl rfl) rfl trivial rfl rfl ?_
  refine op0 (sp_assign rfl rfl) rfl trivial rfl rfl ?_
  refine op0 (sp_assign rfl rfl) rfl trivial rfl rfl ?_
  refine op0 (sp_assign rfl rfl) rfl trivial rfl rfl ?_
  refine TL.nil ?_
  refine TC.seq ?_
  refine TC.seq ?_
  refine TC.region ?_
  refine op0 (sp_move rfl rfl) rfl trivial rfl rfl ?_
  refine op0 (sp_assign rfl rfl) rfl trivial rfl rfl ?_
  refine TL.nil ?_
  refine TC.block ?_
  refine TC.loop ?_
  refine TC.seq ?_
  refine TC.seq ?_
  refine subJ [] (ok_law05_StrikeBack_l5 _ _ _ _ _ _ _ _ _ _ h) ?_ ?_ ?_
  · exact ⟨rfl, rfl, rfl, rfl, rfl, rfl, rfl, rfl, rfl, rfl, rfl, rfl, rfl, rfl, trivial⟩
  · exact ⟨mem_at 1 rfl, mem_at 2 rfl, mem_at 0 rfl, trivial⟩
  · rfl
def ev_law05_StrikeBack_l2 (n : Nat) (r10 : (List (Int × Bool)) × Int × Int) (at_4 : Int) (w1 : Bool) (w2 : Int) (w3 : Int) (at_6 : Int) (r8 : Int) (at_5 : Int) (by_7 : List Int) : Nat → Int → Int → Option Bool
  | 0, _, _ => none
  | m + 1, i14, i15 => cond (decide (i15 < (r10.1.length : Int))) (idx r10.1 i15 fun x16 => cond x16.2 (chk (in64 (i14 + 1)) <| ev_law05_StrikeBack_j3 n r10 i15 at_4 w1 w2 w3 (fun i14q i15q => ev_law05_StrikeBack_l2 n r10 at_4 w1 w2 w3 at_6 r8 at_5 by_7 m i14q i15q) (i14 + 1)) (ev_law05_StrikeBack_j3 n r10 i15 at_4 w1 w2 w3 (fun i14q i15q => ev_law05_StrikeBack_l2 n r10 at_4 w1 w2 w3 at_6 r8 at_5 by_7 m i14q i15q) i14)) (ev_law05_StrikeBack_j4 n at_4 at_6 r8 at_5 r10 by_7 w1 w2 w3 i14)
set_option maxRecDepth 100000 in
set_option maxHeartbeats 2000000 in
theorem ok_law05_StrikeBack_l2 {n : Nat} {w0 : World} {R0 : Nat → Prop} {env0 : Env} {r : Bool} {r8 : Int} {at_4 : Int} {at_5 : Int} {at_6 : Int} {r10 : (List (Int × Bool)) × Int × Int} {by_7 : List Int} {w1 : Bool} {w2 : Int} {w3 : Int} : ∀ (m : Nat) (i14 : Int) (i15 : Int), ev_law05_StrikeBack_l2 n r10 at_4 w1 w2 w3 at_6 r8 at_5 by_7 m i14 i15 = some r → TC Try.prog ⟨w0, fun _ => False, R0⟩ 271 (bodyPost Try.prog Try.f8 (Post ⟨w0, fun _ => False, R0⟩ env0 (.val (.bool r)) [])) [.code (sub (bodyOf Try.f8) [1, 1, 1, 1, 1, 1, 1, 0, 1, 0, 1, 1, 1, 0, 0, 0, 0]), .code (sub (bodyOf Try.f8) [1, 1, 1, 1, 1, 1, 1, 0, 1, 0, 1, 1, 1, 0, 0, 0, 1]), .code (sub (bodyOf Try.f8) [1, 1, 1, 1, 1, 1, 1, 0, 1, 0, 1, 1, 1, 0, 0, 1]), .inLoop (sub (bodyOf Try.f8) [1, 1, 1, 1, 1, 1, 1, 0, 1, 0, 1, 1, 1, 0, 0]), .inBlock 0, .code (sub (bodyOf Try.f8) [1, 1, 1, 1, 1, 1, 1, 1])] ([(2, .ref 0), (3, .ptr 1 0), (7, .val (.int .i64 r8)), (8, .val (.int .i64 at_4)), (9, .val (.int .i64 (Int.tmod at_5 r8))), (10, .val (.int .i64 (at_4 + (Int.tmod at_6 31)))), (11, .ref 4), (12, .val (.int .i64 r10.2.1)), (13, .val (.int .i64 r10.2.2)), (14, .val (.int .i64 i14)), (18, .val (.int .i64 i15))]) ([.ro 0 1 (List.map en_uint8 by_7), .blk 1 [.val (.bool w1), .val (.int .u8 w2), .val (.int .u8 w3)] 64, .row 4 73 2 (List.map en_api_StrikeStep r10.1)]) := by
  intro m
  induction m with
  | zero => intro i14 i15 h; exact none_no h
  | succ m ih =>
    intro i14 i15 h
    rw [ev_law05_StrikeBack_l2] at h
    refine TC.region ?_
    refine op0 (sp_move rfl rfl) rfl trivial rfl rfl ?_
    refine op0 (sp_move rfl rfl) rfl trivial rfl rfl ?_
    refine op1 2 rfl (sp_lenM (N := r10.1.length) (len_map _ _) rfl rfl isOwn Try.underlying50) rfl trivial rfl rfl ?_
    refine op0 (sp_lss rfl rfl rfl) rfl trivial rfl rfl ?_
    refine TL.nil ?_
    refine TC.cond (b := (decide (i15 < (r10.1.length : Int)))) rfl (fun h26 => ?_) (fun h26 => ?_)
    · have h := cond_t h h26
      refine TC.skip ?_
      refine TC.seq ?_
      refine TC.block ?_
      refine TC.seq ?_
      refine TC.seq ?_
      refine TC.region ?_
      refine op0 (sp_move rfl rfl) rfl trivial rfl rfl ?_
      refine op0 (sp_move rfl rfl) rfl trivial rfl rfl ?_
      obtain ⟨x16, h27, h28, h⟩ := idx_inv h
      refine op1 2 rfl (sp_indexS rfl rfl rfl isOwn sl50 h27 (map_get _ h28)) rfl trivial rfl rfl ?_
      refine op1 2 rfl (sp_fieldAddrR (i := (i15 : Int).toNat) rfl rfl isOwn ft73_1 vt4 (by decide) (map_get _ h28) (fun h => nomatch h)) rfl trivial rfl rfl ?_
      refine op1 2 rfl (sp_loadR (i := (i15 : Int).toNat) (j := 1) rfl rfl isOwn vt4 rfl (map_get _ h28) rfl (.v (.nil)) (nodup_of_B rfl)) rfl trivial rfl rfl ?_
      refine TL.nil ?_
      refine TC.cond (b := x16.2) rfl (fun h29 => ?_) (fun h29 => ?_)
      · have h := cond_t h h29
        refine TC.region ?_
        refine op0 (sp_move rfl rfl) rfl trivial rfl rfl ?_
        obtain ⟨h30, h⟩ := chk_inv h
        refine op0 (sp_add rfl rfl rfl h30) rfl trivial rfl rfl ?_
        refine op0 (sp_assign rfl rfl) rfl trivial rfl rfl ?_
        refine TL.nil ?_
        refine TC.seq ?_
        refine subJ [] (ok_law05_StrikeBack_j3 (r8 := r8) (at_5 := at_5) (at_6 := at_6) (by_7 := by_7) ih h) ?_ ?_ ?_
        · exact ⟨rfl, rfl, rfl, rfl, rfl, rfl, rfl, rfl, rfl, rfl, rfl, trivial⟩
        · exact ⟨mem_at 0 rfl, mem_at 1 rfl, mem_at 2 rfl, trivial⟩
        · rfl
      · have h := cond_f h h29
        refine TC.skip ?_
        refine TC.seq ?_
        refine subJ [] (ok_law05_StrikeBack_j3 (r8 := r8) (at_5 := at_5) (at_6 := at_6) (by_7 := by_7) ih h) ?_ ?_ ?_
        · exact ⟨rfl, rfl, rfl, rfl, rfl, rfl, rfl, rfl, rfl, rfl, rfl, trivial⟩
        · exact ⟨mem_at 0 rfl, mem_at 1 rfl, mem_at 2 rfl, trivial⟩
        · rfl
    · have h := cond_f h h26
      refine TC.exit rfl ?_
      refine TC.seq ?_
      refine subJ [] (ok_law05_StrikeBack_j4 h) ?_ ?_ ?_
      · exact ⟨rfl, rfl, rfl, rfl, rfl, rfl, rfl, rfl, rfl, trivial⟩
      · exact ⟨mem_at 0 rfl, mem_at 1 rfl, trivial⟩
      · rfl
def ev_law05_StrikeBack_j1 (n : Nat) (r10 : (List (Int × Bool)) × Int × Int) (at_4 : Int) (w1 : Bool) (w2 : Int) (w3 : Int) (at_6 : Int) (r8 : Int) (at_5 : Int) (by_7 : List Int) : Option Bool :=
  ev_law05_StrikeBack_l2 n r10 at_4 w1 w2 w3 at_6 r8 at_5 by_7 n 0 0
set_option maxRecDepth 100000 in
set_option maxHeartbeats 2000000 in
theorem ok_law05_StrikeBack_j1 {n : Nat} {w0 : World} {R0 : Nat → Prop} {env0 : Env} {r : Bool} {r8 : Int} {at_4 : Int} {at_5 : Int} {at_6 : Int} {r10 : (List (Int × Bool)) × Int × Int} {by_7 : List Int} {w1 : Bool} {w2 : Int} {w3 : Int} (h : ev_law05_StrikeBack_j1 n r10 at_4 w1 w2 w3 at_6 r8 at_5 by_7 = some r) : TC Try.prog ⟨w0, fun _ => False, R0⟩ 271 (bodyPost Try.prog Try.f8 (Post ⟨w0, fun _ => False, R0⟩ env0 (.val (.bool r)) [])) [.code (sub (bodyOf Try.f8) [1, 1, 1, 1, 1, 1, 1, 0, 1, 0, 1, 0, 1, 1]), .code (sub (bodyOf Try.f8) [1, 1, 1, 1, 1, 1, 1, 0, 1, 0, 1, 1]), .code (sub (bodyOf Try.f8) [1, 1, 1, 1, 1, 1, 1, 1])] ([(2, .ref 0), (3, .ptr 1 0), (7, .val (.int .i64 r8)), (8, .val (.int .i64 at_4)), (9, .val (.int .i64 (Int.tmod at_5 r8))), (10, .val (.int .i64 (at_4 + (Int.tmod at_6 31)))), (11, .ref 4), (12, .val (.int .i64 r10.2.1)), (13, .val (.int .i64 r10.2.2)), (14, .val (.int .i64 0))]) ([.ro 0 1 (List.map en_uint8 by_7), .blk 1 [.val (.bool w1), .val (.int .u8 w2), .val (.int .u8 w3)] 64, .row 4 73 2 (List.map en_api_StrikeStep r10.1)]) := by
  rw [ev_law05_StrikeBack_j1] at h
  refine TC.skip ?_
  refine TC.seq ?_
  refine TC.region ?_
  refine op0 (sp_assign rfl rfl) rfl trivial rfl rfl ?_
  refine TL.nil ?_
  refine TC.block ?_
  refine TC.loop ?_
  refine TC.seq ?_
  refine TC.seq ?_
  refine subJ [] (ok_law05_StrikeBack_l2 _ _ _ h) ?_ ?_ ?_
  · exact ⟨rfl, rfl, rfl, rfl, rfl, rfl, rfl, rfl, rfl, rfl, rfl, trivial⟩
  · exact ⟨mem_at 0 rfl, mem_at 1 rfl, mem_at 2 rfl, trivial⟩
  · rfl
def ev_law05_StrikeBack_j0 (n : Nat) (r10 : (List (Int × Bool)) × Int × Int) (w1 : Bool) (w2 : Int) (w3 : Int) (at_4 : Int) (at_5 : Int) (r8 : Int) (at_6 : Int) (by_7 : List Int) : Option Bool :=
  cond (r10.2.2 == 0) ((ev_law05_Wheel_rules n w1 w2 w3).bind fun r11 => (ev_law05_steps n r10.1).bind fun r12 => (ev_strike_Play n r11.1 r11.2.1 r11.2.2 at_4 (Int.tmod at_5 r8) r12).bind fun r13 => cond (r13.2.2 != 0) (some false) (chk (in64 ((at_4 + (Int.tmod at_6 31)) - at_4)) <| cond ((r10.1.length : Int) != ((at_4 + (Int.tmod at_6 31)) - at_4)) (some false) (chk (r8 != 0) <| cond (r13.1 != (Int.tmod (at_4 + (Int.tmod at_6 31)) r8)) (some false) (cond (r13.2.1 != r10.2.1) (some false) (ev_law05_StrikeBack_j1 n r10 at_4 w1 w2 w3 at_6 r8 at_5 by_7))))) (ev_law05_StrikeBack_j4 n at_4 at_6 r8 at_5 r10 by_7 w1 w2 w3 0)
set_option maxRecDepth 100000 in
set_option maxHeartbeats 2000000 in
theorem ok_law05_StrikeBack_j0 {n : Nat} {w0 : World} {R0 : Nat → Prop} {env0 : Env} {r : Bool} {r8 : Int} {at_4 : Int} {at_5 : Int} {at_6 : Int} {r10 : (List (Int × Bool)) × Int × Int} {by_7 : List Int} {w1 : Bool} {w2 : Int} {w3 : Int} (h : ev_law05_StrikeBack_j0 n r10 w1 w2 w3 at_4 at_5 r8 at_6 by_7 = some r) : TC Try.prog ⟨w0, fun _ => False, R0⟩ 271 (bodyPost Try.prog Try.f8 (Post ⟨w0, fun _ => False, R0⟩ env0 (.val (.bool r)) [])) [.code (sub (bodyOf Try.f8) [1, 1, 1, 1, 1, 0, 1, 1]), .code (sub (bodyOf Try.f8) [1, 1, 1, 1, 1, 1])] ([(2, .ref 0), (3, .ptr 1 0), (7, .val (.int .i64 r8)), (8, .val (.int .i64 at_4)), (9, .val (.int .i64 (Int.tmod at_5 r8))), (10, .val (.int .i64 (at_4 + (Int.tmod at_6 31)))), (11, .ref 4), (12, .val (.int .i64 r10.2.1)), (13, .val (.int .i64 r10.2.2))]) ([.ro 0 1 (List.map en_uint8 by_7), .blk 1 [.val (.bool w1), .val (.int .u8 w2), .val (.int .u8 w3)] 64, .row 4 73 2 (List.map en_api_StrikeStep r10.1)]) := by
  rw [ev_law05_StrikeBack_j0] at h
  refine TC.skip ?_
  refine TC.seq ?_
  refine TC.region ?_
  refine op0 (sp_assign rfl rfl) rfl trivial rfl rfl ?_
  refine TL.nil ?_
  refine TC.seq ?_
  refine TC.seq ?_
  refine TC.region ?_
  refine op0 (sp_move rfl rfl) rfl trivial rfl rfl ?_
  refine op0 (sp_eql rfl rfl rfl) rfl trivial rfl rfl ?_
  refine TL.nil ?_
  refine TC.cond (b := (r10.2.2 == 0)) rfl (fun h16 => ?_) (fun h16 => ?_)
  · have h := cond_t h h16
    refine TC.seq ?_
    refine TC.region ?_
    refine op1 1 rfl (sp_loadBA rfl isBlk rfl vt64 rfl rfl) rfl trivial rfl rfl ?_
    obtain ⟨r11, h17, h⟩ := bind_inv h
    refine op0 (sp_call (avs := [.agg [.val (.bool w1), .val (.int .u8 w2), .val (.int .u8 w3)]]) (need := []) (v := .agg [.val (.bool r11.1), .val (.bool r11.2.1), .ref 5]) (news := [.row 5 81 2 (List.map en_api_Span r11.2.2)]) rfl rfl rfl Try.call38 (atJ [] [(0, 5)] (fc_law05_Wheel_rules h17) rfl rfl) (.inl (roAll rfl))) rfl trivial rfl rfl ?_
    refine op0 (sp_move rfl rfl) rfl trivial rfl rfl ?_
    refine op0 (sp_move rfl rfl) rfl trivial rfl rfl ?_
    refine op0 (sp_move rfl rfl) rfl trivial rfl rfl ?_
    obtain ⟨r12, h18, h⟩ := bind_inv h
    refine op1 3 rfl (sp_call (avs := [.ref 4]) (need := [.row 4 73 2 (List.map en_api_StrikeStep r10.1)]) (v := .ref 6) (news := [.row 6 73 2 (List.map en_api_StrikeStep r12)]) rfl rfl rfl Try.call27 (atJ [(0, 4)] [(0, 6)] (fc_law05_steps h18) rfl rfl) (.inr (List.forall_mem_cons.2 ⟨indep_map en_api_StrikeStep_flat, (by simp)⟩))) rfl trivial rfl rfl ?_
    obtain ⟨r13, h19, h⟩ := bind_inv h
    refine opN (need := [.row 5 81 2 (List.map en_api_Span r11.2.2), .row 6 73 2 (List.map en_api_StrikeStep r12)]) [1, 0] ⟨rfl, rfl, trivial⟩ (sp_call (avs := [.agg [.val (.bool r11.1), .val (.bool r11.2.1), .ref 5], .val (.int .i64 at_4), .val (.int .i64 (Int.tmod at_5 r8)), .ref 6]) (need := [.row 5 81 2 (List.map en_api_Span r11.2.2), .row 6 73 2 (List.map en_api_StrikeStep r12)]) (v := .tup [.val (.int .i64 r13.1), .val (.int .i64 r13.2.1), .val (.int .i64 r13.2.2)]) (news := []) rfl rfl rfl Try.call28 (atJ [(0, 5), (1, 6)] [] (fc_strike_Play h19) rfl rfl) (.inr (fun x hx => nomatch hx))) rfl trivial rfl rfl ?_
    refine op0 (sp_move rfl rfl) rfl trivial rfl rfl ?_
    refine op0 (sp_extract rfl rfl rfl) rfl trivial rfl rfl ?_
    refine op0 (sp_extract rfl rfl rfl) rfl trivial rfl rfl ?_
    refine op0 (sp_extract rfl rfl rfl) rfl trivial rfl rfl ?_
    refine op0 (sp_assign rfl rfl) rfl trivial rfl rfl ?_
    refine op0 (sp_assign rfl rfl) rfl trivial rfl rfl ?_
    refine op0 (sp_assign rfl rfl) rfl trivial rfl rfl ?_
    refine TL.nil ?_
    refine TC.seq ?_
    refine TC.seq ?_
    refine TC.region ?_
    refine op0 (sp_move rfl rfl) rfl trivial rfl rfl ?_
    refine op0 (sp_neq rfl rfl rfl) rfl trivial rfl rfl ?_
    refine op0 (sp_move rfl rfl) rfl trivial rfl rfl ?_
    rcases cond_cases h with ⟨h20, h⟩ | ⟨h20, h⟩
    · refine (boolLit 98 rfl h20).2 ?_
      refine opSkip rfl ⟨_, rfl, .inl rfl⟩ rfl ?_
      refine opSkip rfl ⟨_, rfl, .inl rfl⟩ rfl ?_
      refine opSkip rfl ⟨_, rfl, .inl rfl⟩ rfl ?_
      refine opSkip rfl ⟨_, rfl, .inl rfl⟩ rfl ?_
      refine opSkip rfl ⟨_, rfl, .inl rfl⟩ rfl ?_
      refine opSkip rfl ⟨_, rfl, .inl rfl⟩ rfl ?_
      refine op0 (sp_pickT rfl rfl rfl) rfl trivial rfl rfl ?_
      refine op0 (sp_move rfl rfl) rfl trivial rfl rfl ?_
      refine opSkip rfl ⟨_, rfl, .inl rfl⟩ rfl ?_
      refine opSkip rfl ⟨_, rfl, .inl rfl⟩ rfl ?_
      refine opSkip rfl ⟨_, rfl, .inl rfl⟩ rfl ?_
      refine opSkip rfl ⟨_, rfl, .inl rfl⟩ rfl ?_
      refine opSkip rfl ⟨_, rfl, .inl rfl⟩ rfl ?_
      refine op0 (sp_pickT rfl rfl rfl) rfl trivial rfl rfl ?_
      refine op0 (sp_move rfl rfl) rfl trivial rfl rfl ?_
      refine opSkip rfl ⟨_, rfl, .inl rfl⟩ rfl ?_
      refine opSkip rfl ⟨_, rfl, .inl rfl⟩ rfl ?_
      refine opSkip rfl ⟨_, rfl, .inl rfl⟩ rfl ?_
      refine op0 (sp_pickT rfl rfl rfl) rfl trivial rfl rfl ?_
      refine TL.nil ?_
      refine TC.condT rfl ?_
      refine TC.seq ?_
      refine TC.region ?_
      refine op0 (sp_assign rfl rfl) rfl trivial rfl rfl ?_
      refine TL.nil ?_
      cases h
      exact retJ [] (.tmp rfl .nil) rfl trivial rfl rfl
    · refine (boolLit 98 rfl h20).2 ?_
      refine op0 (sp_move rfl rfl) rfl ⟨_, rfl, rfl⟩ rfl rfl ?_
      refine op1 4 rfl (sp_lenM (N := r10.1.length) (len_map _ _) rfl rfl isOwn Try.underlying50) rfl ⟨_, rfl, rfl⟩ rfl rfl ?_
      refine op0 (sp_move rfl rfl) rfl ⟨_, rfl, rfl⟩ rfl rfl ?_
      refine op0 (sp_move rfl rfl) rfl ⟨_, rfl, rfl⟩ rfl rfl ?_
      obtain ⟨h21, h⟩ := chk_inv h
      refine op0 (sp_sub rfl rfl rfl h21) rfl ⟨_, rfl, rfl⟩ rfl rfl ?_
      refine op0 (sp_neq rfl rfl rfl) rfl ⟨_, rfl, rfl⟩ rfl rfl ?_
      refine op0 (sp_pickF rfl rfl rfl) rfl trivial rfl rfl ?_
      refine op0 (sp_move rfl rfl) rfl trivial rfl rfl ?_
      rcases cond_cases h with ⟨h22, h⟩ | ⟨h22, h⟩
      · refine (boolLit 106 rfl h22).2 ?_
        refine opSkip rfl ⟨_, rfl, .inl rfl⟩ rfl ?_
        refine opSkip rfl ⟨_, rfl, .inl rfl⟩ rfl ?_
        refine opSkip rfl ⟨_, rfl, .inl rfl⟩ rfl ?_
        refine opSkip rfl ⟨_, rfl, .inl rfl⟩ rfl ?_
        refine opSkip rfl ⟨_, rfl, .inl rfl⟩ rfl ?_
        refine op0 (sp_pickT rfl rfl rfl) rfl trivial rfl rfl ?_
        refine op0 (sp_move rfl rfl) rfl trivial rfl rfl ?_
        refine opSkip rfl ⟨_, rfl, .inl rfl⟩ rfl ?_
        refine opSkip rfl ⟨_, rfl, .inl rfl⟩ rfl ?_
        refine opSkip rfl ⟨_, rfl, .inl rfl⟩ rfl ?_
        refine op0 (sp_pickT rfl rfl rfl) rfl trivial rfl rfl ?_
        refine TL.nil ?_
        refine TC.condT rfl ?_
        refine TC.seq ?_
        refine TC.region ?_
        refine op0 (sp_assign rfl rfl) rfl trivial rfl rfl ?_
        refine TL.nil ?_
        cases h
        exact retJ [] (.tmp rfl .nil) rfl trivial rfl rfl
      · refine (boolLit 106 rfl h22).2 ?_
        refine op0 (sp_move rfl rfl) rfl ⟨_, rfl, rfl⟩ rfl rfl ?_
        refine op0 (sp_move rfl rfl) rfl ⟨_, rfl, rfl⟩ rfl rfl ?_
        refine op0 (sp_move rfl rfl) rfl ⟨_, rfl, rfl⟩ rfl rfl ?_
        obtain ⟨h23, h⟩ := chk_inv h
        refine op0 (sp_rem rfl rfl rfl h23) rfl ⟨_, rfl, rfl⟩ rfl rfl ?_
        refine op0 (sp_neq rfl rfl rfl) rfl ⟨_, rfl, rfl⟩ rfl rfl ?_
        refine op0 (sp_pickF rfl rfl rfl) rfl trivial rfl rfl ?_
        refine op0 (sp_move rfl rfl) rfl trivial rfl rfl ?_
        rcases cond_cases h with ⟨h24, h⟩ | ⟨h24, h⟩
        · refine (boolLit 113 rfl h24).2 ?_
          refine opSkip rfl ⟨_, rfl, .inl rfl⟩ rfl ?_
          refine opSkip rfl ⟨_, rfl, .inl rfl⟩ rfl ?_
          refine opSkip rfl ⟨_, rfl, .inl rfl⟩ rfl ?_
          refine op0 (sp_pickT rfl rfl rfl) rfl trivial rfl rfl ?_
          refine TL.nil ?_
          refine TC.condT rfl ?_
          refine TC.seq ?_
          refine TC.region ?_
          refine op0 (sp_assign rfl rfl) rfl trivial rfl rfl ?_
          refine TL.nil ?_
          cases h
          exact retJ [] (.tmp rfl .nil) rfl trivial rfl rfl
        · refine (boolLit 113 rfl h24).2 ?_
          refine op0 (sp_move rfl rfl) rfl ⟨_, rfl, rfl⟩ rfl rfl ?_
          refine op0 (sp_move rfl rfl) rfl ⟨_, rfl, rfl⟩ rfl rfl ?_
          refine op0 (sp_neq rfl rfl rfl) rfl ⟨_, rfl, rfl⟩ rfl rfl ?_
          refine op0 (sp_pickF rfl rfl rfl) rfl trivial rfl rfl ?_
          refine TL.nil ?_
          refine TC.cond (b := (r13.2.1 != r10.2.1)) rfl (fun h25 => ?_) (fun h25 => ?_)
          · have h := cond_t h h25
            refine TC.seq ?_
            refine TC.region ?_
            refine op0 (sp_assign rfl rfl) rfl trivial rfl rfl ?_
            refine TL.nil ?_
            cases h
            exact retJ [] (.tmp rfl .nil) rfl trivial rfl rfl
          · have h := cond_f h h25
            refine subJ [] (ok_law05_StrikeBack_j1 h) ?_ ?_ ?_
            · exact ⟨rfl, rfl, rfl, rfl, rfl, rfl, rfl, rfl, rfl, rfl, trivial⟩
            · exact ⟨mem_at 2 rfl, mem_at 3 rfl, mem_at 4 rfl, trivial⟩
            · rfl
  · have h := cond_f h h16
    refine TC.skip ?_
    refine TC.seq ?_
    refine subJ [] (ok_law05_StrikeBack_j4 h) ?_ ?_ ?_
    · exact ⟨rfl, rfl, rfl, rfl, rfl, rfl, rfl, rfl, rfl, trivial⟩
    · exact ⟨mem_at 0 rfl, mem_at 1 rfl, trivial⟩
    · rfl
def ev_law05_StrikeBack (n : Nat) (w1 : Bool) (w2 : Int) (w3 : Int) (at_4 : Int) (at_5 : Int) (at_6 : Int) (by_7 : List Int) : Option Bool :=
  (ev_law05_Wheel_places n w1 w2 w3).bind fun r8 => chk (in64 at_4) <| chk (in64 at_5) <| chk (r8 != 0) <| chk (in64 at_6) <| chk (in64 (at_4 + (Int.tmod at_6 31))) <| (ev_law05_Wheel_rules n w1 w2 w3).bind fun r9 => (ev_strike_Bring n r9.1 r9.2.1 r9.2.2 at_4 (Int.tmod at_5 r8) (at_4 + (Int.tmod at_6 31))).bind fun r10 => cond (r10.2.2 != 0) (cond (r10.2.2 != 7) (some false) (cond (r10.2.2 == 7) (cond ((r10.1.length : Int) != 0) (some false) (cond (r10.2.1 != 0) (some false) (chk (in64 ((at_4 + (Int.tmod at_6 31)) - at_4)) <| cond (decide (r8 ≤ ((at_4 + (Int.tmod at_6 31)) - at_4))) (some false) (ev_law05_StrikeBack_j0 n r10 w1 w2 w3 at_4 at_5 r8 at_6 by_7)))) (ev_law05_StrikeBack_j0 n r10 w1 w2 w3 at_4 at_5 r8 at_6 by_7))) (cond (r10.2.2 == 7) (cond ((r10.1.length : Int) != 0) (some false) (cond (r10.2.1 != 0) (some false) (chk (in64 ((at_4 + (Int.tmod at_6 31)) - at_4)) <| cond (decide (r8 ≤ ((at_4 + (Int.tmod at_6 31)) - at_4))) (some false) (ev_law05_StrikeBack_j0 n r10 w1 w2 w3 at_4 at_5 r8 at_6 by_7)))) (ev_law05_StrikeBack_j0 n r10 w1 w2 w3 at_4 at_5 r8 at_6 by_7))
set_option maxRecDepth 100000 in
set_option maxHeartbeats 2000000 in
theorem fc_law05_StrikeBack {n : Nat} {w1 : Bool} {w2 : Int} {w3 : Int} {at_4 : Int} {at_5 : Int} {at_6 : Int} {by_7 : List Int} {r : Bool} (h : ev_law05_StrikeBack n w1 w2 w3 at_4 at_5 at_6 by_7 = some r) : FC Try.prog 8 [.agg [.val (.bool w1), .val (.int .u8 w2), .val (.int .u8 w3)], .agg [.val (.int .u8 at_4), .val (.int .u8 at_5), .val (.int .u8 at_6)], .ref 0] [.ro 0 1 (List.map en_uint8 by_7)] (.val (.bool r)) [] := by
  refine introJ (nz := 271) Try.func8 rfl rfl rfl (fun w0 R0 env0 => ?_)
  rw [ev_law05_StrikeBack] at h
  refine TC.seq ?_
  refine TC.region ?_
  refine op0 (sp_box 1 rfl rfl rfl rfl rfl) rfl trivial rfl rfl ?_
  refine op0 (sp_box 2 rfl rfl rfl rfl rfl) rfl trivial rfl rfl ?_
  refine op0 (sp_assign rfl rfl) rfl trivial rfl rfl ?_
  refine TL.nil ?_
  refine TC.seq ?_
  refine TC.region ?_
  refine op1 1 rfl (sp_loadBA rfl isBlk rfl vt64 rfl rfl) rfl trivial rfl rfl ?_
  obtain ⟨r8, h1, h⟩ := bind_inv h
  refine op0 (sp_call (avs := [.agg [.val (.bool w1), .val (.int .u8 w2), .val (.int .u8 w3)]]) (need := []) (v := .val (.int .i64 r8)) (news := []) rfl rfl rfl Try.call34 (atJ [] [] (fc_law05_Wheel_places h1) rfl rfl) (.inl (roAll rfl))) rfl trivial rfl rfl ?_
  refine op0 (sp_assign rfl rfl) rfl trivial rfl rfl ?_
  refine TL.nil ?_
  refine TC.seq ?_
  obtain ⟨h2, h⟩ := chk_inv h
  obtain ⟨h3, h⟩ := chk_inv h
  obtain ⟨h4, h⟩ := chk_inv h
  refine drawJ 9 [⟨.ptr 2 0, [], [.blk 2 [.val (.int .u8 at_4), .val (.int .u8 at_5), .val (.int .u8 at_6)] 71], []⟩, ⟨.val (.int .u8 at_4), [], [.blk 2 [.val (.int .u8 at_4), .val (.int .u8 at_5), .val (.int .u8 at_6)] 71], []⟩, ⟨.val (.int .i64 at_4), [], [], []⟩, ⟨.ptr 2 1, [], [.blk 2 [.val (.int .u8 at_4), .val (.int .u8 at_5), .val (.int .u8 at_6)] 71], []⟩, ⟨.val (.int .u8 at_5), [], [.blk 2 [.val (.int .u8 at_4), .val (.int .u8 at_5), .val (.int .u8 at_6)] 71], []⟩, ⟨.val (.int .i64 at_5), [], [], []⟩, ⟨.val (.int .i64 r8), [], [], []⟩, ⟨.val (.int .i64 (Int.tmod at_5 r8)), [], [], []⟩, ⟨.val (.int .i64 at_4), [], [], []⟩] rfl ?_ rfl ?_ rfl ?_ ?_
  · kernel_rfl
  · kernel_rfl
  · exact DAll.op' (sp_indexA (len := 3) (iv := 0) rfl isBlk rfl rfl Try.underlying71 vt5 (by decide)) trivial rfl (From.ok (ps := [(none, 0)]) ⟨⟨rfl, rfl⟩, trivial⟩) (DAll.op' (sp_loadB rfl isBlk rfl vt5 rfl) trivial rfl (From.ok (ps := [(none, 0)]) ⟨⟨rfl, rfl⟩, trivial⟩) (DAll.op' (sp_conv rfl Try.underlying5 Try.underlying3 rfl h2) trivial rfl (From.ok (ps := []) trivial) (DAll.op' (sp_indexA (len := 3) (iv := 1) rfl isBlk rfl rfl Try.underlying71 vt5 (by decide)) trivial rfl (From.ok (ps := [(none, 0)]) ⟨⟨rfl, rfl⟩, trivial⟩) (DAll.op' (sp_loadB rfl isBlk rfl vt5 rfl) trivial rfl (From.ok (ps := [(none, 0)]) ⟨⟨rfl, rfl⟩, trivial⟩) (DAll.op' (sp_conv rfl Try.underlying5 Try.underlying3 rfl h3) trivial rfl (From.ok (ps := []) trivial) (DAll.op' (sp_move rfl rfl) trivial rfl (From.ok (ps := []) trivial) (DAll.op' (sp_rem rfl rfl rfl h4) trivial rfl (From.ok (ps := []) trivial) (DAll.op' (sp_assign rfl rfl) trivial rfl (From.ok (ps := []) trivial) (.nil)))))))))
  refine op0 (sp_assign rfl rfl) rfl trivial rfl rfl ?_
  refine TL.nil ?_
  refine TC.seq ?_
  refine TC.region ?_
  refine op0 (sp_move rfl rfl) rfl trivial rfl rfl ?_
  refine op1 0 rfl (sp_indexA (len := 3) (iv := 2) rfl isBlk rfl rfl Try.underlying71 vt5 (by decide)) rfl trivial rfl rfl ?_
  refine op1 0 rfl (sp_loadB rfl isBlk rfl vt5 rfl) rfl trivial rfl rfl ?_
  obtain ⟨h5, h⟩ := chk_inv h
  refine op0 (sp_conv rfl Try.underlying5 Try.underlying3 rfl h5) rfl trivial rfl rfl ?_
  refine op0 (sp_rem rfl rfl rfl (by decide)) rfl trivial rfl rfl ?_
  obtain ⟨h6, h⟩ := chk_inv h
  refine op0 (sp_add rfl rfl rfl h6) rfl trivial rfl rfl ?_
  refine op0 (sp_assign rfl rfl) rfl trivial rfl rfl ?_
  refine TL.nil ?_
  refine TC.seq ?_
  refine TC.region ?_
  refine op1 1 rfl (sp_loadBA rfl isBlk rfl vt64 rfl rfl) rfl trivial rfl rfl ?_
  obtain ⟨r9, h7, h⟩ := bind_inv h
  refine op0 (sp_call (avs := [.agg [.val (.bool w1), .val (.int .u8 w2), .val (.int .u8 w3)]]) (need := []) (v := .agg [.val (.bool r9.1), .val (.bool r9.2.1), .ref 3]) (news := [.row 3 81 2 (List.map en_api_Span r9.2.2)]) rfl rfl rfl Try.call38 (atJ [] [(0, 3)] (fc_law05_Wheel_rules h7) rfl rfl) (.inl (roAll rfl))) rfl trivial rfl rfl ?_
  refine op0 (sp_move rfl rfl) rfl trivial rfl rfl ?_
  refine op0 (sp_move rfl rfl) rfl trivial rfl rfl ?_
  refine op0 (sp_move rfl rfl) rfl trivial rfl rfl ?_
  obtain ⟨r10, h8, h⟩ := bind_inv h
  refine op1 0 rfl (sp_call (avs := [.agg [.val (.bool r9.1), .val (.bool r9.2.1), .ref 3], .val (.int .i64 at_4), .val (.int .i64 (Int.tmod at_5 r8)), .val (.int .i64 (at_4 + (Int.tmod at_6 31)))]) (need := [.row 3 81 2 (List.map en_api_Span r9.2.2)]) (v := .tup [.ref 4, .val (.int .i64 r10.2.1), .val (.int .i64 r10.2.2)]) (news := [.row 4 73 2 (List.map en_api_StrikeStep r10.1)]) rfl rfl rfl Try.call32 (atJ [(0, 3)] [(0, 4)] (fc_strike_Bring h8) rfl rfl) (.inr (List.forall_mem_cons.2 ⟨indep_map en_api_StrikeStep_flat, (by simp)⟩))) rfl trivial rfl rfl ?_
  refine op0 (sp_move rfl rfl) rfl trivial rfl rfl ?_
  refine op0 (sp_extract rfl rfl rfl) rfl trivial rfl rfl ?_
  refine op0 (sp_extract rfl rfl rfl) rfl trivial rfl rfl ?_
  refine op0 (sp_extract rfl rfl rfl) rfl trivial rfl rfl ?_
  refine op0 (sp_assign rfl rfl) rfl trivial rfl rfl ?_
  refine op0 (sp_assign rfl rfl) rfl trivial rfl rfl ?_
  refine op0 (sp_assign rfl rfl) rfl trivial rfl rfl ?_
  refine TL.nil ?_
  refine TC.seq ?_
  refine TC.seq ?_
  refine TC.region ?_
  refine op0 (sp_move rfl rfl) rfl trivial rfl rfl ?_
  refine op0 (sp_neq rfl rfl rfl) rfl trivial rfl rfl ?_
  refine op0 (sp_move rfl rfl) rfl trivial rfl rfl ?_
  rcases cond_cases h with ⟨h9, h⟩ | ⟨h9, h⟩
  · refine (boolLit 59 rfl h9).2 ?_
    refine op0 (sp_move rfl rfl) rfl ⟨_, rfl, rfl⟩ rfl rfl ?_
    refine op0 (sp_neq rfl rfl rfl) rfl ⟨_, rfl, rfl⟩ rfl rfl ?_
    refine op0 (sp_pickT rfl rfl rfl) rfl trivial rfl rfl ?_
    refine op0 (sp_move rfl rfl) rfl trivial rfl rfl ?_
    rcases cond_cases h with ⟨h10, h⟩ | ⟨h10, h⟩
    · refine (boolLit 63 rfl h10).2 ?_
      refine opSkip rfl ⟨_, rfl, .inl rfl⟩ rfl ?_
      refine opSkip rfl ⟨_, rfl, .inl rfl⟩ rfl ?_
      refine opSkip rfl ⟨_, rfl, .inl rfl⟩ rfl ?_
      refine opSkip rfl ⟨_, rfl, .inr rfl⟩ rfl ?_
      refine opSkip rfl ⟨_, rfl, .inr rfl⟩ rfl ?_
      refine opSkip rfl ⟨_, rfl, .inr rfl⟩ rfl ?_
      refine opSkip rfl ⟨_, rfl, .inr rfl⟩ rfl ?_
      refine opSkip rfl ⟨_, rfl, .inr rfl⟩ rfl ?_
      refine opSkip rfl ⟨_, rfl, .inr rfl⟩ rfl ?_
      refine opSkip rfl ⟨_, rfl, .inr rfl⟩ rfl ?_
      refine opSkip rfl ⟨_, rfl, .inr rfl⟩ rfl ?_
      refine opSkip rfl ⟨_, rfl, .inr rfl⟩ rfl ?_
      refine opSkip rfl ⟨_, rfl, .inr rfl⟩ rfl ?_
      refine opSkip rfl ⟨_, rfl, .inr rfl⟩ rfl ?_
      refine opSkip rfl ⟨_, rfl, .inr rfl⟩ rfl ?_
      refine opSkip rfl ⟨_, rfl, .inr rfl⟩ rfl ?_
      refine opSkip rfl ⟨_, rfl, .inr rfl⟩ rfl ?_
      refine opSkip rfl ⟨_, rfl, .inl rfl⟩ rfl ?_
      refine op0 (sp_pickT rfl rfl rfl) rfl trivial rfl rfl ?_
      refine TL.nil ?_
      refine TC.condT rfl ?_
      refine TC.seq ?_
      refine TC.region ?_
      refine op0 (sp_assign rfl rfl) rfl trivial rfl rfl ?_
      refine TL.nil ?_
      cases h
      exact retJ [] (.tmp rfl .nil) rfl trivial rfl rfl
    · refine (boolLit 63 rfl h10).2 ?_
      refine op0 (sp_move rfl rfl) rfl ⟨_, rfl, rfl⟩ rfl rfl ?_
      refine op0 (sp_eql rfl rfl rfl) rfl ⟨_, rfl, rfl⟩ rfl rfl ?_
      refine op0 (sp_move rfl rfl) rfl ⟨_, rfl, rfl⟩ rfl rfl ?_
      rcases cond_cases h with ⟨h11, h⟩ | ⟨h11, h⟩
      · refine (boolLit 66 rfl h11).2 ?_
        refine op0 (sp_move rfl rfl) rfl ⟨_, rfl, rfl⟩ rfl rfl ?_
        refine op1 0 rfl (sp_lenM (N := r10.1.length) (len_map _ _) rfl rfl isOwn Try.underlying50) rfl ⟨_, rfl, rfl⟩ rfl rfl ?_
        refine op0 (sp_neq rfl rfl rfl) rfl ⟨_, rfl, rfl⟩ rfl rfl ?_
        refine op0 (sp_move rfl rfl) rfl ⟨_, rfl, rfl⟩ rfl rfl ?_
        rcases cond_cases h with ⟨h12, h⟩ | ⟨h12, h⟩
        · refine (boolLit 70 rfl h12).2 ?_
          refine opSkip rfl ⟨_, rfl, .inl rfl⟩ rfl ?_
          refine opSkip rfl ⟨_, rfl, .inl rfl⟩ rfl ?_
          refine op0 (sp_pickT rfl rfl rfl) rfl ⟨_, rfl, rfl⟩ rfl rfl ?_
          refine op0 (sp_move rfl rfl) rfl ⟨_, rfl, rfl⟩ rfl rfl ?_
          refine opSkip rfl ⟨_, rfl, .inl rfl⟩ rfl ?_
          refine opSkip rfl ⟨_, rfl, .inl rfl⟩ rfl ?_
          refine opSkip rfl ⟨_, rfl, .inl rfl⟩ rfl ?_
          refine opSkip rfl ⟨_, rfl, .inl rfl⟩ rfl ?_
          refine opSkip rfl ⟨_, rfl, .inl rfl⟩ rfl ?_
          refine op0 (sp_pickT rfl rfl rfl) rfl ⟨_, rfl, rfl⟩ rfl rfl ?_
          refine op0 (sp_pickT rfl rfl rfl) rfl ⟨_, rfl, rfl⟩ rfl rfl ?_
          refine op0 (sp_pickF rfl rfl rfl) rfl trivial rfl rfl ?_
          refine TL.nil ?_
          refine TC.condT rfl ?_
          refine TC.seq ?_
          refine TC.region ?_
          refine op0 (sp_assign rfl rfl) rfl trivial rfl rfl ?_
          refine TL.nil ?_
          cases h
          exact retJ [] (.tmp rfl .nil) rfl trivial rfl rfl
        · refine (boolLit 70 rfl h12).2 ?_
          refine op0 (sp_move rfl rfl) rfl ⟨_, rfl, rfl⟩ rfl rfl ?_
          refine op0 (sp_neq rfl rfl rfl) rfl ⟨_, rfl, rfl⟩ rfl rfl ?_
          refine op0 (sp_pickF rfl rfl rfl) rfl ⟨_, rfl, rfl⟩ rfl rfl ?_
          refine op0 (sp_move rfl rfl) rfl ⟨_, rfl, rfl⟩ rfl rfl ?_
          rcases cond_cases h with ⟨h13, h⟩ | ⟨h13, h⟩
          · refine (boolLit 74 rfl h13).2 ?_
            refine opSkip rfl ⟨_, rfl, .inl rfl⟩ rfl ?_
            refine opSkip rfl ⟨_, rfl, .inl rfl⟩ rfl ?_
            refine opSkip rfl ⟨_, rfl, .inl rfl⟩ rfl ?_
            refine opSkip rfl ⟨_, rfl, .inl rfl⟩ rfl ?_
            refine opSkip rfl ⟨_, rfl, .inl rfl⟩ rfl ?_
            refine op0 (sp_pickT rfl rfl rfl) rfl ⟨_, rfl, rfl⟩ rfl rfl ?_
            refine op0 (sp_pickT rfl rfl rfl) rfl ⟨_, rfl, rfl⟩ rfl rfl ?_
            refine op0 (sp_pickF rfl rfl rfl) rfl trivial rfl rfl ?_
            refine TL.nil ?_
            refine TC.condT rfl ?_
            refine TC.seq ?_
            refine TC.region ?_
            refine op0 (sp_assign rfl rfl) rfl trivial rfl rfl ?_
            refine TL.nil ?_
            cases h
            exact retJ [] (.tmp rfl .nil) rfl trivial rfl rfl
          · refine (boolLit 74 rfl h13).2 ?_
            refine op0 (sp_move rfl rfl) rfl ⟨_, rfl, rfl⟩ rfl rfl ?_
            refine op0 (sp_move rfl rfl) rfl ⟨_, rfl, rfl⟩ rfl rfl ?_
            obtain ⟨h14, h⟩ := chk_inv h
            refine op0 (sp_sub rfl rfl rfl h14) rfl ⟨_, rfl, rfl⟩ rfl rfl ?_
            refine op0 (sp_move rfl rfl) rfl ⟨_, rfl, rfl⟩ rfl rfl ?_
            refine op0 (sp_geq rfl rfl rfl) rfl ⟨_, rfl, rfl⟩ rfl rfl ?_
            refine op0 (sp_pickF rfl rfl rfl) rfl ⟨_, rfl, rfl⟩ rfl rfl ?_
            refine op0 (sp_pickT rfl rfl rfl) rfl ⟨_, rfl, rfl⟩ rfl rfl ?_
            refine op0 (sp_pickF rfl rfl rfl) rfl trivial rfl rfl ?_
            refine TL.nil ?_
            refine TC.cond (b := (decide (r8 ≤ ((at_4 + (Int.tmod at_6 31)) - at_4)))) rfl (fun h15 => ?_) (fun h15 => ?_)
            · have h := cond_t h h15
              refine TC.seq ?_
              refine TC.region ?_
              refine op0 (sp_assign rfl rfl) rfl trivial rfl rfl ?_
              refine TL.nil ?_
              cases h
              exact retJ [] (.tmp rfl .nil) rfl trivial rfl rfl
            · have h := cond_f h h15
              refine subJ [] (ok_law05_StrikeBack_j0 h) ?_ ?_ ?_
              · exact ⟨rfl, rfl, rfl, rfl, rfl, rfl, rfl, rfl, rfl, trivial⟩
              · exact ⟨mem_at 4 rfl, mem_at 3 rfl, mem_at 0 rfl, trivial⟩
              · rfl
      · refine (boolLit 66 rfl h11).2 ?_
        refine opSkip rfl ⟨_, rfl, .inl rfl⟩ rfl ?_
        refine opSkip rfl ⟨_, rfl, .inl rfl⟩ rfl ?_
        refine opSkip rfl ⟨_, rfl, .inl rfl⟩ rfl ?_
        refine opSkip rfl ⟨_, rfl, .inl rfl⟩ rfl ?_
        refine opSkip rfl ⟨_, rfl, .inr rfl⟩ rfl ?_
        refine opSkip rfl ⟨_, rfl, .inr rfl⟩ rfl ?_
        refine opSkip rfl ⟨_, rfl, .inl rfl⟩ rfl ?_
        refine opSkip rfl ⟨_, rfl, .inl rfl⟩ rfl ?_
        refine opSkip rfl ⟨_, rfl, .inr rfl⟩ rfl ?_
        refine opSkip rfl ⟨_, rfl, .inr rfl⟩ rfl ?_
        refine opSkip rfl ⟨_, rfl, .inr rfl⟩ rfl ?_
        refine opSkip rfl ⟨_, rfl, .inr rfl⟩ rfl ?_
        refine opSkip rfl ⟨_, rfl, .inr rfl⟩ rfl ?_
        refine opSkip rfl ⟨_, rfl, .inl rfl⟩ rfl ?_
        refine op0 (sp_pickF rfl rfl rfl) rfl ⟨_, rfl, rfl⟩ rfl rfl ?_
        refine op0 (sp_pickF rfl rfl rfl) rfl trivial rfl rfl ?_
        refine TL.nil ?_
        refine TC.condF rfl ?_
        refine subJ [] (ok_law05_StrikeBack_j0 h) ?_ ?_ ?_
        · exact ⟨rfl, rfl, rfl, rfl, rfl, rfl, rfl, rfl, rfl, trivial⟩
        · exact ⟨mem_at 4 rfl, mem_at 3 rfl, mem_at 0 rfl, trivial⟩
        · rfl
  · refine (boolLit 59 rfl h9).2 ?_
    refine opSkip rfl ⟨_, rfl, .inl rfl⟩ rfl ?_
    refine opSkip rfl ⟨_, rfl, .inl rfl⟩ rfl ?_
    refine op0 (sp_pickF rfl rfl rfl) rfl trivial rfl rfl ?_
    refine op0 (sp_move rfl rfl) rfl trivial rfl rfl ?_
    refine op0 (sp_move rfl rfl) rfl ⟨_, rfl, rfl⟩ rfl rfl ?_
    refine op0 (sp_eql rfl rfl rfl) rfl ⟨_, rfl, rfl⟩ rfl rfl ?_
    refine op0 (sp_move rfl rfl) rfl ⟨_, rfl, rfl⟩ rfl rfl ?_
    rcases cond_cases h with ⟨h85, h⟩ | ⟨h85, h⟩
    · refine (boolLit 66 rfl h85).2 ?_
      refine op0 (sp_move rfl rfl) rfl ⟨_, rfl, rfl⟩ rfl rfl ?_
      refine op1 0 rfl (sp_lenM (N := r10.1.length) (len_map _ _) rfl rfl isOwn Try.underlying50) rfl ⟨_, rfl, rfl⟩ rfl rfl ?_
      refine op0 (sp_neq rfl rfl rfl) rfl ⟨_, rfl, rfl⟩ rfl rfl ?_
      refine op0 (sp_move rfl rfl) rfl ⟨_, rfl, rfl⟩ rfl rfl ?_
      rcases cond_cases h with ⟨h86, h⟩ | ⟨h86, h⟩
      · refine (boolLit 70 rfl h86).2 ?_
        refine opSkip rfl ⟨_, rfl, .inl rfl⟩ rfl ?_
        refine opSkip rfl ⟨_, rfl, .inl rfl⟩ rfl ?_
        refine op0 (sp_pickT rfl rfl rfl) rfl ⟨_, rfl, rfl⟩ rfl rfl ?_
        refine op0 (sp_move rfl rfl) rfl ⟨_, rfl, rfl⟩ rfl rfl ?_
        refine opSkip rfl ⟨_, rfl, .inl rfl⟩ rfl ?_
        refine opSkip rfl ⟨_, rfl, .inl rfl⟩ rfl ?_
        refine opSkip rfl ⟨_, rfl, .inl rfl⟩ rfl ?_
        refine opSkip rfl ⟨_, rfl, .inl rfl⟩ rfl ?_
        refine opSkip rfl ⟨_, rfl, .inl rfl⟩ rfl ?_
        refine op0 (sp_pickT rfl rfl rfl) rfl ⟨_, rfl, rfl⟩ rfl rfl ?_
        refine op0 (sp_pickT rfl rfl rfl) rfl ⟨_, rfl, rfl⟩ rfl rfl ?_
        refine op0 (sp_pickF rfl rfl rfl) rfl trivial rfl rfl ?_
        refine TL.nil ?_
        refine TC.condT rfl ?_
        refine TC.seq ?_
        refine TC.region ?_
        refine op0 (sp_assign rfl rfl) rfl trivial rfl rfl ?_
        refine TL.nil ?_
        cases h
        exact retJ [] (.tmp rfl .nil) rfl trivial rfl rfl
      · refine (boolLit 70 rfl h86).2 ?_
        refine op0 (sp_move rfl rfl) rfl ⟨_, rfl, rfl⟩ rfl rfl ?_
        refine op0 (sp_neq rfl rfl rfl) rfl ⟨_, rfl, rfl⟩ rfl rfl ?_
        refine op0 (sp_pickF rfl rfl rfl) rfl ⟨_, rfl, rfl⟩ rfl rfl ?_
        refine op0 (sp_move rfl rfl) rfl ⟨_, rfl, rfl⟩ rfl rfl ?_
        rcases cond_cases h with ⟨h87, h⟩ | ⟨h87, h⟩
        · refine (boolLit 74 rfl h87).2 ?_
          refine opSkip rfl ⟨_, rfl, .inl rfl⟩ rfl ?_
          refine opSkip rfl ⟨_, rfl, .inl rfl⟩ rfl ?_
          refine opSkip rfl ⟨_, rfl, .inl rfl⟩ rfl ?_
          refine opSkip rfl ⟨_, rfl, .inl rfl⟩ rfl ?_
          refine opSkip rfl ⟨_, rfl, .inl rfl⟩ rfl ?_
          refine op0 (sp_pickT rfl rfl rfl) rfl ⟨_, rfl, rfl⟩ rfl rfl ?_
          refine op0 (sp_pickT rfl rfl rfl) rfl ⟨_, rfl, rfl⟩ rfl rfl ?_
          refine op0 (sp_pickF rfl rfl rfl) rfl trivial rfl rfl ?_
          refine TL.nil ?_
          refine TC.condT rfl ?_
          refine TC.seq ?_
          refine TC.region ?_
          refine op0 (sp_assign rfl rfl) rfl trivial rfl rfl ?_
          refine TL.nil ?_
          cases h
          exact retJ [] (.tmp rfl .nil) rfl trivial rfl rfl
        · refine (boolLit 74 rfl h87).2 ?_
          refine op0 (sp_move rfl rfl) rfl ⟨_, rfl, rfl⟩ rfl rfl ?_
          refine op0 (sp_move rfl rfl) rfl ⟨_, rfl, rfl⟩ rfl rfl ?_
          obtain ⟨h88, h⟩ := chk_inv h
          refine op0 (sp_sub rfl rfl rfl h88) rfl ⟨_, rfl, rfl⟩ rfl rfl ?_
          refine op0 (sp_move rfl rfl) rfl ⟨_, rfl, rfl⟩ rfl rfl ?_
          refine op0 (sp_geq rfl rfl rfl) rfl ⟨_, rfl, rfl⟩ rfl rfl ?_
          refine op0 (sp_pickF rfl rfl rfl) rfl ⟨_, rfl, rfl⟩ rfl rfl ?_
          refine op0 (sp_pickT rfl rfl rfl) rfl ⟨_, rfl, rfl⟩ rfl rfl ?_
          refine op0 (sp_pickF rfl rfl rfl) rfl trivial rfl rfl ?_
          refine TL.nil ?_
          refine TC.cond (b := (decide (r8 ≤ ((at_4 + (Int.tmod at_6 31)) - at_4)))) rfl (fun h89 => ?_) (fun h89 => ?_)
          · have h := cond_t h h89
            refine TC.seq ?_
            refine TC.region ?_
            refine op0 (sp_assign rfl rfl) rfl trivial rfl rfl ?_
            refine TL.nil ?_
            cases h
            exact retJ [] (.tmp rfl .nil) rfl trivial rfl rfl
          · have h := cond_f h h89
            refine subJ [] (ok_law05_StrikeBack_j0 h) ?_ ?_ ?_
            · exact ⟨rfl, rfl, rfl, rfl, rfl, rfl, rfl, rfl, rfl, trivial⟩
            · exact ⟨mem_at 4 rfl, mem_at 3 rfl, mem_at 0 rfl, trivial⟩
            · rfl
    · refine (boolLit 66 rfl h85).2 ?_
      refine opSkip rfl ⟨_, rfl, .inl rfl⟩ rfl ?_
      refine opSkip rfl ⟨_, rfl, .inl rfl⟩ rfl ?_
      refine opSkip rfl ⟨_, rfl, .inl rfl⟩ rfl ?_
      refine opSkip rfl ⟨_, rfl, .inl rfl⟩ rfl ?_
      refine opSkip rfl ⟨_, rfl, .inr rfl⟩ rfl ?_
      refine opSkip rfl ⟨_, rfl, .inr rfl⟩ rfl ?_
      refine opSkip rfl ⟨_, rfl, .inl rfl⟩ rfl ?_
      refine opSkip rfl ⟨_, rfl, .inl rfl⟩ rfl ?_
      refine opSkip rfl ⟨_, rfl, .inr rfl⟩ rfl ?_
      refine opSkip rfl ⟨_, rfl, .inr rfl⟩ rfl ?_
      refine opSkip rfl ⟨_, rfl, .inr rfl⟩ rfl ?_
      refine opSkip rfl ⟨_, rfl, .inr rfl⟩ rfl ?_
      refine opSkip rfl ⟨_, rfl, .inr rfl⟩ rfl ?_
      refine opSkip rfl ⟨_, rfl, .inl rfl⟩ rfl ?_
      refine op0 (sp_pickF rfl rfl rfl) rfl ⟨_, rfl, rfl⟩ rfl rfl ?_
      refine op0 (sp_pickF rfl rfl rfl) rfl trivial rfl rfl ?_
      refine TL.nil ?_
      refine TC.condF rfl ?_
      refine subJ [] (ok_law05_StrikeBack_j0 h) ?_ ?_ ?_
      · exact ⟨rfl, rfl, rfl, rfl, rfl, rfl, rfl, rfl, rfl, trivial⟩
      · exact ⟨mem_at 4 rfl, mem_at 3 rfl, mem_at 0 rfl, trivial⟩
      · rfl
end
end Go.Proofs.Ytglgkcfgjaoabaa.Sy
