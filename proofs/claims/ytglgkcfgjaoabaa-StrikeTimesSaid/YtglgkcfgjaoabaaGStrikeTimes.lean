/- What functions of the program compute, and that they do: printed by symgen.py. -/
import Derived.Test.YtglgkcfgjaoabaaGLib
import Derived.Test.YtglgkcfgjaoabaaGturretlaw05
import Derived.Test.YtglgkcfgjaoabaaGStrike
set_option linter.unusedSimpArgs false
set_option linter.unusedVariables false
namespace Go.Proofs.Ytglgkcfgjaoabaa.Sy
open Go.RowKit
noncomputable section

/- law05_StrikeTimes -/
def ev_law05_StrikeTimes_l1 (n : Nat) (r14 : (List (Int × Bool)) × Int × Int) : Nat → Int → Option Bool
  | 0, _ => none
  | m + 1, i15 => cond (decide (i15 < (r14.1.length : Int))) (idx r14.1 i15 fun x16 => cond (!((x16.1 == 0) && (x16.2 == false))) (some false) (chk (in64 (i15 + 1)) <| ev_law05_StrikeTimes_l1 n r14 m (i15 + 1))) ((ev_law05_known n).bind fun r17 => some r17)
set_option maxRecDepth 100000 in
set_option maxHeartbeats 2000000 in
theorem ok_law05_StrikeTimes_l1 {n : Nat} {w0 : World} {R0 : Nat → Prop} {env0 : Env} {r : Bool} {r14 : (List (Int × Bool)) × Int × Int} : ∀ (m : Nat) (i15 : Int), ev_law05_StrikeTimes_l1 n r14 m i15 = some r → TC Try.prog ⟨w0, fun _ => False, R0⟩ 154 (bodyPost Try.prog Try.f9 (Post ⟨w0, fun _ => False, R0⟩ env0 (.val (.bool r)) [])) [.code (sub (bodyOf Try.f9) [1, 1, 1, 1, 1, 1, 1, 1, 0, 1, 0, 0, 0, 0]), .code (sub (bodyOf Try.f9) [1, 1, 1, 1, 1, 1, 1, 1, 0, 1, 0, 0, 0, 1]), .code (sub (bodyOf Try.f9) [1, 1, 1, 1, 1, 1, 1, 1, 0, 1, 0, 0, 1]), .inLoop (sub (bodyOf Try.f9) [1, 1, 1, 1, 1, 1, 1, 1, 0, 1, 0, 0]), .inBlock 0, .code (sub (bodyOf Try.f9) [1, 1, 1, 1, 1, 1, 1, 1, 1])] ([(16, .ref 7), (19, .val (.int .i64 i15))]) ([.row 7 73 2 (List.map en_api_StrikeStep r14.1)]) := by
  intro m
  induction m with
  | zero => intro i15 h; exact none_no h
  | succ m ih =>
    intro i15 h
    rw [ev_law05_StrikeTimes_l1] at h
    refine TC.region ?_
    refine op0 (sp_move rfl rfl) rfl trivial rfl rfl ?_
    refine op0 (sp_move rfl rfl) rfl trivial rfl rfl ?_
    refine op1 0 rfl (sp_lenM (N := r14.1.length) (len_map _ _) rfl rfl isOwn Try.underlying50) rfl trivial rfl rfl ?_
    refine op0 (sp_lss rfl rfl rfl) rfl trivial rfl rfl ?_
    refine TL.nil ?_
    refine TC.cond (b := (decide (i15 < (r14.1.length : Int)))) rfl (fun h34 => ?_) (fun h34 => ?_)
    · have h := cond_t h h34
      refine TC.skip ?_
      refine TC.seq ?_
      refine TC.block ?_
      refine TC.seq ?_
      refine TC.region ?_
      refine op0 (sp_move rfl rfl) rfl trivial rfl rfl ?_
      refine op0 (sp_move rfl rfl) rfl trivial rfl rfl ?_
      obtain ⟨x16, h35, h36, h⟩ := idx_inv h
      refine op1 0 rfl (sp_indexS rfl rfl rfl isOwn sl50 h35 (map_get _ h36)) rfl trivial rfl rfl ?_
      refine op1 0 rfl (sp_loadRA (i := (i15 : Int).toNat) (j := 0) (as_ := [.val (.int .i64 x16.1), .val (.bool x16.2)]) (ns := []) rfl rfl isOwn vt73 rfl (map_get _ h36) rfl rfl (by decide) (.v (.v (.nil))) (nodup_of_B rfl)) rfl trivial rfl rfl ?_
      refine op0 (sp_build (qs := []) rfl bt73 rfl rfl rfl rfl) rfl trivial rfl rfl ?_
      refine op0 (sp_neqS rfl rfl rfl rfl rfl (eq73 _ _ _ _)) rfl trivial rfl rfl ?_
      refine TL.nil ?_
      refine TC.cond (b := (!((x16.1 == 0) && (x16.2 == false)))) rfl (fun h37 => ?_) (fun h37 => ?_)
      · have h := cond_t h h37
        refine TC.seq ?_
        refine TC.region ?_
        refine op0 (sp_assign rfl rfl) rfl trivial rfl rfl ?_
        refine TL.nil ?_
        cases h
        exact retJ [] (.tmp rfl .nil) rfl trivial rfl rfl
      · have h := cond_f h h37
        refine TC.skip ?_
        refine TC.inBlock ?_
        refine TC.region ?_
        refine op0 (sp_move rfl rfl) rfl trivial rfl rfl ?_
        obtain ⟨h38, h⟩ := chk_inv h
        refine op0 (sp_add rfl rfl rfl h38) rfl trivial rfl rfl ?_
        refine op0 (sp_assign rfl rfl) rfl trivial rfl rfl ?_
        refine TL.nil ?_
        refine TC.inLoop ?_
        refine TC.seq ?_
        refine TC.seq ?_
        refine subJ [] (ih _ h) ?_ ?_ ?_
        · exact ⟨rfl, rfl, trivial⟩
        · exact ⟨mem_at 0 rfl, trivial⟩
        · rfl
    · have h := cond_f h h34
      refine TC.exit rfl ?_
      refine TC.seq ?_
      refine TC.region ?_
      obtain ⟨r17, h39, h⟩ := bind_inv h
      refine op0 (sp_call (avs := []) (need := []) (v := .val (.bool r17)) (news := []) rfl rfl rfl Try.call12 (atJ [] [] (fc_law05_known h39) rfl rfl) (.inl (roAll rfl))) rfl trivial rfl rfl ?_
      refine op0 (sp_assign rfl rfl) rfl trivial rfl rfl ?_
      refine TL.nil ?_
      cases h
      exact retJ [] (.tmp rfl .nil) rfl trivial rfl rfl
def ev_law05_StrikeTimes_j0 (n : Nat) (r14 : (List (Int × Bool)) × Int × Int) : Option Bool :=
  ev_law05_StrikeTimes_l1 n r14 n 0
set_option maxRecDepth 100000 in
set_option maxHeartbeats 2000000 in
theorem ok_law05_StrikeTimes_j0 {n : Nat} {w0 : World} {R0 : Nat → Prop} {env0 : Env} {r : Bool} {r14 : (List (Int × Bool)) × Int × Int} (h : ev_law05_StrikeTimes_j0 n r14 = some r) : TC Try.prog ⟨w0, fun _ => False, R0⟩ 154 (bodyPost Try.prog Try.f9 (Post ⟨w0, fun _ => False, R0⟩ env0 (.val (.bool r)) [])) [.code (sub (bodyOf Try.f9) [1, 1, 1, 1, 1, 1, 1, 0, 1, 1]), .code (sub (bodyOf Try.f9) [1, 1, 1, 1, 1, 1, 1, 1])] ([(16, .ref 7)]) ([.row 7 73 2 (List.map en_api_StrikeStep r14.1)]) := by
  rw [ev_law05_StrikeTimes_j0] at h
  refine TC.skip ?_
  refine TC.seq ?_
  refine TC.seq ?_
  refine TC.region ?_
  refine op0 (sp_assign rfl rfl) rfl trivial rfl rfl ?_
  refine TL.nil ?_
  refine TC.block ?_
  refine TC.loop ?_
  refine TC.seq ?_
  refine TC.seq ?_
  refine subJ [] (ok_law05_StrikeTimes_l1 _ _ h) ?_ ?_ ?_
  · exact ⟨rfl, rfl, trivial⟩
  · exact ⟨mem_at 0 rfl, trivial⟩
  · rfl
def ev_law05_StrikeTimes (n : Nat) (w1 : Bool) (w2 : Int) (w3 : Int) (at_4 : Int) (at_5 : Int) (at_6 : Int) (at_7 : Int) : Option Bool :=
  (ev_law05_Wheel_places n w1 w2 w3).bind fun r8 => chk (in64 at_4) <| chk (in64 at_5) <| chk (r8 != 0) <| chk (in64 at_6) <| chk (in64 (at_4 + (Int.tmod at_6 21))) <| chk (in64 at_6) <| chk (in64 (at_4 + (Int.tmod at_6 21))) <| chk (in64 at_7) <| chk (in64 ((at_4 + (Int.tmod at_6 21)) + (Int.tmod at_7 20))) <| (ev_law05_Wheel_rules n w1 w2 w3).bind fun r9 => (ev_strike_Bring n r9.1 r9.2.1 r9.2.2 at_4 (Int.tmod at_5 r8) (at_4 + (Int.tmod at_6 21))).bind fun r10 => (ev_law05_Wheel_rules n w1 w2 w3).bind fun r11 => (ev_strike_Bring n r11.1 r11.2.1 r11.2.2 at_4 (Int.tmod at_5 r8) ((at_4 + (Int.tmod at_6 21)) + (Int.tmod at_7 20))).bind fun r12 => (ev_law05_Wheel_rules n w1 w2 w3).bind fun r13 => chk (r8 != 0) <| (ev_strike_Bring n r13.1 r13.2.1 r13.2.2 at_4 (Int.tmod at_4 r8) ((at_4 + (Int.tmod at_6 21)) + (Int.tmod at_7 20))).bind fun r14 => cond (r10.2.2 == 0) (cond (r12.2.2 != 0) (some false) (cond (decide (r10.2.1 < r12.2.1)) (some false) (cond (r12.2.2 != 0) (cond (r12.2.2 != 7) (some false) (chk (in64 (((at_4 + (Int.tmod at_6 21)) + (Int.tmod at_7 20)) - at_4)) <| cond (decide (r8 ≤ (((at_4 + (Int.tmod at_6 21)) + (Int.tmod at_7 20)) - at_4))) (cond (r12.2.2 != 0) (some false) (cond (r12.2.1 != 0) (some false) (cond (r14.2.2 != 0) (some false) (cond (r14.2.1 != 0) (some false) (chk (in64 (((at_4 + (Int.tmod at_6 21)) + (Int.tmod at_7 20)) - at_4)) <| cond ((r14.1.length : Int) != (((at_4 + (Int.tmod at_6 21)) + (Int.tmod at_7 20)) - at_4)) (some false) (cond (r12.2.2 == 0) (chk (in64 (((at_4 + (Int.tmod at_6 21)) + (Int.tmod at_7 20)) - at_4)) <| cond ((r12.1.length : Int) != (((at_4 + (Int.tmod at_6 21)) + (Int.tmod at_7 20)) - at_4)) (some false) (ev_law05_StrikeTimes_j0 n r14)) (ev_law05_StrikeTimes_j0 n r14))))))) (cond (r14.2.2 != 0) (some false) (cond (r14.2.1 != 0) (some false) (chk (in64 (((at_4 + (Int.tmod at_6 21)) + (Int.tmod at_7 20)) - at_4)) <| cond ((r14.1.length : Int) != (((at_4 + (Int.tmod at_6 21)) + (Int.tmod at_7 20)) - at_4)) (some false) (cond (r12.2.2 == 0) (chk (in64 (((at_4 + (Int.tmod at_6 21)) + (Int.tmod at_7 20)) - at_4)) <| cond ((r12.1.length : Int) != (((at_4 + (Int.tmod at_6 21)) + (Int.tmod at_7 20)) - at_4)) (some false) (ev_law05_StrikeTimes_j0 n r14)) (ev_law05_StrikeTimes_j0 n r14))))))) (chk (in64 (((at_4 + (Int.tmod at_6 21)) + (Int.tmod at_7 20)) - at_4)) <| cond (decide (r8 ≤ (((at_4 + (Int.tmod at_6 21)) + (Int.tmod at_7 20)) - at_4))) (cond (r12.2.2 != 0) (some false) (cond (r12.2.1 != 0) (some false) (cond (r14.2.2 != 0) (some false) (cond (r14.2.1 != 0) (some false) (chk (in64 (((at_4 + (Int.tmod at_6 21)) + (Int.tmod at_7 20)) - at_4)) <| cond ((r14.1.length : Int) != (((at_4 + (Int.tmod at_6 21)) + (Int.tmod at_7 20)) - at_4)) (some false) (cond (r12.2.2 == 0) (chk (in64 (((at_4 + (Int.tmod at_6 21)) + (Int.tmod at_7 20)) - at_4)) <| cond ((r12.1.length : Int) != (((at_4 + (Int.tmod at_6 21)) + (Int.tmod at_7 20)) - at_4)) (some false) (ev_law05_StrikeTimes_j0 n r14)) (ev_law05_StrikeTimes_j0 n r14))))))) (cond (r14.2.2 != 0) (some false) (cond (r14.2.1 != 0) (some false) (chk (in64 (((at_4 + (Int.tmod at_6 21)) + (Int.tmod at_7 20)) - at_4)) <| cond ((r14.1.length : Int) != (((at_4 + (Int.tmod at_6 21)) + (Int.tmod at_7 20)) - at_4)) (some false) (cond (r12.2.2 == 0) (chk (in64 (((at_4 + (Int.tmod at_6 21)) + (Int.tmod at_7 20)) - at_4)) <| cond ((r12.1.length : Int) != (((at_4 + (Int.tmod at_6 21)) + (Int.tmod at_7 20)) - at_4)) (some false) (ev_law05_StrikeTimes_j0 n r14)) (ev_law05_StrikeTimes_j0 n r14))))))))) (cond (r12.2.2 != 0) (cond (r12.2.2 != 7) (some false) (chk (in64 (((at_4 + (Int.tmod at_6 21)) + (Int.tmod at_7 20)) - at_4)) <| cond (decide (r8 ≤ (((at_4 + (Int.tmod at_6 21)) + (Int.tmod at_7 20)) - at_4))) (cond (r12.2.2 != 0) (some false) (cond (r12.2.1 != 0) (some false) (cond (r14.2.2 != 0) (some false) (cond (r14.2.1 != 0) (some false) (chk (in64 (((at_4 + (Int.tmod at_6 21)) + (Int.tmod at_7 20)) - at_4)) <| cond ((r14.1.length : Int) != (((at_4 + (Int.tmod at_6 21)) + (Int.tmod at_7 20)) - at_4)) (some false) (cond (r12.2.2 == 0) (chk (in64 (((at_4 + (Int.tmod at_6 21)) + (Int.tmod at_7 20)) - at_4)) <| cond ((r12.1.length : Int) != (((at_4 + (Int.tmod at_6 21)) + (Int.tmod at_7 20)) - at_4)) (some false) (ev_law05_StrikeTimes_j0 n r14)) (ev_law05_StrikeTimes_j0 n r14))))))) (cond (r14.2.2 != 0) (some false) (cond (r14.2.1 != 0) (some false) (chk (in64 (((at_4 + (Int.tmod at_6 21)) + (Int.tmod at_7 20)) - at_4)) <| cond ((r14.1.length : Int) != (((at_4 + (Int.tmod at_6 21)) + (Int.tmod at_7 20)) - at_4)) (some false) (cond (r12.2.2 == 0) (chk (in64 (((at_4 + (Int.tmod at_6 21)) + (Int.tmod at_7 20)) - at_4)) <| cond ((r12.1.length : Int) != (((at_4 + (Int.tmod at_6 21)) + (Int.tmod at_7 20)) - at_4)) (some false) (ev_law05_StrikeTimes_j0 n r14)) (ev_law05_StrikeTimes_j0 n r14))))))) (chk (in64 (((at_4 + (Int.tmod at_6 21)) + (Int.tmod at_7 20)) - at_4)) <| cond (decide (r8 ≤ (((at_4 + (Int.tmod at_6 21)) + (Int.tmod at_7 20)) - at_4))) (cond (r12.2.2 != 0) (some false) (cond (r12.2.1 != 0) (some false) (cond (r14.2.2 != 0) (some false) (cond (r14.2.1 != 0) (some false) (chk (in64 (((at_4 + (Int.tmod at_6 21)) + (Int.tmod at_7 20)) - at_4)) <| cond ((r14.1.length : Int) != (((at_4 + (Int.tmod at_6 21)) + (Int.tmod at_7 20)) - at_4)) (some false) (cond (r12.2.2 == 0) (chk (in64 (((at_4 + (Int.tmod at_6 21)) + (Int.tmod at_7 20)) - at_4)) <| cond ((r12.1.length : Int) != (((at_4 + (Int.tmod at_6 21)) + (Int.tmod at_7 20)) - at_4)) (some false) (ev_law05_StrikeTimes_j0 n r14)) (ev_law05_StrikeTimes_j0 n r14))))))) (cond (r14.2.2 != 0) (some false) (cond (r14.2.1 != 0) (some false) (chk (in64 (((at_4 + (Int.tmod at_6 21)) + (Int.tmod at_7 20)) - at_4)) <| cond ((r14.1.length : Int) != (((at_4 + (Int.tmod at_6 21)) + (Int.tmod at_7 20)) - at_4)) (some false) (cond (r12.2.2 == 0) (chk (in64 (((at_4 + (Int.tmod at_6 21)) + (Int.tmod at_7 20)) - at_4)) <| cond ((r12.1.length : Int) != (((at_4 + (Int.tmod at_6 21)) + (Int.tmod at_7 20)) - at_4)) (some false) (ev_law05_StrikeTimes_j0 n r14)) (ev_law05_StrikeTimes_j0 n r14)))))))
set_option maxRecDepth 100000 in
set_option maxHeartbeats 2000000 in
theorem fc_law05_StrikeTimes {n : Nat} {w1 : Bool} {w2 : Int} {w3 : Int} {at_4 : Int} {at_5 : Int} {at_6 : Int} {at_7 : Int} {r : Bool} (h : ev_law05_StrikeTimes n w1 w2 w3 at_4 at_5 at_6 at_7 = some r) : FC Try.prog 9 [.agg [.val (.bool w1), .val (.int .u8 w2), .val (.int .u8 w3)], .agg [.val (.int .u8 at_4), .val (.int .u8 at_5), .val (.int .u8 at_6), .val (.int .u8 at_7)]] [] (.val (.bool r)) [] := by
  refine introJ (nz := 154) Try.func9 rfl rfl rfl (fun w0 R0 env0 => ?_)
  rw [ev_law05_StrikeTimes] at h
  refine TC.seq ?_
  refine TC.region ?_
  refine op0 (sp_box 0 rfl rfl rfl rfl rfl) rfl trivial rfl rfl ?_
  refine op0 (sp_box 1 rfl rfl rfl rfl rfl) rfl trivial rfl rfl ?_
  refine op0 (sp_assign rfl rfl) rfl trivial rfl rfl ?_
  refine TL.nil ?_
  refine TC.seq ?_
  refine TC.region ?_
  refine op1 1 rfl (sp_loadBA rfl isBlk rfl vt64 rfl rfl) rfl trivial rfl rfl ?_
  obtain ⟨r8, h1, h⟩ := bind_inv h
  refine op0 (sp_call (avs := [.agg [.val (.bool w1), .val (.int .u8 w2), .val (.int .u8 w3)]]) (need := []) (v := .val (.int .i64 r8)) (news := []) rfl rfl rfl Try.call34 (atJ [] [] (fc_law05_Wheel_places h1) rfl rfl) (.inl (roAll rfl))) rfl trivial rfl rfl ?_
  refine op0 (sp_assign rfl rfl) rfl trivial rfl rfl ?_
  refine TL.nil ?_
  refine TC.seq ?_
  obtain ⟨h2, h⟩ := chk_inv h
  obtain ⟨h3, h⟩ := chk_inv h
  obtain ⟨h4, h⟩ := chk_inv h
  refine drawJ 9 [⟨.ptr 1 0, [], [.blk 1 [.val (.int .u8 at_4), .val (.int .u8 at_5), .val (.int .u8 at_6), .val (.int .u8 at_7)] 75], []⟩, ⟨.val (.int .u8 at_4), [], [.blk 1 [.val (.int .u8 at_4), .val (.int .u8 at_5), .val (.int .u8 at_6), .val (.int .u8 at_7)] 75], []⟩, ⟨.val (.int .i64 at_4), [], [], []⟩, ⟨.ptr 1 1, [], [.blk 1 [.val (.int .u8 at_4), .val (.int .u8 at_5), .val (.int .u8 at_6), .val (.int .u8 at_7)] 75], []⟩, ⟨.val (.int .u8 at_5), [], [.blk 1 [.val (.int .u8 at_4), .val (.int .u8 at_5), .val (.int .u8 at_6), .val (.int .u8 at_7)] 75], []⟩, ⟨.val (.int .i64 at_5), [], [], []⟩, ⟨.val (.int .i64 r8), [], [], []⟩, ⟨.val (.int .i64 (Int.tmod at_5 r8)), [], [], []⟩, ⟨.val (.int .i64 at_4), [], [], []⟩] rfl ?_ rfl ?_ rfl ?_ ?_
  · kernel_rfl
  · kernel_rfl
  · exact DAll.op' (sp_indexA (len := 4) (iv := 0) rfl isBlk rfl rfl Try.underlying75 vt5 (by decide)) trivial rfl (From.ok (ps := [(none, 0)]) ⟨⟨rfl, rfl⟩, trivial⟩) (DAll.op' (sp_loadB rfl isBlk rfl vt5 rfl) trivial rfl (From.ok (ps := [(none, 0)]) ⟨⟨rfl, rfl⟩, trivial⟩) (DAll.op' (sp_conv rfl Try.underlying5 Try.underlying3 rfl h2) trivial rfl (From.ok (ps := []) trivial) (DAll.op' (sp_indexA (len := 4) (iv := 1) rfl isBlk rfl rfl Try.underlying75 vt5 (by decide)) trivial rfl (From.ok (ps := [(none, 0)]) ⟨⟨rfl, rfl⟩, trivial⟩) (DAll.op' (sp_loadB rfl isBlk rfl vt5 rfl) trivial rfl (From.ok (ps := [(none, 0)]) ⟨⟨rfl, rfl⟩, trivial⟩) (DAll.op' (sp_conv rfl Try.underlying5 Try.underlying3 rfl h3) trivial rfl (From.ok (ps := []) trivial) (DAll.op' (sp_move rfl rfl) trivial rfl (From.ok (ps := []) trivial) (DAll.op' (sp_rem rfl rfl rfl h4) trivial rfl (From.ok (ps := []) trivial) (DAll.op' (sp_assign rfl rfl) trivial rfl (From.ok (ps := []) trivial) (.nil)))))))))
  refine op0 (sp_assign rfl rfl) rfl trivial rfl rfl ?_
  refine TL.nil ?_
  refine TC.seq ?_
  obtain ⟨h5, h⟩ := chk_inv h
  obtain ⟨h6, h⟩ := chk_inv h
  obtain ⟨h7, h⟩ := chk_inv h
  obtain ⟨h8, h⟩ := chk_inv h
  obtain ⟨h9, h⟩ := chk_inv h
  obtain ⟨h10, h⟩ := chk_inv h
  refine drawJ 18 [⟨.val (.int .i64 at_4), [], [], []⟩, ⟨.ptr 1 2, [], [.blk 1 [.val (.int .u8 at_4), .val (.int .u8 at_5), .val (.int .u8 at_6), .val (.int .u8 at_7)] 75], []⟩, ⟨.val (.int .u8 at_6), [], [.blk 1 [.val (.int .u8 at_4), .val (.int .u8 at_5), .val (.int .u8 at_6), .val (.int .u8 at_7)] 75], []⟩, ⟨.val (.int .i64 at_6), [], [], []⟩, ⟨.val (.int .i64 (Int.tmod at_6 21)), [], [], []⟩, ⟨.val (.int .i64 (at_4 + (Int.tmod at_6 21))), [], [], []⟩, ⟨.val (.int .i64 at_4), [], [], []⟩, ⟨.ptr 1 2, [], [.blk 1 [.val (.int .u8 at_4), .val (.int .u8 at_5), .val (.int .u8 at_6), .val (.int .u8 at_7)] 75], []⟩, ⟨.val (.int .u8 at_6), [], [.blk 1 [.val (.int .u8 at_4), .val (.int .u8 at_5), .val (.int .u8 at_6), .val (.int .u8 at_7)] 75], []⟩, ⟨.val (.int .i64 at_6), [], [], []⟩, ⟨.val (.int .i64 (Int.tmod at_6 21)), [], [], []⟩, ⟨.val (.int .i64 (at_4 + (Int.tmod at_6 21))), [], [], []⟩, ⟨.ptr 1 3, [], [.blk 1 [.val (.int .u8 at_4), .val (.int .u8 at_5), .val (.int .u8 at_6), .val (.int .u8 at_7)] 75], []⟩, ⟨.val (.int .u8 at_7), [], [.blk 1 [.val (.int .u8 at_4), .val (.int .u8 at_5), .val (.int .u8 at_6), .val (.int .u8 at_7)] 75], []⟩, ⟨.val (.int .i64 at_7), [], [], []⟩, ⟨.val (.int .i64 (Int.tmod at_7 20)), [], [], []⟩, ⟨.val (.int .i64 ((at_4 + (Int.tmod at_6 21)) + (Int.tmod at_7 20))), [], [], []⟩, ⟨.val (.int .i64 (at_4 + (Int.tmod at_6 21))), [], [], []⟩] rfl ?_ rfl ?_ rfl ?_ ?_
  · kernel_rfl
  · kernel_rfl
  · exact DAll.op' (sp_move rfl rfl) trivial rfl (From.ok (ps := []) trivial) (DAll.op' (sp_indexA (len := 4) (iv := 2) rfl isBlk rfl rfl Try.underlying75 vt5 (by decide)) trivial rfl (From.ok (ps := [(none, 0)]) ⟨⟨rfl, by kernel_rfl⟩, trivial⟩) (DAll.op' (sp_loadB rfl isBlk rfl vt5 rfl) trivial rfl (From.ok (ps := [(none, 0)]) ⟨⟨rfl, by kernel_rfl⟩, trivial⟩) (DAll.op' (sp_conv rfl Try.underlying5 Try.underlying3 rfl h5) trivial rfl (From.ok (ps := []) trivial) (DAll.op' (sp_rem rfl rfl rfl (by decide)) trivial rfl (From.ok (ps := []) trivial) (DAll.op' (sp_add rfl rfl rfl h6) trivial rfl (From.ok (ps := []) trivial) (DAll.op' (sp_move rfl rfl) trivial rfl (From.ok (ps := []) trivial) (DAll.op' (sp_indexA (len := 4) (iv := 2) rfl isBlk rfl rfl Try.underlying75 vt5 (by decide)) trivial rfl (From.ok (ps := [(none, 0)]) ⟨⟨rfl, by kernel_rfl⟩, trivial⟩) (DAll.op' (sp_loadB rfl isBlk rfl vt5 rfl) trivial rfl (From.ok (ps := [(none, 0)]) ⟨⟨rfl, by kernel_rfl⟩, trivial⟩) (DAll.op' (sp_conv rfl Try.underlying5 Try.underlying3 rfl h7) trivial rfl (From.ok (ps := []) trivial) (DAll.op' (sp_rem rfl rfl rfl (by decide)) trivial rfl (From.ok (ps := []) trivial) (DAll.op' (sp_add rfl rfl rfl h8) trivial rfl (From.ok (ps := []) trivial) (DAll.op' (sp_indexA (len := 4) (iv := 3) rfl isBlk rfl rfl Try.underlying75 vt5 (by decide)) trivial rfl (From.ok (ps := [(none, 0)]) ⟨⟨rfl, by kernel_rfl⟩, trivial⟩) (DAll.op' (sp_loadB rfl isBlk rfl vt5 rfl) trivial rfl (From.ok (ps := [(none, 0)]) ⟨⟨rfl, by kernel_rfl⟩, trivial⟩) (DAll.op' (sp_conv rfl Try.underlying5 Try.underlying3 rfl h9) trivial rfl (From.ok (ps := []) trivial) (DAll.op' (sp_rem rfl rfl rfl (by decide)) trivial rfl (From.ok (ps := []) trivial) (DAll.op' (sp_add rfl rfl rfl h10) trivial rfl (From.ok (ps := []) trivial) (DAll.op' (sp_assign rfl rfl) trivial rfl (From.ok (ps := []) trivial) (.nil))))))))))))))))))
  refine op0 (sp_assign rfl rfl) rfl trivial rfl rfl ?_
  refine TL.nil ?_
  refine TC.seq ?_
  refine TC.region ?_
  refine op1 1 rfl (sp_loadBA rfl isBlk rfl vt64 rfl rfl) rfl trivial rfl rfl ?_
  obtain ⟨r9, h11, h⟩ := bind_inv h
  refine op0 (sp_call (avs := [.agg [.val (.bool w1), .val (.int .u8 w2), .val (.int .u8 w3)]]) (need := []) (v := .agg [.val (.bool r9.1), .val (.bool r9.2.1), .ref 2]) (news := [.row 2 81 2 (List.map en_api_Span r9.2.2)]) rfl rfl rfl Try.call38 (atJ [] [(0, 2)] (fc_law05_Wheel_rules h11) rfl rfl) (.inl (roAll rfl))) rfl trivial rfl rfl ?_
  refine op0 (sp_move rfl rfl) rfl trivial rfl rfl ?_
  refine op0 (sp_move rfl rfl) rfl trivial rfl rfl ?_
  refine op0 (sp_move rfl rfl) rfl trivial rfl rfl ?_
  obtain ⟨r10, h12, h⟩ := bind_inv h
  refine op1 0 rfl (sp_call (avs := [.agg [.val (.bool r9.1), .val (.bool r9.2.1), .ref 2], .val (.int .i64 at_4), .val (.int .i64 (Int.tmod at_5 r8)), .val (.int .i64 (at_4 + (Int.tmod at_6 21)))]) (need := [.row 2 81 2 (List.map en_api_Span r9.2.2)]) (v := .tup [.ref 3, .val (.int .i64 r10.2.1), .val (.int .i64 r10.2.2)]) (news := [.row 3 73 2 (List.map en_api_StrikeStep r10.1)]) rfl rfl rfl Try.call32 (atJ [(0, 2)] [(0, 3)] (fc_strike_Bring h12) rfl rfl) (.inr (List.forall_mem_cons.2 ⟨indep_map en_api_StrikeStep_flat, (by simp)⟩))) rfl trivial rfl rfl ?_
  refine op0 (sp_move rfl rfl) rfl trivial rfl rfl ?_
  refine op0 (sp_extract rfl rfl rfl) rfl trivial rfl rfl ?_
  refine op0 (sp_extract rfl rfl rfl) rfl trivial rfl rfl ?_
  refine op0 (sp_extract rfl rfl rfl) rfl trivial rfl rfl ?_
  refine op0 (sp_assign rfl rfl) rfl trivial rfl rfl ?_
  refine op0 (sp_assign rfl rfl) rfl trivial rfl rfl ?_
  refine op0 (sp_assign rfl rfl) rfl trivial rfl rfl ?_
  refine TL.nil ?_
  refine TC.seq ?_
  refine TC.region ?_
  refine op1 3 rfl (sp_loadBA rfl isBlk rfl vt64 rfl rfl) rfl trivial rfl rfl ?_
  obtain ⟨r11, h13, h⟩ := bind_inv h
  refine op0 (sp_call (avs := [.agg [.val (.bool w1), .val (.int .u8 w2), .val (.int .u8 w3)]]) (need := []) (v := .agg [.val (.bool r11.1), .val (.bool r11.2.1), .ref 4]) (news := [.row 4 81 2 (List.map en_api_Span r11.2.2)]) rfl rfl rfl Try.call38 (atJ [] [(0, 4)] (fc_law05_Wheel_rules h13) rfl rfl) (.inl (roAll rfl))) rfl trivial rfl rfl ?_
  refine op0 (sp_move rfl rfl) rfl trivial rfl rfl ?_
  refine op0 (sp_move rfl rfl) rfl trivial rfl rfl ?_
  refine op0 (sp_move rfl rfl) rfl trivial rfl rfl ?_
  obtain ⟨r12, h14, h⟩ := bind_inv h
  refine op1 0 rfl (sp_call (avs := [.agg [.val (.bool r11.1), .val (.bool r11.2.1), .ref 4], .val (.int .i64 at_4), .val (.int .i64 (Int.tmod at_5 r8)), .val (.int .i64 ((at_4 + (Int.tmod at_6 21)) + (Int.tmod at_7 20)))]) (need := [.row 4 81 2 (List.map en_api_Span r11.2.2)]) (v := .tup [.ref 5, .val (.int .i64 r12.2.1), .val (.int .i64 r12.2.2)]) (news := [.row 5 73 2 (List.map en_api_StrikeStep r12.1)]) rfl rfl rfl Try.call32 (atJ [(0, 4)] [(0, 5)] (fc_strike_Bring h14) rfl rfl) (.inr (List.forall_mem_cons.2 ⟨indep_map en_api_StrikeStep_flat, (by simp)⟩))) rfl trivial rfl rfl ?_
  refine op0 (sp_move rfl rfl) rfl trivial rfl rfl ?_
  refine op0 (sp_extract rfl rfl rfl) rfl trivial rfl rfl ?_
  refine op0 (sp_extract rfl rfl rfl) rfl trivial rfl rfl ?_
  refine op0 (sp_extract rfl rfl rfl) rfl trivial rfl rfl ?_
  refine op0 (sp_assign rfl rfl) rfl trivial rfl rfl ?_
  refine op0 (sp_assign rfl rfl) rfl trivial rfl rfl ?_
  refine op0 (sp_assign rfl rfl) rfl trivial rfl rfl ?_
  refine TL.nil ?_
  refine TC.seq ?_
  obtain ⟨r13, h15, h⟩ := bind_inv h
  obtain ⟨h16, h⟩ := chk_inv h
  obtain ⟨r14, h17, h⟩ := bind_inv h
  refine drawJ 14 [⟨.agg [.val (.bool w1), .val (.int .u8 w2), .val (.int .u8 w3)], [], [.blk 0 [.val (.bool w1), .val (.int .u8 w2), .val (.int .u8 w3)] 64], []⟩, ⟨.agg [.val (.bool r13.1), .val (.bool r13.2.1), .ref 6], [.row 6 81 2 (List.map en_api_Span r13.2.2)], [], []⟩, ⟨.val (.int .i64 at_4), [], [], []⟩, ⟨.val (.int .i64 at_4), [], [], []⟩, ⟨.val (.int .i64 r8), [], [], []⟩, ⟨.val (.int .i64 (Int.tmod at_4 r8)), [], [], []⟩, ⟨.val (.int .i64 ((at_4 + (Int.tmod at_6 21)) + (Int.tmod at_7 20))), [], [], []⟩, ⟨.tup [.ref 7, .val (.int .i64 r14.2.1), .val (.int .i64 r14.2.2)], [.row 7 73 2 (List.map en_api_StrikeStep r14.1)], [.row 6 81 2 (List.map en_api_Span r13.2.2)], []⟩, ⟨.tup [.ref 7, .val (.int .i64 r14.2.1), .val (.int .i64 r14.2.2)], [], [], []⟩, ⟨.ref 7, [], [], []⟩, ⟨.val (.int .i64 r14.2.1), [], [], []⟩, ⟨.val (.int .i64 r14.2.2), [], [], []⟩, ⟨.ref 7, [], [], []⟩, ⟨.val (.int .i64 r14.2.1), [], [], []⟩] rfl ?_ rfl ?_ rfl ?_ ?_
  · kernel_rfl
  · kernel_rfl
  · exact DAll.op' (sp_loadBA rfl isBlk rfl vt64 rfl rfl) trivial rfl (From.ok (ps := [(none, 5)]) ⟨⟨rfl, rfl⟩, trivial⟩) (DAll.op' (sp_call (avs := [.agg [.val (.bool w1), .val (.int .u8 w2), .val (.int .u8 w3)]]) (need := []) (v := .agg [.val (.bool r13.1), .val (.bool r13.2.1), .ref 6]) (news := [.row 6 81 2 (List.map en_api_Span r13.2.2)]) rfl rfl rfl Try.call38 (atJ [] [(0, 6)] (fc_law05_Wheel_rules h15) rfl rfl) (.inl (roAll rfl))) trivial rfl (From.ok (ps := []) trivial) (DAll.op' (sp_move rfl rfl) trivial rfl (From.ok (ps := []) trivial) (DAll.op' (sp_move rfl rfl) trivial rfl (From.ok (ps := []) trivial) (DAll.op' (sp_move rfl rfl) trivial rfl (From.ok (ps := []) trivial) (DAll.op' (sp_rem rfl rfl rfl h16) trivial rfl (From.ok (ps := []) trivial) (DAll.op' (sp_move rfl rfl) trivial rfl (From.ok (ps := []) trivial) (DAll.op' (sp_call (avs := [.agg [.val (.bool r13.1), .val (.bool r13.2.1), .ref 6], .val (.int .i64 at_4), .val (.int .i64 (Int.tmod at_4 r8)), .val (.int .i64 ((at_4 + (Int.tmod at_6 21)) + (Int.tmod at_7 20)))]) (need := [.row 6 81 2 (List.map en_api_Span r13.2.2)]) (v := .tup [.ref 7, .val (.int .i64 r14.2.1), .val (.int .i64 r14.2.2)]) (news := [.row 7 73 2 (List.map en_api_StrikeStep r14.1)]) rfl rfl rfl Try.call32 (atJ [(0, 6)] [(0, 7)] (fc_strike_Bring h17) rfl rfl) (.inr (List.forall_mem_cons.2 ⟨indep_map en_api_StrikeStep_flat, (by simp)⟩))) trivial rfl (From.ok (ps := [(some 1, 0)]) ⟨⟨_, rfl, rfl, rfl, rfl⟩, trivial⟩) (DAll.op' (sp_move rfl rfl) trivial rfl (From.ok (ps := []) trivial) (DAll.op' (sp_extract rfl rfl rfl) trivial rfl (From.ok (ps := []) trivial) (DAll.op' (sp_extract rfl rfl rfl) trivial rfl (From.ok (ps := []) trivial) (DAll.op' (sp_extract rfl rfl rfl) trivial rfl (From.ok (ps := []) trivial) (DAll.op' (sp_assign rfl rfl) trivial rfl (From.ok (ps := []) trivial) (DAll.op' (sp_assign rfl rfl) trivial rfl (From.ok (ps := []) trivial) (.nil))))))))))))))
  refine op0 (sp_assign rfl rfl) rfl trivial rfl rfl ?_
  refine TL.nil ?_
  refine TC.seq ?_
  refine TC.seq ?_
  refine TC.region ?_
  refine op0 (sp_move rfl rfl) rfl trivial rfl rfl ?_
  refine op0 (sp_eql rfl rfl rfl) rfl trivial rfl rfl ?_
  refine op0 (sp_move rfl rfl) rfl trivial rfl rfl ?_
  rcases cond_cases h with ⟨h18, h⟩ | ⟨h18, h⟩
  · refine (boolLit 81 rfl h18).2 ?_
    refine op0 (sp_move rfl rfl) rfl ⟨_, rfl, rfl⟩ rfl rfl ?_
    refine op0 (sp_neq rfl rfl rfl) rfl ⟨_, rfl, rfl⟩ rfl rfl ?_
    refine op0 (sp_move rfl rfl) rfl ⟨_, rfl, rfl⟩ rfl rfl ?_
    rcases cond_cases h with ⟨h19, h⟩ | ⟨h19, h⟩
    · refine (boolLit 84 rfl h19).2 ?_
      refine opSkip rfl ⟨_, rfl, .inl rfl⟩ rfl ?_
      refine opSkip rfl ⟨_, rfl, .inl rfl⟩ rfl ?_
      refine opSkip rfl ⟨_, rfl, .inl rfl⟩ rfl ?_
      refine op0 (sp_pickT rfl rfl rfl) rfl ⟨_, rfl, rfl⟩ rfl rfl ?_
      refine op0 (sp_pickT rfl rfl rfl) rfl trivial rfl rfl ?_
      refine op0 (sp_move rfl rfl) rfl trivial rfl rfl ?_
      refine opSkip rfl ⟨_, rfl, .inl rfl⟩ rfl ?_
      refine opSkip rfl ⟨_, rfl, .inl rfl⟩ rfl ?_
      refine opSkip rfl ⟨_, rfl, .inl rfl⟩ rfl ?_
      refine opSkip rfl ⟨_, rfl, .inr rfl⟩ rfl ?_
      refine opSkip rfl ⟨_, rfl, .inr rfl⟩ rfl ?_
      refine opSkip rfl ⟨_, rfl, .inl rfl⟩ rfl ?_
      refine op0 (sp_pickT rfl rfl rfl) rfl trivial rfl rfl ?_
      refine op0 (sp_move rfl rfl) rfl trivial rfl rfl ?_
      refine opSkip rfl ⟨_, rfl, .inl rfl⟩ rfl ?_
      refine opSkip rfl ⟨_, rfl, .inl rfl⟩ rfl ?_
      refine opSkip rfl ⟨_, rfl, .inl rfl⟩ rfl ?_
      refine opSkip rfl ⟨_, rfl, .inl rfl⟩ rfl ?_
      refine opSkip rfl ⟨_, rfl, .inl rfl⟩ rfl ?_
      refine opSkip rfl ⟨_, rfl, .inl rfl⟩ rfl ?_
      refine opSkip rfl ⟨_, rfl, .inr rfl⟩ rfl ?_
      refine opSkip rfl ⟨_, rfl, .inr rfl⟩ rfl ?_
      refine opSkip rfl ⟨_, rfl, .inr rfl⟩ rfl ?_
      refine opSkip rfl ⟨_, rfl, .inr rfl⟩ rfl ?_
      refine opSkip rfl ⟨_, rfl, .inr rfl⟩ rfl ?_
      refine opSkip rfl ⟨_, rfl, .inr rfl⟩ rfl ?_
      refine opSkip rfl ⟨_, rfl, .inl rfl⟩ rfl ?_
      refine op0 (sp_pickT rfl rfl rfl) rfl trivial rfl rfl ?_
      refine op0 (sp_move rfl rfl) rfl trivial rfl rfl ?_
      refine opSkip rfl ⟨_, rfl, .inl rfl⟩ rfl ?_
      refine opSkip rfl ⟨_, rfl, .inl rfl⟩ rfl ?_
      refine op0 (sp_pickT rfl rfl rfl) rfl trivial rfl rfl ?_
      refine op0 (sp_move rfl rfl) rfl trivial rfl rfl ?_
      refine opSkip rfl ⟨_, rfl, .inl rfl⟩ rfl ?_
      refine opSkip rfl ⟨_, rfl, .inl rfl⟩ rfl ?_
      refine op0 (sp_pickT rfl rfl rfl) rfl trivial rfl rfl ?_
      refine op0 (sp_move rfl rfl) rfl trivial rfl rfl ?_
      refine opSkip rfl ⟨_, rfl, .inl rfl⟩ rfl ?_
      refine opSkip rfl ⟨_, rfl, .inl rfl⟩ rfl ?_
      refine opSkip rfl ⟨_, rfl, .inl rfl⟩ rfl ?_
      refine opSkip rfl ⟨_, rfl, .inl rfl⟩ rfl ?_
      refine opSkip rfl ⟨_, rfl, .inl rfl⟩ rfl ?_
      refine opSkip rfl ⟨_, rfl, .inl rfl⟩ rfl ?_
      refine op0 (sp_pickT rfl rfl rfl) rfl trivial rfl rfl ?_
      refine op0 (sp_move rfl rfl) rfl trivial rfl rfl ?_
      refine opSkip rfl ⟨_, rfl, .inl rfl⟩ rfl ?_
      refine opSkip rfl ⟨_, rfl, .inl rfl⟩ rfl ?_
      refine opSkip rfl ⟨_, rfl, .inl rfl⟩ rfl ?_
      refine opSkip rfl ⟨_, rfl, .inr rfl⟩ rfl ?_
      refine opSkip rfl ⟨_, rfl, .inr rfl⟩ rfl ?_
      refine opSkip rfl ⟨_, rfl, .inr rfl⟩ rfl ?_
      refine opSkip rfl ⟨_, rfl, .inr rfl⟩ rfl ?_
      refine opSkip rfl ⟨_, rfl, .inr rfl⟩ rfl ?_
      refine opSkip rfl ⟨_, rfl, .inr rfl⟩ rfl ?_
      refine opSkip rfl ⟨_, rfl, .inl rfl⟩ rfl ?_
      refine op0 (sp_pickT rfl rfl rfl) rfl trivial rfl rfl ?_
      refine TL.nil ?_
      refine TC.condT rfl ?_
      refine TC.seq ?_
      refine TC.region ?_
      refine op0 (sp_assign rfl rfl) rfl trivial rfl rfl ?_
      refine TL.nil ?_
      cases h
      exact retJ [] (.tmp rfl .nil) rfl trivial rfl rfl
    · refine (boolLit 84 rfl h19).2 ?_
      refine op0 (sp_move rfl rfl) rfl ⟨_, rfl, rfl⟩ rfl rfl ?_
      refine op0 (sp_move rfl rfl) rfl ⟨_, rfl, rfl⟩ rfl rfl ?_
      refine op0 (sp_gtr rfl rfl rfl) rfl ⟨_, rfl, rfl⟩ rfl rfl ?_
      refine op0 (sp_pickF rfl rfl rfl) rfl ⟨_, rfl, rfl⟩ rfl rfl ?_
      refine op0 (sp_pickT rfl rfl rfl) rfl trivial rfl rfl ?_
      refine op0 (sp_move rfl rfl) rfl trivial rfl rfl ?_
      rcases cond_cases h with ⟨h20, h⟩ | ⟨h20, h⟩
      · refine (boolLit 90 rfl h20).2 ?_
        refine opSkip rfl ⟨_, rfl, .inl rfl⟩ rfl ?_
        refine opSkip rfl ⟨_, rfl, .inl rfl⟩ rfl ?_
        refine opSkip rfl ⟨_, rfl, .inl rfl⟩ rfl ?_
        refine opSkip rfl ⟨_, rfl, .inr rfl⟩ rfl ?_
        refine opSkip rfl ⟨_, rfl, .inr rfl⟩ rfl ?_
        refine opSkip rfl ⟨_, rfl, .inl rfl⟩ rfl ?_
        refine op0 (sp_pickT rfl rfl rfl) rfl trivial rfl rfl ?_
        refine op0 (sp_move rfl rfl) rfl trivial rfl rfl ?_
        refine opSkip rfl ⟨_, rfl, .inl rfl⟩ rfl ?_
        refine opSkip rfl ⟨_, rfl, .inl rfl⟩ rfl ?_
        refine opSkip rfl ⟨_, rfl, .inl rfl⟩ rfl ?_
        refine opSkip rfl ⟨_, rfl, .inl rfl⟩ rfl ?_
        refine opSkip rfl ⟨_, rfl, .inl rfl⟩ rfl ?_
        refine opSkip rfl ⟨_, rfl, .inl rfl⟩ rfl ?_
        refine opSkip rfl ⟨_, rfl, .inr rfl⟩ rfl ?_
        refine opSkip rfl ⟨_, rfl, .inr rfl⟩ rfl ?_
        refine opSkip rfl ⟨_, rfl, .inr rfl⟩ rfl ?_
        refine opSkip rfl ⟨_, rfl, .inr rfl⟩ rfl ?_
        refine opSkip rfl ⟨_, rfl, .inr rfl⟩ rfl ?_
        refine opSkip rfl ⟨_, rfl, .inr rfl⟩ rfl ?_
        refine opSkip rfl ⟨_, rfl, .inl rfl⟩ rfl ?_
        refine op0 (sp_pickT rfl rfl rfl) rfl trivial rfl rfl ?_
        refine op0 (sp_move rfl rfl) rfl trivial rfl rfl ?_
        refine opSkip rfl ⟨_, rfl, .inl rfl⟩ rfl ?_
        refine opSkip rfl ⟨_, rfl, .inl rfl⟩ rfl ?_
        refine op0 (sp_pickT rfl rfl rfl) rfl trivial rfl rfl ?_
        refine op0 (sp_move rfl rfl) rfl trivial rfl rfl ?_
        refine opSkip rfl ⟨_, rfl, .inl rfl⟩ rfl ?_
        refine opSkip rfl ⟨_, rfl, .inl rfl⟩ rfl ?_
        refine op0 (sp_pickT rfl rfl rfl) rfl trivial rfl rfl ?_
        refine op0 (sp_move rfl rfl) rfl trivial rfl rfl ?_
        refine opSkip rfl ⟨_, rfl, .inl rfl⟩ rfl ?_
        refine opSkip rfl ⟨_, rfl, .inl rfl⟩ rfl ?_
        refine opSkip rfl ⟨_, rfl, .inl rfl⟩ rfl ?_
        refine opSkip rfl ⟨_, rfl, .inl rfl⟩ rfl ?_
        refine opSkip rfl ⟨_, rfl, .inl rfl⟩ rfl ?_
        refine opSkip rfl ⟨_, rfl, .inl rfl⟩ rfl ?_
        refine op0 (sp_pickT rfl rfl rfl) rfl trivial rfl rfl ?_
        refine op0 (sp_move rfl rfl) rfl trivial rfl rfl ?_
        refine opSkip rfl ⟨_, rfl, .inl rfl⟩ rfl ?_
        refine opSkip rfl ⟨_, rfl, .inl rfl⟩ rfl ?_
        refine opSkip rfl ⟨_, rfl, .inl rfl⟩ rfl ?_
        refine opSkip rfl ⟨_, rfl, .inr rfl⟩ rfl ?_
        refine opSkip rfl ⟨_, rfl, .inr rfl⟩ rfl ?_
        refine opSkip rfl ⟨_, rfl, .inr rfl⟩ rfl ?_
        refine opSkip rfl ⟨_, rfl, .inr rfl⟩ rfl ?_
        refine opSkip rfl ⟨_, rfl, .inr rfl⟩ rfl ?_
        refine opSkip rfl ⟨_, rfl, .inr rfl⟩ rfl ?_
        refine opSkip rfl ⟨_, rfl, .inl rfl⟩ rfl ?_
        refine op0 (sp_pickT rfl rfl rfl) rfl trivial rfl rfl ?_
        refine TL.nil ?_
        refine TC.condT rfl ?_
        refine TC.seq ?_
        refine TC.region ?_
        refine op0 (sp_assign rfl rfl) rfl trivial rfl rfl ?_
        refine TL.nil ?_
        cases h
        exact retJ [] (.tmp rfl .nil) rfl trivial rfl rfl
      · refine (boolLit 90 rfl h20).2 ?_
        refine op0 (sp_move rfl rfl) rfl ⟨_, rfl, rfl⟩ rfl rfl ?_
        refine op0 (sp_neq rfl rfl rfl) rfl ⟨_, rfl, rfl⟩ rfl rfl ?_
        refine op0 (sp_move rfl rfl) rfl ⟨_, rfl, rfl⟩ rfl rfl ?_
        rcases cond_cases h with ⟨h21, h⟩ | ⟨h21, h⟩
        · refine (boolLit 93 rfl h21).2 ?_
          refine op0 (sp_move rfl rfl) rfl ⟨_, rfl, rfl⟩ rfl rfl ?_
          refine op0 (sp_neq rfl rfl rfl) rfl ⟨_, rfl, rfl⟩ rfl rfl ?_
          refine op0 (sp_pickT rfl rfl rfl) rfl ⟨_, rfl, rfl⟩ rfl rfl ?_
          refine op0 (sp_pickF rfl rfl rfl) rfl trivial rfl rfl ?_
          refine op0 (sp_move rfl rfl) rfl trivial rfl rfl ?_
          rcases cond_cases h with ⟨h22, h⟩ | ⟨h22, h⟩
          · refine (boolLit 98 rfl h22).2 ?_
            refine opSkip rfl ⟨_, rfl, .inl rfl⟩ rfl ?_
            refine opSkip rfl ⟨_, rfl, .inl rfl⟩ rfl ?_
            refine opSkip rfl ⟨_, rfl, .inl rfl⟩ rfl ?_
            refine opSkip rfl ⟨_, rfl, .inl rfl⟩ rfl ?_
            refine opSkip rfl ⟨_, rfl, .inl rfl⟩ rfl ?_
            refine opSkip rfl ⟨_, rfl, .inl rfl⟩ rfl ?_
            refine opSkip rfl ⟨_, rfl, .inr rfl⟩ rfl ?_
            refine opSkip rfl ⟨_, rfl, .inr rfl⟩ rfl ?_
            refine opSkip rfl ⟨_, rfl, .inr rfl⟩ rfl ?_
            refine opSkip rfl ⟨_, rfl, .inr rfl⟩ rfl ?_
            refine opSkip rfl ⟨_, rfl, .inr rfl⟩ rfl ?_
            refine opSkip rfl ⟨_, rfl, .inr rfl⟩ rfl ?_
            refine opSkip rfl ⟨_, rfl, .inl rfl⟩ rfl ?_
            refine op0 (sp_pickT rfl rfl rfl) rfl trivial rfl rfl ?_
            refine op0 (sp_move rfl rfl) rfl trivial rfl rfl ?_
            refine opSkip rfl ⟨_, rfl, .inl rfl⟩ rfl ?_
            refine opSkip rfl ⟨_, rfl, .inl rfl⟩ rfl ?_
            refine op0 (sp_pickT rfl rfl rfl) rfl trivial rfl rfl ?_
            refine op0 (sp_move rfl rfl) rfl trivial rfl rfl ?_
            refine opSkip rfl ⟨_, rfl, .inl rfl⟩ rfl ?_
            refine opSkip rfl ⟨_, rfl, .inl rfl⟩ rfl ?_
            refine op0 (sp_pickT rfl rfl rfl) rfl trivial rfl rfl ?_
            refine op0 (sp_move rfl rfl) rfl trivial rfl rfl ?_
            refine opSkip rfl ⟨_, rfl, .inl rfl⟩ rfl ?_
            refine opSkip rfl ⟨_, rfl, .inl rfl⟩ rfl ?_
            refine opSkip rfl ⟨_, rfl, .inl rfl⟩ rfl ?_
            refine opSkip rfl ⟨_, rfl, .inl rfl⟩ rfl ?_
            refine opSkip rfl ⟨_, rfl, .inl rfl⟩ rfl ?_
            refine opSkip rfl ⟨_, rfl, .inl rfl⟩ rfl ?_
            refine op0 (sp_pickT rfl rfl rfl) rfl trivial rfl rfl ?_
            refine op0 (sp_move rfl rfl) rfl trivial rfl rfl ?_
            refine opSkip rfl ⟨_, rfl, .inl rfl⟩ rfl ?_
            refine opSkip rfl ⟨_, rfl, .inl rfl⟩ rfl ?_
            refine opSkip rfl ⟨_, rfl, .inl rfl⟩ rfl ?_
            refine opSkip rfl ⟨_, rfl, .inr rfl⟩ rfl ?_
            refine opSkip rfl ⟨_, rfl, .inr rfl⟩ rfl ?_
            refine opSkip rfl ⟨_, rfl, .inr rfl⟩ rfl ?_
            refine opSkip rfl ⟨_, rfl, .inr rfl⟩ rfl ?_
            refine opSkip rfl ⟨_, rfl, .inr rfl⟩ rfl ?_
            refine opSkip rfl ⟨_, rfl, .inr rfl⟩ rfl ?_
            refine opSkip rfl ⟨_, rfl, .inl rfl⟩ rfl ?_
            refine op0 (sp_pickT rfl rfl rfl) rfl trivial rfl rfl ?_
            refine TL.nil ?_
            refine TC.condT rfl ?_
            refine TC.seq ?_
            refine TC.region ?_
            refine op0 (sp_assign rfl rfl) rfl trivial rfl rfl ?_
            refine TL.nil ?_
            cases h
            exact retJ [] (.tmp rfl .nil) rfl trivial rfl rfl
          · refine (boolLit 98 rfl h22).2 ?_
            refine op0 (sp_move rfl rfl) rfl ⟨_, rfl, rfl⟩ rfl rfl ?_
            refine op0 (sp_move rfl rfl) rfl ⟨_, rfl, rfl⟩ rfl rfl ?_
            obtain ⟨h23, h⟩ := chk_inv h
            refine op0 (sp_sub rfl rfl rfl h23) rfl ⟨_, rfl, rfl⟩ rfl rfl ?_
            refine op0 (sp_move rfl rfl) rfl ⟨_, rfl, rfl⟩ rfl rfl ?_
            refine op0 (sp_geq rfl rfl rfl) rfl ⟨_, rfl, rfl⟩ rfl rfl ?_
            refine op0 (sp_move rfl rfl) rfl ⟨_, rfl, rfl⟩ rfl rfl ?_
            rcases cond_cases h with ⟨h24, h⟩ | ⟨h24, h⟩
            · refine (boolLit 104 rfl h24).2 ?_
              refine op0 (sp_move rfl rfl) rfl ⟨_, rfl, rfl⟩ rfl rfl ?_
              refine op0 (sp_neq rfl rfl rfl) rfl ⟨_, rfl, rfl⟩ rfl rfl ?_
              refine op0 (sp_move rfl rfl) rfl ⟨_, rfl, rfl⟩ rfl rfl ?_
              rcases cond_cases h with ⟨h25, h⟩ | ⟨h25, h⟩
              · refine (boolLit 107 rfl h25).2 ?_
                refine opSkip rfl ⟨_, rfl, .inl rfl⟩ rfl ?_
                refine opSkip rfl ⟨_, rfl, .inl rfl⟩ rfl ?_
                refine op0 (sp_pickT rfl rfl rfl) rfl ⟨_, rfl, rfl⟩ rfl rfl ?_
                refine op0 (sp_pickT rfl rfl rfl) rfl ⟨_, rfl, rfl⟩ rfl rfl ?_
                refine op0 (sp_pickF rfl rfl rfl) rfl trivial rfl rfl ?_
                refine op0 (sp_move rfl rfl) rfl trivial rfl rfl ?_
                refine opSkip rfl ⟨_, rfl, .inl rfl⟩ rfl ?_
                refine opSkip rfl ⟨_, rfl, .inl rfl⟩ rfl ?_
                refine op0 (sp_pickT rfl rfl rfl) rfl trivial rfl rfl ?_
                refine op0 (sp_move rfl rfl) rfl trivial rfl rfl ?_
                refine opSkip rfl ⟨_, rfl, .inl rfl⟩ rfl ?_
                refine opSkip rfl ⟨_, rfl, .inl rfl⟩ rfl ?_
                refine op0 (sp_pickT rfl rfl rfl) rfl trivial rfl rfl ?_
                refine op0 (sp_move rfl rfl) rfl trivial rfl rfl ?_
                refine opSkip rfl ⟨_, rfl, .inl rfl⟩ rfl ?_
                refine opSkip rfl ⟨_, rfl, .inl rfl⟩ rfl ?_
                refine opSkip rfl ⟨_, rfl, .inl rfl⟩ rfl ?_
                refine opSkip rfl ⟨_, rfl, .inl rfl⟩ rfl ?_
                refine opSkip rfl ⟨_, rfl, .inl rfl⟩ rfl ?_
                refine opSkip rfl ⟨_, rfl, .inl rfl⟩ rfl ?_
                refine op0 (sp_pickT rfl rfl rfl) rfl trivial rfl rfl ?_
                refine op0 (sp_move rfl rfl) rfl trivial rfl rfl ?_
                refine opSkip rfl ⟨_, rfl, .inl rfl⟩ rfl ?_
                refine opSkip rfl ⟨_, rfl, .inl rfl⟩ rfl ?_
                refine opSkip rfl ⟨_, rfl, .inl rfl⟩ rfl ?_
                refine opSkip rfl ⟨_, rfl, .inr rfl⟩ rfl ?_
                refine opSkip rfl ⟨_, rfl, .inr rfl⟩ rfl ?_
                refine opSkip rfl ⟨_, rfl, .inr rfl⟩ rfl ?_
                refine opSkip rfl ⟨_, rfl, .inr rfl⟩ rfl ?_
                refine opSkip rfl ⟨_, rfl, .inr rfl⟩ rfl ?_
                refine opSkip rfl ⟨_, rfl, .inr rfl⟩ rfl ?_
                refine opSkip rfl ⟨_, rfl, .inl rfl⟩ rfl ?_
                refine op0 (sp_pickT rfl rfl rfl) rfl trivial rfl rfl ?_
                refine TL.nil ?_
                refine TC.condT rfl ?_
                refine TC.seq ?_
                refine TC.region ?_
                refine op0 (sp_assign rfl rfl) rfl trivial rfl rfl ?_
                refine TL.nil ?_
                cases h
                exact retJ [] (.tmp rfl .nil) rfl trivial rfl rfl
              · refine (boolLit 107 rfl h25).2 ?_
                refine op0 (sp_move rfl rfl) rfl ⟨_, rfl, rfl⟩ rfl rfl ?_
                refine op0 (sp_neq rfl rfl rfl) rfl ⟨_, rfl, rfl⟩ rfl rfl ?_
                refine op0 (sp_pickF rfl rfl rfl) rfl ⟨_, rfl, rfl⟩ rfl rfl ?_
                refine op0 (sp_pickT rfl rfl rfl) rfl ⟨_, rfl, rfl⟩ rfl rfl ?_
                refine op0 (sp_pickF rfl rfl rfl) rfl trivial rfl rfl ?_
                refine op0 (sp_move rfl rfl) rfl trivial rfl rfl ?_
                rcases cond_cases h with ⟨h26, h⟩ | ⟨h26, h⟩
                · refine (boolLit 113 rfl h26).2 ?_
                  refine opSkip rfl ⟨_, rfl, .inl rfl⟩ rfl ?_
                  refine opSkip rfl ⟨_, rfl, .inl rfl⟩ rfl ?_
                  refine op0 (sp_pickT rfl rfl rfl) rfl trivial rfl rfl ?_
                  refine op0 (sp_move rfl rfl) rfl trivial rfl rfl ?_
                  refine opSkip rfl ⟨_, rfl, .inl rfl⟩ rfl ?_
                  refine opSkip rfl ⟨_, rfl, .inl rfl⟩ rfl ?_
                  refine op0 (sp_pickT rfl rfl rfl) rfl trivial rfl rfl ?_
                  refine op0 (sp_move rfl rfl) rfl trivial rfl rfl ?_
                  refine opSkip rfl ⟨_, rfl, .inl rfl⟩ rfl ?_
                  refine opSkip rfl ⟨_, rfl, .inl rfl⟩ rfl ?_
                  refine opSkip rfl ⟨_, rfl, .inl rfl⟩ rfl ?_
                  refine opSkip rfl ⟨_, rfl, .inl rfl⟩ rfl ?_
                  refine opSkip rfl ⟨_, rfl, .inl rfl⟩ rfl ?_
                  refine opSkip rfl ⟨_, rfl, .inl rfl⟩ rfl ?_
                  refine op0 (sp_pickT rfl rfl rfl) rfl trivial rfl rfl ?_
                  refine op0 (sp_move rfl rfl) rfl trivial rfl rfl ?_
                  refine opSkip rfl ⟨_, rfl, .inl rfl⟩ rfl ?_
                  refine opSkip rfl ⟨_, rfl, .inl rfl⟩ rfl ?_
                  refine opSkip rfl ⟨_, rfl, .inl rfl⟩ rfl ?_
                  refine opSkip rfl ⟨_, rfl, .inr rfl⟩ rfl ?_
                  refine opSkip rfl ⟨_, rfl, .inr rfl⟩ rfl ?_
                  refine opSkip rfl ⟨_, rfl, .inr rfl⟩ rfl ?_
                  refine opSkip rfl ⟨_, rfl, .inr rfl⟩ rfl ?_
                  refine opSkip rfl ⟨_, rfl, .inr rfl⟩ rfl ?_
                  refine opSkip rfl ⟨_, rfl, .inr rfl⟩ rfl ?_
                  refine opSkip rfl ⟨_, rfl, .inl rfl⟩ rfl ?_
                  refine op0 (sp_pickT rfl rfl rfl) rfl trivial rfl rfl ?_
                  refine TL.nil ?_
                  refine TC.condT rfl ?_
                  refine TC.seq ?_
                  refine TC.region ?_
                  refine op0 (sp_assign rfl rfl) rfl trivial rfl rfl ?_
                  refine TL.nil ?_
                  cases h
                  exact retJ [] (.tmp rfl .nil) rfl trivial rfl rfl
                · refine (boolLit 113 rfl h26).2 ?_
                  refine op0 (sp_move rfl rfl) rfl ⟨_, rfl, rfl⟩ rfl rfl ?_
                  refine op0 (sp_neq rfl rfl rfl) rfl ⟨_, rfl, rfl⟩ rfl rfl ?_
                  refine op0 (sp_pickF rfl rfl rfl) rfl trivial rfl rfl ?_
                  refine op0 (sp_move rfl rfl) rfl trivial rfl rfl ?_
                  rcases cond_cases h with ⟨h27, h⟩ | ⟨h27, h⟩
                  · refine (boolLit 117 rfl h27).2 ?_
                    refine opSkip rfl ⟨_, rfl, .inl rfl⟩ rfl ?_
                    refine opSkip rfl ⟨_, rfl, .inl rfl⟩ rfl ?_
                    refine op0 (sp_pickT rfl rfl rfl) rfl trivial rfl rfl ?_
                    refine op0 (sp_move rfl rfl) rfl trivial rfl rfl ?_
                    refine opSkip rfl ⟨_, rfl, .inl rfl⟩ rfl ?_
                    refine opSkip rfl ⟨_, rfl, .inl rfl⟩ rfl ?_
                    refine opSkip rfl ⟨_, rfl, .inl rfl⟩ rfl ?_
                    refine opSkip rfl ⟨_, rfl, .inl rfl⟩ rfl ?_
                    refine opSkip rfl ⟨_, rfl, .inl rfl⟩ rfl ?_
                    refine opSkip rfl ⟨_, rfl, .inl rfl⟩ rfl ?_
                    refine op0 (sp_pickT rfl rfl rfl) rfl trivial rfl rfl ?_
                    refine op0 (sp_move rfl rfl) rfl trivial rfl rfl ?_
                    refine opSkip rfl ⟨_, rfl, .inl rfl⟩ rfl ?_
                    refine opSkip rfl ⟨_, rfl, .inl rfl⟩ rfl ?_
                    refine opSkip rfl ⟨_, rfl, .inl rfl⟩ rfl ?_
                    refine opSkip rfl ⟨_, rfl, .inr rfl⟩ rfl ?_
                    refine opSkip rfl ⟨_, rfl, .inr rfl⟩ rfl ?_
                    refine opSkip rfl ⟨_, rfl, .inr rfl⟩ rfl ?_
                    refine opSkip rfl ⟨_, rfl, .inr rfl⟩ rfl ?_
                    refine opSkip rfl ⟨_, rfl, .inr rfl⟩ rfl ?_
                    refine opSkip rfl ⟨_, rfl, .inr rfl⟩ rfl ?_
                    refine opSkip rfl ⟨_, rfl, .inl rfl⟩ rfl ?_
                    refine op0 (sp_pickT rfl rfl rfl) rfl trivial rfl rfl ?_
                    refine TL.nil ?_
                    refine TC.condT rfl ?_
                    refine TC.seq ?_
                    refine TC.region ?_
                    refine op0 (sp_assign rfl rfl) rfl trivial rfl rfl ?_
                    refine TL.nil ?_
                    cases h
                    exact retJ [] (.tmp rfl .nil) rfl trivial rfl rfl
                  · refine (boolLit 117 rfl h27).2 ?_
                    refine op0 (sp_move rfl rfl) rfl ⟨_, rfl, rfl⟩ rfl rfl ?_
                    refine op0 (sp_neq rfl rfl rfl) rfl ⟨_, rfl, rfl⟩ rfl rfl ?_
                    refine op0 (sp_pickF rfl rfl rfl) rfl trivial rfl rfl ?_
                    refine op0 (sp_move rfl rfl) rfl trivial rfl rfl ?_
                    rcases cond_cases h with ⟨h28, h⟩ | ⟨h28, h⟩
                    · refine (boolLit 121 rfl h28).2 ?_
                      refine opSkip rfl ⟨_, rfl, .inl rfl⟩ rfl ?_
                      refine opSkip rfl ⟨_, rfl, .inl rfl⟩ rfl ?_
                      refine opSkip rfl ⟨_, rfl, .inl rfl⟩ rfl ?_
                      refine opSkip rfl ⟨_, rfl, .inl rfl⟩ rfl ?_
                      refine opSkip rfl ⟨_, rfl, .inl rfl⟩ rfl ?_
                      refine opSkip rfl ⟨_, rfl, .inl rfl⟩ rfl ?_
                      refine op0 (sp_pickT rfl rfl rfl) rfl trivial rfl rfl ?_
                      refine op0 (sp_move rfl rfl) rfl trivial rfl rfl ?_
                      refine opSkip rfl ⟨_, rfl, .inl rfl⟩ rfl ?_
                      refine opSkip rfl ⟨_, rfl, .inl rfl⟩ rfl ?_
                      refine opSkip rfl ⟨_, rfl, .inl rfl⟩ rfl ?_
                      refine opSkip rfl ⟨_, rfl, .inr rfl⟩ rfl ?_
                      refine opSkip rfl ⟨_, rfl, .inr rfl⟩ rfl ?_
                      refine opSkip rfl ⟨_, rfl, .inr rfl⟩ rfl ?_
                      refine opSkip rfl ⟨_, rfl, .inr rfl⟩ rfl ?_
                      refine opSkip rfl ⟨_, rfl, .inr rfl⟩ rfl ?_
                      refine opSkip rfl ⟨_, rfl, .inr rfl⟩ rfl ?_
                      refine opSkip rfl ⟨_, rfl, .inl rfl⟩ rfl ?_
                      refine op0 (sp_pickT rfl rfl rfl) rfl trivial rfl rfl ?_
                      refine TL.nil ?_
                      refine TC.condT rfl ?_
                      refine TC.seq ?_
                      refine TC.region ?_
                      refine op0 (sp_assign rfl rfl) rfl trivial rfl rfl ?_
                      refine TL.nil ?_
                      cases h
                      exact retJ [] (.tmp rfl .nil) rfl trivial rfl rfl
                    · refine (boolLit 121 rfl h28).2 ?_
                      refine op0 (sp_move rfl rfl) rfl ⟨_, rfl, rfl⟩ rfl rfl ?_
                      refine op1 0 rfl (sp_lenM (N := r14.1.length) (len_map _ _) rfl rfl isOwn Try.underlying50) rfl ⟨_, rfl, rfl⟩ rfl rfl ?_
                      refine op0 (sp_move rfl rfl) rfl ⟨_, rfl, rfl⟩ rfl rfl ?_
                      refine op0 (sp_move rfl rfl) rfl ⟨_, rfl, rfl⟩ rfl rfl ?_
                      obtain ⟨h29, h⟩ := chk_inv h
                      refine op0 (sp_sub rfl rfl rfl h29) rfl ⟨_, rfl, rfl⟩ rfl rfl ?_
                      refine op0 (sp_neq rfl rfl rfl) rfl ⟨_, rfl, rfl⟩ rfl rfl ?_
                      refine op0 (sp_pickF rfl rfl rfl) rfl trivial rfl rfl ?_
                      refine op0 (sp_move rfl rfl) rfl trivial rfl rfl ?_
                      rcases cond_cases h with ⟨h30, h⟩ | ⟨h30, h⟩
                      · refine (boolLit 129 rfl h30).2 ?_
                        refine opSkip rfl ⟨_, rfl, .inl rfl⟩ rfl ?_
                        refine opSkip rfl ⟨_, rfl, .inl rfl⟩ rfl ?_
                        refine opSkip rfl ⟨_, rfl, .inl rfl⟩ rfl ?_
                        refine opSkip rfl ⟨_, rfl, .inr rfl⟩ rfl ?_
                        refine opSkip rfl ⟨_, rfl, .inr rfl⟩ rfl ?_
                        refine opSkip rfl ⟨_, rfl, .inr rfl⟩ rfl ?_
                        refine opSkip rfl ⟨_, rfl, .inr rfl⟩ rfl ?_
                        refine opSkip rfl ⟨_, rfl, .inr rfl⟩ rfl ?_
                        refine opSkip rfl ⟨_, rfl, .inr rfl⟩ rfl ?_
                        refine opSkip rfl ⟨_, rfl, .inl rfl⟩ rfl ?_
                        refine op0 (sp_pickT rfl rfl rfl) rfl trivial rfl rfl ?_
                        refine TL.nil ?_
                        refine TC.condT rfl ?_
                        refine TC.seq ?_
                        refine TC.region ?_
                        refine op0 (sp_assign rfl rfl) rfl trivial rfl rfl ?_
                        refine TL.nil ?_
                        cases h
                        exact retJ [] (.tmp rfl .nil) rfl trivial rfl rfl
                      · refine (boolLit 129 rfl h30).2 ?_
                        refine op0 (sp_move rfl rfl) rfl ⟨_, rfl, rfl⟩ rfl rfl ?_
                        refine op0 (sp_eql rfl rfl rfl) rfl ⟨_, rfl, rfl⟩ rfl rfl ?_
                        refine op0 (sp_move rfl rfl) rfl ⟨_, rfl, rfl⟩ rfl rfl ?_
                        rcases cond_cases h with ⟨h31, h⟩ | ⟨h31, h⟩
                        · refine (boolLit 132 rfl h31).2 ?_
                          refine op0 (sp_move rfl rfl) rfl ⟨_, rfl, rfl⟩ rfl rfl ?_
                          refine op1 2 rfl (sp_lenM (N := r12.1.length) (len_map _ _) rfl rfl isOwn Try.underlying50) rfl ⟨_, rfl, rfl⟩ rfl rfl ?_
                          refine op0 (sp_move rfl rfl) rfl ⟨_, rfl, rfl⟩ rfl rfl ?_
                          refine op0 (sp_move rfl rfl) rfl ⟨_, rfl, rfl⟩ rfl rfl ?_
                          obtain ⟨h32, h⟩ := chk_inv h
                          refine op0 (sp_sub rfl rfl rfl h32) rfl ⟨_, rfl, rfl⟩ rfl rfl ?_
                          refine op0 (sp_neq rfl rfl rfl) rfl ⟨_, rfl, rfl⟩ rfl rfl ?_
                          refine op0 (sp_pickT rfl rfl rfl) rfl ⟨_, rfl, rfl⟩ rfl rfl ?_
                          refine op0 (sp_pickF rfl rfl rfl) rfl trivial rfl rfl ?_
                          refine TL.nil ?_
                          refine TC.cond (b := ((r12.1.length : Int) != (((at_4 + (Int.tmod at_6 21)) + (Int.tmod at_7 20)) - at_4))) rfl (fun h33 => ?_) (fun h33 => ?_)
                          · have h := cond_t h h33
                            refine TC.seq ?_
                            refine TC.region ?_
                            refine op0 (sp_assign rfl rfl) rfl trivial rfl rfl ?_
                            refine TL.nil ?_
                            cases h
                            exact retJ [] (.tmp rfl .nil) rfl trivial rfl rfl
                          · have h := cond_f h h33
                            refine subJ [] (ok_law05_StrikeTimes_j0 h) ?_ ?_ ?_
                            · exact ⟨rfl, trivial⟩
                            · exact ⟨mem_at 0 rfl, trivial⟩
                            · rfl
                        · refine (boolLit 132 rfl h31).2 ?_
                          refine opSkip rfl ⟨_, rfl, .inl rfl⟩ rfl ?_
                          refine opSkip rfl ⟨_, rfl, .inl rfl⟩ rfl ?_
                          refine opSkip rfl ⟨_, rfl, .inl rfl⟩ rfl ?_
                          refine opSkip rfl ⟨_, rfl, .inl rfl⟩ rfl ?_
                          refine opSkip rfl ⟨_, rfl, .inl rfl⟩ rfl ?_
                          refine opSkip rfl ⟨_, rfl, .inl rfl⟩ rfl ?_
                          refine op0 (sp_pickF rfl rfl rfl) rfl ⟨_, rfl, rfl⟩ rfl rfl ?_
                          refine op0 (sp_pickF rfl rfl rfl) rfl trivial rfl rfl ?_
                          refine TL.nil ?_
                          refine TC.condF rfl ?_
                          refine subJ [] (ok_law05_StrikeTimes_j0 h) ?_ ?_ ?_
                          · exact ⟨rfl, trivial⟩
                          · exact ⟨mem_at 0 rfl, trivial⟩
                          · rfl
            · refine (boolLit 104 rfl h24).2 ?_
              refine opSkip rfl ⟨_, rfl, .inl rfl⟩ rfl ?_
              refine opSkip rfl ⟨_, rfl, .inl rfl⟩ rfl ?_
              refine opSkip rfl ⟨_, rfl, .inl rfl⟩ rfl ?_
              refine opSkip rfl ⟨_, rfl, .inr rfl⟩ rfl ?_
              refine opSkip rfl ⟨_, rfl, .inr rfl⟩ rfl ?_
              refine opSkip rfl ⟨_, rfl, .inl rfl⟩ rfl ?_
              refine op0 (sp_pickF rfl rfl rfl) rfl ⟨_, rfl, rfl⟩ rfl rfl ?_
              refine op0 (sp_pickF rfl rfl rfl) rfl trivial rfl rfl ?_
              refine op0 (sp_move rfl rfl) rfl trivial rfl rfl ?_
              refine op0 (sp_move rfl rfl) rfl ⟨_, rfl, rfl⟩ rfl rfl ?_
              refine op0 (sp_neq rfl rfl rfl) rfl ⟨_, rfl, rfl⟩ rfl rfl ?_
              refine op0 (sp_pickF rfl rfl rfl) rfl trivial rfl rfl ?_
              refine op0 (sp_move rfl rfl) rfl trivial rfl rfl ?_
              rcases cond_cases h with ⟨h40, h⟩ | ⟨h40, h⟩
              · refine (boolLit 117 rfl h40).2 ?_
                refine opSkip rfl ⟨_, rfl, .inl rfl⟩ rfl ?_
                refine opSkip rfl ⟨_, rfl, .inl rfl⟩ rfl ?_
                refine op0 (sp_pickT rfl rfl rfl) rfl trivial rfl rfl ?_
                refine op0 (sp_move rfl rfl) rfl trivial rfl rfl ?_
                refine opSkip rfl ⟨_, rfl, .inl rfl⟩ rfl ?_
                refine opSkip rfl ⟨_, rfl, .inl rfl⟩ rfl ?_
                refine opSkip rfl ⟨_, rfl, .inl rfl⟩ rfl ?_
                refine opSkip rfl ⟨_, rfl, .inl rfl⟩ rfl ?_
                refine opSkip rfl ⟨_, rfl, .inl rfl⟩ rfl ?_
                refine opSkip rfl ⟨_, rfl, .inl rfl⟩ rfl ?_
                refine op0 (sp_pickT rfl rfl rfl) rfl trivial rfl rfl ?_
                refine op0 (sp_move rfl rfl) rfl trivial rfl rfl ?_
                refine opSkip rfl ⟨_, rfl, .inl rfl⟩ rfl ?_
                refine opSkip rfl ⟨_, rfl, .inl rfl⟩ rfl ?_
                refine opSkip rfl ⟨_, rfl, .inl rfl⟩ rfl ?_
                refine opSkip rfl ⟨_, rfl, .inr rfl⟩ rfl ?_
                refine opSkip rfl ⟨_, rfl, .inr rfl⟩ rfl ?_
                refine opSkip rfl ⟨_, rfl, .inr rfl⟩ rfl ?_
                refine opSkip rfl ⟨_, rfl, .inr rfl⟩ rfl ?_
                refine opSkip rfl ⟨_, rfl, .inr rfl⟩ rfl ?_
                refine opSkip rfl ⟨_, rfl, .inr rfl⟩ rfl ?_
                refine opSkip rfl ⟨_, rfl, .inl rfl⟩ rfl ?_
                refine op0 (sp_pickT rfl rfl rfl) rfl trivial rfl rfl ?_
                refine TL.nil ?_
                refine TC.condT rfl ?_
                refine TC.seq ?_
                refine TC.region ?_
                refine op0 (sp_assign rfl rfl) rfl trivial rfl rfl ?_
                refine TL.nil ?_
                cases h
                exact retJ [] (.tmp rfl .nil) rfl trivial rfl rfl
              · refine (boolLit 117 rfl h40).2 ?_
                refine op0 (sp_move rfl rfl) rfl ⟨_, rfl, rfl⟩ rfl rfl ?_
                refine op0 (sp_neq rfl rfl rfl) rfl ⟨_, rfl, rfl⟩ rfl rfl ?_
                refine op0 (sp_pickF rfl rfl rfl) rfl trivial rfl rfl ?_
                refine op0 (sp_move rfl rfl) rfl trivial rfl rfl ?_
                rcases cond_cases h with ⟨h41, h⟩ | ⟨h41, h⟩
                · refine (boolLit 121 rfl h41).2 ?_
                  refine opSkip rfl ⟨_, rfl, .inl rfl⟩ rfl ?_
                  refine opSkip rfl ⟨_, rfl, .inl rfl⟩ rfl ?_
                  refine opSkip rfl ⟨_, rfl, .inl rfl⟩ rfl ?_
                  refine opSkip rfl ⟨_, rfl, .inl rfl⟩ rfl ?_
                  refine opSkip rfl ⟨_, rfl, .inl rfl⟩ rfl ?_
                  refine opSkip rfl ⟨_, rfl, .inl rfl⟩ rfl ?_
                  refine op0 (sp_pickT rfl rfl rfl) rfl trivial rfl rfl ?_
                  refine op0 (sp_move rfl rfl) rfl trivial rfl rfl ?_
                  refine opSkip rfl ⟨_, rfl, .inl rfl⟩ rfl ?_
                  refine opSkip rfl ⟨_, rfl, .inl rfl⟩ rfl ?_
                  refine opSkip rfl ⟨_, rfl, .inl rfl⟩ rfl ?_
                  refine opSkip rfl ⟨_, rfl, .inr rfl⟩ rfl ?_
                  refine opSkip rfl ⟨_, rfl, .inr rfl⟩ rfl ?_
                  refine opSkip rfl ⟨_, rfl, .inr rfl⟩ rfl ?_
                  refine opSkip rfl ⟨_, rfl, .inr rfl⟩ rfl ?_
                  refine opSkip rfl ⟨_, rfl, .inr rfl⟩ rfl ?_
                  refine opSkip rfl ⟨_, rfl, .inr rfl⟩ rfl ?_
                  refine opSkip rfl ⟨_, rfl, .inl rfl⟩ rfl ?_
                  refine op0 (sp_pickT rfl rfl rfl) rfl trivial rfl rfl ?_
                  refine TL.nil ?_
                  refine TC.condT rfl ?_
                  refine TC.seq ?_
                  refine TC.region ?_
                  refine op0 (sp_assign rfl rfl) rfl trivial rfl rfl ?_
                  refine TL.nil ?_
                  cases h
                  exact retJ [] (.tmp rfl .nil) rfl trivial rfl rfl
                · refine (boolLit 121 rfl h41).2 ?_
                  refine op0 (sp_move rfl rfl) rfl ⟨_, rfl, rfl⟩ rfl rfl ?_
                  refine op1 0 rfl (sp_lenM (N := r14.1.length) (len_map _ _) rfl rfl isOwn Try.underlying50) rfl ⟨_, rfl, rfl⟩ rfl rfl ?_
                  refine op0 (sp_move rfl rfl) rfl ⟨_, rfl, rfl⟩ rfl rfl ?_
                  refine op0 (sp_move rfl rfl) rfl ⟨_, rfl, rfl⟩ rfl rfl ?_
                  obtain ⟨h42, h⟩ := chk_inv h
                  refine op0 (sp_sub rfl rfl rfl h42) rfl ⟨_, rfl, rfl⟩ rfl rfl ?_
                  refine op0 (sp_neq rfl rfl rfl) rfl ⟨_, rfl, rfl⟩ rfl rfl ?_
                  refine op0 (sp_pickF rfl rfl rfl) rfl trivial rfl rfl ?_
                  refine op0 (sp_move rfl rfl) rfl trivial rfl rfl ?_
                  rcases cond_cases h with ⟨h43, h⟩ | ⟨h43, h⟩
                  · refine (boolLit 129 rfl h43).2 ?_
                    refine opSkip rfl ⟨_, rfl, .inl rfl⟩ rfl ?_
                    refine opSkip rfl ⟨_, rfl, .inl rfl⟩ rfl ?_
                    refine opSkip rfl ⟨_, rfl, .inl rfl⟩ rfl ?_
                    refine opSkip rfl ⟨_, rfl, .inr rfl⟩ rfl ?_
                    refine opSkip rfl ⟨_, rfl, .inr rfl⟩ rfl ?_
                    refine opSkip rfl ⟨_, rfl, .inr rfl⟩ rfl ?_
                    refine opSkip rfl ⟨_, rfl, .inr rfl⟩ rfl ?_
                    refine opSkip rfl ⟨_, rfl, .inr rfl⟩ rfl ?_
                    refine opSkip rfl ⟨_, rfl, .inr rfl⟩ rfl ?_
                    refine opSkip rfl ⟨_, rfl, .inl rfl⟩ rfl ?_
                    refine op0 (sp_pickT rfl rfl rfl) rfl trivial rfl rfl ?_
                    refine TL.nil ?_
                    refine TC.condT rfl ?_
                    refine TC.seq ?_
                    refine TC.region ?_
                    refine op0 (sp_assign rfl rfl) rfl trivial rfl rfl ?_
                    refine TL.nil ?_
                    cases h
                    exact retJ [] (.tmp rfl .nil) rfl trivial rfl rfl
                  · refine (boolLit 129 rfl h43).2 ?_
                    refine op0 (sp_move rfl rfl) rfl ⟨_, rfl, rfl⟩ rfl rfl ?_
                    refine op0 (sp_eql rfl rfl rfl) rfl ⟨_, rfl, rfl⟩ rfl rfl ?_
                    refine op0 (sp_move rfl rfl) rfl ⟨_, rfl, rfl⟩ rfl rfl ?_
                    rcases cond_cases h with ⟨h44, h⟩ | ⟨h44, h⟩
                    · refine (boolLit 132 rfl h44).2 ?_
                      refine op0 (sp_move rfl rfl) rfl ⟨_, rfl, rfl⟩ rfl rfl ?_
                      refine op1 2 rfl (sp_lenM (N := r12.1.length) (len_map _ _) rfl rfl isOwn Try.underlying50) rfl ⟨_, rfl, rfl⟩ rfl rfl ?_
                      refine op0 (sp_move rfl rfl) rfl ⟨_, rfl, rfl⟩ rfl rfl ?_
                      refine op0 (sp_move rfl rfl) rfl ⟨_, rfl, rfl⟩ rfl rfl ?_
                      obtain ⟨h45, h⟩ := chk_inv h
                      refine op0 (sp_sub rfl rfl rfl h45) rfl ⟨_, rfl, rfl⟩ rfl rfl ?_
                      refine op0 (sp_neq rfl rfl rfl) rfl ⟨_, rfl, rfl⟩ rfl rfl ?_
                      refine op0 (sp_pickT rfl rfl rfl) rfl ⟨_, rfl, rfl⟩ rfl rfl ?_
                      refine op0 (sp_pickF rfl rfl rfl) rfl trivial rfl rfl ?_
                      refine TL.nil ?_
                      refine TC.cond (b := ((r12.1.length : Int) != (((at_4 + (Int.tmod at_6 21)) + (Int.tmod at_7 20)) - at_4))) rfl (fun h46 => ?_) (fun h46 => ?_)
                      · have h := cond_t h h46
                        refine TC.seq ?_
                        refine TC.region ?_
                        refine op0 (sp_assign rfl rfl) rfl trivial rfl rfl ?_
                        refine TL.nil ?_
                        cases h
                        exact retJ [] (.tmp rfl .nil) rfl trivial rfl rfl
                      · have h := cond_f h h46
                        refine subJ [] (ok_law05_StrikeTimes_j0 h) ?_ ?_ ?_
                        · exact ⟨rfl, trivial⟩
                        · exact ⟨mem_at 0 rfl, trivial⟩
                        · rfl
                    · refine (boolLit 132 rfl h44).2 ?_
                      refine opSkip rfl ⟨_, rfl, .inl rfl⟩ rfl ?_
                      refine opSkip rfl ⟨_, rfl, .inl rfl⟩ rfl ?_
                      refine opSkip rfl ⟨_, rfl, .inl rfl⟩ rfl ?_
                      refine opSkip rfl ⟨_, rfl, .inl rfl⟩ rfl ?_
                      refine opSkip rfl ⟨_, rfl, .inl rfl⟩ rfl ?_
                      refine opSkip rfl ⟨_, rfl, .inl rfl⟩ rfl ?_
                      refine op0 (sp_pickF rfl rfl rfl) rfl ⟨_, rfl, rfl⟩ rfl rfl ?_
                      refine op0 (sp_pickF rfl rfl rfl) rfl trivial rfl rfl ?_
                      refine TL.nil ?_
                      refine TC.condF rfl ?_
                      refine subJ [] (ok_law05_StrikeTimes_j0 h) ?_ ?_ ?_
                      · exact ⟨rfl, trivial⟩
                      · exact ⟨mem_at 0 rfl, trivial⟩
                      · rfl
        · refine (boolLit 93 rfl h21).2 ?_
          refine opSkip rfl ⟨_, rfl, .inl rfl⟩ rfl ?_
          refine opSkip rfl ⟨_, rfl, .inl rfl⟩ rfl ?_
          refine op0 (sp_pickF rfl rfl rfl) rfl ⟨_, rfl, rfl⟩ rfl rfl ?_
          refine op0 (sp_pickF rfl rfl rfl) rfl trivial rfl rfl ?_
          refine op0 (sp_move rfl rfl) rfl trivial rfl rfl ?_
          refine op0 (sp_move rfl rfl) rfl ⟨_, rfl, rfl⟩ rfl rfl ?_
          refine op0 (sp_move rfl rfl) rfl ⟨_, rfl, rfl⟩ rfl rfl ?_
          obtain ⟨h47, h⟩ := chk_inv h
          refine op0 (sp_sub rfl rfl rfl h47) rfl ⟨_, rfl, rfl⟩ rfl rfl ?_
          refine op0 (sp_move rfl rfl) rfl ⟨_, rfl, rfl⟩ rfl rfl ?_
          refine op0 (sp_geq rfl rfl rfl) rfl ⟨_, rfl, rfl⟩ rfl rfl ?_
          refine op0 (sp_move rfl rfl) rfl ⟨_, rfl, rfl⟩ rfl rfl ?_
          rcases cond_cases h with ⟨h48, h⟩ | ⟨h48, h⟩
          · refine (boolLit 104 rfl h48).2 ?_
            refine op0 (sp_move rfl rfl) rfl ⟨_, rfl, rfl⟩ rfl rfl ?_
            refine op0 (sp_neq rfl rfl rfl) rfl ⟨_, rfl, rfl⟩ rfl rfl ?_
            refine op0 (sp_move rfl rfl) rfl ⟨_, rfl, rfl⟩ rfl rfl ?_
            rcases cond_cases h with ⟨h49, h⟩ | ⟨h49, h⟩
            · refine (boolLit 107 rfl h49).2 ?_
              refine opSkip rfl ⟨_, rfl, .inl rfl⟩ rfl ?_
              refine opSkip rfl ⟨_, rfl, .inl rfl⟩ rfl ?_
              refine op0 (sp_pickT rfl rfl rfl) rfl ⟨_, rfl, rfl⟩ rfl rfl ?_
              refine op0 (sp_pickT rfl rfl rfl) rfl ⟨_, rfl, rfl⟩ rfl rfl ?_
              refine op0 (sp_pickF rfl rfl rfl) rfl trivial rfl rfl ?_
              refine op0 (sp_move rfl rfl) rfl trivial rfl rfl ?_
              refine opSkip rfl ⟨_, rfl, .inl rfl⟩ rfl ?_
              refine opSkip rfl ⟨_, rfl, .inl rfl⟩ rfl ?_
              refine op0 (sp_pickT rfl rfl rfl) rfl trivial rfl rfl ?_
              refine op0 (sp_move rfl rfl) rfl trivial rfl rfl ?_
              refine opSkip rfl ⟨_, rfl, .inl rfl⟩ rfl ?_
              refine opSkip rfl ⟨_, rfl, .inl rfl⟩ rfl ?_
              refine op0 (sp_pickT rfl rfl rfl) rfl trivial rfl rfl ?_
              refine op0 (sp_move rfl rfl) rfl trivial rfl rfl ?_
              refine opSkip rfl ⟨_, rfl, .inl rfl⟩ rfl ?_
              refine opSkip rfl ⟨_, rfl, .inl rfl⟩ rfl ?_
              refine opSkip rfl ⟨_, rfl, .inl rfl⟩ rfl ?_
              refine opSkip rfl ⟨_, rfl, .inl rfl⟩ rfl ?_
              refine opSkip rfl ⟨_, rfl, .inl rfl⟩ rfl ?_
              refine opSkip rfl ⟨_, rfl, .inl rfl⟩ rfl ?_
              refine op0 (sp_pickT rfl rfl rfl) rfl trivial rfl rfl ?_
              refine op0 (sp_move rfl rfl) rfl trivial rfl rfl ?_
              refine opSkip rfl ⟨_, rfl, .inl rfl⟩ rfl ?_
              refine opSkip rfl ⟨_, rfl, .inl rfl⟩ rfl ?_
              refine opSkip rfl ⟨_, rfl, .inl rfl⟩ rfl ?_
              refine opSkip rfl ⟨_, rfl, .inr rfl⟩ rfl ?_
              refine opSkip rfl ⟨_, rfl, .inr rfl⟩ rfl ?_
              refine opSkip rfl ⟨_, rfl, .inr rfl⟩ rfl ?_
              refine opSkip rfl ⟨_, rfl, .inr rfl⟩ rfl ?_
              refine opSkip rfl ⟨_, rfl, .inr rfl⟩ rfl ?_
              refine opSkip rfl ⟨_, rfl, .inr rfl⟩ rfl ?_
              refine opSkip rfl ⟨_, rfl, .inl rfl⟩ rfl ?_
              refine op0 (sp_pickT rfl rfl rfl) rfl trivial rfl rfl ?_
              refine TL.nil ?_
              refine TC.condT rfl ?_
              refine TC.seq ?_
              refine TC.region ?_
              refine op0 (sp_assign rfl rfl) rfl trivial rfl rfl ?_
              refine TL.nil ?_
              cases h
              exact retJ [] (.tmp rfl .nil) rfl trivial rfl rfl
            · refine (boolLit 107 rfl h49).2 ?_
              refine op0 (sp_move rfl rfl) rfl ⟨_, rfl, rfl⟩ rfl rfl ?_
              refine op0 (sp_neq rfl rfl rfl) rfl ⟨_, rfl, rfl⟩ rfl rfl ?_
              refine op0 (sp_pickF rfl rfl rfl) rfl ⟨_, rfl, rfl⟩ rfl rfl ?_
              refine op0 (sp_pickT rfl rfl rfl) rfl ⟨_, rfl, rfl⟩ rfl rfl ?_
              refine op0 (sp_pickF rfl rfl rfl) rfl trivial rfl rfl ?_
              refine op0 (sp_move rfl rfl) rfl trivial rfl rfl ?_
              rcases cond_cases h with ⟨h50, h⟩ | ⟨h50, h⟩
              · refine (boolLit 113 rfl h50).2 ?_
                refine opSkip rfl ⟨_, rfl, .inl rfl⟩ rfl ?_
                refine opSkip rfl ⟨_, rfl, .inl rfl⟩ rfl ?_
                refine op0 (sp_pickT rfl rfl rfl) rfl trivial rfl rfl ?_
                refine op0 (sp_move rfl rfl) rfl trivial rfl rfl ?_
                refine opSkip rfl ⟨_, rfl, .inl rfl⟩ rfl ?_
                refine opSkip rfl ⟨_, rfl, .inl rfl⟩ rfl ?_
                refine op0 (sp_pickT rfl rfl rfl) rfl trivial rfl rfl ?_
                refine op0 (sp_move rfl rfl) rfl trivial rfl rfl ?_
                refine opSkip rfl ⟨_, rfl, .inl rfl⟩ rfl ?_
                refine opSkip rfl ⟨_, rfl, .inl rfl⟩ rfl ?_
                refine opSkip rfl ⟨_, rfl, .inl rfl⟩ rfl ?_
                refine opSkip rfl ⟨_, rfl, .inl rfl⟩ rfl ?_
                refine opSkip rfl ⟨_, rfl, .inl rfl⟩ rfl ?_
                refine opSkip rfl ⟨_, rfl, .inl rfl⟩ rfl ?_
                refine op0 (sp_pickT rfl rfl rfl) rfl trivial rfl rfl ?_
                refine op0 (sp_move rfl rfl) rfl trivial rfl rfl ?_
                refine opSkip rfl ⟨_, rfl, .inl rfl⟩ rfl ?_
                refine opSkip rfl ⟨_, rfl, .inl rfl⟩ rfl ?_
                refine opSkip rfl ⟨_, rfl, .inl rfl⟩ rfl ?_
                refine opSkip rfl ⟨_, rfl, .inr rfl⟩ rfl ?_
                refine opSkip rfl ⟨_, rfl, .inr rfl⟩ rfl ?_
                refine opSkip rfl ⟨_, rfl, .inr rfl⟩ rfl ?_
                refine opSkip rfl ⟨_, rfl, .inr rfl⟩ rfl ?_
                refine opSkip rfl ⟨_, rfl, .inr rfl⟩ rfl ?_
                refine opSkip rfl ⟨_, rfl, .inr rfl⟩ rfl ?_
                refine opSkip rfl ⟨_, rfl, .inl rfl⟩ rfl ?_
                refine op0 (sp_pickT rfl rfl rfl) rfl trivial rfl rfl ?_
                refine TL.nil ?_
                refine TC.condT rfl ?_
                refine TC.seq ?_
                refine TC.region ?_
                refine op0 (sp_assign rfl rfl) rfl trivial rfl rfl ?_
                refine TL.nil ?_
                cases h
                exact retJ [] (.tmp rfl .nil) rfl trivial rfl rfl
              · refine (boolLit 113 rfl h50).2 ?_
                refine op0 (sp_move rfl rfl) rfl ⟨_, rfl, rfl⟩ rfl rfl ?_
                refine op0 (sp_neq rfl rfl rfl) rfl ⟨_, rfl, rfl⟩ rfl rfl ?_
                refine op0 (sp_pickF rfl rfl rfl) rfl trivial rfl rfl ?_
                refine op0 (sp_move rfl rfl) rfl trivial rfl rfl ?_
                rcases cond_cases h with ⟨h51, h⟩ | ⟨h51, h⟩
                · refine (boolLit 117 rfl h51).2 ?_
                  refine opSkip rfl ⟨_, rfl, .inl rfl⟩ rfl ?_
                  refine opSkip rfl ⟨_, rfl, .inl rfl⟩ rfl ?_
                  refine op0 (sp_pickT rfl rfl rfl) rfl trivial rfl rfl ?_
                  refine op0 (sp_move rfl rfl) rfl trivial rfl rfl ?_
                  refine opSkip rfl ⟨_, rfl, .inl rfl⟩ rfl ?_
                  refine opSkip rfl ⟨_, rfl, .inl rfl⟩ rfl ?_
                  refine opSkip rfl ⟨_, rfl, .inl rfl⟩ rfl ?_
                  refine opSkip rfl ⟨_, rfl, .inl rfl⟩ rfl ?_
                  refine opSkip rfl ⟨_, rfl, .inl rfl⟩ rfl ?_
                  refine opSkip rfl ⟨_, rfl, .inl rfl⟩ rfl ?_
                  refine op0 (sp_pickT rfl rfl rfl) rfl trivial rfl rfl ?_
                  refine op0 (sp_move rfl rfl) rfl trivial rfl rfl ?_
                  refine opSkip rfl ⟨_, rfl, .inl rfl⟩ rfl ?_
                  refine opSkip rfl ⟨_, rfl, .inl rfl⟩ rfl ?_
                  refine opSkip rfl ⟨_, rfl, .inl rfl⟩ rfl ?_
                  refine opSkip rfl ⟨_, rfl, .inr rfl⟩ rfl ?_
                  refine opSkip rfl ⟨_, rfl, .inr rfl⟩ rfl ?_
                  refine opSkip rfl ⟨_, rfl, .inr rfl⟩ rfl ?_
                  refine opSkip rfl ⟨_, rfl, .inr rfl⟩ rfl ?_
                  refine opSkip rfl ⟨_, rfl, .inr rfl⟩ rfl ?_
                  refine opSkip rfl ⟨_, rfl, .inr rfl⟩ rfl ?_
                  refine opSkip rfl ⟨_, rfl, .inl rfl⟩ rfl ?_
                  refine op0 (sp_pickT rfl rfl rfl) rfl trivial rfl rfl ?_
                  refine TL.nil ?_
                  refine TC.condT rfl ?_
                  refine TC.seq ?_
                  refine TC.region ?_
                  refine op0 (sp_assign rfl rfl) rfl trivial rfl rfl ?_
                  refine TL.nil ?_
                  cases h
                  exact retJ [] (.tmp rfl .nil) rfl trivial rfl rfl
                · refine (boolLit 117 rfl h51).2 ?_
                  refine op0 (sp_move rfl rfl) rfl ⟨_, rfl, rfl⟩ rfl rfl ?_
                  refine op0 (sp_neq rfl rfl rfl) rfl ⟨_, rfl, rfl⟩ rfl rfl ?_
                  refine op0 (sp_pickF rfl rfl rfl) rfl trivial rfl rfl ?_
                  refine op0 (sp_move rfl rfl) rfl trivial rfl rfl ?_
                  rcases cond_cases h with ⟨h52, h⟩ | ⟨h52, h⟩
                  · refine (boolLit 121 rfl h52).2 ?_
                    refine opSkip rfl ⟨_, rfl, .inl rfl⟩ rfl ?_
                    refine opSkip rfl ⟨_, rfl, .inl rfl⟩ rfl ?_
                    refine opSkip rfl ⟨_, rfl, .inl rfl⟩ rfl ?_
                    refine opSkip rfl ⟨_, rfl, .inl rfl⟩ rfl ?_
                    refine opSkip rfl ⟨_, rfl, .inl rfl⟩ rfl ?_
                    refine opSkip rfl ⟨_, rfl, .inl rfl⟩ rfl ?_
                    refine op0 (sp_pickT rfl rfl rfl) rfl trivial rfl rfl ?_
                    refine op0 (sp_move rfl rfl) rfl trivial rfl rfl ?_
                    refine opSkip rfl ⟨_, rfl, .inl rfl⟩ rfl ?_
                    refine opSkip rfl ⟨_, rfl, .inl rfl⟩ rfl ?_
                    refine opSkip rfl ⟨_, rfl, .inl rfl⟩ rfl ?_
                    refine opSkip rfl ⟨_, rfl, .inr rfl⟩ rfl ?_
                    refine opSkip rfl ⟨_, rfl, .inr rfl⟩ rfl ?_
                    refine opSkip rfl ⟨_, rfl, .inr rfl⟩ rfl ?_
                    refine opSkip rfl ⟨_, rfl, .inr rfl⟩ rfl ?_
                    refine opSkip rfl ⟨_, rfl, .inr rfl⟩ rfl ?_
                    refine opSkip rfl ⟨_, rfl, .inr rfl⟩ rfl ?_
                    refine opSkip rfl ⟨_, rfl, .inl rfl⟩ rfl ?_
                    refine op0 (sp_pickT rfl rfl rfl) rfl trivial rfl rfl ?_
                    refine TL.nil ?_
                    refine TC.condT rfl ?_
                    refine TC.seq ?_
                    refine TC.region ?_
                    refine op0 (sp_assign rfl rfl) rfl trivial rfl rfl ?_
                    refine TL.nil ?_
                    cases h
                    exact retJ [] (.tmp rfl .nil) rfl trivial rfl rfl
                  · refine (boolLit 121 rfl h52).2 ?_
                    refine op0 (sp_move rfl rfl) rfl ⟨_, rfl, rfl⟩ rfl rfl ?_
                    refine op1 0 rfl (sp_lenM (N := r14.1.length) (len_map _ _) rfl rfl isOwn Try.underlying50) rfl ⟨_, rfl, rfl⟩ rfl rfl ?_
                    refine op0 (sp_move rfl rfl) rfl ⟨_, rfl, rfl⟩ rfl rfl ?_
                    refine op0 (sp_move rfl rfl) rfl ⟨_, rfl, rfl⟩ rfl rfl ?_
                    obtain ⟨h53, h⟩ := chk_inv h
                    refine op0 (sp_sub rfl rfl rfl h53) rfl ⟨_, rfl, rfl⟩ rfl rfl ?_
                    refine op0 (sp_neq rfl rfl rfl) rfl ⟨_, rfl, rfl⟩ rfl rfl ?_
                    refine op0 (sp_pickF rfl rfl rfl) rfl trivial rfl rfl ?_
                    refine op0 (sp_move rfl rfl) rfl trivial rfl rfl ?_
                    rcases cond_cases h with ⟨h54, h⟩ | ⟨h54, h⟩
                    · refine (boolLit 129 rfl h54).2 ?_
                      refine opSkip rfl ⟨_, rfl, .inl rfl⟩ rfl ?_
                      refine opSkip rfl ⟨_, rfl, .inl rfl⟩ rfl ?_
                      refine opSkip rfl ⟨_, rfl, .inl rfl⟩ rfl ?_
                      refine opSkip rfl ⟨_, rfl, .inr rfl⟩ rfl ?_
                      refine opSkip rfl ⟨_, rfl, .inr rfl⟩ rfl ?_
                      refine opSkip rfl ⟨_, rfl, .inr rfl⟩ rfl ?_
                      refine opSkip rfl ⟨_, rfl, .inr rfl⟩ rfl ?_
                      refine opSkip rfl ⟨_, rfl, .inr rfl⟩ rfl ?_
                      refine opSkip rfl ⟨_, rfl, .inr rfl⟩ rfl ?_
                      refine opSkip rfl ⟨_, rfl, .inl rfl⟩ rfl ?_
                      refine op0 (sp_pickT rfl rfl rfl) rfl trivial rfl rfl ?_
                      refine TL.nil ?_
                      refine TC.condT rfl ?_
                      refine TC.seq ?_
                      refine TC.region ?_
                      refine op0 (sp_assign rfl rfl) rfl trivial rfl rfl ?_
                      refine TL.nil ?_
                      cases h
                      exact retJ [] (.tmp rfl .nil) rfl trivial rfl rfl
                    · refine (boolLit 129 rfl h54).2 ?_
                      refine op0 (sp_move rfl rfl) rfl ⟨_, rfl, rfl⟩ rfl rfl ?_
                      refine op0 (sp_eql rfl rfl rfl) rfl ⟨_, rfl, rfl⟩ rfl rfl ?_
                      refine op0 (sp_move rfl rfl) rfl ⟨_, rfl, rfl⟩ rfl rfl ?_
                      rcases cond_cases h with ⟨h55, h⟩ | ⟨h55, h⟩
                      · refine (boolLit 132 rfl h55).2 ?_
                        refine op0 (sp_move rfl rfl) rfl ⟨_, rfl, rfl⟩ rfl rfl ?_
                        refine op1 2 rfl (sp_lenM (N := r12.1.length) (len_map _ _) rfl rfl isOwn Try.underlying50) rfl ⟨_, rfl, rfl⟩ rfl rfl ?_
                        refine op0 (sp_move rfl rfl) rfl ⟨_, rfl, rfl⟩ rfl rfl ?_
                        refine op0 (sp_move rfl rfl) rfl ⟨_, rfl, rfl⟩ rfl rfl ?_
                        obtain ⟨h56, h⟩ := chk_inv h
                        refine op0 (sp_sub rfl rfl rfl h56) rfl ⟨_, rfl, rfl⟩ rfl rfl ?_
                        refine op0 (sp_neq rfl rfl rfl) rfl ⟨_, rfl, rfl⟩ rfl rfl ?_
                        refine op0 (sp_pickT rfl rfl rfl) rfl ⟨_, rfl, rfl⟩ rfl rfl ?_
                        refine op0 (sp_pickF rfl rfl rfl) rfl trivial rfl rfl ?_
                        refine TL.nil ?_
                        refine TC.cond (b := ((r12.1.length : Int) != (((at_4 + (Int.tmod at_6 21)) + (Int.tmod at_7 20)) - at_4))) rfl (fun h57 => ?_) (fun h57 => ?_)
                        · have h := cond_t h h57
                          refine TC.seq ?_
                          refine TC.region ?_
                          refine op0 (sp_assign rfl rfl) rfl trivial rfl rfl ?_
                          refine TL.nil ?_
                          cases h
                          exact retJ [] (.tmp rfl .nil) rfl trivial rfl rfl
                        · have h := cond_f h h57
                          refine subJ [] (ok_law05_StrikeTimes_j0 h) ?_ ?_ ?_
                          · exact ⟨rfl, trivial⟩
                          · exact ⟨mem_at 0 rfl, trivial⟩
                          · rfl
                      · refine (boolLit 132 rfl h55).2 ?_
                        refine opSkip rfl ⟨_, rfl, .inl rfl⟩ rfl ?_
                        refine opSkip rfl ⟨_, rfl, .inl rfl⟩ rfl ?_
                        refine opSkip rfl ⟨_, rfl, .inl rfl⟩ rfl ?_
                        refine opSkip rfl ⟨_, rfl, .inl rfl⟩ rfl ?_
                        refine opSkip rfl ⟨_, rfl, .inl rfl⟩ rfl ?_
                        refine opSkip rfl ⟨_, rfl, .inl rfl⟩ rfl ?_
                        refine op0 (sp_pickF rfl rfl rfl) rfl ⟨_, rfl, rfl⟩ rfl rfl ?_
                        refine op0 (sp_pickF rfl rfl rfl) rfl trivial rfl rfl ?_
                        refine TL.nil ?_
                        refine TC.condF rfl ?_
                        refine subJ [] (ok_law05_StrikeTimes_j0 h) ?_ ?_ ?_
                        · exact ⟨rfl, trivial⟩
                        · exact ⟨mem_at 0 rfl, trivial⟩
                        · rfl
          · refine (boolLit 104 rfl h48).2 ?_
            refine opSkip rfl ⟨_, rfl, .inl rfl⟩ rfl ?_
            refine opSkip rfl ⟨_, rfl, .inl rfl⟩ rfl ?_
            refine opSkip rfl ⟨_, rfl, .inl rfl⟩ rfl ?_
            refine opSkip rfl ⟨_, rfl, .inr rfl⟩ rfl ?_
            refine opSkip rfl ⟨_, rfl, .inr rfl⟩ rfl ?_
            refine opSkip rfl ⟨_, rfl, .inl rfl⟩ rfl ?_
            refine op0 (sp_pickF rfl rfl rfl) rfl ⟨_, rfl, rfl⟩ rfl rfl ?_
            refine op0 (sp_pickF rfl rfl rfl) rfl trivial rfl rfl ?_
            refine op0 (sp_move rfl rfl) rfl trivial rfl rfl ?_
            refine op0 (sp_move rfl rfl) rfl ⟨_, rfl, rfl⟩ rfl rfl ?_
            refine op0 (sp_neq rfl rfl rfl) rfl ⟨_, rfl, rfl⟩ rfl rfl ?_
            refine op0 (sp_pickF rfl rfl rfl) rfl trivial rfl rfl ?_
            refine op0 (sp_move rfl rfl) rfl trivial rfl rfl ?_
            rcases cond_cases h with ⟨h58, h⟩ | ⟨h58, h⟩
            · refine (boolLit 117 rfl h58).2 ?_
              refine opSkip rfl ⟨_, rfl, .inl rfl⟩ rfl ?_
              refine opSkip rfl ⟨_, rfl, .inl rfl⟩ rfl ?_
              refine op0 (sp_pickT rfl rfl rfl) rfl trivial rfl rfl ?_
              refine op0 (sp_move rfl rfl) rfl trivial rfl rfl ?_
              refine opSkip rfl ⟨_, rfl, .inl rfl⟩ rfl ?_
              refine opSkip rfl ⟨_, rfl, .inl rfl⟩ rfl ?_
              refine opSkip rfl ⟨_, rfl, .inl rfl⟩ rfl ?_
              refine opSkip rfl ⟨_, rfl, .inl rfl⟩ rfl ?_
              refine opSkip rfl ⟨_, rfl, .inl rfl⟩ rfl ?_
              refine opSkip rfl ⟨_, rfl, .inl rfl⟩ rfl ?_
              refine op0 (sp_pickT rfl rfl rfl) rfl trivial rfl rfl ?_
              refine op0 (sp_move rfl rfl) rfl trivial rfl rfl ?_
              refine opSkip rfl ⟨_, rfl, .inl rfl⟩ rfl ?_
              refine opSkip rfl ⟨_, rfl, .inl rfl⟩ rfl ?_
              refine opSkip rfl ⟨_, rfl, .inl rfl⟩ rfl ?_
              refine opSkip rfl ⟨_, rfl, .inr rfl⟩ rfl ?_
              refine opSkip rfl ⟨_, rfl, .inr rfl⟩ rfl ?_
              refine opSkip rfl ⟨_, rfl, .inr rfl⟩ rfl ?_
              refine opSkip rfl ⟨_, rfl, .inr rfl⟩ rfl ?_
              refine opSkip rfl ⟨_, rfl, .inr rfl⟩ rfl ?_
              refine opSkip rfl ⟨_, rfl, .inr rfl⟩ rfl ?_
              refine opSkip rfl ⟨_, rfl, .inl rfl⟩ rfl ?_
              refine op0 (sp_pickT rfl rfl rfl) rfl trivial rfl rfl ?_
              refine TL.nil ?_
              refine TC.condT rfl ?_
              refine TC.seq ?_
              refine TC.region ?_
              refine op0 (sp_assign rfl rfl) rfl trivial rfl rfl ?_
              refine TL.nil ?_
              cases h
              exact retJ [] (.tmp rfl .nil) rfl trivial rfl rfl
            · refine (boolLit 117 rfl h58).2 ?_
              refine op0 (sp_move rfl rfl) rfl ⟨_, rfl, rfl⟩ rfl rfl ?_
              refine op0 (sp_neq rfl rfl rfl) rfl ⟨_, rfl, rfl⟩ rfl rfl ?_
              refine op0 (sp_pickF rfl rfl rfl) rfl trivial rfl rfl ?_
              refine op0 (sp_move rfl rfl) rfl trivial rfl rfl ?_
              rcases cond_cases h with ⟨h59, h⟩ | ⟨h59, h⟩
              · refine (boolLit 121 rfl h59).2 ?_
                refine opSkip rfl ⟨_, rfl, .inl rfl⟩ rfl ?_
                refine opSkip rfl ⟨_, rfl, .inl rfl⟩ rfl ?_
                refine opSkip rfl ⟨_, rfl, .inl rfl⟩ rfl ?_
                refine opSkip rfl ⟨_, rfl, .inl rfl⟩ rfl ?_
                refine opSkip rfl ⟨_, rfl, .inl rfl⟩ rfl ?_
                refine opSkip rfl ⟨_, rfl, .inl rfl⟩ rfl ?_
                refine op0 (sp_pickT rfl rfl rfl) rfl trivial rfl rfl ?_
                refine op0 (sp_move rfl rfl) rfl trivial rfl rfl ?_
                refine opSkip rfl ⟨_, rfl, .inl rfl⟩ rfl ?_
                refine opSkip rfl ⟨_, rfl, .inl rfl⟩ rfl ?_
                refine opSkip rfl ⟨_, rfl, .inl rfl⟩ rfl ?_
                refine opSkip rfl ⟨_, rfl, .inr rfl⟩ rfl ?_
                refine opSkip rfl ⟨_, rfl, .inr rfl⟩ rfl ?_
                refine opSkip rfl ⟨_, rfl, .inr rfl⟩ rfl ?_
                refine opSkip rfl ⟨_, rfl, .inr rfl⟩ rfl ?_
                refine opSkip rfl ⟨_, rfl, .inr rfl⟩ rfl ?_
                refine opSkip rfl ⟨_, rfl, .inr rfl⟩ rfl ?_
                refine opSkip rfl ⟨_, rfl, .inl rfl⟩ rfl ?_
                refine op0 (sp_pickT rfl rfl rfl) rfl trivial rfl rfl ?_
                refine TL.nil ?_
                refine TC.condT rfl ?_
                refine TC.seq ?_
                refine TC.region ?_
                refine op0 (sp_assign rfl rfl) rfl trivial rfl rfl ?_
                refine TL.nil ?_
                cases h
                exact retJ [] (.tmp rfl .nil) rfl trivial rfl rfl
              · refine (boolLit 121 rfl h59).2 ?_
                refine op0 (sp_move rfl rfl) rfl ⟨_, rfl, rfl⟩ rfl rfl ?_
                refine op1 0 rfl (sp_lenM (N := r14.1.length) (len_map _ _) rfl rfl isOwn Try.underlying50) rfl ⟨_, rfl, rfl⟩ rfl rfl ?_
                refine op0 (sp_move rfl rfl) rfl ⟨_, rfl, rfl⟩ rfl rfl ?_
                refine op0 (sp_move rfl rfl) rfl ⟨_, rfl, rfl⟩ rfl rfl ?_
                obtain ⟨h60, h⟩ := chk_inv h
                refine op0 (sp_sub rfl rfl rfl h60) rfl ⟨_, rfl, rfl⟩ rfl rfl ?_
                refine op0 (sp_neq rfl rfl rfl) rfl ⟨_, rfl, rfl⟩ rfl rfl ?_
                refine op0 (sp_pickF rfl rfl rfl) rfl trivial rfl rfl ?_
                refine op0 (sp_move rfl rfl) rfl trivial rfl rfl ?_
                rcases cond_cases h with ⟨h61, h⟩ | ⟨h61, h⟩
                · refine (boolLit 129 rfl h61).2 ?_
                  refine opSkip rfl ⟨_, rfl, .inl rfl⟩ rfl ?_
                  refine opSkip rfl ⟨_, rfl, .inl rfl⟩ rfl ?_
                  refine opSkip rfl ⟨_, rfl, .inl rfl⟩ rfl ?_
                  refine opSkip rfl ⟨_, rfl, .inr rfl⟩ rfl ?_
                  refine opSkip rfl ⟨_, rfl, .inr rfl⟩ rfl ?_
                  refine opSkip rfl ⟨_, rfl, .inr rfl⟩ rfl ?_
                  refine opSkip rfl ⟨_, rfl, .inr rfl⟩ rfl ?_
                  refine opSkip rfl ⟨_, rfl, .inr rfl⟩ rfl ?_
                  refine opSkip rfl ⟨_, rfl, .inr rfl⟩ rfl ?_
                  refine opSkip rfl ⟨_, rfl, .inl rfl⟩ rfl ?_
                  refine op0 (sp_pickT rfl rfl rfl) rfl trivial rfl rfl ?_
                  refine TL.nil ?_
                  refine TC.condT rfl ?_
                  refine TC.seq ?_
                  refine TC.region ?_
                  refine op0 (sp_assign rfl rfl) rfl trivial rfl rfl ?_
                  refine TL.nil ?_
                  cases h
                  exact retJ [] (.tmp rfl .nil) rfl trivial rfl rfl
                · refine (boolLit 129 rfl h61).2 ?_
                  refine op0 (sp_move rfl rfl) rfl ⟨_, rfl, rfl⟩ rfl rfl ?_
                  refine op0 (sp_eql rfl rfl rfl) rfl ⟨_, rfl, rfl⟩ rfl rfl ?_
                  refine op0 (sp_move rfl rfl) rfl ⟨_, rfl, rfl⟩ rfl rfl ?_
                  rcases cond_cases h with ⟨h62, h⟩ | ⟨h62, h⟩
                  · refine (boolLit 132 rfl h62).2 ?_
                    refine op0 (sp_move rfl rfl) rfl ⟨_, rfl, rfl⟩ rfl rfl ?_
                    refine op1 2 rfl (sp_lenM (N := r12.1.length) (len_map _ _) rfl rfl isOwn Try.underlying50) rfl ⟨_, rfl, rfl⟩ rfl rfl ?_
                    refine op0 (sp_move rfl rfl) rfl ⟨_, rfl, rfl⟩ rfl rfl ?_
                    refine op0 (sp_move rfl rfl) rfl ⟨_, rfl, rfl⟩ rfl rfl ?_
                    obtain ⟨h63, h⟩ := chk_inv h
                    refine op0 (sp_sub rfl rfl rfl h63) rfl ⟨_, rfl, rfl⟩ rfl rfl ?_
                    refine op0 (sp_neq rfl rfl rfl) rfl ⟨_, rfl, rfl⟩ rfl rfl ?_
                    refine op0 (sp_pickT rfl rfl rfl) rfl ⟨_, rfl, rfl⟩ rfl rfl ?_
                    refine op0 (sp_pickF rfl rfl rfl) rfl trivial rfl rfl ?_
                    refine TL.nil ?_
                    refine TC.cond (b := ((r12.1.length : Int) != (((at_4 + (Int.tmod at_6 21)) + (Int.tmod at_7 20)) - at_4))) rfl (fun h64 => ?_) (fun h64 => ?_)
                    · have h := cond_t h h64
                      refine TC.seq ?_
                      refine TC.region ?_
                      refine op0 (sp_assign rfl rfl) rfl trivial rfl rfl ?_
                      refine TL.nil ?_
                      cases h
                      exact retJ [] (.tmp rfl .nil) rfl trivial rfl rfl
                    · have h := cond_f h h64
                      refine subJ [] (ok_law05_StrikeTimes_j0 h) ?_ ?_ ?_
                      · exact ⟨rfl, trivial⟩
                      · exact ⟨mem_at 0 rfl, trivial⟩
                      · rfl
                  · refine (boolLit 132 rfl h62).2 ?_
                    refine opSkip rfl ⟨_, rfl, .inl rfl⟩ rfl ?_
                    refine opSkip rfl ⟨_, rfl, .inl rfl⟩ rfl ?_
                    refine opSkip rfl ⟨_, rfl, .inl rfl⟩ rfl ?_
                    refine opSkip rfl ⟨_, rfl, .inl rfl⟩ rfl ?_
                    refine opSkip rfl ⟨_, rfl, .inl rfl⟩ rfl ?_
                    refine opSkip rfl ⟨_, rfl, .inl rfl⟩ rfl ?_
                    refine op0 (sp_pickF rfl rfl rfl) rfl ⟨_, rfl, rfl⟩ rfl rfl ?_
                    refine op0 (sp_pickF rfl rfl rfl) rfl trivial rfl rfl ?_
                    refine TL.nil ?_
                    refine TC.condF rfl ?_
                    refine subJ [] (ok_law05_StrikeTimes_j0 h) ?_ ?_ ?_
                    · exact ⟨rfl, trivial⟩
                    · exact ⟨mem_at 0 rfl, trivial⟩
                    · rfl
  · refine (boolLit 81 rfl h18).2 ?_
    refine opSkip rfl ⟨_, rfl, .inl rfl⟩ rfl ?_
    refine opSkip rfl ⟨_, rfl, .inl rfl⟩ rfl ?_
    refine opSkip rfl ⟨_, rfl, .inl rfl⟩ rfl ?_
    refine opSkip rfl ⟨_, rfl, .inr rfl⟩ rfl ?_
    refine opSkip rfl ⟨_, rfl, .inr rfl⟩ rfl ?_
    refine opSkip rfl ⟨_, rfl, .inr rfl⟩ rfl ?_
    refine opSkip rfl ⟨_, rfl, .inl rfl⟩ rfl ?_
    refine op0 (sp_pickF rfl rfl rfl) rfl trivial rfl rfl ?_
    refine op0 (sp_move rfl rfl) rfl trivial rfl rfl ?_
    refine op0 (sp_move rfl rfl) rfl ⟨_, rfl, rfl⟩ rfl rfl ?_
    refine op0 (sp_neq rfl rfl rfl) rfl ⟨_, rfl, rfl⟩ rfl rfl ?_
    refine op0 (sp_move rfl rfl) rfl ⟨_, rfl, rfl⟩ rfl rfl ?_
    rcases cond_cases h with ⟨h65, h⟩ | ⟨h65, h⟩
    · refine (boolLit 93 rfl h65).2 ?_
      refine op0 (sp_move rfl rfl) rfl ⟨_, rfl, rfl⟩ rfl rfl ?_
      refine op0 (sp_neq rfl rfl rfl) rfl ⟨_, rfl, rfl⟩ rfl rfl ?_
      refine op0 (sp_pickT rfl rfl rfl) rfl ⟨_, rfl, rfl⟩ rfl rfl ?_
      refine op0 (sp_pickF rfl rfl rfl) rfl trivial rfl rfl ?_
      refine op0 (sp_move rfl rfl) rfl trivial rfl rfl ?_
      rcases cond_cases h with ⟨h66, h⟩ | ⟨h66, h⟩
      · refine (boolLit 98 rfl h66).2 ?_
        refine opSkip rfl ⟨_, rfl, .inl rfl⟩ rfl ?_
        refine opSkip rfl ⟨_, rfl, .inl rfl⟩ rfl ?_
        refine opSkip rfl ⟨_, rfl, .inl rfl⟩ rfl ?_
        refine opSkip rfl ⟨_, rfl, .inl rfl⟩ rfl ?_
        refine opSkip rfl ⟨_, rfl, .inl rfl⟩ rfl ?_
        refine opSkip rfl ⟨_, rfl, .inl rfl⟩ rfl ?_
        refine opSkip rfl ⟨_, rfl, .inr rfl⟩ rfl ?_
        refine opSkip rfl ⟨_, rfl, .inr rfl⟩ rfl ?_
        refine opSkip rfl ⟨_, rfl, .inr rfl⟩ rfl ?_
        refine opSkip rfl ⟨_, rfl, .inr rfl⟩ rfl ?_
        refine opSkip rfl ⟨_, rfl, .inr rfl⟩ rfl ?_
        refine opSkip rfl ⟨_, rfl, .inr rfl⟩ rfl ?_
        refine opSkip rfl ⟨_, rfl, .inl rfl⟩ rfl ?_
        refine op0 (sp_pickT rfl rfl rfl) rfl trivial rfl rfl ?_
        refine op0 (sp_move rfl rfl) rfl trivial rfl rfl ?_
        refine opSkip rfl ⟨_, rfl, .inl rfl⟩ rfl ?_
        refine opSkip rfl ⟨_, rfl, .inl rfl⟩ rfl ?_
        refine op0 (sp_pickT rfl rfl rfl) rfl trivial rfl rfl ?_
        refine op0 (sp_move rfl rfl) rfl trivial rfl rfl ?_
        refine opSkip rfl ⟨_, rfl, .inl rfl⟩ rfl ?_
        refine opSkip rfl ⟨_, rfl, .inl rfl⟩ rfl ?_
        refine op0 (sp_pickT rfl rfl rfl) rfl trivial rfl rfl ?_
        refine op0 (sp_move rfl rfl) rfl trivial rfl rfl ?_
        refine opSkip rfl ⟨_, rfl, .inl rfl⟩ rfl ?_
        refine opSkip rfl ⟨_, rfl, .inl rfl⟩ rfl ?_
        refine opSkip rfl ⟨_, rfl, .inl rfl⟩ rfl ?_
        refine opSkip rfl ⟨_, rfl, .inl rfl⟩ rfl ?_
        refine opSkip rfl ⟨_, rfl, .inl rfl⟩ rfl ?_
        refine opSkip rfl ⟨_, rfl, .inl rfl⟩ rfl ?_
        refine op0 (sp_pickT rfl rfl rfl) rfl trivial rfl rfl ?_
        refine op0 (sp_move rfl rfl) rfl trivial rfl rfl ?_
        refine opSkip rfl ⟨_, rfl, .inl rfl⟩ rfl ?_
        refine opSkip rfl ⟨_, rfl, .inl rfl⟩ rfl ?_
        refine opSkip rfl ⟨_, rfl, .inl rfl⟩ rfl ?_
        refine opSkip rfl ⟨_, rfl, .inr rfl⟩ rfl ?_
        refine opSkip rfl ⟨_, rfl, .inr rfl⟩ rfl ?_
        refine opSkip rfl ⟨_, rfl, .inr rfl⟩ rfl ?_
        refine opSkip rfl ⟨_, rfl, .inr rfl⟩ rfl ?_
        refine opSkip rfl ⟨_, rfl, .inr rfl⟩ rfl ?_
        refine opSkip rfl ⟨_, rfl, .inr rfl⟩ rfl ?_
        refine opSkip rfl ⟨_, rfl, .inl rfl⟩ rfl ?_
        refine op0 (sp_pickT rfl rfl rfl) rfl trivial rfl rfl ?_
        refine TL.nil ?_
        refine TC.condT rfl ?_
        refine TC.seq ?_
        refine TC.region ?_
        refine op0 (sp_assign rfl rfl) rfl trivial rfl rfl ?_
        refine TL.nil ?_
        cases h
        exact retJ [] (.tmp rfl .nil) rfl trivial rfl rfl
      · refine (boolLit 98 rfl h66).2 ?_
        refine op0 (sp_move rfl rfl) rfl ⟨_, rfl, rfl⟩ rfl rfl ?_
        refine op0 (sp_move rfl rfl) rfl ⟨_, rfl, rfl⟩ rfl rfl ?_
        obtain ⟨h67, h⟩ := chk_inv h
        refine op0 (sp_sub rfl rfl rfl h67) rfl ⟨_, rfl, rfl⟩ rfl rfl ?_
        refine op0 (sp_move rfl rfl) rfl ⟨_, rfl, rfl⟩ rfl rfl ?_
        refine op0 (sp_geq rfl rfl rfl) rfl ⟨_, rfl, rfl⟩ rfl rfl ?_
        refine op0 (sp_move rfl rfl) rfl ⟨_, rfl, rfl⟩ rfl rfl ?_
        rcases cond_cases h with ⟨h68, h⟩ | ⟨h68, h⟩
        · refine (boolLit 104 rfl h68).2 ?_
          refine op0 (sp_move rfl rfl) rfl ⟨_, rfl, rfl⟩ rfl rfl ?_
          refine op0 (sp_neq rfl rfl rfl) rfl ⟨_, rfl, rfl⟩ rfl rfl ?_
          refine op0 (sp_move rfl rfl) rfl ⟨_, rfl, rfl⟩ rfl rfl ?_
          rcases cond_cases h with ⟨h69, h⟩ | ⟨h69, h⟩
          · refine (boolLit 107 rfl h69).2 ?_
            refine opSkip rfl ⟨_, rfl, .inl rfl⟩ rfl ?_
            refine opSkip rfl ⟨_, rfl, .inl rfl⟩ rfl ?_
            refine op0 (sp_pickT rfl rfl rfl) rfl ⟨_, rfl, rfl⟩ rfl rfl ?_
            refine op0 (sp_pickT rfl rfl rfl) rfl ⟨_, rfl, rfl⟩ rfl rfl ?_
            refine op0 (sp_pickF rfl rfl rfl) rfl trivial rfl rfl ?_
            refine op0 (sp_move rfl rfl) rfl trivial rfl rfl ?_
            refine opSkip rfl ⟨_, rfl, .inl rfl⟩ rfl ?_
            refine opSkip rfl ⟨_, rfl, .inl rfl⟩ rfl ?_
            refine op0 (sp_pickT rfl rfl rfl) rfl trivial rfl rfl ?_
            refine op0 (sp_move rfl rfl) rfl trivial rfl rfl ?_
            refine opSkip rfl ⟨_, rfl, .inl rfl⟩ rfl ?_
            refine opSkip rfl ⟨_, rfl, .inl rfl⟩ rfl ?_
            refine op0 (sp_pickT rfl rfl rfl) rfl trivial rfl rfl ?_
            refine op0 (sp_move rfl rfl) rfl trivial rfl rfl ?_
            refine opSkip rfl ⟨_, rfl, .inl rfl⟩ rfl ?_
            refine opSkip rfl ⟨_, rfl, .inl rfl⟩ rfl ?_
            refine opSkip rfl ⟨_, rfl, .inl rfl⟩ rfl ?_
            refine opSkip rfl ⟨_, rfl, .inl rfl⟩ rfl ?_
            refine opSkip rfl ⟨_, rfl, .inl rfl⟩ rfl ?_
            refine opSkip rfl ⟨_, rfl, .inl rfl⟩ rfl ?_
            refine op0 (sp_pickT rfl rfl rfl) rfl trivial rfl rfl ?_
            refine op0 (sp_move rfl rfl) rfl trivial rfl rfl ?_
            refine opSkip rfl ⟨_, rfl, .inl rfl⟩ rfl ?_
            refine opSkip rfl ⟨_, rfl, .inl rfl⟩ rfl ?_
            refine opSkip rfl ⟨_, rfl, .inl rfl⟩ rfl ?_
            refine opSkip rfl ⟨_, rfl, .inr rfl⟩ rfl ?_
            refine opSkip rfl ⟨_, rfl, .inr rfl⟩ rfl ?_
            refine opSkip rfl ⟨_, rfl, .inr rfl⟩ rfl ?_
            refine opSkip rfl ⟨_, rfl, .inr rfl⟩ rfl ?_
            refine opSkip rfl ⟨_, rfl, .inr rfl⟩ rfl ?_
            refine opSkip rfl ⟨_, rfl, .inr rfl⟩ rfl ?_
            refine opSkip rfl ⟨_, rfl, .inl rfl⟩ rfl ?_
            refine op0 (sp_pickT rfl rfl rfl) rfl trivial rfl rfl ?_
            refine TL.nil ?_
            refine TC.condT rfl ?_
            refine TC.seq ?_
            refine TC.region ?_
            refine op0 (sp_assign rfl rfl) rfl trivial rfl rfl ?_
            refine TL.nil ?_
            cases h
            exact retJ [] (.tmp rfl .nil) rfl trivial rfl rfl
          · refine (boolLit 107 rfl h69).2 ?_
            refine op0 (sp_move rfl rfl) rfl ⟨_, rfl, rfl⟩ rfl rfl ?_
            refine op0 (sp_neq rfl rfl rfl) rfl ⟨_, rfl, rfl⟩ rfl rfl ?_
            refine op0 (sp_pickF rfl rfl rfl) rfl ⟨_, rfl, rfl⟩ rfl rfl ?_
            refine op0 (sp_pickT rfl rfl rfl) rfl ⟨_, rfl, rfl⟩ rfl rfl ?_
            refine op0 (sp_pickF rfl rfl rfl) rfl trivial rfl rfl ?_
            refine op0 (sp_move rfl rfl) rfl trivial rfl rfl ?_
            rcases cond_cases h with ⟨h70, h⟩ | ⟨h70, h⟩
            · refine (boolLit 113 rfl h70).2 ?_
              refine opSkip rfl ⟨_, rfl, .inl rfl⟩ rfl ?_
              refine opSkip rfl ⟨_, rfl, .inl rfl⟩ rfl ?_
              refine op0 (sp_pickT rfl rfl rfl) rfl trivial rfl rfl ?_
              refine op0 (sp_move rfl rfl) rfl trivial rfl rfl ?_
              refine opSkip rfl ⟨_, rfl, .inl rfl⟩ rfl ?_
              refine opSkip rfl ⟨_, rfl, .inl rfl⟩ rfl ?_
              refine op0 (sp_pickT rfl rfl rfl) rfl trivial rfl rfl ?_
              refine op0 (sp_move rfl rfl) rfl trivial rfl rfl ?_
              refine opSkip rfl ⟨_, rfl, .inl rfl⟩ rfl ?_
              refine opSkip rfl ⟨_, rfl, .inl rfl⟩ rfl ?_
              refine opSkip rfl ⟨_, rfl, .inl rfl⟩ rfl ?_
              refine opSkip rfl ⟨_, rfl, .inl rfl⟩ rfl ?_
              refine opSkip rfl ⟨_, rfl, .inl rfl⟩ rfl ?_
              refine opSkip rfl ⟨_, rfl, .inl rfl⟩ rfl ?_
              refine op0 (sp_pickT rfl rfl rfl) rfl trivial rfl rfl ?_
              refine op0 (sp_move rfl rfl) rfl trivial rfl rfl ?_
              refine opSkip rfl ⟨_, rfl, .inl rfl⟩ rfl ?_
              refine opSkip rfl ⟨_, rfl, .inl rfl⟩ rfl ?_
              refine opSkip rfl ⟨_, rfl, .inl rfl⟩ rfl ?_
              refine opSkip rfl ⟨_, rfl, .inr rfl⟩ rfl ?_
              refine opSkip rfl ⟨_, rfl, .inr rfl⟩ rfl ?_
              refine opSkip rfl ⟨_, rfl, .inr rfl⟩ rfl ?_
              refine opSkip rfl ⟨_, rfl, .inr rfl⟩ rfl ?_
              refine opSkip rfl ⟨_, rfl, .inr rfl⟩ rfl ?_
              refine opSkip rfl ⟨_, rfl, .inr rfl⟩ rfl ?_
              refine opSkip rfl ⟨_, rfl, .inl rfl⟩ rfl ?_
              refine op0 (sp_pickT rfl rfl rfl) rfl trivial rfl rfl ?_
              refine TL.nil ?_
              refine TC.condT rfl ?_
              refine TC.seq ?_
              refine TC.region ?_
              refine op0 (sp_assign rfl rfl) rfl trivial rfl rfl ?_
              refine TL.nil ?_
              cases h
              exact retJ [] (.tmp rfl .nil) rfl trivial rfl rfl
            · refine (boolLit 113 rfl h70).2 ?_
              refine op0 (sp_move rfl rfl) rfl ⟨_, rfl, rfl⟩ rfl rfl ?_
              refine op0 (sp_neq rfl rfl rfl) rfl ⟨_, rfl, rfl⟩ rfl rfl ?_
              refine op0 (sp_pickF rfl rfl rfl) rfl trivial rfl rfl ?_
              refine op0 (sp_move rfl rfl) rfl trivial rfl rfl ?_
              rcases cond_cases h with ⟨h71, h⟩ | ⟨h71, h⟩
              · refine (boolLit 117 rfl h71).2 ?_
                refine opSkip rfl ⟨_, rfl, .inl rfl⟩ rfl ?_
                refine opSkip rfl ⟨_, rfl, .inl rfl⟩ rfl ?_
                refine op0 (sp_pickT rfl rfl rfl) rfl trivial rfl rfl ?_
                refine op0 (sp_move rfl rfl) rfl trivial rfl rfl ?_
                refine opSkip rfl ⟨_, rfl, .inl rfl⟩ rfl ?_
                refine opSkip rfl ⟨_, rfl, .inl rfl⟩ rfl ?_
                refine opSkip rfl ⟨_, rfl, .inl rfl⟩ rfl ?_
                refine opSkip rfl ⟨_, rfl, .inl rfl⟩ rfl ?_
                refine opSkip rfl ⟨_, rfl, .inl rfl⟩ rfl ?_
                refine opSkip rfl ⟨_, rfl, .inl rfl⟩ rfl ?_
                refine op0 (sp_pickT rfl rfl rfl) rfl trivial rfl rfl ?_
                refine op0 (sp_move rfl rfl) rfl trivial rfl rfl ?_
                refine opSkip rfl ⟨_, rfl, .inl rfl⟩ rfl ?_
                refine opSkip rfl ⟨_, rfl, .inl rfl⟩ rfl ?_
                refine opSkip rfl ⟨_, rfl, .inl rfl⟩ rfl ?_
                refine opSkip rfl ⟨_, rfl, .inr rfl⟩ rfl ?_
                refine opSkip rfl ⟨_, rfl, .inr rfl⟩ rfl ?_
                refine opSkip rfl ⟨_, rfl, .inr rfl⟩ rfl ?_
                refine opSkip rfl ⟨_, rfl, .inr rfl⟩ rfl ?_
                refine opSkip rfl ⟨_, rfl, .inr rfl⟩ rfl ?_
                refine opSkip rfl ⟨_, rfl, .inr rfl⟩ rfl ?_
                refine opSkip rfl ⟨_, rfl, .inl rfl⟩ rfl ?_
                refine op0 (sp_pickT rfl rfl rfl) rfl trivial rfl rfl ?_
                refine TL.nil ?_
                refine TC.condT rfl ?_
                refine TC.seq ?_
                refine TC.region ?_
                refine op0 (sp_assign rfl rfl) rfl trivial rfl rfl ?_
                refine TL.nil ?_
                cases h
                exact retJ [] (.tmp rfl .nil) rfl trivial rfl rfl
              · refine (boolLit 117 rfl h71).2 ?_
                refine op0 (sp_move rfl rfl) rfl ⟨_, rfl, rfl⟩ rfl rfl ?_
                refine op0 (sp_neq rfl rfl rfl) rfl ⟨_, rfl, rfl⟩ rfl rfl ?_
                refine op0 (sp_pickF rfl rfl rfl) rfl trivial rfl rfl ?_
                refine op0 (sp_move rfl rfl) rfl trivial rfl rfl ?_
                rcases cond_cases h with ⟨h72, h⟩ | ⟨h72, h⟩
                · refine (boolLit 121 rfl h72).2 ?_
                  refine opSkip rfl ⟨_, rfl, .inl rfl⟩ rfl ?_
                  refine opSkip rfl ⟨_, rfl, .inl rfl⟩ rfl ?_
                  refine opSkip rfl ⟨_, rfl, .inl rfl⟩ rfl ?_
                  refine opSkip rfl ⟨_, rfl, .inl rfl⟩ rfl ?_
                  refine opSkip rfl ⟨_, rfl, .inl rfl⟩ rfl ?_
                  refine opSkip rfl ⟨_, rfl, .inl rfl⟩ rfl ?_
                  refine op0 (sp_pickT rfl rfl rfl) rfl trivial rfl rfl ?_
                  refine op0 (sp_move rfl rfl) rfl trivial rfl rfl ?_
                  refine opSkip rfl ⟨_, rfl, .inl rfl⟩ rfl ?_
                  refine opSkip rfl ⟨_, rfl, .inl rfl⟩ rfl ?_
                  refine opSkip rfl ⟨_, rfl, .inl rfl⟩ rfl ?_
                  refine opSkip rfl ⟨_, rfl, .inr rfl⟩ rfl ?_
                  refine opSkip rfl ⟨_, rfl, .inr rfl⟩ rfl ?_
                  refine opSkip rfl ⟨_, rfl, .inr rfl⟩ rfl ?_
                  refine opSkip rfl ⟨_, rfl, .inr rfl⟩ rfl ?_
                  refine opSkip rfl ⟨_, rfl, .inr rfl⟩ rfl ?_
                  refine opSkip rfl ⟨_, rfl, .inr rfl⟩ rfl ?_
                  refine opSkip rfl ⟨_, rfl, .inl rfl⟩ rfl ?_
                  refine op0 (sp_pickT rfl rfl rfl) rfl trivial rfl rfl ?_
                  refine TL.nil ?_
                  refine TC.condT rfl ?_
                  refine TC.seq ?_
                  refine TC.region ?_
                  refine op0 (sp_assign rfl rfl) rfl trivial rfl rfl ?_
                  refine TL.nil ?_
                  cases h
                  exact retJ [] (.tmp rfl .nil) rfl trivial rfl rfl
                · refine (boolLit 121 rfl h72).2 ?_
                  refine op0 (sp_move rfl rfl) rfl ⟨_, rfl, rfl⟩ rfl rfl ?_
                  refine op1 0 rfl (sp_lenM (N := r14.1.length) (len_map _ _) rfl rfl isOwn Try.underlying50) rfl ⟨_, rfl, rfl⟩ rfl rfl ?_
                  refine op0 (sp_move rfl rfl) rfl ⟨_, rfl, rfl⟩ rfl rfl ?_
                  refine op0 (sp_move rfl rfl) rfl ⟨_, rfl, rfl⟩ rfl rfl ?_
                  obtain ⟨h73, h⟩ := chk_inv h
                  refine op0 (sp_sub rfl rfl rfl h73) rfl ⟨_, rfl, rfl⟩ rfl rfl ?_
                  refine op0 (sp_neq rfl rfl rfl) rfl ⟨_, rfl, rfl⟩ rfl rfl ?_
                  refine op0 (sp_pickF rfl rfl rfl) rfl trivial rfl rfl ?_
                  refine op0 (sp_move rfl rfl) rfl trivial rfl rfl ?_
                  rcases cond_cases h with ⟨h74, h⟩ | ⟨h74, h⟩
                  · refine (boolLit 129 rfl h74).2 ?_
                    refine opSkip rfl ⟨_, rfl, .inl rfl⟩ rfl ?_
                    refine opSkip rfl ⟨_, rfl, .inl rfl⟩ rfl ?_
                    refine opSkip rfl ⟨_, rfl, .inl rfl⟩ rfl ?_
                    refine opSkip rfl ⟨_, rfl, .inr rfl⟩ rfl ?_
                    refine opSkip rfl ⟨_, rfl, .inr rfl⟩ rfl ?_
                    refine opSkip rfl ⟨_, rfl, .inr rfl⟩ rfl ?_
                    refine opSkip rfl ⟨_, rfl, .inr rfl⟩ rfl ?_
                    refine opSkip rfl ⟨_, rfl, .inr rfl⟩ rfl ?_
                    refine opSkip rfl ⟨_, rfl, .inr rfl⟩ rfl ?_
                    refine opSkip rfl ⟨_, rfl, .inl rfl⟩ rfl ?_
                    refine op0 (sp_pickT rfl rfl rfl) rfl trivial rfl rfl ?_
                    refine TL.nil ?_
                    refine TC.condT rfl ?_
                    refine TC.seq ?_
                    refine TC.region ?_
                    refine op0 (sp_assign rfl rfl) rfl trivial rfl rfl ?_
                    refine TL.nil ?_
                    cases h
                    exact retJ [] (.tmp rfl .nil) rfl trivial rfl rfl
                  · refine (boolLit 129 rfl h74).2 ?_
                    refine op0 (sp_move rfl rfl) rfl ⟨_, rfl, rfl⟩ rfl rfl ?_
                    refine op0 (sp_eql rfl rfl rfl) rfl ⟨_, rfl, rfl⟩ rfl rfl ?_
                    refine op0 (sp_move rfl rfl) rfl ⟨_, rfl, rfl⟩ rfl rfl ?_
                    rcases cond_cases h with ⟨h75, h⟩ | ⟨h75, h⟩
                    · refine (boolLit 132 rfl h75).2 ?_
                      refine op0 (sp_move rfl rfl) rfl ⟨_, rfl, rfl⟩ rfl rfl ?_
                      refine op1 2 rfl (sp_lenM (N := r12.1.length) (len_map _ _) rfl rfl isOwn Try.underlying50) rfl ⟨_, rfl, rfl⟩ rfl rfl ?_
                      refine op0 (sp_move rfl rfl) rfl ⟨_, rfl, rfl⟩ rfl rfl ?_
                      refine op0 (sp_move rfl rfl) rfl ⟨_, rfl, rfl⟩ rfl rfl ?_
                      obtain ⟨h76, h⟩ := chk_inv h
                      refine op0 (sp_sub rfl rfl rfl h76) rfl ⟨_, rfl, rfl⟩ rfl rfl ?_
                      refine op0 (sp_neq rfl rfl rfl) rfl ⟨_, rfl, rfl⟩ rfl rfl ?_
                      refine op0 (sp_pickT rfl rfl rfl) rfl ⟨_, rfl, rfl⟩ rfl rfl ?_
                      refine op0 (sp_pickF rfl rfl rfl) rfl trivial rfl rfl ?_
                      refine TL.nil ?_
                      refine TC.cond (b := ((r12.1.length : Int) != (((at_4 + (Int.tmod at_6 21)) + (Int.tmod at_7 20)) - at_4))) rfl (fun h77 => ?_) (fun h77 => ?_)
                      · have h := cond_t h h77
                        refine TC.seq ?_
                        refine TC.region ?_
                        refine op0 (sp_assign rfl rfl) rfl trivial rfl rfl ?_
                        refine TL.nil ?_
                        cases h
                        exact retJ [] (.tmp rfl .nil) rfl trivial rfl rfl
                      · have h := cond_f h h77
                        refine subJ [] (ok_law05_StrikeTimes_j0 h) ?_ ?_ ?_
                        · exact ⟨rfl, trivial⟩
                        · exact ⟨mem_at 0 rfl, trivial⟩
                        · rfl
                    · refine (boolLit 132 rfl h75).2 ?_
                      refine opSkip rfl ⟨_, rfl, .inl rfl⟩ rfl ?_
                      refine opSkip rfl ⟨_, rfl, .inl rfl⟩ rfl ?_
                      refine opSkip rfl ⟨_, rfl, .inl rfl⟩ rfl ?_
                      refine opSkip rfl ⟨_, rfl, .inl rfl⟩ rfl ?_
                      refine opSkip rfl ⟨_, rfl, .inl rfl⟩ rfl ?_
                      refine opSkip rfl ⟨_, rfl, .inl rfl⟩ rfl ?_
                      refine op0 (sp_pickF rfl rfl rfl) rfl ⟨_, rfl, rfl⟩ rfl rfl ?_
                      refine op0 (sp_pickF rfl rfl rfl) rfl trivial rfl rfl ?_
                      refine TL.nil ?_
                      refine TC.condF rfl ?_
                      refine subJ [] (ok_law05_StrikeTimes_j0 h) ?_ ?_ ?_
                      · exact ⟨rfl, trivial⟩
                      · exact ⟨mem_at 0 rfl, trivial⟩
                      · rfl
        · refine (boolLit 104 rfl h68).2 ?_
          refine opSkip rfl ⟨_, rfl, .inl rfl⟩ rfl ?_
          refine opSkip rfl ⟨_, rfl, .inl rfl⟩ rfl ?_
          refine opSkip rfl ⟨_, rfl, .inl rfl⟩ rfl ?_
          refine opSkip rfl ⟨_, rfl, .inr rfl⟩ rfl ?_
          refine opSkip rfl ⟨_, rfl, .inr rfl⟩ rfl ?_
          refine opSkip rfl ⟨_, rfl, .inl rfl⟩ rfl ?_
          refine op0 (sp_pickF rfl rfl rfl) rfl ⟨_, rfl, rfl⟩ rfl rfl ?_
          refine op0 (sp_pickF rfl rfl rfl) rfl trivial rfl rfl ?_
          refine op0 (sp_move rfl rfl) rfl trivial rfl rfl ?_
          refine op0 (sp_move rfl rfl) rfl ⟨_, rfl, rfl⟩ rfl rfl ?_
          refine op0 (sp_neq rfl rfl rfl) rfl ⟨_, rfl, rfl⟩ rfl rfl ?_
          refine op0 (sp_pickF rfl rfl rfl) rfl trivial rfl rfl ?_
          refine op0 (sp_move rfl rfl) rfl trivial rfl rfl ?_
          rcases cond_cases h with ⟨h78, h⟩ | ⟨h78, h⟩
          · refine (boolLit 117 rfl h78).2 ?_
            refine opSkip rfl ⟨_, rfl, .inl rfl⟩ rfl ?_
            refine opSkip rfl ⟨_, rfl, .inl rfl⟩ rfl ?_
            refine op0 (sp_pickT rfl rfl rfl) rfl trivial rfl rfl ?_
            refine op0 (sp_move rfl rfl) rfl trivial rfl rfl ?_
            refine opSkip rfl ⟨_, rfl, .inl rfl⟩ rfl ?_
            refine opSkip rfl ⟨_, rfl, .inl rfl⟩ rfl ?_
            refine opSkip rfl ⟨_, rfl, .inl rfl⟩ rfl ?_
            refine opSkip rfl ⟨_, rfl, .inl rfl⟩ rfl ?_
            refine opSkip rfl ⟨_, rfl, .inl rfl⟩ rfl ?_
            refine opSkip rfl ⟨_, rfl, .inl rfl⟩ rfl ?_
            refine op0 (sp_pickT rfl rfl rfl) rfl trivial rfl rfl ?_
            refine op0 (sp_move rfl rfl) rfl trivial rfl rfl ?_
            refine opSkip rfl ⟨_, rfl, .inl rfl⟩ rfl ?_
            refine opSkip rfl ⟨_, rfl, .inl rfl⟩ rfl ?_
            refine opSkip rfl ⟨_, rfl, .inl rfl⟩ rfl ?_
            refine opSkip rfl ⟨_, rfl, .inr rfl⟩ rfl ?_
            refine opSkip rfl ⟨_, rfl, .inr rfl⟩ rfl ?_
            refine opSkip rfl ⟨_, rfl, .inr rfl⟩ rfl ?_
            refine opSkip rfl ⟨_, rfl, .inr rfl⟩ rfl ?_
            refine opSkip rfl ⟨_, rfl, .inr rfl⟩ rfl ?_
            refine opSkip rfl ⟨_, rfl, .inr rfl⟩ rfl ?_
            refine opSkip rfl ⟨_, rfl, .inl rfl⟩ rfl ?_
            refine op0 (sp_pickT rfl rfl rfl) rfl trivial rfl rfl ?_
            refine TL.nil ?_
            refine TC.condT rfl ?_
            refine TC.seq ?_
            refine TC.region ?_
            refine op0 (sp_assign rfl rfl) rfl trivial rfl rfl ?_
            refine TL.nil ?_
            cases h
            exact retJ [] (.tmp rfl .nil) rfl trivial rfl rfl
          · refine (boolLit 117 rfl h78).2 ?_
            refine op0 (sp_move rfl rfl) rfl ⟨_, rfl, rfl⟩ rfl rfl ?_
            refine op0 (sp_neq rfl rfl rfl) rfl ⟨_, rfl, rfl⟩ rfl rfl ?_
            refine op0 (sp_pickF rfl rfl rfl) rfl trivial rfl rfl ?_
            refine op0 (sp_move rfl rfl) rfl trivial rfl rfl ?_
            rcases cond_cases h with ⟨h79, h⟩ | ⟨h79, h⟩
            · refine (boolLit 121 rfl h79).2 ?_
              refine opSkip rfl ⟨_, rfl, .inl rfl⟩ rfl ?_
              refine opSkip rfl ⟨_, rfl, .inl rfl⟩ rfl ?_
              refine opSkip rfl ⟨_, rfl, .inl rfl⟩ rfl ?_
              refine opSkip rfl ⟨_, rfl, .inl rfl⟩ rfl ?_
              refine opSkip rfl ⟨_, rfl, .inl rfl⟩ rfl ?_
              refine opSkip rfl ⟨_, rfl, .inl rfl⟩ rfl ?_
              refine op0 (sp_pickT rfl rfl rfl) rfl trivial rfl rfl ?_
              refine op0 (sp_move rfl rfl) rfl trivial rfl rfl ?_
              refine opSkip rfl ⟨_, rfl, .inl rfl⟩ rfl ?_
              refine opSkip rfl ⟨_, rfl, .inl rfl⟩ rfl ?_
              refine opSkip rfl ⟨_, rfl, .inl rfl⟩ rfl ?_
              refine opSkip rfl ⟨_, rfl, .inr rfl⟩ rfl ?_
              refine opSkip rfl ⟨_, rfl, .inr rfl⟩ rfl ?_
              refine opSkip rfl ⟨_, rfl, .inr rfl⟩ rfl ?_
              refine opSkip rfl ⟨_, rfl, .inr rfl⟩ rfl ?_
              refine opSkip rfl ⟨_, rfl, .inr rfl⟩ rfl ?_
              refine opSkip rfl ⟨_, rfl, .inr rfl⟩ rfl ?_
              refine opSkip rfl ⟨_, rfl, .inl rfl⟩ rfl ?_
              refine op0 (sp_pickT rfl rfl rfl) rfl trivial rfl rfl ?_
              refine TL.nil ?_
              refine TC.condT rfl ?_
              refine TC.seq ?_
              refine TC.region ?_
              refine op0 (sp_assign rfl rfl) rfl trivial rfl rfl ?_
              refine TL.nil ?_
              cases h
              exact retJ [] (.tmp rfl .nil) rfl trivial rfl rfl
            · refine (boolLit 121 rfl h79).2 ?_
              refine op0 (sp_move rfl rfl) rfl ⟨_, rfl, rfl⟩ rfl rfl ?_
              refine op1 0 rfl (sp_lenM (N := r14.1.length) (len_map _ _) rfl rfl isOwn Try.underlying50) rfl ⟨_, rfl, rfl⟩ rfl rfl ?_
              refine op0 (sp_move rfl rfl) rfl ⟨_, rfl, rfl⟩ rfl rfl ?_
              refine op0 (sp_move rfl rfl) rfl ⟨_, rfl, rfl⟩ rfl rfl ?_
              obtain ⟨h80, h⟩ := chk_inv h
              refine op0 (sp_sub rfl rfl rfl h80) rfl ⟨_, rfl, rfl⟩ rfl rfl ?_
              refine op0 (sp_neq rfl rfl rfl) rfl ⟨_, rfl, rfl⟩ rfl rfl ?_
              refine op0 (sp_pickF rfl rfl rfl) rfl trivial rfl rfl ?_
              refine op0 (sp_move rfl rfl) rfl trivial rfl rfl ?_
              rcases cond_cases h with ⟨h81, h⟩ | ⟨h81, h⟩
              · refine (boolLit 129 rfl h81).2 ?_
                refine opSkip rfl ⟨_, rfl, .inl rfl⟩ rfl ?_
                refine opSkip rfl ⟨_, rfl, .inl rfl⟩ rfl ?_
                refine opSkip rfl ⟨_, rfl, .inl rfl⟩ rfl ?_
                refine opSkip rfl ⟨_, rfl, .inr rfl⟩ rfl ?_
                refine opSkip rfl ⟨_, rfl, .inr rfl⟩ rfl ?_
                refine opSkip rfl ⟨_, rfl, .inr rfl⟩ rfl ?_
                refine opSkip rfl ⟨_, rfl, .inr rfl⟩ rfl ?_
                refine opSkip rfl ⟨_, rfl, .inr rfl⟩ rfl ?_
                refine opSkip rfl ⟨_, rfl, .inr rfl⟩ rfl ?_
                refine opSkip rfl ⟨_, rfl, .inl rfl⟩ rfl ?_
                refine op0 (sp_pickT rfl rfl rfl) rfl trivial rfl rfl ?_
                refine TL.nil ?_
                refine TC.condT rfl ?_
                refine TC.seq ?_
                refine TC.region ?_
                refine op0 (sp_assign rfl rfl) rfl trivial rfl rfl ?_
                refine TL.nil ?_
                cases h
                exact retJ [] (.tmp rfl .nil) rfl trivial rfl rfl
              · refine (boolLit 129 rfl h81).2 ?_
                refine op0 (sp_move rfl rfl) rfl ⟨_, rfl, rfl⟩ rfl rfl ?_
                refine op0 (sp_eql rfl rfl rfl) rfl ⟨_, rfl, rfl⟩ rfl rfl ?_
                refine op0 (sp_move rfl rfl) rfl ⟨_, rfl, rfl⟩ rfl rfl ?_
                rcases cond_cases h with ⟨h82, h⟩ | ⟨h82, h⟩
                · refine (boolLit 132 rfl h82).2 ?_
                  refine op0 (sp_move rfl rfl) rfl ⟨_, rfl, rfl⟩ rfl rfl ?_
                  refine op1 2 rfl (sp_lenM (N := r12.1.length) (len_map _ _) rfl rfl isOwn Try.underlying50) rfl ⟨_, rfl, rfl⟩ rfl rfl ?_
                  refine op0 (sp_move rfl rfl) rfl ⟨_, rfl, rfl⟩ rfl rfl ?_
                  refine op0 (sp_move rfl rfl) rfl ⟨_, rfl, rfl⟩ rfl rfl ?_
                  obtain ⟨h83, h⟩ := chk_inv h
                  refine op0 (sp_sub rfl rfl rfl h83) rfl ⟨_, rfl, rfl⟩ rfl rfl ?_
                  refine op0 (sp_neq rfl rfl rfl) rfl ⟨_, rfl, rfl⟩ rfl rfl ?_
                  refine op0 (sp_pickT rfl rfl rfl) rfl ⟨_, rfl, rfl⟩ rfl rfl ?_
                  refine op0 (sp_pickF rfl rfl rfl) rfl trivial rfl rfl ?_
                  refine TL.nil ?_
                  refine TC.cond (b := ((r12.1.length : Int) != (((at_4 + (Int.tmod at_6 21)) + (Int.tmod at_7 20)) - at_4))) rfl (fun h84 => ?_) (fun h84 => ?_)
                  · have h := cond_t h h84
                    refine TC.seq ?_
                    refine TC.region ?_
                    refine op0 (sp_assign rfl rfl) rfl trivial rfl rfl ?_
                    refine TL.nil ?_
                    cases h
                    exact retJ [] (.tmp rfl .nil) rfl trivial rfl rfl
                  · have h := cond_f h h84
                    refine subJ [] (ok_law05_StrikeTimes_j0 h) ?_ ?_ ?_
                    · exact ⟨rfl, trivial⟩
                    · exact ⟨mem_at 0 rfl, trivial⟩
                    · rfl
                · refine (boolLit 132 rfl h82).2 ?_
                  refine opSkip rfl ⟨_, rfl, .inl rfl⟩ rfl ?_
                  refine opSkip rfl ⟨_, rfl, .inl rfl⟩ rfl ?_
                  refine opSkip rfl ⟨_, rfl, .inl rfl⟩ rfl ?_
                  refine opSkip rfl ⟨_, rfl, .inl rfl⟩ rfl ?_
                  refine opSkip rfl ⟨_, rfl, .inl rfl⟩ rfl ?_
                  refine opSkip rfl ⟨_, rfl, .inl rfl⟩ rfl ?_
                  refine op0 (sp_pickF rfl rfl rfl) rfl ⟨_, rfl, rfl⟩ rfl rfl ?_
                  refine op0 (sp_pickF rfl rfl rfl) rfl trivial rfl rfl ?_
                  refine TL.nil ?_
                  refine TC.condF rfl ?_
                  refine subJ [] (ok_law05_StrikeTimes_j0 h) ?_ ?_ ?_
                  · exact ⟨rfl, trivial⟩
                  · exact ⟨mem_at 0 rfl, trivial⟩
                  · rfl
    · refine (boolLit 93 rfl h65).2 ?_
      refine opSkip rfl ⟨_, rfl, .inl rfl⟩ rfl ?_
      refine opSkip rfl ⟨_, rfl, .inl rfl⟩ rfl ?_
      refine op0 (sp_pickF rfl rfl rfl) rfl ⟨_, rfl, rfl⟩ rfl rfl ?_
      refine op0 (sp_pickF rfl rfl rfl) rfl trivial rfl rfl ?_
      refine op0 (sp_move rfl rfl) rfl trivial rfl rfl ?_
      refine op0 (sp_move rfl rfl) rfl ⟨_, rfl, rfl⟩ rfl rfl ?_
      refine op0 (sp_move rfl rfl) rfl ⟨_, rfl, rfl⟩ rfl rfl ?_
      obtain ⟨h85, h⟩ := chk_inv h
      refine op0 (sp_sub rfl rfl rfl h85) rfl ⟨_, rfl, rfl⟩ rfl rfl ?_
      refine op0 (sp_move rfl rfl) rfl ⟨_, rfl, rfl⟩ rfl rfl ?_
      refine op0 (sp_geq rfl rfl rfl) rfl ⟨_, rfl, rfl⟩ rfl rfl ?_
      refine op0 (sp_move rfl rfl) rfl ⟨_, rfl, rfl⟩ rfl rfl ?_
      rcases cond_cases h with ⟨h86, h⟩ | ⟨h86, h⟩
      · refine (boolLit 104 rfl h86).2 ?_
        refine op0 (sp_move rfl rfl) rfl ⟨_, rfl, rfl⟩ rfl rfl ?_
        refine op0 (sp_neq rfl rfl rfl) rfl ⟨_, rfl, rfl⟩ rfl rfl ?_
        refine op0 (sp_move rfl rfl) rfl ⟨_, rfl, rfl⟩ rfl rfl ?_
        rcases cond_cases h with ⟨h87, h⟩ | ⟨h87, h⟩
        · refine (boolLit 107 rfl h87).2 ?_
          refine opSkip rfl ⟨_, rfl, .inl rfl⟩ rfl ?_
          refine opSkip rfl ⟨_, rfl, .inl rfl⟩ rfl ?_
          refine op0 (sp_pickT rfl rfl rfl) rfl ⟨_, rfl, rfl⟩ rfl rfl ?_
          refine op0 (sp_pickT rfl rfl rfl) rfl ⟨_, rfl, rfl⟩ rfl rfl ?_
          refine op0 (sp_pickF rfl rfl rfl) rfl trivial rfl rfl ?_
          refine op0 (sp_move rfl rfl) rfl trivial rfl rfl ?_
          refine opSkip rfl ⟨_, rfl, .inl rfl⟩ rfl ?_
          refine opSkip rfl ⟨_, rfl, .inl rfl⟩ rfl ?_
          refine op0 (sp_pickT rfl rfl rfl) rfl trivial rfl rfl ?_
          refine op0 (sp_move rfl rfl) rfl trivial rfl rfl ?_
          refine opSkip rfl ⟨_, rfl, .inl rfl⟩ rfl ?_
          refine opSkip rfl ⟨_, rfl, .inl rfl⟩ rfl ?_
          refine op0 (sp_pickT rfl rfl rfl) rfl trivial rfl rfl ?_
          refine op0 (sp_move rfl rfl) rfl trivial rfl rfl ?_
          refine opSkip rfl ⟨_, rfl, .inl rfl⟩ rfl ?_
          refine opSkip rfl ⟨_, rfl, .inl rfl⟩ rfl ?_
          refine opSkip rfl ⟨_, rfl, .inl rfl⟩ rfl ?_
          refine opSkip rfl ⟨_, rfl, .inl rfl⟩ rfl ?_
          refine opSkip rfl ⟨_, rfl, .inl rfl⟩ rfl ?_
          refine opSkip rfl ⟨_, rfl, .inl rfl⟩ rfl ?_
          refine op0 (sp_pickT rfl rfl rfl) rfl trivial rfl rfl ?_
          refine op0 (sp_move rfl rfl) rfl trivial rfl rfl ?_
          refine opSkip rfl ⟨_, rfl, .inl rfl⟩ rfl ?_
          refine opSkip rfl ⟨_, rfl, .inl rfl⟩ rfl ?_
          refine opSkip rfl ⟨_, rfl, .inl rfl⟩ rfl ?_
          refine opSkip rfl ⟨_, rfl, .inr rfl⟩ rfl ?_
          refine opSkip rfl ⟨_, rfl, .inr rfl⟩ rfl ?_
          refine opSkip rfl ⟨_, rfl, .inr rfl⟩ rfl ?_
          refine opSkip rfl ⟨_, rfl, .inr rfl⟩ rfl ?_
          refine opSkip rfl ⟨_, rfl, .inr rfl⟩ rfl ?_
          refine opSkip rfl ⟨_, rfl, .inr rfl⟩ rfl ?_
          refine opSkip rfl ⟨_, rfl, .inl rfl⟩ rfl ?_
          refine op0 (sp_pickT rfl rfl rfl) rfl trivial rfl rfl ?_
          refine TL.nil ?_
          refine TC.condT rfl ?_
          refine TC.seq ?_
          refine TC.region ?_
          refine op0 (sp_assign rfl rfl) rfl trivial rfl rfl ?_
          refine TL.nil ?_
          cases h
          exact retJ [] (.tmp rfl .nil) rfl trivial rfl rfl
        · refine (boolLit 107 rfl h87).2 ?_
          refine op0 (sp_move rfl rfl) rfl ⟨_, rfl, rfl⟩ rfl rfl ?_
          refine op0 (sp_neq rfl rfl rfl) rfl ⟨_, rfl, rfl⟩ rfl rfl ?_
          refine op0 (sp_pickF rfl rfl rfl) rfl ⟨_, rfl, rfl⟩ rfl rfl ?_
          refine op0 (sp_pickT rfl rfl rfl) rfl ⟨_, rfl, rfl⟩ rfl rfl ?_
          refine op0 (sp_pickF rfl rfl rfl) rfl trivial rfl rfl ?_
          refine op0 (sp_move rfl rfl) rfl trivial rfl rfl ?_
          rcases cond_cases h with ⟨h88, h⟩ | ⟨h88, h⟩
          · refine (boolLit 113 rfl h88).2 ?_
            refine opSkip rfl ⟨_, rfl, .inl rfl⟩ rfl ?_
            refine opSkip rfl ⟨_, rfl, .inl rfl⟩ rfl ?_
            refine op0 (sp_pickT rfl rfl rfl) rfl trivial rfl rfl ?_
            refine op0 (sp_move rfl rfl) rfl trivial rfl rfl ?_
            refine opSkip rfl ⟨_, rfl, .inl rfl⟩ rfl ?_
            refine opSkip rfl ⟨_, rfl, .inl rfl⟩ rfl ?_
            refine op0 (sp_pickT rfl rfl rfl) rfl trivial rfl rfl ?_
            refine op0 (sp_move rfl rfl) rfl trivial rfl rfl ?_
            refine opSkip rfl ⟨_, rfl, .inl rfl⟩ rfl ?_
            refine opSkip rfl ⟨_, rfl, .inl rfl⟩ rfl ?_
            refine opSkip rfl ⟨_, rfl, .inl rfl⟩ rfl ?_
            refine opSkip rfl ⟨_, rfl, .inl rfl⟩ rfl ?_
            refine opSkip rfl ⟨_, rfl, .inl rfl⟩ rfl ?_
            refine opSkip rfl ⟨_, rfl, .inl rfl⟩ rfl ?_
            refine op0 (sp_pickT rfl rfl rfl) rfl trivial rfl rfl ?_
            refine op0 (sp_move rfl rfl) rfl trivial rfl rfl ?_
            refine opSkip rfl ⟨_, rfl, .inl rfl⟩ rfl ?_
            refine opSkip rfl ⟨_, rfl, .inl rfl⟩ rfl ?_
            refine opSkip rfl ⟨_, rfl, .inl rfl⟩ rfl ?_
            refine opSkip rfl ⟨_, rfl, .inr rfl⟩ rfl ?_
            refine opSkip rfl ⟨_, rfl, .inr rfl⟩ rfl ?_
            refine opSkip rfl ⟨_, rfl, .inr rfl⟩ rfl ?_
            refine opSkip rfl ⟨_, rfl, .inr rfl⟩ rfl ?_
            refine opSkip rfl ⟨_, rfl, .inr rfl⟩ rfl ?_
            refine opSkip rfl ⟨_, rfl, .inr rfl⟩ rfl ?_
            refine opSkip rfl ⟨_, rfl, .inl rfl⟩ rfl ?_
            refine op0 (sp_pickT rfl rfl rfl) rfl trivial rfl rfl ?_
            refine TL.nil ?_
            refine TC.condT rfl ?_
            refine TC.seq ?_
            refine TC.region ?_
            refine op0 (sp_assign rfl rfl) rfl trivial rfl rfl ?_
            refine TL.nil ?_
            cases h
            exact retJ [] (.tmp rfl .nil) rfl trivial rfl rfl
          · refine (boolLit 113 rfl h88).2 ?_
            refine op0 (sp_move rfl rfl) rfl ⟨_, rfl, rfl⟩ rfl rfl ?_
            refine op0 (sp_neq rfl rfl rfl) rfl ⟨_, rfl, rfl⟩ rfl rfl ?_
            refine op0 (sp_pickF rfl rfl rfl) rfl trivial rfl rfl ?_
            refine op0 (sp_move rfl rfl) rfl trivial rfl rfl ?_
            rcases cond_cases h with ⟨h89, h⟩ | ⟨h89, h⟩
            · refine (boolLit 117 rfl h89).2 ?_
              refine opSkip rfl ⟨_, rfl, .inl rfl⟩ rfl ?_
              refine opSkip rfl ⟨_, rfl, .inl rfl⟩ rfl ?_
              refine op0 (sp_pickT rfl rfl rfl) rfl trivial rfl rfl ?_
              refine op0 (sp_move rfl rfl) rfl trivial rfl rfl ?_
              refine opSkip rfl ⟨_, rfl, .inl rfl⟩ rfl ?_
              refine opSkip rfl ⟨_, rfl, .inl rfl⟩ rfl ?_
              refine opSkip rfl ⟨_, rfl, .inl rfl⟩ rfl ?_
              refine opSkip rfl ⟨_, rfl, .inl rfl⟩ rfl ?_
              refine opSkip rfl ⟨_, rfl, .inl rfl⟩ rfl ?_
              refine opSkip rfl ⟨_, rfl, .inl rfl⟩ rfl ?_
              refine op0 (sp_pickT rfl rfl rfl) rfl trivial rfl rfl ?_
              refine op0 (sp_move rfl rfl) rfl trivial rfl rfl ?_
              refine opSkip rfl ⟨_, rfl, .inl rfl⟩ rfl ?_
              refine opSkip rfl ⟨_, rfl, .inl rfl⟩ rfl ?_
              refine opSkip rfl ⟨_, rfl, .inl rfl⟩ rfl ?_
              refine opSkip rfl ⟨_, rfl, .inr rfl⟩ rfl ?_
              refine opSkip rfl ⟨_, rfl, .inr rfl⟩ rfl ?_
              refine opSkip rfl ⟨_, rfl, .inr rfl⟩ rfl ?_
              refine opSkip rfl ⟨_, rfl, .inr rfl⟩ rfl ?_
              refine opSkip rfl ⟨_, rfl, .inr rfl⟩ rfl ?_
              refine opSkip rfl ⟨_, rfl, .inr rfl⟩ rfl ?_
              refine opSkip rfl ⟨_, rfl, .inl rfl⟩ rfl ?_
              refine op0 (sp_pickT rfl rfl rfl) rfl trivial rfl rfl ?_
              refine TL.nil ?_
              refine TC.condT rfl ?_
              refine TC.seq ?_
              refine TC.region ?_
              refine op0 (sp_assign rfl rfl) rfl trivial rfl rfl ?_
              refine TL.nil ?_
              cases h
              exact retJ [] (.tmp rfl .nil) rfl trivial rfl rfl
            · refine (boolLit 117 rfl h89).2 ?_
              refine op0 (sp_move rfl rfl) rfl ⟨_, rfl, rfl⟩ rfl rfl ?_
              refine op0 (sp_neq rfl rfl rfl) rfl ⟨_, rfl, rfl⟩ rfl rfl ?_
              refine op0 (sp_pickF rfl rfl rfl) rfl trivial rfl rfl ?_
              refine op0 (sp_move rfl rfl) rfl trivial rfl rfl ?_
              rcases cond_cases h with ⟨h90, h⟩ | ⟨h90, h⟩
              · refine (boolLit 121 rfl h90).2 ?_
                refine opSkip rfl ⟨_, rfl, .inl rfl⟩ rfl ?_
                refine opSkip rfl ⟨_, rfl, .inl rfl⟩ rfl ?_
                refine opSkip rfl ⟨_, rfl, .inl rfl⟩ rfl ?_
                refine opSkip rfl ⟨_, rfl, .inl rfl⟩ rfl ?_
                refine opSkip rfl ⟨_, rfl, .inl rfl⟩ rfl ?_
                refine opSkip rfl ⟨_, rfl, .inl rfl⟩ rfl ?_
                refine op0 (sp_pickT rfl rfl rfl) rfl trivial rfl rfl ?_
                refine op0 (sp_move rfl rfl) rfl trivial rfl rfl ?_
                refine opSkip rfl ⟨_, rfl, .inl rfl⟩ rfl ?_
                refine opSkip rfl ⟨_, rfl, .inl rfl⟩ rfl ?_
                refine opSkip rfl ⟨_, rfl, .inl rfl⟩ rfl ?_
                refine opSkip rfl ⟨_, rfl, .inr rfl⟩ rfl ?_
                refine opSkip rfl ⟨_, rfl, .inr rfl⟩ rfl ?_
                refine opSkip rfl ⟨_, rfl, .inr rfl⟩ rfl ?_
                refine opSkip rfl ⟨_, rfl, .inr rfl⟩ rfl ?_
                refine opSkip rfl ⟨_, rfl, .inr rfl⟩ rfl ?_
                refine opSkip rfl ⟨_, rfl, .inr rfl⟩ rfl ?_
                refine opSkip rfl ⟨_, rfl, .inl rfl⟩ rfl ?_
                refine op0 (sp_pickT rfl rfl rfl) rfl trivial rfl rfl ?_
                refine TL.nil ?_
                refine TC.condT rfl ?_
                refine TC.seq ?_
                refine TC.region ?_
                refine op0 (sp_assign rfl rfl) rfl trivial rfl rfl ?_
                refine TL.nil ?_
                cases h
                exact retJ [] (.tmp rfl .nil) rfl trivial rfl rfl
              · refine (boolLit 121 rfl h90).2 ?_
                refine op0 (sp_move rfl rfl) rfl ⟨_, rfl, rfl⟩ rfl rfl ?_
                refine op1 0 rfl (sp_lenM (N := r14.1.length) (len_map _ _) rfl rfl isOwn Try.underlying50) rfl ⟨_, rfl, rfl⟩ rfl rfl ?_
                refine op0 (sp_move rfl rfl) rfl ⟨_, rfl, rfl⟩ rfl rfl ?_
                refine op0 (sp_move rfl rfl) rfl ⟨_, rfl, rfl⟩ rfl rfl ?_
                obtain ⟨h91, h⟩ := chk_inv h
                refine op0 (sp_sub rfl rfl rfl h91) rfl ⟨_, rfl, rfl⟩ rfl rfl ?_
                refine op0 (sp_neq rfl rfl rfl) rfl ⟨_, rfl, rfl⟩ rfl rfl ?_
                refine op0 (sp_pickF rfl rfl rfl) rfl trivial rfl rfl ?_
                refine op0 (sp_move rfl rfl) rfl trivial rfl rfl ?_
                rcases cond_cases h with ⟨h92, h⟩ | ⟨h92, h⟩
                · refine (boolLit 129 rfl h92).2 ?_
                  refine opSkip rfl ⟨_, rfl, .inl rfl⟩ rfl ?_
                  refine opSkip rfl ⟨_, rfl, .inl rfl⟩ rfl ?_
                  refine opSkip rfl ⟨_, rfl, .inl rfl⟩ rfl ?_
                  refine opSkip rfl ⟨_, rfl, .inr rfl⟩ rfl ?_
                  refine opSkip rfl ⟨_, rfl, .inr rfl⟩ rfl ?_
                  refine opSkip rfl ⟨_, rfl, .inr rfl⟩ rfl ?_
                  refine opSkip rfl ⟨_, rfl, .inr rfl⟩ rfl ?_
                  refine opSkip rfl ⟨_, rfl, .inr rfl⟩ rfl ?_
                  refine opSkip rfl ⟨_, rfl, .inr rfl⟩ rfl ?_
                  refine opSkip rfl ⟨_, rfl, .inl rfl⟩ rfl ?_
                  refine op0 (sp_pickT rfl rfl rfl) rfl trivial rfl rfl ?_
                  refine TL.nil ?_
                  refine TC.condT rfl ?_
                  refine TC.seq ?_
                  refine TC.region ?_
                  refine op0 (sp_assign rfl rfl) rfl trivial rfl rfl ?_
                  refine TL.nil ?_
                  cases h
                  exact retJ [] (.tmp rfl .nil) rfl trivial rfl rfl
                · refine (boolLit 129 rfl h92).2 ?_
                  refine op0 (sp_move rfl rfl) rfl ⟨_, rfl, rfl⟩ rfl rfl ?_
                  refine op0 (sp_eql rfl rfl rfl) rfl ⟨_, rfl, rfl⟩ rfl rfl ?_
                  refine op0 (sp_move rfl rfl) rfl ⟨_, rfl, rfl⟩ rfl rfl ?_
                  rcases cond_cases h with ⟨h93, h⟩ | ⟨h93, h⟩
                  · refine (boolLit 132 rfl h93).2 ?_
                    refine op0 (sp_move rfl rfl) rfl ⟨_, rfl, rfl⟩ rfl rfl ?_
                    refine op1 2 rfl (sp_lenM (N := r12.1.length) (len_map _ _) rfl rfl isOwn Try.underlying50) rfl ⟨_, rfl, rfl⟩ rfl rfl ?_
                    refine op0 (sp_move rfl rfl) rfl ⟨_, rfl, rfl⟩ rfl rfl ?_
                    refine op0 (sp_move rfl rfl) rfl ⟨_, rfl, rfl⟩ rfl rfl ?_
                    obtain ⟨h94, h⟩ := chk_inv h
                    refine op0 (sp_sub rfl rfl rfl h94) rfl ⟨_, rfl, rfl⟩ rfl rfl ?_
                    refine op0 (sp_neq rfl rfl rfl) rfl ⟨_, rfl, rfl⟩ rfl rfl ?_
                    refine op0 (sp_pickT rfl rfl rfl) rfl ⟨_, rfl, rfl⟩ rfl rfl ?_
                    refine op0 (sp_pickF rfl rfl rfl) rfl trivial rfl rfl ?_
                    refine TL.nil ?_
                    refine TC.cond (b := ((r12.1.length : Int) != (((at_4 + (Int.tmod at_6 21)) + (Int.tmod at_7 20)) - at_4))) rfl (fun h95 => ?_) (fun h95 => ?_)
                    · have h := cond_t h h95
                      refine TC.seq ?_
                      refine TC.region ?_
                      refine op0 (sp_assign rfl rfl) rfl trivial rfl rfl ?_
                      refine TL.nil ?_
                      cases h
                      exact retJ [] (.tmp rfl .nil) rfl trivial rfl rfl
                    · have h := cond_f h h95
                      refine subJ [] (ok_law05_StrikeTimes_j0 h) ?_ ?_ ?_
                      · exact ⟨rfl, trivial⟩
                      · exact ⟨mem_at 0 rfl, trivial⟩
                      · rfl
                  · refine (boolLit 132 rfl h93).2 ?_
                    refine opSkip rfl ⟨_, rfl, .inl rfl⟩ rfl ?_
                    refine opSkip rfl ⟨_, rfl, .inl rfl⟩ rfl ?_
                    refine opSkip rfl ⟨_, rfl, .inl rfl⟩ rfl ?_
                    refine opSkip rfl ⟨_, rfl, .inl rfl⟩ rfl ?_
                    refine opSkip rfl ⟨_, rfl, .inl rfl⟩ rfl ?_
                    refine opSkip rfl ⟨_, rfl, .inl rfl⟩ rfl ?_
                    refine op0 (sp_pickF rfl rfl rfl) rfl ⟨_, rfl, rfl⟩ rfl rfl ?_
                    refine op0 (sp_pickF rfl rfl rfl) rfl trivial rfl rfl ?_
                    refine TL.nil ?_
                    refine TC.condF rfl ?_
                    refine subJ [] (ok_law05_StrikeTimes_j0 h) ?_ ?_ ?_
                    · exact ⟨rfl, trivial⟩
                    · exact ⟨mem_at 0 rfl, trivial⟩
                    · rfl
      · refine (boolLit 104 rfl h86).2 ?_
        refine opSkip rfl ⟨_, rfl, .inl rfl⟩ rfl ?_
        refine opSkip rfl ⟨_, rfl, .inl rfl⟩ rfl ?_
        refine opSkip rfl ⟨_, rfl, .inl rfl⟩ rfl ?_
        refine opSkip rfl ⟨_, rfl, .inr rfl⟩ rfl ?_
        refine opSkip rfl ⟨_, rfl, .inr rfl⟩ rfl ?_
        refine opSkip rfl ⟨_, rfl, .inl rfl⟩ rfl ?_
        refine op0 (sp_pickF rfl rfl rfl) rfl ⟨_, rfl, rfl⟩ rfl rfl ?_
        refine op0 (sp_pickF rfl rfl rfl) rfl trivial rfl rfl ?_
        refine op0 (sp_move rfl rfl) rfl trivial rfl rfl ?_
        refine op0 (sp_move rfl rfl) rfl ⟨_, rfl, rfl⟩ rfl rfl ?_
        refine op0 (sp_neq rfl rfl rfl) rfl ⟨_, rfl, rfl⟩ rfl rfl ?_
        refine op0 (sp_pickF rfl rfl rfl) rfl trivial rfl rfl ?_
        refine op0 (sp_move rfl rfl) rfl trivial rfl rfl ?_
        rcases cond_cases h with ⟨h96, h⟩ | ⟨h96, h⟩
        · refine (boolLit 117 rfl h96).2 ?_
          refine opSkip rfl ⟨_, rfl, .inl rfl⟩ rfl ?_
          refine opSkip rfl ⟨_, rfl, .inl rfl⟩ rfl ?_
          refine op0 (sp_pickT rfl rfl rfl) rfl trivial rfl rfl ?_
          refine op0 (sp_move rfl rfl) rfl trivial rfl rfl ?_
          refine opSkip rfl ⟨_, rfl, .inl rfl⟩ rfl ?_
          refine opSkip rfl ⟨_, rfl, .inl rfl⟩ rfl ?_
          refine opSkip rfl ⟨_, rfl, .inl rfl⟩ rfl ?_
          refine opSkip rfl ⟨_, rfl, .inl rfl⟩ rfl ?_
          refine opSkip rfl ⟨_, rfl, .inl rfl⟩ rfl ?_
          refine opSkip rfl ⟨_, rfl, .inl rfl⟩ rfl ?_
          refine op0 (sp_pickT rfl rfl rfl) rfl trivial rfl rfl ?_
          refine op0 (sp_move rfl rfl) rfl trivial rfl rfl ?_
          refine opSkip rfl ⟨_, rfl, .inl rfl⟩ rfl ?_
          refine opSkip rfl ⟨_, rfl, .inl rfl⟩ rfl ?_
          refine opSkip rfl ⟨_, rfl, .inl rfl⟩ rfl ?_
          refine opSkip rfl ⟨_, rfl, .inr rfl⟩ rfl ?_
          refine opSkip rfl ⟨_, rfl, .inr rfl⟩ rfl ?_
          refine opSkip rfl ⟨_, rfl, .inr rfl⟩ rfl ?_
          refine opSkip rfl ⟨_, rfl, .inr rfl⟩ rfl ?_
          refine opSkip rfl ⟨_, rfl, .inr rfl⟩ rfl ?_
          refine opSkip rfl ⟨_, rfl, .inr rfl⟩ rfl ?_
          refine opSkip rfl ⟨_, rfl, .inl rfl⟩ rfl ?_
          refine op0 (sp_pickT rfl rfl rfl) rfl trivial rfl rfl ?_
          refine TL.nil ?_
          refine TC.condT rfl ?_
          refine TC.seq ?_
          refine TC.region ?_
          refine op0 (sp_assign rfl rfl) rfl trivial rfl rfl ?_
          refine TL.nil ?_
          cases h
          exact retJ [] (.tmp rfl .nil) rfl trivial rfl rfl
        · refine (boolLit 117 rfl h96).2 ?_
          refine op0 (sp_move rfl rfl) rfl ⟨_, rfl, rfl⟩ rfl rfl ?_
          refine op0 (sp_neq rfl rfl rfl) rfl ⟨_, rfl, rfl⟩ rfl rfl ?_
          refine op0 (sp_pickF rfl rfl rfl) rfl trivial rfl rfl ?_
          refine op0 (sp_move rfl rfl) rfl trivial rfl rfl ?_
          rcases cond_cases h with ⟨h97, h⟩ | ⟨h97, h⟩
          · refine (boolLit 121 rfl h97).2 ?_
            refine opSkip rfl ⟨_, rfl, .inl rfl⟩ rfl ?_
            refine opSkip rfl ⟨_, rfl, .inl rfl⟩ rfl ?_
            refine opSkip rfl ⟨_, rfl, .inl rfl⟩ rfl ?_
            refine opSkip rfl ⟨_, rfl, .inl rfl⟩ rfl ?_
            refine opSkip rfl ⟨_, rfl, .inl rfl⟩ rfl ?_
            refine opSkip rfl ⟨_, rfl, .inl rfl⟩ rfl ?_
            refine op0 (sp_pickT rfl rfl rfl) rfl trivial rfl rfl ?_
            refine op0 (sp_move rfl rfl) rfl trivial rfl rfl ?_
            refine opSkip rfl ⟨_, rfl, .inl rfl⟩ rfl ?_
            refine opSkip rfl ⟨_, rfl, .inl rfl⟩ rfl ?_
            refine opSkip rfl ⟨_, rfl, .inl rfl⟩ rfl ?_
            refine opSkip rfl ⟨_, rfl, .inr rfl⟩ rfl ?_
            refine opSkip rfl ⟨_, rfl, .inr rfl⟩ rfl ?_
            refine opSkip rfl ⟨_, rfl, .inr rfl⟩ rfl ?_
            refine opSkip rfl ⟨_, rfl, .inr rfl⟩ rfl ?_
            refine opSkip rfl ⟨_, rfl, .inr rfl⟩ rfl ?_
            refine opSkip rfl ⟨_, rfl, .inr rfl⟩ rfl ?_
            refine opSkip rfl ⟨_, rfl, .inl rfl⟩ rfl ?_
            refine op0 (sp_pickT rfl rfl rfl) rfl trivial rfl rfl ?_
            refine TL.nil ?_
            refine TC.condT rfl ?_
            refine TC.seq ?_
            refine TC.region ?_
            refine op0 (sp_assign rfl rfl) rfl trivial rfl rfl ?_
            refine TL.nil ?_
            cases h
            exact retJ [] (.tmp rfl .nil) rfl trivial rfl rfl
          · refine (boolLit 121 rfl h97).2 ?_
            refine op0 (sp_move rfl rfl) rfl ⟨_, rfl, rfl⟩ rfl rfl ?_
            refine op1 0 rfl (sp_lenM (N := r14.1.length) (len_map _ _) rfl rfl isOwn Try.underlying50) rfl ⟨_, rfl, rfl⟩ rfl rfl ?_
            refine op0 (sp_move rfl rfl) rfl ⟨_, rfl, rfl⟩ rfl rfl ?_
            refine op0 (sp_move rfl rfl) rfl ⟨_, rfl, rfl⟩ rfl rfl ?_
            obtain ⟨h98, h⟩ := chk_inv h
            refine op0 (sp_sub rfl rfl rfl h98) rfl ⟨_, rfl, rfl⟩ rfl rfl ?_
            refine op0 (sp_neq rfl rfl rfl) rfl ⟨_, rfl, rfl⟩ rfl rfl ?_
            refine op0 (sp_pickF rfl rfl rfl) rfl trivial rfl rfl ?_
            refine op0 (sp_move rfl rfl) rfl trivial rfl rfl ?_
            rcases cond_cases h with ⟨h99, h⟩ | ⟨h99, h⟩
            · refine (boolLit 129 rfl h99).2 ?_
              refine opSkip rfl ⟨_, rfl, .inl rfl⟩ rfl ?_
              refine opSkip rfl ⟨_, rfl, .inl rfl⟩ rfl ?_
              refine opSkip rfl ⟨_, rfl, .inl rfl⟩ rfl ?_
              refine opSkip rfl ⟨_, rfl, .inr rfl⟩ rfl ?_
              refine opSkip rfl ⟨_, rfl, .inr rfl⟩ rfl ?_
              refine opSkip rfl ⟨_, rfl, .inr rfl⟩ rfl ?_
              refine opSkip rfl ⟨_, rfl, .inr rfl⟩ rfl ?_
              refine opSkip rfl ⟨_, rfl, .inr rfl⟩ rfl ?_
              refine opSkip rfl ⟨_, rfl, .inr rfl⟩ rfl ?_
              refine opSkip rfl ⟨_, rfl, .inl rfl⟩ rfl ?_
              refine op0 (sp_pickT rfl rfl rfl) rfl trivial rfl rfl ?_
              refine TL.nil ?_
              refine TC.condT rfl ?_
              refine TC.seq ?_
              refine TC.region ?_
              refine op0 (sp_assign rfl rfl) rfl trivial rfl rfl ?_
              refine TL.nil ?_
              cases h
              exact retJ [] (.tmp rfl .nil) rfl trivial rfl rfl
            · refine (boolLit 129 rfl h99).2 ?_
              refine op0 (sp_move rfl rfl) rfl ⟨_, rfl, rfl⟩ rfl rfl ?_
              refine op0 (sp_eql rfl rfl rfl) rfl ⟨_, rfl, rfl⟩ rfl rfl ?_
              refine op0 (sp_move rfl rfl) rfl ⟨_, rfl, rfl⟩ rfl rfl ?_
              rcases cond_cases h with ⟨h100, h⟩ | ⟨h100, h⟩
              · refine (boolLit 132 rfl h100).2 ?_
                refine op0 (sp_move rfl rfl) rfl ⟨_, rfl, rfl⟩ rfl rfl ?_
                refine op1 2 rfl (sp_lenM (N := r12.1.length) (len_map _ _) rfl rfl isOwn Try.underlying50) rfl ⟨_, rfl, rfl⟩ rfl rfl ?_
                refine op0 (sp_move rfl rfl) rfl ⟨_, rfl, rfl⟩ rfl rfl ?_
                refine op0 (sp_move rfl rfl) rfl ⟨_, rfl, rfl⟩ rfl rfl ?_
                obtain ⟨h101, h⟩ := chk_inv h
                refine op0 (sp_sub rfl rfl rfl h101) rfl ⟨_, rfl, rfl⟩ rfl rfl ?_
                refine op0 (sp_neq rfl rfl rfl) rfl ⟨_, rfl, rfl⟩ rfl rfl ?_
                refine op0 (sp_pickT rfl rfl rfl) rfl ⟨_, rfl, rfl⟩ rfl rfl ?_
                refine op0 (sp_pickF rfl rfl rfl) rfl trivial rfl rfl ?_
                refine TL.nil ?_
                refine TC.cond (b := ((r12.1.length : Int) != (((at_4 + (Int.tmod at_6 21)) + (Int.tmod at_7 20)) - at_4))) rfl (fun h102 => ?_) (fun h102 => ?_)
                · have h := cond_t h h102
                  refine TC.seq ?_
                  refine TC.region ?_
                  refine op0 (sp_assign rfl rfl) rfl trivial rfl rfl ?_
                  refine TL.nil ?_
                  cases h
                  exact retJ [] (.tmp rfl .nil) rfl trivial rfl rfl
                · have h := cond_f h h102
                  refine subJ [] (ok_law05_StrikeTimes_j0 h) ?_ ?_ ?_
                  · exact ⟨rfl, trivial⟩
                  · exact ⟨mem_at 0 rfl, trivial⟩
                  · rfl
              · refine (boolLit 132 rfl h100).2 ?_
                refine opSkip rfl ⟨_, rfl, .inl rfl⟩ rfl ?_
                refine opSkip rfl ⟨_, rfl, .inl rfl⟩ rfl ?_
                refine opSkip rfl ⟨_, rfl, .inl rfl⟩ rfl ?_
                refine opSkip rfl ⟨_, rfl, .inl rfl⟩ rfl ?_
                refine opSkip rfl ⟨_, rfl, .inl rfl⟩ rfl ?_
                refine opSkip rfl ⟨_, rfl, .inl rfl⟩ rfl ?_
                refine op0 (sp_pickF rfl rfl rfl) rfl ⟨_, rfl, rfl⟩ rfl rfl ?_
                refine op0 (sp_pickF rfl rfl rfl) rfl trivial rfl rfl ?_
                refine TL.nil ?_
                refine TC.condF rfl ?_
                refine subJ [] (ok_law05_StrikeTimes_j0 h) ?_ ?_ ?_
                · exact ⟨rfl, trivial⟩
                · exact ⟨mem_at 0 rfl, trivial⟩
                · rfl
end
end Go.Proofs.Ytglgkcfgjaoabaa.Sy
