/- What functions of the program compute, and that they do: printed by symgen.py. -/
import Derived.Test.YtmgcinejodpopaaGLib
import Derived.Test.YtmgcinejodpopaaGBook
import Derived.Test.YtmgcinejodpopaaGPart
set_option linter.unusedSimpArgs false
set_option linter.unusedVariables false
namespace Go.Proofs.Ytmgcinejodpopaa.Sy
open Go.RowKit
noncomputable section

/- top_TopSparesBook -/
def ev_top_TopSparesBook_l1 (n : Nat) (x39 : Int × Int × Int) (x40 : Int × Int × Int) (x38 : Int × Int × Int) (v17 : Int) (i20 : Int) (i21 : Int) (i22 : Int) (i23 : Int) (i24 : Int) (i25 : Int) (i26 : Int) (i27 : Int) (i28 : Int) (i29 : Int) (i30 : Int) (i31 : Int) (i32 : Int) (i33 : Int) (i34 : Int) (i35 : Int) (i36 : Int) (l37 : List (Int × Int × Int)) (k_top_TopSparesBook_l0 : Int → Int → Int → Int → Int → Int → Int → Int → Int → Int → Int → Int → Int → Int → Int → Int → Int → Int → (List (Int × Int × Int)) → Option Bool) : Nat → Int → Int → Option Bool
  | 0, _, _ => none
  | m + 1, i41, i42 => cond (decide (i42 < ((Int.tmod x39.2.1 60) + (Int.tmod x40.2.2 100)))) (chk (in64 (i41 + x38.1)) <| chk (in64 (i42 + ((1 : Int) + (Int.tmod v17 20)))) <| ev_top_TopSparesBook_l1 n x39 x40 x38 v17 i20 i21 i22 i23 i24 i25 i26 i27 i28 i29 i30 i31 i32 i33 i34 i35 i36 l37 k_top_TopSparesBook_l0 m (i41 + x38.1) (i42 + ((1 : Int) + (Int.tmod v17 20)))) (chk (in64 (i20 + 1)) <| k_top_TopSparesBook_l0 i41 (i20 + 1) i21 i22 i23 i24 i25 i26 i27 i28 i29 i30 i31 i32 i33 i34 i35 i36 (l37 ++ ([(x38.1, (Int.tmod x39.2.1 60), ((Int.tmod x39.2.1 60) + (Int.tmod x40.2.2 100)))] : List (Int × Int × Int))))
set_option maxRecDepth 100000 in
set_option maxHeartbeats 2000000 in
theorem ok_top_TopSparesBook_l1 {n : Nat} {w0 : World} {R0 : Nat → Prop} {env0 : Env} {r : Bool} {v18 : Int} {v17 : Int} {x38 : Int × Int × Int} {x39 : Int × Int × Int} {x40 : Int × Int × Int} {i20 : Int} {i21 : Int} {i22 : Int} {i23 : Int} {i24 : Int} {i25 : Int} {i26 : Int} {i27 : Int} {i28 : Int} {i29 : Int} {i30 : Int} {i31 : Int} {i32 : Int} {i33 : Int} {i34 : Int} {i35 : Int} {i36 : Int} {l37 : List (Int × Int × Int)} {k_top_TopSparesBook_l0 : Int → Int → Int → Int → Int → Int → Int → Int → Int → Int → Int → Int → Int → Int → Int → Int → Int → Int → (List (Int × Int × Int)) → Option Bool} (hk_top_TopSparesBook_l0 : ∀ (i19 : Int) (i20 : Int) (i21 : Int) (i22 : Int) (i23 : Int) (i24 : Int) (i25 : Int) (i26 : Int) (i27 : Int) (i28 : Int) (i29 : Int) (i30 : Int) (i31 : Int) (i32 : Int) (i33 : Int) (i34 : Int) (i35 : Int) (i36 : Int) (l37 : List (Int × Int × Int)), k_top_TopSparesBook_l0 i19 i20 i21 i22 i23 i24 i25 i26 i27 i28 i29 i30 i31 i32 i33 i34 i35 i36 l37 = some r → TC Try.prog ⟨w0, fun _ => False, R0⟩ 186 (bodyPost Try.prog Try.f4 (Post ⟨w0, fun _ => False, R0⟩ env0 (.val (.bool r)) [])) [.code (sub (bodyOf Try.f4) [1, 1, 1, 0, 1, 0, 0, 0, 0]), .code (sub (bodyOf Try.f4) [1, 1, 1, 0, 1, 0, 0, 0, 1]), .code (sub (bodyOf Try.f4) [1, 1, 1, 0, 1, 0, 0, 1]), .inLoop (sub (bodyOf Try.f4) [1, 1, 1, 0, 1, 0, 0]), .inBlock 0, .code (sub (bodyOf Try.f4) [1, 1, 1, 1])] ([(3, .ptr 0 0), (4, .ptr 1 0), (8, .val (.int .u8 v18)), (9, .val (.int .i64 ((1 : Int) + (Int.tmod v17 20)))), (10, .ref 3), (11, .val (.int .i64 i19)), (12, .val (.int .i64 i20))]) ([.blk 0 [.val (.int .u8 i21), .val (.int .u8 i22), .val (.int .u8 i23), .val (.int .u8 i24), .val (.int .u8 i25), .val (.int .u8 i26), .val (.int .u8 i27), .val (.int .u8 i28), .val (.int .u8 i29), .val (.int .u8 i30), .val (.int .u8 i31), .val (.int .u8 i32)] 43, .blk 1 [.val (.int .u8 i33), .val (.int .u8 i34), .val (.int .u8 i35), .val (.int .u8 i36)] 44, .row 3 48 3 (List.map en_api_PartContract l37)])) : ∀ (m : Nat) (i41 : Int) (i42 : Int), ev_top_TopSparesBook_l1 n x39 x40 x38 v17 i20 i21 i22 i23 i24 i25 i26 i27 i28 i29 i30 i31 i32 i33 i34 i35 i36 l37 k_top_TopSparesBook_l0 m i41 i42 = some r → TC Try.prog ⟨w0, fun _ => False, R0⟩ 186 (bodyPost Try.prog Try.f4 (Post ⟨w0, fun _ => False, R0⟩ env0 (.val (.bool r)) [])) [.code (sub (bodyOf Try.f4) [1, 1, 1, 0, 1, 0, 0, 1, 0, 0, 1, 1, 1, 1, 0, 0, 0, 0]), .code (sub (bodyOf Try.f4) [1, 1, 1, 0, 1, 0, 0, 1, 0, 0, 1, 1, 1, 1, 0, 0, 0, 1]), .code (sub (bodyOf Try.f4) [1, 1, 1, 0, 1, 0, 0, 1, 0, 0, 1, 1, 1, 1, 0, 0, 1]), .inLoop (sub (bodyOf Try.f4) [1, 1, 1, 0, 1, 0, 0, 1, 0, 0, 1, 1, 1, 1, 0, 0]), .inBlock 2, .inBlock 1, .code (sub (bodyOf Try.f4) [1, 1, 1, 0, 1, 0, 0, 1, 1]), .inLoop (sub (bodyOf Try.f4) [1, 1, 1, 0, 1, 0, 0]), .inBlock 0, .code (sub (bodyOf Try.f4) [1, 1, 1, 1])] ([(3, .ptr 0 0), (4, .ptr 1 0), (8, .val (.int .u8 v18)), (9, .val (.int .i64 ((1 : Int) + (Int.tmod v17 20)))), (10, .ref 6), (11, .val (.int .i64 i41)), (12, .val (.int .i64 i20)), (13, .ptr 4 0), (14, .val (.int .i64 i42))]) ([.blk 0 [.val (.int .u8 i21), .val (.int .u8 i22), .val (.int .u8 i23), .val (.int .u8 i24), .val (.int .u8 i25), .val (.int .u8 i26), .val (.int .u8 i27), .val (.int .u8 i28), .val (.int .u8 i29), .val (.int .u8 i30), .val (.int .u8 i31), .val (.int .u8 i32)] 43, .blk 1 [.val (.int .u8 i33), .val (.int .u8 i34), .val (.int .u8 i35), .val (.int .u8 i36)] 44, .row 6 48 3 (List.map en_api_PartContract (l37 ++ ([(x38.1, (Int.tmod x39.2.1 60), ((Int.tmod x39.2.1 60) + (Int.tmod x40.2.2 100)))] : List (Int × Int × Int)))), .blk 4 [.val (.int .i64 x38.1), .val (.int .i64 (Int.tmod x39.2.1 60)), .val (.int .i64 ((Int.tmod x39.2.1 60) + (Int.tmod x40.2.2 100)))] 48]) := by
  intro m
  induction m with
  | zero => intro i41 i42 h; exact none_no h
  | succ m ih =>
    intro i41 i42 h
    rw [ev_top_TopSparesBook_l1] at h
    refine TC.region ?_
    refine op0 (sp_move rfl rfl) rfl trivial rfl rfl ?_
    refine op1 3 rfl (sp_fieldAddrB rfl isBlk rfl ft48_2 vt3 (by decide)) rfl trivial rfl rfl ?_
    refine op1 3 rfl (sp_loadB rfl isBlk rfl vt3 rfl) rfl trivial rfl rfl ?_
    refine op0 (sp_lss rfl rfl rfl) rfl trivial rfl rfl ?_
    refine TL.nil ?_
    refine TC.cond (b := (decide (i42 < ((Int.tmod x39.2.1 60) + (Int.tmod x40.2.2 100))))) rfl (fun h19 => ?_) (fun h19 => ?_)
    · have h := cond_t h h19
      refine TC.skip ?_
      refine TC.seq ?_
      refine TC.block ?_
      refine TC.region ?_
      refine op0 (sp_move rfl rfl) rfl trivial rfl rfl ?_
      refine op1 3 rfl (sp_fieldAddrB rfl isBlk rfl ft48_0 vt3 (by decide)) rfl trivial rfl rfl ?_
      refine op1 3 rfl (sp_loadB rfl isBlk rfl vt3 rfl) rfl trivial rfl rfl ?_
      obtain ⟨h20, h⟩ := chk_inv h
      refine op0 (sp_add rfl rfl rfl h20) rfl trivial rfl rfl ?_
      refine op0 (sp_assign rfl rfl) rfl trivial rfl rfl ?_
      refine TL.nil ?_
      refine TC.inBlock ?_
      refine TC.region ?_
      refine op0 (sp_move rfl rfl) rfl trivial rfl rfl ?_
      refine op0 (sp_move rfl rfl) rfl trivial rfl rfl ?_
      obtain ⟨h21, h⟩ := chk_inv h
      refine op0 (sp_add rfl rfl rfl h21) rfl trivial rfl rfl ?_
      refine op0 (sp_assign rfl rfl) rfl trivial rfl rfl ?_
      refine TL.nil ?_
      refine TC.inLoop ?_
      refine TC.seq ?_
      refine TC.seq ?_
      refine subJ [] (ih _ _ h) ?_ ?_ ?_
      · exact ⟨rfl, rfl, rfl, rfl, rfl, rfl, rfl, rfl, rfl, trivial⟩
      · exact ⟨mem_at 0 rfl, mem_at 1 rfl, mem_at 2 rfl, mem_at 3 rfl, trivial⟩
      · rfl
    · have h := cond_f h h19
      refine TC.exit rfl ?_
      refine TC.inBlock ?_
      refine TC.region ?_
      refine op0 (sp_move rfl rfl) rfl trivial rfl rfl ?_
      obtain ⟨h22, h⟩ := chk_inv h
      refine op0 (sp_add rfl rfl rfl h22) rfl trivial rfl rfl ?_
      refine op0 (sp_assign rfl rfl) rfl trivial rfl rfl ?_
      refine TL.nil ?_
      refine TC.inLoop ?_
      refine TC.seq ?_
      refine TC.seq ?_
      refine subJ [(3, 6)] (hk_top_TopSparesBook_l0 _ _ _ _ _ _ _ _ _ _ _ _ _ _ _ _ _ _ _ h) ?_ ?_ ?_
      · exact ⟨rfl, rfl, rfl, rfl, rfl, rfl, rfl, trivial⟩
      · exact ⟨mem_at 0 rfl, mem_at 1 rfl, mem_at 2 rfl, trivial⟩
      · rfl
def ev_top_TopSparesBook_l4 (n : Nat) (v18 : Int) (i19 : Int) : Nat → Int → (List Int) → (List Int) → (List (Int × Int × Int × Int)) → Option Bool
  | 0, _, _, _, _ => none
  | m + 1, i54, l55, l56, l57 => cond (decide (i54 < (l56.length : Int))) (idx l56 i54 fun x58 => cond (decide (x58 < 0)) (some false) (cond (decide ((0 : Int) < x58)) (idx l55 i54 fun x59 => chk (in64 ((100 : Int) * x59)) <| chk (in64 v18) <| chk (in64 ((1 : Int) + (Int.tmod v18 9))) <| chk (in64 (x58 * ((1 : Int) + (Int.tmod v18 9)))) <| chk (room 32 (l57.length + ([(i54, ((100 : Int) * x59), 0, (x58 * ((1 : Int) + (Int.tmod v18 9))))] : List (Int × Int × Int × Int)).length)) <| chk (in64 (i54 + 1)) <| ev_top_TopSparesBook_l4 n v18 i19 m (i54 + 1) l55 l56 (l57 ++ ([(i54, ((100 : Int) * x59), 0, (x58 * ((1 : Int) + (Int.tmod v18 9))))] : List (Int × Int × Int × Int)))) (chk (in64 (i54 + 1)) <| ev_top_TopSparesBook_l4 n v18 i19 m (i54 + 1) l55 l56 l57))) ((ev_book_Accounts n ([0] : List Int) l57).bind fun r60 => cond (r60.2.2 == 0) (cond ((r60.1.length : Int) == 1) (idx r60.1 0 fun x61 => chk (in64 v18) <| chk (in64 ((1 : Int) + (Int.tmod v18 9))) <| chk (in64 (i19 * ((1 : Int) + (Int.tmod v18 9)))) <| cond (x61 == (i19 * ((1 : Int) + (Int.tmod v18 9)))) ((ev_top_pubParts n).bind fun r62 => cond r62 ((ev_top_pubBook n).bind fun r63 => some r63) (some false)) (some false)) (some false)) (some false))
set_option maxRecDepth 100000 in
set_option maxHeartbeats 2000000 in
theorem ok_top_TopSparesBook_l4 {n : Nat} {w0 : World} {R0 : Nat → Prop} {env0 : Env} {r : Bool} {v18 : Int} {i19 : Int} : ∀ (m : Nat) (i54 : Int) (l55 : List Int) (l56 : List Int) (l57 : List (Int × Int × Int × Int)), ev_top_TopSparesBook_l4 n v18 i19 m i54 l55 l56 l57 = some r → TC Try.prog ⟨w0, fun _ => False, R0⟩ 186 (bodyPost Try.prog Try.f4 (Post ⟨w0, fun _ => False, R0⟩ env0 (.val (.bool r)) [])) [.code (sub (bodyOf Try.f4) [1, 1, 1, 1, 1, 1, 1, 1, 1, 0, 1, 0, 0, 0, 0]), .code (sub (bodyOf Try.f4) [1, 1, 1, 1, 1, 1, 1, 1, 1, 0, 1, 0, 0, 0, 1]), .code (sub (bodyOf Try.f4) [1, 1, 1, 1, 1, 1, 1, 1, 1, 0, 1, 0, 0, 1]), .inLoop (sub (bodyOf Try.f4) [1, 1, 1, 1, 1, 1, 1, 1, 1, 0, 1, 0, 0]), .inBlock 6, .code (sub (bodyOf Try.f4) [1, 1, 1, 1, 1, 1, 1, 1, 1, 1])] ([(8, .val (.int .u8 v18)), (11, .val (.int .i64 i19)), (15, .ref 7), (17, .ref 12), (19, .ref 13), (20, .val (.int .i64 i54))]) ([.row 7 3 1 (List.map en_int l55), .row 12 3 1 (List.map en_int l56), .row 13 52 4 (List.map en_api_BookCard l57)]) := by
  intro m
  induction m with
  | zero => intro i54 l55 l56 l57 h; exact none_no h
  | succ m ih =>
    intro i54 l55 l56 l57 h
    rw [ev_top_TopSparesBook_l4] at h
    refine TC.region ?_
    refine op0 (sp_move rfl rfl) rfl trivial rfl rfl ?_
    refine op0 (sp_move rfl rfl) rfl trivial rfl rfl ?_
    refine op1 1 rfl (sp_lenM (N := l56.length) (len_map _ _) rfl rfl isOwn Try.underlying37) rfl trivial rfl rfl ?_
    refine op0 (sp_lss rfl rfl rfl) rfl trivial rfl rfl ?_
    refine TL.nil ?_
    refine TC.cond (b := (decide (i54 < (l56.length : Int)))) rfl (fun h40 => ?_) (fun h40 => ?_)
    · have h := cond_t h h40
      refine TC.skip ?_
      refine TC.seq ?_
      refine TC.block ?_
      refine TC.seq ?_
      refine TC.seq ?_
      refine TC.region ?_
      refine op0 (sp_move rfl rfl) rfl trivial rfl rfl ?_
      refine op0 (sp_move rfl rfl) rfl trivial rfl rfl ?_
      obtain ⟨x58, h41, h42, h⟩ := idx_inv h
      refine op1 1 rfl (sp_indexS rfl rfl rfl isOwn sl37 h41 (map_get _ h42)) rfl trivial rfl rfl ?_
      refine op1 1 rfl (sp_loadR (i := (i54 : Int).toNat) (j := 0) rfl rfl isOwn vt3 rfl (map_get _ h42) rfl (.v (.nil)) (nodup_of_B rfl)) rfl trivial rfl rfl ?_
      refine op0 (sp_lss rfl rfl rfl) rfl trivial rfl rfl ?_
      refine TL.nil ?_
      refine TC.cond (b := (decide (x58 < 0))) rfl (fun h43 => ?_) (fun h43 => ?_)
      · have h := cond_t h h43
        refine TC.seq ?_
        refine TC.region ?_
        refine op0 (sp_assign rfl rfl) rfl trivial rfl rfl ?_
        refine TL.nil ?_
        cases h
        exact retJ [] (.tmp rfl .nil) rfl trivial rfl rfl
      · have h := cond_f h h43
        refine TC.skip ?_
        refine TC.seq ?_
        refine TC.region ?_
        refine op0 (sp_move rfl rfl) rfl trivial rfl rfl ?_
        refine op0 (sp_move rfl rfl) rfl trivial rfl rfl ?_
        refine op1 1 rfl (sp_indexS rfl rfl rfl isOwn sl37 h41 (map_get _ h42)) rfl trivial rfl rfl ?_
        refine op1 1 rfl (sp_loadR (i := (i54 : Int).toNat) (j := 0) rfl rfl isOwn vt3 rfl (map_get _ h42) rfl (.v (.nil)) (nodup_of_B rfl)) rfl trivial rfl rfl ?_
        refine op0 (sp_gtr rfl rfl rfl) rfl trivial rfl rfl ?_
        refine TL.nil ?_
        refine TC.cond (b := (decide ((0 : Int) < x58))) rfl (fun h44 => ?_) (fun h44 => ?_)
        · have h := cond_t h h44
          obtain ⟨x59, h45, h46, h⟩ := idx_inv h
          obtain ⟨h47, h⟩ := chk_inv h
          obtain ⟨h48, h⟩ := chk_inv h
          obtain ⟨h49, h⟩ := chk_inv h
          obtain ⟨h50, h⟩ := chk_inv h
          refine drawJ 18 [⟨.ref 13, [], [], []⟩, ⟨.val (.int .i64 i54), [], [], []⟩, ⟨.ref 7, [], [], []⟩, ⟨.val (.int .i64 i54), [], [], []⟩, ⟨.cell 7 ((i54 : Int).toNat * 1), [], [.row 7 3 1 (List.map en_int l55)], []⟩, ⟨.val (.int .i64 x59), [], [.row 7 3 1 (List.map en_int l55)], []⟩, ⟨.val (.int .i64 ((100 : Int) * x59)), [], [], []⟩, ⟨.ref 12, [], [], []⟩, ⟨.val (.int .i64 i54), [], [], []⟩, ⟨.cell 12 ((i54 : Int).toNat * 1), [], [.row 12 3 1 (List.map en_int l56)], []⟩, ⟨.val (.int .i64 x58), [], [.row 12 3 1 (List.map en_int l56)], []⟩, ⟨.val (.int .u8 v18), [], [], []⟩, ⟨.val (.int .i64 v18), [], [], []⟩, ⟨.val (.int .i64 (Int.tmod v18 9)), [], [], []⟩, ⟨.val (.int .i64 ((1 : Int) + (Int.tmod v18 9))), [], [], []⟩, ⟨.val (.int .i64 (x58 * ((1 : Int) + (Int.tmod v18 9)))), [], [], []⟩, ⟨.agg [.val (.int .i64 i54), .val (.int .i64 ((100 : Int) * x59)), .val (.int .i64 0), .val (.int .i64 (x58 * ((1 : Int) + (Int.tmod v18 9))))], [], [], []⟩, ⟨.ref 14, [.row 14 52 4 (List.map en_api_BookCard ([(i54, ((100 : Int) * x59), 0, (x58 * ((1 : Int) + (Int.tmod v18 9))))] : List (Int × Int × Int × Int)))], [], []⟩] rfl ?_ rfl ?_ rfl ?_ ?_
          · kernel_rfl
          · kernel_rfl
          · exact DAll.op' (sp_move rfl rfl) trivial rfl (From.ok (ps := []) trivial) (DAll.op' (sp_move rfl rfl) trivial rfl (From.ok (ps := []) trivial) (DAll.op' (sp_move rfl rfl) trivial rfl (From.ok (ps := []) trivial) (DAll.op' (sp_move rfl rfl) trivial rfl (From.ok (ps := []) trivial) (DAll.op' (sp_indexS rfl rfl rfl isOwn sl37 h45 (map_get _ h46)) trivial rfl (From.ok (ps := [(none, 0)]) ⟨⟨rfl, rfl⟩, trivial⟩) (DAll.op' (sp_loadR (i := (i54 : Int).toNat) (j := 0) rfl rfl isOwn vt3 rfl (map_get _ h46) rfl (.v (.nil)) (nodup_of_B rfl)) trivial rfl (From.ok (ps := [(none, 0)]) ⟨⟨rfl, rfl⟩, trivial⟩) (DAll.op' (sp_mul rfl rfl rfl h47) trivial rfl (From.ok (ps := []) trivial) (DAll.op' (sp_move rfl rfl) trivial rfl (From.ok (ps := []) trivial) (DAll.op' (sp_move rfl rfl) trivial rfl (From.ok (ps := []) trivial) (DAll.op' (sp_indexS rfl rfl rfl isOwn sl37 h41 (map_get _ h42)) trivial rfl (From.ok (ps := [(none, 1)]) ⟨⟨rfl, rfl⟩, trivial⟩) (DAll.op' (sp_loadR (i := (i54 : Int).toNat) (j := 0) rfl rfl isOwn vt3 rfl (map_get _ h42) rfl (.v (.nil)) (nodup_of_B rfl)) trivial rfl (From.ok (ps := [(none, 1)]) ⟨⟨rfl, rfl⟩, trivial⟩) (DAll.op' (sp_move rfl rfl) trivial rfl (From.ok (ps := []) trivial) (DAll.op' (sp_conv rfl Try.underlying5 Try.underlying3 rfl h48) trivial rfl (From.ok (ps := []) trivial) (DAll.op' (sp_rem rfl rfl rfl (by decide)) trivial rfl (From.ok (ps := []) trivial) (DAll.op' (sp_add rfl rfl rfl h49) trivial rfl (From.ok (ps := []) trivial) (DAll.op' (sp_mul rfl rfl rfl h50) trivial rfl (From.ok (ps := []) trivial) (DAll.op' (sp_build (qs := [(0, .val (.int .i64 i54)), (1, .val (.int .i64 ((100 : Int) * x59))), (3, .val (.int .i64 (x58 * ((1 : Int) + (Int.tmod v18 9)))))]) rfl bt52 rfl rfl rfl rfl) trivial rfl (From.ok (ps := []) trivial) (DAll.op' (sp_buildSlice (qs := [.agg [.val (.int .i64 i54), .val (.int .i64 ((100 : Int) * x59)), .val (.int .i64 0), .val (.int .i64 (x58 * ((1 : Int) + (Int.tmod v18 9))))]]) (need := []) (els := List.map en_api_BookCard ([(i54, ((100 : Int) * x59), 0, (x58 * ((1 : Int) + (Int.tmod v18 9))))] : List (Int × Int × Int × Int))) 14 rfl sl50 (by decide) (by decide) rfl rfl rfl (.v (.v (.v (.v (.nil))))) (map_len fun _ => rfl) rfl rfl rfl) trivial rfl (From.ok (ps := []) trivial) (.nil))))))))))))))))))
          obtain ⟨h51, h⟩ := chk_inv h
          refine appM 3 0 (N := l57.length) (N2 := ([(i54, ((100 : Int) * x59), 0, (x58 * ((1 : Int) + (Int.tmod v18 9))))] : List (Int × Int × Int × Int)).length) 15 rfl rfl trivial rfl rfl rfl rfl rfl isOwn rfl sl50 (len_map _ _) (len_map _ _) h51 (map_app _ _ _) rfl ?_
          refine op0 (sp_assign rfl rfl) rfl trivial rfl rfl ?_
          refine TL.nil ?_
          refine TC.inBlock ?_
          refine TC.region ?_
          refine op0 (sp_move rfl rfl) rfl trivial rfl rfl ?_
          obtain ⟨h52, h⟩ := chk_inv h
          refine op0 (sp_add rfl rfl rfl h52) rfl trivial rfl rfl ?_
          refine op0 (sp_assign rfl rfl) rfl trivial rfl rfl ?_
          refine TL.nil ?_
          refine TC.inLoop ?_
          refine TC.seq ?_
          refine TC.seq ?_
          refine subJ [(13, 15)] (ih _ _ _ _ h) ?_ ?_ ?_
          · exact ⟨rfl, rfl, rfl, rfl, rfl, rfl, trivial⟩
          · exact ⟨mem_at 2 rfl, mem_at 3 rfl, mem_at 0 rfl, trivial⟩
          · rfl
        · have h := cond_f h h44
          refine TC.skip ?_
          refine TC.inBlock ?_
          refine TC.region ?_
          refine op0 (sp_move rfl rfl) rfl trivial rfl rfl ?_
          obtain ⟨h53, h⟩ := chk_inv h
          refine op0 (sp_add rfl rfl rfl h53) rfl trivial rfl rfl ?_
          refine op0 (sp_assign rfl rfl) rfl trivial rfl rfl ?_
          refine TL.nil ?_
          refine TC.inLoop ?_
          refine TC.seq ?_
          refine TC.seq ?_
          refine subJ [] (ih _ _ _ _ h) ?_ ?_ ?_
          · exact ⟨rfl, rfl, rfl, rfl, rfl, rfl, trivial⟩
          · exact ⟨mem_at 0 rfl, mem_at 1 rfl, mem_at 2 rfl, trivial⟩
          · rfl
    · have h := cond_f h h40
      refine TC.exit rfl ?_
      refine TC.seq ?_
      refine TC.region ?_
      refine op0 (sp_buildSlice (qs := [.val (.int .i64 0)]) (need := []) (els := List.map en_int ([0] : List Int)) 16 rfl sl37 (by decide) (by decide) rfl rfl rfl (.v (.nil)) (map_len fun _ => rfl) rfl rfl rfl) rfl trivial rfl rfl ?_
      refine op0 (sp_move rfl rfl) rfl trivial rfl rfl ?_
      obtain ⟨r60, h54, h⟩ := bind_inv h
      refine opN (need := [.row 16 3 1 (List.map en_int ([0] : List Int)), .row 13 52 4 (List.map en_api_BookCard l57)]) [0, 3] ⟨rfl, rfl, trivial⟩ (sp_call (avs := [.ref 16, .ref 13]) (need := [.row 16 3 1 (List.map en_int ([0] : List Int)), .row 13 52 4 (List.map en_api_BookCard l57)]) (v := .tup [.ref 17, .val (.int .i64 r60.2.1), .val (.int .i64 r60.2.2)]) (news := [.row 17 3 1 (List.map en_int r60.1)]) rfl rfl rfl Try.call20 (atJ [(0, 16), (1, 13)] [(0, 17)] (fc_book_Accounts h54) rfl rfl) (.inr (List.forall_mem_cons.2 ⟨indep_map en_int_flat, (by simp)⟩))) rfl trivial rfl rfl ?_
      refine op0 (sp_move rfl rfl) rfl trivial rfl rfl ?_
      refine op0 (sp_extract rfl rfl rfl) rfl trivial rfl rfl ?_
      refine op0 (sp_extract rfl rfl rfl) rfl trivial rfl rfl ?_
      refine op0 (sp_extract rfl rfl rfl) rfl trivial rfl rfl ?_
      refine op0 (sp_assign rfl rfl) rfl trivial rfl rfl ?_
      refine op0 (sp_assign rfl rfl) rfl trivial rfl rfl ?_
      refine op0 (sp_assign rfl rfl) rfl trivial rfl rfl ?_
      refine TL.nil ?_
      refine TC.seq ?_
      refine TC.region ?_
      refine op0 (sp_move rfl rfl) rfl trivial rfl rfl ?_
      refine op0 (sp_eql rfl rfl rfl) rfl trivial rfl rfl ?_
      refine op0 (sp_move rfl rfl) rfl trivial rfl rfl ?_
      rcases cond_cases h with ⟨h55, h⟩ | ⟨h55, h⟩
      · refine (boolLit 163 rfl h55).2 ?_
        refine op0 (sp_move rfl rfl) rfl ⟨_, rfl, rfl⟩ rfl rfl ?_
        refine op1 0 rfl (sp_lenM (N := r60.1.length) (len_map _ _) rfl rfl isOwn Try.underlying37) rfl ⟨_, rfl, rfl⟩ rfl rfl ?_
        refine op0 (sp_eql rfl rfl rfl) rfl ⟨_, rfl, rfl⟩ rfl rfl ?_
        refine op0 (sp_pickT rfl rfl rfl) rfl trivial rfl rfl ?_
        refine op0 (sp_move rfl rfl) rfl trivial rfl rfl ?_
        rcases cond_cases h with ⟨h56, h⟩ | ⟨h56, h⟩
        · refine (boolLit 168 rfl h56).2 ?_
          refine op0 (sp_move rfl rfl) rfl ⟨_, rfl, rfl⟩ rfl rfl ?_
          obtain ⟨x61, h57, h58, h⟩ := idx_inv h
          refine op1 0 rfl (sp_indexS rfl rfl rfl isOwn sl37 h57 (map_get _ h58)) rfl ⟨_, rfl, rfl⟩ rfl rfl ?_
          refine op1 0 rfl (sp_loadR (i := (0 : Int).toNat) (j := 0) rfl rfl isOwn vt3 rfl (map_get _ h58) rfl (.v (.nil)) (nodup_of_B rfl)) rfl ⟨_, rfl, rfl⟩ rfl rfl ?_
          refine op0 (sp_move rfl rfl) rfl ⟨_, rfl, rfl⟩ rfl rfl ?_
          refine op0 (sp_move rfl rfl) rfl ⟨_, rfl, rfl⟩ rfl rfl ?_
          obtain ⟨h59, h⟩ := chk_inv h
          refine op0 (sp_conv rfl Try.underlying5 Try.underlying3 rfl h59) rfl ⟨_, rfl, rfl⟩ rfl rfl ?_
          refine op0 (sp_rem rfl rfl rfl (by decide)) rfl ⟨_, rfl, rfl⟩ rfl rfl ?_
          obtain ⟨h60, h⟩ := chk_inv h
          refine op0 (sp_add rfl rfl rfl h60) rfl ⟨_, rfl, rfl⟩ rfl rfl ?_
          obtain ⟨h61, h⟩ := chk_inv h
          refine op0 (sp_mul rfl rfl rfl h61) rfl ⟨_, rfl, rfl⟩ rfl rfl ?_
          refine op0 (sp_eql rfl rfl rfl) rfl ⟨_, rfl, rfl⟩ rfl rfl ?_
          refine op0 (sp_pickT rfl rfl rfl) rfl trivial rfl rfl ?_
          refine op0 (sp_move rfl rfl) rfl trivial rfl rfl ?_
          rcases cond_cases h with ⟨h62, h⟩ | ⟨h62, h⟩
          · refine (boolLit 180 rfl h62).2 ?_
            obtain ⟨r62, h63, h⟩ := bind_inv h
            refine op0 (sp_call (avs := []) (need := []) (v := .val (.bool r62)) (news := []) rfl rfl rfl Try.call21 (atJ [] [] (fc_top_pubParts h63) rfl rfl) (.inl (roAll rfl))) rfl ⟨_, rfl, rfl⟩ rfl rfl ?_
            refine op0 (sp_pickT rfl rfl rfl) rfl trivial rfl rfl ?_
            refine op0 (sp_move rfl rfl) rfl trivial rfl rfl ?_
            rcases cond_cases h with ⟨h64, h⟩ | ⟨h64, h⟩
            · refine (boolLit 183 rfl h64).2 ?_
              obtain ⟨r63, h65, h⟩ := bind_inv h
              refine op0 (sp_call (avs := []) (need := []) (v := .val (.bool r63)) (news := []) rfl rfl rfl Try.call18 (atJ [] [] (fc_top_pubBook h65) rfl rfl) (.inl (roAll rfl))) rfl ⟨_, rfl, rfl⟩ rfl rfl ?_
              refine op0 (sp_pickT rfl rfl rfl) rfl trivial rfl rfl ?_
              refine op0 (sp_assign rfl rfl) rfl trivial rfl rfl ?_
              refine TL.nil ?_
              cases h
              exact retJ [] (.tmp rfl .nil) rfl trivial rfl rfl
            · refine (boolLit 183 rfl h64).2 ?_
              refine opSkip rfl ⟨_, rfl, .inl rfl⟩ rfl ?_
              refine op0 (sp_pickF rfl rfl rfl) rfl trivial rfl rfl ?_
              refine op0 (sp_assign rfl rfl) rfl trivial rfl rfl ?_
              refine TL.nil ?_
              cases h
              exact retJ [] (.tmp rfl .nil) rfl trivial rfl rfl
          · refine (boolLit 180 rfl h62).2 ?_
            refine opSkip rfl ⟨_, rfl, .inl rfl⟩ rfl ?_
            refine op0 (sp_pickF rfl rfl rfl) rfl trivial rfl rfl ?_
            refine op0 (sp_move rfl rfl) rfl trivial rfl rfl ?_
            refine opSkip rfl ⟨_, rfl, .inl rfl⟩ rfl ?_
            refine op0 (sp_pickF rfl rfl rfl) rfl trivial rfl rfl ?_
            refine op0 (sp_assign rfl rfl) rfl trivial rfl rfl ?_
            refine TL.nil ?_
            cases h
            exact retJ [] (.tmp rfl .nil) rfl trivial rfl rfl
        · refine (boolLit 168 rfl h56).2 ?_
          refine opSkip rfl ⟨_, rfl, .inl rfl⟩ rfl ?_
          refine opSkip rfl ⟨_, rfl, .inl rfl⟩ rfl ?_
          refine opSkip rfl ⟨_, rfl, .inl rfl⟩ rfl ?_
          refine opSkip rfl ⟨_, rfl, .inl rfl⟩ rfl ?_
          refine opSkip rfl ⟨_, rfl, .inl rfl⟩ rfl ?_
          refine opSkip rfl ⟨_, rfl, .inl rfl⟩ rfl ?_
          refine opSkip rfl ⟨_, rfl, .inl rfl⟩ rfl ?_
          refine opSkip rfl ⟨_, rfl, .inl rfl⟩ rfl ?_
          refine opSkip rfl ⟨_, rfl, .inl rfl⟩ rfl ?_
          refine opSkip rfl ⟨_, rfl, .inl rfl⟩ rfl ?_
          refine op0 (sp_pickF rfl rfl rfl) rfl trivial rfl rfl ?_
          refine op0 (sp_move rfl rfl) rfl trivial rfl rfl ?_
          refine opSkip rfl ⟨_, rfl, .inl rfl⟩ rfl ?_
          refine op0 (sp_pickF rfl rfl rfl) rfl trivial rfl rfl ?_
          refine op0 (sp_move rfl rfl) rfl trivial rfl rfl ?_
          refine opSkip rfl ⟨_, rfl, .inl rfl⟩ rfl ?_
          refine op0 (sp_pickF rfl rfl rfl) rfl trivial rfl rfl ?_
          refine op0 (sp_assign rfl rfl) rfl trivial rfl rfl ?_
          refine TL.nil ?_
          cases h
          exact retJ [] (.tmp rfl .nil) rfl trivial rfl rfl
      · refine (boolLit 163 rfl h55).2 ?_
        refine opSkip rfl ⟨_, rfl, .inl rfl⟩ rfl ?_
        refine opSkip rfl ⟨_, rfl, .inl rfl⟩ rfl ?_
        refine opSkip rfl ⟨_, rfl, .inl rfl⟩ rfl ?_
        refine op0 (sp_pickF rfl rfl rfl) rfl trivial rfl rfl ?_
        refine op0 (sp_move rfl rfl) rfl trivial rfl rfl ?_
        refine opSkip rfl ⟨_, rfl, .inl rfl⟩ rfl ?_
        refine opSkip rfl ⟨_, rfl, .inl rfl⟩ rfl ?_
        refine opSkip rfl ⟨_, rfl, .inl rfl⟩ rfl ?_
        refine opSkip rfl ⟨_, rfl, .inl rfl⟩ rfl ?_
        refine opSkip rfl ⟨_, rfl, .inl rfl⟩ rfl ?_
        refine opSkip rfl ⟨_, rfl, .inl rfl⟩ rfl ?_
        refine opSkip rfl ⟨_, rfl, .inl rfl⟩ rfl ?_
        refine opSkip rfl ⟨_, rfl, .inl rfl⟩ rfl ?_
        refine opSkip rfl ⟨_, rfl, .inl rfl⟩ rfl ?_
        refine opSkip rfl ⟨_, rfl, .inl rfl⟩ rfl ?_
        refine op0 (sp_pickF rfl rfl rfl) rfl trivial rfl rfl ?_
        refine op0 (sp_move rfl rfl) rfl trivial rfl rfl ?_
        refine opSkip rfl ⟨_, rfl, .inl rfl⟩ rfl ?_
        refine op0 (sp_pickF rfl rfl rfl) rfl trivial rfl rfl ?_
        refine op0 (sp_move rfl rfl) rfl trivial rfl rfl ?_
        refine opSkip rfl ⟨_, rfl, .inl rfl⟩ rfl ?_
        refine op0 (sp_pickF rfl rfl rfl) rfl trivial rfl rfl ?_
        refine op0 (sp_assign rfl rfl) rfl trivial rfl rfl ?_
        refine TL.nil ?_
        cases h
        exact retJ [] (.tmp rfl .nil) rfl trivial rfl rfl
def ev_top_TopSparesBook_j3 (n : Nat) (v18 : Int) (i19 : Int) (l49 : List Int) (r53 : (List Int) × Int) : Option Bool :=
  ev_top_TopSparesBook_l4 n v18 i19 n 0 l49 r53.1 ([] : List (Int × Int × Int × Int))
set_option maxRecDepth 100000 in
set_option maxHeartbeats 2000000 in
theorem ok_top_TopSparesBook_j3 {n : Nat} {w0 : World} {R0 : Nat → Prop} {env0 : Env} {r : Bool} {v18 : Int} {i19 : Int} {l49 : List Int} {r53 : (List Int) × Int} (h : ev_top_TopSparesBook_j3 n v18 i19 l49 r53 = some r) : TC Try.prog ⟨w0, fun _ => False, R0⟩ 186 (bodyPost Try.prog Try.f4 (Post ⟨w0, fun _ => False, R0⟩ env0 (.val (.bool r)) [])) [.code (sub (bodyOf Try.f4) [1, 1, 1, 1, 1, 1, 1, 0, 1, 1]), .code (sub (bodyOf Try.f4) [1, 1, 1, 1, 1, 1, 1, 1])] ([(8, .val (.int .u8 v18)), (11, .val (.int .i64 i19)), (15, .ref 7), (17, .ref 12)]) ([.row 7 3 1 (List.map en_int l49), .row 12 3 1 (List.map en_int r53.1)]) := by
  rw [ev_top_TopSparesBook_j3] at h
  refine TC.skip ?_
  refine TC.seq ?_
  refine TC.region ?_
  refine op0 (sp_emptyM 13 (List.map en_api_BookCard []) rfl rfl sl50) rfl trivial rfl rfl ?_
  refine op0 (sp_assign rfl rfl) rfl trivial rfl rfl ?_
  refine TL.nil ?_
  refine TC.seq ?_
  refine TC.seq ?_
  refine TC.region ?_
  refine op0 (sp_assign rfl rfl) rfl trivial rfl rfl ?_
  refine TL.nil ?_
  refine TC.block ?_
  refine TC.loop ?_
  refine TC.seq ?_
  refine TC.seq ?_
  refine subJ [] (ok_top_TopSparesBook_l4 _ _ _ _ _ h) ?_ ?_ ?_
  · exact ⟨rfl, rfl, rfl, rfl, rfl, rfl, trivial⟩
  · exact ⟨mem_at 1 rfl, mem_at 2 rfl, mem_at 0 rfl, trivial⟩
  · rfl
def ev_top_TopSparesBook_l2 (n : Nat) (v17 : Int) (v18 : Int) (i19 : Int) : Nat → Int → Int → Int → Int → Int → (List (Int × Int × Int)) → (List Int) → Option Bool
  | 0, _, _, _, _, _, _, _ => none
  | m + 1, i43, i44, i45, i46, i47, l48, l49 => cond (decide (i43 < 4)) (idx l49 i43 fun x50 => chk (in64 (x50 + 1)) <| chk (decide (0 ≤ i43) && decide (i43 < 4)) <| idx ([i44, i45, i46, i47] : List Int) i43 fun x51 => chk (in64 x51) <| chk (in64 ((x50 + 1) + (Int.tmod x51 40))) <| chk (room 8 (l49.length + ([((x50 + 1) + (Int.tmod x51 40))] : List Int).length)) <| chk (in64 (i43 + 1)) <| ev_top_TopSparesBook_l2 n v17 v18 i19 m (i43 + 1) i44 i45 i46 i47 l48 (l49 ++ ([((x50 + 1) + (Int.tmod x51 40))] : List Int))) (chk (in64 (((1 : Int) + (Int.tmod v17 20)) + 3)) <| (ev_top_pubSpan n ((1 : Int) + (Int.tmod v17 20)) (((1 : Int) + (Int.tmod v17 20)) + 3)).bind fun r52 => chk (room 8 (([] : List Int).length + l49.length)) <| (ev_part_Spares n r52.1 r52.2 l48 (([] : List Int) ++ l49)).bind fun r53 => cond (r53.2 != 0) (some false) (cond ((r53.1.length : Int) != (l49.length : Int)) (some false) (ev_top_TopSparesBook_j3 n v18 i19 l49 r53)))
set_option maxRecDepth 100000 in
set_option maxHeartbeats 2000000 in
theorem ok_top_TopSparesBook_l2 {n : Nat} {w0 : World} {R0 : Nat → Prop} {env0 : Env} {r : Bool} {v18 : Int} {v17 : Int} {i19 : Int} : ∀ (m : Nat) (i43 : Int) (i44 : Int) (i45 : Int) (i46 : Int) (i47 : Int) (l48 : List (Int × Int × Int)) (l49 : List Int), ev_top_TopSparesBook_l2 n v17 v18 i19 m i43 i44 i45 i46 i47 l48 l49 = some r → TC Try.prog ⟨w0, fun _ => False, R0⟩ 186 (bodyPost Try.prog Try.f4 (Post ⟨w0, fun _ => False, R0⟩ env0 (.val (.bool r)) [])) [.code (sub (bodyOf Try.f4) [1, 1, 1, 1, 1, 0, 1, 0, 0, 0, 0]), .code (sub (bodyOf Try.f4) [1, 1, 1, 1, 1, 0, 1, 0, 0, 0, 1]), .code (sub (bodyOf Try.f4) [1, 1, 1, 1, 1, 0, 1, 0, 0, 1]), .inLoop (sub (bodyOf Try.f4) [1, 1, 1, 1, 1, 0, 1, 0, 0]), .inBlock 4, .code (sub (bodyOf Try.f4) [1, 1, 1, 1, 1, 1])] ([(4, .ptr 1 0), (8, .val (.int .u8 v18)), (9, .val (.int .i64 ((1 : Int) + (Int.tmod v17 20)))), (10, .ref 3), (11, .val (.int .i64 i19)), (15, .ref 7), (16, .val (.int .i64 i43))]) ([.blk 1 [.val (.int .u8 i44), .val (.int .u8 i45), .val (.int .u8 i46), .val (.int .u8 i47)] 44, .row 3 48 3 (List.map en_api_PartContract l48), .row 7 3 1 (List.map en_int l49)]) := by
  intro m
  induction m with
  | zero => intro i43 i44 i45 i46 i47 l48 l49 h; exact none_no h
  | succ m ih =>
    intro i43 i44 i45 i46 i47 l48 l49 h
    rw [ev_top_TopSparesBook_l2] at h
    refine TC.region ?_
    refine op0 (sp_move rfl rfl) rfl trivial rfl rfl ?_
    refine op0 (sp_lss rfl rfl rfl) rfl trivial rfl rfl ?_
    refine TL.nil ?_
    refine TC.cond (b := (decide (i43 < 4))) rfl (fun h23 => ?_) (fun h23 => ?_)
    · have h := cond_t h h23
      refine TC.skip ?_
      refine TC.seq ?_
      refine TC.block ?_
      obtain ⟨x50, h24, h25, h⟩ := idx_inv h
      obtain ⟨h26, h⟩ := chk_inv h
      obtain ⟨h27, h⟩ := chk_inv h
      obtain ⟨x51, h28, h29, h⟩ := idx_inv h
      obtain ⟨h30, h⟩ := chk_inv h
      obtain ⟨h31, h⟩ := chk_inv h
      refine drawJ 13 [⟨.ref 7, [], [], []⟩, ⟨.ref 7, [], [], []⟩, ⟨.val (.int .i64 i43), [], [], []⟩, ⟨.cell 7 ((i43 : Int).toNat * 1), [], [.row 7 3 1 (List.map en_int l49)], []⟩, ⟨.val (.int .i64 x50), [], [.row 7 3 1 (List.map en_int l49)], []⟩, ⟨.val (.int .i64 (x50 + 1)), [], [], []⟩, ⟨.val (.int .i64 i43), [], [], []⟩, ⟨.ptr 1 (0 + ((i43).toNat * 1 + 0)), [], [.blk 1 [.val (.int .u8 i44), .val (.int .u8 i45), .val (.int .u8 i46), .val (.int .u8 i47)] 44], []⟩, ⟨.val (.int .u8 x51), [], [.blk 1 [.val (.int .u8 i44), .val (.int .u8 i45), .val (.int .u8 i46), .val (.int .u8 i47)] 44], []⟩, ⟨.val (.int .i64 x51), [], [], []⟩, ⟨.val (.int .i64 (Int.tmod x51 40)), [], [], []⟩, ⟨.val (.int .i64 ((x50 + 1) + (Int.tmod x51 40))), [], [], []⟩, ⟨.ref 8, [.row 8 3 1 (List.map en_int ([((x50 + 1) + (Int.tmod x51 40))] : List Int))], [], []⟩] rfl ?_ rfl ?_ rfl ?_ ?_
      · kernel_rfl
      · kernel_rfl
      · exact DAll.op' (sp_move rfl rfl) trivial rfl (From.ok (ps := []) trivial) (DAll.op' (sp_move rfl rfl) trivial rfl (From.ok (ps := []) trivial) (DAll.op' (sp_move rfl rfl) trivial rfl (From.ok (ps := []) trivial) (DAll.op' (sp_indexS rfl rfl rfl isOwn sl37 h24 (map_get _ h25)) trivial rfl (From.ok (ps := [(none, 2)]) ⟨⟨rfl, rfl⟩, trivial⟩) (DAll.op' (sp_loadR (i := (i43 : Int).toNat) (j := 0) rfl rfl isOwn vt3 rfl (map_get _ h25) rfl (.v (.nil)) (nodup_of_B rfl)) trivial rfl (From.ok (ps := [(none, 2)]) ⟨⟨rfl, rfl⟩, trivial⟩) (DAll.op' (sp_add rfl rfl rfl h26) trivial rfl (From.ok (ps := []) trivial) (DAll.op' (sp_move rfl rfl) trivial rfl (From.ok (ps := []) trivial) (DAll.op' (sp_indexA (len := 4) rfl isBlk rfl rfl Try.underlying44 vt5 h27) trivial rfl (From.ok (ps := [(none, 0)]) ⟨⟨rfl, rfl⟩, trivial⟩) (DAll.op' (sp_loadB rfl isBlk rfl vt5 (arr_get (enc := ax_uint8) (fun _ => rfl) rfl (pre := []) (post := []) (xs := ([i44, i45, i46, i47] : List Int)) rfl h29 rfl)) trivial rfl (From.ok (ps := [(none, 0)]) ⟨⟨rfl, rfl⟩, trivial⟩) (DAll.op' (sp_conv rfl Try.underlying5 Try.underlying3 rfl h30) trivial rfl (From.ok (ps := []) trivial) (DAll.op' (sp_rem rfl rfl rfl (by decide)) trivial rfl (From.ok (ps := []) trivial) (DAll.op' (sp_add rfl rfl rfl h31) trivial rfl (From.ok (ps := []) trivial) (DAll.op' (sp_buildSlice (qs := [.val (.int .i64 ((x50 + 1) + (Int.tmod x51 40)))]) (need := []) (els := List.map en_int ([((x50 + 1) + (Int.tmod x51 40))] : List Int)) 8 rfl sl37 (by decide) (by decide) rfl rfl rfl (.v (.nil)) (map_len fun _ => rfl) rfl rfl rfl) trivial rfl (From.ok (ps := []) trivial) (.nil)))))))))))))
      obtain ⟨h32, h⟩ := chk_inv h
      refine appM 3 0 (N := l49.length) (N2 := ([((x50 + 1) + (Int.tmod x51 40))] : List Int).length) 9 rfl rfl trivial rfl rfl rfl rfl rfl isOwn rfl sl37 (len_map _ _) (len_map _ _) h32 (map_app _ _ _) rfl ?_
      refine op0 (sp_assign rfl rfl) rfl trivial rfl rfl ?_
      refine TL.nil ?_
      refine TC.inBlock ?_
      refine TC.region ?_
      refine op0 (sp_move rfl rfl) rfl trivial rfl rfl ?_
      obtain ⟨h33, h⟩ := chk_inv h
      refine op0 (sp_add rfl rfl rfl h33) rfl trivial rfl rfl ?_
      refine op0 (sp_assign rfl rfl) rfl trivial rfl rfl ?_
      refine TL.nil ?_
      refine TC.inLoop ?_
      refine TC.seq ?_
      refine TC.seq ?_
      refine subJ [(7, 9)] (ih _ _ _ _ _ _ _ h) ?_ ?_ ?_
      · exact ⟨rfl, rfl, rfl, rfl, rfl, rfl, rfl, trivial⟩
      · exact ⟨mem_at 2 rfl, mem_at 3 rfl, mem_at 0 rfl, trivial⟩
      · rfl
    · have h := cond_f h h23
      refine TC.exit rfl ?_
      refine TC.seq ?_
      refine TC.region ?_
      refine op0 (sp_move rfl rfl) rfl trivial rfl rfl ?_
      refine op0 (sp_move rfl rfl) rfl trivial rfl rfl ?_
      obtain ⟨h34, h⟩ := chk_inv h
      refine op0 (sp_add rfl rfl rfl h34) rfl trivial rfl rfl ?_
      obtain ⟨r52, h35, h⟩ := bind_inv h
      refine op0 (sp_call (avs := [.val (.int .i64 ((1 : Int) + (Int.tmod v17 20))), .val (.int .i64 (((1 : Int) + (Int.tmod v17 20)) + 3))]) (need := []) (v := .agg [.val (.int .i64 r52.1), .val (.int .i64 r52.2)]) (news := []) rfl rfl rfl Try.call14 (atJ [] [] (fc_top_pubSpan h35) rfl rfl) (.inl (roAll rfl))) rfl trivial rfl rfl ?_
      refine op0 (sp_move rfl rfl) rfl trivial rfl rfl ?_
      refine op0 (sp_emptyM 10 (List.map en_int []) rfl rfl sl37) rfl trivial rfl rfl ?_
      refine op0 (sp_move rfl rfl) rfl trivial rfl rfl ?_
      obtain ⟨h36, h⟩ := chk_inv h
      refine appM 0 3 (N := ([] : List Int).length) (N2 := l49.length) 11 rfl rfl trivial rfl rfl rfl rfl rfl isOwn rfl sl37 (len_map _ _) (len_map _ _) h36 (map_app _ _ _) rfl ?_
      obtain ⟨r53, h37, h⟩ := bind_inv h
      refine opN (need := [.row 3 48 3 (List.map en_api_PartContract l48), .row 11 3 1 (List.map en_int (([] : List Int) ++ l49))]) [2, 0] ⟨rfl, rfl, trivial⟩ (sp_call (avs := [.agg [.val (.int .i64 r52.1), .val (.int .i64 r52.2)], .ref 3, .ref 11]) (need := [.row 3 48 3 (List.map en_api_PartContract l48), .row 11 3 1 (List.map en_int (([] : List Int) ++ l49))]) (v := .tup [.ref 12, .val (.int .i64 r53.2)]) (news := [.row 12 3 1 (List.map en_int r53.1)]) rfl rfl rfl Try.call19 (atJ [(0, 3), (1, 11)] [(0, 12)] (fc_part_Spares h37) rfl rfl) (.inr (List.forall_mem_cons.2 ⟨indep_map en_int_flat, (by simp)⟩))) rfl trivial rfl rfl ?_
      refine op0 (sp_move rfl rfl) rfl trivial rfl rfl ?_
      refine op0 (sp_extract rfl rfl rfl) rfl trivial rfl rfl ?_
      refine op0 (sp_extract rfl rfl rfl) rfl trivial rfl rfl ?_
      refine op0 (sp_assign rfl rfl) rfl trivial rfl rfl ?_
      refine op0 (sp_assign rfl rfl) rfl trivial rfl rfl ?_
      refine TL.nil ?_
      refine TC.seq ?_
      refine TC.seq ?_
      refine TC.region ?_
      refine op0 (sp_move rfl rfl) rfl trivial rfl rfl ?_
      refine op0 (sp_neq rfl rfl rfl) rfl trivial rfl rfl ?_
      refine op0 (sp_move rfl rfl) rfl trivial rfl rfl ?_
      rcases cond_cases h with ⟨h38, h⟩ | ⟨h38, h⟩
      · refine (boolLit 111 rfl h38).2 ?_
        refine opSkip rfl ⟨_, rfl, .inl rfl⟩ rfl ?_
        refine opSkip rfl ⟨_, rfl, .inl rfl⟩ rfl ?_
        refine opSkip rfl ⟨_, rfl, .inl rfl⟩ rfl ?_
        refine opSkip rfl ⟨_, rfl, .inl rfl⟩ rfl ?_
        refine opSkip rfl ⟨_, rfl, .inl rfl⟩ rfl ?_
        refine op0 (sp_pickT rfl rfl rfl) rfl trivial rfl rfl ?_
        refine TL.nil ?_
        refine TC.condT rfl ?_
        refine TC.seq ?_
        refine TC.region ?_
        refine op0 (sp_assign rfl rfl) rfl trivial rfl rfl ?_
        refine TL.nil ?_
        cases h
        exact retJ [] (.tmp rfl .nil) rfl trivial rfl rfl
      · refine (boolLit 111 rfl h38).2 ?_
        refine op0 (sp_move rfl rfl) rfl ⟨_, rfl, rfl⟩ rfl rfl ?_
        refine op1 0 rfl (sp_lenM (N := r53.1.length) (len_map _ _) rfl rfl isOwn Try.underlying37) rfl ⟨_, rfl, rfl⟩ rfl rfl ?_
        refine op0 (sp_move rfl rfl) rfl ⟨_, rfl, rfl⟩ rfl rfl ?_
        refine op1 4 rfl (sp_lenM (N := l49.length) (len_map _ _) rfl rfl isOwn Try.underlying37) rfl ⟨_, rfl, rfl⟩ rfl rfl ?_
        refine op0 (sp_neq rfl rfl rfl) rfl ⟨_, rfl, rfl⟩ rfl rfl ?_
        refine op0 (sp_pickF rfl rfl rfl) rfl trivial rfl rfl ?_
        refine TL.nil ?_
        refine TC.cond (b := ((r53.1.length : Int) != (l49.length : Int))) rfl (fun h39 => ?_) (fun h39 => ?_)
        · have h := cond_t h h39
          refine TC.seq ?_
          refine TC.region ?_
          refine op0 (sp_assign rfl rfl) rfl trivial rfl rfl ?_
          refine TL.nil ?_
          cases h
          exact retJ [] (.tmp rfl .nil) rfl trivial rfl rfl
        · have h := cond_f h h39
          refine subJ [] (ok_top_TopSparesBook_j3 h) ?_ ?_ ?_
          · exact ⟨rfl, rfl, rfl, rfl, trivial⟩
          · exact ⟨mem_at 4 rfl, mem_at 0 rfl, trivial⟩
          · rfl
def ev_top_TopSparesBook_l0 (n : Nat) (v17 : Int) (v18 : Int) : Nat → Int → Int → Int → Int → Int → Int → Int → Int → Int → Int → Int → Int → Int → Int → Int → Int → Int → Int → (List (Int × Int × Int)) → Option Bool
  | 0, _, _, _, _, _, _, _, _, _, _, _, _, _, _, _, _, _, _, _ => none
  | m + 1, i19, i20, i21, i22, i23, i24, i25, i26, i27, i28, i29, i30, i31, i32, i33, i34, i35, i36, l37 => cond (decide (i20 < 4)) (chk (decide (0 ≤ i20) && decide (i20 < 4)) <| idx ([(i21, i22, i23), (i24, i25, i26), (i27, i28, i29), (i30, i31, i32)] : List (Int × Int × Int)) i20 fun x38 => chk (in64 x38.1) <| chk (decide (0 ≤ i20) && decide (i20 < 4)) <| idx ([(i21, i22, i23), (i24, i25, i26), (i27, i28, i29), (i30, i31, i32)] : List (Int × Int × Int)) i20 fun x39 => chk (in64 x39.2.1) <| chk (decide (0 ≤ i20) && decide (i20 < 4)) <| idx ([(i21, i22, i23), (i24, i25, i26), (i27, i28, i29), (i30, i31, i32)] : List (Int × Int × Int)) i20 fun x40 => chk (in64 x40.2.2) <| chk (in64 ((Int.tmod x39.2.1 60) + (Int.tmod x40.2.2 100))) <| chk (room 24 (l37.length + ([(x38.1, (Int.tmod x39.2.1 60), ((Int.tmod x39.2.1 60) + (Int.tmod x40.2.2 100)))] : List (Int × Int × Int)).length)) <| chk (in64 ((Int.tmod x39.2.1 60) + ((1 : Int) + (Int.tmod v17 20)))) <| ev_top_TopSparesBook_l1 n x39 x40 x38 v17 i20 i21 i22 i23 i24 i25 i26 i27 i28 i29 i30 i31 i32 i33 i34 i35 i36 l37 (fun i19q i20q i21q i22q i23q i24q i25q i26q i27q i28q i29q i30q i31q i32q i33q i34q i35q i36q l37q => ev_top_TopSparesBook_l0 n v17 v18 m i19q i20q i21q i22q i23q i24q i25q i26q i27q i28q i29q i30q i31q i32q i33q i34q i35q i36q l37q) n i19 ((Int.tmod x39.2.1 60) + ((1 : Int) + (Int.tmod v17 20)))) (ev_top_TopSparesBook_l2 n v17 v18 i19 n 0 i33 i34 i35 i36 l37 ([0] : List Int))
set_option maxRecDepth 100000 in
set_option maxHeartbeats 2000000 in
theorem ok_top_TopSparesBook_l0 {n : Nat} {w0 : World} {R0 : Nat → Prop} {env0 : Env} {r : Bool} {v18 : Int} {v17 : Int} : ∀ (m : Nat) (i19 : Int) (i20 : Int) (i21 : Int) (i22 : Int) (i23 : Int) (i24 : Int) (i25 : Int) (i26 : Int) (i27 : Int) (i28 : Int) (i29 : Int) (i30 : Int) (i31 : Int) (i32 : Int) (i33 : Int) (i34 : Int) (i35 : Int) (i36 : Int) (l37 : List (Int × Int × Int)), ev_top_TopSparesBook_l0 n v17 v18 m i19 i20 i21 i22 i23 i24 i25 i26 i27 i28 i29 i30 i31 i32 i33 i34 i35 i36 l37 = some r → TC Try.prog ⟨w0, fun _ => False, R0⟩ 186 (bodyPost Try.prog Try.f4 (Post ⟨w0, fun _ => False, R0⟩ env0 (.val (.bool r)) [])) [.code (sub (bodyOf Try.f4) [1, 1, 1, 0, 1, 0, 0, 0, 0]), .code (sub (bodyOf Try.f4) [1, 1, 1, 0, 1, 0, 0, 0, 1]), .code (sub (bodyOf Try.f4) [1, 1, 1, 0, 1, 0, 0, 1]), .inLoop (sub (bodyOf Try.f4) [1, 1, 1, 0, 1, 0, 0]), .inBlock 0, .code (sub (bodyOf Try.f4) [1, 1, 1, 1])] ([(3, .ptr 0 0), (4, .ptr 1 0), (8, .val (.int .u8 v18)), (9, .val (.int .i64 ((1 : Int) + (Int.tmod v17 20)))), (10, .ref 3), (11, .val (.int .i64 i19)), (12, .val (.int .i64 i20))]) ([.blk 0 [.val (.int .u8 i21), .val (.int .u8 i22), .val (.int .u8 i23), .val (.int .u8 i24), .val (.int .u8 i25), .val (.int .u8 i26), .val (.int .u8 i27), .val (.int .u8 i28), .val (.int .u8 i29), .val (.int .u8 i30), .val (.int .u8 i31), .val (.int .u8 i32)] 43, .blk 1 [.val (.int .u8 i33), .val (.int .u8 i34), .val (.int .u8 i35), .val (.int .u8 i36)] 44, .row 3 48 3 (List.map en_api_PartContract l37)]) := by
  intro m
  induction m with
  | zero => intro i19 i20 i21 i22 i23 i24 i25 i26 i27 i28 i29 i30 i31 i32 i33 i34 i35 i36 l37 h; exact none_no h
  | succ m ih =>
    intro i19 i20 i21 i22 i23 i24 i25 i26 i27 i28 i29 i30 i31 i32 i33 i34 i35 i36 l37 h
    rw [ev_top_TopSparesBook_l0] at h
    refine TC.region ?_
    refine op0 (sp_move rfl rfl) rfl trivial rfl rfl ?_
    refine op0 (sp_lss rfl rfl rfl) rfl trivial rfl rfl ?_
    refine TL.nil ?_
    refine TC.cond (b := (decide (i20 < 4))) rfl (fun h3 => ?_) (fun h3 => ?_)
    · have h := cond_t h h3
      refine TC.skip ?_
      refine TC.seq ?_
      refine TC.block ?_
      refine TC.seq ?_
      obtain ⟨h4, h⟩ := chk_inv h
      obtain ⟨x38, h5, h6, h⟩ := idx_inv h
      obtain ⟨h7, h⟩ := chk_inv h
      obtain ⟨h8, h⟩ := chk_inv h
      obtain ⟨x39, h9, h10, h⟩ := idx_inv h
      obtain ⟨h11, h⟩ := chk_inv h
      refine drawJ 13 [⟨.val (.int .i64 i20), [], [], []⟩, ⟨.ptr 0 (0 + ((i20).toNat * 3 + 0)), [], [.blk 0 [.val (.int .u8 i21), .val (.int .u8 i22), .val (.int .u8 i23), .val (.int .u8 i24), .val (.int .u8 i25), .val (.int .u8 i26), .val (.int .u8 i27), .val (.int .u8 i28), .val (.int .u8 i29), .val (.int .u8 i30), .val (.int .u8 i31), .val (.int .u8 i32)] 43], []⟩, ⟨.ptr 0 (0 + ((i20).toNat * 3 + 0)), [], [.blk 0 [.val (.int .u8 i21), .val (.int .u8 i22), .val (.int .u8 i23), .val (.int .u8 i24), .val (.int .u8 i25), .val (.int .u8 i26), .val (.int .u8 i27), .val (.int .u8 i28), .val (.int .u8 i29), .val (.int .u8 i30), .val (.int .u8 i31), .val (.int .u8 i32)] 43], []⟩, ⟨.val (.int .u8 x38.1), [], [.blk 0 [.val (.int .u8 i21), .val (.int .u8 i22), .val (.int .u8 i23), .val (.int .u8 i24), .val (.int .u8 i25), .val (.int .u8 i26), .val (.int .u8 i27), .val (.int .u8 i28), .val (.int .u8 i29), .val (.int .u8 i30), .val (.int .u8 i31), .val (.int .u8 i32)] 43], []⟩, ⟨.val (.int .i64 x38.1), [], [], []⟩, ⟨.val (.int .i64 i20), [], [], []⟩, ⟨.ptr 0 (0 + ((i20).toNat * 3 + 0)), [], [.blk 0 [.val (.int .u8 i21), .val (.int .u8 i22), .val (.int .u8 i23), .val (.int .u8 i24), .val (.int .u8 i25), .val (.int .u8 i26), .val (.int .u8 i27), .val (.int .u8 i28), .val (.int .u8 i29), .val (.int .u8 i30), .val (.int .u8 i31), .val (.int .u8 i32)] 43], []⟩, ⟨.ptr 0 (0 + ((i20).toNat * 3 + 1)), [], [.blk 0 [.val (.int .u8 i21), .val (.int .u8 i22), .val (.int .u8 i23), .val (.int .u8 i24), .val (.int .u8 i25), .val (.int .u8 i26), .val (.int .u8 i27), .val (.int .u8 i28), .val (.int .u8 i29), .val (.int .u8 i30), .val (.int .u8 i31), .val (.int .u8 i32)] 43], []⟩, ⟨.val (.int .u8 x39.2.1), [], [.blk 0 [.val (.int .u8 i21), .val (.int .u8 i22), .val (.int .u8 i23), .val (.int .u8 i24), .val (.int .u8 i25), .val (.int .u8 i26), .val (.int .u8 i27), .val (.int .u8 i28), .val (.int .u8 i29), .val (.int .u8 i30), .val (.int .u8 i31), .val (.int .u8 i32)] 43], []⟩, ⟨.val (.int .i64 x39.2.1), [], [], []⟩, ⟨.val (.int .i64 (Int.tmod x39.2.1 60)), [], [], []⟩, ⟨.agg [.val (.int .i64 x38.1), .val (.int .i64 (Int.tmod x39.2.1 60)), .val (.int .i64 0)], [], [], []⟩, ⟨.ptr 4 0, [.blk 4 [.val (.int .i64 0), .val (.int .i64 0), .val (.int .i64 0)] 48], [], []⟩] rfl ?_ rfl ?_ rfl ?_ ?_
      · kernel_rfl
      · kernel_rfl
      · exact DAll.op' (sp_move rfl rfl) trivial rfl (From.ok (ps := []) trivial) (DAll.op' (sp_indexA (len := 4) rfl isBlk rfl rfl Try.underlying43 vt42 h4) trivial rfl (From.ok (ps := [(none, 0)]) ⟨⟨rfl, rfl⟩, trivial⟩) (DAll.op' (sp_indexA (len := 3) (iv := 0) rfl isBlk rfl rfl Try.underlying42 vt5 (by decide)) trivial rfl (From.ok (ps := [(none, 0)]) ⟨⟨rfl, rfl⟩, trivial⟩) (DAll.op' (sp_loadB rfl isBlk rfl vt5 (arr_get (enc := ax_3_uint8) (fun _ => rfl) rfl (pre := []) (post := []) (xs := ([(i21, i22, i23), (i24, i25, i26), (i27, i28, i29), (i30, i31, i32)] : List (Int × Int × Int))) rfl h6 rfl)) trivial rfl (From.ok (ps := [(none, 0)]) ⟨⟨rfl, rfl⟩, trivial⟩) (DAll.op' (sp_conv rfl Try.underlying5 Try.underlying3 rfl h7) trivial rfl (From.ok (ps := []) trivial) (DAll.op' (sp_move rfl rfl) trivial rfl (From.ok (ps := []) trivial) (DAll.op' (sp_indexA (len := 4) rfl isBlk rfl rfl Try.underlying43 vt42 h8) trivial rfl (From.ok (ps := [(none, 0)]) ⟨⟨rfl, rfl⟩, trivial⟩) (DAll.op' (sp_indexA (len := 3) (iv := 1) rfl isBlk rfl rfl Try.underlying42 vt5 (by decide)) trivial rfl (From.ok (ps := [(none, 0)]) ⟨⟨rfl, rfl⟩, trivial⟩) (DAll.op' (sp_loadB rfl isBlk rfl vt5 (arr_get (enc := ax_3_uint8) (fun _ => rfl) rfl (pre := []) (post := []) (xs := ([(i21, i22, i23), (i24, i25, i26), (i27, i28, i29), (i30, i31, i32)] : List (Int × Int × Int))) rfl h10 rfl)) trivial rfl (From.ok (ps := [(none, 0)]) ⟨⟨rfl, rfl⟩, trivial⟩) (DAll.op' (sp_conv rfl Try.underlying5 Try.underlying3 rfl h11) trivial rfl (From.ok (ps := []) trivial) (DAll.op' (sp_rem rfl rfl rfl (by decide)) trivial rfl (From.ok (ps := []) trivial) (DAll.op' (sp_build (qs := [(0, .val (.int .i64 x38.1)), (1, .val (.int .i64 (Int.tmod x39.2.1 60)))]) rfl bt48 rfl rfl rfl rfl) trivial rfl (From.ok (ps := []) trivial) (DAll.op' (sp_alloc 4 rfl Try.zeroValue48 rfl) trivial rfl (From.ok (ps := []) trivial) (.nil)))))))))))))
      refine stoB 0 (cells' := [.val (.int .i64 x38.1), .val (.int .i64 (Int.tmod x39.2.1 60)), .val (.int .i64 0)]) rfl rfl trivial rfl rfl rfl rfl vt48 rfl rfl rfl ?_
      refine TL.nil ?_
      refine TC.seq ?_
      obtain ⟨h12, h⟩ := chk_inv h
      obtain ⟨x40, h13, h14, h⟩ := idx_inv h
      obtain ⟨h15, h⟩ := chk_inv h
      refine drawJ 8 [⟨.ptr 4 1, [], [.blk 4 [.val (.int .i64 x38.1), .val (.int .i64 (Int.tmod x39.2.1 60)), .val (.int .i64 0)] 48], []⟩, ⟨.val (.int .i64 (Int.tmod x39.2.1 60)), [], [.blk 4 [.val (.int .i64 x38.1), .val (.int .i64 (Int.tmod x39.2.1 60)), .val (.int .i64 0)] 48], []⟩, ⟨.val (.int .i64 i20), [], [], []⟩, ⟨.ptr 0 (0 + ((i20).toNat * 3 + 0)), [], [.blk 0 [.val (.int .u8 i21), .val (.int .u8 i22), .val (.int .u8 i23), .val (.int .u8 i24), .val (.int .u8 i25), .val (.int .u8 i26), .val (.int .u8 i27), .val (.int .u8 i28), .val (.int .u8 i29), .val (.int .u8 i30), .val (.int .u8 i31), .val (.int .u8 i32)] 43], []⟩, ⟨.ptr 0 (0 + ((i20).toNat * 3 + 2)), [], [.blk 0 [.val (.int .u8 i21), .val (.int .u8 i22), .val (.int .u8 i23), .val (.int .u8 i24), .val (.int .u8 i25), .val (.int .u8 i26), .val (.int .u8 i27), .val (.int .u8 i28), .val (.int .u8 i29), .val (.int .u8 i30), .val (.int .u8 i31), .val (.int .u8 i32)] 43], []⟩, ⟨.val (.int .u8 x40.2.2), [], [.blk 0 [.val (.int .u8 i21), .val (.int .u8 i22), .val (.int .u8 i23), .val (.int .u8 i24), .val (.int .u8 i25), .val (.int .u8 i26), .val (.int .u8 i27), .val (.int .u8 i28), .val (.int .u8 i29), .val (.int .u8 i30), .val (.int .u8 i31), .val (.int .u8 i32)] 43], []⟩, ⟨.val (.int .i64 x40.2.2), [], [], []⟩, ⟨.val (.int .i64 (Int.tmod x40.2.2 100)), [], [], []⟩] rfl ?_ rfl ?_ rfl ?_ ?_
      · kernel_rfl
      · kernel_rfl
      · exact DAll.op' (sp_fieldAddrB rfl isBlk rfl ft48_1 vt3 (by decide)) trivial rfl (From.ok (ps := [(none, 0)]) ⟨⟨rfl, rfl⟩, trivial⟩) (DAll.op' (sp_loadB rfl isBlk rfl vt3 rfl) trivial rfl (From.ok (ps := [(none, 0)]) ⟨⟨rfl, rfl⟩, trivial⟩) (DAll.op' (sp_move rfl rfl) trivial rfl (From.ok (ps := []) trivial) (DAll.op' (sp_indexA (len := 4) rfl isBlk rfl rfl Try.underlying43 vt42 h12) trivial rfl (From.ok (ps := [(none, 1)]) ⟨⟨rfl, rfl⟩, trivial⟩) (DAll.op' (sp_indexA (len := 3) (iv := 2) rfl isBlk rfl rfl Try.underlying42 vt5 (by decide)) trivial rfl (From.ok (ps := [(none, 1)]) ⟨⟨rfl, rfl⟩, trivial⟩) (DAll.op' (sp_loadB rfl isBlk rfl vt5 (arr_get (enc := ax_3_uint8) (fun _ => rfl) rfl (pre := []) (post := []) (xs := ([(i21, i22, i23), (i24, i25, i26), (i27, i28, i29), (i30, i31, i32)] : List (Int × Int × Int))) rfl h14 rfl)) trivial rfl (From.ok (ps := [(none, 1)]) ⟨⟨rfl, rfl⟩, trivial⟩) (DAll.op' (sp_conv rfl Try.underlying5 Try.underlying3 rfl h15) trivial rfl (From.ok (ps := []) trivial) (DAll.op' (sp_rem rfl rfl rfl (by decide)) trivial rfl (From.ok (ps := []) trivial) (.nil))))))))
      obtain ⟨h16, h⟩ := chk_inv h
      refine op0 (sp_add rfl rfl rfl h16) rfl trivial rfl rfl ?_
      refine op1 0 rfl (sp_fieldAddrB rfl isBlk rfl ft48_2 vt3 (by decide)) rfl trivial rfl rfl ?_
      refine stoB 0 (cells' := [.val (.int .i64 x38.1), .val (.int .i64 (Int.tmod x39.2.1 60)), .val (.int .i64 ((Int.tmod x39.2.1 60) + (Int.tmod x40.2.2 100)))]) rfl rfl trivial rfl rfl rfl rfl vt3 rfl rfl rfl ?_
      refine TL.nil ?_
      refine TC.seq ?_
      refine TC.region ?_
      refine op0 (sp_move rfl rfl) rfl trivial rfl rfl ?_
      refine op1 0 rfl (sp_loadBA rfl isBlk rfl vt48 rfl rfl) rfl trivial rfl rfl ?_
      refine op0 (sp_buildSlice (qs := [.agg [.val (.int .i64 x38.1), .val (.int .i64 (Int.tmod x39.2.1 60)), .val (.int .i64 ((Int.tmod x39.2.1 60) + (Int.tmod x40.2.2 100)))]]) (need := []) (els := List.map en_api_PartContract ([(x38.1, (Int.tmod x39.2.1 60), ((Int.tmod x39.2.1 60) + (Int.tmod x40.2.2 100)))] : List (Int × Int × Int))) 5 rfl sl46 (by decide) (by decide) rfl rfl rfl (.v (.v (.v (.nil)))) (map_len fun _ => rfl) rfl rfl rfl) rfl trivial rfl rfl ?_
      obtain ⟨h17, h⟩ := chk_inv h
      refine appM 4 0 (N := l37.length) (N2 := ([(x38.1, (Int.tmod x39.2.1 60), ((Int.tmod x39.2.1 60) + (Int.tmod x40.2.2 100)))] : List (Int × Int × Int)).length) 6 rfl rfl trivial rfl rfl rfl rfl rfl isOwn rfl sl46 (len_map _ _) (len_map _ _) h17 (map_app _ _ _) rfl ?_
      refine op0 (sp_assign rfl rfl) rfl trivial rfl rfl ?_
      refine TL.nil ?_
      refine TC.seq ?_
      refine TC.region ?_
      refine op1 2 rfl (sp_fieldAddrB rfl isBlk rfl ft48_1 vt3 (by decide)) rfl trivial rfl rfl ?_
      refine op1 2 rfl (sp_loadB rfl isBlk rfl vt3 rfl) rfl trivial rfl rfl ?_
      refine op0 (sp_move rfl rfl) rfl trivial rfl rfl ?_
      obtain ⟨h18, h⟩ := chk_inv h
      refine op0 (sp_add rfl rfl rfl h18) rfl trivial rfl rfl ?_
      refine op0 (sp_assign rfl rfl) rfl trivial rfl rfl ?_
      refine TL.nil ?_
      refine TC.block ?_
      refine TC.loop ?_
      refine TC.seq ?_
      refine TC.seq ?_
      refine subJ [] (ok_top_TopSparesBook_l1 (v18 := v18) ih _ _ _ h) ?_ ?_ ?_
      · exact ⟨rfl, rfl, rfl, rfl, rfl, rfl, rfl, rfl, rfl, trivial⟩
      · exact ⟨mem_at 3 rfl, mem_at 4 rfl, mem_at 0 rfl, mem_at 2 rfl, trivial⟩
      · rfl
    · have h := cond_f h h3
      refine TC.exit rfl ?_
      refine TC.seq ?_
      refine TC.region ?_
      refine op0 (sp_buildSlice (qs := [.val (.int .i64 0)]) (need := []) (els := List.map en_int ([0] : List Int)) 7 rfl sl37 (by decide) (by decide) rfl rfl rfl (.v (.nil)) (map_len fun _ => rfl) rfl rfl rfl) rfl trivial rfl rfl ?_
      refine op0 (sp_assign rfl rfl) rfl trivial rfl rfl ?_
      refine TL.nil ?_
      refine TC.seq ?_
      refine TC.seq ?_
      refine TC.region ?_
      refine op0 (sp_assign rfl rfl) rfl trivial rfl rfl ?_
      refine TL.nil ?_
      refine TC.block ?_
      refine TC.loop ?_
      refine TC.seq ?_
      refine TC.seq ?_
      refine subJ [] (ok_top_TopSparesBook_l2 _ _ _ _ _ _ _ _ h) ?_ ?_ ?_
      · exact ⟨rfl, rfl, rfl, rfl, rfl, rfl, rfl, trivial⟩
      · exact ⟨mem_at 2 rfl, mem_at 3 rfl, mem_at 0 rfl, trivial⟩
      · rfl
def ev_top_TopSparesBook (n : Nat) (contracts1 : Int) (contracts2 : Int) (contracts3 : Int) (contracts4 : Int) (contracts5 : Int) (contracts6 : Int) (contracts7 : Int) (contracts8 : Int) (contracts9 : Int) (contracts10 : Int) (contracts11 : Int) (contracts12 : Int) (orders13 : Int) (orders14 : Int) (orders15 : Int) (orders16 : Int) (v17 : Int) (v18 : Int) : Option Bool :=
  chk (in64 v17) <| chk (in64 ((1 : Int) + (Int.tmod v17 20))) <| ev_top_TopSparesBook_l0 n v17 v18 n 0 0 contracts1 contracts2 contracts3 contracts4 contracts5 contracts6 contracts7 contracts8 contracts9 contracts10 contracts11 contracts12 orders13 orders14 orders15 orders16 ([] : List (Int × Int × Int))
set_option maxRecDepth 100000 in
set_option maxHeartbeats 2000000 in
theorem fc_top_TopSparesBook {n : Nat} {contracts1 : Int} {contracts2 : Int} {contracts3 : Int} {contracts4 : Int} {contracts5 : Int} {contracts6 : Int} {contracts7 : Int} {contracts8 : Int} {contracts9 : Int} {contracts10 : Int} {contracts11 : Int} {contracts12 : Int} {orders13 : Int} {orders14 : Int} {orders15 : Int} {orders16 : Int} {v17 : Int} {v18 : Int} {r : Bool} (h : ev_top_TopSparesBook n contracts1 contracts2 contracts3 contracts4 contracts5 contracts6 contracts7 contracts8 contracts9 contracts10 contracts11 contracts12 orders13 orders14 orders15 orders16 v17 v18 = some r) : FC Try.prog 4 [.agg [.val (.int .u8 contracts1), .val (.int .u8 contracts2), .val (.int .u8 contracts3), .val (.int .u8 contracts4), .val (.int .u8 contracts5), .val (.int .u8 contracts6), .val (.int .u8 contracts7), .val (.int .u8 contracts8), .val (.int .u8 contracts9), .val (.int .u8 contracts10), .val (.int .u8 contracts11), .val (.int .u8 contracts12)], .agg [.val (.int .u8 orders13), .val (.int .u8 orders14), .val (.int .u8 orders15), .val (.int .u8 orders16)], .agg [.val (.int .u8 v17), .val (.int .u8 v18)]] [] (.val (.bool r)) [] := by
  refine introJ (nz := 186) Try.func4 rfl rfl rfl (fun w0 R0 env0 => ?_)
  rw [ev_top_TopSparesBook] at h
  refine TC.seq ?_
  refine TC.region ?_
  refine op0 (sp_box 0 rfl rfl rfl rfl rfl) rfl trivial rfl rfl ?_
  refine op0 (sp_box 1 rfl rfl rfl rfl rfl) rfl trivial rfl rfl ?_
  refine op0 (sp_box 2 rfl rfl rfl rfl rfl) rfl trivial rfl rfl ?_
  refine op0 (sp_assign rfl rfl) rfl trivial rfl rfl ?_
  refine TL.nil ?_
  refine TC.seq ?_
  refine drawJ 5 [⟨.ptr 2 0, [], [.blk 2 [.val (.int .u8 v17), .val (.int .u8 v18)] 45], []⟩, ⟨.val (.int .u8 v17), [], [.blk 2 [.val (.int .u8 v17), .val (.int .u8 v18)] 45], []⟩, ⟨.ptr 2 1, [], [.blk 2 [.val (.int .u8 v17), .val (.int .u8 v18)] 45], []⟩, ⟨.val (.int .u8 v18), [], [.blk 2 [.val (.int .u8 v17), .val (.int .u8 v18)] 45], []⟩, ⟨.val (.int .u8 v17), [], [], []⟩] rfl ?_ rfl ?_ rfl ?_ ?_
  · kernel_rfl
  · kernel_rfl
  · exact DAll.op' (sp_indexA (len := 2) (iv := 0) rfl isBlk rfl rfl Try.underlying45 vt5 (by decide)) trivial rfl (From.ok (ps := [(none, 0)]) ⟨⟨rfl, rfl⟩, trivial⟩) (DAll.op' (sp_loadB rfl isBlk rfl vt5 rfl) trivial rfl (From.ok (ps := [(none, 0)]) ⟨⟨rfl, rfl⟩, trivial⟩) (DAll.op' (sp_indexA (len := 2) (iv := 1) rfl isBlk rfl rfl Try.underlying45 vt5 (by decide)) trivial rfl (From.ok (ps := [(none, 0)]) ⟨⟨rfl, rfl⟩, trivial⟩) (DAll.op' (sp_loadB rfl isBlk rfl vt5 rfl) trivial rfl (From.ok (ps := [(none, 0)]) ⟨⟨rfl, rfl⟩, trivial⟩) (DAll.op' (sp_assign rfl rfl) trivial rfl (From.ok (ps := []) trivial) (.nil)))))
  refine op0 (sp_assign rfl rfl) rfl trivial rfl rfl ?_
  refine TL.nil ?_
  refine TC.seq ?_
  refine TC.region ?_
  refine op0 (sp_move rfl rfl) rfl trivial rfl rfl ?_
  obtain ⟨h1, h⟩ := chk_inv h
  refine op0 (sp_conv rfl Try.underlying5 Try.underlying3 rfl h1) rfl trivial rfl rfl ?_
  refine op0 (sp_rem rfl rfl rfl (by decide)) rfl trivial rfl rfl ?_
  obtain ⟨h2, h⟩ := chk_inv h
  refine op0 (sp_add rfl rfl rfl h2) rfl trivial rfl rfl ?_
  refine op0 (sp_emptyM 3 (List.map en_api_PartContract []) rfl rfl sl46) rfl trivial rfl rfl ?_
  refine op0 (sp_assign rfl rfl) rfl trivial rfl rfl ?_
  refine op0 (sp_assign rfl rfl) rfl trivial rfl rfl ?_
  refine op0 (sp_assign rfl rfl) rfl trivial rfl rfl ?_
  refine TL.nil ?_
  refine TC.seq ?_
  refine TC.seq ?_
  refine TC.region ?_
  refine op0 (sp_assign rfl rfl) rfl trivial rfl rfl ?_
  refine TL.nil ?_
  refine TC.block ?_
  refine TC.loop ?_
  refine TC.seq ?_
  refine TC.seq ?_
  refine subJ [] (ok_top_TopSparesBook_l0 _ _ _ _ _ _ _ _ _ _ _ _ _ _ _ _ _ _ _ _ h) ?_ ?_ ?_
  · exact ⟨rfl, rfl, rfl, rfl, rfl, rfl, rfl, trivial⟩
  · exact ⟨mem_at 3 rfl, mem_at 2 rfl, mem_at 0 rfl, trivial⟩
  · rfl
end
end Go.Proofs.Ytmgcinejodpopaa.Sy
