/- What functions of the program compute, and that they do: printed by symgen.py. -/
import Derived.Test.YtglgkcfgjaoabaaGLib
import Derived.Test.YtglgkcfgjaoabaaGturretlaw05
import Derived.Test.YtglgkcfgjaoabaaGStrike
set_option linter.unusedSimpArgs false
set_option linter.unusedVariables false
namespace Go.Proofs.Ytglgkcfgjaoabaa.Sy
open Go.RowKit
noncomputable section

/- law05_StrikeFound -/
def ev_law05_StrikeFound_j4 (n : Nat) (r19 : Int) (at_4 : Int) (i11 : Int) (l16 : List (Int × Int)) (l17 : List Int) (l18 : List Int) (l12 : List Int) (b13 : Bool) (i14 : Int) (i15 : Int) (i10 : Int) (k_law05_StrikeFound_l0 : Int → Int → Int → Int → (List Int) → Bool → Int → Int → (List (Int × Int)) → (List Int) → (List Int) → Option Bool) (i23 : Int) (i24 : Int) (i25 : Int) : Option Bool :=
  cond (decide ((0 : Int) < (Int.tmod r19 3))) (chk (in64 (at_4 + i11)) <| chk (room 16 (l16.length + ([((at_4 + i11), i25)] : List (Int × Int)).length)) <| chk (room 8 (l17.length + ([i23] : List Int).length)) <| chk (room 8 (l18.length + ([i24] : List Int).length)) <| chk (in64 (i11 + 1)) <| k_law05_StrikeFound_l0 i23 i24 ((l16 ++ ([((at_4 + i11), i25)] : List (Int × Int))).length : Int) (i11 + 1) l12 b13 i14 i15 (l16 ++ ([((at_4 + i11), i25)] : List (Int × Int))) (l17 ++ ([i23] : List Int)) (l18 ++ ([i24] : List Int))) (chk (in64 (i11 + 1)) <| k_law05_StrikeFound_l0 i23 i24 i10 (i11 + 1) l12 b13 i14 i15 l16 l17 l18)
set_option maxRecDepth 100000 in
set_option maxHeartbeats 2000000 in
theorem ok_law05_StrikeFound_j4 {n : Nat} {w0 : World} {R0 : Nat → Prop} {env0 : Env} {r : Bool} {r7 : Int} {at_4 : Int} {r19 : Int} {i11 : Int} {l16 : List (Int × Int)} {l17 : List Int} {l18 : List Int} {l12 : List Int} {b13 : Bool} {i14 : Int} {i15 : Int} {i10 : Int} {k_law05_StrikeFound_l0 : Int → Int → Int → Int → (List Int) → Bool → Int → Int → (List (Int × Int)) → (List Int) → (List Int) → Option Bool} {i23 : Int} {i24 : Int} {i25 : Int} (hk_law05_StrikeFound_l0 : ∀ (i8 : Int) (i9 : Int) (i10 : Int) (i11 : Int) (l12 : List Int) (b13 : Bool) (i14 : Int) (i15 : Int) (l16 : List (Int × Int)) (l17 : List Int) (l18 : List Int), k_law05_StrikeFound_l0 i8 i9 i10 i11 l12 b13 i14 i15 l16 l17 l18 = some r → TC Try.prog ⟨w0, fun _ => False, R0⟩ 220 (bodyPost Try.prog Try.f7 (Post ⟨w0, fun _ => False, R0⟩ env0 (.val (.bool r)) [])) [.code (sub (bodyOf Try.f7) [1, 1, 1, 1, 1, 0, 1, 0, 0, 0, 0]), .code (sub (bodyOf Try.f7) [1, 1, 1, 1, 1, 0, 1, 0, 0, 0, 1]), .code (sub (bodyOf Try.f7) [1, 1, 1, 1, 1, 0, 1, 0, 0, 1]), .inLoop (sub (bodyOf Try.f7) [1, 1, 1, 1, 1, 0, 1, 0, 0]), .inBlock 0, .code (sub (bodyOf Try.f7) [1, 1, 1, 1, 1, 1])] ([(2, .ref 0), (3, .ptr 1 0), (7, .val (.int .i64 r7)), (8, .val (.int .i64 at_4)), (9, .val (.int .i64 i8)), (10, .ref 3), (11, .val (.int .i64 i9)), (12, .val (.int .i64 i10)), (13, .ref 4), (14, .ref 5), (15, .val (.int .i64 i11))]) ([.ro 0 1 (List.map en_uint8 l12), .blk 1 [.val (.bool b13), .val (.int .u8 i14), .val (.int .u8 i15)] 64, .row 3 43 2 (List.map en_api_StrikeHeard l16), .row 4 3 1 (List.map en_int l17), .row 5 3 1 (List.map en_int l18)])) (h : ev_law05_StrikeFound_j4 n r19 at_4 i11 l16 l17 l18 l12 b13 i14 i15 i10 k_law05_StrikeFound_l0 i23 i24 i25 = some r) : TC Try.prog ⟨w0, fun _ => False, R0⟩ 220 (bodyPost Try.prog Try.f7 (Post ⟨w0, fun _ => False, R0⟩ env0 (.val (.bool r)) [])) [.code (sub (bodyOf Try.f7) [1, 1, 1, 1, 1, 0, 1, 0, 0, 1, 0, 0, 1, 1, 1, 0]), .code (sub (bodyOf Try.f7) [1, 1, 1, 1, 1, 0, 1, 0, 0, 1, 0, 0, 1, 1, 1, 1]), .inBlock 1, .code (sub (bodyOf Try.f7) [1, 1, 1, 1, 1, 0, 1, 0, 0, 1, 1]), .inLoop (sub (bodyOf Try.f7) [1, 1, 1, 1, 1, 0, 1, 0, 0]), .inBlock 0, .code (sub (bodyOf Try.f7) [1, 1, 1, 1, 1, 1])] ([(2, .ref 0), (3, .ptr 1 0), (7, .val (.int .i64 r7)), (8, .val (.int .i64 at_4)), (9, .val (.int .i64 i23)), (10, .ref 3), (11, .val (.int .i64 i24)), (12, .val (.int .i64 i10)), (13, .ref 4), (14, .ref 5), (15, .val (.int .i64 i11)), (16, .val (.int .i64 r19)), (17, .val (.int .i64 i25))]) ([.ro 0 1 (List.map en_uint8 l12), .blk 1 [.val (.bool b13), .val (.int .u8 i14), .val (.int .u8 i15)] 64, .row 3 43 2 (List.map en_api_StrikeHeard l16), .row 4 3 1 (List.map en_int l17), .row 5 3 1 (List.map en_int l18)]) := by
  rw [ev_law05_StrikeFound_j4] at h
  refine TC.region ?_
  refine op0 (sp_move rfl rfl) rfl trivial rfl rfl ?_
  refine op0 (sp_rem rfl rfl rfl (by decide)) rfl trivial rfl rfl ?_
  refine op0 (sp_gtr rfl rfl rfl) rfl trivial rfl rfl ?_
  refine TL.nil ?_
  refine TC.cond (b := (decide ((0 : Int) < (Int.tmod r19 3)))) rfl (fun h15 => ?_) (fun h15 => ?_)
  · have h := cond_t h h15
    refine TC.seq ?_
    refine TC.region ?_
    refine op0 (sp_move rfl rfl) rfl trivial rfl rfl ?_
    refine op0 (sp_move rfl rfl) rfl trivial rfl rfl ?_
    refine op0 (sp_move rfl rfl) rfl trivial rfl rfl ?_
    obtain ⟨h16, h⟩ := chk_inv h
    refine op0 (sp_add rfl rfl rfl h16) rfl trivial rfl rfl ?_
    refine op0 (sp_move rfl rfl) rfl trivial rfl rfl ?_
    refine op0 (sp_build (qs := [(0, .val (.int .i64 (at_4 + i11))), (1, .val (.int .i64 i25))]) rfl bt43 rfl rfl rfl rfl) rfl trivial rfl rfl ?_
    refine op0 (sp_buildSlice (qs := [.agg [.val (.int .i64 (at_4 + i11)), .val (.int .i64 i25)]]) (need := []) (els := List.map en_api_StrikeHeard ([((at_4 + i11), i25)] : List (Int × Int))) 6 rfl sl37 (by decide) (by decide) rfl rfl rfl (.v (.v (.nil))) (map_len fun _ => rfl) rfl rfl rfl) rfl trivial rfl rfl ?_
    obtain ⟨h17, h⟩ := chk_inv h
    refine appM 3 0 (N := l16.length) (N2 := ([((at_4 + i11), i25)] : List (Int × Int)).length) 7 rfl rfl trivial rfl rfl rfl rfl rfl isOwn rfl sl37 (len_map _ _) (len_map _ _) h17 (map_app _ _ _) rfl ?_
    refine op0 (sp_assign rfl rfl) rfl trivial rfl rfl ?_
    refine TL.nil ?_
    refine TC.region ?_
    refine op0 (sp_move rfl rfl) rfl trivial rfl rfl ?_
    refine op0 (sp_move rfl rfl) rfl trivial rfl rfl ?_
    refine op0 (sp_buildSlice (qs := [.val (.int .i64 i23)]) (need := []) (els := List.map en_int ([i23] : List Int)) 8 rfl sl39 (by decide) (by decide) rfl rfl rfl (.v (.nil)) (map_len fun _ => rfl) rfl rfl rfl) rfl trivial rfl rfl ?_
    obtain ⟨h18, h⟩ := chk_inv h
    refine appM 5 0 (N := l17.length) (N2 := ([i23] : List Int).length) 9 rfl rfl trivial rfl rfl rfl rfl rfl isOwn rfl sl39 (len_map _ _) (len_map _ _) h18 (map_app _ _ _) rfl ?_
    refine op0 (sp_move rfl rfl) rfl trivial rfl rfl ?_
    refine op0 (sp_move rfl rfl) rfl trivial rfl rfl ?_
    refine op0 (sp_buildSlice (qs := [.val (.int .i64 i24)]) (need := []) (els := List.map en_int ([i24] : List Int)) 10 rfl sl39 (by decide) (by decide) rfl rfl rfl (.v (.nil)) (map_len fun _ => rfl) rfl rfl rfl) rfl trivial rfl rfl ?_
    obtain ⟨h19, h⟩ := chk_inv h
    refine appM 7 0 (N := l18.length) (N2 := ([i24] : List Int).length) 11 rfl rfl trivial rfl rfl rfl rfl rfl isOwn rfl sl39 (len_map _ _) (len_map _ _) h19 (map_app _ _ _) rfl ?_
    refine op0 (sp_move rfl rfl) rfl trivial rfl rfl ?_
    refine op1 4 rfl (sp_lenM (N := (l16 ++ ([((at_4 + i11), i25)] : List (Int × Int))).length) (len_map _ _) rfl rfl isOwn Try.underlying37) rfl trivial rfl rfl ?_
    refine op0 (sp_assign rfl rfl) rfl trivial rfl rfl ?_
    refine op0 (sp_assign rfl rfl) rfl trivial rfl rfl ?_
    refine op0 (sp_assign rfl rfl) rfl trivial rfl rfl ?_
    refine TL.nil ?_
    refine TC.inBlock ?_
    refine TC.region ?_
    refine op0 (sp_move rfl rfl) rfl trivial rfl rfl ?_
    obtain ⟨h20, h⟩ := chk_inv h
    refine op0 (sp_add rfl rfl rfl h20) rfl trivial rfl rfl ?_
    refine op0 (sp_assign rfl rfl) rfl trivial rfl rfl ?_
    refine TL.nil ?_
    refine TC.inLoop ?_
    refine TC.seq ?_
    refine TC.seq ?_
    refine subJ [(3, 7), (4, 9), (5, 11)] (hk_law05_StrikeFound_l0 _ _ _ _ _ _ _ _ _ _ _ h) ?_ ?_ ?_
    · exact ⟨rfl, rfl, rfl, rfl, rfl, rfl, rfl, rfl, rfl, rfl, rfl, trivial⟩
    · exact ⟨mem_at 6 rfl, mem_at 7 rfl, mem_at 4 rfl, mem_at 2 rfl, mem_at 0 rfl, trivial⟩
    · rfl
  · have h := cond_f h h15
    refine TC.skip ?_
    refine TC.inBlock ?_
    refine TC.region ?_
    refine op0 (sp_move rfl rfl) rfl trivial rfl rfl ?_
    obtain ⟨h21, h⟩ := chk_inv h
    refine op0 (sp_add rfl rfl rfl h21) rfl trivial rfl rfl ?_
    refine op0 (sp_assign rfl rfl) rfl trivial rfl rfl ?_
    refine TL.nil ?_
    refine TC.inLoop ?_
    refine TC.seq ?_
    refine TC.seq ?_
    refine subJ [] (hk_law05_StrikeFound_l0 _ _ _ _ _ _ _ _ _ _ _ h) ?_ ?_ ?_
    · exact ⟨rfl, rfl, rfl, rfl, rfl, rfl, rfl, rfl, rfl, rfl, rfl, trivial⟩
    · exact ⟨mem_at 0 rfl, mem_at 1 rfl, mem_at 2 rfl, mem_at 3 rfl, mem_at 4 rfl, trivial⟩
    · rfl
def ev_law05_StrikeFound_j3 (n : Nat) (i9 : Int) (r19 : Int) (at_4 : Int) (i11 : Int) (l16 : List (Int × Int)) (l17 : List Int) (l18 : List Int) (l12 : List Int) (b13 : Bool) (i14 : Int) (i15 : Int) (i10 : Int) (i8 : Int) (k_law05_StrikeFound_l0 : Int → Int → Int → Int → (List Int) → Bool → Int → Int → (List (Int × Int)) → (List Int) → (List Int) → Option Bool) : Option Bool :=
  chk (in64 (i9 + 1)) <| ev_law05_StrikeFound_j4 n r19 at_4 i11 l16 l17 l18 l12 b13 i14 i15 i10 k_law05_StrikeFound_l0 i8 (i9 + 1) 0
set_option maxRecDepth 100000 in
set_option maxHeartbeats 2000000 in
theorem ok_law05_StrikeFound_j3 {n : Nat} {w0 : World} {R0 : Nat → Prop} {env0 : Env} {r : Bool} {r7 : Int} {at_4 : Int} {r19 : Int} {i9 : Int} {i11 : Int} {l16 : List (Int × Int)} {l17 : List Int} {l18 : List Int} {l12 : List Int} {b13 : Bool} {i14 : Int} {i15 : Int} {i10 : Int} {i8 : Int} {k_law05_StrikeFound_l0 : Int → Int → Int → Int → (List Int) → Bool → Int → Int → (List (Int × Int)) → (List Int) → (List Int) → Option Bool} (hk_law05_StrikeFound_l0 : ∀ (i8 : Int) (i9 : Int) (i10 : Int) (i11 : Int) (l12 : List Int) (b13 : Bool) (i14 : Int) (i15 : Int) (l16 : List (Int × Int)) (l17 : List Int) (l18 : List Int), k_law05_StrikeFound_l0 i8 i9 i10 i11 l12 b13 i14 i15 l16 l17 l18 = some r → TC Try.prog ⟨w0, fun _ => False, R0⟩ 220 (bodyPost Try.prog Try.f7 (Post ⟨w0, fun _ => False, R0⟩ env0 (.val (.bool r)) [])) [.code (sub (bodyOf Try.f7) [1, 1, 1, 1, 1, 0, 1, 0, 0, 0, 0]), .code (sub (bodyOf Try.f7) [1, 1, 1, 1, 1, 0, 1, 0, 0, 0, 1]), .code (sub (bodyOf Try.f7) [1, 1, 1, 1, 1, 0, 1, 0, 0, 1]), .inLoop (sub (bodyOf Try.f7) [1, 1, 1, 1, 1, 0, 1, 0, 0]), .inBlock 0, .code (sub (bodyOf Try.f7) [1, 1, 1, 1, 1, 1])] ([(2, .ref 0), (3, .ptr 1 0), (7, .val (.int .i64 r7)), (8, .val (.int .i64 at_4)), (9, .val (.int .i64 i8)), (10, .ref 3), (11, .val (.int .i64 i9)), (12, .val (.int .i64 i10)), (13, .ref 4), (14, .ref 5), (15, .val (.int .i64 i11))]) ([.ro 0 1 (List.map en_uint8 l12), .blk 1 [.val (.bool b13), .val (.int .u8 i14), .val (.int .u8 i15)] 64, .row 3 43 2 (List.map en_api_StrikeHeard l16), .row 4 3 1 (List.map en_int l17), .row 5 3 1 (List.map en_int l18)])) (h : ev_law05_StrikeFound_j3 n i9 r19 at_4 i11 l16 l17 l18 l12 b13 i14 i15 i10 i8 k_law05_StrikeFound_l0 = some r) : TC Try.prog ⟨w0, fun _ => False, R0⟩ 220 (bodyPost Try.prog Try.f7 (Post ⟨w0, fun _ => False, R0⟩ env0 (.val (.bool r)) [])) [.code (sub (bodyOf Try.f7) [1, 1, 1, 1, 1, 0, 1, 0, 0, 1, 0, 0, 1, 1, 0, 1, 0, 1, 1, 0]), .code (sub (bodyOf Try.f7) [1, 1, 1, 1, 1, 0, 1, 0, 0, 1, 0, 0, 1, 1, 1]), .inBlock 1, .code (sub (bodyOf Try.f7) [1, 1, 1, 1, 1, 0, 1, 0, 0, 1, 1]), .inLoop (sub (bodyOf Try.f7) [1, 1, 1, 1, 1, 0, 1, 0, 0]), .inBlock 0, .code (sub (bodyOf Try.f7) [1, 1, 1, 1, 1, 1])] ([(2, .ref 0), (3, .ptr 1 0), (7, .val (.int .i64 r7)), (8, .val (.int .i64 at_4)), (9, .val (.int .i64 i8)), (10, .ref 3), (11, .val (.int .i64 i9)), (12, .val (.int .i64 i10)), (13, .ref 4), (14, .ref 5), (15, .val (.int .i64 i11)), (16, .val (.int .i64 r19)), (17, .val (.int .i64 0))]) ([.ro 0 1 (List.map en_uint8 l12), .blk 1 [.val (.bool b13), .val (.int .u8 i14), .val (.int .u8 i15)] 64, .row 3 43 2 (List.map en_api_StrikeHeard l16), .row 4 3 1 (List.map en_int l17), .row 5 3 1 (List.map en_int l18)]) := by
  rw [ev_law05_StrikeFound_j3] at h
  refine TC.region ?_
  refine op0 (sp_move rfl rfl) rfl trivial rfl rfl ?_
  obtain ⟨h14, h⟩ := chk_inv h
  refine op0 (sp_add rfl rfl rfl h14) rfl trivial rfl rfl ?_
  refine op0 (sp_assign rfl rfl) rfl trivial rfl rfl ?_
  refine TL.nil ?_
  refine TC.seq ?_
  refine subJ [] (ok_law05_StrikeFound_j4 (r7 := r7) hk_law05_StrikeFound_l0 h) ?_ ?_ ?_
  · exact ⟨rfl, rfl, rfl, rfl, rfl, rfl, rfl, rfl, rfl, rfl, rfl, rfl, rfl, trivial⟩
  · exact ⟨mem_at 0 rfl, mem_at 1 rfl, mem_at 2 rfl, mem_at 3 rfl, mem_at 4 rfl, trivial⟩
  · rfl
def ev_law05_StrikeFound_j5 (n : Nat) (r19 : Int) (at_4 : Int) (i11 : Int) (l16 : List (Int × Int)) (l17 : List Int) (l18 : List Int) (l12 : List Int) (b13 : Bool) (i14 : Int) (i15 : Int) (i10 : Int) (i8 : Int) (i9 : Int) (k_law05_StrikeFound_l0 : Int → Int → Int → Int → (List Int) → Bool → Int → Int → (List (Int × Int)) → (List Int) → (List Int) → Option Bool) : Option Bool :=
  ev_law05_StrikeFound_j4 n r19 at_4 i11 l16 l17 l18 l12 b13 i14 i15 i10 k_law05_StrikeFound_l0 i8 i9 0
set_option maxRecDepth 100000 in
set_option maxHeartbeats 2000000 in
theorem ok_law05_StrikeFound_j5 {n : Nat} {w0 : World} {R0 : Nat → Prop} {env0 : Env} {r : Bool} {r7 : Int} {at_4 : Int} {r19 : Int} {i11 : Int} {l16 : List (Int × Int)} {l17 : List Int} {l18 : List Int} {l12 : List Int} {b13 : Bool} {i14 : Int} {i15 : Int} {i10 : Int} {i8 : Int} {i9 : Int} {k_law05_StrikeFound_l0 : Int → Int → Int → Int → (List Int) → Bool → Int → Int → (List (Int × Int)) → (List Int) → (List Int) → Option Bool} (hk_law05_StrikeFound_l0 : ∀ (i8 : Int) (i9 : Int) (i10 : Int) (i11 : Int) (l12 : List Int) (b13 : Bool) (i14 : Int) (i15 : Int) (l16 : List (Int × Int)) (l17 : List Int) (l18 : List Int), k_law05_StrikeFound_l0 i8 i9 i10 i11 l12 b13 i14 i15 l16 l17 l18 = some r → TC Try.prog ⟨w0, fun _ => False, R0⟩ 220 (bodyPost Try.prog Try.f7 (Post ⟨w0, fun _ => False, R0⟩ env0 (.val (.bool r)) [])) [.code (sub (bodyOf Try.f7) [1, 1, 1, 1, 1, 0, 1, 0, 0, 0, 0]), .code (sub (bodyOf Try.f7) [1, 1, 1, 1, 1, 0, 1, 0, 0, 0, 1]), .code (sub (bodyOf Try.f7) [1, 1, 1, 1, 1, 0, 1, 0, 0, 1]), .inLoop (sub (bodyOf Try.f7) [1, 1, 1, 1, 1, 0, 1, 0, 0]), .inBlock 0, .code (sub (bodyOf Try.f7) [1, 1, 1, 1, 1, 1])] ([(2, .ref 0), (3, .ptr 1 0), (7, .val (.int .i64 r7)), (8, .val (.int .i64 at_4)), (9, .val (.int .i64 i8)), (10, .ref 3), (11, .val (.int .i64 i9)), (12, .val (.int .i64 i10)), (13, .ref 4), (14, .ref 5), (15, .val (.int .i64 i11))]) ([.ro 0 1 (List.map en_uint8 l12), .blk 1 [.val (.bool b13), .val (.int .u8 i14), .val (.int .u8 i15)] 64, .row 3 43 2 (List.map en_api_StrikeHeard l16), .row 4 3 1 (List.map en_int l17), .row 5 3 1 (List.map en_int l18)])) (h : ev_law05_StrikeFound_j5 n r19 at_4 i11 l16 l17 l18 l12 b13 i14 i15 i10 i8 i9 k_law05_StrikeFound_l0 = some r) : TC Try.prog ⟨w0, fun _ => False, R0⟩ 220 (bodyPost Try.prog Try.f7 (Post ⟨w0, fun _ => False, R0⟩ env0 (.val (.bool r)) [])) [.code (sub (bodyOf Try.f7) [1, 1, 1, 1, 1, 0, 1, 0, 0, 1, 0, 0, 1, 1, 0, 1, 0, 1, 1, 1]), .code (sub (bodyOf Try.f7) [1, 1, 1, 1, 1, 0, 1, 0, 0, 1, 0, 0, 1, 1, 1]), .inBlock 1, .code (sub (bodyOf Try.f7) [1, 1, 1, 1, 1, 0, 1, 0, 0, 1, 1]), .inLoop (sub (bodyOf Try.f7) [1, 1, 1, 1, 1, 0, 1, 0, 0]), .inBlock 0, .code (sub (bodyOf Try.f7) [1, 1, 1, 1, 1, 1])] ([(2, .ref 0), (3, .ptr 1 0), (7, .val (.int .i64 r7)), (8, .val (.int .i64 at_4)), (9, .val (.int .i64 i8)), (10, .ref 3), (11, .val (.int .i64 i9)), (12, .val (.int .i64 i10)), (13, .ref 4), (14, .ref 5), (15, .val (.int .i64 i11)), (16, .val (.int .i64 r19)), (17, .val (.int .i64 0))]) ([.ro 0 1 (List.map en_uint8 l12), .blk 1 [.val (.bool b13), .val (.int .u8 i14), .val (.int .u8 i15)] 64, .row 3 43 2 (List.map en_api_StrikeHeard l16), .row 4 3 1 (List.map en_int l17), .row 5 3 1 (List.map en_int l18)]) := by
  rw [ev_law05_StrikeFound_j5] at h
  refine TC.skip ?_
  refine TC.seq ?_
  refine subJ [] (ok_law05_StrikeFound_j4 (r7 := r7) hk_law05_StrikeFound_l0 h) ?_ ?_ ?_
  · exact ⟨rfl, rfl, rfl, rfl, rfl, rfl, rfl, rfl, rfl, rfl, rfl, rfl, rfl, trivial⟩
  · exact ⟨mem_at 0 rfl, mem_at 1 rfl, mem_at 2 rfl, mem_at 3 rfl, mem_at 4 rfl, trivial⟩
  · rfl
def ev_law05_StrikeFound_j2 (n : Nat) (r19 : Int) (l16 : List (Int × Int)) (i9 : Int) (at_4 : Int) (i11 : Int) (l17 : List Int) (l18 : List Int) (l12 : List Int) (b13 : Bool) (i14 : Int) (i15 : Int) (i10 : Int) (i8 : Int) (r7 : Int) (k_law05_StrikeFound_l0 : Int → Int → Int → Int → (List Int) → Bool → Int → Int → (List (Int × Int)) → (List Int) → (List Int) → Option Bool) (i22 : Int) : Option Bool :=
  cond ((Int.tmod r19 8) == 1) (cond (decide ((0 : Int) < (l16.length : Int))) (ev_law05_StrikeFound_j3 n i9 r19 at_4 i11 l16 l17 l18 l12 b13 i14 i15 i10 i8 k_law05_StrikeFound_l0) (cond (decide ((0 : Int) < (Int.tmod r19 3))) (ev_law05_StrikeFound_j3 n i9 r19 at_4 i11 l16 l17 l18 l12 b13 i14 i15 i10 i8 k_law05_StrikeFound_l0) (ev_law05_StrikeFound_j5 n r19 at_4 i11 l16 l17 l18 l12 b13 i14 i15 i10 i8 i9 k_law05_StrikeFound_l0))) (chk (in64 (i8 + 1)) <| chk (r7 != 0) <| ev_law05_StrikeFound_j4 n r19 at_4 i11 l16 l17 l18 l12 b13 i14 i15 i10 k_law05_StrikeFound_l0 (Int.tmod (i8 + 1) r7) i9 i22)
set_option maxRecDepth 100000 in
set_option maxHeartbeats 2000000 in
theorem ok_law05_StrikeFound_j2 {n : Nat} {w0 : World} {R0 : Nat → Prop} {env0 : Env} {r : Bool} {r7 : Int} {at_4 : Int} {r19 : Int} {l16 : List (Int × Int)} {i9 : Int} {i11 : Int} {l17 : List Int} {l18 : List Int} {l12 : List Int} {b13 : Bool} {i14 : Int} {i15 : Int} {i10 : Int} {i8 : Int} {k_law05_StrikeFound_l0 : Int → Int → Int → Int → (List Int) → Bool → Int → Int → (List (Int × Int)) → (List Int) → (List Int) → Option Bool} {i22 : Int} (hk_law05_StrikeFound_l0 : ∀ (i8 : Int) (i9 : Int) (i10 : Int) (i11 : Int) (l12 : List Int) (b13 : Bool) (i14 : Int) (i15 : Int) (l16 : List (Int × Int)) (l17 : List Int) (l18 : List Int), k_law05_StrikeFound_l0 i8 i9 i10 i11 l12 b13 i14 i15 l16 l17 l18 = some r → TC Try.prog ⟨w0, fun _ => False, R0⟩ 220 (bodyPost Try.prog Try.f7 (Post ⟨w0, fun _ => False, R0⟩ env0 (.val (.bool r)) [])) [.code (sub (bodyOf Try.f7) [1, 1, 1, 1, 1, 0, 1, 0, 0, 0, 0]), .code (sub (bodyOf Try.f7) [1, 1, 1, 1, 1, 0, 1, 0, 0, 0, 1]), .code (sub (bodyOf Try.f7) [1, 1, 1, 1, 1, 0, 1, 0, 0, 1]), .inLoop (sub (bodyOf Try.f7) [1, 1, 1, 1, 1, 0, 1, 0, 0]), .inBlock 0, .code (sub (bodyOf Try.f7) [1, 1, 1, 1, 1, 1])] ([(2, .ref 0), (3, .ptr 1 0), (7, .val (.int .i64 r7)), (8, .val (.int .i64 at_4)), (9, .val (.int .i64 i8)), (10, .ref 3), (11, .val (.int .i64 i9)), (12, .val (.int .i64 i10)), (13, .ref 4), (14, .ref 5), (15, .val (.int .i64 i11))]) ([.ro 0 1 (List.map en_uint8 l12), .blk 1 [.val (.bool b13), .val (.int .u8 i14), .val (.int .u8 i15)] 64, .row 3 43 2 (List.map en_api_StrikeHeard l16), .row 4 3 1 (List.map en_int l17), .row 5 3 1 (List.map en_int l18)])) (h : ev_law05_StrikeFound_j2 n r19 l16 i9 at_4 i11 l17 l18 l12 b13 i14 i15 i10 i8 r7 k_law05_StrikeFound_l0 i22 = some r) : TC Try.prog ⟨w0, fun _ => False, R0⟩ 220 (bodyPost Try.prog Try.f7 (Post ⟨w0, fun _ => False, R0⟩ env0 (.val (.bool r)) [])) [.code (sub (bodyOf Try.f7) [1, 1, 1, 1, 1, 0, 1, 0, 0, 1, 0, 0, 1, 1, 0, 0]), .code (sub (bodyOf Try.f7) [1, 1, 1, 1, 1, 0, 1, 0, 0, 1, 0, 0, 1, 1, 0, 1]), .code (sub (bodyOf Try.f7) [1, 1, 1, 1, 1, 0, 1, 0, 0, 1, 0, 0, 1, 1, 1]), .inBlock 1, .code (sub (bodyOf Try.f7) [1, 1, 1, 1, 1, 0, 1, 0, 0, 1, 1]), .inLoop (sub (bodyOf Try.f7) [1, 1, 1, 1, 1, 0, 1, 0, 0]), .inBlock 0, .code (sub (bodyOf Try.f7) [1, 1, 1, 1, 1, 1])] ([(2, .ref 0), (3, .ptr 1 0), (7, .val (.int .i64 r7)), (8, .val (.int .i64 at_4)), (9, .val (.int .i64 i8)), (10, .ref 3), (11, .val (.int .i64 i9)), (12, .val (.int .i64 i10)), (13, .ref 4), (14, .ref 5), (15, .val (.int .i64 i11)), (16, .val (.int .i64 r19)), (17, .val (.int .i64 i22))]) ([.ro 0 1 (List.map en_uint8 l12), .blk 1 [.val (.bool b13), .val (.int .u8 i14), .val (.int .u8 i15)] 64, .row 3 43 2 (List.map en_api_StrikeHeard l16), .row 4 3 1 (List.map en_int l17), .row 5 3 1 (List.map en_int l18)]) := by
  rw [ev_law05_StrikeFound_j2] at h
  refine TC.region ?_
  refine op0 (sp_move rfl rfl) rfl trivial rfl rfl ?_
  refine op0 (sp_rem rfl rfl rfl (by decide)) rfl trivial rfl rfl ?_
  refine op0 (sp_eql rfl rfl rfl) rfl trivial rfl rfl ?_
  refine TL.nil ?_
  refine TC.cond (b := ((Int.tmod r19 8) == 1)) rfl (fun h12 => ?_) (fun h12 => ?_)
  · have h := cond_t h h12
    refine TC.seq ?_
    refine TC.region ?_
    refine op0 (sp_assign rfl rfl) rfl trivial rfl rfl ?_
    refine TL.nil ?_
    refine TC.seq ?_
    refine TC.region ?_
    refine op0 (sp_move rfl rfl) rfl trivial rfl rfl ?_
    refine op1 2 rfl (sp_lenM (N := l16.length) (len_map _ _) rfl rfl isOwn Try.underlying37) rfl trivial rfl rfl ?_
    refine op0 (sp_gtr rfl rfl rfl) rfl trivial rfl rfl ?_
    refine op0 (sp_move rfl rfl) rfl trivial rfl rfl ?_
    rcases cond_cases h with ⟨h13, h⟩ | ⟨h13, h⟩
    · refine (boolLit 68 rfl h13).2 ?_
      refine opSkip rfl ⟨_, rfl, .inl rfl⟩ rfl ?_
      refine opSkip rfl ⟨_, rfl, .inl rfl⟩ rfl ?_
      refine opSkip rfl ⟨_, rfl, .inl rfl⟩ rfl ?_
      refine op0 (sp_pickT rfl rfl rfl) rfl trivial rfl rfl ?_
      refine TL.nil ?_
      refine TC.condT rfl ?_
      refine subJ [] (ok_law05_StrikeFound_j3 (r7 := r7) hk_law05_StrikeFound_l0 h) ?_ ?_ ?_
      · exact ⟨rfl, rfl, rfl, rfl, rfl, rfl, rfl, rfl, rfl, rfl, rfl, rfl, rfl, trivial⟩
      · exact ⟨mem_at 0 rfl, mem_at 1 rfl, mem_at 2 rfl, mem_at 3 rfl, mem_at 4 rfl, trivial⟩
      · rfl
    · refine (boolLit 68 rfl h13).2 ?_
      refine op0 (sp_move rfl rfl) rfl ⟨_, rfl, rfl⟩ rfl rfl ?_
      refine op0 (sp_rem rfl rfl rfl (by decide)) rfl ⟨_, rfl, rfl⟩ rfl rfl ?_
      refine op0 (sp_gtr rfl rfl rfl) rfl ⟨_, rfl, rfl⟩ rfl rfl ?_
      refine op0 (sp_pickF rfl rfl rfl) rfl trivial rfl rfl ?_
      refine TL.nil ?_
      refine TC.cond (b := (decide ((0 : Int) < (Int.tmod r19 3)))) rfl (fun h22 => ?_) (fun h22 => ?_)
      · have h := cond_t h h22
        refine subJ [] (ok_law05_StrikeFound_j3 (r7 := r7) hk_law05_StrikeFound_l0 h) ?_ ?_ ?_
        · exact ⟨rfl, rfl, rfl, rfl, rfl, rfl, rfl, rfl, rfl, rfl, rfl, rfl, rfl, trivial⟩
        · exact ⟨mem_at 0 rfl, mem_at 1 rfl, mem_at 2 rfl, mem_at 3 rfl, mem_at 4 rfl, trivial⟩
        · rfl
      · have h := cond_f h h22
        refine subJ [] (ok_law05_StrikeFound_j5 (r7 := r7) hk_law05_StrikeFound_l0 h) ?_ ?_ ?_
        · exact ⟨rfl, rfl, rfl, rfl, rfl, rfl, rfl, rfl, rfl, rfl, rfl, rfl, rfl, trivial⟩
        · exact ⟨mem_at 0 rfl, mem_at 1 rfl, mem_at 2 rfl, mem_at 3 rfl, mem_at 4 rfl, trivial⟩
        · rfl
  · have h := cond_f h h12
    refine TC.region ?_
    refine op0 (sp_move rfl rfl) rfl trivial rfl rfl ?_
    obtain ⟨h23, h⟩ := chk_inv h
    refine op0 (sp_add rfl rfl rfl h23) rfl trivial rfl rfl ?_
    refine op0 (sp_move rfl rfl) rfl trivial rfl rfl ?_
    obtain ⟨h24, h⟩ := chk_inv h
    refine op0 (sp_rem rfl rfl rfl h24) rfl trivial rfl rfl ?_
    refine op0 (sp_assign rfl rfl) rfl trivial rfl rfl ?_
    refine TL.nil ?_
    refine TC.seq ?_
    refine subJ [] (ok_law05_StrikeFound_j4 (r7 := r7) hk_law05_StrikeFound_l0 h) ?_ ?_ ?_
    · exact ⟨rfl, rfl, rfl, rfl, rfl, rfl, rfl, rfl, rfl, rfl, rfl, rfl, rfl, trivial⟩
    · exact ⟨mem_at 0 rfl, mem_at 1 rfl, mem_at 2 rfl, mem_at 3 rfl, mem_at 4 rfl, trivial⟩
    · rfl
def ev_law05_StrikeFound_j1 (n : Nat) (l12 : List Int) (i11 : Int) (b13 : Bool) (i14 : Int) (i15 : Int) (i8 : Int) (at_4 : Int) (l16 : List (Int × Int)) (i9 : Int) (l17 : List Int) (l18 : List Int) (i10 : Int) (r7 : Int) (k_law05_StrikeFound_l0 : Int → Int → Int → Int → (List Int) → Bool → Int → Int → (List (Int × Int)) → (List Int) → (List Int) → Option Bool) : Option Bool :=
  (ev_law05_byteOf n l12 i11).bind fun r19 => (ev_law05_Wheel_blows n b13 i14 i15 i8).bind fun r20 => chk (in64 (at_4 + i11)) <| (ev_law05_Wheel_silent n b13 i14 i15 (at_4 + i11)).bind fun r21 => cond r21 (ev_law05_StrikeFound_j2 n r19 l16 i9 at_4 i11 l17 l18 l12 b13 i14 i15 i10 i8 r7 k_law05_StrikeFound_l0 0) (ev_law05_StrikeFound_j2 n r19 l16 i9 at_4 i11 l17 l18 l12 b13 i14 i15 i10 i8 r7 k_law05_StrikeFound_l0 r20)
set_option maxRecDepth 100000 in
set_option maxHeartbeats 2000000 in
theorem ok_law05_StrikeFound_j1 {n : Nat} {w0 : World} {R0 : Nat → Prop} {env0 : Env} {r : Bool} {r7 : Int} {at_4 : Int} {l12 : List Int} {i11 : Int} {b13 : Bool} {i14 : Int} {i15 : Int} {i8 : Int} {l16 : List (Int × Int)} {i9 : Int} {l17 : List Int} {l18 : List Int} {i10 : Int} {k_law05_StrikeFound_l0 : Int → Int → Int → Int → (List Int) → Bool → Int → Int → (List (Int × Int)) → (List Int) → (List Int) → Option Bool} (hk_law05_StrikeFound_l0 : ∀ (i8 : Int) (i9 : Int) (i10 : Int) (i11 : Int) (l12 : List Int) (b13 : Bool) (i14 : Int) (i15 : Int) (l16 : List (Int × Int)) (l17 : List Int) (l18 : List Int), k_law05_StrikeFound_l0 i8 i9 i10 i11 l12 b13 i14 i15 l16 l17 l18 = some r → TC Try.prog ⟨w0, fun _ => False, R0⟩ 220 (bodyPost Try.prog Try.f7 (Post ⟨w0, fun _ => False, R0⟩ env0 (.val (.bool r)) [])) [.code (sub (bodyOf Try.f7) [1, 1, 1, 1, 1, 0, 1, 0, 0, 0, 0]), .code (sub (bodyOf Try.f7) [1, 1, 1, 1, 1, 0, 1, 0, 0, 0, 1]), .code (sub (bodyOf Try.f7) [1, 1, 1, 1, 1, 0, 1, 0, 0, 1]), .inLoop (sub (bodyOf Try.f7) [1, 1, 1, 1, 1, 0, 1, 0, 0]), .inBlock 0, .code (sub (bodyOf Try.f7) [1, 1, 1, 1, 1, 1])] ([(2, .ref 0), (3, .ptr 1 0), (7, .val (.int .i64 r7)), (8, .val (.int .i64 at_4)), (9, .val (.int .i64 i8)), (10, .ref 3), (11, .val (.int .i64 i9)), (12, .val (.int .i64 i10)), (13, .ref 4), (14, .ref 5), (15, .val (.int .i64 i11))]) ([.ro 0 1 (List.map en_uint8 l12), .blk 1 [.val (.bool b13), .val (.int .u8 i14), .val (.int .u8 i15)] 64, .row 3 43 2 (List.map en_api_StrikeHeard l16), .row 4 3 1 (List.map en_int l17), .row 5 3 1 (List.map en_int l18)])) (h : ev_law05_StrikeFound_j1 n l12 i11 b13 i14 i15 i8 at_4 l16 i9 l17 l18 i10 r7 k_law05_StrikeFound_l0 = some r) : TC Try.prog ⟨w0, fun _ => False, R0⟩ 220 (bodyPost Try.prog Try.f7 (Post ⟨w0, fun _ => False, R0⟩ env0 (.val (.bool r)) [])) [.code (sub (bodyOf Try.f7) [1, 1, 1, 1, 1, 0, 1, 0, 0, 0, 1, 0]), .code (sub (bodyOf Try.f7) [1, 1, 1, 1, 1, 0, 1, 0, 0, 1]), .inLoop (sub (bodyOf Try.f7) [1, 1, 1, 1, 1, 0, 1, 0, 0]), .inBlock 0, .code (sub (bodyOf Try.f7) [1, 1, 1, 1, 1, 1])] ([(2, .ref 0), (3, .ptr 1 0), (7, .val (.int .i64 r7)), (8, .val (.int .i64 at_4)), (9, .val (.int .i64 i8)), (10, .ref 3), (11, .val (.int .i64 i9)), (12, .val (.int .i64 i10)), (13, .ref 4), (14, .ref 5), (15, .val (.int .i64 i11))]) ([.ro 0 1 (List.map en_uint8 l12), .blk 1 [.val (.bool b13), .val (.int .u8 i14), .val (.int .u8 i15)] 64, .row 3 43 2 (List.map en_api_StrikeHeard l16), .row 4 3 1 (List.map en_int l17), .row 5 3 1 (List.map en_int l18)]) := by
  rw [ev_law05_StrikeFound_j1] at h
  refine TC.skip ?_
  refine TC.seq ?_
  refine TC.block ?_
  refine TC.seq ?_
  obtain ⟨r19, h7, h⟩ := bind_inv h
  refine drawJ 5 [⟨.ref 0, [], [], []⟩, ⟨.val (.int .i64 i11), [], [], []⟩, ⟨.val (.int .i64 r19), [], [.ro 0 1 (List.map en_uint8 l12)], []⟩, ⟨.agg [.val (.bool b13), .val (.int .u8 i14), .val (.int .u8 i15)], [], [.blk 1 [.val (.bool b13), .val (.int .u8 i14), .val (.int .u8 i15)] 64], []⟩, ⟨.val (.int .i64 i8), [], [], []⟩] rfl ?_ rfl ?_ rfl ?_ ?_
  · kernel_rfl
  · kernel_rfl
  · exact DAll.op' (sp_move rfl rfl) trivial rfl (From.ok (ps := []) trivial) (DAll.op' (sp_move rfl rfl) trivial rfl (From.ok (ps := []) trivial) (DAll.op' (sp_call (avs := [.ref 0, .val (.int .i64 i11)]) (need := [.ro 0 1 (List.map en_uint8 l12)]) (v := .val (.int .i64 r19)) (news := []) rfl rfl rfl Try.call35 (atJ [] [] (fc_law05_byteOf h7) rfl rfl) (.inl (roAll rfl))) trivial rfl (From.ok (ps := [(none, 0)]) ⟨⟨rfl, rfl⟩, trivial⟩) (DAll.op' (sp_loadBA rfl isBlk rfl vt64 rfl rfl) trivial rfl (From.ok (ps := [(none, 1)]) ⟨⟨rfl, rfl⟩, trivial⟩) (DAll.op' (sp_move rfl rfl) trivial rfl (From.ok (ps := []) trivial) (.nil)))))
  obtain ⟨r20, h8, h⟩ := bind_inv h
  refine op0 (sp_call (avs := [.agg [.val (.bool b13), .val (.int .u8 i14), .val (.int .u8 i15)], .val (.int .i64 i8)]) (need := []) (v := .val (.int .i64 r20)) (news := []) rfl rfl rfl Try.call36 (atJ [] [] (fc_law05_Wheel_blows h8) rfl rfl) (.inl (roAll rfl))) rfl trivial rfl rfl ?_
  refine op0 (sp_assign rfl rfl) rfl trivial rfl rfl ?_
  refine op0 (sp_assign rfl rfl) rfl trivial rfl rfl ?_
  refine TL.nil ?_
  refine TC.seq ?_
  refine TC.seq ?_
  refine TC.region ?_
  refine op1 1 rfl (sp_loadBA rfl isBlk rfl vt64 rfl rfl) rfl trivial rfl rfl ?_
  refine op0 (sp_move rfl rfl) rfl trivial rfl rfl ?_
  refine op0 (sp_move rfl rfl) rfl trivial rfl rfl ?_
  obtain ⟨h9, h⟩ := chk_inv h
  refine op0 (sp_add rfl rfl rfl h9) rfl trivial rfl rfl ?_
  obtain ⟨r21, h10, h⟩ := bind_inv h
  refine op0 (sp_call (avs := [.agg [.val (.bool b13), .val (.int .u8 i14), .val (.int .u8 i15)], .val (.int .i64 (at_4 + i11))]) (need := []) (v := .val (.bool r21)) (news := []) rfl rfl rfl Try.call37 (atJ [] [] (fc_law05_Wheel_silent h10) rfl rfl) (.inl (roAll rfl))) rfl trivial rfl rfl ?_
  refine TL.nil ?_
  refine TC.cond (b := r21) rfl (fun h11 => ?_) (fun h11 => ?_)
  · have h := cond_t h h11
    refine TC.region ?_
    refine op0 (sp_assign rfl rfl) rfl trivial rfl rfl ?_
    refine TL.nil ?_
    refine TC.seq ?_
    refine TC.seq ?_
    refine subJ [] (ok_law05_StrikeFound_j2 hk_law05_StrikeFound_l0 h) ?_ ?_ ?_
    · exact ⟨rfl, rfl, rfl, rfl, rfl, rfl, rfl, rfl, rfl, rfl, rfl, rfl, rfl, trivial⟩
    · exact ⟨mem_at 0 rfl, mem_at 1 rfl, mem_at 2 rfl, mem_at 3 rfl, mem_at 4 rfl, trivial⟩
    · rfl
  · have h := cond_f h h11
    refine TC.skip ?_
    refine TC.seq ?_
    refine TC.seq ?_
    refine subJ [] (ok_law05_StrikeFound_j2 hk_law05_StrikeFound_l0 h) ?_ ?_ ?_
    · exact ⟨rfl, rfl, rfl, rfl, rfl, rfl, rfl, rfl, rfl, rfl, rfl, rfl, rfl, trivial⟩
    · exact ⟨mem_at 0 rfl, mem_at 1 rfl, mem_at 2 rfl, mem_at 3 rfl, mem_at 4 rfl, trivial⟩
    · rfl
def ev_law05_StrikeFound_j11 (n : Nat) (r40 : Int × (List Int) × Int) (i44 : Int) (r7 : Int) (k_law05_StrikeFound_l10 : Bool → Int → Option Bool) (b45 : Bool) : Option Bool :=
  idx r40.2.1 i44 fun x46 => cond (decide (x46 < 0)) (some false) (cond (decide (r7 ≤ x46)) (some false) (cond (decide ((0 : Int) < i44)) (chk (in64 (i44 - 1)) <| idx r40.2.1 (i44 - 1) fun x47 => cond (decide (x46 ≤ x47)) (some false) (chk (in64 (i44 + 1)) <| k_law05_StrikeFound_l10 b45 (i44 + 1))) (chk (in64 (i44 + 1)) <| k_law05_StrikeFound_l10 b45 (i44 + 1))))
set_option maxRecDepth 100000 in
set_option maxHeartbeats 2000000 in
theorem ok_law05_StrikeFound_j11 {n : Nat} {w0 : World} {R0 : Nat → Prop} {env0 : Env} {r : Bool} {r7 : Int} {i26 : Int} {i37 : Int} {r40 : Int × (List Int) × Int} {b27 : Bool} {i28 : Int} {i29 : Int} {l30 : List (Int × Int)} {l31 : List Int} {l32 : List Int} {i44 : Int} {k_law05_StrikeFound_l10 : Bool → Int → Option Bool} {b45 : Bool} (hk_law05_StrikeFound_l10 : ∀ (b43 : Bool) (i44 : Int), k_law05_StrikeFound_l10 b43 i44 = some r → TC Try.prog ⟨w0, fun _ => False, R0⟩ 220 (bodyPost Try.prog Try.f7 (Post ⟨w0, fun _ => False, R0⟩ env0 (.val (.bool r)) [])) [.code (sub (bodyOf Try.f7) [1, 1, 1, 1, 1, 1, 1, 1, 0, 1, 0, 0, 1, 0, 0, 1, 1, 1, 1, 0, 1, 0, 0, 0, 0]), .code (sub (bodyOf Try.f7) [1, 1, 1, 1, 1, 1, 1, 1, 0, 1, 0, 0, 1, 0, 0, 1, 1, 1, 1, 0, 1, 0, 0, 0, 1]), .code (sub (bodyOf Try.f7) [1, 1, 1, 1, 1, 1, 1, 1, 0, 1, 0, 0, 1, 0, 0, 1, 1, 1, 1, 0, 1, 0, 0, 1]), .inLoop (sub (bodyOf Try.f7) [1, 1, 1, 1, 1, 1, 1, 1, 0, 1, 0, 0, 1, 0, 0, 1, 1, 1, 1, 0, 1, 0, 0]), .inBlock 4, .code (sub (bodyOf Try.f7) [1, 1, 1, 1, 1, 1, 1, 1, 0, 1, 0, 0, 1, 0, 0, 1, 1, 1, 1, 1]), .inBlock 3, .code (sub (bodyOf Try.f7) [1, 1, 1, 1, 1, 1, 1, 1, 0, 1, 0, 0, 1, 1]), .inLoop (sub (bodyOf Try.f7) [1, 1, 1, 1, 1, 1, 1, 1, 0, 1, 0, 0]), .inBlock 2, .code (sub (bodyOf Try.f7) [1, 1, 1, 1, 1, 1, 1, 1, 1])] ([(3, .ptr 1 0), (7, .val (.int .i64 r7)), (10, .ref 3), (12, .val (.int .i64 i26)), (13, .ref 4), (14, .ref 5), (22, .val (.int .i64 i37)), (23, .val (.int .i64 r40.1)), (24, .ref 18), (26, .val (.bool b43)), (27, .val (.int .i64 i44))]) ([.blk 1 [.val (.bool b27), .val (.int .u8 i28), .val (.int .u8 i29)] 64, .ro 3 2 (List.map en_api_StrikeHeard l30), .row 4 3 1 (List.map en_int l31), .row 5 3 1 (List.map en_int l32), .row 18 3 1 (List.map en_int r40.2.1)])) (h : ev_law05_StrikeFound_j11 n r40 i44 r7 k_law05_StrikeFound_l10 b45 = some r) : TC Try.prog ⟨w0, fun _ => False, R0⟩ 220 (bodyPost Try.prog Try.f7 (Post ⟨w0, fun _ => False, R0⟩ env0 (.val (.bool r)) [])) [.code (sub (bodyOf Try.f7) [1, 1, 1, 1, 1, 1, 1, 1, 0, 1, 0, 0, 1, 0, 0, 1, 1, 1, 1, 0, 1, 0, 0, 1, 0, 0, 1, 0]), .code (sub (bodyOf Try.f7) [1, 1, 1, 1, 1, 1, 1, 1, 0, 1, 0, 0, 1, 0, 0, 1, 1, 1, 1, 0, 1, 0, 0, 1, 0, 0, 1, 1]), .inBlock 5, .code (sub (bodyOf Try.f7) [1, 1, 1, 1, 1, 1, 1, 1, 0, 1, 0, 0, 1, 0, 0, 1, 1, 1, 1, 0, 1, 0, 0, 1, 1]), .inLoop (sub (bodyOf Try.f7) [1, 1, 1, 1, 1, 1, 1, 1, 0, 1, 0, 0, 1, 0, 0, 1, 1, 1, 1, 0, 1, 0, 0]), .inBlock 4, .code (sub (bodyOf Try.f7) [1, 1, 1, 1, 1, 1, 1, 1, 0, 1, 0, 0, 1, 0, 0, 1, 1, 1, 1, 1]), .inBlock 3, .code (sub (bodyOf Try.f7) [1, 1, 1, 1, 1, 1, 1, 1, 0, 1, 0, 0, 1, 1]), .inLoop (sub (bodyOf Try.f7) [1, 1, 1, 1, 1, 1, 1, 1, 0, 1, 0, 0]), .inBlock 2, .code (sub (bodyOf Try.f7) [1, 1, 1, 1, 1, 1, 1, 1, 1])] ([(3, .ptr 1 0), (7, .val (.int .i64 r7)), (10, .ref 3), (12, .val (.int .i64 i26)), (13, .ref 4), (14, .ref 5), (22, .val (.int .i64 i37)), (23, .val (.int .i64 r40.1)), (24, .ref 18), (26, .val (.bool b45)), (27, .val (.int .i64 i44))]) ([.blk 1 [.val (.bool b27), .val (.int .u8 i28), .val (.int .u8 i29)] 64, .ro 3 2 (List.map en_api_StrikeHeard l30), .row 4 3 1 (List.map en_int l31), .row 5 3 1 (List.map en_int l32), .row 18 3 1 (List.map en_int r40.2.1)]) := by
  rw [ev_law05_StrikeFound_j11] at h
  obtain ⟨x46, h51, h52, h⟩ := idx_inv h
  rcases cond_cases h with ⟨h53, h⟩ | ⟨h53, h⟩
  · refine drawJ 26 [⟨.ref 18, [], [], []⟩, ⟨.val (.int .i64 i44), [], [], []⟩, ⟨.cell 18 ((i44 : Int).toNat * 1), [], [.row 18 3 1 (List.map en_int r40.2.1)], []⟩, ⟨.val (.int .i64 x46), [], [.row 18 3 1 (List.map en_int r40.2.1)], []⟩, ⟨.val (.bool (decide (x46 < 0))), [], [], []⟩, ⟨.val (.bool true), [], [], []⟩, ⟨.val (undef), [], [], []⟩, ⟨.val (undef), [], [], []⟩, ⟨.val (undef), [], [], []⟩, ⟨.val (undef), [], [], []⟩, ⟨.val (undef), [], [], []⟩, ⟨.val (undef), [], [], []⟩, ⟨.val (.bool true), [], [], []⟩, ⟨.val (.bool true), [], [], []⟩, ⟨.val (undef), [], [], []⟩, ⟨.val (undef), [], [], []⟩, ⟨.val (undef), [], [], []⟩, ⟨.val (undef), [], [], []⟩, ⟨.val (undef), [], [], []⟩, ⟨.val (undef), [], [], []⟩, ⟨.val (undef), [], [], []⟩, ⟨.val (undef), [], [], []⟩, ⟨.val (undef), [], [], []⟩, ⟨.val (undef), [], [], []⟩, ⟨.val (undef), [], [], []⟩, ⟨.val (undef), [], [], []⟩] rfl ?_ rfl ?_ rfl ?_ ?_
    · kernel_rfl
    · kernel_rfl
    · exact DAll.op' (sp_move rfl rfl) trivial rfl (From.ok (ps := []) trivial) (DAll.op' (sp_move rfl rfl) trivial rfl (From.ok (ps := []) trivial) (DAll.op' (sp_indexS rfl rfl rfl isOwn sl39 h51 (map_get _ h52)) trivial rfl (From.ok (ps := [(none, 4)]) ⟨⟨rfl, by kernel_rfl⟩, trivial⟩) (DAll.op' (sp_loadR (i := (i44 : Int).toNat) (j := 0) rfl rfl isOwn vt3 rfl (map_get _ h52) rfl (.v (.nil)) (nodup_of_B rfl)) trivial rfl (From.ok (ps := [(none, 4)]) ⟨⟨rfl, by kernel_rfl⟩, trivial⟩) (DAll.op' (sp_lss rfl rfl rfl) trivial rfl (From.ok (ps := []) trivial) (DAll.op' (sp_castB h53 (sp_move rfl rfl)) trivial rfl (From.ok (ps := []) trivial) (.skip ⟨_, rfl, .inl rfl⟩ rfl rfl rfl (.skip ⟨_, rfl, .inl rfl⟩ rfl rfl rfl (.skip ⟨_, rfl, .inl rfl⟩ rfl rfl rfl (.skip ⟨_, rfl, .inl rfl⟩ rfl rfl rfl (.skip ⟨_, rfl, .inl rfl⟩ rfl rfl rfl (.skip ⟨_, rfl, .inl rfl⟩ rfl rfl rfl (DAll.op' (sp_pickT rfl rfl rfl) trivial rfl (From.ok (ps := []) trivial) (DAll.op' (sp_move rfl rfl) trivial rfl (From.ok (ps := []) trivial) (.skip ⟨_, rfl, .inl rfl⟩ rfl rfl rfl (.skip ⟨_, rfl, .inl rfl⟩ rfl rfl rfl (.skip ⟨_, rfl, .inl rfl⟩ rfl rfl rfl (.skip ⟨_, rfl, .inr rfl⟩ rfl rfl rfl (.skip ⟨_, rfl, .inr rfl⟩ rfl rfl rfl (.skip ⟨_, rfl, .inr rfl⟩ rfl rfl rfl (.skip ⟨_, rfl, .inr rfl⟩ rfl rfl rfl (.skip ⟨_, rfl, .inr rfl⟩ rfl rfl rfl (.skip ⟨_, rfl, .inr rfl⟩ rfl rfl rfl (.skip ⟨_, rfl, .inr rfl⟩ rfl rfl rfl (.skip ⟨_, rfl, .inr rfl⟩ rfl rfl rfl (.skip ⟨_, rfl, .inr rfl⟩ rfl rfl rfl (.nil))))))))))))))))))))))))))
    refine opSkip rfl ⟨_, rfl, .inr rfl⟩ rfl ?_
    refine opSkip rfl ⟨_, rfl, .inl rfl⟩ rfl ?_
    refine op0 (sp_pickT rfl rfl rfl) rfl trivial rfl rfl ?_
    refine TL.nil ?_
    refine TC.condT rfl ?_
    refine TC.seq ?_
    refine TC.region ?_
    refine op0 (sp_assign rfl rfl) rfl trivial rfl rfl ?_
    refine TL.nil ?_
    cases h
    exact retJ [] (.tmp rfl .nil) rfl trivial rfl rfl
  · rcases cond_cases h with ⟨h54, h⟩ | ⟨h54, h⟩
    · refine drawJ 26 [⟨.ref 18, [], [], []⟩, ⟨.val (.int .i64 i44), [], [], []⟩, ⟨.cell 18 ((i44 : Int).toNat * 1), [], [.row 18 3 1 (List.map en_int r40.2.1)], []⟩, ⟨.val (.int .i64 x46), [], [.row 18 3 1 (List.map en_int r40.2.1)], []⟩, ⟨.val (.bool (decide (x46 < 0))), [], [], []⟩, ⟨.val (.bool false), [], [], []⟩, ⟨.ref 18, [], [], []⟩, ⟨.val (.int .i64 i44), [], [], []⟩, ⟨.cell 18 ((i44 : Int).toNat * 1), [], [.row 18 3 1 (List.map en_int r40.2.1)], []⟩, ⟨.val (.int .i64 x46), [], [.row 18 3 1 (List.map en_int r40.2.1)], []⟩, ⟨.val (.int .i64 r7), [], [], []⟩, ⟨.val (.bool (decide (r7 ≤ x46))), [], [], []⟩, ⟨.val (.bool (decide (r7 ≤ x46))), [], [], []⟩, ⟨.val (.bool true), [], [], []⟩, ⟨.val (undef), [], [], []⟩, ⟨.val (undef), [], [], []⟩, ⟨.val (undef), [], [], []⟩, ⟨.val (undef), [], [], []⟩, ⟨.val (undef), [], [], []⟩, ⟨.val (undef), [], [], []⟩, ⟨.val (undef), [], [], []⟩, ⟨.val (undef), [], [], []⟩, ⟨.val (undef), [], [], []⟩, ⟨.val (undef), [], [], []⟩, ⟨.val (undef), [], [], []⟩, ⟨.val (undef), [], [], []⟩] rfl ?_ rfl ?_ rfl ?_ ?_
      · kernel_rfl
      · kernel_rfl
      · exact DAll.op' (sp_move rfl rfl) trivial rfl (From.ok (ps := []) trivial) (DAll.op' (sp_move rfl rfl) trivial rfl (From.ok (ps := []) trivial) (DAll.op' (sp_indexS rfl rfl rfl isOwn sl39 h51 (map_get _ h52)) trivial rfl (From.ok (ps := [(none, 4)]) ⟨⟨rfl, by kernel_rfl⟩, trivial⟩) (DAll.op' (sp_loadR (i := (i44 : Int).toNat) (j := 0) rfl rfl isOwn vt3 rfl (map_get _ h52) rfl (.v (.nil)) (nodup_of_B rfl)) trivial rfl (From.ok (ps := [(none, 4)]) ⟨⟨rfl, by kernel_rfl⟩, trivial⟩) (DAll.op' (sp_lss rfl rfl rfl) trivial rfl (From.ok (ps := []) trivial) (DAll.op' (sp_castB h53 (sp_move rfl rfl)) trivial rfl (From.ok (ps := []) trivial) (DAll.op' (sp_move rfl rfl) ⟨_, rfl, rfl⟩ rfl (From.ok (ps := []) trivial) (DAll.op' (sp_move rfl rfl) ⟨_, rfl, rfl⟩ rfl (From.ok (ps := []) trivial) (DAll.op' (sp_indexS rfl rfl rfl isOwn sl39 h51 (map_get _ h52)) ⟨_, rfl, rfl⟩ rfl (From.ok (ps := [(none, 4)]) ⟨⟨rfl, by kernel_rfl⟩, trivial⟩) (DAll.op' (sp_loadR (i := (i44 : Int).toNat) (j := 0) rfl rfl isOwn vt3 rfl (map_get _ h52) rfl (.v (.nil)) (nodup_of_B rfl)) ⟨_, rfl, rfl⟩ rfl (From.ok (ps := [(none, 4)]) ⟨⟨rfl, by kernel_rfl⟩, trivial⟩) (DAll.op' (sp_move rfl rfl) ⟨_, rfl, rfl⟩ rfl (From.ok (ps := []) trivial) (DAll.op' (sp_geq rfl rfl rfl) ⟨_, rfl, rfl⟩ rfl (From.ok (ps := []) trivial) (DAll.op' (sp_pickF rfl rfl rfl) trivial rfl (From.ok (ps := []) trivial) (DAll.op' (sp_castB h54 (sp_move rfl rfl)) trivial rfl (From.ok (ps := []) trivial) (.skip ⟨_, rfl, .inl rfl⟩ rfl rfl rfl (.skip ⟨_, rfl, .inl rfl⟩ rfl rfl rfl (.skip ⟨_, rfl, .inl rfl⟩ rfl rfl rfl (.skip ⟨_, rfl, .inr rfl⟩ rfl rfl rfl (.skip ⟨_, rfl, .inr rfl⟩ rfl rfl rfl (.skip ⟨_, rfl, .inr rfl⟩ rfl rfl rfl (.skip ⟨_, rfl, .inr rfl⟩ rfl rfl rfl (.skip ⟨_, rfl, .inr rfl⟩ rfl rfl rfl (.skip ⟨_, rfl, .inr rfl⟩ rfl rfl rfl (.skip ⟨_, rfl, .inr rfl⟩ rfl rfl rfl (.skip ⟨_, rfl, .inr rfl⟩ rfl rfl rfl (.skip ⟨_, rfl, .inr rfl⟩ rfl rfl rfl (.nil))))))))))))))))))))))))))
      refine opSkip rfl ⟨_, rfl, .inr rfl⟩ rfl ?_
      refine opSkip rfl ⟨_, rfl, .inl rfl⟩ rfl ?_
      refine op0 (sp_pickT rfl rfl rfl) rfl trivial rfl rfl ?_
      refine TL.nil ?_
      refine TC.condT rfl ?_
      refine TC.seq ?_
      refine TC.region ?_
      refine op0 (sp_assign rfl rfl) rfl trivial rfl rfl ?_
      refine TL.nil ?_
      cases h
      exact retJ [] (.tmp rfl .nil) rfl trivial rfl rfl
    · rcases cond_cases h with ⟨h55, h⟩ | ⟨h55, h⟩
      · obtain ⟨h56, h⟩ := chk_inv h
        obtain ⟨x47, h57, h58, h⟩ := idx_inv h
        refine drawJ 26 [⟨.ref 18, [], [], []⟩, ⟨.val (.int .i64 i44), [], [], []⟩, ⟨.cell 18 ((i44 : Int).toNat * 1), [], [.row 18 3 1 (List.map en_int r40.2.1)], []⟩, ⟨.val (.int .i64 x46), [], [.row 18 3 1 (List.map en_int r40.2.1)], []⟩, ⟨.val (.bool (decide (x46 < 0))), [], [], []⟩, ⟨.val (.bool false), [], [], []⟩, ⟨.ref 18, [], [], []⟩, ⟨.val (.int .i64 i44), [], [], []⟩, ⟨.cell 18 ((i44 : Int).toNat * 1), [], [.row 18 3 1 (List.map en_int r40.2.1)], []⟩, ⟨.val (.int .i64 x46), [], [.row 18 3 1 (List.map en_int r40.2.1)], []⟩, ⟨.val (.int .i64 r7), [], [], []⟩, ⟨.val (.bool (decide (r7 ≤ x46))), [], [], []⟩, ⟨.val (.bool (decide (r7 ≤ x46))), [], [], []⟩, ⟨.val (.bool false), [], [], []⟩, ⟨.val (.int .i64 i44), [], [], []⟩, ⟨.val (.bool (decide ((0 : Int) < i44))), [], [], []⟩, ⟨.val (.bool true), [], [], []⟩, ⟨.ref 18, [], [], []⟩, ⟨.val (.int .i64 i44), [], [], []⟩, ⟨.cell 18 ((i44 : Int).toNat * 1), [], [.row 18 3 1 (List.map en_int r40.2.1)], []⟩, ⟨.val (.int .i64 x46), [], [.row 18 3 1 (List.map en_int r40.2.1)], []⟩, ⟨.ref 18, [], [], []⟩, ⟨.val (.int .i64 i44), [], [], []⟩, ⟨.val (.int .i64 (i44 - 1)), [], [], []⟩, ⟨.cell 18 (((i44 - 1) : Int).toNat * 1), [], [.row 18 3 1 (List.map en_int r40.2.1)], []⟩, ⟨.val (.int .i64 x47), [], [.row 18 3 1 (List.map en_int r40.2.1)], []⟩] rfl ?_ rfl ?_ rfl ?_ ?_
        · kernel_rfl
        · kernel_rfl
        · exact DAll.op' (sp_move rfl rfl) trivial rfl (From.ok (ps := []) trivial) (DAll.op' (sp_move rfl rfl) trivial rfl (From.ok (ps := []) trivial) (DAll.op' (sp_indexS rfl rfl rfl isOwn sl39 h51 (map_get _ h52)) trivial rfl (From.ok (ps := [(none, 4)]) ⟨⟨rfl, by kernel_rfl⟩, trivial⟩) (DAll.op' (sp_loadR (i := (i44 : Int).toNat) (j := 0) rfl rfl isOwn vt3 rfl (map_get _ h52) rfl (.v (.nil)) (nodup_of_B rfl)) trivial rfl (From.ok (ps := [(none, 4)]) ⟨⟨rfl, by kernel_rfl⟩, trivial⟩) (DAll.op' (sp_lss rfl rfl rfl) trivial rfl (From.ok (ps := []) trivial) (DAll.op' (sp_castB h53 (sp_move rfl rfl)) trivial rfl (From.ok (ps := []) trivial) (DAll.op' (sp_move rfl rfl) ⟨_, rfl, rfl⟩ rfl (From.ok (ps := []) trivial) (DAll.op' (sp_move rfl rfl) ⟨_, rfl, rfl⟩ rfl (From.ok (ps := []) trivial) (DAll.op' (sp_indexS rfl rfl rfl isOwn sl39 h51 (map_get _ h52)) ⟨_, rfl, rfl⟩ rfl (From.ok (ps := [(none, 4)]) ⟨⟨rfl, by kernel_rfl⟩, trivial⟩) (DAll.op' (sp_loadR (i := (i44 : Int).toNat) (j := 0) rfl rfl isOwn vt3 rfl (map_get _ h52) rfl (.v (.nil)) (nodup_of_B rfl)) ⟨_, rfl, rfl⟩ rfl (From.ok (ps := [(none, 4)]) ⟨⟨rfl, by kernel_rfl⟩, trivial⟩) (DAll.op' (sp_move rfl rfl) ⟨_, rfl, rfl⟩ rfl (From.ok (ps := []) trivial) (DAll.op' (sp_geq rfl rfl rfl) ⟨_, rfl, rfl⟩ rfl (From.ok (ps := []) trivial) (DAll.op' (sp_pickF rfl rfl rfl) trivial rfl (From.ok (ps := []) trivial) (DAll.op' (sp_castB h54 (sp_move rfl rfl)) trivial rfl (From.ok (ps := []) trivial) (DAll.op' (sp_move rfl rfl) ⟨_, rfl, rfl⟩ rfl (From.ok (ps := []) trivial) (DAll.op' (sp_gtr rfl rfl rfl) ⟨_, rfl, rfl⟩ rfl (From.ok (ps := []) trivial) (DAll.op' (sp_castB h55 (sp_move rfl rfl)) ⟨_, rfl, rfl⟩ rfl (From.ok (ps := []) trivial) (DAll.op' (sp_move rfl rfl) ⟨_, rfl, rfl⟩ rfl (From.ok (ps := []) trivial) (DAll.op' (sp_move rfl rfl) ⟨_, rfl, rfl⟩ rfl (From.ok (ps := []) trivial) (DAll.op' (sp_indexS rfl rfl rfl isOwn sl39 h51 (map_get _ h52)) ⟨_, rfl, rfl⟩ rfl (From.ok (ps := [(none, 4)]) ⟨⟨rfl, by kernel_rfl⟩, trivial⟩) (DAll.op' (sp_loadR (i := (i44 : Int).toNat) (j := 0) rfl rfl isOwn vt3 rfl (map_get _ h52) rfl (.v (.nil)) (nodup_of_B rfl)) ⟨_, rfl, rfl⟩ rfl (From.ok (ps := [(none, 4)]) ⟨⟨rfl, by kernel_rfl⟩, trivial⟩) (DAll.op' (sp_move rfl rfl) ⟨_, rfl, rfl⟩ rfl (From.ok (ps := []) trivial) (DAll.op' (sp_move rfl rfl) ⟨_, rfl, rfl⟩ rfl (From.ok (ps := []) trivial) (DAll.op' (sp_sub rfl rfl rfl h56) ⟨_, rfl, rfl⟩ rfl (From.ok (ps := []) trivial) (DAll.op' (sp_indexS rfl rfl rfl isOwn sl39 h57 (map_get _ h58)) ⟨_, rfl, rfl⟩ rfl (From.ok (ps := [(none, 4)]) ⟨⟨rfl, by kernel_rfl⟩, trivial⟩) (DAll.op' (sp_loadR (i := ((i44 - 1) : Int).toNat) (j := 0) rfl rfl isOwn vt3 rfl (map_get _ h58) rfl (.v (.nil)) (nodup_of_B rfl)) ⟨_, rfl, rfl⟩ rfl (From.ok (ps := [(none, 4)]) ⟨⟨rfl, by kernel_rfl⟩, trivial⟩) (.nil))))))))))))))))))))))))))
        refine op0 (sp_leq rfl rfl rfl) rfl ⟨_, rfl, rfl⟩ rfl rfl ?_
        refine op0 (sp_pickT rfl rfl rfl) rfl ⟨_, rfl, rfl⟩ rfl rfl ?_
        refine op0 (sp_pickF rfl rfl rfl) rfl trivial rfl rfl ?_
        refine TL.nil ?_
        refine TC.cond (b := (decide (x46 ≤ x47))) rfl (fun h59 => ?_) (fun h59 => ?_)
        · have h := cond_t h h59
          refine TC.seq ?_
          refine TC.region ?_
          refine op0 (sp_assign rfl rfl) rfl trivial rfl rfl ?_
          refine TL.nil ?_
          cases h
          exact retJ [] (.tmp rfl .nil) rfl trivial rfl rfl
        · have h := cond_f h h59
          refine TC.skip ?_
          refine TC.inBlock ?_
          refine TC.region ?_
          refine op0 (sp_move rfl rfl) rfl trivial rfl rfl ?_
          obtain ⟨h60, h⟩ := chk_inv h
          refine op0 (sp_add rfl rfl rfl h60) rfl trivial rfl rfl ?_
          refine op0 (sp_assign rfl rfl) rfl trivial rfl rfl ?_
          refine TL.nil ?_
          refine TC.inLoop ?_
          refine TC.seq ?_
          refine TC.seq ?_
          refine subJ [] (hk_law05_StrikeFound_l10 _ _ h) ?_ ?_ ?_
          · exact ⟨rfl, rfl, rfl, rfl, rfl, rfl, rfl, rfl, rfl, rfl, rfl, trivial⟩
          · exact ⟨mem_at 0 rfl, mem_at 1 rfl, mem_at 2 rfl, mem_at 3 rfl, mem_at 4 rfl, trivial⟩
          · rfl
      · refine drawJ 26 [⟨.ref 18, [], [], []⟩, ⟨.val (.int .i64 i44), [], [], []⟩, ⟨.cell 18 ((i44 : Int).toNat * 1), [], [.row 18 3 1 (List.map en_int r40.2.1)], []⟩, ⟨.val (.int .i64 x46), [], [.row 18 3 1 (List.map en_int r40.2.1)], []⟩, ⟨.val (.bool (decide (x46 < 0))), [], [], []⟩, ⟨.val (.bool false), [], [], []⟩, ⟨.ref 18, [], [], []⟩, ⟨.val (.int .i64 i44), [], [], []⟩, ⟨.cell 18 ((i44 : Int).toNat * 1), [], [.row 18 3 1 (List.map en_int r40.2.1)], []⟩, ⟨.val (.int .i64 x46), [], [.row 18 3 1 (List.map en_int r40.2.1)], []⟩, ⟨.val (.int .i64 r7), [], [], []⟩, ⟨.val (.bool (decide (r7 ≤ x46))), [], [], []⟩, ⟨.val (.bool (decide (r7 ≤ x46))), [], [], []⟩, ⟨.val (.bool false), [], [], []⟩, ⟨.val (.int .i64 i44), [], [], []⟩, ⟨.val (.bool (decide ((0 : Int) < i44))), [], [], []⟩, ⟨.val (.bool false), [], [], []⟩, ⟨.val (undef), [], [], []⟩, ⟨.val (undef), [], [], []⟩, ⟨.val (undef), [], [], []⟩, ⟨.val (undef), [], [], []⟩, ⟨.val (undef), [], [], []⟩, ⟨.val (undef), [], [], []⟩, ⟨.val (undef), [], [], []⟩, ⟨.val (undef), [], [], []⟩, ⟨.val (undef), [], [], []⟩] rfl ?_ rfl ?_ rfl ?_ ?_
        · kernel_rfl
        · kernel_rfl
        · exact DAll.op' (sp_move rfl rfl) trivial rfl (From.ok (ps := []) trivial) (DAll.op' (sp_move rfl rfl) trivial rfl (From.ok (ps := []) trivial) (DAll.op' (sp_indexS rfl rfl rfl isOwn sl39 h51 (map_get _ h52)) trivial rfl (From.ok (ps := [(none, 4)]) ⟨⟨rfl, by kernel_rfl⟩, trivial⟩) (DAll.op' (sp_loadR (i := (i44 : Int).toNat) (j := 0) rfl rfl isOwn vt3 rfl (map_get _ h52) rfl (.v (.nil)) (nodup_of_B rfl)) trivial rfl (From.ok (ps := [(none, 4)]) ⟨⟨rfl, by kernel_rfl⟩, trivial⟩) (DAll.op' (sp_lss rfl rfl rfl) trivial rfl (From.ok (ps := []) trivial) (DAll.op' (sp_castB h53 (sp_move rfl rfl)) trivial rfl (From.ok (ps := []) trivial) (DAll.op' (sp_move rfl rfl) ⟨_, rfl, rfl⟩ rfl (From.ok (ps := []) trivial) (DAll.op' (sp_move rfl rfl) ⟨_, rfl, rfl⟩ rfl (From.ok (ps := []) trivial) (DAll.op' (sp_indexS rfl rfl rfl isOwn sl39 h51 (map_get _ h52)) ⟨_, rfl, rfl⟩ rfl (From.ok (ps := [(none, 4)]) ⟨⟨rfl, by kernel_rfl⟩, trivial⟩) (DAll.op' (sp_loadR (i := (i44 : Int).toNat) (j := 0) rfl rfl isOwn vt3 rfl (map_get _ h52) rfl (.v (.nil)) (nodup_of_B rfl)) ⟨_, rfl, rfl⟩ rfl (From.ok (ps := [(none, 4)]) ⟨⟨rfl, by kernel_rfl⟩, trivial⟩) (DAll.op' (sp_move rfl rfl) ⟨_, rfl, rfl⟩ rfl (From.ok (ps := []) trivial) (DAll.op' (sp_geq rfl rfl rfl) ⟨_, rfl, rfl⟩ rfl (From.ok (ps := []) trivial) (DAll.op' (sp_pickF rfl rfl rfl) trivial rfl (From.ok (ps := []) trivial) (DAll.op' (sp_castB h54 (sp_move rfl rfl)) trivial rfl (From.ok (ps := []) trivial) (DAll.op' (sp_move rfl rfl) ⟨_, rfl, rfl⟩ rfl (From.ok (ps := []) trivial) (DAll.op' (sp_gtr rfl rfl rfl) ⟨_, rfl, rfl⟩ rfl (From.ok (ps := []) trivial) (DAll.op' (sp_castB h55 (sp_move rfl rfl)) ⟨_, rfl, rfl⟩ rfl (From.ok (ps := []) trivial) (.skip ⟨_, rfl, .inl rfl⟩ rfl rfl rfl (.skip ⟨_, rfl, .inl rfl⟩ rfl rfl rfl (.skip ⟨_, rfl, .inl rfl⟩ rfl rfl rfl (.skip ⟨_, rfl, .inl rfl⟩ rfl rfl rfl (.skip ⟨_, rfl, .inl rfl⟩ rfl rfl rfl (.skip ⟨_, rfl, .inl rfl⟩ rfl rfl rfl (.skip ⟨_, rfl, .inl rfl⟩ rfl rfl rfl (.skip ⟨_, rfl, .inl rfl⟩ rfl rfl rfl (.skip ⟨_, rfl, .inl rfl⟩ rfl rfl rfl (.nil))))))))))))))))))))))))))
        refine opSkip rfl ⟨_, rfl, .inl rfl⟩ rfl ?_
        refine op0 (sp_pickF rfl rfl rfl) rfl ⟨_, rfl, rfl⟩ rfl rfl ?_
        refine op0 (sp_pickF rfl rfl rfl) rfl trivial rfl rfl ?_
        refine TL.nil ?_
        refine TC.condF rfl ?_
        refine TC.skip ?_
        refine TC.inBlock ?_
        refine TC.region ?_
        refine op0 (sp_move rfl rfl) rfl trivial rfl rfl ?_
        obtain ⟨h61, h⟩ := chk_inv h
        refine op0 (sp_add rfl rfl rfl h61) rfl trivial rfl rfl ?_
        refine op0 (sp_assign rfl rfl) rfl trivial rfl rfl ?_
        refine TL.nil ?_
        refine TC.inLoop ?_
        refine TC.seq ?_
        refine TC.seq ?_
        refine subJ [] (hk_law05_StrikeFound_l10 _ _ h) ?_ ?_ ?_
        · exact ⟨rfl, rfl, rfl, rfl, rfl, rfl, rfl, rfl, rfl, rfl, rfl, trivial⟩
        · exact ⟨mem_at 0 rfl, mem_at 1 rfl, mem_at 2 rfl, mem_at 3 rfl, mem_at 4 rfl, trivial⟩
        · rfl
def ev_law05_StrikeFound_l10 (n : Nat) (r40 : Int × (List Int) × Int) (r7 : Int) (i37 : Int) (l31 : List Int) (k_law05_StrikeFound_l7 : Int → Int → Option Bool) : Nat → Bool → Int → Option Bool
  | 0, _, _ => none
  | m + 1, b43, i44 => cond (decide (i44 < (r40.2.1.length : Int))) (cond b43 (ev_law05_StrikeFound_j11 n r40 i44 r7 (fun b43q i44q => ev_law05_StrikeFound_l10 n r40 r7 i37 l31 k_law05_StrikeFound_l7 m b43q i44q) true) (idx r40.2.1 i44 fun x48 => chk (in64 (i37 - 1)) <| idx l31 (i37 - 1) fun x49 => ev_law05_StrikeFound_j11 n r40 i44 r7 (fun b43q i44q => ev_law05_StrikeFound_l10 n r40 r7 i37 l31 k_law05_StrikeFound_l7 m b43q i44q) (x48 == x49))) (cond (!b43) (some false) (cond ((r40.2.1.length : Int) == 0) (some false) (chk (in64 (i37 + 1)) <| k_law05_StrikeFound_l7 r40.1 (i37 + 1))))
set_option maxRecDepth 100000 in
set_option maxHeartbeats 2000000 in
theorem ok_law05_StrikeFound_l10 {n : Nat} {w0 : World} {R0 : Nat → Prop} {env0 : Env} {r : Bool} {r7 : Int} {i26 : Int} {r40 : Int × (List Int) × Int} {b27 : Bool} {i28 : Int} {i29 : Int} {l30 : List (Int × Int)} {l31 : List Int} {l32 : List Int} {i37 : Int} {k_law05_StrikeFound_l7 : Int → Int → Option Bool} (hk_law05_StrikeFound_l7 : ∀ (i36 : Int) (i37 : Int), k_law05_StrikeFound_l7 i36 i37 = some r → TC Try.prog ⟨w0, fun _ => False, R0⟩ 220 (bodyPost Try.prog Try.f7 (Post ⟨w0, fun _ => False, R0⟩ env0 (.val (.bool r)) [])) [.code (sub (bodyOf Try.f7) [1, 1, 1, 1, 1, 1, 1, 1, 0, 1, 0, 0, 0, 0]), .code (sub (bodyOf Try.f7) [1, 1, 1, 1, 1, 1, 1, 1, 0, 1, 0, 0, 0, 1]), .code (sub (bodyOf Try.f7) [1, 1, 1, 1, 1, 1, 1, 1, 0, 1, 0, 0, 1]), .inLoop (sub (bodyOf Try.f7) [1, 1, 1, 1, 1, 1, 1, 1, 0, 1, 0, 0]), .inBlock 2, .code (sub (bodyOf Try.f7) [1, 1, 1, 1, 1, 1, 1, 1, 1])] ([(3, .ptr 1 0), (7, .val (.int .i64 r7)), (10, .ref 3), (12, .val (.int .i64 i26)), (13, .ref 4), (14, .ref 5), (21, .val (.int .i64 i36)), (22, .val (.int .i64 i37))]) ([.blk 1 [.val (.bool b27), .val (.int .u8 i28), .val (.int .u8 i29)] 64, .ro 3 2 (List.map en_api_StrikeHeard l30), .row 4 3 1 (List.map en_int l31), .row 5 3 1 (List.map en_int l32)])) : ∀ (m : Nat) (b43 : Bool) (i44 : Int), ev_law05_StrikeFound_l10 n r40 r7 i37 l31 k_law05_StrikeFound_l7 m b43 i44 = some r → TC Try.prog ⟨w0, fun _ => False, R0⟩ 220 (bodyPost Try.prog Try.f7 (Post ⟨w0, fun _ => False, R0⟩ env0 (.val (.bool r)) [])) [.code (sub (bodyOf Try.f7) [1, 1, 1, 1, 1, 1, 1, 1, 0, 1, 0, 0, 1, 0, 0, 1, 1, 1, 1, 0, 1, 0, 0, 0, 0]), .code (sub (bodyOf Try.f7) [1, 1, 1, 1, 1, 1, 1, 1, 0, 1, 0, 0, 1, 0, 0, 1, 1, 1, 1, 0, 1, 0, 0, 0, 1]), .code (sub (bodyOf Try.f7) [1, 1, 1, 1, 1, 1, 1, 1, 0, 1, 0, 0, 1, 0, 0, 1, 1, 1, 1, 0, 1, 0, 0, 1]), .inLoop (sub (bodyOf Try.f7) [1, 1, 1, 1, 1, 1, 1, 1, 0, 1, 0, 0, 1, 0, 0, 1, 1, 1, 1, 0, 1, 0, 0]), .inBlock 4, .code (sub (bodyOf Try.f7) [1, 1, 1, 1, 1, 1, 1, 1, 0, 1, 0, 0, 1, 0, 0, 1, 1, 1, 1, 1]), .inBlock 3, .code (sub (bodyOf Try.f7) [1, 1, 1, 1, 1, 1, 1, 1, 0, 1, 0, 0, 1, 1]), .inLoop (sub (bodyOf Try.f7) [1, 1, 1, 1, 1, 1, 1, 1, 0, 1, 0, 0]), .inBlock 2, .code (sub (bodyOf Try.f7) [1, 1, 1, 1, 1, 1, 1, 1, 1])] ([(3, .ptr 1 0), (7, .val (.int .i64 r7)), (10, .ref 3), (12, .val (.int .i64 i26)), (13, .ref 4), (14, .ref 5), (22, .val (.int .i64 i37)), (23, .val (.int .i64 r40.1)), (24, .ref 18), (26, .val (.bool b43)), (27, .val (.int .i64 i44))]) ([.blk 1 [.val (.bool b27), .val (.int .u8 i28), .val (.int .u8 i29)] 64, .ro 3 2 (List.map en_api_StrikeHeard l30), .row 4 3 1 (List.map en_int l31), .row 5 3 1 (List.map en_int l32), .row 18 3 1 (List.map en_int r40.2.1)]) := by
  intro m
  induction m with
  | zero => intro b43 i44 h; exact none_no h
  | succ m ih =>
    intro b43 i44 h
    rw [ev_law05_StrikeFound_l10] at h
    refine TC.region ?_
    refine op0 (sp_move rfl rfl) rfl trivial rfl rfl ?_
    refine op0 (sp_move rfl rfl) rfl trivial rfl rfl ?_
    refine op1 4 rfl (sp_lenM (N := r40.2.1.length) (len_map _ _) rfl rfl isOwn Try.underlying39) rfl trivial rfl rfl ?_
    refine op0 (sp_lss rfl rfl rfl) rfl trivial rfl rfl ?_
    refine TL.nil ?_
    refine TC.cond (b := (decide (i44 < (r40.2.1.length : Int)))) rfl (fun h49 => ?_) (fun h49 => ?_)
    · have h := cond_t h h49
      refine TC.skip ?_
      refine TC.seq ?_
      refine TC.block ?_
      refine TC.seq ?_
      rcases cond_cases h with ⟨h50, h⟩ | ⟨h50, h⟩
      · refine drawJ 11 [⟨.val (.bool b43), [], [], []⟩, ⟨.val (.bool true), [], [], []⟩, ⟨.val (undef), [], [], []⟩, ⟨.val (undef), [], [], []⟩, ⟨.val (undef), [], [], []⟩, ⟨.val (undef), [], [], []⟩, ⟨.val (undef), [], [], []⟩, ⟨.val (undef), [], [], []⟩, ⟨.val (undef), [], [], []⟩, ⟨.val (undef), [], [], []⟩, ⟨.val (undef), [], [], []⟩] rfl ?_ rfl ?_ rfl ?_ ?_
        · kernel_rfl
        · kernel_rfl
        · exact DAll.op' (sp_move rfl rfl) trivial rfl (From.ok (ps := []) trivial) (DAll.op' (sp_castB h50 (sp_move rfl rfl)) trivial rfl (From.ok (ps := []) trivial) (.skip ⟨_, rfl, .inl rfl⟩ rfl rfl rfl (.skip ⟨_, rfl, .inl rfl⟩ rfl rfl rfl (.skip ⟨_, rfl, .inl rfl⟩ rfl rfl rfl (.skip ⟨_, rfl, .inl rfl⟩ rfl rfl rfl (.skip ⟨_, rfl, .inl rfl⟩ rfl rfl rfl (.skip ⟨_, rfl, .inl rfl⟩ rfl rfl rfl (.skip ⟨_, rfl, .inl rfl⟩ rfl rfl rfl (.skip ⟨_, rfl, .inl rfl⟩ rfl rfl rfl (.skip ⟨_, rfl, .inl rfl⟩ rfl rfl rfl (.nil)))))))))))
        refine opSkip rfl ⟨_, rfl, .inl rfl⟩ rfl ?_
        refine op0 (sp_pickT rfl rfl rfl) rfl trivial rfl rfl ?_
        refine op0 (sp_assign rfl rfl) rfl trivial rfl rfl ?_
        refine TL.nil ?_
        refine TC.seq ?_
        refine subJ [] (ok_law05_StrikeFound_j11 (i26 := i26) (i37 := i37) (b27 := b27) (i28 := i28) (i29 := i29) (l30 := l30) (l31 := l31) (l32 := l32) ih h) ?_ ?_ ?_
        · exact ⟨rfl, rfl, rfl, rfl, rfl, rfl, rfl, rfl, rfl, rfl, rfl, trivial⟩
        · exact ⟨mem_at 0 rfl, mem_at 1 rfl, mem_at 2 rfl, mem_at 3 rfl, mem_at 4 rfl, trivial⟩
        · rfl
      · obtain ⟨x48, h62, h63, h⟩ := idx_inv h
        obtain ⟨h64, h⟩ := chk_inv h
        obtain ⟨x49, h65, h66, h⟩ := idx_inv h
        refine drawJ 11 [⟨.val (.bool b43), [], [], []⟩, ⟨.val (.bool false), [], [], []⟩, ⟨.ref 18, [], [], []⟩, ⟨.val (.int .i64 i44), [], [], []⟩, ⟨.cell 18 ((i44 : Int).toNat * 1), [], [.row 18 3 1 (List.map en_int r40.2.1)], []⟩, ⟨.val (.int .i64 x48), [], [.row 18 3 1 (List.map en_int r40.2.1)], []⟩, ⟨.ref 4, [], [], []⟩, ⟨.val (.int .i64 i37), [], [], []⟩, ⟨.val (.int .i64 (i37 - 1)), [], [], []⟩, ⟨.cell 4 (((i37 - 1) : Int).toNat * 1), [], [.row 4 3 1 (List.map en_int l31)], []⟩, ⟨.val (.int .i64 x49), [], [.row 4 3 1 (List.map en_int l31)], []⟩] rfl ?_ rfl ?_ rfl ?_ ?_
        · kernel_rfl
        · kernel_rfl
        · exact DAll.op' (sp_move rfl rfl) trivial rfl (From.ok (ps := []) trivial) (DAll.op' (sp_castB h50 (sp_move rfl rfl)) trivial rfl (From.ok (ps := []) trivial) (DAll.op' (sp_move rfl rfl) ⟨_, rfl, rfl⟩ rfl (From.ok (ps := []) trivial) (DAll.op' (sp_move rfl rfl) ⟨_, rfl, rfl⟩ rfl (From.ok (ps := []) trivial) (DAll.op' (sp_indexS rfl rfl rfl isOwn sl39 h62 (map_get _ h63)) ⟨_, rfl, rfl⟩ rfl (From.ok (ps := [(none, 4)]) ⟨⟨rfl, rfl⟩, trivial⟩) (DAll.op' (sp_loadR (i := (i44 : Int).toNat) (j := 0) rfl rfl isOwn vt3 rfl (map_get _ h63) rfl (.v (.nil)) (nodup_of_B rfl)) ⟨_, rfl, rfl⟩ rfl (From.ok (ps := [(none, 4)]) ⟨⟨rfl, rfl⟩, trivial⟩) (DAll.op' (sp_move rfl rfl) ⟨_, rfl, rfl⟩ rfl (From.ok (ps := []) trivial) (DAll.op' (sp_move rfl rfl) ⟨_, rfl, rfl⟩ rfl (From.ok (ps := []) trivial) (DAll.op' (sp_sub rfl rfl rfl h64) ⟨_, rfl, rfl⟩ rfl (From.ok (ps := []) trivial) (DAll.op' (sp_indexS rfl rfl rfl isOwn sl39 h65 (map_get _ h66)) ⟨_, rfl, rfl⟩ rfl (From.ok (ps := [(none, 2)]) ⟨⟨rfl, rfl⟩, trivial⟩) (DAll.op' (sp_loadR (i := ((i37 - 1) : Int).toNat) (j := 0) rfl rfl isOwn vt3 rfl (map_get _ h66) rfl (.v (.nil)) (nodup_of_B rfl)) ⟨_, rfl, rfl⟩ rfl (From.ok (ps := [(none, 2)]) ⟨⟨rfl, rfl⟩, trivial⟩) (.nil)))))))))))
        refine op0 (sp_eql rfl rfl rfl) rfl ⟨_, rfl, rfl⟩ rfl rfl ?_
        refine op0 (sp_pickF rfl rfl rfl) rfl trivial rfl rfl ?_
        refine op0 (sp_assign rfl rfl) rfl trivial rfl rfl ?_
        refine TL.nil ?_
        refine TC.seq ?_
        refine subJ [] (ok_law05_StrikeFound_j11 (i26 := i26) (i37 := i37) (b27 := b27) (i28 := i28) (i29 := i29) (l30 := l30) (l31 := l31) (l32 := l32) ih h) ?_ ?_ ?_
        · exact ⟨rfl, rfl, rfl, rfl, rfl, rfl, rfl, rfl, rfl, rfl, rfl, trivial⟩
        · exact ⟨mem_at 0 rfl, mem_at 1 rfl, mem_at 2 rfl, mem_at 3 rfl, mem_at 4 rfl, trivial⟩
        · rfl
    · have h := cond_f h h49
      refine TC.exit rfl ?_
      refine TC.seq ?_
      refine TC.seq ?_
      refine TC.region ?_
      refine op0 (sp_move rfl rfl) rfl trivial rfl rfl ?_
      refine op0 (sp_not rfl rfl) rfl trivial rfl rfl ?_
      refine op0 (sp_move rfl rfl) rfl trivial rfl rfl ?_
      rcases cond_cases h with ⟨h67, h⟩ | ⟨h67, h⟩
      · refine (boolLit 213 rfl h67).2 ?_
        refine opSkip rfl ⟨_, rfl, .inl rfl⟩ rfl ?_
        refine opSkip rfl ⟨_, rfl, .inl rfl⟩ rfl ?_
        refine opSkip rfl ⟨_, rfl, .inl rfl⟩ rfl ?_
        refine op0 (sp_pickT rfl rfl rfl) rfl trivial rfl rfl ?_
        refine TL.nil ?_
        refine TC.condT rfl ?_
        refine TC.seq ?_
        refine TC.region ?_
        refine op0 (sp_assign rfl rfl) rfl trivial rfl rfl ?_
        refine TL.nil ?_
        cases h
        exact retJ [] (.tmp rfl .nil) rfl trivial rfl rfl
      · refine (boolLit 213 rfl h67).2 ?_
        refine op0 (sp_move rfl rfl) rfl ⟨_, rfl, rfl⟩ rfl rfl ?_
        refine op1 4 rfl (sp_lenM (N := r40.2.1.length) (len_map _ _) rfl rfl isOwn Try.underlying39) rfl ⟨_, rfl, rfl⟩ rfl rfl ?_
        refine op0 (sp_eql rfl rfl rfl) rfl ⟨_, rfl, rfl⟩ rfl rfl ?_
        refine op0 (sp_pickF rfl rfl rfl) rfl trivial rfl rfl ?_
        refine TL.nil ?_
        refine TC.cond (b := ((r40.2.1.length : Int) == 0)) rfl (fun h68 => ?_) (fun h68 => ?_)
        · have h := cond_t h h68
          refine TC.seq ?_
          refine TC.region ?_
          refine op0 (sp_assign rfl rfl) rfl trivial rfl rfl ?_
          refine TL.nil ?_
          cases h
          exact retJ [] (.tmp rfl .nil) rfl trivial rfl rfl
        · have h := cond_f h h68
          refine TC.skip ?_
          refine TC.region ?_
          refine op0 (sp_move rfl rfl) rfl trivial rfl rfl ?_
          refine op0 (sp_assign rfl rfl) rfl trivial rfl rfl ?_
          refine TL.nil ?_
          refine TC.inBlock ?_
          refine TC.region ?_
          refine op0 (sp_move rfl rfl) rfl trivial rfl rfl ?_
          obtain ⟨h69, h⟩ := chk_inv h
          refine op0 (sp_add rfl rfl rfl h69) rfl trivial rfl rfl ?_
          refine op0 (sp_assign rfl rfl) rfl trivial rfl rfl ?_
          refine TL.nil ?_
          refine TC.inLoop ?_
          refine TC.seq ?_
          refine TC.seq ?_
          refine subJ [] (hk_law05_StrikeFound_l7 _ _ h) ?_ ?_ ?_
          · exact ⟨rfl, rfl, rfl, rfl, rfl, rfl, rfl, rfl, trivial⟩
          · exact ⟨mem_at 0 rfl, mem_at 1 rfl, mem_at 2 rfl, mem_at 3 rfl, trivial⟩
          · rfl
def ev_law05_StrikeFound_j9 (n : Nat) (i37 : Int) (l32 : List Int) (r40 : Int × (List Int) × Int) (r7 : Int) (l31 : List Int) (k_law05_StrikeFound_l7 : Int → Int → Option Bool) : Option Bool :=
  chk (in64 (i37 - 1)) <| idx l32 (i37 - 1) fun x42 => ev_law05_StrikeFound_l10 n r40 r7 i37 l31 k_law05_StrikeFound_l7 n (decide (r40.1 < x42)) 0
set_option maxRecDepth 100000 in
set_option maxHeartbeats 2000000 in
theorem ok_law05_StrikeFound_j9 {n : Nat} {w0 : World} {R0 : Nat → Prop} {env0 : Env} {r : Bool} {r7 : Int} {i26 : Int} {r40 : Int × (List Int) × Int} {b27 : Bool} {i28 : Int} {i29 : Int} {l30 : List (Int × Int)} {l31 : List Int} {l32 : List Int} {i37 : Int} {k_law05_StrikeFound_l7 : Int → Int → Option Bool} (hk_law05_StrikeFound_l7 : ∀ (i36 : Int) (i37 : Int), k_law05_StrikeFound_l7 i36 i37 = some r → TC Try.prog ⟨w0, fun _ => False, R0⟩ 220 (bodyPost Try.prog Try.f7 (Post ⟨w0, fun _ => False, R0⟩ env0 (.val (.bool r)) [])) [.code (sub (bodyOf Try.f7) [1, 1, 1, 1, 1, 1, 1, 1, 0, 1, 0, 0, 0, 0]), .code (sub (bodyOf Try.f7) [1, 1, 1, 1, 1, 1, 1, 1, 0, 1, 0, 0, 0, 1]), .code (sub (bodyOf Try.f7) [1, 1, 1, 1, 1, 1, 1, 1, 0, 1, 0, 0, 1]), .inLoop (sub (bodyOf Try.f7) [1, 1, 1, 1, 1, 1, 1, 1, 0, 1, 0, 0]), .inBlock 2, .code (sub (bodyOf Try.f7) [1, 1, 1, 1, 1, 1, 1, 1, 1])] ([(3, .ptr 1 0), (7, .val (.int .i64 r7)), (10, .ref 3), (12, .val (.int .i64 i26)), (13, .ref 4), (14, .ref 5), (21, .val (.int .i64 i36)), (22, .val (.int .i64 i37))]) ([.blk 1 [.val (.bool b27), .val (.int .u8 i28), .val (.int .u8 i29)] 64, .ro 3 2 (List.map en_api_StrikeHeard l30), .row 4 3 1 (List.map en_int l31), .row 5 3 1 (List.map en_int l32)])) (h : ev_law05_StrikeFound_j9 n i37 l32 r40 r7 l31 k_law05_StrikeFound_l7 = some r) : TC Try.prog ⟨w0, fun _ => False, R0⟩ 220 (bodyPost Try.prog Try.f7 (Post ⟨w0, fun _ => False, R0⟩ env0 (.val (.bool r)) [])) [.code (sub (bodyOf Try.f7) [1, 1, 1, 1, 1, 1, 1, 1, 0, 1, 0, 0, 1, 0, 0, 1, 1, 0, 1, 1]), .code (sub (bodyOf Try.f7) [1, 1, 1, 1, 1, 1, 1, 1, 0, 1, 0, 0, 1, 0, 0, 1, 1, 1]), .inBlock 3, .code (sub (bodyOf Try.f7) [1, 1, 1, 1, 1, 1, 1, 1, 0, 1, 0, 0, 1, 1]), .inLoop (sub (bodyOf Try.f7) [1, 1, 1, 1, 1, 1, 1, 1, 0, 1, 0, 0]), .inBlock 2, .code (sub (bodyOf Try.f7) [1, 1, 1, 1, 1, 1, 1, 1, 1])] ([(3, .ptr 1 0), (7, .val (.int .i64 r7)), (10, .ref 3), (12, .val (.int .i64 i26)), (13, .ref 4), (14, .ref 5), (22, .val (.int .i64 i37)), (23, .val (.int .i64 r40.1)), (24, .ref 18)]) ([.blk 1 [.val (.bool b27), .val (.int .u8 i28), .val (.int .u8 i29)] 64, .ro 3 2 (List.map en_api_StrikeHeard l30), .row 4 3 1 (List.map en_int l31), .row 5 3 1 (List.map en_int l32), .row 18 3 1 (List.map en_int r40.2.1)]) := by
  rw [ev_law05_StrikeFound_j9] at h
  refine TC.skip ?_
  refine TC.seq ?_
  refine TC.region ?_
  refine op0 (sp_move rfl rfl) rfl trivial rfl rfl ?_
  refine op0 (sp_move rfl rfl) rfl trivial rfl rfl ?_
  refine op0 (sp_move rfl rfl) rfl trivial rfl rfl ?_
  obtain ⟨h46, h⟩ := chk_inv h
  refine op0 (sp_sub rfl rfl rfl h46) rfl trivial rfl rfl ?_
  obtain ⟨x42, h47, h48, h⟩ := idx_inv h
  refine op1 3 rfl (sp_indexS rfl rfl rfl isOwn sl39 h47 (map_get _ h48)) rfl trivial rfl rfl ?_
  refine op1 3 rfl (sp_loadR (i := ((i37 - 1) : Int).toNat) (j := 0) rfl rfl isOwn vt3 rfl (map_get _ h48) rfl (.v (.nil)) (nodup_of_B rfl)) rfl trivial rfl rfl ?_
  refine op0 (sp_lss rfl rfl rfl) rfl trivial rfl rfl ?_
  refine op0 (sp_assign rfl rfl) rfl trivial rfl rfl ?_
  refine TL.nil ?_
  refine TC.seq ?_
  refine TC.seq ?_
  refine TC.region ?_
  refine op0 (sp_assign rfl rfl) rfl trivial rfl rfl ?_
  refine TL.nil ?_
  refine TC.block ?_
  refine TC.loop ?_
  refine TC.seq ?_
  refine TC.seq ?_
  refine subJ [] (ok_law05_StrikeFound_l10 (i26 := i26) (b27 := b27) (i28 := i28) (i29 := i29) (l30 := l30) (l32 := l32) hk_law05_StrikeFound_l7 _ _ _ h) ?_ ?_ ?_
  · exact ⟨rfl, rfl, rfl, rfl, rfl, rfl, rfl, rfl, rfl, rfl, rfl, trivial⟩
  · exact ⟨mem_at 0 rfl, mem_at 1 rfl, mem_at 2 rfl, mem_at 3 rfl, mem_at 4 rfl, trivial⟩
  · rfl
def ev_law05_StrikeFound_j8 (n : Nat) (b27 : Bool) (i28 : Int) (i29 : Int) (i37 : Int) (l30 : List (Int × Int)) (l32 : List Int) (i36 : Int) (r7 : Int) (l31 : List Int) (k_law05_StrikeFound_l7 : Int → Int → Option Bool) : Option Bool :=
  (ev_law05_Wheel_rules n b27 i28 i29).bind fun r38 => chk (decide (0 ≤ (0 : Int)) && (decide ((0 : Int) ≤ i37) && decide (i37 ≤ (l30.length : Int)))) <| (ev_law05_heard n (List.drop (0 : Int).toNat (List.take (i37 : Int).toNat l30))).bind fun r39 => (ev_strike_Misses n r38.1 r38.2.1 r38.2.2 r39).bind fun r40 => cond (r40.2.2 != 0) (some false) (chk (in64 (i37 - 1)) <| idx l32 (i37 - 1) fun x41 => cond (decide (x41 < r40.1)) (some false) (cond (decide (r40.1 < i36)) (some false) (ev_law05_StrikeFound_j9 n i37 l32 r40 r7 l31 k_law05_StrikeFound_l7)))
set_option maxRecDepth 100000 in
set_option maxHeartbeats 2000000 in
theorem ok_law05_StrikeFound_j8 {n : Nat} {w0 : World} {R0 : Nat → Prop} {env0 : Env} {r : Bool} {r7 : Int} {i26 : Int} {b27 : Bool} {i28 : Int} {i29 : Int} {l30 : List (Int × Int)} {l31 : List Int} {l32 : List Int} {i37 : Int} {i36 : Int} {k_law05_StrikeFound_l7 : Int → Int → Option Bool} (hk_law05_StrikeFound_l7 : ∀ (i36 : Int) (i37 : Int), k_law05_StrikeFound_l7 i36 i37 = some r → TC Try.prog ⟨w0, fun _ => False, R0⟩ 220 (bodyPost Try.prog Try.f7 (Post ⟨w0, fun _ => False, R0⟩ env0 (.val (.bool r)) [])) [.code (sub (bodyOf Try.f7) [1, 1, 1, 1, 1, 1, 1, 1, 0, 1, 0, 0, 0, 0]), .code (sub (bodyOf Try.f7) [1, 1, 1, 1, 1, 1, 1, 1, 0, 1, 0, 0, 0, 1]), .code (sub (bodyOf Try.f7) [1, 1, 1, 1, 1, 1, 1, 1, 0, 1, 0, 0, 1]), .inLoop (sub (bodyOf Try.f7) [1, 1, 1, 1, 1, 1, 1, 1, 0, 1, 0, 0]), .inBlock 2, .code (sub (bodyOf Try.f7) [1, 1, 1, 1, 1, 1, 1, 1, 1])] ([(3, .ptr 1 0), (7, .val (.int .i64 r7)), (10, .ref 3), (12, .val (.int .i64 i26)), (13, .ref 4), (14, .ref 5), (21, .val (.int .i64 i36)), (22, .val (.int .i64 i37))]) ([.blk 1 [.val (.bool b27), .val (.int .u8 i28), .val (.int .u8 i29)] 64, .ro 3 2 (List.map en_api_StrikeHeard l30), .row 4 3 1 (List.map en_int l31), .row 5 3 1 (List.map en_int l32)])) (h : ev_law05_StrikeFound_j8 n b27 i28 i29 i37 l30 l32 i36 r7 l31 k_law05_StrikeFound_l7 = some r) : TC Try.prog ⟨w0, fun _ => False, R0⟩ 220 (bodyPost Try.prog Try.f7 (Post ⟨w0, fun _ => False, R0⟩ env0 (.val (.bool r)) [])) [.code (sub (bodyOf Try.f7) [1, 1, 1, 1, 1, 1, 1, 1, 0, 1, 0, 0, 1, 0, 0, 0, 1, 1]), .code (sub (bodyOf Try.f7) [1, 1, 1, 1, 1, 1, 1, 1, 0, 1, 0, 0, 1, 0, 0, 1]), .inBlock 3, .code (sub (bodyOf Try.f7) [1, 1, 1, 1, 1, 1, 1, 1, 0, 1, 0, 0, 1, 1]), .inLoop (sub (bodyOf Try.f7) [1, 1, 1, 1, 1, 1, 1, 1, 0, 1, 0, 0]), .inBlock 2, .code (sub (bodyOf Try.f7) [1, 1, 1, 1, 1, 1, 1, 1, 1])] ([(3, .ptr 1 0), (7, .val (.int .i64 r7)), (10, .ref 3), (12, .val (.int .i64 i26)), (13, .ref 4), (14, .ref 5), (21, .val (.int .i64 i36)), (22, .val (.int .i64 i37))]) ([.blk 1 [.val (.bool b27), .val (.int .u8 i28), .val (.int .u8 i29)] 64, .ro 3 2 (List.map en_api_StrikeHeard l30), .row 4 3 1 (List.map en_int l31), .row 5 3 1 (List.map en_int l32)]) := by
  rw [ev_law05_StrikeFound_j8] at h
  refine TC.skip ?_
  refine TC.seq ?_
  obtain ⟨r38, h36, h⟩ := bind_inv h
  obtain ⟨h37, h⟩ := chk_inv h
  obtain ⟨r39, h38, h⟩ := bind_inv h
  obtain ⟨r40, h39, h⟩ := bind_inv h
  refine drawJ 13 [⟨.agg [.val (.bool b27), .val (.int .u8 i28), .val (.int .u8 i29)], [], [.blk 1 [.val (.bool b27), .val (.int .u8 i28), .val (.int .u8 i29)] 64], []⟩, ⟨.agg [.val (.bool r38.1), .val (.bool r38.2.1), .ref 15], [.row 15 81 2 (List.map en_api_Span r38.2.2)], [], []⟩, ⟨.ref 3, [], [], []⟩, ⟨.val (.int .i64 i37), [], [], []⟩, ⟨.ref 16, [.ro 16 2 (List.map en_api_StrikeHeard (List.drop (0 : Int).toNat (List.take (i37 : Int).toNat l30)))], [.ro 3 2 (List.map en_api_StrikeHeard l30)], []⟩, ⟨.ref 17, [.row 17 43 2 (List.map en_api_StrikeHeard r39)], [.ro 16 2 (List.map en_api_StrikeHeard (List.drop (0 : Int).toNat (List.take (i37 : Int).toNat l30)))], []⟩, ⟨.tup [.val (.int .i64 r40.1), .ref 18, .val (.int .i64 r40.2.2)], [.row 18 3 1 (List.map en_int r40.2.1)], [.row 15 81 2 (List.map en_api_Span r38.2.2), .row 17 43 2 (List.map en_api_StrikeHeard r39)], []⟩, ⟨.tup [.val (.int .i64 r40.1), .ref 18, .val (.int .i64 r40.2.2)], [], [], []⟩, ⟨.val (.int .i64 r40.1), [], [], []⟩, ⟨.ref 18, [], [], []⟩, ⟨.val (.int .i64 r40.2.2), [], [], []⟩, ⟨.val (.int .i64 r40.1), [], [], []⟩, ⟨.ref 18, [], [], []⟩] rfl ?_ rfl ?_ rfl ?_ ?_
  · kernel_rfl
  · kernel_rfl
  · exact DAll.op' (sp_loadBA rfl isBlk rfl vt64 rfl rfl) trivial rfl (From.ok (ps := [(none, 0)]) ⟨⟨rfl, rfl⟩, trivial⟩) (DAll.op' (sp_call (avs := [.agg [.val (.bool b27), .val (.int .u8 i28), .val (.int .u8 i29)]]) (need := []) (v := .agg [.val (.bool r38.1), .val (.bool r38.2.1), .ref 15]) (news := [.row 15 81 2 (List.map en_api_Span r38.2.2)]) rfl rfl rfl Try.call38 (atJ [] [(0, 15)] (fc_law05_Wheel_rules h36) rfl rfl) (.inl (roAll rfl))) trivial rfl (From.ok (ps := []) trivial) (DAll.op' (sp_move rfl rfl) trivial rfl (From.ok (ps := []) trivial) (DAll.op' (sp_move rfl rfl) trivial rfl (From.ok (ps := []) trivial) (DAll.op' (sp_sliceM (l := 0) (h := i37) 16 (len_map _ _) rfl rfl sl37 cut_none (cut_some rfl) h37 (map_cut _ _ _ _)) trivial rfl (From.ok (ps := [(none, 1)]) ⟨⟨rfl, rfl⟩, trivial⟩) (DAll.op' (sp_call (avs := [.ref 16]) (need := [.ro 16 2 (List.map en_api_StrikeHeard (List.drop (0 : Int).toNat (List.take (i37 : Int).toNat l30)))]) (v := .ref 17) (news := [.row 17 43 2 (List.map en_api_StrikeHeard r39)]) rfl rfl rfl Try.call22 (atJ [(0, 16)] [(0, 17)] (fc_law05_heard h38) rfl rfl) (.inl (roAll rfl))) trivial rfl (From.ok (ps := [(some 4, 0)]) ⟨⟨_, rfl, rfl, rfl, rfl⟩, trivial⟩) (DAll.op' (sp_call (avs := [.agg [.val (.bool r38.1), .val (.bool r38.2.1), .ref 15], .ref 17]) (need := [.row 15 81 2 (List.map en_api_Span r38.2.2), .row 17 43 2 (List.map en_api_StrikeHeard r39)]) (v := .tup [.val (.int .i64 r40.1), .ref 18, .val (.int .i64 r40.2.2)]) (news := [.row 18 3 1 (List.map en_int r40.2.1)]) rfl rfl rfl Try.call23 (atJ [(0, 15), (1, 17)] [(0, 18)] (fc_strike_Misses h39) rfl rfl) (.inr (List.forall_mem_cons.2 ⟨indep_map en_int_flat, (by simp)⟩))) trivial rfl (From.ok (ps := [(some 1, 0), (some 5, 0)]) ⟨⟨_, rfl, rfl, rfl, rfl⟩, ⟨_, rfl, rfl, rfl, rfl⟩, trivial⟩) (DAll.op' (sp_move rfl rfl) trivial rfl (From.ok (ps := []) trivial) (DAll.op' (sp_extract rfl rfl rfl) trivial rfl (From.ok (ps := []) trivial) (DAll.op' (sp_extract rfl rfl rfl) trivial rfl (From.ok (ps := []) trivial) (DAll.op' (sp_extract rfl rfl rfl) trivial rfl (From.ok (ps := []) trivial) (DAll.op' (sp_assign rfl rfl) trivial rfl (From.ok (ps := []) trivial) (DAll.op' (sp_assign rfl rfl) trivial rfl (From.ok (ps := []) trivial) (.nil)))))))))))))
  refine op0 (sp_assign rfl rfl) rfl trivial rfl rfl ?_
  refine TL.nil ?_
  refine TC.seq ?_
  refine TC.seq ?_
  refine TC.region ?_
  refine op0 (sp_move rfl rfl) rfl trivial rfl rfl ?_
  refine op0 (sp_neq rfl rfl rfl) rfl trivial rfl rfl ?_
  refine op0 (sp_move rfl rfl) rfl trivial rfl rfl ?_
  rcases cond_cases h with ⟨h40, h⟩ | ⟨h40, h⟩
  · refine (boolLit 142 rfl h40).2 ?_
    refine opSkip rfl ⟨_, rfl, .inl rfl⟩ rfl ?_
    refine opSkip rfl ⟨_, rfl, .inl rfl⟩ rfl ?_
    refine opSkip rfl ⟨_, rfl, .inl rfl⟩ rfl ?_
    refine opSkip rfl ⟨_, rfl, .inl rfl⟩ rfl ?_
    refine opSkip rfl ⟨_, rfl, .inl rfl⟩ rfl ?_
    refine opSkip rfl ⟨_, rfl, .inl rfl⟩ rfl ?_
    refine opSkip rfl ⟨_, rfl, .inl rfl⟩ rfl ?_
    refine op0 (sp_pickT rfl rfl rfl) rfl trivial rfl rfl ?_
    refine op0 (sp_move rfl rfl) rfl trivial rfl rfl ?_
    refine opSkip rfl ⟨_, rfl, .inl rfl⟩ rfl ?_
    refine opSkip rfl ⟨_, rfl, .inl rfl⟩ rfl ?_
    refine opSkip rfl ⟨_, rfl, .inl rfl⟩ rfl ?_
    refine op0 (sp_pickT rfl rfl rfl) rfl trivial rfl rfl ?_
    refine TL.nil ?_
    refine TC.condT rfl ?_
    refine TC.seq ?_
    refine TC.region ?_
    refine op0 (sp_assign rfl rfl) rfl trivial rfl rfl ?_
    refine TL.nil ?_
    cases h
    exact retJ [] (.tmp rfl .nil) rfl trivial rfl rfl
  · refine (boolLit 142 rfl h40).2 ?_
    refine op0 (sp_move rfl rfl) rfl ⟨_, rfl, rfl⟩ rfl rfl ?_
    refine op0 (sp_move rfl rfl) rfl ⟨_, rfl, rfl⟩ rfl rfl ?_
    refine op0 (sp_move rfl rfl) rfl ⟨_, rfl, rfl⟩ rfl rfl ?_
    obtain ⟨h41, h⟩ := chk_inv h
    refine op0 (sp_sub rfl rfl rfl h41) rfl ⟨_, rfl, rfl⟩ rfl rfl ?_
    obtain ⟨x41, h42, h43, h⟩ := idx_inv h
    refine op1 7 rfl (sp_indexS rfl rfl rfl isOwn sl39 h42 (map_get _ h43)) rfl ⟨_, rfl, rfl⟩ rfl rfl ?_
    refine op1 7 rfl (sp_loadR (i := ((i37 - 1) : Int).toNat) (j := 0) rfl rfl isOwn vt3 rfl (map_get _ h43) rfl (.v (.nil)) (nodup_of_B rfl)) rfl ⟨_, rfl, rfl⟩ rfl rfl ?_
    refine op0 (sp_gtr rfl rfl rfl) rfl ⟨_, rfl, rfl⟩ rfl rfl ?_
    refine op0 (sp_pickF rfl rfl rfl) rfl trivial rfl rfl ?_
    refine op0 (sp_move rfl rfl) rfl trivial rfl rfl ?_
    rcases cond_cases h with ⟨h44, h⟩ | ⟨h44, h⟩
    · refine (boolLit 151 rfl h44).2 ?_
      refine opSkip rfl ⟨_, rfl, .inl rfl⟩ rfl ?_
      refine opSkip rfl ⟨_, rfl, .inl rfl⟩ rfl ?_
      refine opSkip rfl ⟨_, rfl, .inl rfl⟩ rfl ?_
      refine op0 (sp_pickT rfl rfl rfl) rfl trivial rfl rfl ?_
      refine TL.nil ?_
      refine TC.condT rfl ?_
      refine TC.seq ?_
      refine TC.region ?_
      refine op0 (sp_assign rfl rfl) rfl trivial rfl rfl ?_
      refine TL.nil ?_
      cases h
      exact retJ [] (.tmp rfl .nil) rfl trivial rfl rfl
    · refine (boolLit 151 rfl h44).2 ?_
      refine op0 (sp_move rfl rfl) rfl ⟨_, rfl, rfl⟩ rfl rfl ?_
      refine op0 (sp_move rfl rfl) rfl ⟨_, rfl, rfl⟩ rfl rfl ?_
      refine op0 (sp_lss rfl rfl rfl) rfl ⟨_, rfl, rfl⟩ rfl rfl ?_
      refine op0 (sp_pickF rfl rfl rfl) rfl trivial rfl rfl ?_
      refine TL.nil ?_
      refine TC.cond (b := (decide (r40.1 < i36))) rfl (fun h45 => ?_) (fun h45 => ?_)
      · have h := cond_t h h45
        refine TC.seq ?_
        refine TC.region ?_
        refine op0 (sp_assign rfl rfl) rfl trivial rfl rfl ?_
        refine TL.nil ?_
        cases h
        exact retJ [] (.tmp rfl .nil) rfl trivial rfl rfl
      · have h := cond_f h h45
        refine subJ [] (ok_law05_StrikeFound_j9 (i26 := i26) (b27 := b27) (i28 := i28) (i29 := i29) (l30 := l30) hk_law05_StrikeFound_l7 h) ?_ ?_ ?_
        · exact ⟨rfl, rfl, rfl, rfl, rfl, rfl, rfl, rfl, rfl, trivial⟩
        · exact ⟨mem_at 4 rfl, mem_at 5 rfl, mem_at 6 rfl, mem_at 7 rfl, mem_at 0 rfl, trivial⟩
        · rfl
def ev_law05_StrikeFound_l7 (n : Nat) (i26 : Int) (b27 : Bool) (i28 : Int) (i29 : Int) (l30 : List (Int × Int)) (l32 : List Int) (r7 : Int) (l31 : List Int) : Nat → Int → Int → Option Bool
  | 0, _, _ => none
  | m + 1, i36, i37 => cond (decide (i37 ≤ i26)) (cond (decide (i37 < i26)) (chk (in64 (i26 + 1)) <| chk (in64 (Int.tdiv (i26 + 1) 2)) <| cond (i37 != (Int.tdiv (i26 + 1) 2)) (chk (in64 (i37 + 1)) <| ev_law05_StrikeFound_l7 n i26 b27 i28 i29 l30 l32 r7 l31 m i36 (i37 + 1)) (ev_law05_StrikeFound_j8 n b27 i28 i29 i37 l30 l32 i36 r7 l31 (fun i36q i37q => ev_law05_StrikeFound_l7 n i26 b27 i28 i29 l30 l32 r7 l31 m i36q i37q))) (ev_law05_StrikeFound_j8 n b27 i28 i29 i37 l30 l32 i36 r7 l31 (fun i36q i37q => ev_law05_StrikeFound_l7 n i26 b27 i28 i29 l30 l32 r7 l31 m i36q i37q))) ((ev_law05_known n).bind fun r50 => some r50)
set_option maxRecDepth 100000 in
set_option maxHeartbeats 2000000 in
theorem ok_law05_StrikeFound_l7 {n : Nat} {w0 : World} {R0 : Nat → Prop} {env0 : Env} {r : Bool} {r7 : Int} {i26 : Int} {b27 : Bool} {i28 : Int} {i29 : Int} {l30 : List (Int × Int)} {l31 : List Int} {l32 : List Int} : ∀ (m : Nat) (i36 : Int) (i37 : Int), ev_law05_StrikeFound_l7 n i26 b27 i28 i29 l30 l32 r7 l31 m i36 i37 = some r → TC Try.prog ⟨w0, fun _ => False, R0⟩ 220 (bodyPost Try.prog Try.f7 (Post ⟨w0, fun _ => False, R0⟩ env0 (.val (.bool r)) [])) [.code (sub (bodyOf Try.f7) [1, 1, 1, 1, 1, 1, 1, 1, 0, 1, 0, 0, 0, 0]), .code (sub (bodyOf Try.f7) [1, 1, 1, 1, 1, 1, 1, 1, 0, 1, 0, 0, 0, 1]), .code (sub (bodyOf Try.f7) [1, 1, 1, 1, 1, 1, 1, 1, 0, 1, 0, 0, 1]), .inLoop (sub (bodyOf Try.f7) [1, 1, 1, 1, 1, 1, 1, 1, 0, 1, 0, 0]), .inBlock 2, .code (sub (bodyOf Try.f7) [1, 1, 1, 1, 1, 1, 1, 1, 1])] ([(3, .ptr 1 0), (7, .val (.int .i64 r7)), (10, .ref 3), (12, .val (.int .i64 i26)), (13, .ref 4), (14, .ref 5), (21, .val (.int .i64 i36)), (22, .val (.int .i64 i37))]) ([.blk 1 [.val (.bool b27), .val (.int .u8 i28), .val (.int .u8 i29)] 64, .ro 3 2 (List.map en_api_StrikeHeard l30), .row 4 3 1 (List.map en_int l31), .row 5 3 1 (List.map en_int l32)]) := by
  intro m
  induction m with
  | zero => intro i36 i37 h; exact none_no h
  | succ m ih =>
    intro i36 i37 h
    rw [ev_law05_StrikeFound_l7] at h
    refine TC.region ?_
    refine op0 (sp_move rfl rfl) rfl trivial rfl rfl ?_
    refine op0 (sp_move rfl rfl) rfl trivial rfl rfl ?_
    refine op0 (sp_leq rfl rfl rfl) rfl trivial rfl rfl ?_
    refine TL.nil ?_
    refine TC.cond (b := (decide (i37 ≤ i26))) rfl (fun h30 => ?_) (fun h30 => ?_)
    · have h := cond_t h h30
      refine TC.skip ?_
      refine TC.seq ?_
      refine TC.block ?_
      refine TC.seq ?_
      refine TC.seq ?_
      refine TC.region ?_
      refine op0 (sp_move rfl rfl) rfl trivial rfl rfl ?_
      refine op0 (sp_move rfl rfl) rfl trivial rfl rfl ?_
      refine op0 (sp_lss rfl rfl rfl) rfl trivial rfl rfl ?_
      refine op0 (sp_move rfl rfl) rfl trivial rfl rfl ?_
      rcases cond_cases h with ⟨h31, h⟩ | ⟨h31, h⟩
      · refine (boolLit 122 rfl h31).2 ?_
        refine op0 (sp_move rfl rfl) rfl ⟨_, rfl, rfl⟩ rfl rfl ?_
        refine op0 (sp_move rfl rfl) rfl ⟨_, rfl, rfl⟩ rfl rfl ?_
        obtain ⟨h32, h⟩ := chk_inv h
        refine op0 (sp_add rfl rfl rfl h32) rfl ⟨_, rfl, rfl⟩ rfl rfl ?_
        obtain ⟨h33, h⟩ := chk_inv h
        refine op0 (sp_quo rfl rfl rfl (by decide) h33) rfl ⟨_, rfl, rfl⟩ rfl rfl ?_
        refine op0 (sp_neq rfl rfl rfl) rfl ⟨_, rfl, rfl⟩ rfl rfl ?_
        refine op0 (sp_pickT rfl rfl rfl) rfl trivial rfl rfl ?_
        refine TL.nil ?_
        refine TC.cond (b := (i37 != (Int.tdiv (i26 + 1) 2))) rfl (fun h34 => ?_) (fun h34 => ?_)
        · have h := cond_t h h34
          refine TC.exit rfl ?_
          refine TC.region ?_
          refine op0 (sp_move rfl rfl) rfl trivial rfl rfl ?_
          obtain ⟨h35, h⟩ := chk_inv h
          refine op0 (sp_add rfl rfl rfl h35) rfl trivial rfl rfl ?_
          refine op0 (sp_assign rfl rfl) rfl trivial rfl rfl ?_
          refine TL.nil ?_
          refine TC.inLoop ?_
          refine TC.seq ?_
          refine TC.seq ?_
          refine subJ [] (ih _ _ h) ?_ ?_ ?_
          · exact ⟨rfl, rfl, rfl, rfl, rfl, rfl, rfl, rfl, trivial⟩
          · exact ⟨mem_at 0 rfl, mem_at 1 rfl, mem_at 2 rfl, mem_at 3 rfl, trivial⟩
          · rfl
        · have h := cond_f h h34
          refine subJ [] (ok_law05_StrikeFound_j8 (i26 := i26) ih h) ?_ ?_ ?_
          · exact ⟨rfl, rfl, rfl, rfl, rfl, rfl, rfl, rfl, trivial⟩
          · exact ⟨mem_at 0 rfl, mem_at 1 rfl, mem_at 2 rfl, mem_at 3 rfl, trivial⟩
          · rfl
      · refine (boolLit 122 rfl h31).2 ?_
        refine opSkip rfl ⟨_, rfl, .inl rfl⟩ rfl ?_
        refine opSkip rfl ⟨_, rfl, .inl rfl⟩ rfl ?_
        refine opSkip rfl ⟨_, rfl, .inl rfl⟩ rfl ?_
        refine opSkip rfl ⟨_, rfl, .inl rfl⟩ rfl ?_
        refine opSkip rfl ⟨_, rfl, .inl rfl⟩ rfl ?_
        refine op0 (sp_pickF rfl rfl rfl) rfl trivial rfl rfl ?_
        refine TL.nil ?_
        refine TC.condF rfl ?_
        refine subJ [] (ok_law05_StrikeFound_j8 (i26 := i26) ih h) ?_ ?_ ?_
        · exact ⟨rfl, rfl, rfl, rfl, rfl, rfl, rfl, rfl, trivial⟩
        · exact ⟨mem_at 0 rfl, mem_at 1 rfl, mem_at 2 rfl, mem_at 3 rfl, trivial⟩
        · rfl
    · have h := cond_f h h30
      refine TC.exit rfl ?_
      refine TC.seq ?_
      refine TC.region ?_
      obtain ⟨r50, h70, h⟩ := bind_inv h
      refine op0 (sp_call (avs := []) (need := []) (v := .val (.bool r50)) (news := []) rfl rfl rfl Try.call12 (atJ [] [] (fc_law05_known h70) rfl rfl) (.inl (roAll rfl))) rfl trivial rfl rfl ?_
      refine op0 (sp_assign rfl rfl) rfl trivial rfl rfl ?_
      refine TL.nil ?_
      cases h
      exact retJ [] (.tmp rfl .nil) rfl trivial rfl rfl
def ev_law05_StrikeFound_j6 (n : Nat) (r7 : Int) (i26 : Int) (b27 : Bool) (i28 : Int) (i29 : Int) (l30 : List (Int × Int)) (l31 : List Int) (l32 : List Int) : Option Bool :=
  cond (i26 == 0) ((ev_law05_Wheel_rules n b27 i28 i29).bind fun r33 => (ev_strike_Misses n r33.1 r33.2.1 r33.2.2 ([])).bind fun r34 => cond (r34.2.2 == 7) ((ev_law05_known n).bind fun r35 => some r35) (some false)) (ev_law05_StrikeFound_l7 n i26 b27 i28 i29 l30 l32 r7 l31 n (-1) 1)
set_option maxRecDepth 100000 in
set_option maxHeartbeats 2000000 in
theorem ok_law05_StrikeFound_j6 {n : Nat} {w0 : World} {R0 : Nat → Prop} {env0 : Env} {r : Bool} {r7 : Int} {i26 : Int} {b27 : Bool} {i28 : Int} {i29 : Int} {l30 : List (Int × Int)} {l31 : List Int} {l32 : List Int} (h : ev_law05_StrikeFound_j6 n r7 i26 b27 i28 i29 l30 l31 l32 = some r) : TC Try.prog ⟨w0, fun _ => False, R0⟩ 220 (bodyPost Try.prog Try.f7 (Post ⟨w0, fun _ => False, R0⟩ env0 (.val (.bool r)) [])) [.code (sub (bodyOf Try.f7) [1, 1, 1, 1, 1, 1, 0, 0]), .code (sub (bodyOf Try.f7) [1, 1, 1, 1, 1, 1, 0, 1]), .code (sub (bodyOf Try.f7) [1, 1, 1, 1, 1, 1, 1])] ([(3, .ptr 1 0), (7, .val (.int .i64 r7)), (10, .ref 3), (12, .val (.int .i64 i26)), (13, .ref 4), (14, .ref 5)]) ([.blk 1 [.val (.bool b27), .val (.int .u8 i28), .val (.int .u8 i29)] 64, .row 3 43 2 (List.map en_api_StrikeHeard l30), .row 4 3 1 (List.map en_int l31), .row 5 3 1 (List.map en_int l32)]) := by
  rw [ev_law05_StrikeFound_j6] at h
  refine TC.region ?_
  refine op0 (sp_move rfl rfl) rfl trivial rfl rfl ?_
  refine op0 (sp_eql rfl rfl rfl) rfl trivial rfl rfl ?_
  refine TL.nil ?_
  refine TC.cond (b := (i26 == 0)) rfl (fun h25 => ?_) (fun h25 => ?_)
  · have h := cond_t h h25
    refine TC.seq ?_
    refine TC.region ?_
    refine op1 0 rfl (sp_loadBA rfl isBlk rfl vt64 rfl rfl) rfl trivial rfl rfl ?_
    obtain ⟨r33, h26, h⟩ := bind_inv h
    refine op0 (sp_call (avs := [.agg [.val (.bool b27), .val (.int .u8 i28), .val (.int .u8 i29)]]) (need := []) (v := .agg [.val (.bool r33.1), .val (.bool r33.2.1), .ref 12]) (news := [.row 12 81 2 (List.map en_api_Span r33.2.2)]) rfl rfl rfl Try.call38 (atJ [] [(0, 12)] (fc_law05_Wheel_rules h26) rfl rfl) (.inl (roAll rfl))) rfl trivial rfl rfl ?_
    obtain ⟨r34, h27, h⟩ := bind_inv h
    refine op1 0 rfl (sp_call (avs := [.agg [.val (.bool r33.1), .val (.bool r33.2.1), .ref 12], .val (.slice none 0 0)]) (need := [.row 12 81 2 (List.map en_api_Span r33.2.2)]) (v := .tup [.val (.int .i64 r34.1), .ref 14, .val (.int .i64 r34.2.2)]) (news := [.row 14 3 1 (List.map en_int r34.2.1)]) rfl rfl rfl Try.call23 (FC.nil (args := [.agg [.val (.bool r33.1), .val (.bool r33.2.1), .ref 12], .ref 13]) 13 2 (FC.needJ (need := [.ro 13 2 (List.map en_api_StrikeHeard ([])), .ro 12 2 (List.map en_api_Span r33.2.2)]) (need' := [.ro 12 2 (List.map en_api_Span r33.2.2), .ro 13 2 (List.map en_api_StrikeHeard ([]))]) [1, 0] ⟨rfl, rfl, trivial⟩ (atJ [(0, 12), (1, 13)] [(0, 14)] (fc_strike_Misses h27) rfl rfl)) rfl rfl rfl) (.inr (List.forall_mem_cons.2 ⟨indep_map en_int_flat, (by simp)⟩))) rfl trivial rfl rfl ?_
    refine op0 (sp_move rfl rfl) rfl trivial rfl rfl ?_
    refine op0 (sp_extract rfl rfl rfl) rfl trivial rfl rfl ?_
    refine op0 (sp_extract rfl rfl rfl) rfl trivial rfl rfl ?_
    refine op0 (sp_extract rfl rfl rfl) rfl trivial rfl rfl ?_
    refine op0 (sp_assign rfl rfl) rfl trivial rfl rfl ?_
    refine op0 (sp_assign rfl rfl) rfl trivial rfl rfl ?_
    refine op0 (sp_assign rfl rfl) rfl trivial rfl rfl ?_
    refine TL.nil ?_
    refine TC.seq ?_
    refine TC.region ?_
    refine op0 (sp_move rfl rfl) rfl trivial rfl rfl ?_
    refine op0 (sp_eql rfl rfl rfl) rfl trivial rfl rfl ?_
    refine op0 (sp_move rfl rfl) rfl trivial rfl rfl ?_
    rcases cond_cases h with ⟨h28, h⟩ | ⟨h28, h⟩
    · refine (boolLit 111 rfl h28).2 ?_
      obtain ⟨r35, h29, h⟩ := bind_inv h
      refine op0 (sp_call (avs := []) (need := []) (v := .val (.bool r35)) (news := []) rfl rfl rfl Try.call12 (atJ [] [] (fc_law05_known h29) rfl rfl) (.inl (roAll rfl))) rfl ⟨_, rfl, rfl⟩ rfl rfl ?_
      refine op0 (sp_pickT rfl rfl rfl) rfl trivial rfl rfl ?_
      refine op0 (sp_assign rfl rfl) rfl trivial rfl rfl ?_
      refine TL.nil ?_
      cases h
      exact retJ [] (.tmp rfl .nil) rfl trivial rfl rfl
    · refine (boolLit 111 rfl h28).2 ?_
      refine opSkip rfl ⟨_, rfl, .inl rfl⟩ rfl ?_
      refine op0 (sp_pickF rfl rfl rfl) rfl trivial rfl rfl ?_
      refine op0 (sp_assign rfl rfl) rfl trivial rfl rfl ?_
      refine TL.nil ?_
      cases h
      exact retJ [] (.tmp rfl .nil) rfl trivial rfl rfl
  · have h := cond_f h h25
    refine TC.skip ?_
    refine TC.seq ?_
    refine TC.region ?_
    refine op0 (sp_assign rfl rfl) rfl trivial rfl rfl ?_
    refine TL.nil ?_
    refine TC.seq ?_
    refine TC.seq ?_
    refine TC.region ?_
    refine op0 (sp_assign rfl rfl) rfl trivial rfl rfl ?_
    refine TL.nil ?_
    refine TC.block ?_
    refine TC.loop ?_
    refine TC.seq ?_
    refine TC.seq ?_
    refine TC.freeze 1 rfl ?_
    refine subJ [] (ok_law05_StrikeFound_l7 _ _ _ h) ?_ ?_ ?_
    · exact ⟨rfl, rfl, rfl, rfl, rfl, rfl, rfl, rfl, trivial⟩
    · exact ⟨mem_at 0 rfl, mem_at 1 rfl, mem_at 2 rfl, mem_at 3 rfl, trivial⟩
    · rfl
def ev_law05_StrikeFound_l0 (n : Nat) (at_4 : Int) (r7 : Int) : Nat → Int → Int → Int → Int → (List Int) → Bool → Int → Int → (List (Int × Int)) → (List Int) → (List Int) → Option Bool
  | 0, _, _, _, _, _, _, _, _, _, _, _ => none
  | m + 1, i8, i9, i10, i11, l12, b13, i14, i15, l16, l17, l18 => cond (decide (i11 < 60)) (cond (decide (i11 < (l12.length : Int))) (ev_law05_StrikeFound_j1 n l12 i11 b13 i14 i15 i8 at_4 l16 i9 l17 l18 i10 r7 (fun i8q i9q i10q i11q l12q b13q i14q i15q l16q l17q l18q => ev_law05_StrikeFound_l0 n at_4 r7 m i8q i9q i10q i11q l12q b13q i14q i15q l16q l17q l18q)) (ev_law05_StrikeFound_j6 n r7 i10 b13 i14 i15 l16 l17 l18)) (ev_law05_StrikeFound_j6 n r7 i10 b13 i14 i15 l16 l17 l18)
set_option maxRecDepth 100000 in
set_option maxHeartbeats 2000000 in
theorem ok_law05_StrikeFound_l0 {n : Nat} {w0 : World} {R0 : Nat → Prop} {env0 : Env} {r : Bool} {r7 : Int} {at_4 : Int} : ∀ (m : Nat) (i8 : Int) (i9 : Int) (i10 : Int) (i11 : Int) (l12 : List Int) (b13 : Bool) (i14 : Int) (i15 : Int) (l16 : List (Int × Int)) (l17 : List Int) (l18 : List Int), ev_law05_StrikeFound_l0 n at_4 r7 m i8 i9 i10 i11 l12 b13 i14 i15 l16 l17 l18 = some r → TC Try.prog ⟨w0, fun _ => False, R0⟩ 220 (bodyPost Try.prog Try.f7 (Post ⟨w0, fun _ => False, R0⟩ env0 (.val (.bool r)) [])) [.code (sub (bodyOf Try.f7) [1, 1, 1, 1, 1, 0, 1, 0, 0, 0, 0]), .code (sub (bodyOf Try.f7) [1, 1, 1, 1, 1, 0, 1, 0, 0, 0, 1]), .code (sub (bodyOf Try.f7) [1, 1, 1, 1, 1, 0, 1, 0, 0, 1]), .inLoop (sub (bodyOf Try.f7) [1, 1, 1, 1, 1, 0, 1, 0, 0]), .inBlock 0, .code (sub (bodyOf Try.f7) [1, 1, 1, 1, 1, 1])] ([(2, .ref 0), (3, .ptr 1 0), (7, .val (.int .i64 r7)), (8, .val (.int .i64 at_4)), (9, .val (.int .i64 i8)), (10, .ref 3), (11, .val (.int .i64 i9)), (12, .val (.int .i64 i10)), (13, .ref 4), (14, .ref 5), (15, .val (.int .i64 i11))]) ([.ro 0 1 (List.map en_uint8 l12), .blk 1 [.val (.bool b13), .val (.int .u8 i14), .val (.int .u8 i15)] 64, .row 3 43 2 (List.map en_api_StrikeHeard l16), .row 4 3 1 (List.map en_int l17), .row 5 3 1 (List.map en_int l18)]) := by
  intro m
  induction m with
  | zero => intro i8 i9 i10 i11 l12 b13 i14 i15 l16 l17 l18 h; exact none_no h
  | succ m ih =>
    intro i8 i9 i10 i11 l12 b13 i14 i15 l16 l17 l18 h
    rw [ev_law05_StrikeFound_l0] at h
    refine TC.region ?_
    refine op0 (sp_move rfl rfl) rfl trivial rfl rfl ?_
    refine op0 (sp_lss rfl rfl rfl) rfl trivial rfl rfl ?_
    refine op0 (sp_move rfl rfl) rfl trivial rfl rfl ?_
    rcases cond_cases h with ⟨h5, h⟩ | ⟨h5, h⟩
    · refine (boolLit 43 rfl h5).2 ?_
      refine op0 (sp_move rfl rfl) rfl ⟨_, rfl, rfl⟩ rfl rfl ?_
      refine op0 (sp_move rfl rfl) rfl ⟨_, rfl, rfl⟩ rfl rfl ?_
      refine op1 0 rfl (sp_lenM (N := l12.length) (len_map _ _) rfl rfl isRo Try.underlying65) rfl ⟨_, rfl, rfl⟩ rfl rfl ?_
      refine op0 (sp_lss rfl rfl rfl) rfl ⟨_, rfl, rfl⟩ rfl rfl ?_
      refine op0 (sp_pickT rfl rfl rfl) rfl trivial rfl rfl ?_
      refine TL.nil ?_
      refine TC.cond (b := (decide (i11 < (l12.length : Int)))) rfl (fun h6 => ?_) (fun h6 => ?_)
      · have h := cond_t h h6
        refine subJ [] (ok_law05_StrikeFound_j1 ih h) ?_ ?_ ?_
        · exact ⟨rfl, rfl, rfl, rfl, rfl, rfl, rfl, rfl, rfl, rfl, rfl, trivial⟩
        · exact ⟨mem_at 0 rfl, mem_at 1 rfl, mem_at 2 rfl, mem_at 3 rfl, mem_at 4 rfl, trivial⟩
        · rfl
      · have h := cond_f h h6
        refine TC.exit rfl ?_
        refine TC.seq ?_
        refine TC.seq ?_
        refine subJ [] (ok_law05_StrikeFound_j6 h) ?_ ?_ ?_
        · exact ⟨rfl, rfl, rfl, rfl, rfl, rfl, trivial⟩
        · exact ⟨mem_at 1 rfl, mem_at 2 rfl, mem_at 3 rfl, mem_at 4 rfl, trivial⟩
        · rfl
    · refine (boolLit 43 rfl h5).2 ?_
      refine opSkip rfl ⟨_, rfl, .inl rfl⟩ rfl ?_
      refine opSkip rfl ⟨_, rfl, .inl rfl⟩ rfl ?_
      refine opSkip rfl ⟨_, rfl, .inl rfl⟩ rfl ?_
      refine opSkip rfl ⟨_, rfl, .inl rfl⟩ rfl ?_
      refine op0 (sp_pickF rfl rfl rfl) rfl trivial rfl rfl ?_
      refine TL.nil ?_
      refine TC.condF rfl ?_
      refine TC.exit rfl ?_
      refine TC.seq ?_
      refine TC.seq ?_
      refine subJ [] (ok_law05_StrikeFound_j6 h) ?_ ?_ ?_
      · exact ⟨rfl, rfl, rfl, rfl, rfl, rfl, trivial⟩
      · exact ⟨mem_at 1 rfl, mem_at 2 rfl, mem_at 3 rfl, mem_at 4 rfl, trivial⟩
      · rfl
def ev_law05_StrikeFound (n : Nat) (w1 : Bool) (w2 : Int) (w3 : Int) (at_4 : Int) (at_5 : Int) (by_6 : List Int) : Option Bool :=
  (ev_law05_Wheel_places n w1 w2 w3).bind fun r7 => chk (in64 at_4) <| chk (in64 at_5) <| chk (r7 != 0) <| ev_law05_StrikeFound_l0 n at_4 r7 n (Int.tmod at_5 r7) 0 0 0 by_6 w1 w2 w3 ([] : List (Int × Int)) ([] : List Int) ([] : List Int)
set_option maxRecDepth 100000 in
set_option maxHeartbeats 2000000 in
theorem fc_law05_StrikeFound {n : Nat} {w1 : Bool} {w2 : Int} {w3 : Int} {at_4 : Int} {at_5 : Int} {by_6 : List Int} {r : Bool} (h : ev_law05_StrikeFound n w1 w2 w3 at_4 at_5 by_6 = some r) : FC Try.prog 7 [.agg [.val (.bool w1), .val (.int .u8 w2), .val (.int .u8 w3)], .agg [.val (.int .u8 at_4), .val (.int .u8 at_5)], .ref 0] [.ro 0 1 (List.map en_uint8 by_6)] (.val (.bool r)) [] := by
  refine introJ (nz := 220) Try.func7 rfl rfl rfl (fun w0 R0 env0 => ?_)
  rw [ev_law05_StrikeFound] at h
  refine TC.seq ?_
  refine TC.region ?_
  refine op0 (sp_box 1 rfl rfl rfl rfl rfl) rfl trivial rfl rfl ?_
  refine op0 (sp_box 2 rfl rfl rfl rfl rfl) rfl trivial rfl rfl ?_
  refine op0 (sp_assign rfl rfl) rfl trivial rfl rfl ?_
  refine TL.nil ?_
  refine TC.seq ?_
  refine TC.region ?_
  refine op1 1 rfl (sp_loadBA rfl isBlk rfl vt64 rfl rfl) rfl trivial rfl rfl ?_
  obtain ⟨r7, h1, h⟩ := bind_inv h
  refine op0 (sp_call (avs := [.agg [.val (.bool w1), .val (.int .u8 w2), .val (.int .u8 w3)]]) (need := []) (v := .val (.int .i64 r7)) (news := []) rfl rfl rfl Try.call34 (atJ [] [] (fc_law05_Wheel_places h1) rfl rfl) (.inl (roAll rfl))) rfl trivial rfl rfl ?_
  refine op0 (sp_assign rfl rfl) rfl trivial rfl rfl ?_
  refine TL.nil ?_
  refine TC.seq ?_
  obtain ⟨h2, h⟩ := chk_inv h
  obtain ⟨h3, h⟩ := chk_inv h
  obtain ⟨h4, h⟩ := chk_inv h
  refine drawJ 9 [⟨.ptr 2 0, [], [.blk 2 [.val (.int .u8 at_4), .val (.int .u8 at_5)] 62], []⟩, ⟨.val (.int .u8 at_4), [], [.blk 2 [.val (.int .u8 at_4), .val (.int .u8 at_5)] 62], []⟩, ⟨.val (.int .i64 at_4), [], [], []⟩, ⟨.ptr 2 1, [], [.blk 2 [.val (.int .u8 at_4), .val (.int .u8 at_5)] 62], []⟩, ⟨.val (.int .u8 at_5), [], [.blk 2 [.val (.int .u8 at_4), .val (.int .u8 at_5)] 62], []⟩, ⟨.val (.int .i64 at_5), [], [], []⟩, ⟨.val (.int .i64 r7), [], [], []⟩, ⟨.val (.int .i64 (Int.tmod at_5 r7)), [], [], []⟩, ⟨.val (.int .i64 at_4), [], [], []⟩] rfl ?_ rfl ?_ rfl ?_ ?_
  · kernel_rfl
  · kernel_rfl
  · exact DAll.op' (sp_indexA (len := 2) (iv := 0) rfl isBlk rfl rfl Try.underlying62 vt5 (by decide)) trivial rfl (From.ok (ps := [(none, 0)]) ⟨⟨rfl, rfl⟩, trivial⟩) (DAll.op' (sp_loadB rfl isBlk rfl vt5 rfl) trivial rfl (From.ok (ps := [(none, 0)]) ⟨⟨rfl, rfl⟩, trivial⟩) (DAll.op' (sp_conv rfl Try.underlying5 Try.underlying3 rfl h2) trivial rfl (From.ok (ps := []) trivial) (DAll.op' (sp_indexA (len := 2) (iv := 1) rfl isBlk rfl rfl Try.underlying62 vt5 (by decide)) trivial rfl (From.ok (ps := [(none, 0)]) ⟨⟨rfl, rfl⟩, trivial⟩) (DAll.op' (sp_loadB rfl isBlk rfl vt5 rfl) trivial rfl (From.ok (ps := [(none, 0)]) ⟨⟨rfl, rfl⟩, trivial⟩) (DAll.op' (sp_conv rfl Try.underlying5 Try.underlying3 rfl h3) trivial rfl (From.ok (ps := []) trivial) (DAll.op' (sp_move rfl rfl) trivial rfl (From.ok (ps := []) trivial) (DAll.op' (sp_rem rfl rfl rfl h4) trivial rfl (From.ok (ps := []) trivial) (DAll.op' (sp_assign rfl rfl) trivial rfl (From.ok (ps := []) trivial) (.nil)))))))))
  refine op0 (sp_assign rfl rfl) rfl trivial rfl rfl ?_
  refine TL.nil ?_
  refine TC.seq ?_
  refine TC.region ?_
  refine op0 (sp_emptyM 3 (List.map en_api_StrikeHeard []) rfl rfl sl37) rfl trivial rfl rfl ?_
  refine op0 (sp_assign rfl rfl) rfl trivial rfl rfl ?_
  refine op0 (sp_assign rfl rfl) rfl trivial rfl rfl ?_
  refine op0 (sp_assign rfl rfl) rfl trivial rfl rfl ?_
  refine TL.nil ?_
  refine TC.seq ?_
  refine TC.region ?_
  refine op0 (sp_emptyM 4 (List.map en_int []) rfl rfl sl39) rfl trivial rfl rfl ?_
  refine op0 (sp_emptyM 5 (List.map en_int []) rfl rfl sl39) rfl trivial rfl rfl ?_
  refine op0 (sp_assign rfl rfl) rfl trivial rfl rfl ?_
  refine op0 (sp_assign rfl rfl) rfl trivial rfl rfl ?_
  refine TL.nil ?_
  refine TC.seq ?_
  refine TC.seq ?_
  refine TC.region ?_
  refine op0 (sp_assign rfl rfl) rfl trivial rfl rfl ?_
  refine TL.nil ?_
  refine TC.block ?_
  refine TC.loop ?_
  refine TC.seq ?_
  refine TC.seq ?_
  refine subJ [] (ok_law05_StrikeFound_l0 _ _ _ _ _ _ _ _ _ _ _ _ h) ?_ ?_ ?_
  · exact ⟨rfl, rfl, rfl, rfl, rfl, rfl, rfl, rfl, rfl, rfl, rfl, trivial⟩
  · exact ⟨mem_at 5 rfl, mem_at 4 rfl, mem_at 2 rfl, mem_at 1 rfl, mem_at 0 rfl, trivial⟩
  · rfl
end
end Go.Proofs.Ytglgkcfgjaoabaa.Sy
