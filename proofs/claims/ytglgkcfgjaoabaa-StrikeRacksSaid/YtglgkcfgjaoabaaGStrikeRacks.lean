/- What functions of the program compute, and that they do: printed by symgen.py. -/
import Derived.Test.YtglgkcfgjaoabaaGLib
import Derived.Test.YtglgkcfgjaoabaaGturretlaw05
import Derived.Test.YtglgkcfgjaoabaaGStrike
set_option linter.unusedSimpArgs false
set_option linter.unusedVariables false
namespace Go.Proofs.Ytglgkcfgjaoabaa.Sy
open Go.RowKit
noncomputable section

/- law05_StrikeRacks -/
def ev_law05_StrikeRacks_j4 (n : Nat) (i10 : Int) (at_4 : Int) (k_law05_StrikeRacks_l0 : Int → Int → Int → (List Int) → Bool → Int → Int → Bool → Bool → (List (Int × Int)) → (List (Int × Bool)) → (List (Int × Int)) → Option Bool) (i25 : Int) (i26 : Int) (l27 : List Int) (b28 : Bool) (i29 : Int) (i30 : Int) (b31 : Bool) (b32 : Bool) (l33 : List (Int × Int)) (l34 : List (Int × Bool)) (l35 : List (Int × Int)) : Option Bool :=
  idx l27 i10 fun x36 => chk (in64 (at_4 + i10)) <| (ev_law05_Wheel_silent n b28 i29 i30 (at_4 + i10)).bind fun r37 => cond (!r37) (chk (in64 x36) <| chk (in64 (Int.tdiv x36 8)) <| chk (room 16 (l34.length + ([((Int.tmod (Int.tdiv x36 8) 3), ((Int.tmod x36 2) == 1))] : List (Int × Bool)).length)) <| chk (in64 (i10 + 1)) <| k_law05_StrikeRacks_l0 i25 i26 (i10 + 1) l27 b28 i29 i30 b31 b32 l33 (l34 ++ ([((Int.tmod (Int.tdiv x36 8) 3), ((Int.tmod x36 2) == 1))] : List (Int × Bool))) l35) (chk (room 16 (l34.length + ([(0, ((Int.tmod x36 2) == 1))] : List (Int × Bool)).length)) <| chk (in64 (i10 + 1)) <| k_law05_StrikeRacks_l0 i25 i26 (i10 + 1) l27 b28 i29 i30 b31 b32 l33 (l34 ++ ([(0, ((Int.tmod x36 2) == 1))] : List (Int × Bool))) l35)
set_option maxRecDepth 100000 in
set_option maxHeartbeats 2000000 in
theorem ok_law05_StrikeRacks_j4 {n : Nat} {w0 : World} {R0 : Nat → Prop} {env0 : Env} {r : Bool} {r6 : Int} {at_4 : Int} {i10 : Int} {k_law05_StrikeRacks_l0 : Int → Int → Int → (List Int) → Bool → Int → Int → Bool → Bool → (List (Int × Int)) → (List (Int × Bool)) → (List (Int × Int)) → Option Bool} {i25 : Int} {i26 : Int} {l27 : List Int} {b28 : Bool} {i29 : Int} {i30 : Int} {b31 : Bool} {b32 : Bool} {l33 : List (Int × Int)} {l34 : List (Int × Bool)} {l35 : List (Int × Int)} (hk_law05_StrikeRacks_l0 : ∀ (i8 : Int) (i9 : Int) (i10 : Int) (l11 : List Int) (b12 : Bool) (i13 : Int) (i14 : Int) (b15 : Bool) (b16 : Bool) (l17 : List (Int × Int)) (l18 : List (Int × Bool)) (l19 : List (Int × Int)), k_law05_StrikeRacks_l0 i8 i9 i10 l11 b12 i13 i14 b15 b16 l17 l18 l19 = some r → TC Try.prog ⟨w0, fun _ => False, R0⟩ 229 (bodyPost Try.prog Try.f11 (Post ⟨w0, fun _ => False, R0⟩ env0 (.val (.bool r)) [])) [.code (sub (bodyOf Try.f11) [1, 1, 1, 1, 1, 0, 1, 0, 0, 0, 0]), .code (sub (bodyOf Try.f11) [1, 1, 1, 1, 1, 0, 1, 0, 0, 0, 1]), .code (sub (bodyOf Try.f11) [1, 1, 1, 1, 1, 0, 1, 0, 0, 1]), .inLoop (sub (bodyOf Try.f11) [1, 1, 1, 1, 1, 0, 1, 0, 0]), .inBlock 0, .code (sub (bodyOf Try.f11) [1, 1, 1, 1, 1, 1])] ([(2, .ref 0), (3, .ptr 1 0), (7, .val (.int .i64 r6)), (8, .ptr 3 0), (9, .val (.int .i64 at_4)), (10, .ref 4), (11, .val (.int .i64 i8)), (12, .ref 5), (13, .val (.int .i64 i9)), (14, .val (.int .i64 i10))]) ([.ro 0 1 (List.map en_uint8 l11), .blk 1 [.val (.bool b12), .val (.int .u8 i13), .val (.int .u8 i14)] 64, .blk 3 [.val (.bool b15), .val (.bool b16), .ref 2] 24, .row 4 43 2 (List.map en_api_StrikeHeard l17), .row 5 73 2 (List.map en_api_StrikeStep l18), .row 2 81 2 (List.map en_api_Span l19)])) (h : ev_law05_StrikeRacks_j4 n i10 at_4 k_law05_StrikeRacks_l0 i25 i26 l27 b28 i29 i30 b31 b32 l33 l34 l35 = some r) : TC Try.prog ⟨w0, fun _ => False, R0⟩ 229 (bodyPost Try.prog Try.f11 (Post ⟨w0, fun _ => False, R0⟩ env0 (.val (.bool r)) [])) [.code (sub (bodyOf Try.f11) [1, 1, 1, 1, 1, 0, 1, 0, 0, 1, 0, 0, 1, 1, 1, 0]), .code (sub (bodyOf Try.f11) [1, 1, 1, 1, 1, 0, 1, 0, 0, 1, 0, 0, 1, 1, 1, 1]), .inBlock 1, .code (sub (bodyOf Try.f11) [1, 1, 1, 1, 1, 0, 1, 0, 0, 1, 1]), .inLoop (sub (bodyOf Try.f11) [1, 1, 1, 1, 1, 0, 1, 0, 0]), .inBlock 0, .code (sub (bodyOf Try.f11) [1, 1, 1, 1, 1, 1])] ([(2, .ref 0), (3, .ptr 1 0), (7, .val (.int .i64 r6)), (8, .ptr 3 0), (9, .val (.int .i64 at_4)), (10, .ref 8), (11, .val (.int .i64 i25)), (12, .ref 5), (13, .val (.int .i64 i26)), (14, .val (.int .i64 i10))]) ([.ro 0 1 (List.map en_uint8 l27), .blk 1 [.val (.bool b28), .val (.int .u8 i29), .val (.int .u8 i30)] 64, .blk 3 [.val (.bool b31), .val (.bool b32), .ref 2] 24, .row 8 43 2 (List.map en_api_StrikeHeard l33), .row 5 73 2 (List.map en_api_StrikeStep l34), .row 2 81 2 (List.map en_api_Span l35)]) := by
  rw [ev_law05_StrikeRacks_j4] at h
  refine TC.region ?_
  refine op0 (sp_move rfl rfl) rfl trivial rfl rfl ?_
  refine op0 (sp_move rfl rfl) rfl trivial rfl rfl ?_
  obtain ⟨x36, h20, h21, h⟩ := idx_inv h
  refine op1 0 rfl (sp_indexS rfl rfl rfl isRo sl65 h20 (map_get _ h21)) rfl trivial rfl rfl ?_
  refine op1 0 rfl (sp_loadR (i := (i10 : Int).toNat) (j := 0) rfl rfl isRo vt5 rfl (map_get _ h21) rfl (.v (.nil)) (nodup_of_B rfl)) rfl trivial rfl rfl ?_
  refine op0 (sp_rem rfl rfl rfl (by decide)) rfl trivial rfl rfl ?_
  refine op0 (sp_eql rfl rfl rfl) rfl trivial rfl rfl ?_
  refine op0 (sp_build (qs := [(1, .val (.bool ((Int.tmod x36 2) == 1)))]) rfl bt73 rfl rfl rfl rfl) rfl trivial rfl rfl ?_
  refine op0 (sp_alloc 9 rfl Try.zeroValue73 rfl) rfl trivial rfl rfl ?_
  refine stoB 0 (cells' := [.val (.int .i64 0), .val (.bool ((Int.tmod x36 2) == 1))]) rfl rfl trivial rfl rfl rfl rfl vt73 rfl rfl rfl ?_
  refine TL.nil ?_
  refine TC.seq ?_
  refine TC.seq ?_
  refine TC.region ?_
  refine op1 2 rfl (sp_loadBA rfl isBlk rfl vt64 rfl rfl) rfl trivial rfl rfl ?_
  refine op0 (sp_move rfl rfl) rfl trivial rfl rfl ?_
  refine op0 (sp_move rfl rfl) rfl trivial rfl rfl ?_
  obtain ⟨h22, h⟩ := chk_inv h
  refine op0 (sp_add rfl rfl rfl h22) rfl trivial rfl rfl ?_
  obtain ⟨r37, h23, h⟩ := bind_inv h
  refine op0 (sp_call (avs := [.agg [.val (.bool b28), .val (.int .u8 i29), .val (.int .u8 i30)], .val (.int .i64 (at_4 + i10))]) (need := []) (v := .val (.bool r37)) (news := []) rfl rfl rfl Try.call37 (atJ [] [] (fc_law05_Wheel_silent h23) rfl rfl) (.inl (roAll rfl))) rfl trivial rfl rfl ?_
  refine op0 (sp_not rfl rfl) rfl trivial rfl rfl ?_
  refine TL.nil ?_
  refine TC.cond (b := (!r37)) rfl (fun h24 => ?_) (fun h24 => ?_)
  · have h := cond_t h h24
    refine TC.region ?_
    refine op0 (sp_move rfl rfl) rfl trivial rfl rfl ?_
    refine op0 (sp_move rfl rfl) rfl trivial rfl rfl ?_
    refine op1 1 rfl (sp_indexS rfl rfl rfl isRo sl65 h20 (map_get _ h21)) rfl trivial rfl rfl ?_
    refine op1 1 rfl (sp_loadR (i := (i10 : Int).toNat) (j := 0) rfl rfl isRo vt5 rfl (map_get _ h21) rfl (.v (.nil)) (nodup_of_B rfl)) rfl trivial rfl rfl ?_
    obtain ⟨h25, h⟩ := chk_inv h
    refine op0 (sp_conv rfl Try.underlying5 Try.underlying3 rfl h25) rfl trivial rfl rfl ?_
    obtain ⟨h26, h⟩ := chk_inv h
    refine op0 (sp_quo rfl rfl rfl (by decide) h26) rfl trivial rfl rfl ?_
    refine op0 (sp_rem rfl rfl rfl (by decide)) rfl trivial rfl rfl ?_
    refine op1 0 rfl (sp_fieldAddrB rfl isBlk rfl ft73_0 vt3 (by decide)) rfl trivial rfl rfl ?_
    refine stoB 0 (cells' := [.val (.int .i64 (Int.tmod (Int.tdiv x36 8) 3)), .val (.bool ((Int.tmod x36 2) == 1))]) rfl rfl trivial rfl rfl rfl rfl vt3 rfl rfl rfl ?_
    refine TL.nil ?_
    refine TC.region ?_
    refine op0 (sp_move rfl rfl) rfl trivial rfl rfl ?_
    refine op1 0 rfl (sp_loadBA rfl isBlk rfl vt73 rfl rfl) rfl trivial rfl rfl ?_
    refine op0 (sp_buildSlice (qs := [.agg [.val (.int .i64 (Int.tmod (Int.tdiv x36 8) 3)), .val (.bool ((Int.tmod x36 2) == 1))]]) (need := []) (els := List.map en_api_StrikeStep ([((Int.tmod (Int.tdiv x36 8) 3), ((Int.tmod x36 2) == 1))] : List (Int × Bool))) 10 rfl sl50 (by decide) (by decide) rfl rfl rfl (.v (.v (.nil))) (map_len fun _ => rfl) rfl rfl rfl) rfl trivial rfl rfl ?_
    obtain ⟨h27, h⟩ := chk_inv h
    refine appM 6 0 (N := l34.length) (N2 := ([((Int.tmod (Int.tdiv x36 8) 3), ((Int.tmod x36 2) == 1))] : List (Int × Bool)).length) 11 rfl rfl trivial rfl rfl rfl rfl rfl isOwn rfl sl50 (len_map _ _) (len_map _ _) h27 (map_app _ _ _) rfl ?_
    refine op0 (sp_assign rfl rfl) rfl trivial rfl rfl ?_
    refine TL.nil ?_
    refine TC.inBlock ?_
    refine TC.region ?_
    refine op0 (sp_move rfl rfl) rfl trivial rfl rfl ?_
    obtain ⟨h28, h⟩ := chk_inv h
    refine op0 (sp_add rfl rfl rfl h28) rfl trivial rfl rfl ?_
    refine op0 (sp_assign rfl rfl) rfl trivial rfl rfl ?_
    refine TL.nil ?_
    refine TC.inLoop ?_
    refine TC.seq ?_
    refine TC.seq ?_
    refine subJ [(4, 8), (5, 11)] (hk_law05_StrikeRacks_l0 _ _ _ _ _ _ _ _ _ _ _ _ h) ?_ ?_ ?_
    · exact ⟨rfl, rfl, rfl, rfl, rfl, rfl, rfl, rfl, rfl, rfl, trivial⟩
    · exact ⟨mem_at 3 rfl, mem_at 4 rfl, mem_at 5 rfl, mem_at 6 rfl, mem_at 0 rfl, mem_at 7 rfl, trivial⟩
    · rfl
  · have h := cond_f h h24
    refine TC.skip ?_
    refine TC.region ?_
    refine op0 (sp_move rfl rfl) rfl trivial rfl rfl ?_
    refine op1 0 rfl (sp_loadBA rfl isBlk rfl vt73 rfl rfl) rfl trivial rfl rfl ?_
    refine op0 (sp_buildSlice (qs := [.agg [.val (.int .i64 0), .val (.bool ((Int.tmod x36 2) == 1))]]) (need := []) (els := List.map en_api_StrikeStep ([(0, ((Int.tmod x36 2) == 1))] : List (Int × Bool))) 12 rfl sl50 (by decide) (by decide) rfl rfl rfl (.v (.v (.nil))) (map_len fun _ => rfl) rfl rfl rfl) rfl trivial rfl rfl ?_
    obtain ⟨h29, h⟩ := chk_inv h
    refine appM 6 0 (N := l34.length) (N2 := ([(0, ((Int.tmod x36 2) == 1))] : List (Int × Bool)).length) 13 rfl rfl trivial rfl rfl rfl rfl rfl isOwn rfl sl50 (len_map _ _) (len_map _ _) h29 (map_app _ _ _) rfl ?_
    refine op0 (sp_assign rfl rfl) rfl trivial rfl rfl ?_
    refine TL.nil ?_
    refine TC.inBlock ?_
    refine TC.region ?_
    refine op0 (sp_move rfl rfl) rfl trivial rfl rfl ?_
    obtain ⟨h30, h⟩ := chk_inv h
    refine op0 (sp_add rfl rfl rfl h30) rfl trivial rfl rfl ?_
    refine op0 (sp_assign rfl rfl) rfl trivial rfl rfl ?_
    refine TL.nil ?_
    refine TC.inLoop ?_
    refine TC.seq ?_
    refine TC.seq ?_
    refine subJ [(4, 8), (5, 13)] (hk_law05_StrikeRacks_l0 _ _ _ _ _ _ _ _ _ _ _ _ h) ?_ ?_ ?_
    · exact ⟨rfl, rfl, rfl, rfl, rfl, rfl, rfl, rfl, rfl, rfl, trivial⟩
    · exact ⟨mem_at 3 rfl, mem_at 4 rfl, mem_at 5 rfl, mem_at 6 rfl, mem_at 0 rfl, mem_at 7 rfl, trivial⟩
    · rfl
def ev_law05_StrikeRacks_j3 (n : Nat) (at_4 : Int) (i10 : Int) (l17 : List (Int × Int)) (l11 : List Int) (b12 : Bool) (i13 : Int) (i14 : Int) (b15 : Bool) (b16 : Bool) (l18 : List (Int × Bool)) (l19 : List (Int × Int)) (k_law05_StrikeRacks_l0 : Int → Int → Int → (List Int) → Bool → Int → Int → Bool → Bool → (List (Int × Int)) → (List (Int × Bool)) → (List (Int × Int)) → Option Bool) (i23 : Int) (i24 : Int) : Option Bool :=
  chk (in64 (at_4 + i10)) <| chk (room 16 (l17.length + ([((at_4 + i10), i24)] : List (Int × Int)).length)) <| chk (in64 (at_4 + i10)) <| chk (in64 ((at_4 + i10) + 1)) <| ev_law05_StrikeRacks_j4 n i10 at_4 k_law05_StrikeRacks_l0 i23 ((at_4 + i10) + 1) l11 b12 i13 i14 b15 b16 (l17 ++ ([((at_4 + i10), i24)] : List (Int × Int))) l18 l19
set_option maxRecDepth 100000 in
set_option maxHeartbeats 2000000 in
theorem ok_law05_StrikeRacks_j3 {n : Nat} {w0 : World} {R0 : Nat → Prop} {env0 : Env} {r : Bool} {r6 : Int} {at_4 : Int} {i10 : Int} {l17 : List (Int × Int)} {l11 : List Int} {b12 : Bool} {i13 : Int} {i14 : Int} {b15 : Bool} {b16 : Bool} {l18 : List (Int × Bool)} {l19 : List (Int × Int)} {k_law05_StrikeRacks_l0 : Int → Int → Int → (List Int) → Bool → Int → Int → Bool → Bool → (List (Int × Int)) → (List (Int × Bool)) → (List (Int × Int)) → Option Bool} {i23 : Int} {i24 : Int} (hk_law05_StrikeRacks_l0 : ∀ (i8 : Int) (i9 : Int) (i10 : Int) (l11 : List Int) (b12 : Bool) (i13 : Int) (i14 : Int) (b15 : Bool) (b16 : Bool) (l17 : List (Int × Int)) (l18 : List (Int × Bool)) (l19 : List (Int × Int)), k_law05_StrikeRacks_l0 i8 i9 i10 l11 b12 i13 i14 b15 b16 l17 l18 l19 = some r → TC Try.prog ⟨w0, fun _ => False, R0⟩ 229 (bodyPost Try.prog Try.f11 (Post ⟨w0, fun _ => False, R0⟩ env0 (.val (.bool r)) [])) [.code (sub (bodyOf Try.f11) [1, 1, 1, 1, 1, 0, 1, 0, 0, 0, 0]), .code (sub (bodyOf Try.f11) [1, 1, 1, 1, 1, 0, 1, 0, 0, 0, 1]), .code (sub (bodyOf Try.f11) [1, 1, 1, 1, 1, 0, 1, 0, 0, 1]), .inLoop (sub (bodyOf Try.f11) [1, 1, 1, 1, 1, 0, 1, 0, 0]), .inBlock 0, .code (sub (bodyOf Try.f11) [1, 1, 1, 1, 1, 1])] ([(2, .ref 0), (3, .ptr 1 0), (7, .val (.int .i64 r6)), (8, .ptr 3 0), (9, .val (.int .i64 at_4)), (10, .ref 4), (11, .val (.int .i64 i8)), (12, .ref 5), (13, .val (.int .i64 i9)), (14, .val (.int .i64 i10))]) ([.ro 0 1 (List.map en_uint8 l11), .blk 1 [.val (.bool b12), .val (.int .u8 i13), .val (.int .u8 i14)] 64, .blk 3 [.val (.bool b15), .val (.bool b16), .ref 2] 24, .row 4 43 2 (List.map en_api_StrikeHeard l17), .row 5 73 2 (List.map en_api_StrikeStep l18), .row 2 81 2 (List.map en_api_Span l19)])) (h : ev_law05_StrikeRacks_j3 n at_4 i10 l17 l11 b12 i13 i14 b15 b16 l18 l19 k_law05_StrikeRacks_l0 i23 i24 = some r) : TC Try.prog ⟨w0, fun _ => False, R0⟩ 229 (bodyPost Try.prog Try.f11 (Post ⟨w0, fun _ => False, R0⟩ env0 (.val (.bool r)) [])) [.code (sub (bodyOf Try.f11) [1, 1, 1, 1, 1, 0, 1, 0, 0, 1, 0, 0, 1, 1, 0, 1, 0, 1]), .code (sub (bodyOf Try.f11) [1, 1, 1, 1, 1, 0, 1, 0, 0, 1, 0, 0, 1, 1, 1]), .inBlock 1, .code (sub (bodyOf Try.f11) [1, 1, 1, 1, 1, 0, 1, 0, 0, 1, 1]), .inLoop (sub (bodyOf Try.f11) [1, 1, 1, 1, 1, 0, 1, 0, 0]), .inBlock 0, .code (sub (bodyOf Try.f11) [1, 1, 1, 1, 1, 1])] ([(2, .ref 0), (3, .ptr 1 0), (7, .val (.int .i64 r6)), (8, .ptr 3 0), (9, .val (.int .i64 at_4)), (10, .ref 4), (11, .val (.int .i64 i23)), (12, .ref 5), (14, .val (.int .i64 i10)), (15, .val (.int .i64 i24))]) ([.ro 0 1 (List.map en_uint8 l11), .blk 1 [.val (.bool b12), .val (.int .u8 i13), .val (.int .u8 i14)] 64, .blk 3 [.val (.bool b15), .val (.bool b16), .ref 2] 24, .row 4 43 2 (List.map en_api_StrikeHeard l17), .row 5 73 2 (List.map en_api_StrikeStep l18), .row 2 81 2 (List.map en_api_Span l19)]) := by
  rw [ev_law05_StrikeRacks_j3] at h
  refine TC.region ?_
  refine op0 (sp_move rfl rfl) rfl trivial rfl rfl ?_
  refine op0 (sp_move rfl rfl) rfl trivial rfl rfl ?_
  refine op0 (sp_move rfl rfl) rfl trivial rfl rfl ?_
  obtain ⟨h16, h⟩ := chk_inv h
  refine op0 (sp_add rfl rfl rfl h16) rfl trivial rfl rfl ?_
  refine op0 (sp_move rfl rfl) rfl trivial rfl rfl ?_
  refine op0 (sp_build (qs := [(0, .val (.int .i64 (at_4 + i10))), (1, .val (.int .i64 i24))]) rfl bt43 rfl rfl rfl rfl) rfl trivial rfl rfl ?_
  refine op0 (sp_buildSlice (qs := [.agg [.val (.int .i64 (at_4 + i10)), .val (.int .i64 i24)]]) (need := []) (els := List.map en_api_StrikeHeard ([((at_4 + i10), i24)] : List (Int × Int))) 7 rfl sl37 (by decide) (by decide) rfl rfl rfl (.v (.v (.nil))) (map_len fun _ => rfl) rfl rfl rfl) rfl trivial rfl rfl ?_
  obtain ⟨h17, h⟩ := chk_inv h
  refine appM 4 0 (N := l17.length) (N2 := ([((at_4 + i10), i24)] : List (Int × Int)).length) 8 rfl rfl trivial rfl rfl rfl rfl rfl isOwn rfl sl37 (len_map _ _) (len_map _ _) h17 (map_app _ _ _) rfl ?_
  refine op0 (sp_move rfl rfl) rfl trivial rfl rfl ?_
  refine op0 (sp_move rfl rfl) rfl trivial rfl rfl ?_
  obtain ⟨h18, h⟩ := chk_inv h
  refine op0 (sp_add rfl rfl rfl h18) rfl trivial rfl rfl ?_
  obtain ⟨h19, h⟩ := chk_inv h
  refine op0 (sp_add rfl rfl rfl h19) rfl trivial rfl rfl ?_
  refine op0 (sp_assign rfl rfl) rfl trivial rfl rfl ?_
  refine op0 (sp_assign rfl rfl) rfl trivial rfl rfl ?_
  refine TL.nil ?_
  refine TC.seq ?_
  refine subJ [] (ok_law05_StrikeRacks_j4 (r6 := r6) hk_law05_StrikeRacks_l0 h) ?_ ?_ ?_
  · exact ⟨rfl, rfl, rfl, rfl, rfl, rfl, rfl, rfl, rfl, rfl, trivial⟩
  · exact ⟨mem_at 2 rfl, mem_at 3 rfl, mem_at 4 rfl, mem_at 0 rfl, mem_at 5 rfl, mem_at 6 rfl, trivial⟩
  · rfl
def ev_law05_StrikeRacks_j2 (n : Nat) (i8 : Int) (at_4 : Int) (i10 : Int) (l17 : List (Int × Int)) (l11 : List Int) (b12 : Bool) (i13 : Int) (i14 : Int) (b15 : Bool) (b16 : Bool) (l18 : List (Int × Bool)) (l19 : List (Int × Int)) (k_law05_StrikeRacks_l0 : Int → Int → Int → (List Int) → Bool → Int → Int → Bool → Bool → (List (Int × Int)) → (List (Int × Bool)) → (List (Int × Int)) → Option Bool) : Option Bool :=
  chk (in64 (i8 + 1)) <| ev_law05_StrikeRacks_j3 n at_4 i10 l17 l11 b12 i13 i14 b15 b16 l18 l19 k_law05_StrikeRacks_l0 (i8 + 1) 0
set_option maxRecDepth 100000 in
set_option maxHeartbeats 2000000 in
theorem ok_law05_StrikeRacks_j2 {n : Nat} {w0 : World} {R0 : Nat → Prop} {env0 : Env} {r : Bool} {r6 : Int} {at_4 : Int} {i8 : Int} {i10 : Int} {l17 : List (Int × Int)} {l11 : List Int} {b12 : Bool} {i13 : Int} {i14 : Int} {b15 : Bool} {b16 : Bool} {l18 : List (Int × Bool)} {l19 : List (Int × Int)} {k_law05_StrikeRacks_l0 : Int → Int → Int → (List Int) → Bool → Int → Int → Bool → Bool → (List (Int × Int)) → (List (Int × Bool)) → (List (Int × Int)) → Option Bool} (hk_law05_StrikeRacks_l0 : ∀ (i8 : Int) (i9 : Int) (i10 : Int) (l11 : List Int) (b12 : Bool) (i13 : Int) (i14 : Int) (b15 : Bool) (b16 : Bool) (l17 : List (Int × Int)) (l18 : List (Int × Bool)) (l19 : List (Int × Int)), k_law05_StrikeRacks_l0 i8 i9 i10 l11 b12 i13 i14 b15 b16 l17 l18 l19 = some r → TC Try.prog ⟨w0, fun _ => False, R0⟩ 229 (bodyPost Try.prog Try.f11 (Post ⟨w0, fun _ => False, R0⟩ env0 (.val (.bool r)) [])) [.code (sub (bodyOf Try.f11) [1, 1, 1, 1, 1, 0, 1, 0, 0, 0, 0]), .code (sub (bodyOf Try.f11) [1, 1, 1, 1, 1, 0, 1, 0, 0, 0, 1]), .code (sub (bodyOf Try.f11) [1, 1, 1, 1, 1, 0, 1, 0, 0, 1]), .inLoop (sub (bodyOf Try.f11) [1, 1, 1, 1, 1, 0, 1, 0, 0]), .inBlock 0, .code (sub (bodyOf Try.f11) [1, 1, 1, 1, 1, 1])] ([(2, .ref 0), (3, .ptr 1 0), (7, .val (.int .i64 r6)), (8, .ptr 3 0), (9, .val (.int .i64 at_4)), (10, .ref 4), (11, .val (.int .i64 i8)), (12, .ref 5), (13, .val (.int .i64 i9)), (14, .val (.int .i64 i10))]) ([.ro 0 1 (List.map en_uint8 l11), .blk 1 [.val (.bool b12), .val (.int .u8 i13), .val (.int .u8 i14)] 64, .blk 3 [.val (.bool b15), .val (.bool b16), .ref 2] 24, .row 4 43 2 (List.map en_api_StrikeHeard l17), .row 5 73 2 (List.map en_api_StrikeStep l18), .row 2 81 2 (List.map en_api_Span l19)])) (h : ev_law05_StrikeRacks_j2 n i8 at_4 i10 l17 l11 b12 i13 i14 b15 b16 l18 l19 k_law05_StrikeRacks_l0 = some r) : TC Try.prog ⟨w0, fun _ => False, R0⟩ 229 (bodyPost Try.prog Try.f11 (Post ⟨w0, fun _ => False, R0⟩ env0 (.val (.bool r)) [])) [.code (sub (bodyOf Try.f11) [1, 1, 1, 1, 1, 0, 1, 0, 0, 1, 0, 0, 1, 1, 0, 1, 0, 0, 1, 0]), .code (sub (bodyOf Try.f11) [1, 1, 1, 1, 1, 0, 1, 0, 0, 1, 0, 0, 1, 1, 0, 1, 0, 1]), .code (sub (bodyOf Try.f11) [1, 1, 1, 1, 1, 0, 1, 0, 0, 1, 0, 0, 1, 1, 1]), .inBlock 1, .code (sub (bodyOf Try.f11) [1, 1, 1, 1, 1, 0, 1, 0, 0, 1, 1]), .inLoop (sub (bodyOf Try.f11) [1, 1, 1, 1, 1, 0, 1, 0, 0]), .inBlock 0, .code (sub (bodyOf Try.f11) [1, 1, 1, 1, 1, 1])] ([(2, .ref 0), (3, .ptr 1 0), (7, .val (.int .i64 r6)), (8, .ptr 3 0), (9, .val (.int .i64 at_4)), (10, .ref 4), (11, .val (.int .i64 i8)), (12, .ref 5), (14, .val (.int .i64 i10))]) ([.ro 0 1 (List.map en_uint8 l11), .blk 1 [.val (.bool b12), .val (.int .u8 i13), .val (.int .u8 i14)] 64, .blk 3 [.val (.bool b15), .val (.bool b16), .ref 2] 24, .row 4 43 2 (List.map en_api_StrikeHeard l17), .row 5 73 2 (List.map en_api_StrikeStep l18), .row 2 81 2 (List.map en_api_Span l19)]) := by
  rw [ev_law05_StrikeRacks_j2] at h
  refine TC.region ?_
  refine op0 (sp_move rfl rfl) rfl trivial rfl rfl ?_
  obtain ⟨h15, h⟩ := chk_inv h
  refine op0 (sp_add rfl rfl rfl h15) rfl trivial rfl rfl ?_
  refine op0 (sp_assign rfl rfl) rfl trivial rfl rfl ?_
  refine op0 (sp_assign rfl rfl) rfl trivial rfl rfl ?_
  refine TL.nil ?_
  refine subJ [] (ok_law05_StrikeRacks_j3 (r6 := r6) hk_law05_StrikeRacks_l0 h) ?_ ?_ ?_
  · exact ⟨rfl, rfl, rfl, rfl, rfl, rfl, rfl, rfl, rfl, rfl, trivial⟩
  · exact ⟨mem_at 0 rfl, mem_at 1 rfl, mem_at 2 rfl, mem_at 3 rfl, mem_at 4 rfl, mem_at 5 rfl, trivial⟩
  · rfl
def ev_law05_StrikeRacks_j5 (n : Nat) (at_4 : Int) (i10 : Int) (l17 : List (Int × Int)) (l11 : List Int) (b12 : Bool) (i13 : Int) (i14 : Int) (b15 : Bool) (b16 : Bool) (l18 : List (Int × Bool)) (l19 : List (Int × Int)) (i8 : Int) (r21 : Int × Int) (k_law05_StrikeRacks_l0 : Int → Int → Int → (List Int) → Bool → Int → Int → Bool → Bool → (List (Int × Int)) → (List (Int × Bool)) → (List (Int × Int)) → Option Bool) : Option Bool :=
  ev_law05_StrikeRacks_j3 n at_4 i10 l17 l11 b12 i13 i14 b15 b16 l18 l19 k_law05_StrikeRacks_l0 i8 r21.1
set_option maxRecDepth 100000 in
set_option maxHeartbeats 2000000 in
theorem ok_law05_StrikeRacks_j5 {n : Nat} {w0 : World} {R0 : Nat → Prop} {env0 : Env} {r : Bool} {r6 : Int} {at_4 : Int} {r21 : Int × Int} {i10 : Int} {l17 : List (Int × Int)} {l11 : List Int} {b12 : Bool} {i13 : Int} {i14 : Int} {b15 : Bool} {b16 : Bool} {l18 : List (Int × Bool)} {l19 : List (Int × Int)} {i8 : Int} {k_law05_StrikeRacks_l0 : Int → Int → Int → (List Int) → Bool → Int → Int → Bool → Bool → (List (Int × Int)) → (List (Int × Bool)) → (List (Int × Int)) → Option Bool} (hk_law05_StrikeRacks_l0 : ∀ (i8 : Int) (i9 : Int) (i10 : Int) (l11 : List Int) (b12 : Bool) (i13 : Int) (i14 : Int) (b15 : Bool) (b16 : Bool) (l17 : List (Int × Int)) (l18 : List (Int × Bool)) (l19 : List (Int × Int)), k_law05_StrikeRacks_l0 i8 i9 i10 l11 b12 i13 i14 b15 b16 l17 l18 l19 = some r → TC Try.prog ⟨w0, fun _ => False, R0⟩ 229 (bodyPost Try.prog Try.f11 (Post ⟨w0, fun _ => False, R0⟩ env0 (.val (.bool r)) [])) [.code (sub (bodyOf Try.f11) [1, 1, 1, 1, 1, 0, 1, 0, 0, 0, 0]), .code (sub (bodyOf Try.f11) [1, 1, 1, 1, 1, 0, 1, 0, 0, 0, 1]), .code (sub (bodyOf Try.f11) [1, 1, 1, 1, 1, 0, 1, 0, 0, 1]), .inLoop (sub (bodyOf Try.f11) [1, 1, 1, 1, 1, 0, 1, 0, 0]), .inBlock 0, .code (sub (bodyOf Try.f11) [1, 1, 1, 1, 1, 1])] ([(2, .ref 0), (3, .ptr 1 0), (7, .val (.int .i64 r6)), (8, .ptr 3 0), (9, .val (.int .i64 at_4)), (10, .ref 4), (11, .val (.int .i64 i8)), (12, .ref 5), (13, .val (.int .i64 i9)), (14, .val (.int .i64 i10))]) ([.ro 0 1 (List.map en_uint8 l11), .blk 1 [.val (.bool b12), .val (.int .u8 i13), .val (.int .u8 i14)] 64, .blk 3 [.val (.bool b15), .val (.bool b16), .ref 2] 24, .row 4 43 2 (List.map en_api_StrikeHeard l17), .row 5 73 2 (List.map en_api_StrikeStep l18), .row 2 81 2 (List.map en_api_Span l19)])) (h : ev_law05_StrikeRacks_j5 n at_4 i10 l17 l11 b12 i13 i14 b15 b16 l18 l19 i8 r21 k_law05_StrikeRacks_l0 = some r) : TC Try.prog ⟨w0, fun _ => False, R0⟩ 229 (bodyPost Try.prog Try.f11 (Post ⟨w0, fun _ => False, R0⟩ env0 (.val (.bool r)) [])) [.code (sub (bodyOf Try.f11) [1, 1, 1, 1, 1, 0, 1, 0, 0, 1, 0, 0, 1, 1, 0, 1, 0, 0, 1, 1]), .code (sub (bodyOf Try.f11) [1, 1, 1, 1, 1, 0, 1, 0, 0, 1, 0, 0, 1, 1, 0, 1, 0, 1]), .code (sub (bodyOf Try.f11) [1, 1, 1, 1, 1, 0, 1, 0, 0, 1, 0, 0, 1, 1, 1]), .inBlock 1, .code (sub (bodyOf Try.f11) [1, 1, 1, 1, 1, 0, 1, 0, 0, 1, 1]), .inLoop (sub (bodyOf Try.f11) [1, 1, 1, 1, 1, 0, 1, 0, 0]), .inBlock 0, .code (sub (bodyOf Try.f11) [1, 1, 1, 1, 1, 1])] ([(2, .ref 0), (3, .ptr 1 0), (7, .val (.int .i64 r6)), (8, .ptr 3 0), (9, .val (.int .i64 at_4)), (10, .ref 4), (11, .val (.int .i64 i8)), (12, .ref 5), (14, .val (.int .i64 i10)), (15, .val (.int .i64 r21.1))]) ([.ro 0 1 (List.map en_uint8 l11), .blk 1 [.val (.bool b12), .val (.int .u8 i13), .val (.int .u8 i14)] 64, .blk 3 [.val (.bool b15), .val (.bool b16), .ref 2] 24, .row 4 43 2 (List.map en_api_StrikeHeard l17), .row 5 73 2 (List.map en_api_StrikeStep l18), .row 2 81 2 (List.map en_api_Span l19)]) := by
  rw [ev_law05_StrikeRacks_j5] at h
  refine TC.skip ?_
  refine subJ [] (ok_law05_StrikeRacks_j3 (r6 := r6) hk_law05_StrikeRacks_l0 h) ?_ ?_ ?_
  · exact ⟨rfl, rfl, rfl, rfl, rfl, rfl, rfl, rfl, rfl, rfl, trivial⟩
  · exact ⟨mem_at 0 rfl, mem_at 1 rfl, mem_at 2 rfl, mem_at 3 rfl, mem_at 4 rfl, mem_at 5 rfl, trivial⟩
  · rfl
def ev_law05_StrikeRacks_j1 (n : Nat) (b15 : Bool) (b16 : Bool) (l19 : List (Int × Int)) (at_4 : Int) (i10 : Int) (l11 : List Int) (i8 : Int) (l17 : List (Int × Int)) (b12 : Bool) (i13 : Int) (i14 : Int) (l18 : List (Int × Bool)) (i9 : Int) (k_law05_StrikeRacks_l0 : Int → Int → Int → (List Int) → Bool → Int → Int → Bool → Bool → (List (Int × Int)) → (List (Int × Bool)) → (List (Int × Int)) → Option Bool) : Option Bool :=
  (ev_law05_copied n b15 b16 l19).bind fun r20 => chk (in64 (at_4 + i10)) <| (ev_strike_Blows n r20.1 r20.2.1 r20.2.2 (at_4 + i10)).bind fun r21 => cond (r21.2 != 0) (some false) (idx l11 i10 fun x22 => cond (decide ((0 : Int) < (Int.tmod x22 3))) (cond ((Int.tmod x22 5) == 1) (cond (decide ((0 : Int) < r21.1)) (ev_law05_StrikeRacks_j2 n i8 at_4 i10 l17 l11 b12 i13 i14 b15 b16 l18 l19 k_law05_StrikeRacks_l0) (ev_law05_StrikeRacks_j5 n at_4 i10 l17 l11 b12 i13 i14 b15 b16 l18 l19 i8 r21 k_law05_StrikeRacks_l0)) (ev_law05_StrikeRacks_j5 n at_4 i10 l17 l11 b12 i13 i14 b15 b16 l18 l19 i8 r21 k_law05_StrikeRacks_l0)) (ev_law05_StrikeRacks_j4 n i10 at_4 k_law05_StrikeRacks_l0 i8 i9 l11 b12 i13 i14 b15 b16 l17 l18 l19))
set_option maxRecDepth 100000 in
set_option maxHeartbeats 2000000 in
theorem ok_law05_StrikeRacks_j1 {n : Nat} {w0 : World} {R0 : Nat → Prop} {env0 : Env} {r : Bool} {r6 : Int} {at_4 : Int} {b15 : Bool} {b16 : Bool} {l19 : List (Int × Int)} {i10 : Int} {l11 : List Int} {i8 : Int} {l17 : List (Int × Int)} {b12 : Bool} {i13 : Int} {i14 : Int} {l18 : List (Int × Bool)} {i9 : Int} {k_law05_StrikeRacks_l0 : Int → Int → Int → (List Int) → Bool → Int → Int → Bool → Bool → (List (Int × Int)) → (List (Int × Bool)) → (List (Int × Int)) → Option Bool} (hk_law05_StrikeRacks_l0 : ∀ (i8 : Int) (i9 : Int) (i10 : Int) (l11 : List Int) (b12 : Bool) (i13 : Int) (i14 : Int) (b15 : Bool) (b16 : Bool) (l17 : List (Int × Int)) (l18 : List (Int × Bool)) (l19 : List (Int × Int)), k_law05_StrikeRacks_l0 i8 i9 i10 l11 b12 i13 i14 b15 b16 l17 l18 l19 = some r → TC Try.prog ⟨w0, fun _ => False, R0⟩ 229 (bodyPost Try.prog Try.f11 (Post ⟨w0, fun _ => False, R0⟩ env0 (.val (.bool r)) [])) [.code (sub (bodyOf Try.f11) [1, 1, 1, 1, 1, 0, 1, 0, 0, 0, 0]), .code (sub (bodyOf Try.f11) [1, 1, 1, 1, 1, 0, 1, 0, 0, 0, 1]), .code (sub (bodyOf Try.f11) [1, 1, 1, 1, 1, 0, 1, 0, 0, 1]), .inLoop (sub (bodyOf Try.f11) [1, 1, 1, 1, 1, 0, 1, 0, 0]), .inBlock 0, .code (sub (bodyOf Try.f11) [1, 1, 1, 1, 1, 1])] ([(2, .ref 0), (3, .ptr 1 0), (7, .val (.int .i64 r6)), (8, .ptr 3 0), (9, .val (.int .i64 at_4)), (10, .ref 4), (11, .val (.int .i64 i8)), (12, .ref 5), (13, .val (.int .i64 i9)), (14, .val (.int .i64 i10))]) ([.ro 0 1 (List.map en_uint8 l11), .blk 1 [.val (.bool b12), .val (.int .u8 i13), .val (.int .u8 i14)] 64, .blk 3 [.val (.bool b15), .val (.bool b16), .ref 2] 24, .row 4 43 2 (List.map en_api_StrikeHeard l17), .row 5 73 2 (List.map en_api_StrikeStep l18), .row 2 81 2 (List.map en_api_Span l19)])) (h : ev_law05_StrikeRacks_j1 n b15 b16 l19 at_4 i10 l11 i8 l17 b12 i13 i14 l18 i9 k_law05_StrikeRacks_l0 = some r) : TC Try.prog ⟨w0, fun _ => False, R0⟩ 229 (bodyPost Try.prog Try.f11 (Post ⟨w0, fun _ => False, R0⟩ env0 (.val (.bool r)) [])) [.code (sub (bodyOf Try.f11) [1, 1, 1, 1, 1, 0, 1, 0, 0, 0, 1, 0]), .code (sub (bodyOf Try.f11) [1, 1, 1, 1, 1, 0, 1, 0, 0, 1]), .inLoop (sub (bodyOf Try.f11) [1, 1, 1, 1, 1, 0, 1, 0, 0]), .inBlock 0, .code (sub (bodyOf Try.f11) [1, 1, 1, 1, 1, 1])] ([(2, .ref 0), (3, .ptr 1 0), (7, .val (.int .i64 r6)), (8, .ptr 3 0), (9, .val (.int .i64 at_4)), (10, .ref 4), (11, .val (.int .i64 i8)), (12, .ref 5), (13, .val (.int .i64 i9)), (14, .val (.int .i64 i10))]) ([.ro 0 1 (List.map en_uint8 l11), .blk 1 [.val (.bool b12), .val (.int .u8 i13), .val (.int .u8 i14)] 64, .blk 3 [.val (.bool b15), .val (.bool b16), .ref 2] 24, .row 4 43 2 (List.map en_api_StrikeHeard l17), .row 5 73 2 (List.map en_api_StrikeStep l18), .row 2 81 2 (List.map en_api_Span l19)]) := by
  rw [ev_law05_StrikeRacks_j1] at h
  refine TC.skip ?_
  refine TC.seq ?_
  refine TC.block ?_
  refine TC.seq ?_
  refine TC.region ?_
  refine op1 2 rfl (sp_loadBA rfl isBlk rfl vt24 rfl rfl) rfl trivial rfl rfl ?_
  obtain ⟨r20, h6, h⟩ := bind_inv h
  refine op1 5 rfl (sp_call (avs := [.agg [.val (.bool b15), .val (.bool b16), .ref 2]]) (need := [.row 2 81 2 (List.map en_api_Span l19)]) (v := .agg [.val (.bool r20.1), .val (.bool r20.2.1), .ref 6]) (news := [.row 6 81 2 (List.map en_api_Span r20.2.2)]) rfl rfl rfl Try.call13 (atJ [(0, 2)] [(0, 6)] (fc_law05_copied h6) rfl rfl) (.inr (List.forall_mem_cons.2 ⟨indep_map en_api_Span_flat, (by simp)⟩))) rfl trivial rfl rfl ?_
  refine op0 (sp_move rfl rfl) rfl trivial rfl rfl ?_
  refine op0 (sp_move rfl rfl) rfl trivial rfl rfl ?_
  obtain ⟨h7, h⟩ := chk_inv h
  refine op0 (sp_add rfl rfl rfl h7) rfl trivial rfl rfl ?_
  obtain ⟨r21, h8, h⟩ := bind_inv h
  refine op1 0 rfl (sp_call (avs := [.agg [.val (.bool r20.1), .val (.bool r20.2.1), .ref 6], .val (.int .i64 (at_4 + i10))]) (need := [.row 6 81 2 (List.map en_api_Span r20.2.2)]) (v := .tup [.val (.int .i64 r21.1), .val (.int .i64 r21.2)]) (news := []) rfl rfl rfl Try.call15 (atJ [(0, 6)] [] (fc_strike_Blows h8) rfl rfl) (.inr (fun x hx => nomatch hx))) rfl trivial rfl rfl ?_
  refine op0 (sp_move rfl rfl) rfl trivial rfl rfl ?_
  refine op0 (sp_extract rfl rfl rfl) rfl trivial rfl rfl ?_
  refine op0 (sp_extract rfl rfl rfl) rfl trivial rfl rfl ?_
  refine op0 (sp_assign rfl rfl) rfl trivial rfl rfl ?_
  refine op0 (sp_assign rfl rfl) rfl trivial rfl rfl ?_
  refine TL.nil ?_
  refine TC.seq ?_
  refine TC.seq ?_
  refine TC.region ?_
  refine op0 (sp_move rfl rfl) rfl trivial rfl rfl ?_
  refine op0 (sp_neq rfl rfl rfl) rfl trivial rfl rfl ?_
  refine TL.nil ?_
  refine TC.cond (b := (r21.2 != 0)) rfl (fun h9 => ?_) (fun h9 => ?_)
  · have h := cond_t h h9
    refine TC.seq ?_
    refine TC.region ?_
    refine op0 (sp_assign rfl rfl) rfl trivial rfl rfl ?_
    refine TL.nil ?_
    cases h
    exact retJ [] (.tmp rfl .nil) rfl trivial rfl rfl
  · have h := cond_f h h9
    refine TC.skip ?_
    refine TC.seq ?_
    refine TC.seq ?_
    refine TC.region ?_
    refine op0 (sp_move rfl rfl) rfl trivial rfl rfl ?_
    refine op0 (sp_move rfl rfl) rfl trivial rfl rfl ?_
    obtain ⟨x22, h10, h11, h⟩ := idx_inv h
    refine op1 1 rfl (sp_indexS rfl rfl rfl isRo sl65 h10 (map_get _ h11)) rfl trivial rfl rfl ?_
    refine op1 1 rfl (sp_loadR (i := (i10 : Int).toNat) (j := 0) rfl rfl isRo vt5 rfl (map_get _ h11) rfl (.v (.nil)) (nodup_of_B rfl)) rfl trivial rfl rfl ?_
    refine op0 (sp_rem rfl rfl rfl (by decide)) rfl trivial rfl rfl ?_
    refine op0 (sp_gtr rfl rfl rfl) rfl trivial rfl rfl ?_
    refine TL.nil ?_
    refine TC.cond (b := (decide ((0 : Int) < (Int.tmod x22 3)))) rfl (fun h12 => ?_) (fun h12 => ?_)
    · have h := cond_t h h12
      refine TC.seq ?_
      refine TC.seq ?_
      refine TC.region ?_
      refine op0 (sp_move rfl rfl) rfl trivial rfl rfl ?_
      refine op0 (sp_move rfl rfl) rfl trivial rfl rfl ?_
      refine op1 1 rfl (sp_indexS rfl rfl rfl isRo sl65 h10 (map_get _ h11)) rfl trivial rfl rfl ?_
      refine op1 1 rfl (sp_loadR (i := (i10 : Int).toNat) (j := 0) rfl rfl isRo vt5 rfl (map_get _ h11) rfl (.v (.nil)) (nodup_of_B rfl)) rfl trivial rfl rfl ?_
      refine op0 (sp_rem rfl rfl rfl (by decide)) rfl trivial rfl rfl ?_
      refine op0 (sp_eql rfl rfl rfl) rfl trivial rfl rfl ?_
      refine op0 (sp_move rfl rfl) rfl trivial rfl rfl ?_
      rcases cond_cases h with ⟨h13, h⟩ | ⟨h13, h⟩
      · refine (boolLit 71 rfl h13).2 ?_
        refine op0 (sp_move rfl rfl) rfl ⟨_, rfl, rfl⟩ rfl rfl ?_
        refine op0 (sp_gtr rfl rfl rfl) rfl ⟨_, rfl, rfl⟩ rfl rfl ?_
        refine op0 (sp_pickT rfl rfl rfl) rfl trivial rfl rfl ?_
        refine TL.nil ?_
        refine TC.cond (b := (decide ((0 : Int) < r21.1))) rfl (fun h14 => ?_) (fun h14 => ?_)
        · have h := cond_t h h14
          refine subJ [] (ok_law05_StrikeRacks_j2 (r6 := r6) hk_law05_StrikeRacks_l0 h) ?_ ?_ ?_
          · exact ⟨rfl, rfl, rfl, rfl, rfl, rfl, rfl, rfl, rfl, trivial⟩
          · exact ⟨mem_at 1 rfl, mem_at 2 rfl, mem_at 3 rfl, mem_at 4 rfl, mem_at 5 rfl, mem_at 6 rfl, trivial⟩
          · rfl
        · have h := cond_f h h14
          refine subJ [] (ok_law05_StrikeRacks_j5 (r6 := r6) hk_law05_StrikeRacks_l0 h) ?_ ?_ ?_
          · exact ⟨rfl, rfl, rfl, rfl, rfl, rfl, rfl, rfl, rfl, rfl, trivial⟩
          · exact ⟨mem_at 1 rfl, mem_at 2 rfl, mem_at 3 rfl, mem_at 4 rfl, mem_at 5 rfl, mem_at 6 rfl, trivial⟩
          · rfl
      · refine (boolLit 71 rfl h13).2 ?_
        refine opSkip rfl ⟨_, rfl, .inl rfl⟩ rfl ?_
        refine opSkip rfl ⟨_, rfl, .inl rfl⟩ rfl ?_
        refine op0 (sp_pickF rfl rfl rfl) rfl trivial rfl rfl ?_
        refine TL.nil ?_
        refine TC.condF rfl ?_
        refine subJ [] (ok_law05_StrikeRacks_j5 (r6 := r6) hk_law05_StrikeRacks_l0 h) ?_ ?_ ?_
        · exact ⟨rfl, rfl, rfl, rfl, rfl, rfl, rfl, rfl, rfl, rfl, trivial⟩
        · exact ⟨mem_at 1 rfl, mem_at 2 rfl, mem_at 3 rfl, mem_at 4 rfl, mem_at 5 rfl, mem_at 6 rfl, trivial⟩
        · rfl
    · have h := cond_f h h12
      refine TC.skip ?_
      refine TC.seq ?_
      refine subJ [(8, 4)] (ok_law05_StrikeRacks_j4 (r6 := r6) hk_law05_StrikeRacks_l0 h) ?_ ?_ ?_
      · exact ⟨rfl, rfl, rfl, rfl, rfl, rfl, rfl, rfl, rfl, rfl, trivial⟩
      · exact ⟨mem_at 1 rfl, mem_at 2 rfl, mem_at 3 rfl, mem_at 4 rfl, mem_at 5 rfl, mem_at 6 rfl, trivial⟩
      · rfl
def ev_law05_StrikeRacks_l9 (n : Nat) (r44 : (List (Int × Bool)) × Int × Int) (b15 : Bool) (b16 : Bool) (l19 : List (Int × Int)) (at_4 : Int) (r6 : Int) : Nat → Int → Option Bool
  | 0, _ => none
  | m + 1, i45 => cond (decide (i45 < (r44.1.length : Int))) (idx r44.1 i45 fun x46 => cond (!((x46.1 == 0) && (x46.2 == false))) (some false) (chk (in64 (i45 + 1)) <| ev_law05_StrikeRacks_l9 n r44 b15 b16 l19 at_4 r6 m (i45 + 1))) ((ev_law05_copied n b15 b16 l19).bind fun r47 => chk (in64 (at_4 + 1)) <| chk (r6 != 0) <| (ev_strike_Play n r47.1 r47.2.1 r47.2.2 at_4 (Int.tmod (at_4 + 1) r6) ([])).bind fun r48 => cond (r48.2.2 == 2) ((ev_law05_known n).bind fun r49 => some r49) (some false))
set_option maxRecDepth 100000 in
set_option maxHeartbeats 2000000 in
theorem ok_law05_StrikeRacks_l9 {n : Nat} {w0 : World} {R0 : Nat → Prop} {env0 : Env} {r : Bool} {r6 : Int} {at_4 : Int} {b15 : Bool} {b16 : Bool} {r44 : (List (Int × Bool)) × Int × Int} {l19 : List (Int × Int)} : ∀ (m : Nat) (i45 : Int), ev_law05_StrikeRacks_l9 n r44 b15 b16 l19 at_4 r6 m i45 = some r → TC Try.prog ⟨w0, fun _ => False, R0⟩ 229 (bodyPost Try.prog Try.f11 (Post ⟨w0, fun _ => False, R0⟩ env0 (.val (.bool r)) [])) [.code (sub (bodyOf Try.f11) [1, 1, 1, 1, 1, 1, 1, 1, 1, 1, 0, 1, 0, 0, 0, 0]), .code (sub (bodyOf Try.f11) [1, 1, 1, 1, 1, 1, 1, 1, 1, 1, 0, 1, 0, 0, 0, 1]), .code (sub (bodyOf Try.f11) [1, 1, 1, 1, 1, 1, 1, 1, 1, 1, 0, 1, 0, 0, 1]), .inLoop (sub (bodyOf Try.f11) [1, 1, 1, 1, 1, 1, 1, 1, 1, 1, 0, 1, 0, 0]), .inBlock 2, .code (sub (bodyOf Try.f11) [1, 1, 1, 1, 1, 1, 1, 1, 1, 1, 1])] ([(7, .val (.int .i64 r6)), (8, .ptr 3 0), (9, .val (.int .i64 at_4)), (24, .ref 18), (27, .val (.int .i64 i45))]) ([.blk 3 [.val (.bool b15), .val (.bool b16), .ref 2] 24, .row 18 73 2 (List.map en_api_StrikeStep r44.1), .row 2 81 2 (List.map en_api_Span l19)]) := by
  intro m
  induction m with
  | zero => intro i45 h; exact none_no h
  | succ m ih =>
    intro i45 h
    rw [ev_law05_StrikeRacks_l9] at h
    refine TC.region ?_
    refine op0 (sp_move rfl rfl) rfl trivial rfl rfl ?_
    refine op0 (sp_move rfl rfl) rfl trivial rfl rfl ?_
    refine op1 1 rfl (sp_lenM (N := r44.1.length) (len_map _ _) rfl rfl isOwn Try.underlying50) rfl trivial rfl rfl ?_
    refine op0 (sp_lss rfl rfl rfl) rfl trivial rfl rfl ?_
    refine TL.nil ?_
    refine TC.cond (b := (decide (i45 < (r44.1.length : Int)))) rfl (fun h55 => ?_) (fun h55 => ?_)
    · have h := cond_t h h55
      refine TC.skip ?_
      refine TC.seq ?_
      refine TC.block ?_
      refine TC.seq ?_
      refine TC.region ?_
      refine op0 (sp_move rfl rfl) rfl trivial rfl rfl ?_
      refine op0 (sp_move rfl rfl) rfl trivial rfl rfl ?_
      obtain ⟨x46, h56, h57, h⟩ := idx_inv h
      refine op1 1 rfl (sp_indexS rfl rfl rfl isOwn sl50 h56 (map_get _ h57)) rfl trivial rfl rfl ?_
      refine op1 1 rfl (sp_loadRA (i := (i45 : Int).toNat) (j := 0) (as_ := [.val (.int .i64 x46.1), .val (.bool x46.2)]) (ns := []) rfl rfl isOwn vt73 rfl (map_get _ h57) rfl rfl (by decide) (.v (.v (.nil))) (nodup_of_B rfl)) rfl trivial rfl rfl ?_
      refine op0 (sp_build (qs := []) rfl bt73 rfl rfl rfl rfl) rfl trivial rfl rfl ?_
      refine op0 (sp_neqS rfl rfl rfl rfl rfl (eq73 _ _ _ _)) rfl trivial rfl rfl ?_
      refine TL.nil ?_
      refine TC.cond (b := (!((x46.1 == 0) && (x46.2 == false)))) rfl (fun h58 => ?_) (fun h58 => ?_)
      · have h := cond_t h h58
        refine TC.seq ?_
        refine TC.region ?_
        refine op0 (sp_assign rfl rfl) rfl trivial rfl rfl ?_
        refine TL.nil ?_
        cases h
        exact retJ [] (.tmp rfl .nil) rfl trivial rfl rfl
      · have h := cond_f h h58
        refine TC.skip ?_
        refine TC.inBlock ?_
        refine TC.region ?_
        refine op0 (sp_move rfl rfl) rfl trivial rfl rfl ?_
        obtain ⟨h59, h⟩ := chk_inv h
        refine op0 (sp_add rfl rfl rfl h59) rfl trivial rfl rfl ?_
        refine op0 (sp_assign rfl rfl) rfl trivial rfl rfl ?_
        refine TL.nil ?_
        refine TC.inLoop ?_
        refine TC.seq ?_
        refine TC.seq ?_
        refine subJ [] (ih _ h) ?_ ?_ ?_
        · exact ⟨rfl, rfl, rfl, rfl, rfl, trivial⟩
        · exact ⟨mem_at 0 rfl, mem_at 1 rfl, mem_at 2 rfl, trivial⟩
        · rfl
    · have h := cond_f h h55
      refine TC.exit rfl ?_
      refine TC.seq ?_
      obtain ⟨r47, h60, h⟩ := bind_inv h
      obtain ⟨h61, h⟩ := chk_inv h
      obtain ⟨h62, h⟩ := chk_inv h
      obtain ⟨r48, h63, h⟩ := bind_inv h
      refine drawJ 12 [⟨.agg [.val (.bool b15), .val (.bool b16), .ref 2], [], [.blk 3 [.val (.bool b15), .val (.bool b16), .ref 2] 24], []⟩, ⟨.agg [.val (.bool r47.1), .val (.bool r47.2.1), .ref 19], [.row 19 81 2 (List.map en_api_Span r47.2.2)], [.row 2 81 2 (List.map en_api_Span l19)], []⟩, ⟨.val (.int .i64 at_4), [], [], []⟩, ⟨.val (.int .i64 at_4), [], [], []⟩, ⟨.val (.int .i64 (at_4 + 1)), [], [], []⟩, ⟨.val (.int .i64 r6), [], [], []⟩, ⟨.val (.int .i64 (Int.tmod (at_4 + 1) r6)), [], [], []⟩, ⟨.tup [.val (.int .i64 r48.1), .val (.int .i64 r48.2.1), .val (.int .i64 r48.2.2)], [], [.row 19 81 2 (List.map en_api_Span r47.2.2)], []⟩, ⟨.tup [.val (.int .i64 r48.1), .val (.int .i64 r48.2.1), .val (.int .i64 r48.2.2)], [], [], []⟩, ⟨.val (.int .i64 r48.1), [], [], []⟩, ⟨.val (.int .i64 r48.2.1), [], [], []⟩, ⟨.val (.int .i64 r48.2.2), [], [], []⟩] rfl ?_ rfl ?_ rfl ?_ ?_
      · kernel_rfl
      · kernel_rfl
      · exact DAll.op' (sp_loadBA rfl isBlk rfl vt24 rfl rfl) trivial rfl (From.ok (ps := [(none, 0)]) ⟨⟨rfl, rfl⟩, trivial⟩) (DAll.op' (sp_call (avs := [.agg [.val (.bool b15), .val (.bool b16), .ref 2]]) (need := [.row 2 81 2 (List.map en_api_Span l19)]) (v := .agg [.val (.bool r47.1), .val (.bool r47.2.1), .ref 19]) (news := [.row 19 81 2 (List.map en_api_Span r47.2.2)]) rfl rfl rfl Try.call13 (atJ [(0, 2)] [(0, 19)] (fc_law05_copied h60) rfl rfl) (.inr (List.forall_mem_cons.2 ⟨indep_map en_api_Span_flat, (by simp)⟩))) trivial rfl (From.ok (ps := [(none, 2)]) ⟨⟨rfl, rfl⟩, trivial⟩) (DAll.op' (sp_move rfl rfl) trivial rfl (From.ok (ps := []) trivial) (DAll.op' (sp_move rfl rfl) trivial rfl (From.ok (ps := []) trivial) (DAll.op' (sp_add rfl rfl rfl h61) trivial rfl (From.ok (ps := []) trivial) (DAll.op' (sp_move rfl rfl) trivial rfl (From.ok (ps := []) trivial) (DAll.op' (sp_rem rfl rfl rfl h62) trivial rfl (From.ok (ps := []) trivial) (DAll.op' (sp_call (avs := [.agg [.val (.bool r47.1), .val (.bool r47.2.1), .ref 19], .val (.int .i64 at_4), .val (.int .i64 (Int.tmod (at_4 + 1) r6)), .val (.slice none 0 0)]) (need := [.row 19 81 2 (List.map en_api_Span r47.2.2)]) (v := .tup [.val (.int .i64 r48.1), .val (.int .i64 r48.2.1), .val (.int .i64 r48.2.2)]) (news := []) rfl rfl rfl Try.call28 (FC.nil (args := [.agg [.val (.bool r47.1), .val (.bool r47.2.1), .ref 19], .val (.int .i64 at_4), .val (.int .i64 (Int.tmod (at_4 + 1) r6)), .ref 20]) 20 2 (FC.needJ (need := [.ro 20 2 (List.map en_api_StrikeStep ([])), .ro 19 2 (List.map en_api_Span r47.2.2)]) (need' := [.ro 19 2 (List.map en_api_Span r47.2.2), .ro 20 2 (List.map en_api_StrikeStep ([]))]) [1, 0] ⟨rfl, rfl, trivial⟩ (atJ [(0, 19), (1, 20)] [] (fc_strike_Play h63) rfl rfl)) rfl rfl rfl) (.inr (fun x hx => nomatch hx))) trivial rfl (From.ok (ps := [(some 1, 0)]) ⟨⟨_, rfl, rfl, rfl, rfl⟩, trivial⟩) (DAll.op' (sp_move rfl rfl) trivial rfl (From.ok (ps := []) trivial) (DAll.op' (sp_extract rfl rfl rfl) trivial rfl (From.ok (ps := []) trivial) (DAll.op' (sp_extract rfl rfl rfl) trivial rfl (From.ok (ps := []) trivial) (DAll.op' (sp_extract rfl rfl rfl) trivial rfl (From.ok (ps := []) trivial) (.nil))))))))))))
      refine op0 (sp_assign rfl rfl) rfl trivial rfl rfl ?_
      refine TL.nil ?_
      refine TC.seq ?_
      refine TC.region ?_
      refine op0 (sp_move rfl rfl) rfl trivial rfl rfl ?_
      refine op0 (sp_eql rfl rfl rfl) rfl trivial rfl rfl ?_
      refine op0 (sp_move rfl rfl) rfl trivial rfl rfl ?_
      rcases cond_cases h with ⟨h64, h⟩ | ⟨h64, h⟩
      · refine (boolLit 226 rfl h64).2 ?_
        obtain ⟨r49, h65, h⟩ := bind_inv h
        refine op0 (sp_call (avs := []) (need := []) (v := .val (.bool r49)) (news := []) rfl rfl rfl Try.call12 (atJ [] [] (fc_law05_known h65) rfl rfl) (.inl (roAll rfl))) rfl ⟨_, rfl, rfl⟩ rfl rfl ?_
        refine op0 (sp_pickT rfl rfl rfl) rfl trivial rfl rfl ?_
        refine op0 (sp_assign rfl rfl) rfl trivial rfl rfl ?_
        refine TL.nil ?_
        cases h
        exact retJ [] (.tmp rfl .nil) rfl trivial rfl rfl
      · refine (boolLit 226 rfl h64).2 ?_
        refine opSkip rfl ⟨_, rfl, .inl rfl⟩ rfl ?_
        refine op0 (sp_pickF rfl rfl rfl) rfl trivial rfl rfl ?_
        refine op0 (sp_assign rfl rfl) rfl trivial rfl rfl ?_
        refine TL.nil ?_
        cases h
        exact retJ [] (.tmp rfl .nil) rfl trivial rfl rfl
def ev_law05_StrikeRacks_j8 (n : Nat) (r44 : (List (Int × Bool)) × Int × Int) (b15 : Bool) (b16 : Bool) (l19 : List (Int × Int)) (at_4 : Int) (r6 : Int) : Option Bool :=
  ev_law05_StrikeRacks_l9 n r44 b15 b16 l19 at_4 r6 n 0
set_option maxRecDepth 100000 in
set_option maxHeartbeats 2000000 in
theorem ok_law05_StrikeRacks_j8 {n : Nat} {w0 : World} {R0 : Nat → Prop} {env0 : Env} {r : Bool} {r6 : Int} {at_4 : Int} {b15 : Bool} {b16 : Bool} {r44 : (List (Int × Bool)) × Int × Int} {l19 : List (Int × Int)} (h : ev_law05_StrikeRacks_j8 n r44 b15 b16 l19 at_4 r6 = some r) : TC Try.prog ⟨w0, fun _ => False, R0⟩ 229 (bodyPost Try.prog Try.f11 (Post ⟨w0, fun _ => False, R0⟩ env0 (.val (.bool r)) [])) [.code (sub (bodyOf Try.f11) [1, 1, 1, 1, 1, 1, 1, 1, 1, 0, 1, 1]), .code (sub (bodyOf Try.f11) [1, 1, 1, 1, 1, 1, 1, 1, 1, 1])] ([(7, .val (.int .i64 r6)), (8, .ptr 3 0), (9, .val (.int .i64 at_4)), (24, .ref 18)]) ([.blk 3 [.val (.bool b15), .val (.bool b16), .ref 2] 24, .row 18 73 2 (List.map en_api_StrikeStep r44.1), .row 2 81 2 (List.map en_api_Span l19)]) := by
  rw [ev_law05_StrikeRacks_j8] at h
  refine TC.skip ?_
  refine TC.seq ?_
  refine TC.seq ?_
  refine TC.region ?_
  refine op0 (sp_assign rfl rfl) rfl trivial rfl rfl ?_
  refine TL.nil ?_
  refine TC.block ?_
  refine TC.loop ?_
  refine TC.seq ?_
  refine TC.seq ?_
  refine subJ [] (ok_law05_StrikeRacks_l9 _ _ h) ?_ ?_ ?_
  · exact ⟨rfl, rfl, rfl, rfl, rfl, trivial⟩
  · exact ⟨mem_at 0 rfl, mem_at 1 rfl, mem_at 2 rfl, trivial⟩
  · rfl
def ev_law05_StrikeRacks_j7 (n : Nat) (b15 : Bool) (b16 : Bool) (l19 : List (Int × Int)) (r6 : Int) (at_4 : Int) (l18 : List (Int × Bool)) : Option Bool :=
  (ev_law05_copied n b15 b16 l19).bind fun r41 => chk (r6 != 0) <| (ev_strike_Play n r41.1 r41.2.1 r41.2.2 at_4 (Int.tmod at_4 r6) l18).bind fun r42 => (ev_law05_copied n b15 b16 l19).bind fun r43 => chk (r6 != 0) <| chk (in64 (at_4 + (l18.length : Int))) <| (ev_strike_Bring n r43.1 r43.2.1 r43.2.2 at_4 (Int.tmod at_4 r6) (at_4 + (l18.length : Int))).bind fun r44 => cond (r42.2.2 != 0) (some false) (cond (r44.2.2 != 0) (some false) (chk (in64 (at_4 + (l18.length : Int))) <| chk (r6 != 0) <| cond (r42.1 != (Int.tmod (at_4 + (l18.length : Int)) r6)) (some false) (cond (r44.2.1 != 0) (some false) (cond ((r44.1.length : Int) != (l18.length : Int)) (some false) (ev_law05_StrikeRacks_j8 n r44 b15 b16 l19 at_4 r6)))))
set_option maxRecDepth 100000 in
set_option maxHeartbeats 2000000 in
theorem ok_law05_StrikeRacks_j7 {n : Nat} {w0 : World} {R0 : Nat → Prop} {env0 : Env} {r : Bool} {r6 : Int} {at_4 : Int} {b15 : Bool} {b16 : Bool} {l18 : List (Int × Bool)} {l19 : List (Int × Int)} (h : ev_law05_StrikeRacks_j7 n b15 b16 l19 r6 at_4 l18 = some r) : TC Try.prog ⟨w0, fun _ => False, R0⟩ 229 (bodyPost Try.prog Try.f11 (Post ⟨w0, fun _ => False, R0⟩ env0 (.val (.bool r)) [])) [.code (sub (bodyOf Try.f11) [1, 1, 1, 1, 1, 1, 1, 0]), .code (sub (bodyOf Try.f11) [1, 1, 1, 1, 1, 1, 1, 1])] ([(7, .val (.int .i64 r6)), (8, .ptr 3 0), (9, .val (.int .i64 at_4)), (12, .ref 5)]) ([.blk 3 [.val (.bool b15), .val (.bool b16), .ref 2] 24, .row 5 73 2 (List.map en_api_StrikeStep l18), .row 2 81 2 (List.map en_api_Span l19)]) := by
  rw [ev_law05_StrikeRacks_j7] at h
  obtain ⟨r41, h41, h⟩ := bind_inv h
  obtain ⟨h42, h⟩ := chk_inv h
  obtain ⟨r42, h43, h⟩ := bind_inv h
  refine drawJ 14 [⟨.agg [.val (.bool b15), .val (.bool b16), .ref 2], [], [.blk 3 [.val (.bool b15), .val (.bool b16), .ref 2] 24], []⟩, ⟨.agg [.val (.bool r41.1), .val (.bool r41.2.1), .ref 16], [.row 16 81 2 (List.map en_api_Span r41.2.2)], [.row 2 81 2 (List.map en_api_Span l19)], []⟩, ⟨.val (.int .i64 at_4), [], [], []⟩, ⟨.val (.int .i64 at_4), [], [], []⟩, ⟨.val (.int .i64 r6), [], [], []⟩, ⟨.val (.int .i64 (Int.tmod at_4 r6)), [], [], []⟩, ⟨.ref 5, [], [], []⟩, ⟨.tup [.val (.int .i64 r42.1), .val (.int .i64 r42.2.1), .val (.int .i64 r42.2.2)], [], [.row 16 81 2 (List.map en_api_Span r41.2.2), .row 5 73 2 (List.map en_api_StrikeStep l18)], []⟩, ⟨.tup [.val (.int .i64 r42.1), .val (.int .i64 r42.2.1), .val (.int .i64 r42.2.2)], [], [], []⟩, ⟨.val (.int .i64 r42.1), [], [], []⟩, ⟨.val (.int .i64 r42.2.1), [], [], []⟩, ⟨.val (.int .i64 r42.2.2), [], [], []⟩, ⟨.val (.int .i64 r42.1), [], [], []⟩, ⟨.val (.int .i64 r42.2.1), [], [], []⟩] rfl ?_ rfl ?_ rfl ?_ ?_
  · kernel_rfl
  · kernel_rfl
  · exact DAll.op' (sp_loadBA rfl isBlk rfl vt24 rfl rfl) trivial rfl (From.ok (ps := [(none, 0)]) ⟨⟨rfl, rfl⟩, trivial⟩) (DAll.op' (sp_call (avs := [.agg [.val (.bool b15), .val (.bool b16), .ref 2]]) (need := [.row 2 81 2 (List.map en_api_Span l19)]) (v := .agg [.val (.bool r41.1), .val (.bool r41.2.1), .ref 16]) (news := [.row 16 81 2 (List.map en_api_Span r41.2.2)]) rfl rfl rfl Try.call13 (atJ [(0, 2)] [(0, 16)] (fc_law05_copied h41) rfl rfl) (.inr (List.forall_mem_cons.2 ⟨indep_map en_api_Span_flat, (by simp)⟩))) trivial rfl (From.ok (ps := [(none, 2)]) ⟨⟨rfl, rfl⟩, trivial⟩) (DAll.op' (sp_move rfl rfl) trivial rfl (From.ok (ps := []) trivial) (DAll.op' (sp_move rfl rfl) trivial rfl (From.ok (ps := []) trivial) (DAll.op' (sp_move rfl rfl) trivial rfl (From.ok (ps := []) trivial) (DAll.op' (sp_rem rfl rfl rfl h42) trivial rfl (From.ok (ps := []) trivial) (DAll.op' (sp_move rfl rfl) trivial rfl (From.ok (ps := []) trivial) (DAll.op' (sp_call (avs := [.agg [.val (.bool r41.1), .val (.bool r41.2.1), .ref 16], .val (.int .i64 at_4), .val (.int .i64 (Int.tmod at_4 r6)), .ref 5]) (need := [.row 16 81 2 (List.map en_api_Span r41.2.2), .row 5 73 2 (List.map en_api_StrikeStep l18)]) (v := .tup [.val (.int .i64 r42.1), .val (.int .i64 r42.2.1), .val (.int .i64 r42.2.2)]) (news := []) rfl rfl rfl Try.call28 (atJ [(0, 16), (1, 5)] [] (fc_strike_Play h43) rfl rfl) (.inr (fun x hx => nomatch hx))) trivial rfl (From.ok (ps := [(some 1, 0), (none, 1)]) ⟨⟨_, rfl, rfl, rfl, rfl⟩, ⟨rfl, rfl⟩, trivial⟩) (DAll.op' (sp_move rfl rfl) trivial rfl (From.ok (ps := []) trivial) (DAll.op' (sp_extract rfl rfl rfl) trivial rfl (From.ok (ps := []) trivial) (DAll.op' (sp_extract rfl rfl rfl) trivial rfl (From.ok (ps := []) trivial) (DAll.op' (sp_extract rfl rfl rfl) trivial rfl (From.ok (ps := []) trivial) (DAll.op' (sp_assign rfl rfl) trivial rfl (From.ok (ps := []) trivial) (DAll.op' (sp_assign rfl rfl) trivial rfl (From.ok (ps := []) trivial) (.nil))))))))))))))
  refine op0 (sp_assign rfl rfl) rfl trivial rfl rfl ?_
  refine TL.nil ?_
  refine TC.seq ?_
  obtain ⟨r43, h44, h⟩ := bind_inv h
  obtain ⟨h45, h⟩ := chk_inv h
  obtain ⟨h46, h⟩ := chk_inv h
  obtain ⟨r44, h47, h⟩ := bind_inv h
  refine drawJ 17 [⟨.agg [.val (.bool b15), .val (.bool b16), .ref 2], [], [.blk 3 [.val (.bool b15), .val (.bool b16), .ref 2] 24], []⟩, ⟨.agg [.val (.bool r43.1), .val (.bool r43.2.1), .ref 17], [.row 17 81 2 (List.map en_api_Span r43.2.2)], [.row 2 81 2 (List.map en_api_Span l19)], []⟩, ⟨.val (.int .i64 at_4), [], [], []⟩, ⟨.val (.int .i64 at_4), [], [], []⟩, ⟨.val (.int .i64 r6), [], [], []⟩, ⟨.val (.int .i64 (Int.tmod at_4 r6)), [], [], []⟩, ⟨.val (.int .i64 at_4), [], [], []⟩, ⟨.ref 5, [], [], []⟩, ⟨.val (.int .i64 (l18.length : Int)), [], [.row 5 73 2 (List.map en_api_StrikeStep l18)], []⟩, ⟨.val (.int .i64 (at_4 + (l18.length : Int))), [], [], []⟩, ⟨.tup [.ref 18, .val (.int .i64 r44.2.1), .val (.int .i64 r44.2.2)], [.row 18 73 2 (List.map en_api_StrikeStep r44.1)], [.row 17 81 2 (List.map en_api_Span r43.2.2)], []⟩, ⟨.tup [.ref 18, .val (.int .i64 r44.2.1), .val (.int .i64 r44.2.2)], [], [], []⟩, ⟨.ref 18, [], [], []⟩, ⟨.val (.int .i64 r44.2.1), [], [], []⟩, ⟨.val (.int .i64 r44.2.2), [], [], []⟩, ⟨.ref 18, [], [], []⟩, ⟨.val (.int .i64 r44.2.1), [], [], []⟩] rfl ?_ rfl ?_ rfl ?_ ?_
  · kernel_rfl
  · kernel_rfl
  · exact DAll.op' (sp_loadBA rfl isBlk rfl vt24 rfl rfl) trivial rfl (From.ok (ps := [(none, 1)]) ⟨⟨rfl, by kernel_rfl⟩, trivial⟩) (DAll.op' (sp_call (avs := [.agg [.val (.bool b15), .val (.bool b16), .ref 2]]) (need := [.row 2 81 2 (List.map en_api_Span l19)]) (v := .agg [.val (.bool r43.1), .val (.bool r43.2.1), .ref 17]) (news := [.row 17 81 2 (List.map en_api_Span r43.2.2)]) rfl rfl rfl Try.call13 (atJ [(0, 2)] [(0, 17)] (fc_law05_copied h44) rfl rfl) (.inr (List.forall_mem_cons.2 ⟨indep_map en_api_Span_flat, (by simp)⟩))) trivial rfl (From.ok (ps := [(none, 3)]) ⟨⟨rfl, by kernel_rfl⟩, trivial⟩) (DAll.op' (sp_move rfl rfl) trivial rfl (From.ok (ps := []) trivial) (DAll.op' (sp_move rfl rfl) trivial rfl (From.ok (ps := []) trivial) (DAll.op' (sp_move rfl rfl) trivial rfl (From.ok (ps := []) trivial) (DAll.op' (sp_rem rfl rfl rfl h45) trivial rfl (From.ok (ps := []) trivial) (DAll.op' (sp_move rfl rfl) trivial rfl (From.ok (ps := []) trivial) (DAll.op' (sp_move rfl rfl) trivial rfl (From.ok (ps := []) trivial) (DAll.op' (sp_lenM (N := l18.length) (len_map _ _) rfl rfl isOwn Try.underlying50) trivial rfl (From.ok (ps := [(none, 2)]) ⟨⟨rfl, by kernel_rfl⟩, trivial⟩) (DAll.op' (sp_add rfl rfl rfl h46) trivial rfl (From.ok (ps := []) trivial) (DAll.op' (sp_call (avs := [.agg [.val (.bool r43.1), .val (.bool r43.2.1), .ref 17], .val (.int .i64 at_4), .val (.int .i64 (Int.tmod at_4 r6)), .val (.int .i64 (at_4 + (l18.length : Int)))]) (need := [.row 17 81 2 (List.map en_api_Span r43.2.2)]) (v := .tup [.ref 18, .val (.int .i64 r44.2.1), .val (.int .i64 r44.2.2)]) (news := [.row 18 73 2 (List.map en_api_StrikeStep r44.1)]) rfl rfl rfl Try.call32 (atJ [(0, 17)] [(0, 18)] (fc_strike_Bring h47) rfl rfl) (.inr (List.forall_mem_cons.2 ⟨indep_map en_api_StrikeStep_flat, (by simp)⟩))) trivial rfl (From.ok (ps := [(some 1, 0)]) ⟨⟨_, rfl, by kernel_rfl, rfl, by kernel_rfl⟩, trivial⟩) (DAll.op' (sp_move rfl rfl) trivial rfl (From.ok (ps := []) trivial) (DAll.op' (sp_extract rfl rfl rfl) trivial rfl (From.ok (ps := []) trivial) (DAll.op' (sp_extract rfl rfl rfl) trivial rfl (From.ok (ps := []) trivial) (DAll.op' (sp_extract rfl rfl rfl) trivial rfl (From.ok (ps := []) trivial) (DAll.op' (sp_assign rfl rfl) trivial rfl (From.ok (ps := []) trivial) (DAll.op' (sp_assign rfl rfl) trivial rfl (From.ok (ps := []) trivial) (.nil)))))))))))))))))
  refine op0 (sp_assign rfl rfl) rfl trivial rfl rfl ?_
  refine TL.nil ?_
  refine TC.seq ?_
  refine TC.seq ?_
  refine TC.region ?_
  refine op0 (sp_move rfl rfl) rfl trivial rfl rfl ?_
  refine op0 (sp_neq rfl rfl rfl) rfl trivial rfl rfl ?_
  refine op0 (sp_move rfl rfl) rfl trivial rfl rfl ?_
  rcases cond_cases h with ⟨h48, h⟩ | ⟨h48, h⟩
  · refine (boolLit 175 rfl h48).2 ?_
    refine opSkip rfl ⟨_, rfl, .inl rfl⟩ rfl ?_
    refine opSkip rfl ⟨_, rfl, .inl rfl⟩ rfl ?_
    refine op0 (sp_pickT rfl rfl rfl) rfl trivial rfl rfl ?_
    refine op0 (sp_move rfl rfl) rfl trivial rfl rfl ?_
    refine opSkip rfl ⟨_, rfl, .inl rfl⟩ rfl ?_
    refine opSkip rfl ⟨_, rfl, .inl rfl⟩ rfl ?_
    refine opSkip rfl ⟨_, rfl, .inl rfl⟩ rfl ?_
    refine opSkip rfl ⟨_, rfl, .inl rfl⟩ rfl ?_
    refine opSkip rfl ⟨_, rfl, .inl rfl⟩ rfl ?_
    refine opSkip rfl ⟨_, rfl, .inl rfl⟩ rfl ?_
    refine opSkip rfl ⟨_, rfl, .inl rfl⟩ rfl ?_
    refine opSkip rfl ⟨_, rfl, .inl rfl⟩ rfl ?_
    refine op0 (sp_pickT rfl rfl rfl) rfl trivial rfl rfl ?_
    refine op0 (sp_move rfl rfl) rfl trivial rfl rfl ?_
    refine opSkip rfl ⟨_, rfl, .inl rfl⟩ rfl ?_
    refine opSkip rfl ⟨_, rfl, .inl rfl⟩ rfl ?_
    refine op0 (sp_pickT rfl rfl rfl) rfl trivial rfl rfl ?_
    refine op0 (sp_move rfl rfl) rfl trivial rfl rfl ?_
    refine opSkip rfl ⟨_, rfl, .inl rfl⟩ rfl ?_
    refine opSkip rfl ⟨_, rfl, .inl rfl⟩ rfl ?_
    refine opSkip rfl ⟨_, rfl, .inl rfl⟩ rfl ?_
    refine opSkip rfl ⟨_, rfl, .inl rfl⟩ rfl ?_
    refine opSkip rfl ⟨_, rfl, .inl rfl⟩ rfl ?_
    refine op0 (sp_pickT rfl rfl rfl) rfl trivial rfl rfl ?_
    refine TL.nil ?_
    refine TC.condT rfl ?_
    refine TC.seq ?_
    refine TC.region ?_
    refine op0 (sp_assign rfl rfl) rfl trivial rfl rfl ?_
    refine TL.nil ?_
    cases h
    exact retJ [] (.tmp rfl .nil) rfl trivial rfl rfl
  · refine (boolLit 175 rfl h48).2 ?_
    refine op0 (sp_move rfl rfl) rfl ⟨_, rfl, rfl⟩ rfl rfl ?_
    refine op0 (sp_neq rfl rfl rfl) rfl ⟨_, rfl, rfl⟩ rfl rfl ?_
    refine op0 (sp_pickF rfl rfl rfl) rfl trivial rfl rfl ?_
    refine op0 (sp_move rfl rfl) rfl trivial rfl rfl ?_
    rcases cond_cases h with ⟨h49, h⟩ | ⟨h49, h⟩
    · refine (boolLit 179 rfl h49).2 ?_
      refine opSkip rfl ⟨_, rfl, .inl rfl⟩ rfl ?_
      refine opSkip rfl ⟨_, rfl, .inl rfl⟩ rfl ?_
      refine opSkip rfl ⟨_, rfl, .inl rfl⟩ rfl ?_
      refine opSkip rfl ⟨_, rfl, .inl rfl⟩ rfl ?_
      refine opSkip rfl ⟨_, rfl, .inl rfl⟩ rfl ?_
      refine opSkip rfl ⟨_, rfl, .inl rfl⟩ rfl ?_
      refine opSkip rfl ⟨_, rfl, .inl rfl⟩ rfl ?_
      refine opSkip rfl ⟨_, rfl, .inl rfl⟩ rfl ?_
      refine op0 (sp_pickT rfl rfl rfl) rfl trivial rfl rfl ?_
      refine op0 (sp_move rfl rfl) rfl trivial rfl rfl ?_
      refine opSkip rfl ⟨_, rfl, .inl rfl⟩ rfl ?_
      refine opSkip rfl ⟨_, rfl, .inl rfl⟩ rfl ?_
      refine op0 (sp_pickT rfl rfl rfl) rfl trivial rfl rfl ?_
      refine op0 (sp_move rfl rfl) rfl trivial rfl rfl ?_
      refine opSkip rfl ⟨_, rfl, .inl rfl⟩ rfl ?_
      refine opSkip rfl ⟨_, rfl, .inl rfl⟩ rfl ?_
      refine opSkip rfl ⟨_, rfl, .inl rfl⟩ rfl ?_
      refine opSkip rfl ⟨_, rfl, .inl rfl⟩ rfl ?_
      refine opSkip rfl ⟨_, rfl, .inl rfl⟩ rfl ?_
      refine op0 (sp_pickT rfl rfl rfl) rfl trivial rfl rfl ?_
      refine TL.nil ?_
      refine TC.condT rfl ?_
      refine TC.seq ?_
      refine TC.region ?_
      refine op0 (sp_assign rfl rfl) rfl trivial rfl rfl ?_
      refine TL.nil ?_
      cases h
      exact retJ [] (.tmp rfl .nil) rfl trivial rfl rfl
    · refine (boolLit 179 rfl h49).2 ?_
      refine op0 (sp_move rfl rfl) rfl ⟨_, rfl, rfl⟩ rfl rfl ?_
      refine op0 (sp_move rfl rfl) rfl ⟨_, rfl, rfl⟩ rfl rfl ?_
      refine op0 (sp_move rfl rfl) rfl ⟨_, rfl, rfl⟩ rfl rfl ?_
      refine op1 4 rfl (sp_lenM (N := l18.length) (len_map _ _) rfl rfl isOwn Try.underlying50) rfl ⟨_, rfl, rfl⟩ rfl rfl ?_
      obtain ⟨h50, h⟩ := chk_inv h
      refine op0 (sp_add rfl rfl rfl h50) rfl ⟨_, rfl, rfl⟩ rfl rfl ?_
      refine op0 (sp_move rfl rfl) rfl ⟨_, rfl, rfl⟩ rfl rfl ?_
      obtain ⟨h51, h⟩ := chk_inv h
      refine op0 (sp_rem rfl rfl rfl h51) rfl ⟨_, rfl, rfl⟩ rfl rfl ?_
      refine op0 (sp_neq rfl rfl rfl) rfl ⟨_, rfl, rfl⟩ rfl rfl ?_
      refine op0 (sp_pickF rfl rfl rfl) rfl trivial rfl rfl ?_
      refine op0 (sp_move rfl rfl) rfl trivial rfl rfl ?_
      rcases cond_cases h with ⟨h52, h⟩ | ⟨h52, h⟩
      · refine (boolLit 189 rfl h52).2 ?_
        refine opSkip rfl ⟨_, rfl, .inl rfl⟩ rfl ?_
        refine opSkip rfl ⟨_, rfl, .inl rfl⟩ rfl ?_
        refine op0 (sp_pickT rfl rfl rfl) rfl trivial rfl rfl ?_
        refine op0 (sp_move rfl rfl) rfl trivial rfl rfl ?_
        refine opSkip rfl ⟨_, rfl, .inl rfl⟩ rfl ?_
        refine opSkip rfl ⟨_, rfl, .inl rfl⟩ rfl ?_
        refine opSkip rfl ⟨_, rfl, .inl rfl⟩ rfl ?_
        refine opSkip rfl ⟨_, rfl, .inl rfl⟩ rfl ?_
        refine opSkip rfl ⟨_, rfl, .inl rfl⟩ rfl ?_
        refine op0 (sp_pickT rfl rfl rfl) rfl trivial rfl rfl ?_
        refine TL.nil ?_
        refine TC.condT rfl ?_
        refine TC.seq ?_
        refine TC.region ?_
        refine op0 (sp_assign rfl rfl) rfl trivial rfl rfl ?_
        refine TL.nil ?_
        cases h
        exact retJ [] (.tmp rfl .nil) rfl trivial rfl rfl
      · refine (boolLit 189 rfl h52).2 ?_
        refine op0 (sp_move rfl rfl) rfl ⟨_, rfl, rfl⟩ rfl rfl ?_
        refine op0 (sp_neq rfl rfl rfl) rfl ⟨_, rfl, rfl⟩ rfl rfl ?_
        refine op0 (sp_pickF rfl rfl rfl) rfl trivial rfl rfl ?_
        refine op0 (sp_move rfl rfl) rfl trivial rfl rfl ?_
        rcases cond_cases h with ⟨h53, h⟩ | ⟨h53, h⟩
        · refine (boolLit 193 rfl h53).2 ?_
          refine opSkip rfl ⟨_, rfl, .inl rfl⟩ rfl ?_
          refine opSkip rfl ⟨_, rfl, .inl rfl⟩ rfl ?_
          refine opSkip rfl ⟨_, rfl, .inl rfl⟩ rfl ?_
          refine opSkip rfl ⟨_, rfl, .inl rfl⟩ rfl ?_
          refine opSkip rfl ⟨_, rfl, .inl rfl⟩ rfl ?_
          refine op0 (sp_pickT rfl rfl rfl) rfl trivial rfl rfl ?_
          refine TL.nil ?_
          refine TC.condT rfl ?_
          refine TC.seq ?_
          refine TC.region ?_
          refine op0 (sp_assign rfl rfl) rfl trivial rfl rfl ?_
          refine TL.nil ?_
          cases h
          exact retJ [] (.tmp rfl .nil) rfl trivial rfl rfl
        · refine (boolLit 193 rfl h53).2 ?_
          refine op0 (sp_move rfl rfl) rfl ⟨_, rfl, rfl⟩ rfl rfl ?_
          refine op1 0 rfl (sp_lenM (N := r44.1.length) (len_map _ _) rfl rfl isOwn Try.underlying50) rfl ⟨_, rfl, rfl⟩ rfl rfl ?_
          refine op0 (sp_move rfl rfl) rfl ⟨_, rfl, rfl⟩ rfl rfl ?_
          refine op1 4 rfl (sp_lenM (N := l18.length) (len_map _ _) rfl rfl isOwn Try.underlying50) rfl ⟨_, rfl, rfl⟩ rfl rfl ?_
          refine op0 (sp_neq rfl rfl rfl) rfl ⟨_, rfl, rfl⟩ rfl rfl ?_
          refine op0 (sp_pickF rfl rfl rfl) rfl trivial rfl rfl ?_
          refine TL.nil ?_
          refine TC.cond (b := ((r44.1.length : Int) != (l18.length : Int))) rfl (fun h54 => ?_) (fun h54 => ?_)
          · have h := cond_t h h54
            refine TC.seq ?_
            refine TC.region ?_
            refine op0 (sp_assign rfl rfl) rfl trivial rfl rfl ?_
            refine TL.nil ?_
            cases h
            exact retJ [] (.tmp rfl .nil) rfl trivial rfl rfl
          · have h := cond_f h h54
            refine subJ [] (ok_law05_StrikeRacks_j8 h) ?_ ?_ ?_
            · exact ⟨rfl, rfl, rfl, rfl, trivial⟩
            · exact ⟨mem_at 3 rfl, mem_at 0 rfl, mem_at 5 rfl, trivial⟩
            · rfl
def ev_law05_StrikeRacks_j6 (n : Nat) (b15 : Bool) (b16 : Bool) (l19 : List (Int × Int)) (r6 : Int) (at_4 : Int) (l18 : List (Int × Bool)) : Option Bool :=
  ev_law05_StrikeRacks_j7 n b15 b16 l19 r6 at_4 l18
set_option maxRecDepth 100000 in
set_option maxHeartbeats 2000000 in
theorem ok_law05_StrikeRacks_j6 {n : Nat} {w0 : World} {R0 : Nat → Prop} {env0 : Env} {r : Bool} {r6 : Int} {at_4 : Int} {b15 : Bool} {b16 : Bool} {l18 : List (Int × Bool)} {l19 : List (Int × Int)} (h : ev_law05_StrikeRacks_j6 n b15 b16 l19 r6 at_4 l18 = some r) : TC Try.prog ⟨w0, fun _ => False, R0⟩ 229 (bodyPost Try.prog Try.f11 (Post ⟨w0, fun _ => False, R0⟩ env0 (.val (.bool r)) [])) [.code (sub (bodyOf Try.f11) [1, 1, 1, 1, 1, 1, 0, 1, 0, 1, 1, 1]), .code (sub (bodyOf Try.f11) [1, 1, 1, 1, 1, 1, 1])] ([(7, .val (.int .i64 r6)), (8, .ptr 3 0), (9, .val (.int .i64 at_4)), (12, .ref 5)]) ([.blk 3 [.val (.bool b15), .val (.bool b16), .ref 2] 24, .row 5 73 2 (List.map en_api_StrikeStep l18), .row 2 81 2 (List.map en_api_Span l19)]) := by
  rw [ev_law05_StrikeRacks_j6] at h
  refine TC.skip ?_
  refine TC.seq ?_
  refine subJ [] (ok_law05_StrikeRacks_j7 h) ?_ ?_ ?_
  · exact ⟨rfl, rfl, rfl, rfl, trivial⟩
  · exact ⟨mem_at 0 rfl, mem_at 1 rfl, mem_at 2 rfl, trivial⟩
  · rfl
def ev_law05_StrikeRacks_l0 (n : Nat) (at_4 : Int) (r6 : Int) : Nat → Int → Int → Int → (List Int) → Bool → Int → Int → Bool → Bool → (List (Int × Int)) → (List (Int × Bool)) → (List (Int × Int)) → Option Bool
  | 0, _, _, _, _, _, _, _, _, _, _, _, _ => none
  | m + 1, i8, i9, i10, l11, b12, i13, i14, b15, b16, l17, l18, l19 => cond (decide (i10 < 60)) (cond (decide (i10 < (l11.length : Int))) (ev_law05_StrikeRacks_j1 n b15 b16 l19 at_4 i10 l11 i8 l17 b12 i13 i14 l18 i9 (fun i8q i9q i10q l11q b12q i13q i14q b15q b16q l17q l18q l19q => ev_law05_StrikeRacks_l0 n at_4 r6 m i8q i9q i10q l11q b12q i13q i14q b15q b16q l17q l18q l19q)) (cond (decide ((0 : Int) < (l17.length : Int))) ((ev_law05_copied n b15 b16 l19).bind fun r38 => (ev_strike_Misses n r38.1 r38.2.1 r38.2.2 l17).bind fun r39 => cond (r39.2.2 != 0) (some false) (cond (r39.1 != i8) (some false) (cond ((r39.2.1.length : Int) != 1) (some false) (idx r39.2.1 0 fun x40 => chk (r6 != 0) <| cond (x40 != (Int.tmod i9 r6)) (some false) (ev_law05_StrikeRacks_j6 n b15 b16 l19 r6 at_4 l18))))) (ev_law05_StrikeRacks_j7 n b15 b16 l19 r6 at_4 l18))) (cond (decide ((0 : Int) < (l17.length : Int))) ((ev_law05_copied n b15 b16 l19).bind fun r50 => (ev_strike_Misses n r50.1 r50.2.1 r50.2.2 l17).bind fun r51 => cond (r51.2.2 != 0) (some false) (cond (r51.1 != i8) (some false) (cond ((r51.2.1.length : Int) != 1) (some false) (idx r51.2.1 0 fun x52 => chk (r6 != 0) <| cond (x52 != (Int.tmod i9 r6)) (some false) (ev_law05_StrikeRacks_j6 n b15 b16 l19 r6 at_4 l18))))) (ev_law05_StrikeRacks_j7 n b15 b16 l19 r6 at_4 l18))
set_option maxRecDepth 100000 in
set_option maxHeartbeats 2000000 in
theorem ok_law05_StrikeRacks_l0 {n : Nat} {w0 : World} {R0 : Nat → Prop} {env0 : Env} {r : Bool} {r6 : Int} {at_4 : Int} : ∀ (m : Nat) (i8 : Int) (i9 : Int) (i10 : Int) (l11 : List Int) (b12 : Bool) (i13 : Int) (i14 : Int) (b15 : Bool) (b16 : Bool) (l17 : List (Int × Int)) (l18 : List (Int × Bool)) (l19 : List (Int × Int)), ev_law05_StrikeRacks_l0 n at_4 r6 m i8 i9 i10 l11 b12 i13 i14 b15 b16 l17 l18 l19 = some r → TC Try.prog ⟨w0, fun _ => False, R0⟩ 229 (bodyPost Try.prog Try.f11 (Post ⟨w0, fun _ => False, R0⟩ env0 (.val (.bool r)) [])) [.code (sub (bodyOf Try.f11) [1, 1, 1, 1, 1, 0, 1, 0, 0, 0, 0]), .code (sub (bodyOf Try.f11) [1, 1, 1, 1, 1, 0, 1, 0, 0, 0, 1]), .code (sub (bodyOf Try.f11) [1, 1, 1, 1, 1, 0, 1, 0, 0, 1]), .inLoop (sub (bodyOf Try.f11) [1, 1, 1, 1, 1, 0, 1, 0, 0]), .inBlock 0, .code (sub (bodyOf Try.f11) [1, 1, 1, 1, 1, 1])] ([(2, .ref 0), (3, .ptr 1 0), (7, .val (.int .i64 r6)), (8, .ptr 3 0), (9, .val (.int .i64 at_4)), (10, .ref 4), (11, .val (.int .i64 i8)), (12, .ref 5), (13, .val (.int .i64 i9)), (14, .val (.int .i64 i10))]) ([.ro 0 1 (List.map en_uint8 l11), .blk 1 [.val (.bool b12), .val (.int .u8 i13), .val (.int .u8 i14)] 64, .blk 3 [.val (.bool b15), .val (.bool b16), .ref 2] 24, .row 4 43 2 (List.map en_api_StrikeHeard l17), .row 5 73 2 (List.map en_api_StrikeStep l18), .row 2 81 2 (List.map en_api_Span l19)]) := by
  intro m
  induction m with
  | zero => intro i8 i9 i10 l11 b12 i13 i14 b15 b16 l17 l18 l19 h; exact none_no h
  | succ m ih =>
    intro i8 i9 i10 l11 b12 i13 i14 b15 b16 l17 l18 l19 h
    rw [ev_law05_StrikeRacks_l0] at h
    refine TC.region ?_
    refine op0 (sp_move rfl rfl) rfl trivial rfl rfl ?_
    refine op0 (sp_lss rfl rfl rfl) rfl trivial rfl rfl ?_
    refine op0 (sp_move rfl rfl) rfl trivial rfl rfl ?_
    rcases cond_cases h with ⟨h4, h⟩ | ⟨h4, h⟩
    · refine (boolLit 40 rfl h4).2 ?_
      refine op0 (sp_move rfl rfl) rfl ⟨_, rfl, rfl⟩ rfl rfl ?_
      refine op0 (sp_move rfl rfl) rfl ⟨_, rfl, rfl⟩ rfl rfl ?_
      refine op1 0 rfl (sp_lenM (N := l11.length) (len_map _ _) rfl rfl isRo Try.underlying65) rfl ⟨_, rfl, rfl⟩ rfl rfl ?_
      refine op0 (sp_lss rfl rfl rfl) rfl ⟨_, rfl, rfl⟩ rfl rfl ?_
      refine op0 (sp_pickT rfl rfl rfl) rfl trivial rfl rfl ?_
      refine TL.nil ?_
      refine TC.cond (b := (decide (i10 < (l11.length : Int)))) rfl (fun h5 => ?_) (fun h5 => ?_)
      · have h := cond_t h h5
        refine subJ [] (ok_law05_StrikeRacks_j1 (r6 := r6) ih h) ?_ ?_ ?_
        · exact ⟨rfl, rfl, rfl, rfl, rfl, rfl, rfl, rfl, rfl, rfl, trivial⟩
        · exact ⟨mem_at 0 rfl, mem_at 1 rfl, mem_at 2 rfl, mem_at 3 rfl, mem_at 4 rfl, mem_at 5 rfl, trivial⟩
        · rfl
      · have h := cond_f h h5
        refine TC.exit rfl ?_
        refine TC.seq ?_
        refine TC.seq ?_
        refine TC.region ?_
        refine op0 (sp_move rfl rfl) rfl trivial rfl rfl ?_
        refine op1 3 rfl (sp_lenM (N := l17.length) (len_map _ _) rfl rfl isOwn Try.underlying37) rfl trivial rfl rfl ?_
        refine op0 (sp_gtr rfl rfl rfl) rfl trivial rfl rfl ?_
        refine TL.nil ?_
        refine TC.cond (b := (decide ((0 : Int) < (l17.length : Int)))) rfl (fun h31 => ?_) (fun h31 => ?_)
        · have h := cond_t h h31
          refine TC.seq ?_
          refine TC.region ?_
          refine op1 2 rfl (sp_loadBA rfl isBlk rfl vt24 rfl rfl) rfl trivial rfl rfl ?_
          obtain ⟨r38, h32, h⟩ := bind_inv h
          refine op1 5 rfl (sp_call (avs := [.agg [.val (.bool b15), .val (.bool b16), .ref 2]]) (need := [.row 2 81 2 (List.map en_api_Span l19)]) (v := .agg [.val (.bool r38.1), .val (.bool r38.2.1), .ref 14]) (news := [.row 14 81 2 (List.map en_api_Span r38.2.2)]) rfl rfl rfl Try.call13 (atJ [(0, 2)] [(0, 14)] (fc_law05_copied h32) rfl rfl) (.inr (List.forall_mem_cons.2 ⟨indep_map en_api_Span_flat, (by simp)⟩))) rfl trivial rfl rfl ?_
          refine op0 (sp_move rfl rfl) rfl trivial rfl rfl ?_
          obtain ⟨r39, h33, h⟩ := bind_inv h
          refine opN (need := [.row 14 81 2 (List.map en_api_Span r38.2.2), .row 4 43 2 (List.map en_api_StrikeHeard l17)]) [0, 4] ⟨rfl, rfl, trivial⟩ (sp_call (avs := [.agg [.val (.bool r38.1), .val (.bool r38.2.1), .ref 14], .ref 4]) (need := [.row 14 81 2 (List.map en_api_Span r38.2.2), .row 4 43 2 (List.map en_api_StrikeHeard l17)]) (v := .tup [.val (.int .i64 r39.1), .ref 15, .val (.int .i64 r39.2.2)]) (news := [.row 15 3 1 (List.map en_int r39.2.1)]) rfl rfl rfl Try.call23 (atJ [(0, 14), (1, 4)] [(0, 15)] (fc_strike_Misses h33) rfl rfl) (.inr (List.forall_mem_cons.2 ⟨indep_map en_int_flat, (by simp)⟩))) rfl trivial rfl rfl ?_
          refine op0 (sp_move rfl rfl) rfl trivial rfl rfl ?_
          refine op0 (sp_extract rfl rfl rfl) rfl trivial rfl rfl ?_
          refine op0 (sp_extract rfl rfl rfl) rfl trivial rfl rfl ?_
          refine op0 (sp_extract rfl rfl rfl) rfl trivial rfl rfl ?_
          refine op0 (sp_assign rfl rfl) rfl trivial rfl rfl ?_
          refine op0 (sp_assign rfl rfl) rfl trivial rfl rfl ?_
          refine op0 (sp_assign rfl rfl) rfl trivial rfl rfl ?_
          refine TL.nil ?_
          refine TC.seq ?_
          rcases cond_cases h with ⟨h34, h⟩ | ⟨h34, h⟩
          · refine drawJ 19 [⟨.val (.int .i64 r39.2.2), [], [], []⟩, ⟨.val (.bool (r39.2.2 != 0)), [], [], []⟩, ⟨.val (.bool true), [], [], []⟩, ⟨.val (undef), [], [], []⟩, ⟨.val (undef), [], [], []⟩, ⟨.val (undef), [], [], []⟩, ⟨.val (.bool true), [], [], []⟩, ⟨.val (.bool true), [], [], []⟩, ⟨.val (undef), [], [], []⟩, ⟨.val (undef), [], [], []⟩, ⟨.val (undef), [], [], []⟩, ⟨.val (.bool true), [], [], []⟩, ⟨.val (.bool true), [], [], []⟩, ⟨.val (undef), [], [], []⟩, ⟨.val (undef), [], [], []⟩, ⟨.val (undef), [], [], []⟩, ⟨.val (undef), [], [], []⟩, ⟨.val (undef), [], [], []⟩, ⟨.val (undef), [], [], []⟩] rfl ?_ rfl ?_ rfl ?_ ?_
            · kernel_rfl
            · kernel_rfl
            · exact DAll.op' (sp_move rfl rfl) trivial rfl (From.ok (ps := []) trivial) (DAll.op' (sp_neq rfl rfl rfl) trivial rfl (From.ok (ps := []) trivial) (DAll.op' (sp_castB h34 (sp_move rfl rfl)) trivial rfl (From.ok (ps := []) trivial) (.skip ⟨_, rfl, .inl rfl⟩ rfl rfl rfl (.skip ⟨_, rfl, .inl rfl⟩ rfl rfl rfl (.skip ⟨_, rfl, .inl rfl⟩ rfl rfl rfl (DAll.op' (sp_pickT rfl rfl rfl) trivial rfl (From.ok (ps := []) trivial) (DAll.op' (sp_move rfl rfl) trivial rfl (From.ok (ps := []) trivial) (.skip ⟨_, rfl, .inl rfl⟩ rfl rfl rfl (.skip ⟨_, rfl, .inl rfl⟩ rfl rfl rfl (.skip ⟨_, rfl, .inl rfl⟩ rfl rfl rfl (DAll.op' (sp_pickT rfl rfl rfl) trivial rfl (From.ok (ps := []) trivial) (DAll.op' (sp_move rfl rfl) trivial rfl (From.ok (ps := []) trivial) (.skip ⟨_, rfl, .inl rfl⟩ rfl rfl rfl (.skip ⟨_, rfl, .inl rfl⟩ rfl rfl rfl (.skip ⟨_, rfl, .inl rfl⟩ rfl rfl rfl (.skip ⟨_, rfl, .inl rfl⟩ rfl rfl rfl (.skip ⟨_, rfl, .inl rfl⟩ rfl rfl rfl (.skip ⟨_, rfl, .inl rfl⟩ rfl rfl rfl (.nil)))))))))))))))))))
            refine opSkip rfl ⟨_, rfl, .inl rfl⟩ rfl ?_
            refine op0 (sp_pickT rfl rfl rfl) rfl trivial rfl rfl ?_
            refine TL.nil ?_
            refine TC.condT rfl ?_
            refine TC.seq ?_
            refine TC.region ?_
            refine op0 (sp_assign rfl rfl) rfl trivial rfl rfl ?_
            refine TL.nil ?_
            cases h
            exact retJ [] (.tmp rfl .nil) rfl trivial rfl rfl
          · rcases cond_cases h with ⟨h35, h⟩ | ⟨h35, h⟩
            · refine drawJ 19 [⟨.val (.int .i64 r39.2.2), [], [], []⟩, ⟨.val (.bool (r39.2.2 != 0)), [], [], []⟩, ⟨.val (.bool false), [], [], []⟩, ⟨.val (.int .i64 r39.1), [], [], []⟩, ⟨.val (.int .i64 i8), [], [], []⟩, ⟨.val (.bool (r39.1 != i8)), [], [], []⟩, ⟨.val (.bool (r39.1 != i8)), [], [], []⟩, ⟨.val (.bool true), [], [], []⟩, ⟨.val (undef), [], [], []⟩, ⟨.val (undef), [], [], []⟩, ⟨.val (undef), [], [], []⟩, ⟨.val (.bool true), [], [], []⟩, ⟨.val (.bool true), [], [], []⟩, ⟨.val (undef), [], [], []⟩, ⟨.val (undef), [], [], []⟩, ⟨.val (undef), [], [], []⟩, ⟨.val (undef), [], [], []⟩, ⟨.val (undef), [], [], []⟩, ⟨.val (undef), [], [], []⟩] rfl ?_ rfl ?_ rfl ?_ ?_
              · kernel_rfl
              · kernel_rfl
              · exact DAll.op' (sp_move rfl rfl) trivial rfl (From.ok (ps := []) trivial) (DAll.op' (sp_neq rfl rfl rfl) trivial rfl (From.ok (ps := []) trivial) (DAll.op' (sp_castB h34 (sp_move rfl rfl)) trivial rfl (From.ok (ps := []) trivial) (DAll.op' (sp_move rfl rfl) ⟨_, rfl, rfl⟩ rfl (From.ok (ps := []) trivial) (DAll.op' (sp_move rfl rfl) ⟨_, rfl, rfl⟩ rfl (From.ok (ps := []) trivial) (DAll.op' (sp_neq rfl rfl rfl) ⟨_, rfl, rfl⟩ rfl (From.ok (ps := []) trivial) (DAll.op' (sp_pickF rfl rfl rfl) trivial rfl (From.ok (ps := []) trivial) (DAll.op' (sp_castB h35 (sp_move rfl rfl)) trivial rfl (From.ok (ps := []) trivial) (.skip ⟨_, rfl, .inl rfl⟩ rfl rfl rfl (.skip ⟨_, rfl, .inl rfl⟩ rfl rfl rfl (.skip ⟨_, rfl, .inl rfl⟩ rfl rfl rfl (DAll.op' (sp_pickT rfl rfl rfl) trivial rfl (From.ok (ps := []) trivial) (DAll.op' (sp_move rfl rfl) trivial rfl (From.ok (ps := []) trivial) (.skip ⟨_, rfl, .inl rfl⟩ rfl rfl rfl (.skip ⟨_, rfl, .inl rfl⟩ rfl rfl rfl (.skip ⟨_, rfl, .inl rfl⟩ rfl rfl rfl (.skip ⟨_, rfl, .inl rfl⟩ rfl rfl rfl (.skip ⟨_, rfl, .inl rfl⟩ rfl rfl rfl (.skip ⟨_, rfl, .inl rfl⟩ rfl rfl rfl (.nil)))))))))))))))))))
              refine opSkip rfl ⟨_, rfl, .inl rfl⟩ rfl ?_
              refine op0 (sp_pickT rfl rfl rfl) rfl trivial rfl rfl ?_
              refine TL.nil ?_
              refine TC.condT rfl ?_
              refine TC.seq ?_
              refine TC.region ?_
              refine op0 (sp_assign rfl rfl) rfl trivial rfl rfl ?_
              refine TL.nil ?_
              cases h
              exact retJ [] (.tmp rfl .nil) rfl trivial rfl rfl
            · rcases cond_cases h with ⟨h36, h⟩ | ⟨h36, h⟩
              · refine drawJ 19 [⟨.val (.int .i64 r39.2.2), [], [], []⟩, ⟨.val (.bool (r39.2.2 != 0)), [], [], []⟩, ⟨.val (.bool false), [], [], []⟩, ⟨.val (.int .i64 r39.1), [], [], []⟩, ⟨.val (.int .i64 i8), [], [], []⟩, ⟨.val (.bool (r39.1 != i8)), [], [], []⟩, ⟨.val (.bool (r39.1 != i8)), [], [], []⟩, ⟨.val (.bool false), [], [], []⟩, ⟨.ref 15, [], [], []⟩, ⟨.val (.int .i64 (r39.2.1.length : Int)), [], [.row 15 3 1 (List.map en_int r39.2.1)], []⟩, ⟨.val (.bool ((r39.2.1.length : Int) != 1)), [], [], []⟩, ⟨.val (.bool ((r39.2.1.length : Int) != 1)), [], [], []⟩, ⟨.val (.bool true), [], [], []⟩, ⟨.val (undef), [], [], []⟩, ⟨.val (undef), [], [], []⟩, ⟨.val (undef), [], [], []⟩, ⟨.val (undef), [], [], []⟩, ⟨.val (undef), [], [], []⟩, ⟨.val (undef), [], [], []⟩] rfl ?_ rfl ?_ rfl ?_ ?_
                · kernel_rfl
                · kernel_rfl
                · exact DAll.op' (sp_move rfl rfl) trivial rfl (From.ok (ps := []) trivial) (DAll.op' (sp_neq rfl rfl rfl) trivial rfl (From.ok (ps := []) trivial) (DAll.op' (sp_castB h34 (sp_move rfl rfl)) trivial rfl (From.ok (ps := []) trivial) (DAll.op' (sp_move rfl rfl) ⟨_, rfl, rfl⟩ rfl (From.ok (ps := []) trivial) (DAll.op' (sp_move rfl rfl) ⟨_, rfl, rfl⟩ rfl (From.ok (ps := []) trivial) (DAll.op' (sp_neq rfl rfl rfl) ⟨_, rfl, rfl⟩ rfl (From.ok (ps := []) trivial) (DAll.op' (sp_pickF rfl rfl rfl) trivial rfl (From.ok (ps := []) trivial) (DAll.op' (sp_castB h35 (sp_move rfl rfl)) trivial rfl (From.ok (ps := []) trivial) (DAll.op' (sp_move rfl rfl) ⟨_, rfl, rfl⟩ rfl (From.ok (ps := []) trivial) (DAll.op' (sp_lenM (N := r39.2.1.length) (len_map _ _) rfl rfl isOwn Try.underlying39) ⟨_, rfl, rfl⟩ rfl (From.ok (ps := [(none, 0)]) ⟨⟨rfl, by kernel_rfl⟩, trivial⟩) (DAll.op' (sp_neq rfl rfl rfl) ⟨_, rfl, rfl⟩ rfl (From.ok (ps := []) trivial) (DAll.op' (sp_pickF rfl rfl rfl) trivial rfl (From.ok (ps := []) trivial) (DAll.op' (sp_castB h36 (sp_move rfl rfl)) trivial rfl (From.ok (ps := []) trivial) (.skip ⟨_, rfl, .inl rfl⟩ rfl rfl rfl (.skip ⟨_, rfl, .inl rfl⟩ rfl rfl rfl (.skip ⟨_, rfl, .inl rfl⟩ rfl rfl rfl (.skip ⟨_, rfl, .inl rfl⟩ rfl rfl rfl (.skip ⟨_, rfl, .inl rfl⟩ rfl rfl rfl (.skip ⟨_, rfl, .inl rfl⟩ rfl rfl rfl (.nil)))))))))))))))))))
                refine opSkip rfl ⟨_, rfl, .inl rfl⟩ rfl ?_
                refine op0 (sp_pickT rfl rfl rfl) rfl trivial rfl rfl ?_
                refine TL.nil ?_
                refine TC.condT rfl ?_
                refine TC.seq ?_
                refine TC.region ?_
                refine op0 (sp_assign rfl rfl) rfl trivial rfl rfl ?_
                refine TL.nil ?_
                cases h
                exact retJ [] (.tmp rfl .nil) rfl trivial rfl rfl
              · obtain ⟨x40, h37, h38, h⟩ := idx_inv h
                obtain ⟨h39, h⟩ := chk_inv h
                refine drawJ 19 [⟨.val (.int .i64 r39.2.2), [], [], []⟩, ⟨.val (.bool (r39.2.2 != 0)), [], [], []⟩, ⟨.val (.bool false), [], [], []⟩, ⟨.val (.int .i64 r39.1), [], [], []⟩, ⟨.val (.int .i64 i8), [], [], []⟩, ⟨.val (.bool (r39.1 != i8)), [], [], []⟩, ⟨.val (.bool (r39.1 != i8)), [], [], []⟩, ⟨.val (.bool false), [], [], []⟩, ⟨.ref 15, [], [], []⟩, ⟨.val (.int .i64 (r39.2.1.length : Int)), [], [.row 15 3 1 (List.map en_int r39.2.1)], []⟩, ⟨.val (.bool ((r39.2.1.length : Int) != 1)), [], [], []⟩, ⟨.val (.bool ((r39.2.1.length : Int) != 1)), [], [], []⟩, ⟨.val (.bool false), [], [], []⟩, ⟨.ref 15, [], [], []⟩, ⟨.cell 15 ((0 : Int).toNat * 1), [], [.row 15 3 1 (List.map en_int r39.2.1)], []⟩, ⟨.val (.int .i64 x40), [], [.row 15 3 1 (List.map en_int r39.2.1)], []⟩, ⟨.val (.int .i64 i9), [], [], []⟩, ⟨.val (.int .i64 r6), [], [], []⟩, ⟨.val (.int .i64 (Int.tmod i9 r6)), [], [], []⟩] rfl ?_ rfl ?_ rfl ?_ ?_
                · kernel_rfl
                · kernel_rfl
                · exact DAll.op' (sp_move rfl rfl) trivial rfl (From.ok (ps := []) trivial) (DAll.op' (sp_neq rfl rfl rfl) trivial rfl (From.ok (ps := []) trivial) (DAll.op' (sp_castB h34 (sp_move rfl rfl)) trivial rfl (From.ok (ps := []) trivial) (DAll.op' (sp_move rfl rfl) ⟨_, rfl, rfl⟩ rfl (From.ok (ps := []) trivial) (DAll.op' (sp_move rfl rfl) ⟨_, rfl, rfl⟩ rfl (From.ok (ps := []) trivial) (DAll.op' (sp_neq rfl rfl rfl) ⟨_, rfl, rfl⟩ rfl (From.ok (ps := []) trivial) (DAll.op' (sp_pickF rfl rfl rfl) trivial rfl (From.ok (ps := []) trivial) (DAll.op' (sp_castB h35 (sp_move rfl rfl)) trivial rfl (From.ok (ps := []) trivial) (DAll.op' (sp_move rfl rfl) ⟨_, rfl, rfl⟩ rfl (From.ok (ps := []) trivial) (DAll.op' (sp_lenM (N := r39.2.1.length) (len_map _ _) rfl rfl isOwn Try.underlying39) ⟨_, rfl, rfl⟩ rfl (From.ok (ps := [(none, 0)]) ⟨⟨rfl, by kernel_rfl⟩, trivial⟩) (DAll.op' (sp_neq rfl rfl rfl) ⟨_, rfl, rfl⟩ rfl (From.ok (ps := []) trivial) (DAll.op' (sp_pickF rfl rfl rfl) trivial rfl (From.ok (ps := []) trivial) (DAll.op' (sp_castB h36 (sp_move rfl rfl)) trivial rfl (From.ok (ps := []) trivial) (DAll.op' (sp_move rfl rfl) ⟨_, rfl, rfl⟩ rfl (From.ok (ps := []) trivial) (DAll.op' (sp_indexS rfl rfl rfl isOwn sl39 h37 (map_get _ h38)) ⟨_, rfl, rfl⟩ rfl (From.ok (ps := [(none, 0)]) ⟨⟨rfl, by kernel_rfl⟩, trivial⟩) (DAll.op' (sp_loadR (i := (0 : Int).toNat) (j := 0) rfl rfl isOwn vt3 rfl (map_get _ h38) rfl (.v (.nil)) (nodup_of_B rfl)) ⟨_, rfl, rfl⟩ rfl (From.ok (ps := [(none, 0)]) ⟨⟨rfl, by kernel_rfl⟩, trivial⟩) (DAll.op' (sp_move rfl rfl) ⟨_, rfl, rfl⟩ rfl (From.ok (ps := []) trivial) (DAll.op' (sp_move rfl rfl) ⟨_, rfl, rfl⟩ rfl (From.ok (ps := []) trivial) (DAll.op' (sp_rem rfl rfl rfl h39) ⟨_, rfl, rfl⟩ rfl (From.ok (ps := []) trivial) (.nil)))))))))))))))))))
                refine op0 (sp_neq rfl rfl rfl) rfl ⟨_, rfl, rfl⟩ rfl rfl ?_
                refine op0 (sp_pickF rfl rfl rfl) rfl trivial rfl rfl ?_
                refine TL.nil ?_
                refine TC.cond (b := (x40 != (Int.tmod i9 r6))) rfl (fun h40 => ?_) (fun h40 => ?_)
                · have h := cond_t h h40
                  refine TC.seq ?_
                  refine TC.region ?_
                  refine op0 (sp_assign rfl rfl) rfl trivial rfl rfl ?_
                  refine TL.nil ?_
                  cases h
                  exact retJ [] (.tmp rfl .nil) rfl trivial rfl rfl
                · have h := cond_f h h40
                  refine subJ [] (ok_law05_StrikeRacks_j6 h) ?_ ?_ ?_
                  · exact ⟨rfl, rfl, rfl, rfl, trivial⟩
                  · exact ⟨mem_at 4 rfl, mem_at 6 rfl, mem_at 7 rfl, trivial⟩
                  · rfl
        · have h := cond_f h h31
          refine TC.skip ?_
          refine TC.seq ?_
          refine subJ [] (ok_law05_StrikeRacks_j7 h) ?_ ?_ ?_
          · exact ⟨rfl, rfl, rfl, rfl, trivial⟩
          · exact ⟨mem_at 2 rfl, mem_at 4 rfl, mem_at 5 rfl, trivial⟩
          · rfl
    · refine (boolLit 40 rfl h4).2 ?_
      refine opSkip rfl ⟨_, rfl, .inl rfl⟩ rfl ?_
      refine opSkip rfl ⟨_, rfl, .inl rfl⟩ rfl ?_
      refine opSkip rfl ⟨_, rfl, .inl rfl⟩ rfl ?_
      refine opSkip rfl ⟨_, rfl, .inl rfl⟩ rfl ?_
      refine op0 (sp_pickF rfl rfl rfl) rfl trivial rfl rfl ?_
      refine TL.nil ?_
      refine TC.condF rfl ?_
      refine TC.exit rfl ?_
      refine TC.seq ?_
      refine TC.seq ?_
      refine TC.region ?_
      refine op0 (sp_move rfl rfl) rfl trivial rfl rfl ?_
      refine op1 3 rfl (sp_lenM (N := l17.length) (len_map _ _) rfl rfl isOwn Try.underlying37) rfl trivial rfl rfl ?_
      refine op0 (sp_gtr rfl rfl rfl) rfl trivial rfl rfl ?_
      refine TL.nil ?_
      refine TC.cond (b := (decide ((0 : Int) < (l17.length : Int)))) rfl (fun h66 => ?_) (fun h66 => ?_)
      · have h := cond_t h h66
        refine TC.seq ?_
        refine TC.region ?_
        refine op1 2 rfl (sp_loadBA rfl isBlk rfl vt24 rfl rfl) rfl trivial rfl rfl ?_
        obtain ⟨r50, h67, h⟩ := bind_inv h
        refine op1 5 rfl (sp_call (avs := [.agg [.val (.bool b15), .val (.bool b16), .ref 2]]) (need := [.row 2 81 2 (List.map en_api_Span l19)]) (v := .agg [.val (.bool r50.1), .val (.bool r50.2.1), .ref 21]) (news := [.row 21 81 2 (List.map en_api_Span r50.2.2)]) rfl rfl rfl Try.call13 (atJ [(0, 2)] [(0, 21)] (fc_law05_copied h67) rfl rfl) (.inr (List.forall_mem_cons.2 ⟨indep_map en_api_Span_flat, (by simp)⟩))) rfl trivial rfl rfl ?_
        refine op0 (sp_move rfl rfl) rfl trivial rfl rfl ?_
        obtain ⟨r51, h68, h⟩ := bind_inv h
        refine opN (need := [.row 21 81 2 (List.map en_api_Span r50.2.2), .row 4 43 2 (List.map en_api_StrikeHeard l17)]) [0, 4] ⟨rfl, rfl, trivial⟩ (sp_call (avs := [.agg [.val (.bool r50.1), .val (.bool r50.2.1), .ref 21], .ref 4]) (need := [.row 21 81 2 (List.map en_api_Span r50.2.2), .row 4 43 2 (List.map en_api_StrikeHeard l17)]) (v := .tup [.val (.int .i64 r51.1), .ref 22, .val (.int .i64 r51.2.2)]) (news := [.row 22 3 1 (List.map en_int r51.2.1)]) rfl rfl rfl Try.call23 (atJ [(0, 21), (1, 4)] [(0, 22)] (fc_strike_Misses h68) rfl rfl) (.inr (List.forall_mem_cons.2 ⟨indep_map en_int_flat, (by simp)⟩))) rfl trivial rfl rfl ?_
        refine op0 (sp_move rfl rfl) rfl trivial rfl rfl ?_
        refine op0 (sp_extract rfl rfl rfl) rfl trivial rfl rfl ?_
        refine op0 (sp_extract rfl rfl rfl) rfl trivial rfl rfl ?_
        refine op0 (sp_extract rfl rfl rfl) rfl trivial rfl rfl ?_
        refine op0 (sp_assign rfl rfl) rfl trivial rfl rfl ?_
        refine op0 (sp_assign rfl rfl) rfl trivial rfl rfl ?_
        refine op0 (sp_assign rfl rfl) rfl trivial rfl rfl ?_
        refine TL.nil ?_
        refine TC.seq ?_
        rcases cond_cases h with ⟨h69, h⟩ | ⟨h69, h⟩
        · refine drawJ 19 [⟨.val (.int .i64 r51.2.2), [], [], []⟩, ⟨.val (.bool (r51.2.2 != 0)), [], [], []⟩, ⟨.val (.bool true), [], [], []⟩, ⟨.val (undef), [], [], []⟩, ⟨.val (undef), [], [], []⟩, ⟨.val (undef), [], [], []⟩, ⟨.val (.bool true), [], [], []⟩, ⟨.val (.bool true), [], [], []⟩, ⟨.val (undef), [], [], []⟩, ⟨.val (undef), [], [], []⟩, ⟨.val (undef), [], [], []⟩, ⟨.val (.bool true), [], [], []⟩, ⟨.val (.bool true), [], [], []⟩, ⟨.val (undef), [], [], []⟩, ⟨.val (undef), [], [], []⟩, ⟨.val (undef), [], [], []⟩, ⟨.val (undef), [], [], []⟩, ⟨.val (undef), [], [], []⟩, ⟨.val (undef), [], [], []⟩] rfl ?_ rfl ?_ rfl ?_ ?_
          · kernel_rfl
          · kernel_rfl
          · exact DAll.op' (sp_move rfl rfl) trivial rfl (From.ok (ps := []) trivial) (DAll.op' (sp_neq rfl rfl rfl) trivial rfl (From.ok (ps := []) trivial) (DAll.op' (sp_castB h69 (sp_move rfl rfl)) trivial rfl (From.ok (ps := []) trivial) (.skip ⟨_, rfl, .inl rfl⟩ rfl rfl rfl (.skip ⟨_, rfl, .inl rfl⟩ rfl rfl rfl (.skip ⟨_, rfl, .inl rfl⟩ rfl rfl rfl (DAll.op' (sp_pickT rfl rfl rfl) trivial rfl (From.ok (ps := []) trivial) (DAll.op' (sp_move rfl rfl) trivial rfl (From.ok (ps := []) trivial) (.skip ⟨_, rfl, .inl rfl⟩ rfl rfl rfl (.skip ⟨_, rfl, .inl rfl⟩ rfl rfl rfl (.skip ⟨_, rfl, .inl rfl⟩ rfl rfl rfl (DAll.op' (sp_pickT rfl rfl rfl) trivial rfl (From.ok (ps := []) trivial) (DAll.op' (sp_move rfl rfl) trivial rfl (From.ok (ps := []) trivial) (.skip ⟨_, rfl, .inl rfl⟩ rfl rfl rfl (.skip ⟨_, rfl, .inl rfl⟩ rfl rfl rfl (.skip ⟨_, rfl, .inl rfl⟩ rfl rfl rfl (.skip ⟨_, rfl, .inl rfl⟩ rfl rfl rfl (.skip ⟨_, rfl, .inl rfl⟩ rfl rfl rfl (.skip ⟨_, rfl, .inl rfl⟩ rfl rfl rfl (.nil)))))))))))))))))))
          refine opSkip rfl ⟨_, rfl, .inl rfl⟩ rfl ?_
          refine op0 (sp_pickT rfl rfl rfl) rfl trivial rfl rfl ?_
          refine TL.nil ?_
          refine TC.condT rfl ?_
          refine TC.seq ?_
          refine TC.region ?_
          refine op0 (sp_assign rfl rfl) rfl trivial rfl rfl ?_
          refine TL.nil ?_
          cases h
          exact retJ [] (.tmp rfl .nil) rfl trivial rfl rfl
        · rcases cond_cases h with ⟨h70, h⟩ | ⟨h70, h⟩
          · refine drawJ 19 [⟨.val (.int .i64 r51.2.2), [], [], []⟩, ⟨.val (.bool (r51.2.2 != 0)), [], [], []⟩, ⟨.val (.bool false), [], [], []⟩, ⟨.val (.int .i64 r51.1), [], [], []⟩, ⟨.val (.int .i64 i8), [], [], []⟩, ⟨.val (.bool (r51.1 != i8)), [], [], []⟩, ⟨.val (.bool (r51.1 != i8)), [], [], []⟩, ⟨.val (.bool true), [], [], []⟩, ⟨.val (undef), [], [], []⟩, ⟨.val (undef), [], [], []⟩, ⟨.val (undef), [], [], []⟩, ⟨.val (.bool true), [], [], []⟩, ⟨.val (.bool true), [], [], []⟩, ⟨.val (undef), [], [], []⟩, ⟨.val (undef), [], [], []⟩, ⟨.val (undef), [], [], []⟩, ⟨.val (undef), [], [], []⟩, ⟨.val (undef), [], [], []⟩, ⟨.val (undef), [], [], []⟩] rfl ?_ rfl ?_ rfl ?_ ?_
            · kernel_rfl
            · kernel_rfl
            · exact DAll.op' (sp_move rfl rfl) trivial rfl (From.ok (ps := []) trivial) (DAll.op' (sp_neq rfl rfl rfl) trivial rfl (From.ok (ps := []) trivial) (DAll.op' (sp_castB h69 (sp_move rfl rfl)) trivial rfl (From.ok (ps := []) trivial) (DAll.op' (sp_move rfl rfl) ⟨_, rfl, rfl⟩ rfl (From.ok (ps := []) trivial) (DAll.op' (sp_move rfl rfl) ⟨_, rfl, rfl⟩ rfl (From.ok (ps := []) trivial) (DAll.op' (sp_neq rfl rfl rfl) ⟨_, rfl, rfl⟩ rfl (From.ok (ps := []) trivial) (DAll.op' (sp_pickF rfl rfl rfl) trivial rfl (From.ok (ps := []) trivial) (DAll.op' (sp_castB h70 (sp_move rfl rfl)) trivial rfl (From.ok (ps := []) trivial) (.skip ⟨_, rfl, .inl rfl⟩ rfl rfl rfl (.skip ⟨_, rfl, .inl rfl⟩ rfl rfl rfl (.skip ⟨_, rfl, .inl rfl⟩ rfl rfl rfl (DAll.op' (sp_pickT rfl rfl rfl) trivial rfl (From.ok (ps := []) trivial) (DAll.op' (sp_move rfl rfl) trivial rfl (From.ok (ps := []) trivial) (.skip ⟨_, rfl, .inl rfl⟩ rfl rfl rfl (.skip ⟨_, rfl, .inl rfl⟩ rfl rfl rfl (.skip ⟨_, rfl, .inl rfl⟩ rfl rfl rfl (.skip ⟨_, rfl, .inl rfl⟩ rfl rfl rfl (.skip ⟨_, rfl, .inl rfl⟩ rfl rfl rfl (.skip ⟨_, rfl, .inl rfl⟩ rfl rfl rfl (.nil)))))))))))))))))))
            refine opSkip rfl ⟨_, rfl, .inl rfl⟩ rfl ?_
            refine op0 (sp_pickT rfl rfl rfl) rfl trivial rfl rfl ?_
            refine TL.nil ?_
            refine TC.condT rfl ?_
            refine TC.seq ?_
            refine TC.region ?_
            refine op0 (sp_assign rfl rfl) rfl trivial rfl rfl ?_
            refine TL.nil ?_
            cases h
            exact retJ [] (.tmp rfl .nil) rfl trivial rfl rfl
          · rcases cond_cases h with ⟨h71, h⟩ | ⟨h71, h⟩
            · refine drawJ 19 [⟨.val (.int .i64 r51.2.2), [], [], []⟩, ⟨.val (.bool (r51.2.2 != 0)), [], [], []⟩, ⟨.val (.bool false), [], [], []⟩, ⟨.val (.int .i64 r51.1), [], [], []⟩, ⟨.val (.int .i64 i8), [], [], []⟩, ⟨.val (.bool (r51.1 != i8)), [], [], []⟩, ⟨.val (.bool (r51.1 != i8)), [], [], []⟩, ⟨.val (.bool false), [], [], []⟩, ⟨.ref 22, [], [], []⟩, ⟨.val (.int .i64 (r51.2.1.length : Int)), [], [.row 22 3 1 (List.map en_int r51.2.1)], []⟩, ⟨.val (.bool ((r51.2.1.length : Int) != 1)), [], [], []⟩, ⟨.val (.bool ((r51.2.1.length : Int) != 1)), [], [], []⟩, ⟨.val (.bool true), [], [], []⟩, ⟨.val (undef), [], [], []⟩, ⟨.val (undef), [], [], []⟩, ⟨.val (undef), [], [], []⟩, ⟨.val (undef), [], [], []⟩, ⟨.val (undef), [], [], []⟩, ⟨.val (undef), [], [], []⟩] rfl ?_ rfl ?_ rfl ?_ ?_
              · kernel_rfl
              · kernel_rfl
              · exact DAll.op' (sp_move rfl rfl) trivial rfl (From.ok (ps := []) trivial) (DAll.op' (sp_neq rfl rfl rfl) trivial rfl (From.ok (ps := []) trivial) (DAll.op' (sp_castB h69 (sp_move rfl rfl)) trivial rfl (From.ok (ps := []) trivial) (DAll.op' (sp_move rfl rfl) ⟨_, rfl, rfl⟩ rfl (From.ok (ps := []) trivial) (DAll.op' (sp_move rfl rfl) ⟨_, rfl, rfl⟩ rfl (From.ok (ps := []) trivial) (DAll.op' (sp_neq rfl rfl rfl) ⟨_, rfl, rfl⟩ rfl (From.ok (ps := []) trivial) (DAll.op' (sp_pickF rfl rfl rfl) trivial rfl (From.ok (ps := []) trivial) (DAll.op' (sp_castB h70 (sp_move rfl rfl)) trivial rfl (From.ok (ps := []) trivial) (DAll.op' (sp_move rfl rfl) ⟨_, rfl, rfl⟩ rfl (From.ok (ps := []) trivial) (DAll.op' (sp_lenM (N := r51.2.1.length) (len_map _ _) rfl rfl isOwn Try.underlying39) ⟨_, rfl, rfl⟩ rfl (From.ok (ps := [(none, 0)]) ⟨⟨rfl, by kernel_rfl⟩, trivial⟩) (DAll.op' (sp_neq rfl rfl rfl) ⟨_, rfl, rfl⟩ rfl (From.ok (ps := []) trivial) (DAll.op' (sp_pickF rfl rfl rfl) trivial rfl (From.ok (ps := []) trivial) (DAll.op' (sp_castB h71 (sp_move rfl rfl)) trivial rfl (From.ok (ps := []) trivial) (.skip ⟨_, rfl, .inl rfl⟩ rfl rfl rfl (.skip ⟨_, rfl, .inl rfl⟩ rfl rfl rfl (.skip ⟨_, rfl, .inl rfl⟩ rfl rfl rfl (.skip ⟨_, rfl, .inl rfl⟩ rfl rfl rfl (.skip ⟨_, rfl, .inl rfl⟩ rfl rfl rfl (.skip ⟨_, rfl, .inl rfl⟩ rfl rfl rfl (.nil)))))))))))))))))))
              refine opSkip rfl ⟨_, rfl, .inl rfl⟩ rfl ?_
              refine op0 (sp_pickT rfl rfl rfl) rfl trivial rfl rfl ?_
              refine TL.nil ?_
              refine TC.condT rfl ?_
              refine TC.seq ?_
              refine TC.region ?_
              refine op0 (sp_assign rfl rfl) rfl trivial rfl rfl ?_
              refine TL.nil ?_
              cases h
              exact retJ [] (.tmp rfl .nil) rfl trivial rfl rfl
            · obtain ⟨x52, h72, h73, h⟩ := idx_inv h
              obtain ⟨h74, h⟩ := chk_inv h
              refine drawJ 19 [⟨.val (.int .i64 r51.2.2), [], [], []⟩, ⟨.val (.bool (r51.2.2 != 0)), [], [], []⟩, ⟨.val (.bool false), [], [], []⟩, ⟨.val (.int .i64 r51.1), [], [], []⟩, ⟨.val (.int .i64 i8), [], [], []⟩, ⟨.val (.bool (r51.1 != i8)), [], [], []⟩, ⟨.val (.bool (r51.1 != i8)), [], [], []⟩, ⟨.val (.bool false), [], [], []⟩, ⟨.ref 22, [], [], []⟩, ⟨.val (.int .i64 (r51.2.1.length : Int)), [], [.row 22 3 1 (List.map en_int r51.2.1)], []⟩, ⟨.val (.bool ((r51.2.1.length : Int) != 1)), [], [], []⟩, ⟨.val (.bool ((r51.2.1.length : Int) != 1)), [], [], []⟩, ⟨.val (.bool false), [], [], []⟩, ⟨.ref 22, [], [], []⟩, ⟨.cell 22 ((0 : Int).toNat * 1), [], [.row 22 3 1 (List.map en_int r51.2.1)], []⟩, ⟨.val (.int .i64 x52), [], [.row 22 3 1 (List.map en_int r51.2.1)], []⟩, ⟨.val (.int .i64 i9), [], [], []⟩, ⟨.val (.int .i64 r6), [], [], []⟩, ⟨.val (.int .i64 (Int.tmod i9 r6)), [], [], []⟩] rfl ?_ rfl ?_ rfl ?_ ?_
              · kernel_rfl
              · kernel_rfl
              · exact DAll.op' (sp_move rfl rfl) trivial rfl (From.ok (ps := []) trivial) (DAll.op' (sp_neq rfl rfl rfl) trivial rfl (From.ok (ps := []) trivial) (DAll.op' (sp_castB h69 (sp_move rfl rfl)) trivial rfl (From.ok (ps := []) trivial) (DAll.op' (sp_move rfl rfl) ⟨_, rfl, rfl⟩ rfl (From.ok (ps := []) trivial) (DAll.op' (sp_move rfl rfl) ⟨_, rfl, rfl⟩ rfl (From.ok (ps := []) trivial) (DAll.op' (sp_neq rfl rfl rfl) ⟨_, rfl, rfl⟩ rfl (From.ok (ps := []) trivial) (DAll.op' (sp_pickF rfl rfl rfl) trivial rfl (From.ok (ps := []) trivial) (DAll.op' (sp_castB h70 (sp_move rfl rfl)) trivial rfl (From.ok (ps := []) trivial) (DAll.op' (sp_move rfl rfl) ⟨_, rfl, rfl⟩ rfl (From.ok (ps := []) trivial) (DAll.op' (sp_lenM (N := r51.2.1.length) (len_map _ _) rfl rfl isOwn Try.underlying39) ⟨_, rfl, rfl⟩ rfl (From.ok (ps := [(none, 0)]) ⟨⟨rfl, by kernel_rfl⟩, trivial⟩) (DAll.op' (sp_neq rfl rfl rfl) ⟨_, rfl, rfl⟩ rfl (From.ok (ps := []) trivial) (DAll.op' (sp_pickF rfl rfl rfl) trivial rfl (From.ok (ps := []) trivial) (DAll.op' (sp_castB h71 (sp_move rfl rfl)) trivial rfl (From.ok (ps := []) trivial) (DAll.op' (sp_move rfl rfl) ⟨_, rfl, rfl⟩ rfl (From.ok (ps := []) trivial) (DAll.op' (sp_indexS rfl rfl rfl isOwn sl39 h72 (map_get _ h73)) ⟨_, rfl, rfl⟩ rfl (From.ok (ps := [(none, 0)]) ⟨⟨rfl, by kernel_rfl⟩, trivial⟩) (DAll.op' (sp_loadR (i := (0 : Int).toNat) (j := 0) rfl rfl isOwn vt3 rfl (map_get _ h73) rfl (.v (.nil)) (nodup_of_B rfl)) ⟨_, rfl, rfl⟩ rfl (From.ok (ps := [(none, 0)]) ⟨⟨rfl, by kernel_rfl⟩, trivial⟩) (DAll.op' (sp_move rfl rfl) ⟨_, rfl, rfl⟩ rfl (From.ok (ps := []) trivial) (DAll.op' (sp_move rfl rfl) ⟨_, rfl, rfl⟩ rfl (From.ok (ps := []) trivial) (DAll.op' (sp_rem rfl rfl rfl h74) ⟨_, rfl, rfl⟩ rfl (From.ok (ps := []) trivial) (.nil)))))))))))))))))))
              refine op0 (sp_neq rfl rfl rfl) rfl ⟨_, rfl, rfl⟩ rfl rfl ?_
              refine op0 (sp_pickF rfl rfl rfl) rfl trivial rfl rfl ?_
              refine TL.nil ?_
              refine TC.cond (b := (x52 != (Int.tmod i9 r6))) rfl (fun h75 => ?_) (fun h75 => ?_)
              · have h := cond_t h h75
                refine TC.seq ?_
                refine TC.region ?_
                refine op0 (sp_assign rfl rfl) rfl trivial rfl rfl ?_
                refine TL.nil ?_
                cases h
                exact retJ [] (.tmp rfl .nil) rfl trivial rfl rfl
              · have h := cond_f h h75
                refine subJ [] (ok_law05_StrikeRacks_j6 h) ?_ ?_ ?_
                · exact ⟨rfl, rfl, rfl, rfl, trivial⟩
                · exact ⟨mem_at 4 rfl, mem_at 6 rfl, mem_at 7 rfl, trivial⟩
                · rfl
      · have h := cond_f h h66
        refine TC.skip ?_
        refine TC.seq ?_
        refine subJ [] (ok_law05_StrikeRacks_j7 h) ?_ ?_ ?_
        · exact ⟨rfl, rfl, rfl, rfl, trivial⟩
        · exact ⟨mem_at 2 rfl, mem_at 4 rfl, mem_at 5 rfl, trivial⟩
        · rfl
def ev_law05_StrikeRacks (n : Nat) (w1 : Bool) (w2 : Int) (w3 : Int) (at_4 : Int) (by_5 : List Int) : Option Bool :=
  (ev_law05_Wheel_places n w1 w2 w3).bind fun r6 => (ev_law05_Wheel_rules n w1 w2 w3).bind fun r7 => chk (in64 at_4) <| ev_law05_StrikeRacks_l0 n at_4 r6 n 0 at_4 0 by_5 w1 w2 w3 r7.1 true ([] : List (Int × Int)) ([] : List (Int × Bool)) r7.2.2
set_option maxRecDepth 100000 in
set_option maxHeartbeats 2000000 in
theorem fc_law05_StrikeRacks {n : Nat} {w1 : Bool} {w2 : Int} {w3 : Int} {at_4 : Int} {by_5 : List Int} {r : Bool} (h : ev_law05_StrikeRacks n w1 w2 w3 at_4 by_5 = some r) : FC Try.prog 11 [.agg [.val (.bool w1), .val (.int .u8 w2), .val (.int .u8 w3)], .val (.int .u8 at_4), .ref 0] [.ro 0 1 (List.map en_uint8 by_5)] (.val (.bool r)) [] := by
  refine introJ (nz := 229) Try.func11 rfl rfl rfl (fun w0 R0 env0 => ?_)
  rw [ev_law05_StrikeRacks] at h
  refine TC.seq ?_
  refine TC.region ?_
  refine op0 (sp_box 1 rfl rfl rfl rfl rfl) rfl trivial rfl rfl ?_
  refine op0 (sp_assign rfl rfl) rfl trivial rfl rfl ?_
  refine TL.nil ?_
  refine TC.seq ?_
  obtain ⟨r6, h1, h⟩ := bind_inv h
  obtain ⟨r7, h2, h⟩ := bind_inv h
  obtain ⟨h3, h⟩ := chk_inv h
  refine drawJ 9 [⟨.agg [.val (.bool w1), .val (.int .u8 w2), .val (.int .u8 w3)], [], [.blk 1 [.val (.bool w1), .val (.int .u8 w2), .val (.int .u8 w3)] 64], []⟩, ⟨.val (.int .i64 r6), [], [], []⟩, ⟨.agg [.val (.bool w1), .val (.int .u8 w2), .val (.int .u8 w3)], [], [.blk 1 [.val (.bool w1), .val (.int .u8 w2), .val (.int .u8 w3)] 64], []⟩, ⟨.agg [.val (.bool r7.1), .val (.bool r7.2.1), .ref 2], [.row 2 81 2 (List.map en_api_Span r7.2.2)], [], []⟩, ⟨.val (.int .u8 at_4), [], [], []⟩, ⟨.val (.int .i64 at_4), [], [], []⟩, ⟨.ptr 3 0, [.blk 3 [.val (.bool false), .val (.bool false), .val (.slice none 0 0)] 24], [], []⟩, ⟨.val (.int .i64 r6), [], [], []⟩, ⟨.val (undef), [.blk 3 [.val (.bool r7.1), .val (.bool r7.2.1), .ref 2] 24], [], [.blk 3 [.val (.bool false), .val (.bool false), .val (.slice none 0 0)] 24]⟩] rfl ?_ rfl ?_ rfl ?_ ?_
  · kernel_rfl
  · kernel_rfl
  · exact DAll.op' (sp_loadBA rfl isBlk rfl vt64 rfl rfl) trivial rfl (From.ok (ps := [(none, 0)]) ⟨⟨rfl, by kernel_rfl⟩, trivial⟩) (DAll.op' (sp_call (avs := [.agg [.val (.bool w1), .val (.int .u8 w2), .val (.int .u8 w3)]]) (need := []) (v := .val (.int .i64 r6)) (news := []) rfl rfl rfl Try.call34 (atJ [] [] (fc_law05_Wheel_places h1) rfl rfl) (.inl (roAll rfl))) trivial rfl (From.ok (ps := []) trivial) (DAll.op' (sp_loadBA rfl isBlk rfl vt64 rfl rfl) trivial rfl (From.ok (ps := [(none, 0)]) ⟨⟨rfl, by kernel_rfl⟩, trivial⟩) (DAll.op' (sp_call (avs := [.agg [.val (.bool w1), .val (.int .u8 w2), .val (.int .u8 w3)]]) (need := []) (v := .agg [.val (.bool r7.1), .val (.bool r7.2.1), .ref 2]) (news := [.row 2 81 2 (List.map en_api_Span r7.2.2)]) rfl rfl rfl Try.call38 (atJ [] [(0, 2)] (fc_law05_Wheel_rules h2) rfl rfl) (.inl (roAll rfl))) trivial rfl (From.ok (ps := []) trivial) (DAll.op' (sp_move rfl rfl) trivial rfl (From.ok (ps := []) trivial) (DAll.op' (sp_conv rfl Try.underlying5 Try.underlying3 rfl h3) trivial rfl (From.ok (ps := []) trivial) (DAll.op' (sp_alloc 3 rfl Try.zeroValue24 rfl) trivial rfl (From.ok (ps := []) trivial) (DAll.op' (sp_assign rfl rfl) trivial rfl (From.ok (ps := []) trivial) (DAll.opT (ts_storeB (off := 0) (cells' := [.val (.bool r7.1), .val (.bool r7.2.1), .ref 2]) rfl rfl rfl rfl vt24 rfl rfl rfl) trivial (From.ok (ps := [(some 6, 0)]) ⟨⟨_, rfl, by kernel_rfl, rfl, by kernel_rfl⟩, trivial⟩) (From.ok (ps := []) trivial) (.nil)))))))))
  refine op0 (sp_assign rfl rfl) rfl trivial rfl rfl ?_
  refine TL.nil ?_
  refine TC.seq ?_
  refine TC.region ?_
  refine op1 0 rfl (sp_fieldAddrB rfl isBlk rfl ft24_1 vt4 (by decide)) rfl trivial rfl rfl ?_
  refine stoB 0 (cells' := [.val (.bool r7.1), .val (.bool true), .ref 2]) rfl rfl trivial rfl rfl rfl rfl vt4 rfl rfl rfl ?_
  refine TL.nil ?_
  refine TC.seq ?_
  refine TC.region ?_
  refine op0 (sp_emptyM 4 (List.map en_api_StrikeHeard []) rfl rfl sl37) rfl trivial rfl rfl ?_
  refine op0 (sp_emptyM 5 (List.map en_api_StrikeStep []) rfl rfl sl50) rfl trivial rfl rfl ?_
  refine op0 (sp_assign rfl rfl) rfl trivial rfl rfl ?_
  refine op0 (sp_assign rfl rfl) rfl trivial rfl rfl ?_
  refine op0 (sp_assign rfl rfl) rfl trivial rfl rfl ?_
  refine TL.nil ?_
  refine TC.seq ?_
  refine TC.region ?_
  refine op0 (sp_move rfl rfl) rfl trivial rfl rfl ?_
  refine op0 (sp_assign rfl rfl) rfl trivial rfl rfl ?_
  refine TL.nil ?_
  refine TC.seq ?_
  refine TC.seq ?_
  refine TC.region ?_
  refine op0 (sp_assign rfl rfl) rfl trivial rfl rfl ?_
  refine TL.nil ?_
  refine TC.block ?_
  refine TC.loop ?_
  refine TC.seq ?_
  refine TC.seq ?_
  refine subJ [] (ok_law05_StrikeRacks_l0 _ _ _ _ _ _ _ _ _ _ _ _ _ h) ?_ ?_ ?_
  · exact ⟨rfl, rfl, rfl, rfl, rfl, rfl, rfl, rfl, rfl, rfl, trivial⟩
  · exact ⟨mem_at 5 rfl, mem_at 4 rfl, mem_at 2 rfl, mem_at 1 rfl, mem_at 0 rfl, mem_at 3 rfl, trivial⟩
  · rfl
end
end Go.Proofs.Ytglgkcfgjaoabaa.Sy
