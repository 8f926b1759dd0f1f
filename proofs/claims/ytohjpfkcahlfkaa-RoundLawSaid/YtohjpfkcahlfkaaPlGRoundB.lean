/- What functions of the program compute, and that they do: printed by symgen.py. -/
import Derived.Test.YtohjpfkcahlfkaaPlGLib
import Derived.Test.YtohjpfkcahlfkaaPlGRoundA
set_option linter.unusedSimpArgs false
set_option linter.unusedVariables false
namespace Go.Proofs.Ytohjpfkcahlfkaa.Sy
open Go.RowKit
noncomputable section
set_option maxRecDepth 100000
set_option maxHeartbeats 2000000
def ev_p_round_search_try_j5 (n : Nat) (l95 : List (Int × Int × Int × Int × Int)) (l96 : List ((List Int))) (l97 : List (Int × Int × Int × Int)) (i83 : Int) (i84 : Int) (i85 : Int) (i86 : Int) (i87 : Int) (i88 : Int) (i89 : Int) (i90 : Int) (i91 : Int) (i92 : Int) (i93 : Int) (i78 : Int) (l82 : List Int) (i79 : Int) (l94 : List Int) (i80 : Int) (b81 : Bool) (self : Int → (List Int) → Int → Bool → (List (Int × Int × Int × Int × Int)) → (List ((List Int))) → (List (Int × Int × Int × Int)) → Int → Int → Int → Int → Int → Int → Int → Int → Int → Int → Int → (List Int) → Option (Int × (List Int) × Int × Bool)) (k_p_round_search_try_l4 : Int → Int → Int → Bool → (List Int) → Int → Int → Int → Int → Int → Int → Int → Int → Int → Int → Int → (List Int) → (List (Int × Int × Int × Int × Int)) → (List ((List Int))) → (List (Int × Int × Int × Int)) → Option (Int × (List Int) × Int × Bool)) : Option (Int × (List Int) × Int × Bool) :=
  (ev_p_round_walker_step n l95 l96 l97 i83 i84 i85 i86 i87 i88 i89 i90 i91 i92 i93 i78).bind fun r100 => cond (r100.1 == 0) ((ev_slices_Clip_Lint_int n l82).bind fun r101 => chk (Nat.blt 0 ([i78] : List Int).length) <| chk (room 8 (r101.length + ([i78] : List Int).length)) <| (self i79 l94 i80 b81 r100.2.1 r100.2.2.1 r100.2.2.2.1 r100.2.2.2.2.1 r100.2.2.2.2.2.1 r100.2.2.2.2.2.2.1 r100.2.2.2.2.2.2.2.1 r100.2.2.2.2.2.2.2.2.1 r100.2.2.2.2.2.2.2.2.2.1 r100.2.2.2.2.2.2.2.2.2.2.1 r100.2.2.2.2.2.2.2.2.2.2.2.1 r100.2.2.2.2.2.2.2.2.2.2.2.2.1 r100.2.2.2.2.2.2.2.2.2.2.2.2.2.1 r100.2.2.2.2.2.2.2.2.2.2.2.2.2.2 (r101 ++ ([i78] : List Int))).bind fun r102 => chk (in64 (i78 + 1)) <| k_p_round_search_try_l4 (i78 + 1) r102.1 r102.2.2.1 r102.2.2.2 l82 i83 i84 i85 i86 i87 i88 i89 i90 i91 i92 i93 r102.2.1 l95 l96 l97) (chk (in64 (i78 + 1)) <| k_p_round_search_try_l4 (i78 + 1) i79 i80 b81 l82 i83 i84 i85 i86 i87 i88 i89 i90 i91 i92 i93 l94 l95 l96 l97)
theorem ok_p_round_search_try_j5 {n : Nat} {w0 : World} {M0 R0 : Nat → Prop} {env0 : Env} {df : List Deferred} {r : Int × (List Int) × Int × Bool} {b77 : Bool} {l95 : List (Int × Int × Int × Int × Int)} {l96 : List ((List Int))} {l97 : List (Int × Int × Int × Int)} {i83 : Int} {i84 : Int} {i85 : Int} {i86 : Int} {i87 : Int} {i88 : Int} {i89 : Int} {i90 : Int} {i91 : Int} {i92 : Int} {i93 : Int} {i78 : Int} {l82 : List Int} {i79 : Int} {l94 : List Int} {i80 : Int} {b81 : Bool} {self : Int → (List Int) → Int → Bool → (List (Int × Int × Int × Int × Int)) → (List ((List Int))) → (List (Int × Int × Int × Int)) → Int → Int → Int → Int → Int → Int → Int → Int → Int → Int → Int → (List Int) → Option (Int × (List Int) × Int × Bool)} {k_p_round_search_try_l4 : Int → Int → Int → Bool → (List Int) → Int → Int → Int → Int → Int → Int → Int → Int → Int → Int → Int → (List Int) → (List (Int × Int × Int × Int × Int)) → (List ((List Int))) → (List (Int × Int × Int × Int)) → Option (Int × (List Int) × Int × Bool)} (hself : ∀ (s1z : Int) (s2z : List Int) (s3z : Int) (s4z : Bool) (w5z : List (Int × Int × Int × Int × Int)) (w6z : List ((List Int))) (w7z : List (Int × Int × Int × Int)) (w8z : Int) (w9z : Int) (w10z : Int) (w11z : Int) (w12z : Int) (w13z : Int) (w14z : Int) (w15z : Int) (w16z : Int) (w17z : Int) (w18z : Int) (steps19z : List Int) (r : Int × (List Int) × Int × Bool), self s1z s2z s3z s4z w5z w6z w7z w8z w9z w10z w11z w12z w13z w14z w15z w16z w17z w18z steps19z = some r → FT Try.prog 36 [.ptr 0 0, .agg [.ref 2, .ref 3, .ref 4, vi w8z, vi w9z, .val (.int .u16 w10z), vi w11z, vi w12z, vi w13z, vi w14z, vi w15z, vi w16z, vi w17z, vi w18z], .ref 5] [.blk 0 [vi s1z, .ref 1, vi s3z, .val (.bool s4z)] 97] [.ro 1 1 (List.map en_int s2z), .ro 2 5 (List.map en_api_RoundTower w5z), .ro 3 1 (List.map en_Lint w6z), .ro 4 4 (List.map en_api_RoundWinder w7z), .ro 5 1 (List.map en_int steps19z)] (.tup []) [.ro 500 1 (List.map en_int r.2.1), .blk 0 [vi r.1, .ref 500, vi r.2.2.1, .val (.bool r.2.2.2)] 97]) (hk_p_round_search_try_l4 : ∀ (i78 : Int) (i79 : Int) (i80 : Int) (b81 : Bool) (l82 : List Int) (i83 : Int) (i84 : Int) (i85 : Int) (i86 : Int) (i87 : Int) (i88 : Int) (i89 : Int) (i90 : Int) (i91 : Int) (i92 : Int) (i93 : Int) (l94 : List Int) (l95 : List (Int × Int × Int × Int × Int)) (l96 : List ((List Int))) (l97 : List (Int × Int × Int × Int)), k_p_round_search_try_l4 i78 i79 i80 b81 l82 i83 i84 i85 i86 i87 i88 i89 i90 i91 i92 i93 l94 l95 l96 l97 = some r → TC Try.prog ⟨w0, M0, R0⟩ ⟨118, none, df⟩ (bodyPostM Fence.wide 0 Try.prog Try.f36 (PostT ⟨w0, M0, R0⟩ env0 [0] (.tup []) [.ro 500 1 (List.map en_int r.2.1), .blk 0 [vi r.1, .ref 500, vi r.2.2.1, .val (.bool r.2.2.2)] 97])) [.code (sub (bodyOf Try.f36) [1, 1, 1, 1, 1, 0, 0, 0, 0]), .code (sub (bodyOf Try.f36) [1, 1, 1, 1, 1, 0, 0, 0, 1]), .code (sub (bodyOf Try.f36) [1, 1, 1, 1, 1, 0, 0, 1]), .inLoop (sub (bodyOf Try.f36) [1, 1, 1, 1, 1, 0, 0]), .inBlock 0] ([(0, .ptr 0 0), (2, .ref 5), (4, .ptr 8 0), (7, .val (.bool b77)), (8, vi i78)]) ([.blk 0 [vi i79, .ref 13, vi i80, .val (.bool b81)] 97, .ro 5 1 (List.map en_int l82), .blk 8 [.ref 2, .ref 3, .ref 4, vi i83, vi i84, .val (.int .u16 i85), vi i86, vi i87, vi i88, vi i89, vi i90, vi i91, vi i92, vi i93] 100, .ro 13 1 (List.map en_int l94), .ro 2 5 (List.map en_api_RoundTower l95), .ro 3 1 (List.map en_Lint l96), .ro 4 4 (List.map en_api_RoundWinder l97), .inv 6 (marksI df), .pin 7 0 (env0 0)])) (h : ev_p_round_search_try_j5 n l95 l96 l97 i83 i84 i85 i86 i87 i88 i89 i90 i91 i92 i93 i78 l82 i79 l94 i80 b81 self k_p_round_search_try_l4 = some r) : TC Try.prog ⟨w0, M0, R0⟩ ⟨118, none, df⟩ (bodyPostM Fence.wide 0 Try.prog Try.f36 (PostT ⟨w0, M0, R0⟩ env0 [0] (.tup []) [.ro 500 1 (List.map en_int r.2.1), .blk 0 [vi r.1, .ref 500, vi r.2.2.1, .val (.bool r.2.2.2)] 97])) [.code (sub (bodyOf Try.f36) [1, 1, 1, 1, 1, 0, 0, 1, 0, 0, 0, 1, 1]), .code (sub (bodyOf Try.f36) [1, 1, 1, 1, 1, 0, 0, 1, 0, 0, 1]), .inBlock 1, .code (sub (bodyOf Try.f36) [1, 1, 1, 1, 1, 0, 0, 1, 1]), .inLoop (sub (bodyOf Try.f36) [1, 1, 1, 1, 1, 0, 0]), .inBlock 0] ([(0, .ptr 0 0), (2, .ref 5), (4, .ptr 8 0), (7, .val (.bool b77)), (8, vi i78)]) ([.blk 0 [vi i79, .ref 13, vi i80, .val (.bool b81)] 97, .ro 5 1 (List.map en_int l82), .blk 8 [.ref 2, .ref 3, .ref 4, vi i83, vi i84, .val (.int .u16 i85), vi i86, vi i87, vi i88, vi i89, vi i90, vi i91, vi i92, vi i93] 100, .ro 13 1 (List.map en_int l94), .ro 2 5 (List.map en_api_RoundTower l95), .ro 3 1 (List.map en_Lint l96), .ro 4 4 (List.map en_api_RoundWinder l97), .inv 6 (marksI df), .pin 7 0 (env0 0)]) := by
  rw [ev_p_round_search_try_j5] at h
  refine TC.skip ?_
  refine TC.seq ?_
  refine TC.region ?_
  refine op1 2 rfl (sp_loadBA rfl isBlk rfl vt100 rfl rfl) rfl trivial rfl rfl ?_
  refine op0 (sp_alloc 14 rfl Try.zeroValue100 rfl) rfl trivial rfl rfl ?_
  refine stoB 0 (cells' := [.ref 2, .ref 3, .ref 4, vi i83, vi i84, .val (.int .u16 i85), vi i86, vi i87, vi i88, vi i89, vi i90, vi i91, vi i92, vi i93]) rfl rfl trivial rfl rfl rfl rfl vt100 rfl rfl rfl ?_
  refine TL.nil ?_
  refine TC.seq ?_
  refine TC.region ?_
  refine op0 (sp_move rfl rfl) rfl trivial rfl rfl ?_
  obtain ⟨r100, h23, h⟩ := bind_inv h
  refine opT (take := [.blk 14 [.ref 2, .ref 3, .ref 4, vi i83, vi i84, .val (.int .u16 i85), vi i86, vi i87, vi i88, vi i89, vi i90, vi i91, vi i92, vi i93] 100]) (need := [.ro 2 5 (List.map en_api_RoundTower l95), .ro 3 1 (List.map en_Lint l96), .ro 4 4 (List.map en_api_RoundWinder l97)]) (V' := [.ro 15 5 (List.map en_api_RoundTower r100.2.1), .ro 16 1 (List.map en_Lint r100.2.2.1), .ro 17 4 (List.map en_api_RoundWinder r100.2.2.2.1), .blk 14 [.ref 15, .ref 16, .ref 17, vi r100.2.2.2.2.1, vi r100.2.2.2.2.2.1, .val (.int .u16 r100.2.2.2.2.2.2.1), vi r100.2.2.2.2.2.2.2.1, vi r100.2.2.2.2.2.2.2.2.1, vi r100.2.2.2.2.2.2.2.2.2.1, vi r100.2.2.2.2.2.2.2.2.2.2.1, vi r100.2.2.2.2.2.2.2.2.2.2.2.1, vi r100.2.2.2.2.2.2.2.2.2.2.2.2.1, vi r100.2.2.2.2.2.2.2.2.2.2.2.2.2.1, vi r100.2.2.2.2.2.2.2.2.2.2.2.2.2.2] 100, .blk 0 [vi i79, .ref 13, vi i80, .val (.bool b81)] 97, .ro 5 1 (List.map en_int l82), .blk 8 [.ref 2, .ref 3, .ref 4, vi i83, vi i84, .val (.int .u16 i85), vi i86, vi i87, vi i88, vi i89, vi i90, vi i91, vi i92, vi i93] 100, .ro 13 1 (List.map en_int l94), .ro 2 5 (List.map en_api_RoundTower l95), .ro 3 1 (List.map en_Lint l96), .ro 4 4 (List.map en_api_RoundWinder l97), .inv 6 (marksI df), .pin 7 0 (env0 0)]) [0] [5, 6, 7] (ts_call (avs := [.ptr 14 0, vi i78]) (take := [.blk 14 [.ref 2, .ref 3, .ref 4, vi i83, vi i84, .val (.int .u16 i85), vi i86, vi i87, vi i88, vi i89, vi i90, vi i91, vi i92, vi i93] 100]) (need := [.ro 2 5 (List.map en_api_RoundTower l95), .ro 3 1 (List.map en_Lint l96), .ro 4 4 (List.map en_api_RoundWinder l97)]) (v := vi r100.1) (news := [.ro 15 5 (List.map en_api_RoundTower r100.2.1), .ro 16 1 (List.map en_Lint r100.2.2.1), .ro 17 4 (List.map en_api_RoundWinder r100.2.2.2.1), .blk 14 [.ref 15, .ref 16, .ref 17, vi r100.2.2.2.2.1, vi r100.2.2.2.2.2.1, .val (.int .u16 r100.2.2.2.2.2.2.1), vi r100.2.2.2.2.2.2.2.1, vi r100.2.2.2.2.2.2.2.2.1, vi r100.2.2.2.2.2.2.2.2.2.1, vi r100.2.2.2.2.2.2.2.2.2.2.1, vi r100.2.2.2.2.2.2.2.2.2.2.2.1, vi r100.2.2.2.2.2.2.2.2.2.2.2.2.1, vi r100.2.2.2.2.2.2.2.2.2.2.2.2.2.1, vi r100.2.2.2.2.2.2.2.2.2.2.2.2.2.2] 100]) rfl rfl rfl Try.call38 (atT [(0, 14), (1, 2), (2, 3), (3, 4)] [(500, 15), (501, 16), (502, 17), (0, 14)] (ft_p_round_walker_step h23) rfl rfl rfl) rfl rfl) trivial rfl ⟨rfl, trivial⟩ ⟨rfl, rfl, rfl, trivial⟩ rfl rfl ?_
  refine op0 (sp_eql rfl rfl rfl) rfl trivial rfl rfl ?_
  refine TL.nil ?_
  refine TC.cond (b := (r100.1 == 0)) rfl (fun h24 => ?_) (fun h24 => ?_)
  · have h := cond_t h h24
    obtain ⟨r101, h25, h⟩ := bind_inv h
    obtain ⟨h26, h⟩ := chk_inv h
    obtain ⟨h27, h⟩ := chk_inv h
    refine drawJ 7 [⟨.ptr 0 0, [], [], []⟩, ⟨.agg [.ref 15, .ref 16, .ref 17, vi r100.2.2.2.2.1, vi r100.2.2.2.2.2.1, .val (.int .u16 r100.2.2.2.2.2.2.1), vi r100.2.2.2.2.2.2.2.1, vi r100.2.2.2.2.2.2.2.2.1, vi r100.2.2.2.2.2.2.2.2.2.1, vi r100.2.2.2.2.2.2.2.2.2.2.1, vi r100.2.2.2.2.2.2.2.2.2.2.2.1, vi r100.2.2.2.2.2.2.2.2.2.2.2.2.1, vi r100.2.2.2.2.2.2.2.2.2.2.2.2.2.1, vi r100.2.2.2.2.2.2.2.2.2.2.2.2.2.2], [], [.blk 14 [.ref 15, .ref 16, .ref 17, vi r100.2.2.2.2.1, vi r100.2.2.2.2.2.1, .val (.int .u16 r100.2.2.2.2.2.2.1), vi r100.2.2.2.2.2.2.2.1, vi r100.2.2.2.2.2.2.2.2.1, vi r100.2.2.2.2.2.2.2.2.2.1, vi r100.2.2.2.2.2.2.2.2.2.2.1, vi r100.2.2.2.2.2.2.2.2.2.2.2.1, vi r100.2.2.2.2.2.2.2.2.2.2.2.2.1, vi r100.2.2.2.2.2.2.2.2.2.2.2.2.2.1, vi r100.2.2.2.2.2.2.2.2.2.2.2.2.2.2] 100], []⟩, ⟨.ref 5, [], [], []⟩, ⟨.ref 18, [.any 18 (D.clip 1 (List.map en_int r101))], [.ro 5 1 (List.map en_int l82)], []⟩, ⟨vi i78, [], [], []⟩, ⟨.ref 19, [.row 19 3 1 (List.map en_int ([i78] : List Int))], [], []⟩, ⟨.ref 20, [.row 20 3 1 (List.map en_int (r101 ++ ([i78] : List Int)))], [.any 18 (D.clip 1 (List.map en_int r101)), .row 19 3 1 (List.map en_int ([i78] : List Int))], []⟩] rfl ?_ rfl ?_ rfl ?_ ?_
    · kernel_rfl
    · kernel_rfl
    · exact DAll.op' (sp_move rfl rfl) trivial rfl (From.ok (ps := []) trivial) (DAll.op' (sp_loadBA rfl isBlk rfl vt100 rfl rfl) trivial rfl (From.ok (ps := [(none, 3)]) ⟨⟨rfl, rfl⟩, trivial⟩) (DAll.op' (sp_move rfl rfl) trivial rfl (From.ok (ps := []) trivial) (DAll.op' (sp_call (avs := [.ref 5]) (need := [.ro 5 1 (List.map en_int l82)]) (v := .ref 18) (news := [.any 18 (D.clip 1 (List.map en_int r101))]) rfl rfl rfl Try.call58 (atJ [(0, 5)] [(0, 18)] (fc_slices_Clip_Lint_int h25) rfl rfl) (.inl (roAll rfl))) trivial rfl (From.ok (ps := [(none, 5)]) ⟨⟨rfl, rfl⟩, trivial⟩) (DAll.op' (sp_move rfl rfl) trivial rfl (From.ok (ps := []) trivial) (DAll.op' (sp_buildSlice (qs := [vi i78]) (need := []) (els := List.map en_int ([i78] : List Int)) 19 rfl sl30 (by decide) (by decide) rfl rfl rfl (.v (.nil)) (map_len fun _ => rfl) rfl rfl rfl) trivial rfl (From.ok (ps := []) trivial) (DAll.op' (sp_appClip (N := r101.length) (N2 := ([i78] : List Int).length) 20 rfl rfl rfl isOwn sl30 (len_map _ _) (len_map _ _) h26 h27 (map_app _ _ _)) trivial rfl (From.ok (ps := [(some 3, 0), (some 5, 0)]) ⟨⟨_, rfl, rfl, rfl, rfl⟩, ⟨_, rfl, rfl, rfl, rfl⟩, trivial⟩) (.nil)))))))
    refine TL.freeze 0 rfl ?_
    obtain ⟨r102, h28, h⟩ := bind_inv h
    refine opT (take := [.blk 0 [vi i79, .ref 13, vi i80, .val (.bool b81)] 97]) (need := [.ro 13 1 (List.map en_int l94), .ro 15 5 (List.map en_api_RoundTower r100.2.1), .ro 16 1 (List.map en_Lint r100.2.2.1), .ro 17 4 (List.map en_api_RoundWinder r100.2.2.2.1), .ro 20 1 (List.map en_int (r101 ++ ([i78] : List Int)))]) (V' := [.ro 21 1 (List.map en_int r102.2.1), .blk 0 [vi r102.1, .ref 21, vi r102.2.2.1, .val (.bool r102.2.2.2)] 97, .ro 20 1 (List.map en_int (r101 ++ ([i78] : List Int))), .row 19 3 1 (List.map en_int ([i78] : List Int)), .any 18 (D.clip 1 (List.map en_int r101)), .ro 15 5 (List.map en_api_RoundTower r100.2.1), .ro 16 1 (List.map en_Lint r100.2.2.1), .ro 17 4 (List.map en_api_RoundWinder r100.2.2.2.1), .blk 14 [.ref 15, .ref 16, .ref 17, vi r100.2.2.2.2.1, vi r100.2.2.2.2.2.1, .val (.int .u16 r100.2.2.2.2.2.2.1), vi r100.2.2.2.2.2.2.2.1, vi r100.2.2.2.2.2.2.2.2.1, vi r100.2.2.2.2.2.2.2.2.2.1, vi r100.2.2.2.2.2.2.2.2.2.2.1, vi r100.2.2.2.2.2.2.2.2.2.2.2.1, vi r100.2.2.2.2.2.2.2.2.2.2.2.2.1, vi r100.2.2.2.2.2.2.2.2.2.2.2.2.2.1, vi r100.2.2.2.2.2.2.2.2.2.2.2.2.2.2] 100, .ro 5 1 (List.map en_int l82), .blk 8 [.ref 2, .ref 3, .ref 4, vi i83, vi i84, .val (.int .u16 i85), vi i86, vi i87, vi i88, vi i89, vi i90, vi i91, vi i92, vi i93] 100, .ro 13 1 (List.map en_int l94), .ro 2 5 (List.map en_api_RoundTower l95), .ro 3 1 (List.map en_Lint l96), .ro 4 4 (List.map en_api_RoundWinder l97), .inv 6 (marksI df), .pin 7 0 (env0 0)]) [7] [10, 3, 4, 5, 0] (ts_call (avs := [.ptr 0 0, .agg [.ref 15, .ref 16, .ref 17, vi r100.2.2.2.2.1, vi r100.2.2.2.2.2.1, .val (.int .u16 r100.2.2.2.2.2.2.1), vi r100.2.2.2.2.2.2.2.1, vi r100.2.2.2.2.2.2.2.2.1, vi r100.2.2.2.2.2.2.2.2.2.1, vi r100.2.2.2.2.2.2.2.2.2.2.1, vi r100.2.2.2.2.2.2.2.2.2.2.2.1, vi r100.2.2.2.2.2.2.2.2.2.2.2.2.1, vi r100.2.2.2.2.2.2.2.2.2.2.2.2.2.1, vi r100.2.2.2.2.2.2.2.2.2.2.2.2.2.2], .ref 20]) (take := [.blk 0 [vi i79, .ref 13, vi i80, .val (.bool b81)] 97]) (need := [.ro 13 1 (List.map en_int l94), .ro 15 5 (List.map en_api_RoundTower r100.2.1), .ro 16 1 (List.map en_Lint r100.2.2.1), .ro 17 4 (List.map en_api_RoundWinder r100.2.2.2.1), .ro 20 1 (List.map en_int (r101 ++ ([i78] : List Int)))]) (v := .tup []) (news := [.ro 21 1 (List.map en_int r102.2.1), .blk 0 [vi r102.1, .ref 21, vi r102.2.2.1, .val (.bool r102.2.2.2)] 97]) rfl rfl rfl Try.call36 (atT [(1, 13), (2, 15), (3, 16), (4, 17), (5, 20)] [(500, 21)] (hself _ _ _ _ _ _ _ _ _ _ _ _ _ _ _ _ _ _ _ _ h28) rfl rfl rfl) rfl rfl) trivial rfl ⟨rfl, trivial⟩ ⟨rfl, rfl, rfl, rfl, rfl, trivial⟩ rfl rfl ?_
    refine TL.nil ?_
    refine TC.inBlock ?_
    refine TC.region ?_
    refine op0 (sp_move rfl rfl) rfl trivial rfl rfl ?_
    obtain ⟨h29, h⟩ := chk_inv h
    refine op0 (sp_add rfl rfl rfl h29) rfl trivial rfl rfl ?_
    refine op0 (sp_assign rfl rfl) rfl trivial rfl rfl ?_
    refine TL.nil ?_
    refine TC.inLoop ?_
    refine TC.seq ?_
    refine TC.seq ?_
    refine subJ [(13, 21)] (hk_p_round_search_try_l4 _ _ _ _ _ _ _ _ _ _ _ _ _ _ _ _ _ _ _ _ h) ?_ ?_ ?_
    · exact ⟨rfl, rfl, rfl, rfl, rfl, trivial⟩
    · exact ⟨mem_at 1 rfl, mem_at 9 rfl, mem_at 10 rfl, mem_at 0 rfl, mem_at 12 rfl, mem_at 13 rfl, mem_at 14 rfl, mem_at 15 rfl, mem_at 16 rfl, trivial⟩
    · rfl
  · have h := cond_f h h24
    refine TC.skip ?_
    refine TC.inBlock ?_
    refine TC.region ?_
    refine op0 (sp_move rfl rfl) rfl trivial rfl rfl ?_
    obtain ⟨h30, h⟩ := chk_inv h
    refine op0 (sp_add rfl rfl rfl h30) rfl trivial rfl rfl ?_
    refine op0 (sp_assign rfl rfl) rfl trivial rfl rfl ?_
    refine TL.nil ?_
    refine TC.inLoop ?_
    refine TC.seq ?_
    refine TC.seq ?_
    refine subJ [] (hk_p_round_search_try_l4 _ _ _ _ _ _ _ _ _ _ _ _ _ _ _ _ _ _ _ _ h) ?_ ?_ ?_
    · exact ⟨rfl, rfl, rfl, rfl, rfl, trivial⟩
    · exact ⟨mem_at 4 rfl, mem_at 5 rfl, mem_at 6 rfl, mem_at 7 rfl, mem_at 8 rfl, mem_at 9 rfl, mem_at 10 rfl, mem_at 11 rfl, mem_at 12 rfl, trivial⟩
    · rfl
def ev_p_round_search_try_l4 (n : Nat) (b77 : Bool) (self : Int → (List Int) → Int → Bool → (List (Int × Int × Int × Int × Int)) → (List ((List Int))) → (List (Int × Int × Int × Int)) → Int → Int → Int → Int → Int → Int → Int → Int → Int → Int → Int → (List Int) → Option (Int × (List Int) × Int × Bool)) : Nat → Int → Int → Int → Bool → (List Int) → Int → Int → Int → Int → Int → Int → Int → Int → Int → Int → Int → (List Int) → (List (Int × Int × Int × Int × Int)) → (List ((List Int))) → (List (Int × Int × Int × Int)) → Option (Int × (List Int) × Int × Bool)
  | 0, _, _, _, _, _, _, _, _, _, _, _, _, _, _, _, _, _, _, _, _ => none
  | m + 1, i78, i79, i80, b81, l82, i83, i84, i85, i86, i87, i88, i89, i90, i91, i92, i93, l94, l95, l96, l97 => cond (decide (i78 < (l95.length : Int))) (cond (i78 == (-1)) (cond b77 (chk (in64 (i78 + 1)) <| ev_p_round_search_try_l4 n b77 self m (i78 + 1) i79 i80 b81 l82 i83 i84 i85 i86 i87 i88 i89 i90 i91 i92 i93 l94 l95 l96 l97) (cond (i78 != (-1)) ((ev_round_set_has n i79 i78).bind fun r98 => cond (!r98) (chk (in64 (i78 + 1)) <| ev_p_round_search_try_l4 n b77 self m (i78 + 1) i79 i80 b81 l82 i83 i84 i85 i86 i87 i88 i89 i90 i91 i92 i93 l94 l95 l96 l97) ((ev_round_set_has n i90 i78).bind fun r99 => cond r99 (chk (in64 (i78 + 1)) <| ev_p_round_search_try_l4 n b77 self m (i78 + 1) i79 i80 b81 l82 i83 i84 i85 i86 i87 i88 i89 i90 i91 i92 i93 l94 l95 l96 l97) (ev_p_round_search_try_j5 n l95 l96 l97 i83 i84 i85 i86 i87 i88 i89 i90 i91 i92 i93 i78 l82 i79 l94 i80 b81 self (fun i78q i79q i80q b81q l82q i83q i84q i85q i86q i87q i88q i89q i90q i91q i92q i93q l94q l95q l96q l97q => ev_p_round_search_try_l4 n b77 self m i78q i79q i80q b81q l82q i83q i84q i85q i86q i87q i88q i89q i90q i91q i92q i93q l94q l95q l96q l97q)))) (ev_p_round_search_try_j5 n l95 l96 l97 i83 i84 i85 i86 i87 i88 i89 i90 i91 i92 i93 i78 l82 i79 l94 i80 b81 self (fun i78q i79q i80q b81q l82q i83q i84q i85q i86q i87q i88q i89q i90q i91q i92q i93q l94q l95q l96q l97q => ev_p_round_search_try_l4 n b77 self m i78q i79q i80q b81q l82q i83q i84q i85q i86q i87q i88q i89q i90q i91q i92q i93q l94q l95q l96q l97q)))) (cond (i78 != (-1)) ((ev_round_set_has n i79 i78).bind fun r103 => cond (!r103) (chk (in64 (i78 + 1)) <| ev_p_round_search_try_l4 n b77 self m (i78 + 1) i79 i80 b81 l82 i83 i84 i85 i86 i87 i88 i89 i90 i91 i92 i93 l94 l95 l96 l97) ((ev_round_set_has n i90 i78).bind fun r104 => cond r104 (chk (in64 (i78 + 1)) <| ev_p_round_search_try_l4 n b77 self m (i78 + 1) i79 i80 b81 l82 i83 i84 i85 i86 i87 i88 i89 i90 i91 i92 i93 l94 l95 l96 l97) (ev_p_round_search_try_j5 n l95 l96 l97 i83 i84 i85 i86 i87 i88 i89 i90 i91 i92 i93 i78 l82 i79 l94 i80 b81 self (fun i78q i79q i80q b81q l82q i83q i84q i85q i86q i87q i88q i89q i90q i91q i92q i93q l94q l95q l96q l97q => ev_p_round_search_try_l4 n b77 self m i78q i79q i80q b81q l82q i83q i84q i85q i86q i87q i88q i89q i90q i91q i92q i93q l94q l95q l96q l97q)))) (ev_p_round_search_try_j5 n l95 l96 l97 i83 i84 i85 i86 i87 i88 i89 i90 i91 i92 i93 i78 l82 i79 l94 i80 b81 self (fun i78q i79q i80q b81q l82q i83q i84q i85q i86q i87q i88q i89q i90q i91q i92q i93q l94q l95q l96q l97q => ev_p_round_search_try_l4 n b77 self m i78q i79q i80q b81q l82q i83q i84q i85q i86q i87q i88q i89q i90q i91q i92q i93q l94q l95q l96q l97q)))) (some (i79, l94, i80, b81))
theorem ok_p_round_search_try_l4 {n : Nat} {w0 : World} {M0 R0 : Nat → Prop} {env0 : Env} {df : List Deferred} {r : Int × (List Int) × Int × Bool} {b77 : Bool} {self : Int → (List Int) → Int → Bool → (List (Int × Int × Int × Int × Int)) → (List ((List Int))) → (List (Int × Int × Int × Int)) → Int → Int → Int → Int → Int → Int → Int → Int → Int → Int → Int → (List Int) → Option (Int × (List Int) × Int × Bool)} (hself : ∀ (s1z : Int) (s2z : List Int) (s3z : Int) (s4z : Bool) (w5z : List (Int × Int × Int × Int × Int)) (w6z : List ((List Int))) (w7z : List (Int × Int × Int × Int)) (w8z : Int) (w9z : Int) (w10z : Int) (w11z : Int) (w12z : Int) (w13z : Int) (w14z : Int) (w15z : Int) (w16z : Int) (w17z : Int) (w18z : Int) (steps19z : List Int) (r : Int × (List Int) × Int × Bool), self s1z s2z s3z s4z w5z w6z w7z w8z w9z w10z w11z w12z w13z w14z w15z w16z w17z w18z steps19z = some r → FT Try.prog 36 [.ptr 0 0, .agg [.ref 2, .ref 3, .ref 4, vi w8z, vi w9z, .val (.int .u16 w10z), vi w11z, vi w12z, vi w13z, vi w14z, vi w15z, vi w16z, vi w17z, vi w18z], .ref 5] [.blk 0 [vi s1z, .ref 1, vi s3z, .val (.bool s4z)] 97] [.ro 1 1 (List.map en_int s2z), .ro 2 5 (List.map en_api_RoundTower w5z), .ro 3 1 (List.map en_Lint w6z), .ro 4 4 (List.map en_api_RoundWinder w7z), .ro 5 1 (List.map en_int steps19z)] (.tup []) [.ro 500 1 (List.map en_int r.2.1), .blk 0 [vi r.1, .ref 500, vi r.2.2.1, .val (.bool r.2.2.2)] 97]) : ∀ (m : Nat) (i78 : Int) (i79 : Int) (i80 : Int) (b81 : Bool) (l82 : List Int) (i83 : Int) (i84 : Int) (i85 : Int) (i86 : Int) (i87 : Int) (i88 : Int) (i89 : Int) (i90 : Int) (i91 : Int) (i92 : Int) (i93 : Int) (l94 : List Int) (l95 : List (Int × Int × Int × Int × Int)) (l96 : List ((List Int))) (l97 : List (Int × Int × Int × Int)), ev_p_round_search_try_l4 n b77 self m i78 i79 i80 b81 l82 i83 i84 i85 i86 i87 i88 i89 i90 i91 i92 i93 l94 l95 l96 l97 = some r → TC Try.prog ⟨w0, M0, R0⟩ ⟨118, none, df⟩ (bodyPostM Fence.wide 0 Try.prog Try.f36 (PostT ⟨w0, M0, R0⟩ env0 [0] (.tup []) [.ro 500 1 (List.map en_int r.2.1), .blk 0 [vi r.1, .ref 500, vi r.2.2.1, .val (.bool r.2.2.2)] 97])) [.code (sub (bodyOf Try.f36) [1, 1, 1, 1, 1, 0, 0, 0, 0]), .code (sub (bodyOf Try.f36) [1, 1, 1, 1, 1, 0, 0, 0, 1]), .code (sub (bodyOf Try.f36) [1, 1, 1, 1, 1, 0, 0, 1]), .inLoop (sub (bodyOf Try.f36) [1, 1, 1, 1, 1, 0, 0]), .inBlock 0] ([(0, .ptr 0 0), (2, .ref 5), (4, .ptr 8 0), (7, .val (.bool b77)), (8, vi i78)]) ([.blk 0 [vi i79, .ref 13, vi i80, .val (.bool b81)] 97, .ro 5 1 (List.map en_int l82), .blk 8 [.ref 2, .ref 3, .ref 4, vi i83, vi i84, .val (.int .u16 i85), vi i86, vi i87, vi i88, vi i89, vi i90, vi i91, vi i92, vi i93] 100, .ro 13 1 (List.map en_int l94), .ro 2 5 (List.map en_api_RoundTower l95), .ro 3 1 (List.map en_Lint l96), .ro 4 4 (List.map en_api_RoundWinder l97), .inv 6 (marksI df), .pin 7 0 (env0 0)]) := by
  intro m
  induction m with
  | zero => intro i78 i79 i80 b81 l82 i83 i84 i85 i86 i87 i88 i89 i90 i91 i92 i93 l94 l95 l96 l97 h; exact none_no h
  | succ m ih =>
    intro i78 i79 i80 b81 l82 i83 i84 i85 i86 i87 i88 i89 i90 i91 i92 i93 l94 l95 l96 l97 h
    rw [ev_p_round_search_try_l4] at h
    refine TC.region ?_
    refine op0 (sp_move rfl rfl) rfl trivial rfl rfl ?_
    refine op1 2 rfl (sp_fieldAddrB rfl isBlk rfl ft100_0 vt26 (by decide)) rfl trivial rfl rfl ?_
    refine op1 2 rfl (sp_fieldAddrB rfl isBlk rfl ft26_0 vt22 (by decide)) rfl trivial rfl rfl ?_
    refine op1 2 rfl (sp_loadB rfl isBlk rfl vt22 rfl) rfl trivial rfl rfl ?_
    refine op1 4 rfl (sp_lenM (N := l95.length) (len_map _ _) rfl rfl isRo Try.underlying22) rfl trivial rfl rfl ?_
    refine op0 (sp_lss rfl rfl rfl) rfl trivial rfl rfl ?_
    refine TL.nil ?_
    refine TC.cond (b := (decide (i78 < (l95.length : Int)))) rfl (fun h12 => ?_) (fun h12 => ?_)
    · have h := cond_t h h12
      refine TC.skip ?_
      refine TC.seq ?_
      refine TC.block ?_
      refine TC.seq ?_
      refine TC.seq ?_
      refine TC.region ?_
      refine op0 (sp_move rfl rfl) rfl trivial rfl rfl ?_
      refine op0 (sp_eql rfl rfl rfl) rfl trivial rfl rfl ?_
      refine op0 (sp_move rfl rfl) rfl trivial rfl rfl ?_
      rcases cond_cases h with ⟨h13, h⟩ | ⟨h13, h⟩
      · refine (boolLit 84 rfl h13).2 ?_
        refine op0 (sp_move rfl rfl) rfl ⟨_, rfl, rfl⟩ rfl rfl ?_
        refine op0 (sp_pickT rfl rfl rfl) rfl trivial rfl rfl ?_
        refine op0 (sp_move rfl rfl) rfl trivial rfl rfl ?_
        rcases cond_cases h with ⟨h14, h⟩ | ⟨h14, h⟩
        · refine (boolLit 87 rfl h14).2 ?_
          refine opSkip rfl ⟨_, rfl, .inl rfl⟩ rfl ?_
          refine opSkip rfl ⟨_, rfl, .inl rfl⟩ rfl ?_
          refine opSkip rfl ⟨_, rfl, .inl rfl⟩ rfl ?_
          refine opSkip rfl ⟨_, rfl, .inr rfl⟩ rfl ?_
          refine opSkip rfl ⟨_, rfl, .inr rfl⟩ rfl ?_
          refine opSkip rfl ⟨_, rfl, .inr rfl⟩ rfl ?_
          refine opSkip rfl ⟨_, rfl, .inr rfl⟩ rfl ?_
          refine opSkip rfl ⟨_, rfl, .inr rfl⟩ rfl ?_
          refine opSkip rfl ⟨_, rfl, .inr rfl⟩ rfl ?_
          refine opSkip rfl ⟨_, rfl, .inr rfl⟩ rfl ?_
          refine opSkip rfl ⟨_, rfl, .inr rfl⟩ rfl ?_
          refine opSkip rfl ⟨_, rfl, .inr rfl⟩ rfl ?_
          refine opSkip rfl ⟨_, rfl, .inr rfl⟩ rfl ?_
          refine opSkip rfl ⟨_, rfl, .inr rfl⟩ rfl ?_
          refine opSkip rfl ⟨_, rfl, .inr rfl⟩ rfl ?_
          refine opSkip rfl ⟨_, rfl, .inr rfl⟩ rfl ?_
          refine opSkip rfl ⟨_, rfl, .inl rfl⟩ rfl ?_
          refine op0 (sp_pickT rfl rfl rfl) rfl trivial rfl rfl ?_
          refine TL.nil ?_
          refine TC.condT rfl ?_
          refine TC.exit rfl ?_
          refine TC.region ?_
          refine op0 (sp_move rfl rfl) rfl trivial rfl rfl ?_
          obtain ⟨h15, h⟩ := chk_inv h
          refine op0 (sp_add rfl rfl rfl h15) rfl trivial rfl rfl ?_
          refine op0 (sp_assign rfl rfl) rfl trivial rfl rfl ?_
          refine TL.nil ?_
          refine TC.inLoop ?_
          refine TC.seq ?_
          refine TC.seq ?_
          refine subJ [] (ih _ _ _ _ _ _ _ _ _ _ _ _ _ _ _ _ _ _ _ _ h) ?_ ?_ ?_
          · exact ⟨rfl, rfl, rfl, rfl, rfl, trivial⟩
          · exact ⟨mem_at 0 rfl, mem_at 1 rfl, mem_at 2 rfl, mem_at 3 rfl, mem_at 4 rfl, mem_at 5 rfl, mem_at 6 rfl, mem_at 7 rfl, mem_at 8 rfl, trivial⟩
          · rfl
        · refine (boolLit 87 rfl h14).2 ?_
          refine op0 (sp_move rfl rfl) rfl ⟨_, rfl, rfl⟩ rfl rfl ?_
          refine op0 (sp_neq rfl rfl rfl) rfl ⟨_, rfl, rfl⟩ rfl rfl ?_
          refine op0 (sp_move rfl rfl) rfl ⟨_, rfl, rfl⟩ rfl rfl ?_
          rcases cond_cases h with ⟨h16, h⟩ | ⟨h16, h⟩
          · refine (boolLit 90 rfl h16).2 ?_
            refine op0 (sp_move rfl rfl) rfl ⟨_, rfl, rfl⟩ rfl rfl ?_
            refine op1 0 rfl (sp_nilCheck rfl isBlk rfl) rfl ⟨_, rfl, rfl⟩ rfl rfl ?_
            refine op1 0 rfl (sp_fieldAddrB rfl isBlk rfl ft97_0 vt92 (by decide)) rfl ⟨_, rfl, rfl⟩ rfl rfl ?_
            refine op1 0 rfl (sp_loadB rfl isBlk rfl vt92 rfl) rfl ⟨_, rfl, rfl⟩ rfl rfl ?_
            refine op0 (sp_move rfl rfl) rfl ⟨_, rfl, rfl⟩ rfl rfl ?_
            obtain ⟨r98, h17, h⟩ := bind_inv h
            refine op0 (sp_call (avs := [vi i79, vi i78]) (need := []) (v := .val (.bool r98)) (news := []) rfl rfl rfl Try.call55 (atJ [] [] (fc_round_set_has h17) rfl rfl) (.inl (roAll rfl))) rfl ⟨_, rfl, rfl⟩ rfl rfl ?_
            refine op0 (sp_not rfl rfl) rfl ⟨_, rfl, rfl⟩ rfl rfl ?_
            refine op0 (sp_move rfl rfl) rfl ⟨_, rfl, rfl⟩ rfl rfl ?_
            rcases cond_cases h with ⟨h18, h⟩ | ⟨h18, h⟩
            · refine (boolLit 98 rfl h18).2 ?_
              refine opSkip rfl ⟨_, rfl, .inl rfl⟩ rfl ?_
              refine opSkip rfl ⟨_, rfl, .inl rfl⟩ rfl ?_
              refine opSkip rfl ⟨_, rfl, .inl rfl⟩ rfl ?_
              refine opSkip rfl ⟨_, rfl, .inl rfl⟩ rfl ?_
              refine op0 (sp_pickT rfl rfl rfl) rfl ⟨_, rfl, rfl⟩ rfl rfl ?_
              refine op0 (sp_pickT rfl rfl rfl) rfl ⟨_, rfl, rfl⟩ rfl rfl ?_
              refine op0 (sp_pickF rfl rfl rfl) rfl trivial rfl rfl ?_
              refine TL.nil ?_
              refine TC.condT rfl ?_
              refine TC.exit rfl ?_
              refine TC.region ?_
              refine op0 (sp_move rfl rfl) rfl trivial rfl rfl ?_
              obtain ⟨h19, h⟩ := chk_inv h
              refine op0 (sp_add rfl rfl rfl h19) rfl trivial rfl rfl ?_
              refine op0 (sp_assign rfl rfl) rfl trivial rfl rfl ?_
              refine TL.nil ?_
              refine TC.inLoop ?_
              refine TC.seq ?_
              refine TC.seq ?_
              refine subJ [] (ih _ _ _ _ _ _ _ _ _ _ _ _ _ _ _ _ _ _ _ _ h) ?_ ?_ ?_
              · exact ⟨rfl, rfl, rfl, rfl, rfl, trivial⟩
              · exact ⟨mem_at 0 rfl, mem_at 1 rfl, mem_at 2 rfl, mem_at 3 rfl, mem_at 4 rfl, mem_at 5 rfl, mem_at 6 rfl, mem_at 7 rfl, mem_at 8 rfl, trivial⟩
              · rfl
            · refine (boolLit 98 rfl h18).2 ?_
              refine op1 2 rfl (sp_fieldAddrB rfl isBlk rfl ft100_3 vt92 (by decide)) rfl ⟨_, rfl, rfl⟩ rfl rfl ?_
              refine op1 2 rfl (sp_loadB rfl isBlk rfl vt92 rfl) rfl ⟨_, rfl, rfl⟩ rfl rfl ?_
              refine op0 (sp_move rfl rfl) rfl ⟨_, rfl, rfl⟩ rfl rfl ?_
              obtain ⟨r99, h20, h⟩ := bind_inv h
              refine op0 (sp_call (avs := [vi i90, vi i78]) (need := []) (v := .val (.bool r99)) (news := []) rfl rfl rfl Try.call55 (atJ [] [] (fc_round_set_has h20) rfl rfl) (.inl (roAll rfl))) rfl ⟨_, rfl, rfl⟩ rfl rfl ?_
              refine op0 (sp_pickF rfl rfl rfl) rfl ⟨_, rfl, rfl⟩ rfl rfl ?_
              refine op0 (sp_pickT rfl rfl rfl) rfl ⟨_, rfl, rfl⟩ rfl rfl ?_
              refine op0 (sp_pickF rfl rfl rfl) rfl trivial rfl rfl ?_
              refine TL.nil ?_
              refine TC.cond (b := r99) rfl (fun h21 => ?_) (fun h21 => ?_)
              · have h := cond_t h h21
                refine TC.exit rfl ?_
                refine TC.region ?_
                refine op0 (sp_move rfl rfl) rfl trivial rfl rfl ?_
                obtain ⟨h22, h⟩ := chk_inv h
                refine op0 (sp_add rfl rfl rfl h22) rfl trivial rfl rfl ?_
                refine op0 (sp_assign rfl rfl) rfl trivial rfl rfl ?_
                refine TL.nil ?_
                refine TC.inLoop ?_
                refine TC.seq ?_
                refine TC.seq ?_
                refine subJ [] (ih _ _ _ _ _ _ _ _ _ _ _ _ _ _ _ _ _ _ _ _ h) ?_ ?_ ?_
                · exact ⟨rfl, rfl, rfl, rfl, rfl, trivial⟩
                · exact ⟨mem_at 0 rfl, mem_at 1 rfl, mem_at 2 rfl, mem_at 3 rfl, mem_at 4 rfl, mem_at 5 rfl, mem_at 6 rfl, mem_at 7 rfl, mem_at 8 rfl, trivial⟩
                · rfl
              · have h := cond_f h h21
                refine subJ [] (ok_p_round_search_try_j5 (b77 := b77) hself ih h) ?_ ?_ ?_
                · exact ⟨rfl, rfl, rfl, rfl, rfl, trivial⟩
                · exact ⟨mem_at 0 rfl, mem_at 1 rfl, mem_at 2 rfl, mem_at 3 rfl, mem_at 4 rfl, mem_at 5 rfl, mem_at 6 rfl, mem_at 7 rfl, mem_at 8 rfl, trivial⟩
                · rfl
          · refine (boolLit 90 rfl h16).2 ?_
            refine opSkip rfl ⟨_, rfl, .inl rfl⟩ rfl ?_
            refine opSkip rfl ⟨_, rfl, .inl rfl⟩ rfl ?_
            refine opSkip rfl ⟨_, rfl, .inl rfl⟩ rfl ?_
            refine opSkip rfl ⟨_, rfl, .inl rfl⟩ rfl ?_
            refine opSkip rfl ⟨_, rfl, .inl rfl⟩ rfl ?_
            refine opSkip rfl ⟨_, rfl, .inl rfl⟩ rfl ?_
            refine opSkip rfl ⟨_, rfl, .inl rfl⟩ rfl ?_
            refine opSkip rfl ⟨_, rfl, .inl rfl⟩ rfl ?_
            refine opSkip rfl ⟨_, rfl, .inr rfl⟩ rfl ?_
            refine opSkip rfl ⟨_, rfl, .inr rfl⟩ rfl ?_
            refine opSkip rfl ⟨_, rfl, .inr rfl⟩ rfl ?_
            refine opSkip rfl ⟨_, rfl, .inr rfl⟩ rfl ?_
            refine opSkip rfl ⟨_, rfl, .inl rfl⟩ rfl ?_
            refine op0 (sp_pickF rfl rfl rfl) rfl ⟨_, rfl, rfl⟩ rfl rfl ?_
            refine op0 (sp_pickF rfl rfl rfl) rfl trivial rfl rfl ?_
            refine TL.nil ?_
            refine TC.condF rfl ?_
            refine subJ [] (ok_p_round_search_try_j5 (b77 := b77) hself ih h) ?_ ?_ ?_
            · exact ⟨rfl, rfl, rfl, rfl, rfl, trivial⟩
            · exact ⟨mem_at 0 rfl, mem_at 1 rfl, mem_at 2 rfl, mem_at 3 rfl, mem_at 4 rfl, mem_at 5 rfl, mem_at 6 rfl, mem_at 7 rfl, mem_at 8 rfl, trivial⟩
            · rfl
      · refine (boolLit 84 rfl h13).2 ?_
        refine opSkip rfl ⟨_, rfl, .inl rfl⟩ rfl ?_
        refine op0 (sp_pickF rfl rfl rfl) rfl trivial rfl rfl ?_
        refine op0 (sp_move rfl rfl) rfl trivial rfl rfl ?_
        refine op0 (sp_move rfl rfl) rfl ⟨_, rfl, rfl⟩ rfl rfl ?_
        refine op0 (sp_neq rfl rfl rfl) rfl ⟨_, rfl, rfl⟩ rfl rfl ?_
        refine op0 (sp_move rfl rfl) rfl ⟨_, rfl, rfl⟩ rfl rfl ?_
        rcases cond_cases h with ⟨h31, h⟩ | ⟨h31, h⟩
        · refine (boolLit 90 rfl h31).2 ?_
          refine op0 (sp_move rfl rfl) rfl ⟨_, rfl, rfl⟩ rfl rfl ?_
          refine op1 0 rfl (sp_nilCheck rfl isBlk rfl) rfl ⟨_, rfl, rfl⟩ rfl rfl ?_
          refine op1 0 rfl (sp_fieldAddrB rfl isBlk rfl ft97_0 vt92 (by decide)) rfl ⟨_, rfl, rfl⟩ rfl rfl ?_
          refine op1 0 rfl (sp_loadB rfl isBlk rfl vt92 rfl) rfl ⟨_, rfl, rfl⟩ rfl rfl ?_
          refine op0 (sp_move rfl rfl) rfl ⟨_, rfl, rfl⟩ rfl rfl ?_
          obtain ⟨r103, h32, h⟩ := bind_inv h
          refine op0 (sp_call (avs := [vi i79, vi i78]) (need := []) (v := .val (.bool r103)) (news := []) rfl rfl rfl Try.call55 (atJ [] [] (fc_round_set_has h32) rfl rfl) (.inl (roAll rfl))) rfl ⟨_, rfl, rfl⟩ rfl rfl ?_
          refine op0 (sp_not rfl rfl) rfl ⟨_, rfl, rfl⟩ rfl rfl ?_
          refine op0 (sp_move rfl rfl) rfl ⟨_, rfl, rfl⟩ rfl rfl ?_
          rcases cond_cases h with ⟨h33, h⟩ | ⟨h33, h⟩
          · refine (boolLit 98 rfl h33).2 ?_
            refine opSkip rfl ⟨_, rfl, .inl rfl⟩ rfl ?_
            refine opSkip rfl ⟨_, rfl, .inl rfl⟩ rfl ?_
            refine opSkip rfl ⟨_, rfl, .inl rfl⟩ rfl ?_
            refine opSkip rfl ⟨_, rfl, .inl rfl⟩ rfl ?_
            refine op0 (sp_pickT rfl rfl rfl) rfl ⟨_, rfl, rfl⟩ rfl rfl ?_
            refine op0 (sp_pickT rfl rfl rfl) rfl ⟨_, rfl, rfl⟩ rfl rfl ?_
            refine op0 (sp_pickF rfl rfl rfl) rfl trivial rfl rfl ?_
            refine TL.nil ?_
            refine TC.condT rfl ?_
            refine TC.exit rfl ?_
            refine TC.region ?_
            refine op0 (sp_move rfl rfl) rfl trivial rfl rfl ?_
            obtain ⟨h34, h⟩ := chk_inv h
            refine op0 (sp_add rfl rfl rfl h34) rfl trivial rfl rfl ?_
            refine op0 (sp_assign rfl rfl) rfl trivial rfl rfl ?_
            refine TL.nil ?_
            refine TC.inLoop ?_
            refine TC.seq ?_
            refine TC.seq ?_
            refine subJ [] (ih _ _ _ _ _ _ _ _ _ _ _ _ _ _ _ _ _ _ _ _ h) ?_ ?_ ?_
            · exact ⟨rfl, rfl, rfl, rfl, rfl, trivial⟩
            · exact ⟨mem_at 0 rfl, mem_at 1 rfl, mem_at 2 rfl, mem_at 3 rfl, mem_at 4 rfl, mem_at 5 rfl, mem_at 6 rfl, mem_at 7 rfl, mem_at 8 rfl, trivial⟩
            · rfl
          · refine (boolLit 98 rfl h33).2 ?_
            refine op1 2 rfl (sp_fieldAddrB rfl isBlk rfl ft100_3 vt92 (by decide)) rfl ⟨_, rfl, rfl⟩ rfl rfl ?_
            refine op1 2 rfl (sp_loadB rfl isBlk rfl vt92 rfl) rfl ⟨_, rfl, rfl⟩ rfl rfl ?_
            refine op0 (sp_move rfl rfl) rfl ⟨_, rfl, rfl⟩ rfl rfl ?_
            obtain ⟨r104, h35, h⟩ := bind_inv h
            refine op0 (sp_call (avs := [vi i90, vi i78]) (need := []) (v := .val (.bool r104)) (news := []) rfl rfl rfl Try.call55 (atJ [] [] (fc_round_set_has h35) rfl rfl) (.inl (roAll rfl))) rfl ⟨_, rfl, rfl⟩ rfl rfl ?_
            refine op0 (sp_pickF rfl rfl rfl) rfl ⟨_, rfl, rfl⟩ rfl rfl ?_
            refine op0 (sp_pickT rfl rfl rfl) rfl ⟨_, rfl, rfl⟩ rfl rfl ?_
            refine op0 (sp_pickF rfl rfl rfl) rfl trivial rfl rfl ?_
            refine TL.nil ?_
            refine TC.cond (b := r104) rfl (fun h36 => ?_) (fun h36 => ?_)
            · have h := cond_t h h36
              refine TC.exit rfl ?_
              refine TC.region ?_
              refine op0 (sp_move rfl rfl) rfl trivial rfl rfl ?_
              obtain ⟨h37, h⟩ := chk_inv h
              refine op0 (sp_add rfl rfl rfl h37) rfl trivial rfl rfl ?_
              refine op0 (sp_assign rfl rfl) rfl trivial rfl rfl ?_
              refine TL.nil ?_
              refine TC.inLoop ?_
              refine TC.seq ?_
              refine TC.seq ?_
              refine subJ [] (ih _ _ _ _ _ _ _ _ _ _ _ _ _ _ _ _ _ _ _ _ h) ?_ ?_ ?_
              · exact ⟨rfl, rfl, rfl, rfl, rfl, trivial⟩
              · exact ⟨mem_at 0 rfl, mem_at 1 rfl, mem_at 2 rfl, mem_at 3 rfl, mem_at 4 rfl, mem_at 5 rfl, mem_at 6 rfl, mem_at 7 rfl, mem_at 8 rfl, trivial⟩
              · rfl
            · have h := cond_f h h36
              refine subJ [] (ok_p_round_search_try_j5 (b77 := b77) hself ih h) ?_ ?_ ?_
              · exact ⟨rfl, rfl, rfl, rfl, rfl, trivial⟩
              · exact ⟨mem_at 0 rfl, mem_at 1 rfl, mem_at 2 rfl, mem_at 3 rfl, mem_at 4 rfl, mem_at 5 rfl, mem_at 6 rfl, mem_at 7 rfl, mem_at 8 rfl, trivial⟩
              · rfl
        · refine (boolLit 90 rfl h31).2 ?_
          refine opSkip rfl ⟨_, rfl, .inl rfl⟩ rfl ?_
          refine opSkip rfl ⟨_, rfl, .inl rfl⟩ rfl ?_
          refine opSkip rfl ⟨_, rfl, .inl rfl⟩ rfl ?_
          refine opSkip rfl ⟨_, rfl, .inl rfl⟩ rfl ?_
          refine opSkip rfl ⟨_, rfl, .inl rfl⟩ rfl ?_
          refine opSkip rfl ⟨_, rfl, .inl rfl⟩ rfl ?_
          refine opSkip rfl ⟨_, rfl, .inl rfl⟩ rfl ?_
          refine opSkip rfl ⟨_, rfl, .inl rfl⟩ rfl ?_
          refine opSkip rfl ⟨_, rfl, .inr rfl⟩ rfl ?_
          refine opSkip rfl ⟨_, rfl, .inr rfl⟩ rfl ?_
          refine opSkip rfl ⟨_, rfl, .inr rfl⟩ rfl ?_
          refine opSkip rfl ⟨_, rfl, .inr rfl⟩ rfl ?_
          refine opSkip rfl ⟨_, rfl, .inl rfl⟩ rfl ?_
          refine op0 (sp_pickF rfl rfl rfl) rfl ⟨_, rfl, rfl⟩ rfl rfl ?_
          refine op0 (sp_pickF rfl rfl rfl) rfl trivial rfl rfl ?_
          refine TL.nil ?_
          refine TC.condF rfl ?_
          refine subJ [] (ok_p_round_search_try_j5 (b77 := b77) hself ih h) ?_ ?_ ?_
          · exact ⟨rfl, rfl, rfl, rfl, rfl, trivial⟩
          · exact ⟨mem_at 0 rfl, mem_at 1 rfl, mem_at 2 rfl, mem_at 3 rfl, mem_at 4 rfl, mem_at 5 rfl, mem_at 6 rfl, mem_at 7 rfl, mem_at 8 rfl, trivial⟩
          · rfl
    · have h := cond_f h h12
      refine TC.exit rfl ?_
      cases h
      exact endM [(500, 13)] 7 6 [0] rfl (.nil) rfl ⟨mem_at 3 rfl, mem_at 0 rfl, trivial⟩ rfl rfl ⟨⟨_, mem_at 7 rfl⟩, trivial⟩ rfl
def ev_p_round_search_try_j3 (n : Nat) (i56 : Int) (i57 : Int) (b58 : Bool) (l59 : List Int) (i60 : Int) (i61 : Int) (i62 : Int) (i63 : Int) (i65 : Int) (i66 : Int) (i67 : Int) (i68 : Int) (i69 : Int) (i70 : Int) (i71 : Int) (l72 : List Int) (l73 : List (Int × Int × Int × Int × Int)) (l74 : List ((List Int))) (l75 : List (Int × Int × Int × Int)) (self : Int → (List Int) → Int → Bool → (List (Int × Int × Int × Int × Int)) → (List ((List Int))) → (List (Int × Int × Int × Int)) → Int → Int → Int → Int → Int → Int → Int → Int → Int → Int → Int → (List Int) → Option (Int × (List Int) × Int × Bool)) (b77 : Bool) : Option (Int × (List Int) × Int × Bool) :=
  ev_p_round_search_try_l4 n b77 self n (-1) i56 i57 b58 l59 i60 i61 i62 i63 i65 i66 i67 i68 i69 i70 i71 l72 l73 l74 l75
theorem ok_p_round_search_try_j3 {n : Nat} {w0 : World} {M0 R0 : Nat → Prop} {env0 : Env} {df : List Deferred} {r : Int × (List Int) × Int × Bool} {i56 : Int} {i57 : Int} {b58 : Bool} {l59 : List Int} {i60 : Int} {i61 : Int} {i62 : Int} {i63 : Int} {i65 : Int} {i66 : Int} {i67 : Int} {i68 : Int} {i69 : Int} {i70 : Int} {i71 : Int} {l72 : List Int} {l73 : List (Int × Int × Int × Int × Int)} {l74 : List ((List Int))} {l75 : List (Int × Int × Int × Int)} {self : Int → (List Int) → Int → Bool → (List (Int × Int × Int × Int × Int)) → (List ((List Int))) → (List (Int × Int × Int × Int)) → Int → Int → Int → Int → Int → Int → Int → Int → Int → Int → Int → (List Int) → Option (Int × (List Int) × Int × Bool)} {b77 : Bool} (hself : ∀ (s1z : Int) (s2z : List Int) (s3z : Int) (s4z : Bool) (w5z : List (Int × Int × Int × Int × Int)) (w6z : List ((List Int))) (w7z : List (Int × Int × Int × Int)) (w8z : Int) (w9z : Int) (w10z : Int) (w11z : Int) (w12z : Int) (w13z : Int) (w14z : Int) (w15z : Int) (w16z : Int) (w17z : Int) (w18z : Int) (steps19z : List Int) (r : Int × (List Int) × Int × Bool), self s1z s2z s3z s4z w5z w6z w7z w8z w9z w10z w11z w12z w13z w14z w15z w16z w17z w18z steps19z = some r → FT Try.prog 36 [.ptr 0 0, .agg [.ref 2, .ref 3, .ref 4, vi w8z, vi w9z, .val (.int .u16 w10z), vi w11z, vi w12z, vi w13z, vi w14z, vi w15z, vi w16z, vi w17z, vi w18z], .ref 5] [.blk 0 [vi s1z, .ref 1, vi s3z, .val (.bool s4z)] 97] [.ro 1 1 (List.map en_int s2z), .ro 2 5 (List.map en_api_RoundTower w5z), .ro 3 1 (List.map en_Lint w6z), .ro 4 4 (List.map en_api_RoundWinder w7z), .ro 5 1 (List.map en_int steps19z)] (.tup []) [.ro 500 1 (List.map en_int r.2.1), .blk 0 [vi r.1, .ref 500, vi r.2.2.1, .val (.bool r.2.2.2)] 97]) (h : ev_p_round_search_try_j3 n i56 i57 b58 l59 i60 i61 i62 i63 i65 i66 i67 i68 i69 i70 i71 l72 l73 l74 l75 self b77 = some r) : TC Try.prog ⟨w0, M0, R0⟩ ⟨118, none, df⟩ (bodyPostM Fence.wide 0 Try.prog Try.f36 (PostT ⟨w0, M0, R0⟩ env0 [0] (.tup []) [.ro 500 1 (List.map en_int r.2.1), .blk 0 [vi r.1, .ref 500, vi r.2.2.1, .val (.bool r.2.2.2)] 97])) [.code (sub (bodyOf Try.f36) [1, 1, 1, 1, 0]), .code (sub (bodyOf Try.f36) [1, 1, 1, 1, 1])] ([(0, .ptr 0 0), (2, .ref 5), (4, .ptr 8 0), (7, .val (.bool b77))]) ([.blk 0 [vi i56, .ref 13, vi i57, .val (.bool b58)] 97, .ro 5 1 (List.map en_int l59), .blk 8 [.ref 2, .ref 3, .ref 4, vi i60, vi i61, .val (.int .u16 i62), vi i63, vi i65, vi i66, vi i67, vi i68, vi i69, vi i70, vi i71] 100, .ro 13 1 (List.map en_int l72), .ro 2 5 (List.map en_api_RoundTower l73), .ro 3 1 (List.map en_Lint l74), .ro 4 4 (List.map en_api_RoundWinder l75), .inv 6 (marksI df), .pin 7 0 (env0 0)]) := by
  rw [ev_p_round_search_try_j3] at h
  refine TC.region ?_
  refine op0 (sp_assign rfl rfl) rfl trivial rfl rfl ?_
  refine TL.nil ?_
  refine TC.block ?_
  refine TC.loop ?_
  refine TC.seq ?_
  refine TC.seq ?_
  refine subJ [] (ok_p_round_search_try_l4 hself _ _ _ _ _ _ _ _ _ _ _ _ _ _ _ _ _ _ _ _ _ h) ?_ ?_ ?_
  · exact ⟨rfl, rfl, rfl, rfl, rfl, trivial⟩
  · exact ⟨mem_at 0 rfl, mem_at 1 rfl, mem_at 2 rfl, mem_at 3 rfl, mem_at 4 rfl, mem_at 5 rfl, mem_at 6 rfl, mem_at 7 rfl, mem_at 8 rfl, trivial⟩
  · rfl
def ev_p_round_search_try_j2 (n : Nat) (self : Int → (List Int) → Int → Bool → (List (Int × Int × Int × Int × Int)) → (List ((List Int))) → (List (Int × Int × Int × Int)) → Int → Int → Int → Int → Int → Int → Int → Int → Int → Int → Int → (List Int) → Option (Int × (List Int) × Int × Bool)) (i56 : Int) (i57 : Int) (b58 : Bool) (l59 : List Int) (i60 : Int) (i61 : Int) (i62 : Int) (i63 : Int) (i65 : Int) (i66 : Int) (i67 : Int) (i68 : Int) (i69 : Int) (i70 : Int) (i71 : Int) (l72 : List Int) (l73 : List (Int × Int × Int × Int × Int)) (l74 : List ((List Int))) (l75 : List (Int × Int × Int × Int)) : Option (Int × (List Int) × Int × Bool) :=
  cond (decide ((0 : Int) < (l59.length : Int))) (chk (in64 ((l59.length : Int) - 1)) <| idx l59 ((l59.length : Int) - 1) fun x76 => ev_p_round_search_try_j3 n i56 i57 b58 l59 i60 i61 i62 i63 i65 i66 i67 i68 i69 i70 i71 l72 l73 l74 l75 self (x76 == (-1))) (ev_p_round_search_try_j3 n i56 i57 b58 l59 i60 i61 i62 i63 i65 i66 i67 i68 i69 i70 i71 l72 l73 l74 l75 self false)
theorem ok_p_round_search_try_j2 {n : Nat} {w0 : World} {M0 R0 : Nat → Prop} {env0 : Env} {df : List Deferred} {r : Int × (List Int) × Int × Bool} {self : Int → (List Int) → Int → Bool → (List (Int × Int × Int × Int × Int)) → (List ((List Int))) → (List (Int × Int × Int × Int)) → Int → Int → Int → Int → Int → Int → Int → Int → Int → Int → Int → (List Int) → Option (Int × (List Int) × Int × Bool)} {i56 : Int} {i57 : Int} {b58 : Bool} {l59 : List Int} {i60 : Int} {i61 : Int} {i62 : Int} {i63 : Int} {i65 : Int} {i66 : Int} {i67 : Int} {i68 : Int} {i69 : Int} {i70 : Int} {i71 : Int} {l72 : List Int} {l73 : List (Int × Int × Int × Int × Int)} {l74 : List ((List Int))} {l75 : List (Int × Int × Int × Int)} (hself : ∀ (s1z : Int) (s2z : List Int) (s3z : Int) (s4z : Bool) (w5z : List (Int × Int × Int × Int × Int)) (w6z : List ((List Int))) (w7z : List (Int × Int × Int × Int)) (w8z : Int) (w9z : Int) (w10z : Int) (w11z : Int) (w12z : Int) (w13z : Int) (w14z : Int) (w15z : Int) (w16z : Int) (w17z : Int) (w18z : Int) (steps19z : List Int) (r : Int × (List Int) × Int × Bool), self s1z s2z s3z s4z w5z w6z w7z w8z w9z w10z w11z w12z w13z w14z w15z w16z w17z w18z steps19z = some r → FT Try.prog 36 [.ptr 0 0, .agg [.ref 2, .ref 3, .ref 4, vi w8z, vi w9z, .val (.int .u16 w10z), vi w11z, vi w12z, vi w13z, vi w14z, vi w15z, vi w16z, vi w17z, vi w18z], .ref 5] [.blk 0 [vi s1z, .ref 1, vi s3z, .val (.bool s4z)] 97] [.ro 1 1 (List.map en_int s2z), .ro 2 5 (List.map en_api_RoundTower w5z), .ro 3 1 (List.map en_Lint w6z), .ro 4 4 (List.map en_api_RoundWinder w7z), .ro 5 1 (List.map en_int steps19z)] (.tup []) [.ro 500 1 (List.map en_int r.2.1), .blk 0 [vi r.1, .ref 500, vi r.2.2.1, .val (.bool r.2.2.2)] 97]) (h : ev_p_round_search_try_j2 n self i56 i57 b58 l59 i60 i61 i62 i63 i65 i66 i67 i68 i69 i70 i71 l72 l73 l74 l75 = some r) : TC Try.prog ⟨w0, M0, R0⟩ ⟨118, none, df⟩ (bodyPostM Fence.wide 0 Try.prog Try.f36 (PostT ⟨w0, M0, R0⟩ env0 [0] (.tup []) [.ro 500 1 (List.map en_int r.2.1), .blk 0 [vi r.1, .ref 500, vi r.2.2.1, .val (.bool r.2.2.2)] 97])) [.code (sub (bodyOf Try.f36) [1, 1, 1, 0]), .code (sub (bodyOf Try.f36) [1, 1, 1, 1])] ([(0, .ptr 0 0), (2, .ref 5), (4, .ptr 8 0)]) ([.blk 0 [vi i56, .ref 13, vi i57, .val (.bool b58)] 97, .ro 5 1 (List.map en_int l59), .blk 8 [.ref 2, .ref 3, .ref 4, vi i60, vi i61, .val (.int .u16 i62), vi i63, vi i65, vi i66, vi i67, vi i68, vi i69, vi i70, vi i71] 100, .ro 13 1 (List.map en_int l72), .ro 2 5 (List.map en_api_RoundTower l73), .ro 3 1 (List.map en_Lint l74), .ro 4 4 (List.map en_api_RoundWinder l75), .inv 6 (marksI df), .pin 7 0 (env0 0)]) := by
  rw [ev_p_round_search_try_j2] at h
  refine TC.region ?_
  refine op0 (sp_move rfl rfl) rfl trivial rfl rfl ?_
  refine op1 1 rfl (sp_lenM (N := l59.length) (len_map _ _) rfl rfl isRo Try.underlying30) rfl trivial rfl rfl ?_
  refine op0 (sp_gtr rfl rfl rfl) rfl trivial rfl rfl ?_
  refine op0 (sp_move rfl rfl) rfl trivial rfl rfl ?_
  rcases cond_cases h with ⟨h8, h⟩ | ⟨h8, h⟩
  · refine (boolLit 65 rfl h8).2 ?_
    refine op0 (sp_move rfl rfl) rfl ⟨_, rfl, rfl⟩ rfl rfl ?_
    refine op0 (sp_move rfl rfl) rfl ⟨_, rfl, rfl⟩ rfl rfl ?_
    refine op1 1 rfl (sp_lenM (N := l59.length) (len_map _ _) rfl rfl isRo Try.underlying30) rfl ⟨_, rfl, rfl⟩ rfl rfl ?_
    obtain ⟨h9, h⟩ := chk_inv h
    refine op0 (sp_sub rfl rfl rfl h9) rfl ⟨_, rfl, rfl⟩ rfl rfl ?_
    obtain ⟨x76, h10, h11, h⟩ := idx_inv h
    refine op1 1 rfl (sp_indexS rfl rfl rfl isRo sl30 h10 (map_get _ h11)) rfl ⟨_, rfl, rfl⟩ rfl rfl ?_
    refine op1 1 rfl (sp_loadR (i := (((l59.length : Int) - 1) : Int).toNat) (j := 0) rfl rfl isRo vt3 rfl (map_get _ h11) rfl (.v (.nil)) (nodup_of_B rfl)) rfl ⟨_, rfl, rfl⟩ rfl rfl ?_
    refine op0 (sp_eql rfl rfl rfl) rfl ⟨_, rfl, rfl⟩ rfl rfl ?_
    refine op0 (sp_pickT rfl rfl rfl) rfl trivial rfl rfl ?_
    refine op0 (sp_assign rfl rfl) rfl trivial rfl rfl ?_
    refine TL.nil ?_
    refine TC.seq ?_
    refine subJ [] (ok_p_round_search_try_j3 hself h) ?_ ?_ ?_
    · exact ⟨rfl, rfl, rfl, rfl, trivial⟩
    · exact ⟨mem_at 0 rfl, mem_at 1 rfl, mem_at 2 rfl, mem_at 3 rfl, mem_at 4 rfl, mem_at 5 rfl, mem_at 6 rfl, mem_at 7 rfl, mem_at 8 rfl, trivial⟩
    · rfl
  · refine (boolLit 65 rfl h8).2 ?_
    refine opSkip rfl ⟨_, rfl, .inl rfl⟩ rfl ?_
    refine opSkip rfl ⟨_, rfl, .inl rfl⟩ rfl ?_
    refine opSkip rfl ⟨_, rfl, .inl rfl⟩ rfl ?_
    refine opSkip rfl ⟨_, rfl, .inl rfl⟩ rfl ?_
    refine opSkip rfl ⟨_, rfl, .inl rfl⟩ rfl ?_
    refine opSkip rfl ⟨_, rfl, .inl rfl⟩ rfl ?_
    refine opSkip rfl ⟨_, rfl, .inl rfl⟩ rfl ?_
    refine op0 (sp_pickF rfl rfl rfl) rfl trivial rfl rfl ?_
    refine op0 (sp_assign rfl rfl) rfl trivial rfl rfl ?_
    refine TL.nil ?_
    refine TC.seq ?_
    refine subJ [] (ok_p_round_search_try_j3 hself h) ?_ ?_ ?_
    · exact ⟨rfl, rfl, rfl, rfl, trivial⟩
    · exact ⟨mem_at 0 rfl, mem_at 1 rfl, mem_at 2 rfl, mem_at 3 rfl, mem_at 4 rfl, mem_at 5 rfl, mem_at 6 rfl, mem_at 7 rfl, mem_at 8 rfl, trivial⟩
    · rfl
def ev_p_round_search_try_j1 (n : Nat) (self : Int → (List Int) → Int → Bool → (List (Int × Int × Int × Int × Int)) → (List ((List Int))) → (List (Int × Int × Int × Int)) → Int → Int → Int → Int → Int → Int → Int → Int → Int → Int → Int → (List Int) → Option (Int × (List Int) × Int × Bool)) (i21 : Int) (i22 : Int) (b23 : Bool) (l24 : List Int) (i25 : Int) (i26 : Int) (i27 : Int) (i28 : Int) (i29 : Int) (i30 : Int) (i31 : Int) (i33 : Int) (i34 : Int) (i35 : Int) (i36 : Int) (i37 : Int) (i38 : Int) (i39 : Int) (i40 : Int) (i41 : Int) (i42 : Int) (i43 : Int) (i44 : Int) (i45 : Int) (i46 : Int) (i47 : Int) (l48 : List Int) (l49 : List (Int × Int × Int × Int × Int)) (l50 : List ((List Int))) (l51 : List (Int × Int × Int × Int)) (l52 : List (Int × Int × Int × Int × Int)) (l53 : List ((List Int))) (l54 : List (Int × Int × Int × Int)) : Option (Int × (List Int) × Int × Bool) :=
  (ev_slices_Clone_Lint_int n l24).bind fun r55 => ev_p_round_search_try_j2 n self i21 i47 true l24 i25 i26 i27 i28 i29 i30 i31 i33 i34 i35 i36 r55 l49 l50 l51
theorem ok_p_round_search_try_j1 {n : Nat} {w0 : World} {M0 R0 : Nat → Prop} {env0 : Env} {df : List Deferred} {r : Int × (List Int) × Int × Bool} {self : Int → (List Int) → Int → Bool → (List (Int × Int × Int × Int × Int)) → (List ((List Int))) → (List (Int × Int × Int × Int)) → Int → Int → Int → Int → Int → Int → Int → Int → Int → Int → Int → (List Int) → Option (Int × (List Int) × Int × Bool)} {i21 : Int} {i22 : Int} {b23 : Bool} {l24 : List Int} {i25 : Int} {i26 : Int} {i27 : Int} {i28 : Int} {i29 : Int} {i30 : Int} {i31 : Int} {i33 : Int} {i34 : Int} {i35 : Int} {i36 : Int} {i37 : Int} {i38 : Int} {i39 : Int} {i40 : Int} {i41 : Int} {i42 : Int} {i43 : Int} {i44 : Int} {i45 : Int} {i46 : Int} {i47 : Int} {l48 : List Int} {l49 : List (Int × Int × Int × Int × Int)} {l50 : List ((List Int))} {l51 : List (Int × Int × Int × Int)} {l52 : List (Int × Int × Int × Int × Int)} {l53 : List ((List Int))} {l54 : List (Int × Int × Int × Int)} (hself : ∀ (s1z : Int) (s2z : List Int) (s3z : Int) (s4z : Bool) (w5z : List (Int × Int × Int × Int × Int)) (w6z : List ((List Int))) (w7z : List (Int × Int × Int × Int)) (w8z : Int) (w9z : Int) (w10z : Int) (w11z : Int) (w12z : Int) (w13z : Int) (w14z : Int) (w15z : Int) (w16z : Int) (w17z : Int) (w18z : Int) (steps19z : List Int) (r : Int × (List Int) × Int × Bool), self s1z s2z s3z s4z w5z w6z w7z w8z w9z w10z w11z w12z w13z w14z w15z w16z w17z w18z steps19z = some r → FT Try.prog 36 [.ptr 0 0, .agg [.ref 2, .ref 3, .ref 4, vi w8z, vi w9z, .val (.int .u16 w10z), vi w11z, vi w12z, vi w13z, vi w14z, vi w15z, vi w16z, vi w17z, vi w18z], .ref 5] [.blk 0 [vi s1z, .ref 1, vi s3z, .val (.bool s4z)] 97] [.ro 1 1 (List.map en_int s2z), .ro 2 5 (List.map en_api_RoundTower w5z), .ro 3 1 (List.map en_Lint w6z), .ro 4 4 (List.map en_api_RoundWinder w7z), .ro 5 1 (List.map en_int steps19z)] (.tup []) [.ro 500 1 (List.map en_int r.2.1), .blk 0 [vi r.1, .ref 500, vi r.2.2.1, .val (.bool r.2.2.2)] 97]) (h : ev_p_round_search_try_j1 n self i21 i22 b23 l24 i25 i26 i27 i28 i29 i30 i31 i33 i34 i35 i36 i37 i38 i39 i40 i41 i42 i43 i44 i45 i46 i47 l48 l49 l50 l51 l52 l53 l54 = some r) : TC Try.prog ⟨w0, M0, R0⟩ ⟨118, none, df⟩ (bodyPostM Fence.wide 0 Try.prog Try.f36 (PostT ⟨w0, M0, R0⟩ env0 [0] (.tup []) [.ro 500 1 (List.map en_int r.2.1), .blk 0 [vi r.1, .ref 500, vi r.2.2.1, .val (.bool r.2.2.2)] 97])) [.code (sub (bodyOf Try.f36) [1, 1, 0, 1, 0, 1, 1, 0]), .code (sub (bodyOf Try.f36) [1, 1, 1])] ([(0, .ptr 0 0), (2, .ref 5), (4, .ptr 8 0), (6, .ptr 9 0)]) ([.blk 0 [vi i21, .ref 1, vi i22, .val (.bool b23)] 97, .ro 5 1 (List.map en_int l24), .blk 8 [.ref 2, .ref 3, .ref 4, vi i25, vi i26, .val (.int .u16 i27), vi i28, vi i29, vi i30, vi i31, vi i33, vi i34, vi i35, vi i36] 100, .blk 9 [.ref 10, .ref 11, .ref 12, vi i37, vi i38, .val (.int .u16 i39), vi i40, vi i41, vi i42, vi i43, vi i44, vi i45, vi i46, vi i47] 100, .ro 1 1 (List.map en_int l48), .ro 2 5 (List.map en_api_RoundTower l49), .ro 3 1 (List.map en_Lint l50), .ro 4 4 (List.map en_api_RoundWinder l51), .ro 10 5 (List.map en_api_RoundTower l52), .ro 11 1 (List.map en_Lint l53), .ro 12 4 (List.map en_api_RoundWinder l54), .inv 6 (marksI df), .pin 7 0 (env0 0)]) := by
  rw [ev_p_round_search_try_j1] at h
  obtain ⟨r55, h7, h⟩ := bind_inv h
  refine drawJ 13 [⟨.ptr 0 0, [], [], []⟩, ⟨.ptr 0 0, [], [], []⟩, ⟨.ptr 0 0, [], [], []⟩, ⟨.ref 5, [], [], []⟩, ⟨.ref 13, [.row 13 3 1 (List.map en_int r55)], [.ro 5 1 (List.map en_int l24)], []⟩, ⟨.ptr 9 13, [], [.blk 9 [.ref 10, .ref 11, .ref 12, vi i37, vi i38, .val (.int .u16 i39), vi i40, vi i41, vi i42, vi i43, vi i44, vi i45, vi i46, vi i47] 100], []⟩, ⟨vi i47, [], [.blk 9 [.ref 10, .ref 11, .ref 12, vi i37, vi i38, .val (.int .u16 i39), vi i40, vi i41, vi i42, vi i43, vi i44, vi i45, vi i46, vi i47] 100], []⟩, ⟨.ptr 0 0, [], [.blk 0 [vi i21, .ref 1, vi i22, .val (.bool b23)] 97], []⟩, ⟨.ptr 0 1, [], [.blk 0 [vi i21, .ref 1, vi i22, .val (.bool b23)] 97], []⟩, ⟨.val (undef), [.blk 0 [vi i21, .ref 13, vi i22, .val (.bool b23)] 97], [], [.blk 0 [vi i21, .ref 1, vi i22, .val (.bool b23)] 97]⟩, ⟨.ptr 0 0, [], [.blk 0 [vi i21, .ref 13, vi i22, .val (.bool b23)] 97], []⟩, ⟨.ptr 0 2, [], [.blk 0 [vi i21, .ref 13, vi i22, .val (.bool b23)] 97], []⟩, ⟨.val (undef), [.blk 0 [vi i21, .ref 13, vi i47, .val (.bool b23)] 97], [], [.blk 0 [vi i21, .ref 13, vi i22, .val (.bool b23)] 97]⟩] rfl ?_ rfl ?_ rfl ?_ ?_
  · kernel_rfl
  · kernel_rfl
  · exact DAll.op' (sp_move rfl rfl) trivial rfl (From.ok (ps := []) trivial) (DAll.op' (sp_move rfl rfl) trivial rfl (From.ok (ps := []) trivial) (DAll.op' (sp_move rfl rfl) trivial rfl (From.ok (ps := []) trivial) (DAll.op' (sp_move rfl rfl) trivial rfl (From.ok (ps := []) trivial) (DAll.op' (sp_call (avs := [.ref 5]) (need := [.ro 5 1 (List.map en_int l24)]) (v := .ref 13) (news := [.row 13 3 1 (List.map en_int r55)]) rfl rfl rfl Try.call57 (atJ [(0, 5)] [(0, 13)] (fc_slices_Clone_Lint_int h7) rfl rfl) (.inl (roAll rfl))) trivial rfl (From.ok (ps := [(none, 1)]) ⟨⟨rfl, by kernel_rfl⟩, trivial⟩) (DAll.op' (sp_fieldAddrB rfl isBlk rfl ft100_6 vt3 (by decide)) trivial rfl (From.ok (ps := [(none, 3)]) ⟨⟨rfl, by kernel_rfl⟩, trivial⟩) (DAll.op' (sp_loadB rfl isBlk rfl vt3 rfl) trivial rfl (From.ok (ps := [(none, 3)]) ⟨⟨rfl, by kernel_rfl⟩, trivial⟩) (DAll.op' (sp_nilCheck rfl isBlk rfl) trivial rfl (From.ok (ps := [(none, 0)]) ⟨⟨rfl, by kernel_rfl⟩, trivial⟩) (DAll.op' (sp_fieldAddrB rfl isBlk rfl ft97_1 vt30 (by decide)) trivial rfl (From.ok (ps := [(none, 0)]) ⟨⟨rfl, by kernel_rfl⟩, trivial⟩) (DAll.opT (ts_storeB (off := 1) (cells' := [vi i21, .ref 13, vi i22, .val (.bool b23)]) rfl rfl rfl rfl vt30 rfl rfl rfl) trivial (From.ok (ps := [(none, 0)]) ⟨⟨rfl, by kernel_rfl⟩, trivial⟩) (From.ok (ps := []) trivial) (DAll.op' (sp_nilCheck rfl isBlk rfl) trivial rfl (From.ok (ps := [(some 9, 0)]) ⟨⟨_, rfl, by kernel_rfl, rfl, by kernel_rfl⟩, trivial⟩) (DAll.op' (sp_fieldAddrB rfl isBlk rfl ft97_2 vt3 (by decide)) trivial rfl (From.ok (ps := [(some 9, 0)]) ⟨⟨_, rfl, by kernel_rfl, rfl, by kernel_rfl⟩, trivial⟩) (DAll.opT (ts_storeB (off := 2) (cells' := [vi i21, .ref 13, vi i47, .val (.bool b23)]) rfl rfl rfl rfl vt3 rfl rfl rfl) trivial (From.ok (ps := [(some 9, 0)]) ⟨⟨_, rfl, by kernel_rfl, rfl, by kernel_rfl⟩, trivial⟩) (From.ok (ps := []) trivial) (.nil)))))))))))))
  refine op1 0 rfl (sp_nilCheck rfl isBlk rfl) rfl trivial rfl rfl ?_
  refine op1 0 rfl (sp_fieldAddrB rfl isBlk rfl ft97_3 vt4 (by decide)) rfl trivial rfl rfl ?_
  refine stoB 0 (cells' := [vi i21, .ref 13, vi i47, .val (.bool true)]) rfl rfl trivial rfl rfl rfl rfl vt4 rfl rfl rfl ?_
  refine TL.nil ?_
  refine TC.seq ?_
  refine TC.freeze 1 rfl ?_
  refine subJ [] (ok_p_round_search_try_j2 hself h) ?_ ?_ ?_
  · exact ⟨rfl, rfl, rfl, trivial⟩
  · exact ⟨mem_at 0 rfl, mem_at 2 rfl, mem_at 3 rfl, mem_at 1 rfl, mem_at 6 rfl, mem_at 7 rfl, mem_at 8 rfl, mem_at 12 rfl, mem_at 13 rfl, trivial⟩
  · rfl
def ev_p_round_search_try_j6 (n : Nat) (self : Int → (List Int) → Int → Bool → (List (Int × Int × Int × Int × Int)) → (List ((List Int))) → (List (Int × Int × Int × Int)) → Int → Int → Int → Int → Int → Int → Int → Int → Int → Int → Int → (List Int) → Option (Int × (List Int) × Int × Bool)) (i105 : Int) (i106 : Int) (b107 : Bool) (l108 : List Int) (i109 : Int) (i110 : Int) (i111 : Int) (i112 : Int) (i113 : Int) (i114 : Int) (i115 : Int) (i116 : Int) (i117 : Int) (i118 : Int) (i119 : Int) (l120 : List Int) (l121 : List (Int × Int × Int × Int × Int)) (l122 : List ((List Int))) (l123 : List (Int × Int × Int × Int)) : Option (Int × (List Int) × Int × Bool) :=
  ev_p_round_search_try_j2 n self i105 i106 b107 l108 i109 i110 i111 i112 i113 i114 i115 i116 i117 i118 i119 l120 l121 l122 l123
theorem ok_p_round_search_try_j6 {n : Nat} {w0 : World} {M0 R0 : Nat → Prop} {env0 : Env} {df : List Deferred} {r : Int × (List Int) × Int × Bool} {self : Int → (List Int) → Int → Bool → (List (Int × Int × Int × Int × Int)) → (List ((List Int))) → (List (Int × Int × Int × Int)) → Int → Int → Int → Int → Int → Int → Int → Int → Int → Int → Int → (List Int) → Option (Int × (List Int) × Int × Bool)} {i105 : Int} {i106 : Int} {b107 : Bool} {l108 : List Int} {i109 : Int} {i110 : Int} {i111 : Int} {i112 : Int} {i113 : Int} {i114 : Int} {i115 : Int} {i116 : Int} {i117 : Int} {i118 : Int} {i119 : Int} {l120 : List Int} {l121 : List (Int × Int × Int × Int × Int)} {l122 : List ((List Int))} {l123 : List (Int × Int × Int × Int)} (hself : ∀ (s1z : Int) (s2z : List Int) (s3z : Int) (s4z : Bool) (w5z : List (Int × Int × Int × Int × Int)) (w6z : List ((List Int))) (w7z : List (Int × Int × Int × Int)) (w8z : Int) (w9z : Int) (w10z : Int) (w11z : Int) (w12z : Int) (w13z : Int) (w14z : Int) (w15z : Int) (w16z : Int) (w17z : Int) (w18z : Int) (steps19z : List Int) (r : Int × (List Int) × Int × Bool), self s1z s2z s3z s4z w5z w6z w7z w8z w9z w10z w11z w12z w13z w14z w15z w16z w17z w18z steps19z = some r → FT Try.prog 36 [.ptr 0 0, .agg [.ref 2, .ref 3, .ref 4, vi w8z, vi w9z, .val (.int .u16 w10z), vi w11z, vi w12z, vi w13z, vi w14z, vi w15z, vi w16z, vi w17z, vi w18z], .ref 5] [.blk 0 [vi s1z, .ref 1, vi s3z, .val (.bool s4z)] 97] [.ro 1 1 (List.map en_int s2z), .ro 2 5 (List.map en_api_RoundTower w5z), .ro 3 1 (List.map en_Lint w6z), .ro 4 4 (List.map en_api_RoundWinder w7z), .ro 5 1 (List.map en_int steps19z)] (.tup []) [.ro 500 1 (List.map en_int r.2.1), .blk 0 [vi r.1, .ref 500, vi r.2.2.1, .val (.bool r.2.2.2)] 97]) (h : ev_p_round_search_try_j6 n self i105 i106 b107 l108 i109 i110 i111 i112 i113 i114 i115 i116 i117 i118 i119 l120 l121 l122 l123 = some r) : TC Try.prog ⟨w0, M0, R0⟩ ⟨118, none, df⟩ (bodyPostM Fence.wide 0 Try.prog Try.f36 (PostT ⟨w0, M0, R0⟩ env0 [0] (.tup []) [.ro 500 1 (List.map en_int r.2.1), .blk 0 [vi r.1, .ref 500, vi r.2.2.1, .val (.bool r.2.2.2)] 97])) [.code (sub (bodyOf Try.f36) [1, 1, 0, 1, 0, 1, 1, 1]), .code (sub (bodyOf Try.f36) [1, 1, 1])] ([(0, .ptr 0 0), (2, .ref 5), (4, .ptr 8 0)]) ([.blk 0 [vi i105, .ref 1, vi i106, .val (.bool b107)] 97, .ro 5 1 (List.map en_int l108), .blk 8 [.ref 2, .ref 3, .ref 4, vi i109, vi i110, .val (.int .u16 i111), vi i112, vi i113, vi i114, vi i115, vi i116, vi i117, vi i118, vi i119] 100, .ro 1 1 (List.map en_int l120), .ro 2 5 (List.map en_api_RoundTower l121), .ro 3 1 (List.map en_Lint l122), .ro 4 4 (List.map en_api_RoundWinder l123), .inv 6 (marksI df), .pin 7 0 (env0 0)]) := by
  rw [ev_p_round_search_try_j6] at h
  refine TC.skip ?_
  refine TC.seq ?_
  refine subJ [(13, 1)] (ok_p_round_search_try_j2 hself h) ?_ ?_ ?_
  · exact ⟨rfl, rfl, rfl, trivial⟩
  · exact ⟨mem_at 0 rfl, mem_at 1 rfl, mem_at 2 rfl, mem_at 3 rfl, mem_at 4 rfl, mem_at 5 rfl, mem_at 6 rfl, mem_at 7 rfl, mem_at 8 rfl, trivial⟩
  · rfl
def ev_p_round_search_try_j0 (n : Nat) (w15 : Int) (s1 : Int) (w5 : List (Int × Int × Int × Int × Int)) (w6 : List ((List Int))) (w7 : List (Int × Int × Int × Int)) (w8 : Int) (w9 : Int) (w10 : Int) (w11 : Int) (w12 : Int) (w13 : Int) (w14 : Int) (w16 : Int) (w17 : Int) (w18 : Int) (s4 : Bool) (s3 : Int) (steps19 : List Int) (s2 : List Int) (self : Int → (List Int) → Int → Bool → (List (Int × Int × Int × Int × Int)) → (List ((List Int))) → (List (Int × Int × Int × Int)) → Int → Int → Int → Int → Int → Int → Int → Int → Int → Int → Int → (List Int) → Option (Int × (List Int) × Int × Bool)) : Option (Int × (List Int) × Int × Bool) :=
  cond (w15 == s1) ((ev_p_round_walker_home n w5 w6 w7 w8 w9 w10 w11 w12 w13 w14 w15 w16 w17 w18).bind fun r20 => cond (r20.1 == 0) (cond (!s4) (ev_p_round_search_try_j1 n self s1 s3 s4 steps19 w8 w9 w10 w11 w12 w13 w14 w15 w16 w17 w18 r20.2.2.2.2.1 r20.2.2.2.2.2.1 r20.2.2.2.2.2.2.1 r20.2.2.2.2.2.2.2.1 r20.2.2.2.2.2.2.2.2.1 r20.2.2.2.2.2.2.2.2.2.1 r20.2.2.2.2.2.2.2.2.2.2.1 r20.2.2.2.2.2.2.2.2.2.2.2.1 r20.2.2.2.2.2.2.2.2.2.2.2.2.1 r20.2.2.2.2.2.2.2.2.2.2.2.2.2.1 r20.2.2.2.2.2.2.2.2.2.2.2.2.2.2 s2 w5 w6 w7 r20.2.1 r20.2.2.1 r20.2.2.2.1) (cond (decide (r20.2.2.2.2.2.2.2.2.2.2.2.2.2.2 < s3)) (ev_p_round_search_try_j1 n self s1 s3 s4 steps19 w8 w9 w10 w11 w12 w13 w14 w15 w16 w17 w18 r20.2.2.2.2.1 r20.2.2.2.2.2.1 r20.2.2.2.2.2.2.1 r20.2.2.2.2.2.2.2.1 r20.2.2.2.2.2.2.2.2.1 r20.2.2.2.2.2.2.2.2.2.1 r20.2.2.2.2.2.2.2.2.2.2.1 r20.2.2.2.2.2.2.2.2.2.2.2.1 r20.2.2.2.2.2.2.2.2.2.2.2.2.1 r20.2.2.2.2.2.2.2.2.2.2.2.2.2.1 r20.2.2.2.2.2.2.2.2.2.2.2.2.2.2 s2 w5 w6 w7 r20.2.1 r20.2.2.1 r20.2.2.2.1) (ev_p_round_search_try_j6 n self s1 s3 s4 steps19 w8 w9 w10 w11 w12 w13 w14 w15 w16 w17 w18 s2 w5 w6 w7))) (ev_p_round_search_try_j6 n self s1 s3 s4 steps19 w8 w9 w10 w11 w12 w13 w14 w15 w16 w17 w18 s2 w5 w6 w7)) (ev_p_round_search_try_j2 n self s1 s3 s4 steps19 w8 w9 w10 w11 w12 w13 w14 w15 w16 w17 w18 s2 w5 w6 w7)
theorem ok_p_round_search_try_j0 {n : Nat} {w0 : World} {M0 R0 : Nat → Prop} {env0 : Env} {df : List Deferred} {r : Int × (List Int) × Int × Bool} {s1 : Int} {s3 : Int} {s4 : Bool} {steps19 : List Int} {w8 : Int} {w9 : Int} {w10 : Int} {w11 : Int} {w12 : Int} {w13 : Int} {w14 : Int} {w15 : Int} {w16 : Int} {w17 : Int} {w18 : Int} {s2 : List Int} {w5 : List (Int × Int × Int × Int × Int)} {w6 : List ((List Int))} {w7 : List (Int × Int × Int × Int)} {self : Int → (List Int) → Int → Bool → (List (Int × Int × Int × Int × Int)) → (List ((List Int))) → (List (Int × Int × Int × Int)) → Int → Int → Int → Int → Int → Int → Int → Int → Int → Int → Int → (List Int) → Option (Int × (List Int) × Int × Bool)} (hself : ∀ (s1z : Int) (s2z : List Int) (s3z : Int) (s4z : Bool) (w5z : List (Int × Int × Int × Int × Int)) (w6z : List ((List Int))) (w7z : List (Int × Int × Int × Int)) (w8z : Int) (w9z : Int) (w10z : Int) (w11z : Int) (w12z : Int) (w13z : Int) (w14z : Int) (w15z : Int) (w16z : Int) (w17z : Int) (w18z : Int) (steps19z : List Int) (r : Int × (List Int) × Int × Bool), self s1z s2z s3z s4z w5z w6z w7z w8z w9z w10z w11z w12z w13z w14z w15z w16z w17z w18z steps19z = some r → FT Try.prog 36 [.ptr 0 0, .agg [.ref 2, .ref 3, .ref 4, vi w8z, vi w9z, .val (.int .u16 w10z), vi w11z, vi w12z, vi w13z, vi w14z, vi w15z, vi w16z, vi w17z, vi w18z], .ref 5] [.blk 0 [vi s1z, .ref 1, vi s3z, .val (.bool s4z)] 97] [.ro 1 1 (List.map en_int s2z), .ro 2 5 (List.map en_api_RoundTower w5z), .ro 3 1 (List.map en_Lint w6z), .ro 4 4 (List.map en_api_RoundWinder w7z), .ro 5 1 (List.map en_int steps19z)] (.tup []) [.ro 500 1 (List.map en_int r.2.1), .blk 0 [vi r.1, .ref 500, vi r.2.2.1, .val (.bool r.2.2.2)] 97]) (h : ev_p_round_search_try_j0 n w15 s1 w5 w6 w7 w8 w9 w10 w11 w12 w13 w14 w16 w17 w18 s4 s3 steps19 s2 self = some r) : TC Try.prog ⟨w0, M0, R0⟩ ⟨118, none, df⟩ (bodyPostM Fence.wide 0 Try.prog Try.f36 (PostT ⟨w0, M0, R0⟩ env0 [0] (.tup []) [.ro 500 1 (List.map en_int r.2.1), .blk 0 [vi r.1, .ref 500, vi r.2.2.1, .val (.bool r.2.2.2)] 97])) [.code (sub (bodyOf Try.f36) [1, 0, 1, 1]), .code (sub (bodyOf Try.f36) [1, 1])] ([(0, .ptr 0 0), (2, .ref 5), (4, .ptr 8 0)]) ([.blk 0 [vi s1, .ref 1, vi s3, .val (.bool s4)] 97, .ro 5 1 (List.map en_int steps19), .blk 8 [.ref 2, .ref 3, .ref 4, vi w8, vi w9, .val (.int .u16 w10), vi w11, vi w12, vi w13, vi w14, vi w15, vi w16, vi w17, vi w18] 100, .ro 1 1 (List.map en_int s2), .ro 2 5 (List.map en_api_RoundTower w5), .ro 3 1 (List.map en_Lint w6), .ro 4 4 (List.map en_api_RoundWinder w7), .inv 6 (marksI df), .pin 7 0 (env0 0)]) := by
  rw [ev_p_round_search_try_j0] at h
  refine TC.skip ?_
  refine TC.seq ?_
  refine TC.seq ?_
  refine drawJ 6 [⟨.ptr 8 10, [], [.blk 8 [.ref 2, .ref 3, .ref 4, vi w8, vi w9, .val (.int .u16 w10), vi w11, vi w12, vi w13, vi w14, vi w15, vi w16, vi w17, vi w18] 100], []⟩, ⟨vi w15, [], [.blk 8 [.ref 2, .ref 3, .ref 4, vi w8, vi w9, .val (.int .u16 w10), vi w11, vi w12, vi w13, vi w14, vi w15, vi w16, vi w17, vi w18] 100], []⟩, ⟨.ptr 0 0, [], [], []⟩, ⟨.ptr 0 0, [], [.blk 0 [vi s1, .ref 1, vi s3, .val (.bool s4)] 97], []⟩, ⟨.ptr 0 0, [], [.blk 0 [vi s1, .ref 1, vi s3, .val (.bool s4)] 97], []⟩, ⟨vi s1, [], [.blk 0 [vi s1, .ref 1, vi s3, .val (.bool s4)] 97], []⟩] rfl ?_ rfl ?_ rfl ?_ ?_
  · kernel_rfl
  · kernel_rfl
  · exact DAll.op' (sp_fieldAddrB rfl isBlk rfl ft100_3 vt92 (by decide)) trivial rfl (From.ok (ps := [(none, 2)]) ⟨⟨rfl, rfl⟩, trivial⟩) (DAll.op' (sp_loadB rfl isBlk rfl vt92 rfl) trivial rfl (From.ok (ps := [(none, 2)]) ⟨⟨rfl, rfl⟩, trivial⟩) (DAll.op' (sp_move rfl rfl) trivial rfl (From.ok (ps := []) trivial) (DAll.op' (sp_nilCheck rfl isBlk rfl) trivial rfl (From.ok (ps := [(none, 0)]) ⟨⟨rfl, rfl⟩, trivial⟩) (DAll.op' (sp_fieldAddrB rfl isBlk rfl ft97_0 vt92 (by decide)) trivial rfl (From.ok (ps := [(none, 0)]) ⟨⟨rfl, rfl⟩, trivial⟩) (DAll.op' (sp_loadB rfl isBlk rfl vt92 rfl) trivial rfl (From.ok (ps := [(none, 0)]) ⟨⟨rfl, rfl⟩, trivial⟩) (.nil))))))
  refine op0 (sp_eql rfl rfl rfl) rfl trivial rfl rfl ?_
  refine TL.nil ?_
  refine TC.cond (b := (w15 == s1)) rfl (fun h3 => ?_) (fun h3 => ?_)
  · have h := cond_t h h3
    refine TC.seq ?_
    refine TC.region ?_
    refine op1 2 rfl (sp_loadBA rfl isBlk rfl vt100 rfl rfl) rfl trivial rfl rfl ?_
    refine op0 (sp_alloc 9 rfl Try.zeroValue100 rfl) rfl trivial rfl rfl ?_
    refine stoB 0 (cells' := [.ref 2, .ref 3, .ref 4, vi w8, vi w9, .val (.int .u16 w10), vi w11, vi w12, vi w13, vi w14, vi w15, vi w16, vi w17, vi w18]) rfl rfl trivial rfl rfl rfl rfl vt100 rfl rfl rfl ?_
    refine TL.nil ?_
    refine TC.seq ?_
    obtain ⟨r20, h4, h⟩ := bind_inv h
    rcases cond_cases h with ⟨h5, h⟩ | ⟨h5, h⟩
    · rcases cond_cases h with ⟨h6, h⟩ | ⟨h6, h⟩
      · refine drawJ 15 [⟨vi r20.1, [.ro 10 5 (List.map en_api_RoundTower r20.2.1), .ro 11 1 (List.map en_Lint r20.2.2.1), .ro 12 4 (List.map en_api_RoundWinder r20.2.2.2.1), .blk 9 [.ref 10, .ref 11, .ref 12, vi r20.2.2.2.2.1, vi r20.2.2.2.2.2.1, .val (.int .u16 r20.2.2.2.2.2.2.1), vi r20.2.2.2.2.2.2.2.1, vi r20.2.2.2.2.2.2.2.2.1, vi r20.2.2.2.2.2.2.2.2.2.1, vi r20.2.2.2.2.2.2.2.2.2.2.1, vi r20.2.2.2.2.2.2.2.2.2.2.2.1, vi r20.2.2.2.2.2.2.2.2.2.2.2.2.1, vi r20.2.2.2.2.2.2.2.2.2.2.2.2.2.1, vi r20.2.2.2.2.2.2.2.2.2.2.2.2.2.2] 100], [.ro 2 5 (List.map en_api_RoundTower w5), .ro 3 1 (List.map en_Lint w6), .ro 4 4 (List.map en_api_RoundWinder w7)], [.blk 9 [.ref 2, .ref 3, .ref 4, vi w8, vi w9, .val (.int .u16 w10), vi w11, vi w12, vi w13, vi w14, vi w15, vi w16, vi w17, vi w18] 100]⟩, ⟨.val (.bool (r20.1 == 0)), [], [], []⟩, ⟨.val (.bool true), [], [], []⟩, ⟨.ptr 0 0, [], [], []⟩, ⟨.ptr 0 0, [], [.blk 0 [vi s1, .ref 1, vi s3, .val (.bool s4)] 97], []⟩, ⟨.ptr 0 3, [], [.blk 0 [vi s1, .ref 1, vi s3, .val (.bool s4)] 97], []⟩, ⟨.val (.bool s4), [], [.blk 0 [vi s1, .ref 1, vi s3, .val (.bool s4)] 97], []⟩, ⟨.val (.bool (!s4)), [], [], []⟩, ⟨.val (.bool true), [], [], []⟩, ⟨.val (undef), [], [], []⟩, ⟨.val (undef), [], [], []⟩, ⟨.val (undef), [], [], []⟩, ⟨.val (undef), [], [], []⟩, ⟨.val (undef), [], [], []⟩, ⟨.val (undef), [], [], []⟩] rfl ?_ rfl ?_ rfl ?_ ?_
        · kernel_rfl
        · kernel_rfl
        · exact DAll.opT (ts_call (avs := [.ptr 9 0]) (take := [.blk 9 [.ref 2, .ref 3, .ref 4, vi w8, vi w9, .val (.int .u16 w10), vi w11, vi w12, vi w13, vi w14, vi w15, vi w16, vi w17, vi w18] 100]) (need := [.ro 2 5 (List.map en_api_RoundTower w5), .ro 3 1 (List.map en_Lint w6), .ro 4 4 (List.map en_api_RoundWinder w7)]) (v := vi r20.1) (news := [.ro 10 5 (List.map en_api_RoundTower r20.2.1), .ro 11 1 (List.map en_Lint r20.2.2.1), .ro 12 4 (List.map en_api_RoundWinder r20.2.2.2.1), .blk 9 [.ref 10, .ref 11, .ref 12, vi r20.2.2.2.2.1, vi r20.2.2.2.2.2.1, .val (.int .u16 r20.2.2.2.2.2.2.1), vi r20.2.2.2.2.2.2.2.1, vi r20.2.2.2.2.2.2.2.2.1, vi r20.2.2.2.2.2.2.2.2.2.1, vi r20.2.2.2.2.2.2.2.2.2.2.1, vi r20.2.2.2.2.2.2.2.2.2.2.2.1, vi r20.2.2.2.2.2.2.2.2.2.2.2.2.1, vi r20.2.2.2.2.2.2.2.2.2.2.2.2.2.1, vi r20.2.2.2.2.2.2.2.2.2.2.2.2.2.2] 100]) rfl rfl rfl Try.call39 (atT [(0, 9), (1, 2), (2, 3), (3, 4)] [(500, 10), (501, 11), (502, 12), (0, 9)] (ft_p_round_walker_home h4) rfl rfl rfl) rfl rfl) trivial (From.ok (ps := [(none, 0)]) ⟨⟨rfl, by kernel_rfl⟩, trivial⟩) (From.ok (ps := [(none, 5), (none, 6), (none, 7)]) ⟨⟨rfl, by kernel_rfl⟩, ⟨rfl, by kernel_rfl⟩, ⟨rfl, by kernel_rfl⟩, trivial⟩) (DAll.op' (sp_eql rfl rfl rfl) trivial rfl (From.ok (ps := []) trivial) (DAll.op' (sp_castB h5 (sp_move rfl rfl)) trivial rfl (From.ok (ps := []) trivial) (DAll.op' (sp_move rfl rfl) ⟨_, rfl, rfl⟩ rfl (From.ok (ps := []) trivial) (DAll.op' (sp_nilCheck rfl isBlk rfl) ⟨_, rfl, rfl⟩ rfl (From.ok (ps := [(none, 1)]) ⟨⟨rfl, by kernel_rfl⟩, trivial⟩) (DAll.op' (sp_fieldAddrB rfl isBlk rfl ft97_3 vt4 (by decide)) ⟨_, rfl, rfl⟩ rfl (From.ok (ps := [(none, 1)]) ⟨⟨rfl, by kernel_rfl⟩, trivial⟩) (DAll.op' (sp_loadB rfl isBlk rfl vt4 rfl) ⟨_, rfl, rfl⟩ rfl (From.ok (ps := [(none, 1)]) ⟨⟨rfl, by kernel_rfl⟩, trivial⟩) (DAll.op' (sp_not rfl rfl) ⟨_, rfl, rfl⟩ rfl (From.ok (ps := []) trivial) (DAll.op' (sp_castB h6 (sp_move rfl rfl)) ⟨_, rfl, rfl⟩ rfl (From.ok (ps := []) trivial) (.skip ⟨_, rfl, .inl rfl⟩ rfl rfl rfl (.skip ⟨_, rfl, .inl rfl⟩ rfl rfl rfl (.skip ⟨_, rfl, .inl rfl⟩ rfl rfl rfl (.skip ⟨_, rfl, .inl rfl⟩ rfl rfl rfl (.skip ⟨_, rfl, .inl rfl⟩ rfl rfl rfl (.skip ⟨_, rfl, .inl rfl⟩ rfl rfl rfl (.nil)))))))))))))))
        refine opSkip rfl ⟨_, rfl, .inl rfl⟩ rfl ?_
        refine op0 (sp_pickT rfl rfl rfl) rfl ⟨_, rfl, rfl⟩ rfl rfl ?_
        refine op0 (sp_pickT rfl rfl rfl) rfl trivial rfl rfl ?_
        refine TL.nil ?_
        refine TC.condT rfl ?_
        refine subJ [] (ok_p_round_search_try_j1 hself h) ?_ ?_ ?_
        · exact ⟨rfl, rfl, rfl, rfl, trivial⟩
        · exact ⟨mem_at 4 rfl, mem_at 5 rfl, mem_at 6 rfl, mem_at 3 rfl, mem_at 7 rfl, mem_at 8 rfl, mem_at 9 rfl, mem_at 10 rfl, mem_at 0 rfl, mem_at 1 rfl, mem_at 2 rfl, mem_at 11 rfl, mem_at 12 rfl, trivial⟩
        · rfl
      · refine drawJ 15 [⟨vi r20.1, [.ro 10 5 (List.map en_api_RoundTower r20.2.1), .ro 11 1 (List.map en_Lint r20.2.2.1), .ro 12 4 (List.map en_api_RoundWinder r20.2.2.2.1), .blk 9 [.ref 10, .ref 11, .ref 12, vi r20.2.2.2.2.1, vi r20.2.2.2.2.2.1, .val (.int .u16 r20.2.2.2.2.2.2.1), vi r20.2.2.2.2.2.2.2.1, vi r20.2.2.2.2.2.2.2.2.1, vi r20.2.2.2.2.2.2.2.2.2.1, vi r20.2.2.2.2.2.2.2.2.2.2.1, vi r20.2.2.2.2.2.2.2.2.2.2.2.1, vi r20.2.2.2.2.2.2.2.2.2.2.2.2.1, vi r20.2.2.2.2.2.2.2.2.2.2.2.2.2.1, vi r20.2.2.2.2.2.2.2.2.2.2.2.2.2.2] 100], [.ro 2 5 (List.map en_api_RoundTower w5), .ro 3 1 (List.map en_Lint w6), .ro 4 4 (List.map en_api_RoundWinder w7)], [.blk 9 [.ref 2, .ref 3, .ref 4, vi w8, vi w9, .val (.int .u16 w10), vi w11, vi w12, vi w13, vi w14, vi w15, vi w16, vi w17, vi w18] 100]⟩, ⟨.val (.bool (r20.1 == 0)), [], [], []⟩, ⟨.val (.bool true), [], [], []⟩, ⟨.ptr 0 0, [], [], []⟩, ⟨.ptr 0 0, [], [.blk 0 [vi s1, .ref 1, vi s3, .val (.bool s4)] 97], []⟩, ⟨.ptr 0 3, [], [.blk 0 [vi s1, .ref 1, vi s3, .val (.bool s4)] 97], []⟩, ⟨.val (.bool s4), [], [.blk 0 [vi s1, .ref 1, vi s3, .val (.bool s4)] 97], []⟩, ⟨.val (.bool (!s4)), [], [], []⟩, ⟨.val (.bool false), [], [], []⟩, ⟨.ptr 9 13, [], [.blk 9 [.ref 10, .ref 11, .ref 12, vi r20.2.2.2.2.1, vi r20.2.2.2.2.2.1, .val (.int .u16 r20.2.2.2.2.2.2.1), vi r20.2.2.2.2.2.2.2.1, vi r20.2.2.2.2.2.2.2.2.1, vi r20.2.2.2.2.2.2.2.2.2.1, vi r20.2.2.2.2.2.2.2.2.2.2.1, vi r20.2.2.2.2.2.2.2.2.2.2.2.1, vi r20.2.2.2.2.2.2.2.2.2.2.2.2.1, vi r20.2.2.2.2.2.2.2.2.2.2.2.2.2.1, vi r20.2.2.2.2.2.2.2.2.2.2.2.2.2.2] 100], []⟩, ⟨vi r20.2.2.2.2.2.2.2.2.2.2.2.2.2.2, [], [.blk 9 [.ref 10, .ref 11, .ref 12, vi r20.2.2.2.2.1, vi r20.2.2.2.2.2.1, .val (.int .u16 r20.2.2.2.2.2.2.1), vi r20.2.2.2.2.2.2.2.1, vi r20.2.2.2.2.2.2.2.2.1, vi r20.2.2.2.2.2.2.2.2.2.1, vi r20.2.2.2.2.2.2.2.2.2.2.1, vi r20.2.2.2.2.2.2.2.2.2.2.2.1, vi r20.2.2.2.2.2.2.2.2.2.2.2.2.1, vi r20.2.2.2.2.2.2.2.2.2.2.2.2.2.1, vi r20.2.2.2.2.2.2.2.2.2.2.2.2.2.2] 100], []⟩, ⟨.ptr 0 0, [], [], []⟩, ⟨.ptr 0 0, [], [.blk 0 [vi s1, .ref 1, vi s3, .val (.bool s4)] 97], []⟩, ⟨.ptr 0 2, [], [.blk 0 [vi s1, .ref 1, vi s3, .val (.bool s4)] 97], []⟩, ⟨vi s3, [], [.blk 0 [vi s1, .ref 1, vi s3, .val (.bool s4)] 97], []⟩] rfl ?_ rfl ?_ rfl ?_ ?_
        · kernel_rfl
        · kernel_rfl
        · exact DAll.opT (ts_call (avs := [.ptr 9 0]) (take := [.blk 9 [.ref 2, .ref 3, .ref 4, vi w8, vi w9, .val (.int .u16 w10), vi w11, vi w12, vi w13, vi w14, vi w15, vi w16, vi w17, vi w18] 100]) (need := [.ro 2 5 (List.map en_api_RoundTower w5), .ro 3 1 (List.map en_Lint w6), .ro 4 4 (List.map en_api_RoundWinder w7)]) (v := vi r20.1) (news := [.ro 10 5 (List.map en_api_RoundTower r20.2.1), .ro 11 1 (List.map en_Lint r20.2.2.1), .ro 12 4 (List.map en_api_RoundWinder r20.2.2.2.1), .blk 9 [.ref 10, .ref 11, .ref 12, vi r20.2.2.2.2.1, vi r20.2.2.2.2.2.1, .val (.int .u16 r20.2.2.2.2.2.2.1), vi r20.2.2.2.2.2.2.2.1, vi r20.2.2.2.2.2.2.2.2.1, vi r20.2.2.2.2.2.2.2.2.2.1, vi r20.2.2.2.2.2.2.2.2.2.2.1, vi r20.2.2.2.2.2.2.2.2.2.2.2.1, vi r20.2.2.2.2.2.2.2.2.2.2.2.2.1, vi r20.2.2.2.2.2.2.2.2.2.2.2.2.2.1, vi r20.2.2.2.2.2.2.2.2.2.2.2.2.2.2] 100]) rfl rfl rfl Try.call39 (atT [(0, 9), (1, 2), (2, 3), (3, 4)] [(500, 10), (501, 11), (502, 12), (0, 9)] (ft_p_round_walker_home h4) rfl rfl rfl) rfl rfl) trivial (From.ok (ps := [(none, 0)]) ⟨⟨rfl, by kernel_rfl⟩, trivial⟩) (From.ok (ps := [(none, 5), (none, 6), (none, 7)]) ⟨⟨rfl, by kernel_rfl⟩, ⟨rfl, by kernel_rfl⟩, ⟨rfl, by kernel_rfl⟩, trivial⟩) (DAll.op' (sp_eql rfl rfl rfl) trivial rfl (From.ok (ps := []) trivial) (DAll.op' (sp_castB h5 (sp_move rfl rfl)) trivial rfl (From.ok (ps := []) trivial) (DAll.op' (sp_move rfl rfl) ⟨_, rfl, rfl⟩ rfl (From.ok (ps := []) trivial) (DAll.op' (sp_nilCheck rfl isBlk rfl) ⟨_, rfl, rfl⟩ rfl (From.ok (ps := [(none, 1)]) ⟨⟨rfl, by kernel_rfl⟩, trivial⟩) (DAll.op' (sp_fieldAddrB rfl isBlk rfl ft97_3 vt4 (by decide)) ⟨_, rfl, rfl⟩ rfl (From.ok (ps := [(none, 1)]) ⟨⟨rfl, by kernel_rfl⟩, trivial⟩) (DAll.op' (sp_loadB rfl isBlk rfl vt4 rfl) ⟨_, rfl, rfl⟩ rfl (From.ok (ps := [(none, 1)]) ⟨⟨rfl, by kernel_rfl⟩, trivial⟩) (DAll.op' (sp_not rfl rfl) ⟨_, rfl, rfl⟩ rfl (From.ok (ps := []) trivial) (DAll.op' (sp_castB h6 (sp_move rfl rfl)) ⟨_, rfl, rfl⟩ rfl (From.ok (ps := []) trivial) (DAll.op' (sp_fieldAddrB rfl isBlk rfl ft100_6 vt3 (by decide)) ⟨_, rfl, rfl⟩ rfl (From.ok (ps := [(some 0, 3)]) ⟨⟨_, rfl, by kernel_rfl, rfl, by kernel_rfl⟩, trivial⟩) (DAll.op' (sp_loadB rfl isBlk rfl vt3 rfl) ⟨_, rfl, rfl⟩ rfl (From.ok (ps := [(some 0, 3)]) ⟨⟨_, rfl, by kernel_rfl, rfl, by kernel_rfl⟩, trivial⟩) (DAll.op' (sp_move rfl rfl) ⟨_, rfl, rfl⟩ rfl (From.ok (ps := []) trivial) (DAll.op' (sp_nilCheck rfl isBlk rfl) ⟨_, rfl, rfl⟩ rfl (From.ok (ps := [(none, 1)]) ⟨⟨rfl, by kernel_rfl⟩, trivial⟩) (DAll.op' (sp_fieldAddrB rfl isBlk rfl ft97_2 vt3 (by decide)) ⟨_, rfl, rfl⟩ rfl (From.ok (ps := [(none, 1)]) ⟨⟨rfl, by kernel_rfl⟩, trivial⟩) (DAll.op' (sp_loadB rfl isBlk rfl vt3 rfl) ⟨_, rfl, rfl⟩ rfl (From.ok (ps := [(none, 1)]) ⟨⟨rfl, by kernel_rfl⟩, trivial⟩) (.nil)))))))))))))))
        refine op0 (sp_lss rfl rfl rfl) rfl ⟨_, rfl, rfl⟩ rfl rfl ?_
        refine op0 (sp_pickF rfl rfl rfl) rfl ⟨_, rfl, rfl⟩ rfl rfl ?_
        refine op0 (sp_pickT rfl rfl rfl) rfl trivial rfl rfl ?_
        refine TL.nil ?_
        refine TC.cond (b := (decide (r20.2.2.2.2.2.2.2.2.2.2.2.2.2.2 < s3))) rfl (fun h38 => ?_) (fun h38 => ?_)
        · have h := cond_t h h38
          refine subJ [] (ok_p_round_search_try_j1 hself h) ?_ ?_ ?_
          · exact ⟨rfl, rfl, rfl, rfl, trivial⟩
          · exact ⟨mem_at 4 rfl, mem_at 5 rfl, mem_at 6 rfl, mem_at 3 rfl, mem_at 7 rfl, mem_at 8 rfl, mem_at 9 rfl, mem_at 10 rfl, mem_at 0 rfl, mem_at 1 rfl, mem_at 2 rfl, mem_at 11 rfl, mem_at 12 rfl, trivial⟩
          · rfl
        · have h := cond_f h h38
          refine subJ [] (ok_p_round_search_try_j6 hself h) ?_ ?_ ?_
          · exact ⟨rfl, rfl, rfl, trivial⟩
          · exact ⟨mem_at 4 rfl, mem_at 5 rfl, mem_at 6 rfl, mem_at 7 rfl, mem_at 8 rfl, mem_at 9 rfl, mem_at 10 rfl, mem_at 11 rfl, mem_at 12 rfl, trivial⟩
          · rfl
    · refine drawJ 15 [⟨vi r20.1, [.ro 10 5 (List.map en_api_RoundTower r20.2.1), .ro 11 1 (List.map en_Lint r20.2.2.1), .ro 12 4 (List.map en_api_RoundWinder r20.2.2.2.1), .blk 9 [.ref 10, .ref 11, .ref 12, vi r20.2.2.2.2.1, vi r20.2.2.2.2.2.1, .val (.int .u16 r20.2.2.2.2.2.2.1), vi r20.2.2.2.2.2.2.2.1, vi r20.2.2.2.2.2.2.2.2.1, vi r20.2.2.2.2.2.2.2.2.2.1, vi r20.2.2.2.2.2.2.2.2.2.2.1, vi r20.2.2.2.2.2.2.2.2.2.2.2.1, vi r20.2.2.2.2.2.2.2.2.2.2.2.2.1, vi r20.2.2.2.2.2.2.2.2.2.2.2.2.2.1, vi r20.2.2.2.2.2.2.2.2.2.2.2.2.2.2] 100], [.ro 2 5 (List.map en_api_RoundTower w5), .ro 3 1 (List.map en_Lint w6), .ro 4 4 (List.map en_api_RoundWinder w7)], [.blk 9 [.ref 2, .ref 3, .ref 4, vi w8, vi w9, .val (.int .u16 w10), vi w11, vi w12, vi w13, vi w14, vi w15, vi w16, vi w17, vi w18] 100]⟩, ⟨.val (.bool (r20.1 == 0)), [], [], []⟩, ⟨.val (.bool false), [], [], []⟩, ⟨.val (undef), [], [], []⟩, ⟨.val (undef), [], [], []⟩, ⟨.val (undef), [], [], []⟩, ⟨.val (undef), [], [], []⟩, ⟨.val (undef), [], [], []⟩, ⟨.val (undef), [], [], []⟩, ⟨.val (undef), [], [], []⟩, ⟨.val (undef), [], [], []⟩, ⟨.val (undef), [], [], []⟩, ⟨.val (undef), [], [], []⟩, ⟨.val (undef), [], [], []⟩, ⟨.val (undef), [], [], []⟩] rfl ?_ rfl ?_ rfl ?_ ?_
      · kernel_rfl
      · kernel_rfl
      · exact DAll.opT (ts_call (avs := [.ptr 9 0]) (take := [.blk 9 [.ref 2, .ref 3, .ref 4, vi w8, vi w9, .val (.int .u16 w10), vi w11, vi w12, vi w13, vi w14, vi w15, vi w16, vi w17, vi w18] 100]) (need := [.ro 2 5 (List.map en_api_RoundTower w5), .ro 3 1 (List.map en_Lint w6), .ro 4 4 (List.map en_api_RoundWinder w7)]) (v := vi r20.1) (news := [.ro 10 5 (List.map en_api_RoundTower r20.2.1), .ro 11 1 (List.map en_Lint r20.2.2.1), .ro 12 4 (List.map en_api_RoundWinder r20.2.2.2.1), .blk 9 [.ref 10, .ref 11, .ref 12, vi r20.2.2.2.2.1, vi r20.2.2.2.2.2.1, .val (.int .u16 r20.2.2.2.2.2.2.1), vi r20.2.2.2.2.2.2.2.1, vi r20.2.2.2.2.2.2.2.2.1, vi r20.2.2.2.2.2.2.2.2.2.1, vi r20.2.2.2.2.2.2.2.2.2.2.1, vi r20.2.2.2.2.2.2.2.2.2.2.2.1, vi r20.2.2.2.2.2.2.2.2.2.2.2.2.1, vi r20.2.2.2.2.2.2.2.2.2.2.2.2.2.1, vi r20.2.2.2.2.2.2.2.2.2.2.2.2.2.2] 100]) rfl rfl rfl Try.call39 (atT [(0, 9), (1, 2), (2, 3), (3, 4)] [(500, 10), (501, 11), (502, 12), (0, 9)] (ft_p_round_walker_home h4) rfl rfl rfl) rfl rfl) trivial (From.ok (ps := [(none, 0)]) ⟨⟨rfl, by kernel_rfl⟩, trivial⟩) (From.ok (ps := [(none, 5), (none, 6), (none, 7)]) ⟨⟨rfl, by kernel_rfl⟩, ⟨rfl, by kernel_rfl⟩, ⟨rfl, by kernel_rfl⟩, trivial⟩) (DAll.op' (sp_eql rfl rfl rfl) trivial rfl (From.ok (ps := []) trivial) (DAll.op' (sp_castB h5 (sp_move rfl rfl)) trivial rfl (From.ok (ps := []) trivial) (.skip ⟨_, rfl, .inl rfl⟩ rfl rfl rfl (.skip ⟨_, rfl, .inl rfl⟩ rfl rfl rfl (.skip ⟨_, rfl, .inl rfl⟩ rfl rfl rfl (.skip ⟨_, rfl, .inl rfl⟩ rfl rfl rfl (.skip ⟨_, rfl, .inl rfl⟩ rfl rfl rfl (.skip ⟨_, rfl, .inl rfl⟩ rfl rfl rfl (.skip ⟨_, rfl, .inr rfl⟩ rfl rfl rfl (.skip ⟨_, rfl, .inr rfl⟩ rfl rfl rfl (.skip ⟨_, rfl, .inr rfl⟩ rfl rfl rfl (.skip ⟨_, rfl, .inr rfl⟩ rfl rfl rfl (.skip ⟨_, rfl, .inr rfl⟩ rfl rfl rfl (.skip ⟨_, rfl, .inr rfl⟩ rfl rfl rfl (.nil)))))))))))))))
      refine opSkip rfl ⟨_, rfl, .inr rfl⟩ rfl ?_
      refine opSkip rfl ⟨_, rfl, .inl rfl⟩ rfl ?_
      refine op0 (sp_pickF rfl rfl rfl) rfl trivial rfl rfl ?_
      refine TL.nil ?_
      refine TC.condF rfl ?_
      refine subJ [] (ok_p_round_search_try_j6 hself h) ?_ ?_ ?_
      · exact ⟨rfl, rfl, rfl, trivial⟩
      · exact ⟨mem_at 4 rfl, mem_at 5 rfl, mem_at 6 rfl, mem_at 7 rfl, mem_at 8 rfl, mem_at 9 rfl, mem_at 10 rfl, mem_at 11 rfl, mem_at 12 rfl, trivial⟩
      · rfl
  · have h := cond_f h h3
    refine TC.skip ?_
    refine TC.seq ?_
    refine subJ [(13, 1)] (ok_p_round_search_try_j2 hself h) ?_ ?_ ?_
    · exact ⟨rfl, rfl, rfl, trivial⟩
    · exact ⟨mem_at 0 rfl, mem_at 1 rfl, mem_at 2 rfl, mem_at 3 rfl, mem_at 4 rfl, mem_at 5 rfl, mem_at 6 rfl, mem_at 7 rfl, mem_at 8 rfl, trivial⟩
    · rfl
def ev_p_round_search_try : Nat → Int → (List Int) → Int → Bool → (List (Int × Int × Int × Int × Int)) → (List ((List Int))) → (List (Int × Int × Int × Int)) → Int → Int → Int → Int → Int → Int → Int → Int → Int → Int → Int → (List Int) → Option (Int × (List Int) × Int × Bool)
  | 0, _, _, _, _, _, _, _, _, _, _, _, _, _, _, _, _, _, _, _ => none
  | n + 1, s1, s2, s3, s4, w5, w6, w7, w8, w9, w10, w11, w12, w13, w14, w15, w16, w17, w18, steps19 => cond s4 (cond (decide (s3 ≤ w18)) (some (s1, s2, s3, s4)) (ev_p_round_search_try_j0 n w15 s1 w5 w6 w7 w8 w9 w10 w11 w12 w13 w14 w16 w17 w18 s4 s3 steps19 s2 (ev_p_round_search_try n))) (ev_p_round_search_try_j0 n w15 s1 w5 w6 w7 w8 w9 w10 w11 w12 w13 w14 w16 w17 w18 s4 s3 steps19 s2 (ev_p_round_search_try n))
theorem fcr_p_round_search_try : ∀ (n : Nat) (s1 : Int) (s2 : List Int) (s3 : Int) (s4 : Bool) (w5 : List (Int × Int × Int × Int × Int)) (w6 : List ((List Int))) (w7 : List (Int × Int × Int × Int)) (w8 : Int) (w9 : Int) (w10 : Int) (w11 : Int) (w12 : Int) (w13 : Int) (w14 : Int) (w15 : Int) (w16 : Int) (w17 : Int) (w18 : Int) (steps19 : List Int) (r : Int × (List Int) × Int × Bool), ev_p_round_search_try n s1 s2 s3 s4 w5 w6 w7 w8 w9 w10 w11 w12 w13 w14 w15 w16 w17 w18 steps19 = some r → FT Try.prog 36 [.ptr 0 0, .agg [.ref 2, .ref 3, .ref 4, vi w8, vi w9, .val (.int .u16 w10), vi w11, vi w12, vi w13, vi w14, vi w15, vi w16, vi w17, vi w18], .ref 5] [.blk 0 [vi s1, .ref 1, vi s3, .val (.bool s4)] 97] [.ro 1 1 (List.map en_int s2), .ro 2 5 (List.map en_api_RoundTower w5), .ro 3 1 (List.map en_Lint w6), .ro 4 4 (List.map en_api_RoundWinder w7), .ro 5 1 (List.map en_int steps19)] (.tup []) [.ro 500 1 (List.map en_int r.2.1), .blk 0 [vi r.1, .ref 500, vi r.2.2.1, .val (.bool r.2.2.2)] 97] := by
  intro n
  induction n with
  | zero => intro _ _ _ _ _ _ _ _ _ _ _ _ _ _ _ _ _ _ _ r h; exact none_no h
  | succ n ih =>
    intro s1 s2 s3 s4 w5 w6 w7 w8 w9 w10 w11 w12 w13 w14 w15 w16 w17 w18 steps19 r h
    refine introM (nz := 118) 6 [(7, 0)] Try.func36 rfl rfl rfl rfl (fun w0 M0 R0 env0 => ?_)
    rw [ev_p_round_search_try] at h
    refine TC.seq ?_
    refine TC.region ?_
    refine op0 (sp_box 8 rfl rfl rfl rfl rfl) rfl trivial rfl rfl ?_
    refine TL.nil ?_
    refine TC.seq ?_
    refine TC.seq ?_
    rcases cond_cases h with ⟨h1, h⟩ | ⟨h1, h⟩
    · refine drawJ 11 [⟨.ptr 0 0, [], [], []⟩, ⟨.ptr 0 0, [], [.blk 0 [vi s1, .ref 1, vi s3, .val (.bool s4)] 97], []⟩, ⟨.ptr 0 3, [], [.blk 0 [vi s1, .ref 1, vi s3, .val (.bool s4)] 97], []⟩, ⟨.val (.bool s4), [], [.blk 0 [vi s1, .ref 1, vi s3, .val (.bool s4)] 97], []⟩, ⟨.val (.bool true), [], [], []⟩, ⟨.ptr 8 13, [], [.blk 8 [.ref 2, .ref 3, .ref 4, vi w8, vi w9, .val (.int .u16 w10), vi w11, vi w12, vi w13, vi w14, vi w15, vi w16, vi w17, vi w18] 100], []⟩, ⟨vi w18, [], [.blk 8 [.ref 2, .ref 3, .ref 4, vi w8, vi w9, .val (.int .u16 w10), vi w11, vi w12, vi w13, vi w14, vi w15, vi w16, vi w17, vi w18] 100], []⟩, ⟨.ptr 0 0, [], [], []⟩, ⟨.ptr 0 0, [], [.blk 0 [vi s1, .ref 1, vi s3, .val (.bool s4)] 97], []⟩, ⟨.ptr 0 2, [], [.blk 0 [vi s1, .ref 1, vi s3, .val (.bool s4)] 97], []⟩, ⟨vi s3, [], [.blk 0 [vi s1, .ref 1, vi s3, .val (.bool s4)] 97], []⟩] rfl ?_ rfl ?_ rfl ?_ ?_
      · kernel_rfl
      · kernel_rfl
      · exact DAll.op' (sp_move rfl rfl) trivial rfl (From.ok (ps := []) trivial) (DAll.op' (sp_nilCheck rfl isBlk rfl) trivial rfl (From.ok (ps := [(none, 3)]) ⟨⟨rfl, rfl⟩, trivial⟩) (DAll.op' (sp_fieldAddrB rfl isBlk rfl ft97_3 vt4 (by decide)) trivial rfl (From.ok (ps := [(none, 3)]) ⟨⟨rfl, rfl⟩, trivial⟩) (DAll.op' (sp_loadB rfl isBlk rfl vt4 rfl) trivial rfl (From.ok (ps := [(none, 3)]) ⟨⟨rfl, rfl⟩, trivial⟩) (DAll.op' (sp_castB h1 (sp_move rfl rfl)) trivial rfl (From.ok (ps := []) trivial) (DAll.op' (sp_fieldAddrB rfl isBlk rfl ft100_6 vt3 (by decide)) ⟨_, rfl, rfl⟩ rfl (From.ok (ps := [(none, 0)]) ⟨⟨rfl, rfl⟩, trivial⟩) (DAll.op' (sp_loadB rfl isBlk rfl vt3 rfl) ⟨_, rfl, rfl⟩ rfl (From.ok (ps := [(none, 0)]) ⟨⟨rfl, rfl⟩, trivial⟩) (DAll.op' (sp_move rfl rfl) ⟨_, rfl, rfl⟩ rfl (From.ok (ps := []) trivial) (DAll.op' (sp_nilCheck rfl isBlk rfl) ⟨_, rfl, rfl⟩ rfl (From.ok (ps := [(none, 3)]) ⟨⟨rfl, rfl⟩, trivial⟩) (DAll.op' (sp_fieldAddrB rfl isBlk rfl ft97_2 vt3 (by decide)) ⟨_, rfl, rfl⟩ rfl (From.ok (ps := [(none, 3)]) ⟨⟨rfl, rfl⟩, trivial⟩) (DAll.op' (sp_loadB rfl isBlk rfl vt3 rfl) ⟨_, rfl, rfl⟩ rfl (From.ok (ps := [(none, 3)]) ⟨⟨rfl, rfl⟩, trivial⟩) (.nil)))))))))))
      refine op0 (sp_geq rfl rfl rfl) rfl ⟨_, rfl, rfl⟩ rfl rfl ?_
      refine op0 (sp_pickT rfl rfl rfl) rfl trivial rfl rfl ?_
      refine TL.nil ?_
      refine TC.cond (b := (decide (s3 ≤ w18))) rfl (fun h2 => ?_) (fun h2 => ?_)
      · have h := cond_t h h2
        cases h
        exact retM [(500, 1)] 1 6 [0] rfl (.nil) rfl ⟨mem_at 3 rfl, mem_at 2 rfl, trivial⟩ rfl rfl ⟨⟨_, mem_at 1 rfl⟩, trivial⟩ rfl
      · have h := cond_f h h2
        refine subJ [] (ok_p_round_search_try_j0 ih h) ?_ ?_ ?_
        · exact ⟨rfl, rfl, rfl, trivial⟩
        · exact ⟨mem_at 3 rfl, mem_at 8 rfl, mem_at 0 rfl, mem_at 4 rfl, mem_at 5 rfl, mem_at 6 rfl, mem_at 7 rfl, mem_at 1 rfl, mem_at 2 rfl, trivial⟩
        · rfl
    · refine drawJ 11 [⟨.ptr 0 0, [], [], []⟩, ⟨.ptr 0 0, [], [.blk 0 [vi s1, .ref 1, vi s3, .val (.bool s4)] 97], []⟩, ⟨.ptr 0 3, [], [.blk 0 [vi s1, .ref 1, vi s3, .val (.bool s4)] 97], []⟩, ⟨.val (.bool s4), [], [.blk 0 [vi s1, .ref 1, vi s3, .val (.bool s4)] 97], []⟩, ⟨.val (.bool false), [], [], []⟩, ⟨.val (undef), [], [], []⟩, ⟨.val (undef), [], [], []⟩, ⟨.val (undef), [], [], []⟩, ⟨.val (undef), [], [], []⟩, ⟨.val (undef), [], [], []⟩, ⟨.val (undef), [], [], []⟩] rfl ?_ rfl ?_ rfl ?_ ?_
      · kernel_rfl
      · kernel_rfl
      · exact DAll.op' (sp_move rfl rfl) trivial rfl (From.ok (ps := []) trivial) (DAll.op' (sp_nilCheck rfl isBlk rfl) trivial rfl (From.ok (ps := [(none, 3)]) ⟨⟨rfl, rfl⟩, trivial⟩) (DAll.op' (sp_fieldAddrB rfl isBlk rfl ft97_3 vt4 (by decide)) trivial rfl (From.ok (ps := [(none, 3)]) ⟨⟨rfl, rfl⟩, trivial⟩) (DAll.op' (sp_loadB rfl isBlk rfl vt4 rfl) trivial rfl (From.ok (ps := [(none, 3)]) ⟨⟨rfl, rfl⟩, trivial⟩) (DAll.op' (sp_castB h1 (sp_move rfl rfl)) trivial rfl (From.ok (ps := []) trivial) (.skip ⟨_, rfl, .inl rfl⟩ rfl rfl rfl (.skip ⟨_, rfl, .inl rfl⟩ rfl rfl rfl (.skip ⟨_, rfl, .inl rfl⟩ rfl rfl rfl (.skip ⟨_, rfl, .inl rfl⟩ rfl rfl rfl (.skip ⟨_, rfl, .inl rfl⟩ rfl rfl rfl (.skip ⟨_, rfl, .inl rfl⟩ rfl rfl rfl (.nil)))))))))))
      refine opSkip rfl ⟨_, rfl, .inl rfl⟩ rfl ?_
      refine op0 (sp_pickF rfl rfl rfl) rfl trivial rfl rfl ?_
      refine TL.nil ?_
      refine TC.condF rfl ?_
      refine subJ [] (ok_p_round_search_try_j0 ih h) ?_ ?_ ?_
      · exact ⟨rfl, rfl, rfl, trivial⟩
      · exact ⟨mem_at 3 rfl, mem_at 8 rfl, mem_at 0 rfl, mem_at 4 rfl, mem_at 5 rfl, mem_at 6 rfl, mem_at 7 rfl, mem_at 1 rfl, mem_at 2 rfl, trivial⟩
      · rfl
theorem ft_p_round_search_try {n : Nat} {s1 : Int} {s2 : List Int} {s3 : Int} {s4 : Bool} {w5 : List (Int × Int × Int × Int × Int)} {w6 : List ((List Int))} {w7 : List (Int × Int × Int × Int)} {w8 : Int} {w9 : Int} {w10 : Int} {w11 : Int} {w12 : Int} {w13 : Int} {w14 : Int} {w15 : Int} {w16 : Int} {w17 : Int} {w18 : Int} {steps19 : List Int} {r : Int × (List Int) × Int × Bool} (h : ev_p_round_search_try n s1 s2 s3 s4 w5 w6 w7 w8 w9 w10 w11 w12 w13 w14 w15 w16 w17 w18 steps19 = some r) : FT Try.prog 36 [.ptr 0 0, .agg [.ref 2, .ref 3, .ref 4, vi w8, vi w9, .val (.int .u16 w10), vi w11, vi w12, vi w13, vi w14, vi w15, vi w16, vi w17, vi w18], .ref 5] [.blk 0 [vi s1, .ref 1, vi s3, .val (.bool s4)] 97] [.ro 1 1 (List.map en_int s2), .ro 2 5 (List.map en_api_RoundTower w5), .ro 3 1 (List.map en_Lint w6), .ro 4 4 (List.map en_api_RoundWinder w7), .ro 5 1 (List.map en_int steps19)] (.tup []) [.ro 500 1 (List.map en_int r.2.1), .blk 0 [vi r.1, .ref 500, vi r.2.2.1, .val (.bool r.2.2.2)] 97] := fcr_p_round_search_try n s1 s2 s3 s4 w5 w6 w7 w8 w9 w10 w11 w12 w13 w14 w15 w16 w17 w18 steps19 r h
def ev_round_Best (n : Nat) (rr1 : List (Int × Int × Int × Int × Int)) (rr2 : List ((List Int))) (rr3 : List (Int × Int × Int × Int)) (rr4 : Int) (rr5 : Int) (winder6 : Int) (towers7 : List Int) : Option ((List Int) × Int × Int) :=
  (ev_round_Check n rr1 rr2 rr3 rr4 rr5).bind fun r8 => cond (r8 != 0) (some (([] : List Int), 0, r8)) ((ev_round_isNumber n rr1 rr2 rr3 rr4 rr5 winder6).bind fun r9 => cond (!r9) (some (([] : List Int), 0, 7)) ((ev_round_checkTowers n rr1 rr2 rr3 rr4 rr5 towers7).bind fun r10 => cond (r10.2 != 0) (some (([] : List Int), 0, r10.2)) ((ev_round_start n rr1 rr2 rr3 rr4 rr5 winder6).bind fun r11 => (ev_p_round_search_try n r10.1 ([] : List Int) 0 false r11.1 r11.2.1 r11.2.2.1 r11.2.2.2.1 r11.2.2.2.2.1 r11.2.2.2.2.2.1 r11.2.2.2.2.2.2.1 r11.2.2.2.2.2.2.2.1 r11.2.2.2.2.2.2.2.2.1 r11.2.2.2.2.2.2.2.2.2.1 r11.2.2.2.2.2.2.2.2.2.2.1 r11.2.2.2.2.2.2.2.2.2.2.2.1 r11.2.2.2.2.2.2.2.2.2.2.2.2.1 r11.2.2.2.2.2.2.2.2.2.2.2.2.2 ([])).bind fun r12 => cond (!r12.2.2.2) (some (([] : List Int), 0, 7)) (some (r12.2.1, r12.2.2.1, 0)))))
theorem fc_round_Best {n : Nat} {rr1 : List (Int × Int × Int × Int × Int)} {rr2 : List ((List Int))} {rr3 : List (Int × Int × Int × Int)} {rr4 : Int} {rr5 : Int} {winder6 : Int} {towers7 : List Int} {r : (List Int) × Int × Int} (h : ev_round_Best n rr1 rr2 rr3 rr4 rr5 winder6 towers7 = some r) : FC Try.prog 21 [.agg [.ref 0, .ref 1, .ref 2, vi rr4, vi rr5], vi winder6, .ref 3] [.ro 0 5 (List.map en_api_RoundTower rr1), .ro 1 1 (List.map en_Lint rr2), .ro 2 4 (List.map en_api_RoundWinder rr3), .ro 3 1 (List.map en_int towers7)] (.tup [.ref 0, vi r.2.1, vi r.2.2]) [.ro 0 1 (List.map en_int r.1)] := by
  refine introJ (nz := 53) Try.func21 rfl rfl rfl (fun w0 R0 env0 => ?_)
  rw [ev_round_Best] at h
  refine TC.seq ?_
  refine TC.region ?_
  refine op0 (sp_box 4 rfl rfl rfl rfl rfl) rfl trivial rfl rfl ?_
  refine op0 (sp_assign rfl rfl) rfl trivial rfl rfl ?_
  refine op0 (sp_assign rfl rfl) rfl trivial rfl rfl ?_
  refine op0 (sp_assign rfl rfl) rfl trivial rfl rfl ?_
  refine TL.nil ?_
  refine TC.seq ?_
  refine TC.seq ?_
  refine TC.region ?_
  refine op1 0 rfl (sp_loadBA rfl isBlk rfl vt26 rfl rfl) rfl trivial rfl rfl ?_
  obtain ⟨r8, h1, h⟩ := bind_inv h
  refine opN (need := [.ro 0 5 (List.map en_api_RoundTower rr1), .ro 1 1 (List.map en_Lint rr2), .ro 2 4 (List.map en_api_RoundWinder rr3)]) [1, 2, 3] ⟨rfl, rfl, rfl, trivial⟩ (sp_call (avs := [.agg [.ref 0, .ref 1, .ref 2, vi rr4, vi rr5]]) (need := [.ro 0 5 (List.map en_api_RoundTower rr1), .ro 1 1 (List.map en_Lint rr2), .ro 2 4 (List.map en_api_RoundWinder rr3)]) (v := vi r8) (news := []) rfl rfl rfl Try.call33 (atJ [] [] (fc_round_Check h1) rfl rfl) (.inl (roAll rfl))) rfl trivial rfl rfl ?_
  refine op0 (sp_assign rfl rfl) rfl trivial rfl rfl ?_
  refine TL.nil ?_
  refine TC.block ?_
  refine TC.seq ?_
  refine TC.region ?_
  refine op0 (sp_move rfl rfl) rfl trivial rfl rfl ?_
  refine op0 (sp_neq rfl rfl rfl) rfl trivial rfl rfl ?_
  refine op0 (sp_assign rfl rfl) rfl trivial rfl rfl ?_
  refine TL.nil ?_
  refine TC.cond (b := (r8 != 0)) rfl (fun h2 => ?_) (fun h2 => ?_)
  · have h := cond_t h h2
    refine TC.seq ?_
    refine TC.region ?_
    refine op0 (sp_move rfl rfl) rfl trivial rfl rfl ?_
    refine op0 (sp_assign rfl rfl) rfl trivial rfl rfl ?_
    refine op0 (sp_assign rfl rfl) rfl trivial rfl rfl ?_
    refine op0 (sp_assign rfl rfl) rfl trivial rfl rfl ?_
    refine TL.nil ?_
    refine nilRowC 6 5 3 1 (List.map en_int []) rfl rfl rfl ?_
    refine TC.freeze 0 rfl ?_
    cases h
    exact retJ [(0, 5)] (.tmp rfl (.tmp rfl (.tmp rfl .nil))) rfl ⟨mem_at 0 rfl, trivial⟩ rfl rfl
  · have h := cond_f h h2
    refine TC.seq ?_
    refine TC.region ?_
    refine op1 0 rfl (sp_loadBA rfl isBlk rfl vt26 rfl rfl) rfl trivial rfl rfl ?_
    refine op0 (sp_move rfl rfl) rfl trivial rfl rfl ?_
    obtain ⟨r9, h3, h⟩ := bind_inv h
    refine opN (need := [.ro 0 5 (List.map en_api_RoundTower rr1), .ro 1 1 (List.map en_Lint rr2), .ro 2 4 (List.map en_api_RoundWinder rr3)]) [1, 2, 3] ⟨rfl, rfl, rfl, trivial⟩ (sp_call (avs := [.agg [.ref 0, .ref 1, .ref 2, vi rr4, vi rr5], vi winder6]) (need := [.ro 0 5 (List.map en_api_RoundTower rr1), .ro 1 1 (List.map en_Lint rr2), .ro 2 4 (List.map en_api_RoundWinder rr3)]) (v := .val (.bool r9)) (news := []) rfl rfl rfl Try.call34 (atJ [] [] (fc_round_isNumber h3) rfl rfl) (.inl (roAll rfl))) rfl trivial rfl rfl ?_
    refine op0 (sp_not rfl rfl) rfl trivial rfl rfl ?_
    refine op0 (sp_assign rfl rfl) rfl trivial rfl rfl ?_
    refine TL.nil ?_
    refine TC.cond (b := (!r9)) rfl (fun h4 => ?_) (fun h4 => ?_)
    · have h := cond_t h h4
      refine TC.seq ?_
      refine TC.region ?_
      refine op0 (sp_assign rfl rfl) rfl trivial rfl rfl ?_
      refine op0 (sp_assign rfl rfl) rfl trivial rfl rfl ?_
      refine op0 (sp_assign rfl rfl) rfl trivial rfl rfl ?_
      refine TL.nil ?_
      refine nilRowC 6 6 3 1 (List.map en_int []) rfl rfl rfl ?_
      refine TC.freeze 0 rfl ?_
      cases h
      exact retJ [(0, 6)] (.tmp rfl (.tmp rfl (.tmp rfl .nil))) rfl ⟨mem_at 0 rfl, trivial⟩ rfl rfl
    · have h := cond_f h h4
      refine TC.skip ?_
      refine TC.inBlock ?_
      refine TC.seq ?_
      refine TC.region ?_
      refine op1 0 rfl (sp_loadBA rfl isBlk rfl vt26 rfl rfl) rfl trivial rfl rfl ?_
      refine op0 (sp_move rfl rfl) rfl trivial rfl rfl ?_
      obtain ⟨r10, h5, h⟩ := bind_inv h
      refine opN (need := [.ro 0 5 (List.map en_api_RoundTower rr1), .ro 1 1 (List.map en_Lint rr2), .ro 2 4 (List.map en_api_RoundWinder rr3), .ro 3 1 (List.map en_int towers7)]) [1, 2, 3, 4] ⟨rfl, rfl, rfl, rfl, trivial⟩ (sp_call (avs := [.agg [.ref 0, .ref 1, .ref 2, vi rr4, vi rr5], .ref 3]) (need := [.ro 0 5 (List.map en_api_RoundTower rr1), .ro 1 1 (List.map en_Lint rr2), .ro 2 4 (List.map en_api_RoundWinder rr3), .ro 3 1 (List.map en_int towers7)]) (v := .tup [vi r10.1, vi r10.2]) (news := []) rfl rfl rfl Try.call35 (atJ [] [] (fc_round_checkTowers h5) rfl rfl) (.inl (roAll rfl))) rfl trivial rfl rfl ?_
      refine op0 (sp_move rfl rfl) rfl trivial rfl rfl ?_
      refine op0 (sp_extract rfl rfl rfl) rfl trivial rfl rfl ?_
      refine op0 (sp_extract rfl rfl rfl) rfl trivial rfl rfl ?_
      refine op0 (sp_assign rfl rfl) rfl trivial rfl rfl ?_
      refine op0 (sp_assign rfl rfl) rfl trivial rfl rfl ?_
      refine TL.nil ?_
      refine TC.seq ?_
      refine TC.seq ?_
      refine TC.region ?_
      refine op0 (sp_move rfl rfl) rfl trivial rfl rfl ?_
      refine op0 (sp_neq rfl rfl rfl) rfl trivial rfl rfl ?_
      refine TL.nil ?_
      refine TC.cond (b := (r10.2 != 0)) rfl (fun h6 => ?_) (fun h6 => ?_)
      · have h := cond_t h h6
        refine TC.seq ?_
        refine TC.region ?_
        refine op0 (sp_move rfl rfl) rfl trivial rfl rfl ?_
        refine op0 (sp_assign rfl rfl) rfl trivial rfl rfl ?_
        refine op0 (sp_assign rfl rfl) rfl trivial rfl rfl ?_
        refine op0 (sp_assign rfl rfl) rfl trivial rfl rfl ?_
        refine TL.nil ?_
        refine nilRowC 6 7 3 1 (List.map en_int []) rfl rfl rfl ?_
        refine TC.freeze 0 rfl ?_
        cases h
        exact retJ [(0, 7)] (.tmp rfl (.tmp rfl (.tmp rfl .nil))) rfl ⟨mem_at 0 rfl, trivial⟩ rfl rfl
      · have h := cond_f h h6
        refine TC.skip ?_
        refine TC.seq ?_
        refine TC.region ?_
        refine op0 (sp_move rfl rfl) rfl trivial rfl rfl ?_
        refine op0 (sp_build (qs := [(0, vi r10.1)]) rfl bt97 rfl rfl rfl rfl) rfl trivial rfl rfl ?_
        refine op0 (sp_box 8 rfl rfl rfl rfl rfl) rfl trivial rfl rfl ?_
        refine op0 (sp_assign rfl rfl) rfl trivial rfl rfl ?_
        refine TL.nil ?_
        refine TC.seq ?_
        refine TC.seq ?_
        refine TC.region ?_
        refine op0 (sp_move rfl rfl) rfl trivial rfl rfl ?_
        refine op1 1 rfl (sp_loadBA rfl isBlk rfl vt26 rfl rfl) rfl trivial rfl rfl ?_
        refine op0 (sp_move rfl rfl) rfl trivial rfl rfl ?_
        obtain ⟨r11, h7, h⟩ := bind_inv h
        refine opN (need := [.ro 0 5 (List.map en_api_RoundTower rr1), .ro 1 1 (List.map en_Lint rr2), .ro 2 4 (List.map en_api_RoundWinder rr3)]) [2, 3, 4] ⟨rfl, rfl, rfl, trivial⟩ (sp_call (avs := [.agg [.ref 0, .ref 1, .ref 2, vi rr4, vi rr5], vi winder6]) (need := [.ro 0 5 (List.map en_api_RoundTower rr1), .ro 1 1 (List.map en_Lint rr2), .ro 2 4 (List.map en_api_RoundWinder rr3)]) (v := .agg [.ref 9, .ref 10, .ref 11, vi r11.2.2.2.1, vi r11.2.2.2.2.1, .val (.int .u16 r11.2.2.2.2.2.1), vi r11.2.2.2.2.2.2.1, vi r11.2.2.2.2.2.2.2.1, vi r11.2.2.2.2.2.2.2.2.1, vi r11.2.2.2.2.2.2.2.2.2.1, vi r11.2.2.2.2.2.2.2.2.2.2.1, vi r11.2.2.2.2.2.2.2.2.2.2.2.1, vi r11.2.2.2.2.2.2.2.2.2.2.2.2.1, vi r11.2.2.2.2.2.2.2.2.2.2.2.2.2]) (news := [.ro 9 5 (List.map en_api_RoundTower r11.1), .ro 10 1 (List.map en_Lint r11.2.1), .ro 11 4 (List.map en_api_RoundWinder r11.2.2.1)]) rfl rfl rfl Try.call37 (atJ [] [(0, 9), (1, 10), (2, 11)] (fc_round_start h7) rfl rfl) (.inl (roAll rfl))) rfl trivial rfl rfl ?_
        refine nilCellL 3 12 3 1 8 (List.map en_int []) [vi r10.1, .ref 12, vi 0, .val (.bool false)] rfl rfl rfl ?_
        refine TL.freeze 0 rfl ?_
        obtain ⟨r12, h8, h⟩ := bind_inv h
        refine opT (take := [.blk 8 [vi r10.1, .ref 12, vi 0, .val (.bool false)] 97]) (need := [.ro 12 1 (List.map en_int ([] : List Int)), .ro 9 5 (List.map en_api_RoundTower r11.1), .ro 10 1 (List.map en_Lint r11.2.1), .ro 11 4 (List.map en_api_RoundWinder r11.2.2.1)]) (V' := [.ro 14 1 (List.map en_int r12.2.1), .blk 8 [vi r12.1, .ref 14, vi r12.2.2.1, .val (.bool r12.2.2.2)] 97, .ro 12 1 (List.map en_int ([] : List Int)), .ro 9 5 (List.map en_api_RoundTower r11.1), .ro 10 1 (List.map en_Lint r11.2.1), .ro 11 4 (List.map en_api_RoundWinder r11.2.2.1), .blk 4 [.ref 0, .ref 1, .ref 2, vi rr4, vi rr5] 26, .ro 0 5 (List.map en_api_RoundTower rr1), .ro 1 1 (List.map en_Lint rr2), .ro 2 4 (List.map en_api_RoundWinder rr3), .ro 3 1 (List.map en_int towers7)]) [4] [0, 1, 2, 3] (ts_call (avs := [.ptr 8 0, .agg [.ref 9, .ref 10, .ref 11, vi r11.2.2.2.1, vi r11.2.2.2.2.1, .val (.int .u16 r11.2.2.2.2.2.1), vi r11.2.2.2.2.2.2.1, vi r11.2.2.2.2.2.2.2.1, vi r11.2.2.2.2.2.2.2.2.1, vi r11.2.2.2.2.2.2.2.2.2.1, vi r11.2.2.2.2.2.2.2.2.2.2.1, vi r11.2.2.2.2.2.2.2.2.2.2.2.1, vi r11.2.2.2.2.2.2.2.2.2.2.2.2.1, vi r11.2.2.2.2.2.2.2.2.2.2.2.2.2], .val (.slice none 0 0)]) (take := [.blk 8 [vi r10.1, .ref 12, vi 0, .val (.bool false)] 97]) (need := [.ro 12 1 (List.map en_int ([] : List Int)), .ro 9 5 (List.map en_api_RoundTower r11.1), .ro 10 1 (List.map en_Lint r11.2.1), .ro 11 4 (List.map en_api_RoundWinder r11.2.2.1)]) (v := .tup []) (news := [.ro 14 1 (List.map en_int r12.2.1), .blk 8 [vi r12.1, .ref 14, vi r12.2.2.1, .val (.bool r12.2.2.2)] 97]) rfl rfl rfl Try.call36 (FT.nil (args := [.ptr 8 0, .agg [.ref 9, .ref 10, .ref 11, vi r11.2.2.2.1, vi r11.2.2.2.2.1, .val (.int .u16 r11.2.2.2.2.2.1), vi r11.2.2.2.2.2.2.1, vi r11.2.2.2.2.2.2.2.1, vi r11.2.2.2.2.2.2.2.2.1, vi r11.2.2.2.2.2.2.2.2.2.1, vi r11.2.2.2.2.2.2.2.2.2.2.1, vi r11.2.2.2.2.2.2.2.2.2.2.2.1, vi r11.2.2.2.2.2.2.2.2.2.2.2.2.1, vi r11.2.2.2.2.2.2.2.2.2.2.2.2.2], .ref 13]) 13 1 (FT.needJ (need := [.ro 13 1 (List.map en_int ([])), .ro 12 1 (List.map en_int ([] : List Int)), .ro 9 5 (List.map en_api_RoundTower r11.1), .ro 10 1 (List.map en_Lint r11.2.1), .ro 11 4 (List.map en_api_RoundWinder r11.2.2.1)]) (need' := [.ro 12 1 (List.map en_int ([] : List Int)), .ro 9 5 (List.map en_api_RoundTower r11.1), .ro 10 1 (List.map en_Lint r11.2.1), .ro 11 4 (List.map en_api_RoundWinder r11.2.2.1), .ro 13 1 (List.map en_int ([]))]) [1, 2, 3, 4, 0] ⟨rfl, rfl, rfl, rfl, rfl, trivial⟩ (atT [(0, 8), (1, 12), (2, 9), (3, 10), (4, 11), (5, 13)] [(500, 14), (0, 8)] (ft_p_round_search_try h8) rfl rfl rfl)) rfl rfl rfl rfl) rfl rfl) trivial rfl ⟨rfl, trivial⟩ ⟨rfl, rfl, rfl, rfl, trivial⟩ rfl rfl ?_
        refine TL.nil ?_
        refine TC.seq ?_
        refine TC.region ?_
        refine op0 (sp_move rfl rfl) rfl trivial rfl rfl ?_
        refine op1 1 rfl (sp_nilCheck rfl isBlk rfl) rfl trivial rfl rfl ?_
        refine op1 1 rfl (sp_fieldAddrB rfl isBlk rfl ft97_3 vt4 (by decide)) rfl trivial rfl rfl ?_
        refine op1 1 rfl (sp_loadB rfl isBlk rfl vt4 rfl) rfl trivial rfl rfl ?_
        refine op0 (sp_not rfl rfl) rfl trivial rfl rfl ?_
        refine TL.nil ?_
        refine TC.cond (b := (!r12.2.2.2)) rfl (fun h9 => ?_) (fun h9 => ?_)
        · have h := cond_t h h9
          refine TC.seq ?_
          refine TC.region ?_
          refine op0 (sp_assign rfl rfl) rfl trivial rfl rfl ?_
          refine op0 (sp_assign rfl rfl) rfl trivial rfl rfl ?_
          refine op0 (sp_assign rfl rfl) rfl trivial rfl rfl ?_
          refine TL.nil ?_
          refine nilRowC 6 15 3 1 (List.map en_int []) rfl rfl rfl ?_
          refine TC.freeze 0 rfl ?_
          cases h
          exact retJ [(0, 15)] (.tmp rfl (.tmp rfl (.tmp rfl .nil))) rfl ⟨mem_at 0 rfl, trivial⟩ rfl rfl
        · have h := cond_f h h9
          refine TC.skip ?_
          refine TC.seq ?_
          refine drawJ 9 [⟨.ptr 8 0, [], [], []⟩, ⟨.ptr 8 0, [], [.blk 8 [vi r12.1, .ref 14, vi r12.2.2.1, .val (.bool r12.2.2.2)] 97], []⟩, ⟨.ptr 8 1, [], [.blk 8 [vi r12.1, .ref 14, vi r12.2.2.1, .val (.bool r12.2.2.2)] 97], []⟩, ⟨.ref 14, [], [.blk 8 [vi r12.1, .ref 14, vi r12.2.2.1, .val (.bool r12.2.2.2)] 97], []⟩, ⟨.ptr 8 0, [], [], []⟩, ⟨.ptr 8 0, [], [.blk 8 [vi r12.1, .ref 14, vi r12.2.2.1, .val (.bool r12.2.2.2)] 97], []⟩, ⟨.ptr 8 2, [], [.blk 8 [vi r12.1, .ref 14, vi r12.2.2.1, .val (.bool r12.2.2.2)] 97], []⟩, ⟨vi r12.2.2.1, [], [.blk 8 [vi r12.1, .ref 14, vi r12.2.2.1, .val (.bool r12.2.2.2)] 97], []⟩, ⟨.ref 14, [], [], []⟩] rfl ?_ rfl ?_ rfl ?_ ?_
          · kernel_rfl
          · kernel_rfl
          · exact DAll.op' (sp_move rfl rfl) trivial rfl (From.ok (ps := []) trivial) (DAll.op' (sp_nilCheck rfl isBlk rfl) trivial rfl (From.ok (ps := [(none, 1)]) ⟨⟨rfl, rfl⟩, trivial⟩) (DAll.op' (sp_fieldAddrB rfl isBlk rfl ft97_1 vt30 (by decide)) trivial rfl (From.ok (ps := [(none, 1)]) ⟨⟨rfl, rfl⟩, trivial⟩) (DAll.op' (sp_loadB rfl isBlk rfl vt30 rfl) trivial rfl (From.ok (ps := [(none, 1)]) ⟨⟨rfl, rfl⟩, trivial⟩) (DAll.op' (sp_move rfl rfl) trivial rfl (From.ok (ps := []) trivial) (DAll.op' (sp_nilCheck rfl isBlk rfl) trivial rfl (From.ok (ps := [(none, 1)]) ⟨⟨rfl, rfl⟩, trivial⟩) (DAll.op' (sp_fieldAddrB rfl isBlk rfl ft97_2 vt3 (by decide)) trivial rfl (From.ok (ps := [(none, 1)]) ⟨⟨rfl, rfl⟩, trivial⟩) (DAll.op' (sp_loadB rfl isBlk rfl vt3 rfl) trivial rfl (From.ok (ps := [(none, 1)]) ⟨⟨rfl, rfl⟩, trivial⟩) (DAll.op' (sp_assign rfl rfl) trivial rfl (From.ok (ps := []) trivial) (.nil)))))))))
          refine op0 (sp_assign rfl rfl) rfl trivial rfl rfl ?_
          refine op0 (sp_assign rfl rfl) rfl trivial rfl rfl ?_
          refine TL.nil ?_
          cases h
          exact retJ [(0, 14)] (.tmp rfl (.tmp rfl (.tmp rfl .nil))) rfl ⟨mem_at 0 rfl, trivial⟩ rfl rfl
def ev_round_share_winders_l0 (n : Nat) (s1 : List (Int × (List Int))) : Nat → (List Int) → Int → (List (Int × (List Int))) → Option ((List Int))
  | 0, _, _, _ => none
  | m + 1, l3, i4, l5 => cond (decide (i4 < (s1.length : Int))) (idx l5 i4 fun x6 => chk (room 8 (l3.length + ([x6.1] : List Int).length)) <| chk (in64 (i4 + 1)) <| ev_round_share_winders_l0 n s1 m (l3 ++ ([x6.1] : List Int)) (i4 + 1) l5) (some l3)
theorem ok_round_share_winders_l0 {n : Nat} {w0 : World} {R0 : Nat → Prop} {env0 : Env} {r : (List Int)} {s1 : List (Int × (List Int))} : ∀ (m : Nat) (l3 : List Int) (i4 : Int) (l5 : List (Int × (List Int))), ev_round_share_winders_l0 n s1 m l3 i4 l5 = some r → TC Try.prog ⟨w0, fun _ => False, R0⟩ 19 (bodyPost Try.prog Try.f69 (Post ⟨w0, fun _ => False, R0⟩ env0 (.ref 0) [.row 0 3 1 (List.map en_int r)])) [.code (sub (bodyOf Try.f69) [1, 0, 1, 0, 0, 0]), .code (sub (bodyOf Try.f69) [1, 0, 1, 0, 0, 1]), .inLoop (sub (bodyOf Try.f69) [1, 0, 1, 0, 0]), .inBlock 0, .code (sub (bodyOf Try.f69) [1, 1])] ([(2, .ref 2), (6, .ref 0), (7, vi (s1.length : Int)), (8, vi i4)]) ([.row 2 3 1 (List.map en_int l3), .ro 0 2 (List.map en_api_RoundTrip l5)]) := by
  intro m
  induction m with
  | zero => intro l3 i4 l5 h; exact none_no h
  | succ m ih =>
    intro l3 i4 l5 h
    rw [ev_round_share_winders_l0] at h
    refine TC.region ?_
    refine op0 (sp_lss rfl rfl rfl) rfl trivial rfl rfl ?_
    refine TL.nil ?_
    refine TC.seq ?_
    refine TC.cond (b := (decide (i4 < (s1.length : Int)))) rfl (fun h1 => ?_) (fun h1 => ?_)
    · have h := cond_t h h1
      refine TC.skip ?_
      refine TC.seq ?_
      refine TC.block ?_
      refine TC.seq ?_
      refine TC.region ?_
      obtain ⟨x6, h2, h3, h⟩ := idx_inv h
      refine op1 1 rfl (sp_indexS rfl rfl rfl isRo sl68 h2 (map_get _ h3)) rfl trivial rfl rfl ?_
      refine op1 1 rfl (sp_loadRA (i := (i4 : Int).toNat) (j := 0) (as_ := [vi x6.1, .ref 3]) (ns := [.ro 3 1 (List.map en_int x6.2)]) rfl rfl isRo vt65 rfl (map_get _ h3) rfl rfl (by decide) (.v (.s (.nil))) (nodup_of_B rfl)) rfl trivial rfl rfl ?_
      refine op0 (sp_alloc 4 rfl Try.zeroValue65 rfl) rfl trivial rfl rfl ?_
      refine stoB 0 (cells' := [vi x6.1, .ref 3]) rfl rfl trivial rfl rfl rfl rfl vt65 rfl rfl rfl ?_
      refine TL.nil ?_
      refine TC.region ?_
      refine op0 (sp_move rfl rfl) rfl trivial rfl rfl ?_
      refine op1 0 rfl (sp_fieldAddrB rfl isBlk rfl ft65_0 vt3 (by decide)) rfl trivial rfl rfl ?_
      refine op1 0 rfl (sp_loadB rfl isBlk rfl vt3 rfl) rfl trivial rfl rfl ?_
      refine op0 (sp_buildSlice (qs := [vi x6.1]) (need := []) (els := List.map en_int ([x6.1] : List Int)) 5 rfl sl30 (by decide) (by decide) rfl rfl rfl (.v (.nil)) (map_len fun _ => rfl) rfl rfl rfl) rfl trivial rfl rfl ?_
      obtain ⟨h4, h⟩ := chk_inv h
      refine appM 3 0 (N := l3.length) (N2 := ([x6.1] : List Int).length) 6 rfl rfl trivial rfl rfl rfl rfl rfl isOwn rfl sl30 (len_map _ _) (len_map _ _) h4 (map_app _ _ _) rfl ?_
      refine op0 (sp_assign rfl rfl) rfl trivial rfl rfl ?_
      refine TL.nil ?_
      refine TC.inBlock ?_
      refine TC.region ?_
      obtain ⟨h5, h⟩ := chk_inv h
      refine op0 (sp_add rfl rfl rfl h5) rfl trivial rfl rfl ?_
      refine op0 (sp_move rfl rfl) rfl trivial rfl rfl ?_
      refine TL.nil ?_
      refine TC.inLoop ?_
      refine TC.seq ?_
      refine subJ [(2, 6)] (ih _ _ _ h) ?_ ?_ ?_
      · exact ⟨rfl, rfl, rfl, rfl, trivial⟩
      · exact ⟨mem_at 0 rfl, mem_at 4 rfl, trivial⟩
      · rfl
    · have h := cond_f h h1
      refine TC.exit rfl ?_
      refine TC.seq ?_
      refine TC.region ?_
      refine op0 (sp_move rfl rfl) rfl trivial rfl rfl ?_
      refine op0 (sp_assign rfl rfl) rfl trivial rfl rfl ?_
      refine TL.nil ?_
      cases h
      exact retJ [(0, 2)] (.tmp rfl .nil) rfl ⟨mem_at 0 rfl, trivial⟩ rfl rfl
def ev_round_share_winders (n : Nat) (s1 : List (Int × (List Int))) (s2 : Int) : Option ((List Int)) :=
  ev_round_share_winders_l0 n s1 n ([] : List Int) 0 s1
theorem fc_round_share_winders {n : Nat} {s1 : List (Int × (List Int))} {s2 : Int} {r : (List Int)} (h : ev_round_share_winders n s1 s2 = some r) : FC Try.prog 69 [.agg [.ref 0, vi s2]] [.ro 0 2 (List.map en_api_RoundTrip s1)] (.ref 0) [.row 0 3 1 (List.map en_int r)] := by
  refine introJ (nz := 19) Try.func69 rfl rfl rfl (fun w0 R0 env0 => ?_)
  rw [ev_round_share_winders] at h
  refine TC.seq ?_
  refine TC.region ?_
  refine op0 (sp_box 1 rfl rfl rfl rfl rfl) rfl trivial rfl rfl ?_
  refine op0 (sp_assign rfl rfl) rfl trivial rfl rfl ?_
  refine TL.nil ?_
  refine TC.seq ?_
  refine TC.seq ?_
  refine TC.region ?_
  refine op1 0 rfl (sp_fieldAddrB rfl isBlk rfl ft105_0 vt68 (by decide)) rfl trivial rfl rfl ?_
  refine op1 0 rfl (sp_loadB rfl isBlk rfl vt68 rfl) rfl trivial rfl rfl ?_
  refine op1 1 rfl (sp_lenM (N := s1.length) (len_map _ _) rfl rfl isRo Try.underlying68) rfl trivial rfl rfl ?_
  refine op0 (sp_move rfl rfl) rfl trivial rfl rfl ?_
  refine TL.nil ?_
  refine TC.block ?_
  refine TC.loop ?_
  refine TC.seq ?_
  refine nilRowC 2 7 3 1 (List.map en_int []) rfl rfl rfl ?_
  refine subJ [(2, 7)] (ok_round_share_winders_l0 _ _ _ _ h) ?_ ?_ ?_
  · exact ⟨rfl, rfl, rfl, rfl, trivial⟩
  · exact ⟨mem_at 0 rfl, mem_at 2 rfl, trivial⟩
  · rfl
def ev_round_share_compare_1 (n : Nat) (a1 : Int) (a2 : List Int) (b3 : Int) (b4 : List Int) : Option Int :=
  (ev_slices_Compare_Lint_int n a2 b4).bind fun r5 => some r5
theorem fc_round_share_compare_1 {n : Nat} {a1 : Int} {a2 : List Int} {b3 : Int} {b4 : List Int} {r : Int} (h : ev_round_share_compare_1 n a1 a2 b3 b4 = some r) : FC Try.prog 71 [.agg [vi a1, .ref 0], .agg [vi b3, .ref 1]] [.ro 0 1 (List.map en_int a2), .ro 1 1 (List.map en_int b4)] (vi r) [] := by
  refine introJ (nz := 10) Try.func71 rfl rfl rfl (fun w0 R0 env0 => ?_)
  rw [ev_round_share_compare_1] at h
  refine TC.seq ?_
  refine TC.region ?_
  refine op0 (sp_box 2 rfl rfl rfl rfl rfl) rfl trivial rfl rfl ?_
  refine op0 (sp_box 3 rfl rfl rfl rfl rfl) rfl trivial rfl rfl ?_
  refine op0 (sp_assign rfl rfl) rfl trivial rfl rfl ?_
  refine TL.nil ?_
  refine TC.seq ?_
  refine TC.region ?_
  refine op1 1 rfl (sp_fieldAddrB rfl isBlk rfl ft65_1 vt30 (by decide)) rfl trivial rfl rfl ?_
  refine op1 1 rfl (sp_loadB rfl isBlk rfl vt30 rfl) rfl trivial rfl rfl ?_
  refine op1 0 rfl (sp_fieldAddrB rfl isBlk rfl ft65_1 vt30 (by decide)) rfl trivial rfl rfl ?_
  refine op1 0 rfl (sp_loadB rfl isBlk rfl vt30 rfl) rfl trivial rfl rfl ?_
  obtain ⟨r5, h1, h⟩ := bind_inv h
  refine opN (need := [.ro 0 1 (List.map en_int a2), .ro 1 1 (List.map en_int b4)]) [2, 3] ⟨rfl, rfl, trivial⟩ (sp_call (avs := [.ref 0, .ref 1]) (need := [.ro 0 1 (List.map en_int a2), .ro 1 1 (List.map en_int b4)]) (v := vi r5) (news := []) rfl rfl rfl Try.call68 (atJ [] [] (fc_slices_Compare_Lint_int h1) rfl rfl) (.inl (roAll rfl))) rfl trivial rfl rfl ?_
  refine op0 (sp_assign rfl rfl) rfl trivial rfl rfl ?_
  refine TL.nil ?_
  cases h
  exact retJ [] (.tmp rfl .nil) rfl trivial rfl rfl
def ev_slices_CompareFunc_Lapi_RoundTrip_Lapi_RoundTrip_api_RoundTrip_api_RoundTrip_l0 (n : Nat) (s11 : List (Int × (List Int))) : Nat → Int → (List (Int × (List Int))) → (List (Int × (List Int))) → Option Int
  | 0, _, _, _ => none
  | m + 1, i3, l4, l5 => cond (decide (i3 < (s11.length : Int))) (idx l4 i3 fun x6 => cond (decide ((l5.length : Int) ≤ i3)) (some 1) (idx l5 i3 fun x7 => (ev_round_share_compare_1 n x6.1 x6.2 x7.1 x7.2).bind fun r8 => cond (r8 != 0) (some r8) (chk (in64 (i3 + 1)) <| ev_slices_CompareFunc_Lapi_RoundTrip_Lapi_RoundTrip_api_RoundTrip_api_RoundTrip_l0 n s11 m (i3 + 1) l4 l5))) (cond (decide ((l4.length : Int) < (l5.length : Int))) (some (-1)) (some 0))
theorem ok_slices_CompareFunc_Lapi_RoundTrip_Lapi_RoundTrip_api_RoundTrip_api_RoundTrip_l0 {n : Nat} {w0 : World} {R0 : Nat → Prop} {env0 : Env} {r : Int} {s11 : List (Int × (List Int))} : ∀ (m : Nat) (i3 : Int) (l4 : List (Int × (List Int))) (l5 : List (Int × (List Int))), ev_slices_CompareFunc_Lapi_RoundTrip_Lapi_RoundTrip_api_RoundTrip_api_RoundTrip_l0 n s11 m i3 l4 l5 = some r → TC Try.prog ⟨w0, fun _ => False, R0⟩ 39 (bodyPost Try.prog Try.f70 (Post ⟨w0, fun _ => False, R0⟩ env0 (vi r) [])) [.code (sub (bodyOf Try.f70) [1, 0, 1, 0, 0, 0]), .code (sub (bodyOf Try.f70) [1, 0, 1, 0, 0, 1]), .inLoop (sub (bodyOf Try.f70) [1, 0, 1, 0, 0]), .inBlock 0, .code (sub (bodyOf Try.f70) [1, 1])] ([(0, .ref 0), (1, .ref 1), (2, .fn 71 [] []), (11, .ref 0), (12, vi (s11.length : Int)), (13, vi i3)]) ([.ro 0 2 (List.map en_api_RoundTrip l4), .ro 1 2 (List.map en_api_RoundTrip l5)]) := by
  intro m
  induction m with
  | zero => intro i3 l4 l5 h; exact none_no h
  | succ m ih =>
    intro i3 l4 l5 h
    rw [ev_slices_CompareFunc_Lapi_RoundTrip_Lapi_RoundTrip_api_RoundTrip_api_RoundTrip_l0] at h
    refine TC.region ?_
    refine op0 (sp_lss rfl rfl rfl) rfl trivial rfl rfl ?_
    refine TL.nil ?_
    refine TC.seq ?_
    refine TC.cond (b := (decide (i3 < (s11.length : Int)))) rfl (fun h1 => ?_) (fun h1 => ?_)
    · have h := cond_t h h1
      refine TC.skip ?_
      refine TC.seq ?_
      refine TC.block ?_
      refine TC.seq ?_
      refine TC.region ?_
      refine op0 (sp_move rfl rfl) rfl trivial rfl rfl ?_
      obtain ⟨x6, h2, h3, h⟩ := idx_inv h
      refine op1 0 rfl (sp_indexS rfl rfl rfl isRo sl68 h2 (map_get _ h3)) rfl trivial rfl rfl ?_
      refine op1 0 rfl (sp_loadRA (i := (i3 : Int).toNat) (j := 0) (as_ := [vi x6.1, .ref 2]) (ns := [.ro 2 1 (List.map en_int x6.2)]) rfl rfl isRo vt65 rfl (map_get _ h3) rfl rfl (by decide) (.v (.s (.nil))) (nodup_of_B rfl)) rfl trivial rfl rfl ?_
      refine op0 (sp_alloc 3 rfl Try.zeroValue65 rfl) rfl trivial rfl rfl ?_
      refine op0 (sp_assign rfl rfl) rfl trivial rfl rfl ?_
      refine stoB 0 (cells' := [vi x6.1, .ref 2]) rfl rfl trivial rfl rfl rfl rfl vt65 rfl rfl rfl ?_
      refine TL.nil ?_
      refine TC.seq ?_
      refine TC.seq ?_
      refine TC.region ?_
      refine op0 (sp_move rfl rfl) rfl trivial rfl rfl ?_
      refine op0 (sp_move rfl rfl) rfl trivial rfl rfl ?_
      refine op1 3 rfl (sp_lenM (N := l5.length) (len_map _ _) rfl rfl isRo Try.underlying68) rfl trivial rfl rfl ?_
      refine op0 (sp_geq rfl rfl rfl) rfl trivial rfl rfl ?_
      refine TL.nil ?_
      refine TC.cond (b := (decide ((l5.length : Int) ≤ i3))) rfl (fun h4 => ?_) (fun h4 => ?_)
      · have h := cond_t h h4
        refine TC.seq ?_
        refine TC.region ?_
        refine op0 (sp_assign rfl rfl) rfl trivial rfl rfl ?_
        refine TL.nil ?_
        cases h
        exact retJ [] (.tmp rfl .nil) rfl trivial rfl rfl
      · have h := cond_f h h4
        refine TC.skip ?_
        refine TC.seq ?_
        refine TC.region ?_
        refine op0 (sp_move rfl rfl) rfl trivial rfl rfl ?_
        refine op0 (sp_move rfl rfl) rfl trivial rfl rfl ?_
        obtain ⟨x7, h5, h6, h⟩ := idx_inv h
        refine op1 3 rfl (sp_indexS rfl rfl rfl isRo sl68 h5 (map_get _ h6)) rfl trivial rfl rfl ?_
        refine op1 3 rfl (sp_loadRA (i := (i3 : Int).toNat) (j := 0) (as_ := [vi x7.1, .ref 4]) (ns := [.ro 4 1 (List.map en_int x7.2)]) rfl rfl isRo vt65 rfl (map_get _ h6) rfl rfl (by decide) (.v (.s (.nil))) (nodup_of_B rfl)) rfl trivial rfl rfl ?_
        refine op0 (sp_alloc 5 rfl Try.zeroValue65 rfl) rfl trivial rfl rfl ?_
        refine stoB 0 (cells' := [vi x7.1, .ref 4]) rfl rfl trivial rfl rfl rfl rfl vt65 rfl rfl rfl ?_
        refine TL.nil ?_
        refine TC.seq ?_
        refine TC.region ?_
        refine op0 (sp_move rfl rfl) rfl trivial rfl rfl ?_
        refine op1 2 rfl (sp_loadBA rfl isBlk rfl vt65 rfl rfl) rfl trivial rfl rfl ?_
        refine op1 0 rfl (sp_loadBA rfl isBlk rfl vt65 rfl rfl) rfl trivial rfl rfl ?_
        obtain ⟨r8, h7, h⟩ := bind_inv h
        refine opN (need := [.ro 2 1 (List.map en_int x6.2), .ro 4 1 (List.map en_int x7.2)]) [3, 1] ⟨rfl, rfl, trivial⟩ (sp_call (avs := [.agg [vi x6.1, .ref 2], .agg [vi x7.1, .ref 4]]) (need := [.ro 2 1 (List.map en_int x6.2), .ro 4 1 (List.map en_int x7.2)]) (v := vi r8) (news := []) rfl rfl rfl Try.call71 (atJ [(0, 2), (1, 4)] [] (fc_round_share_compare_1 h7) rfl rfl) (.inl (roAll rfl))) rfl trivial rfl rfl ?_
        refine op0 (sp_assign rfl rfl) rfl trivial rfl rfl ?_
        refine TL.nil ?_
        refine TC.seq ?_
        refine TC.region ?_
        refine op0 (sp_move rfl rfl) rfl trivial rfl rfl ?_
        refine op0 (sp_neq rfl rfl rfl) rfl trivial rfl rfl ?_
        refine TL.nil ?_
        refine TC.cond (b := (r8 != 0)) rfl (fun h8 => ?_) (fun h8 => ?_)
        · have h := cond_t h h8
          refine TC.seq ?_
          refine TC.region ?_
          refine op0 (sp_move rfl rfl) rfl trivial rfl rfl ?_
          refine op0 (sp_assign rfl rfl) rfl trivial rfl rfl ?_
          refine TL.nil ?_
          cases h
          exact retJ [] (.tmp rfl .nil) rfl trivial rfl rfl
        · have h := cond_f h h8
          refine TC.skip ?_
          refine TC.inBlock ?_
          refine TC.region ?_
          obtain ⟨h9, h⟩ := chk_inv h
          refine op0 (sp_add rfl rfl rfl h9) rfl trivial rfl rfl ?_
          refine op0 (sp_move rfl rfl) rfl trivial rfl rfl ?_
          refine TL.nil ?_
          refine TC.inLoop ?_
          refine TC.seq ?_
          refine subJ [] (ih _ _ _ h) ?_ ?_ ?_
          · exact ⟨rfl, rfl, rfl, rfl, rfl, rfl, trivial⟩
          · exact ⟨mem_at 4 rfl, mem_at 5 rfl, trivial⟩
          · rfl
    · have h := cond_f h h1
      refine TC.exit rfl ?_
      refine TC.seq ?_
      refine TC.seq ?_
      refine TC.region ?_
      refine op0 (sp_move rfl rfl) rfl trivial rfl rfl ?_
      refine op1 0 rfl (sp_lenM (N := l4.length) (len_map _ _) rfl rfl isRo Try.underlying68) rfl trivial rfl rfl ?_
      refine op0 (sp_move rfl rfl) rfl trivial rfl rfl ?_
      refine op1 1 rfl (sp_lenM (N := l5.length) (len_map _ _) rfl rfl isRo Try.underlying68) rfl trivial rfl rfl ?_
      refine op0 (sp_lss rfl rfl rfl) rfl trivial rfl rfl ?_
      refine TL.nil ?_
      refine TC.cond (b := (decide ((l4.length : Int) < (l5.length : Int)))) rfl (fun h10 => ?_) (fun h10 => ?_)
      · have h := cond_t h h10
        refine TC.seq ?_
        refine TC.region ?_
        refine op0 (sp_assign rfl rfl) rfl trivial rfl rfl ?_
        refine TL.nil ?_
        cases h
        exact retJ [] (.tmp rfl .nil) rfl trivial rfl rfl
      · have h := cond_f h h10
        refine TC.skip ?_
        refine TC.seq ?_
        refine TC.region ?_
        refine op0 (sp_assign rfl rfl) rfl trivial rfl rfl ?_
        refine TL.nil ?_
        cases h
        exact retJ [] (.tmp rfl .nil) rfl trivial rfl rfl
def ev_slices_CompareFunc_Lapi_RoundTrip_Lapi_RoundTrip_api_RoundTrip_api_RoundTrip (n : Nat) (s11 : List (Int × (List Int))) (s22 : List (Int × (List Int))) : Option Int :=
  ev_slices_CompareFunc_Lapi_RoundTrip_Lapi_RoundTrip_api_RoundTrip_api_RoundTrip_l0 n s11 n 0 s11 s22
theorem fc_slices_CompareFunc_Lapi_RoundTrip_Lapi_RoundTrip_api_RoundTrip_api_RoundTrip {n : Nat} {s11 : List (Int × (List Int))} {s22 : List (Int × (List Int))} {r : Int} (h : ev_slices_CompareFunc_Lapi_RoundTrip_Lapi_RoundTrip_api_RoundTrip_api_RoundTrip n s11 s22 = some r) : FC Try.prog 70 [.ref 0, .ref 1, .fn 71 [] []] [.ro 0 2 (List.map en_api_RoundTrip s11), .ro 1 2 (List.map en_api_RoundTrip s22)] (vi r) [] := by
  refine introJ (nz := 39) Try.func70 rfl rfl rfl (fun w0 R0 env0 => ?_)
  rw [ev_slices_CompareFunc_Lapi_RoundTrip_Lapi_RoundTrip_api_RoundTrip_api_RoundTrip] at h
  refine TC.seq ?_
  refine TC.region ?_
  refine op0 (sp_assign rfl rfl) rfl trivial rfl rfl ?_
  refine TL.nil ?_
  refine TC.seq ?_
  refine TC.seq ?_
  refine TC.region ?_
  refine op0 (sp_move rfl rfl) rfl trivial rfl rfl ?_
  refine op1 0 rfl (sp_lenM (N := s11.length) (len_map _ _) rfl rfl isRo Try.underlying68) rfl trivial rfl rfl ?_
  refine op0 (sp_move rfl rfl) rfl trivial rfl rfl ?_
  refine TL.nil ?_
  refine TC.block ?_
  refine TC.loop ?_
  refine TC.seq ?_
  refine subJ [] (ok_slices_CompareFunc_Lapi_RoundTrip_Lapi_RoundTrip_api_RoundTrip_api_RoundTrip_l0 _ _ _ _ h) ?_ ?_ ?_
  · exact ⟨rfl, rfl, rfl, rfl, rfl, rfl, trivial⟩
  · exact ⟨mem_at 0 rfl, mem_at 1 rfl, trivial⟩
  · rfl
def ev_round_share_compare (n : Nat) (s1 : List (Int × (List Int))) (s2 : Int) (t3 : List (Int × (List Int))) (t4 : Int) : Option Int :=
  (ev_cmp_Compare_int n (s1.length : Int) (t3.length : Int)).bind fun r5 => (ev_cmp_Compare_int n s2 t4).bind fun r6 => (ev_round_share_winders n s1 s2).bind fun r7 => (ev_round_share_winders n t3 t4).bind fun r8 => (ev_slices_Compare_Lint_int n r7 r8).bind fun r9 => (ev_slices_CompareFunc_Lapi_RoundTrip_Lapi_RoundTrip_api_RoundTrip_api_RoundTrip n s1 t3).bind fun r10 => (ev_cmp_Or_int n ([r5, r6, r9, r10] : List Int)).bind fun r11 => some r11
theorem fc_round_share_compare {n : Nat} {s1 : List (Int × (List Int))} {s2 : Int} {t3 : List (Int × (List Int))} {t4 : Int} {r : Int} (h : ev_round_share_compare n s1 s2 t3 t4 = some r) : FC Try.prog 42 [.agg [.ref 0, vi s2], .agg [.ref 1, vi t4]] [.ro 0 2 (List.map en_api_RoundTrip s1), .ro 1 2 (List.map en_api_RoundTrip t3)] (vi r) [] := by
  refine introJ (nz := 29) Try.func42 rfl rfl rfl (fun w0 R0 env0 => ?_)
  rw [ev_round_share_compare] at h
  refine TC.seq ?_
  refine TC.region ?_
  refine op0 (sp_box 2 rfl rfl rfl rfl rfl) rfl trivial rfl rfl ?_
  refine op0 (sp_box 3 rfl rfl rfl rfl rfl) rfl trivial rfl rfl ?_
  refine op0 (sp_assign rfl rfl) rfl trivial rfl rfl ?_
  refine TL.nil ?_
  refine TC.seq ?_
  obtain ⟨r5, h1, h⟩ := bind_inv h
  obtain ⟨r6, h2, h⟩ := bind_inv h
  obtain ⟨r7, h3, h⟩ := bind_inv h
  obtain ⟨r8, h4, h⟩ := bind_inv h
  obtain ⟨r9, h5, h⟩ := bind_inv h
  refine drawJ 21 [⟨.ptr 2 0, [], [.blk 2 [.ref 0, vi s2] 105], []⟩, ⟨.ref 0, [], [.blk 2 [.ref 0, vi s2] 105], []⟩, ⟨vi (s1.length : Int), [], [.ro 0 2 (List.map en_api_RoundTrip s1)], []⟩, ⟨.ptr 3 0, [], [.blk 3 [.ref 1, vi t4] 105], []⟩, ⟨.ref 1, [], [.blk 3 [.ref 1, vi t4] 105], []⟩, ⟨vi (t3.length : Int), [], [.ro 1 2 (List.map en_api_RoundTrip t3)], []⟩, ⟨vi r5, [], [], []⟩, ⟨.ptr 2 1, [], [.blk 2 [.ref 0, vi s2] 105], []⟩, ⟨vi s2, [], [.blk 2 [.ref 0, vi s2] 105], []⟩, ⟨.ptr 3 1, [], [.blk 3 [.ref 1, vi t4] 105], []⟩, ⟨vi t4, [], [.blk 3 [.ref 1, vi t4] 105], []⟩, ⟨vi r6, [], [], []⟩, ⟨.agg [.ref 0, vi s2], [], [.blk 2 [.ref 0, vi s2] 105], []⟩, ⟨.ref 4, [.row 4 3 1 (List.map en_int r7)], [.ro 0 2 (List.map en_api_RoundTrip s1)], []⟩, ⟨.agg [.ref 1, vi t4], [], [.blk 3 [.ref 1, vi t4] 105], []⟩, ⟨.ref 5, [.row 5 3 1 (List.map en_int r8)], [.ro 1 2 (List.map en_api_RoundTrip t3)], []⟩, ⟨vi r9, [], [.row 4 3 1 (List.map en_int r7), .row 5 3 1 (List.map en_int r8)], []⟩, ⟨.ptr 2 0, [], [.blk 2 [.ref 0, vi s2] 105], []⟩, ⟨.ref 0, [], [.blk 2 [.ref 0, vi s2] 105], []⟩, ⟨.ptr 3 0, [], [.blk 3 [.ref 1, vi t4] 105], []⟩, ⟨.ref 1, [], [.blk 3 [.ref 1, vi t4] 105], []⟩] rfl ?_ rfl ?_ rfl ?_ ?_
  · kernel_rfl
  · kernel_rfl
  · exact DAll.op' (sp_fieldAddrB rfl isBlk rfl ft105_0 vt68 (by decide)) trivial rfl (From.ok (ps := [(none, 1)]) ⟨⟨rfl, by kernel_rfl⟩, trivial⟩) (DAll.op' (sp_loadB rfl isBlk rfl vt68 rfl) trivial rfl (From.ok (ps := [(none, 1)]) ⟨⟨rfl, by kernel_rfl⟩, trivial⟩) (DAll.op' (sp_lenM (N := s1.length) (len_map _ _) rfl rfl isRo Try.underlying68) trivial rfl (From.ok (ps := [(none, 2)]) ⟨⟨rfl, by kernel_rfl⟩, trivial⟩) (DAll.op' (sp_fieldAddrB rfl isBlk rfl ft105_0 vt68 (by decide)) trivial rfl (From.ok (ps := [(none, 0)]) ⟨⟨rfl, by kernel_rfl⟩, trivial⟩) (DAll.op' (sp_loadB rfl isBlk rfl vt68 rfl) trivial rfl (From.ok (ps := [(none, 0)]) ⟨⟨rfl, by kernel_rfl⟩, trivial⟩) (DAll.op' (sp_lenM (N := t3.length) (len_map _ _) rfl rfl isRo Try.underlying68) trivial rfl (From.ok (ps := [(none, 3)]) ⟨⟨rfl, by kernel_rfl⟩, trivial⟩) (DAll.op' (sp_call (avs := [vi (s1.length : Int), vi (t3.length : Int)]) (need := []) (v := vi r5) (news := []) rfl rfl rfl Try.call67 (atJ [] [] (fc_cmp_Compare_int h1) rfl rfl) (.inl (roAll rfl))) trivial rfl (From.ok (ps := []) trivial) (DAll.op' (sp_fieldAddrB rfl isBlk rfl ft105_1 vt3 (by decide)) trivial rfl (From.ok (ps := [(none, 1)]) ⟨⟨rfl, by kernel_rfl⟩, trivial⟩) (DAll.op' (sp_loadB rfl isBlk rfl vt3 rfl) trivial rfl (From.ok (ps := [(none, 1)]) ⟨⟨rfl, by kernel_rfl⟩, trivial⟩) (DAll.op' (sp_fieldAddrB rfl isBlk rfl ft105_1 vt3 (by decide)) trivial rfl (From.ok (ps := [(none, 0)]) ⟨⟨rfl, by kernel_rfl⟩, trivial⟩) (DAll.op' (sp_loadB rfl isBlk rfl vt3 rfl) trivial rfl (From.ok (ps := [(none, 0)]) ⟨⟨rfl, by kernel_rfl⟩, trivial⟩) (DAll.op' (sp_call (avs := [vi s2, vi t4]) (need := []) (v := vi r6) (news := []) rfl rfl rfl Try.call67 (atJ [] [] (fc_cmp_Compare_int h2) rfl rfl) (.inl (roAll rfl))) trivial rfl (From.ok (ps := []) trivial) (DAll.op' (sp_loadBA rfl isBlk rfl vt105 rfl rfl) trivial rfl (From.ok (ps := [(none, 1)]) ⟨⟨rfl, by kernel_rfl⟩, trivial⟩) (DAll.op' (sp_call (avs := [.agg [.ref 0, vi s2]]) (need := [.ro 0 2 (List.map en_api_RoundTrip s1)]) (v := .ref 4) (news := [.row 4 3 1 (List.map en_int r7)]) rfl rfl rfl Try.call69 (atJ [] [(0, 4)] (fc_round_share_winders h3) rfl rfl) (.inl (roAll rfl))) trivial rfl (From.ok (ps := [(none, 2)]) ⟨⟨rfl, by kernel_rfl⟩, trivial⟩) (DAll.op' (sp_loadBA rfl isBlk rfl vt105 rfl rfl) trivial rfl (From.ok (ps := [(none, 0)]) ⟨⟨rfl, by kernel_rfl⟩, trivial⟩) (DAll.op' (sp_call (avs := [.agg [.ref 1, vi t4]]) (need := [.ro 1 2 (List.map en_api_RoundTrip t3)]) (v := .ref 5) (news := [.row 5 3 1 (List.map en_int r8)]) rfl rfl rfl Try.call69 (atJ [(0, 1)] [(0, 5)] (fc_round_share_winders h4) rfl rfl) (.inl (roAll rfl))) trivial rfl (From.ok (ps := [(none, 3)]) ⟨⟨rfl, by kernel_rfl⟩, trivial⟩) (DAll.op' (sp_call (avs := [.ref 4, .ref 5]) (need := [.row 4 3 1 (List.map en_int r7), .row 5 3 1 (List.map en_int r8)]) (v := vi r9) (news := []) rfl rfl rfl Try.call68 (atJ [(0, 4), (1, 5)] [] (fc_slices_Compare_Lint_int h5) rfl rfl) (.inr (fun x hx => nomatch hx))) trivial rfl (From.ok (ps := [(some 13, 0), (some 15, 0)]) ⟨⟨_, rfl, by kernel_rfl, rfl, by kernel_rfl⟩, ⟨_, rfl, by kernel_rfl, rfl, by kernel_rfl⟩, trivial⟩) (DAll.op' (sp_fieldAddrB rfl isBlk rfl ft105_0 vt68 (by decide)) trivial rfl (From.ok (ps := [(none, 1)]) ⟨⟨rfl, by kernel_rfl⟩, trivial⟩) (DAll.op' (sp_loadB rfl isBlk rfl vt68 rfl) trivial rfl (From.ok (ps := [(none, 1)]) ⟨⟨rfl, by kernel_rfl⟩, trivial⟩) (DAll.op' (sp_fieldAddrB rfl isBlk rfl ft105_0 vt68 (by decide)) trivial rfl (From.ok (ps := [(none, 0)]) ⟨⟨rfl, by kernel_rfl⟩, trivial⟩) (DAll.op' (sp_loadB rfl isBlk rfl vt68 rfl) trivial rfl (From.ok (ps := [(none, 0)]) ⟨⟨rfl, by kernel_rfl⟩, trivial⟩) (.nil)))))))))))))))))))))
  obtain ⟨r10, h6, h⟩ := bind_inv h
  refine opN (need := [.ro 0 2 (List.map en_api_RoundTrip s1), .ro 1 2 (List.map en_api_RoundTrip t3)]) [4, 5] ⟨rfl, rfl, trivial⟩ (sp_call (avs := [.ref 0, .ref 1, .fn 71 [] []]) (need := [.ro 0 2 (List.map en_api_RoundTrip s1), .ro 1 2 (List.map en_api_RoundTrip t3)]) (v := vi r10) (news := []) rfl rfl rfl Try.call70 (atJ [] [] (fc_slices_CompareFunc_Lapi_RoundTrip_Lapi_RoundTrip_api_RoundTrip_api_RoundTrip h6) rfl rfl) (.inl (roAll rfl))) rfl trivial rfl rfl ?_
  refine op0 (sp_buildSlice (qs := [vi r5, vi r6, vi r9, vi r10]) (need := []) (els := List.map en_int ([r5, r6, r9, r10] : List Int)) 6 rfl sl30 (by decide) (by decide) rfl rfl rfl (.v (.v (.v (.v (.nil))))) (map_len fun _ => rfl) rfl rfl rfl) rfl trivial rfl rfl ?_
  obtain ⟨r11, h7, h⟩ := bind_inv h
  refine op1 0 rfl (sp_call (avs := [.ref 6]) (need := [.row 6 3 1 (List.map en_int ([r5, r6, r9, r10] : List Int))]) (v := vi r11) (news := []) rfl rfl rfl Try.call66 (atJ [(0, 6)] [] (fc_cmp_Or_int h7) rfl rfl) (.inr (fun x hx => nomatch hx))) rfl trivial rfl rfl ?_
  refine op0 (sp_assign rfl rfl) rfl trivial rfl rfl ?_
  refine TL.nil ?_
  cases h
  exact retJ [] (.tmp rfl .nil) rfl trivial rfl rfl
def ev_round_Fewest_1 (n : Nat) (s1 : List (Int × (List Int))) (s2 : Int) (c3 : Bool) (c4 : Int) : Option (Bool × (List (Int × (List Int))) × Int) :=
  cond (!c3) (some (true, s1, s2)) ((ev_round_share_compare n s1 s2 ([]) c4).bind fun r5 => cond (decide (r5 < 0)) (some (true, s1, s2)) (some (c3, ([] : List (Int × (List Int))), c4)))
theorem ft_round_Fewest_1 {n : Nat} {s1 : List (Int × (List Int))} {s2 : Int} {c3 : Bool} {c4 : Int} {r : Bool × (List (Int × (List Int))) × Int} (h : ev_round_Fewest_1 n s1 s2 c3 c4 = some r) : FT Try.prog 41 [.agg [.ref 0, vi s2], .ptr 1 0, .ptr 2 0] [.blk 1 [.val (.bool c3)] 4, .blk 2 [.val (.slice none 0 0), vi c4] 105] [.ro 0 2 (List.map en_api_RoundTrip s1)] (.tup []) [.blk 1 [.val (.bool r.1)] 4, .ro 500 2 (List.map en_api_RoundTrip r.2.1), .blk 2 [.ref 500, vi r.2.2] 105] := by
  refine introM (nz := 13) 3 [(4, 1), (5, 2)] Try.func41 rfl rfl rfl rfl (fun w0 M0 R0 env0 => ?_)
  rw [ev_round_Fewest_1] at h
  refine TC.seq ?_
  refine TC.region ?_
  refine op0 (sp_box 6 rfl rfl rfl rfl rfl) rfl trivial rfl rfl ?_
  refine TL.nil ?_
  refine TC.seq ?_
  refine TC.region ?_
  refine op1 4 rfl (sp_loadB rfl isBlk rfl vt4 rfl) rfl trivial rfl rfl ?_
  refine op0 (sp_not rfl rfl) rfl trivial rfl rfl ?_
  refine op0 (sp_move rfl rfl) rfl trivial rfl rfl ?_
  rcases cond_cases h with ⟨h1, h⟩ | ⟨h1, h⟩
  · refine (boolLit 6 rfl h1).2 ?_
    refine opSkip rfl ⟨_, rfl, .inl rfl⟩ rfl ?_
    refine opSkip rfl ⟨_, rfl, .inl rfl⟩ rfl ?_
    refine opSkip rfl ⟨_, rfl, .inl rfl⟩ rfl ?_
    refine opSkip rfl ⟨_, rfl, .inl rfl⟩ rfl ?_
    refine op0 (sp_pickT rfl rfl rfl) rfl trivial rfl rfl ?_
    refine TL.nil ?_
    refine TC.condT rfl ?_
    refine TC.region ?_
    refine op1 0 rfl (sp_loadBA rfl isBlk rfl vt105 rfl rfl) rfl trivial rfl rfl ?_
    refine stoB 5 (cells' := [.ref 0, vi s2]) rfl rfl trivial rfl rfl rfl rfl vt105 rfl rfl rfl ?_
    refine stoB 4 (cells' := [.val (.bool true)]) rfl rfl trivial rfl rfl rfl rfl vt4 rfl rfl rfl ?_
    refine TL.nil ?_
    cases h
    exact endM [(500, 0)] 1 3 [1, 2] rfl (.nil) rfl ⟨mem_at 3 rfl, mem_at 5 rfl, mem_at 4 rfl, trivial⟩ rfl rfl ⟨⟨_, mem_at 1 rfl⟩, ⟨_, mem_at 2 rfl⟩, trivial⟩ rfl
  · refine (boolLit 6 rfl h1).2 ?_
    refine op1 0 rfl (sp_loadBA rfl isBlk rfl vt105 rfl rfl) rfl ⟨_, rfl, rfl⟩ rfl rfl ?_
    refine op1 5 rfl (sp_loadBA rfl isBlk rfl vt105 rfl rfl) rfl ⟨_, rfl, rfl⟩ rfl rfl ?_
    obtain ⟨r5, h2, h⟩ := bind_inv h
    refine op1 6 rfl (sp_call (avs := [.agg [.ref 0, vi s2], .agg [.val (.slice none 0 0), vi c4]]) (need := [.ro 0 2 (List.map en_api_RoundTrip s1)]) (v := vi r5) (news := []) rfl rfl rfl Try.call42 (FC.nil (args := [.agg [.ref 0, vi s2], .agg [.ref 7, vi c4]]) 7 2 (FC.needJ (need := [.ro 7 2 (List.map en_api_RoundTrip ([])), .ro 0 2 (List.map en_api_RoundTrip s1)]) (need' := [.ro 0 2 (List.map en_api_RoundTrip s1), .ro 7 2 (List.map en_api_RoundTrip ([]))]) [1, 0] ⟨rfl, rfl, trivial⟩ (atJ [(1, 7)] [] (fc_round_share_compare h2) rfl rfl)) rfl rfl rfl) (.inl (roAll rfl))) rfl ⟨_, rfl, rfl⟩ rfl rfl ?_
    refine op0 (sp_lss rfl rfl rfl) rfl ⟨_, rfl, rfl⟩ rfl rfl ?_
    refine op0 (sp_pickF rfl rfl rfl) rfl trivial rfl rfl ?_
    refine TL.nil ?_
    refine TC.cond (b := (decide (r5 < 0))) rfl (fun h3 => ?_) (fun h3 => ?_)
    · have h := cond_t h h3
      refine TC.region ?_
      refine op1 0 rfl (sp_loadBA rfl isBlk rfl vt105 rfl rfl) rfl trivial rfl rfl ?_
      refine stoB 5 (cells' := [.ref 0, vi s2]) rfl rfl trivial rfl rfl rfl rfl vt105 rfl rfl rfl ?_
      refine stoB 4 (cells' := [.val (.bool true)]) rfl rfl trivial rfl rfl rfl rfl vt4 rfl rfl rfl ?_
      refine TL.nil ?_
      cases h
      exact endM [(500, 0)] 1 3 [1, 2] rfl (.nil) rfl ⟨mem_at 3 rfl, mem_at 5 rfl, mem_at 4 rfl, trivial⟩ rfl rfl ⟨⟨_, mem_at 1 rfl⟩, ⟨_, mem_at 2 rfl⟩, trivial⟩ rfl
    · have h := cond_f h h3
      refine TC.skip ?_
      refine nilCellC 5 8 65 2 2 (List.map en_api_RoundTrip []) [.ref 8, vi c4] rfl rfl rfl ?_
      refine TC.freeze 0 rfl ?_
      cases h
      exact endM [(500, 8)] 2 3 [1, 2] rfl (.nil) rfl ⟨mem_at 4 rfl, mem_at 0 rfl, mem_at 5 rfl, trivial⟩ rfl rfl ⟨⟨_, mem_at 2 rfl⟩, ⟨_, mem_at 3 rfl⟩, trivial⟩ rfl
def ev_round_set_parts_l0 {σ1 : Type} (yb1 : (Int × Int) → σ1 → Option (Bool × σ1)) (n : Nat) (s1 : Int) : Nat → Int → σ1 → Option σ1
  | 0, _, _ => none
  | m + 1, i3, y4 => (yb1 (i3, (bitK .i64 .andNot s1 i3)) y4).bind fun r5 => cond r5.1 (cond (decide ((0 : Int) < i3)) (chk (in64 (i3 - 1)) <| ev_round_set_parts_l0 yb1 n s1 m (bitK .i64 .and (i3 - 1) s1) r5.2) (some r5.2)) (some r5.2)
theorem ok_round_set_parts_l0 {σ1 : Type} {yb1 : (Int × Int) → σ1 → Option (Bool × σ1)} {I1 : σ1 → Inv} (hI1 : Yields Try.prog ye_funcround_set_round_set_bool yn_funcround_set_round_set_bool yb1 I1) {n : Nat} {w0 : World} {M0 R0 : Nat → Prop} {env0 : Env} {df : List Deferred} {r : σ1} {s1 : Int} : ∀ (m : Nat) (i3 : Int) (y4 : σ1), ev_round_set_parts_l0 yb1 n s1 m i3 y4 = some r → TC Try.prog ⟨w0, M0, R0⟩ ⟨20, none, df⟩ (bodyPostM Fence.wide 0 Try.prog Try.f63 (PostT ⟨w0, M0, R0⟩ env0 [0] (.tup []) [.inv 0 (I1 r)])) [.code (sub (bodyOf Try.f63) [1, 0, 0, 0, 0]), .code (sub (bodyOf Try.f63) [1, 0, 0, 0, 1]), .code (sub (bodyOf Try.f63) [1, 0, 0, 1]), .inLoop (sub (bodyOf Try.f63) [1, 0, 0]), .inBlock 0] ([(0, vi s1), (1, .ref 0), (4, vi i3)]) ([.inv 1 (marksI df), .pin 2 0 (env0 0), .inv 0 (I1 y4)]) := by
  intro m
  induction m with
  | zero => intro i3 y4 h; exact none_no h
  | succ m ih =>
    intro i3 y4 h
    rw [ev_round_set_parts_l0] at h
    refine TC.region ?_
    refine op0 (sp_move rfl rfl) rfl trivial rfl rfl ?_
    refine op0 (sp_move rfl rfl) rfl trivial rfl rfl ?_
    refine op0 (sp_move rfl rfl) rfl trivial rfl rfl ?_
    refine op0 (sp_move rfl rfl) rfl trivial rfl rfl ?_
    refine op0 (sp_bit .andNot rfl rfl rfl rfl) rfl trivial rfl rfl ?_
    obtain ⟨r5, h1, h⟩ := bind_inv h
    refine opT (take := [.inv 0 (I1 y4)]) (need := []) (V' := [.inv 0 (I1 r5.2), .inv 1 (marksI df), .pin 2 0 (env0 0)]) [2] [] (ts_yield hI1 (x := (i3, (bitK .i64 .andNot s1 i3))) (b := r5.1) (avs := [vi i3, vi (bitK .i64 .andNot s1 i3)]) (need := []) [] h1 rfl rfl rfl rfl rfl rfl) trivial rfl ⟨rfl, trivial⟩ trivial rfl rfl ?_
    refine op0 (sp_move rfl rfl) rfl trivial rfl rfl ?_
    rcases cond_cases h with ⟨h2, h⟩ | ⟨h2, h⟩
    · refine (boolLit 12 rfl h2).2 ?_
      refine op0 (sp_move rfl rfl) rfl ⟨_, rfl, rfl⟩ rfl rfl ?_
      refine op0 (sp_gtr rfl rfl rfl) rfl ⟨_, rfl, rfl⟩ rfl rfl ?_
      refine op0 (sp_pickT rfl rfl rfl) rfl trivial rfl rfl ?_
      refine TL.nil ?_
      refine TC.cond (b := (decide ((0 : Int) < i3))) rfl (fun h3 => ?_) (fun h3 => ?_)
      · have h := cond_t h h3
        refine TC.skip ?_
        refine TC.block ?_
        refine TC.region ?_
        refine op0 (sp_move rfl rfl) rfl trivial rfl rfl ?_
        obtain ⟨h4, h⟩ := chk_inv h
        refine op0 (sp_sub rfl rfl rfl h4) rfl trivial rfl rfl ?_
        refine op0 (sp_move rfl rfl) rfl trivial rfl rfl ?_
        refine op0 (sp_bit .and rfl rfl rfl rfl) rfl trivial rfl rfl ?_
        refine op0 (sp_assign rfl rfl) rfl trivial rfl rfl ?_
        refine TL.nil ?_
        refine TC.inBlock ?_
        refine TC.inLoop ?_
        refine TC.seq ?_
        refine TC.seq ?_
        refine subJ [] (ih _ _ h) ?_ ?_ ?_
        · exact ⟨rfl, rfl, rfl, trivial⟩
        · exact ⟨mem_at 1 rfl, mem_at 2 rfl, mem_at 0 rfl, trivial⟩
        · rfl
      · have h := cond_f h h3
        refine TC.exit rfl ?_
        cases h
        exact endM [] 1 1 [0] rfl (.nil) rfl ⟨mem_at 0 rfl, trivial⟩ rfl rfl ⟨⟨_, mem_at 1 rfl⟩, trivial⟩ rfl
    · refine (boolLit 12 rfl h2).2 ?_
      refine opSkip rfl ⟨_, rfl, .inl rfl⟩ rfl ?_
      refine opSkip rfl ⟨_, rfl, .inl rfl⟩ rfl ?_
      refine op0 (sp_pickF rfl rfl rfl) rfl trivial rfl rfl ?_
      refine TL.nil ?_
      refine TC.condF rfl ?_
      refine TC.exit rfl ?_
      cases h
      exact endM [] 1 1 [0] rfl (.nil) rfl ⟨mem_at 0 rfl, trivial⟩ rfl rfl ⟨⟨_, mem_at 1 rfl⟩, trivial⟩ rfl
def ev_round_set_parts {σ1 : Type} (yb1 : (Int × Int) → σ1 → Option (Bool × σ1)) (n : Nat) (s1 : Int) (y2 : σ1) : Option σ1 :=
  ev_round_set_parts_l0 yb1 n s1 n s1 y2
theorem ft_round_set_parts {σ1 : Type} {yb1 : (Int × Int) → σ1 → Option (Bool × σ1)} {I1 : σ1 → Inv} (hI1 : Yields Try.prog ye_funcround_set_round_set_bool yn_funcround_set_round_set_bool yb1 I1) {n : Nat} {s1 : Int} {y2 : σ1} {r : σ1} (h : ev_round_set_parts yb1 n s1 y2 = some r) : FT Try.prog 63 [vi s1, .ref 0] [.inv 0 (I1 y2)] [] (.tup []) [.inv 0 (I1 r)] := by
  refine introM (nz := 20) 1 [(2, 0)] Try.func63 rfl rfl rfl rfl (fun w0 M0 R0 env0 => ?_)
  rw [ev_round_set_parts] at h
  refine TC.seq ?_
  refine TC.region ?_
  refine op0 (sp_move rfl rfl) rfl trivial rfl rfl ?_
  refine op0 (sp_assign rfl rfl) rfl trivial rfl rfl ?_
  refine TL.nil ?_
  refine TC.block ?_
  refine TC.loop ?_
  refine TC.seq ?_
  refine TC.seq ?_
  refine subJ [] (ok_round_set_parts_l0 hI1 _ _ _ h) ?_ ?_ ?_
  · exact ⟨rfl, rfl, rfl, trivial⟩
  · exact ⟨mem_at 0 rfl, mem_at 1 rfl, mem_at 2 rfl, trivial⟩
  · rfl
def ev_p_round_office_best (n : Nat) (o1 : List (Int × Int × Int × Int × Int)) (o2 : List ((List Int))) (o3 : List (Int × Int × Int × Int)) (o4 : Int) (o5 : Int) (o6 : List ((Int × Int) × (((Int × (List Int) × Int × Bool))))) (winder7 : Int) (goal8 : Int) : Option (Int × (List Int) × Int × Bool × (List ((Int × Int) × (((Int × (List Int) × Int × Bool)))))) :=
  lookW (mlook o6 (winder7, goal8)) ((ev_round_start n o1 o2 o3 o4 o5 winder7).bind fun r10 => (ev_p_round_search_try n goal8 ([] : List Int) 0 false r10.1 r10.2.1 r10.2.2.1 r10.2.2.2.1 r10.2.2.2.2.1 r10.2.2.2.2.2.1 r10.2.2.2.2.2.2.1 r10.2.2.2.2.2.2.2.1 r10.2.2.2.2.2.2.2.2.1 r10.2.2.2.2.2.2.2.2.2.1 r10.2.2.2.2.2.2.2.2.2.2.1 r10.2.2.2.2.2.2.2.2.2.2.2.1 r10.2.2.2.2.2.2.2.2.2.2.2.2.1 r10.2.2.2.2.2.2.2.2.2.2.2.2.2 ([])).bind fun r11 => some (r11.1, r11.2.1, r11.2.2.1, r11.2.2.2, (mput o6 (winder7, goal8) (r11.1, r11.2.1, r11.2.2.1, r11.2.2.2)))) (fun p9 => some (p9.1, p9.2.1, p9.2.2.1, p9.2.2.2, o6))
theorem ft_p_round_office_best {n : Nat} {o1 : List (Int × Int × Int × Int × Int)} {o2 : List ((List Int))} {o3 : List (Int × Int × Int × Int)} {o4 : Int} {o5 : Int} {o6 : List ((Int × Int) × (((Int × (List Int) × Int × Bool))))} {winder7 : Int} {goal8 : Int} {r : Int × (List Int) × Int × Bool × (List ((Int × Int) × (((Int × (List Int) × Int × Bool)))))} (h : ev_p_round_office_best n o1 o2 o3 o4 o5 o6 winder7 goal8 = some r) : FT Try.prog 64 [.ptr 0 0, vi winder7, vi goal8] [.inv 4 (mapI mk107 false en_p_round_search o6)] [.rob 0 [.ref 1, .ref 2, .ref 3, vi o4, vi o5, .ref 4] 109, .ro 1 5 (List.map en_api_RoundTower o1), .ro 2 1 (List.map en_Lint o2), .ro 3 4 (List.map en_api_RoundWinder o3)] (.ptr 500 0) [.rob 500 [vi r.1, .ref 501, vi r.2.2.1, .val (.bool r.2.2.2.1)] 97, .ro 501 1 (List.map en_int r.2.1), .inv 4 (mapI mk107 false en_p_round_search r.2.2.2.2)] := by
  refine introM (nz := 43) 5 [(6, 4)] Try.func64 rfl rfl rfl rfl (fun w0 M0 R0 env0 => ?_)
  rw [ev_p_round_office_best] at h
  refine TC.seq ?_
  refine TC.region ?_
  refine op0 (sp_assign rfl rfl) rfl trivial rfl rfl ?_
  refine TL.nil ?_
  refine TC.seq ?_
  refine TC.region ?_
  refine op0 (sp_move rfl rfl) rfl trivial rfl rfl ?_
  refine op0 (sp_move rfl rfl) rfl trivial rfl rfl ?_
  refine op0 (sp_build (qs := [(0, vi winder7), (1, vi goal8)]) rfl bt145 rfl rfl rfl rfl) rfl trivial rfl rfl ?_
  refine op0 (sp_alloc 7 rfl Try.zeroValue145 rfl) rfl trivial rfl rfl ?_
  refine stoB 0 (cells' := [vi winder7, vi goal8]) rfl rfl trivial rfl rfl rfl rfl vt145 rfl rfl rfl ?_
  refine TL.nil ?_
  refine TC.seq ?_
  refine TC.seq ?_
  rcases lookW_inv h with ⟨h1, h⟩ | ⟨p9, h2, h⟩
  · refine drawJ 10 [⟨.ptr 0 0, [], [], []⟩, ⟨.ptr 0 0, [], [.rob 0 [.ref 1, .ref 2, .ref 3, vi o4, vi o5, .ref 4] 109], []⟩, ⟨.ptr 0 5, [], [.rob 0 [.ref 1, .ref 2, .ref 3, vi o4, vi o5, .ref 4] 109], []⟩, ⟨.ref 4, [], [.rob 0 [.ref 1, .ref 2, .ref 3, vi o4, vi o5, .ref 4] 109], []⟩, ⟨.agg [vi winder7, vi goal8], [], [.blk 7 [vi winder7, vi goal8] 145], []⟩, ⟨.tup [.val (.pointer none), .val (.bool false)], [], [.inv 4 (mapI mk107 false en_p_round_search o6)], []⟩, ⟨.tup [.val (.pointer none), .val (.bool false)], [], [], []⟩, ⟨.val (.pointer none), [], [], []⟩, ⟨.val (.bool false), [], [], []⟩, ⟨.val (.pointer none), [], [], []⟩] rfl ?_ rfl ?_ rfl ?_ ?_
    · kernel_rfl
    · kernel_rfl
    · exact DAll.op' (sp_move rfl rfl) trivial rfl (From.ok (ps := []) trivial) (DAll.op' (sp_nilCheck rfl isRob rfl) trivial rfl (From.ok (ps := [(none, 4)]) ⟨⟨rfl, rfl⟩, trivial⟩) (DAll.op' (sp_fieldAddrB rfl isRob rfl ft109_1 vt107 (by decide)) trivial rfl (From.ok (ps := [(none, 4)]) ⟨⟨rfl, rfl⟩, trivial⟩) (DAll.op' (sp_loadB rfl isRob rfl vt107 rfl) trivial rfl (From.ok (ps := [(none, 4)]) ⟨⟨rfl, rfl⟩, trivial⟩) (DAll.op' (sp_loadBA rfl isBlk rfl vt145 rfl rfl) trivial rfl (From.ok (ps := [(none, 0)]) ⟨⟨rfl, rfl⟩, trivial⟩) (DAll.op' (sp_lookupN (xs := o6) (winder7, goal8) h1 rfl rfl rfl (fun _ => rfl) isMapO km107 Try.zeroValue95) trivial rfl (From.ok (ps := [(none, 3)]) ⟨⟨rfl, rfl⟩, trivial⟩) (DAll.op' (sp_move rfl rfl) trivial rfl (From.ok (ps := []) trivial) (DAll.op' (sp_extract rfl rfl rfl) trivial rfl (From.ok (ps := []) trivial) (DAll.op' (sp_extract rfl rfl rfl) trivial rfl (From.ok (ps := []) trivial) (DAll.op' (sp_assign rfl rfl) trivial rfl (From.ok (ps := []) trivial) (.nil))))))))))
    refine op0 (sp_assign rfl rfl) rfl trivial rfl rfl ?_
    refine TL.nil ?_
    refine TC.seq ?_
    refine TC.region ?_
    refine op0 (sp_move rfl rfl) rfl trivial rfl rfl ?_
    refine TL.nil ?_
    refine TC.condF rfl ?_
    refine TC.skip ?_
    refine TC.seq ?_
    refine TC.region ?_
    refine op0 (sp_move rfl rfl) rfl trivial rfl rfl ?_
    refine op0 (sp_build (qs := [(0, vi goal8)]) rfl bt97 rfl rfl rfl rfl) rfl trivial rfl rfl ?_
    refine op0 (sp_box 10 rfl rfl rfl rfl rfl) rfl trivial rfl rfl ?_
    refine op0 (sp_assign rfl rfl) rfl trivial rfl rfl ?_
    refine TL.nil ?_
    refine TC.seq ?_
    refine TC.region ?_
    refine op0 (sp_move rfl rfl) rfl trivial rfl rfl ?_
    refine op0 (sp_move rfl rfl) rfl trivial rfl rfl ?_
    refine op1 5 rfl (sp_nilCheck rfl isRob rfl) rfl trivial rfl rfl ?_
    refine op1 5 rfl (sp_fieldAddrB rfl isRob rfl ft109_0 vt26 (by decide)) rfl trivial rfl rfl ?_
    refine op1 5 rfl (sp_loadBA rfl isRob rfl vt26 rfl rfl) rfl trivial rfl rfl ?_
    refine op0 (sp_move rfl rfl) rfl trivial rfl rfl ?_
    obtain ⟨r10, h3, h⟩ := bind_inv h
    refine opN (need := [.ro 1 5 (List.map en_api_RoundTower o1), .ro 2 1 (List.map en_Lint o2), .ro 3 4 (List.map en_api_RoundWinder o3)]) [6, 7, 8] ⟨rfl, rfl, rfl, trivial⟩ (sp_call (avs := [.agg [.ref 1, .ref 2, .ref 3, vi o4, vi o5], vi winder7]) (need := [.ro 1 5 (List.map en_api_RoundTower o1), .ro 2 1 (List.map en_Lint o2), .ro 3 4 (List.map en_api_RoundWinder o3)]) (v := .agg [.ref 11, .ref 12, .ref 13, vi r10.2.2.2.1, vi r10.2.2.2.2.1, .val (.int .u16 r10.2.2.2.2.2.1), vi r10.2.2.2.2.2.2.1, vi r10.2.2.2.2.2.2.2.1, vi r10.2.2.2.2.2.2.2.2.1, vi r10.2.2.2.2.2.2.2.2.2.1, vi r10.2.2.2.2.2.2.2.2.2.2.1, vi r10.2.2.2.2.2.2.2.2.2.2.2.1, vi r10.2.2.2.2.2.2.2.2.2.2.2.2.1, vi r10.2.2.2.2.2.2.2.2.2.2.2.2.2]) (news := [.ro 11 5 (List.map en_api_RoundTower r10.1), .ro 12 1 (List.map en_Lint r10.2.1), .ro 13 4 (List.map en_api_RoundWinder r10.2.2.1)]) rfl rfl rfl Try.call37 (atJ [(0, 1), (1, 2), (2, 3)] [(0, 11), (1, 12), (2, 13)] (fc_round_start h3) rfl rfl) (.inl (roAll rfl))) rfl trivial rfl rfl ?_
    refine nilCellL 3 14 3 1 10 (List.map en_int []) [vi goal8, .ref 14, vi 0, .val (.bool false)] rfl rfl rfl ?_
    refine TL.freeze 0 rfl ?_
    obtain ⟨r11, h4, h⟩ := bind_inv h
    refine opT (take := [.blk 10 [vi goal8, .ref 14, vi 0, .val (.bool false)] 97]) (need := [.ro 14 1 (List.map en_int ([] : List Int)), .ro 11 5 (List.map en_api_RoundTower r10.1), .ro 12 1 (List.map en_Lint r10.2.1), .ro 13 4 (List.map en_api_RoundWinder r10.2.2.1)]) (V' := [.ro 16 1 (List.map en_int r11.2.1), .blk 10 [vi r11.1, .ref 16, vi r11.2.2.1, .val (.bool r11.2.2.2)] 97, .ro 14 1 (List.map en_int ([] : List Int)), .ro 11 5 (List.map en_api_RoundTower r10.1), .ro 12 1 (List.map en_Lint r10.2.1), .ro 13 4 (List.map en_api_RoundWinder r10.2.2.1), .blk 7 [vi winder7, vi goal8] 145, .inv 5 (marksI []), .pin 6 4 (env0 4), .inv 4 (mapI mk107 false en_p_round_search o6), .rob 0 [.ref 1, .ref 2, .ref 3, vi o4, vi o5, .ref 4] 109, .ro 1 5 (List.map en_api_RoundTower o1), .ro 2 1 (List.map en_Lint o2), .ro 3 4 (List.map en_api_RoundWinder o3)]) [4] [0, 1, 2, 3] (ts_call (avs := [.ptr 10 0, .agg [.ref 11, .ref 12, .ref 13, vi r10.2.2.2.1, vi r10.2.2.2.2.1, .val (.int .u16 r10.2.2.2.2.2.1), vi r10.2.2.2.2.2.2.1, vi r10.2.2.2.2.2.2.2.1, vi r10.2.2.2.2.2.2.2.2.1, vi r10.2.2.2.2.2.2.2.2.2.1, vi r10.2.2.2.2.2.2.2.2.2.2.1, vi r10.2.2.2.2.2.2.2.2.2.2.2.1, vi r10.2.2.2.2.2.2.2.2.2.2.2.2.1, vi r10.2.2.2.2.2.2.2.2.2.2.2.2.2], .val (.slice none 0 0)]) (take := [.blk 10 [vi goal8, .ref 14, vi 0, .val (.bool false)] 97]) (need := [.ro 14 1 (List.map en_int ([] : List Int)), .ro 11 5 (List.map en_api_RoundTower r10.1), .ro 12 1 (List.map en_Lint r10.2.1), .ro 13 4 (List.map en_api_RoundWinder r10.2.2.1)]) (v := .tup []) (news := [.ro 16 1 (List.map en_int r11.2.1), .blk 10 [vi r11.1, .ref 16, vi r11.2.2.1, .val (.bool r11.2.2.2)] 97]) rfl rfl rfl Try.call36 (FT.nil (args := [.ptr 10 0, .agg [.ref 11, .ref 12, .ref 13, vi r10.2.2.2.1, vi r10.2.2.2.2.1, .val (.int .u16 r10.2.2.2.2.2.1), vi r10.2.2.2.2.2.2.1, vi r10.2.2.2.2.2.2.2.1, vi r10.2.2.2.2.2.2.2.2.1, vi r10.2.2.2.2.2.2.2.2.2.1, vi r10.2.2.2.2.2.2.2.2.2.2.1, vi r10.2.2.2.2.2.2.2.2.2.2.2.1, vi r10.2.2.2.2.2.2.2.2.2.2.2.2.1, vi r10.2.2.2.2.2.2.2.2.2.2.2.2.2], .ref 15]) 15 1 (FT.needJ (need := [.ro 15 1 (List.map en_int ([])), .ro 14 1 (List.map en_int ([] : List Int)), .ro 11 5 (List.map en_api_RoundTower r10.1), .ro 12 1 (List.map en_Lint r10.2.1), .ro 13 4 (List.map en_api_RoundWinder r10.2.2.1)]) (need' := [.ro 14 1 (List.map en_int ([] : List Int)), .ro 11 5 (List.map en_api_RoundTower r10.1), .ro 12 1 (List.map en_Lint r10.2.1), .ro 13 4 (List.map en_api_RoundWinder r10.2.2.1), .ro 15 1 (List.map en_int ([]))]) [1, 2, 3, 4, 0] ⟨rfl, rfl, rfl, rfl, rfl, trivial⟩ (atT [(0, 10), (1, 14), (2, 11), (3, 12), (4, 13), (5, 15)] [(500, 16), (0, 10)] (ft_p_round_search_try h4) rfl rfl rfl)) rfl rfl rfl rfl) rfl rfl) trivial rfl ⟨rfl, trivial⟩ ⟨rfl, rfl, rfl, rfl, trivial⟩ rfl rfl ?_
    refine TL.nil ?_
    refine TC.seq ?_
    refine drawJ 6 [⟨.ptr 0 0, [], [], []⟩, ⟨.ptr 0 0, [], [.rob 0 [.ref 1, .ref 2, .ref 3, vi o4, vi o5, .ref 4] 109], []⟩, ⟨.ptr 0 5, [], [.rob 0 [.ref 1, .ref 2, .ref 3, vi o4, vi o5, .ref 4] 109], []⟩, ⟨.ref 4, [], [.rob 0 [.ref 1, .ref 2, .ref 3, vi o4, vi o5, .ref 4] 109], []⟩, ⟨.agg [vi winder7, vi goal8], [], [.blk 7 [vi winder7, vi goal8] 145], []⟩, ⟨.ptr 10 0, [], [], []⟩] rfl ?_ rfl ?_ rfl ?_ ?_
    · kernel_rfl
    · kernel_rfl
    · exact DAll.op' (sp_move rfl rfl) trivial rfl (From.ok (ps := []) trivial) (DAll.op' (sp_nilCheck rfl isRob rfl) trivial rfl (From.ok (ps := [(none, 10)]) ⟨⟨rfl, rfl⟩, trivial⟩) (DAll.op' (sp_fieldAddrB rfl isRob rfl ft109_1 vt107 (by decide)) trivial rfl (From.ok (ps := [(none, 10)]) ⟨⟨rfl, rfl⟩, trivial⟩) (DAll.op' (sp_loadB rfl isRob rfl vt107 rfl) trivial rfl (From.ok (ps := [(none, 10)]) ⟨⟨rfl, rfl⟩, trivial⟩) (DAll.op' (sp_loadBA rfl isBlk rfl vt145 rfl rfl) trivial rfl (From.ok (ps := [(none, 6)]) ⟨⟨rfl, rfl⟩, trivial⟩) (DAll.op' (sp_move rfl rfl) trivial rfl (From.ok (ps := []) trivial) (.nil))))))
    refine TL.freeze 1 rfl ?_
    refine opT (take := [.inv 4 (mapI mk107 false en_p_round_search o6)]) (need := [.ro 16 1 (List.map en_int r11.2.1), .rob 10 [vi r11.1, .ref 16, vi r11.2.2.1, .val (.bool r11.2.2.2)] 97]) (V' := [.inv 4 (mapI mk107 false en_p_round_search (mput o6 (winder7, goal8) (r11.1, r11.2.1, r11.2.2.1, r11.2.2.2))), .ro 16 1 (List.map en_int r11.2.1), .rob 10 [vi r11.1, .ref 16, vi r11.2.2.1, .val (.bool r11.2.2.2)] 97, .ro 14 1 (List.map en_int ([] : List Int)), .ro 11 5 (List.map en_api_RoundTower r10.1), .ro 12 1 (List.map en_Lint r10.2.1), .ro 13 4 (List.map en_api_RoundWinder r10.2.2.1), .blk 7 [vi winder7, vi goal8] 145, .inv 5 (marksI []), .pin 6 4 (env0 4), .rob 0 [.ref 1, .ref 2, .ref 3, vi o4, vi o5, .ref 4] 109, .ro 1 5 (List.map en_api_RoundTower o1), .ro 2 1 (List.map en_Lint o2), .ro 3 4 (List.map en_api_RoundWinder o3)]) [9] [0, 1] (ts_mapUpdate (need := [.ro 16 1 (List.map en_int r11.2.1), .rob 10 [vi r11.1, .ref 16, vi r11.2.2.1, .val (.bool r11.2.2.2)] 97]) (winder7, goal8) (r11.1, r11.2.1, r11.2.2.1, r11.2.2.2) rfl rfl rfl (fun _ => rfl) rfl rfl rfl (.p (mem_at 1 rfl) (.v (.s (mem_at 0 rfl) (.v (.v (.nil))))) (.nil)) km107 (fun _ => .refl _)) trivial rfl ⟨rfl, trivial⟩ ⟨rfl, rfl, trivial⟩ rfl rfl ?_
    refine TL.nil ?_
    refine TC.seq ?_
    refine TC.region ?_
    refine op0 (sp_move rfl rfl) rfl trivial rfl rfl ?_
    refine op0 (sp_assign rfl rfl) rfl trivial rfl rfl ?_
    refine TL.nil ?_
    cases h
    exact retM [(500, 10), (501, 16)] 8 5 [4] rfl (.tmp rfl .nil) rfl ⟨mem_at 2 rfl, mem_at 1 rfl, mem_at 0 rfl, trivial⟩ rfl rfl ⟨⟨_, mem_at 8 rfl⟩, trivial⟩ rfl
  · refine drawJ 10 [⟨.ptr 0 0, [], [], []⟩, ⟨.ptr 0 0, [], [.rob 0 [.ref 1, .ref 2, .ref 3, vi o4, vi o5, .ref 4] 109], []⟩, ⟨.ptr 0 5, [], [.rob 0 [.ref 1, .ref 2, .ref 3, vi o4, vi o5, .ref 4] 109], []⟩, ⟨.ref 4, [], [.rob 0 [.ref 1, .ref 2, .ref 3, vi o4, vi o5, .ref 4] 109], []⟩, ⟨.agg [vi winder7, vi goal8], [], [.blk 7 [vi winder7, vi goal8] 145], []⟩, ⟨.tup [.ptr 8 0, .val (.bool true)], [.rob 8 [vi p9.1, .ref 9, vi p9.2.2.1, .val (.bool p9.2.2.2)] 97, .ro 9 1 (List.map en_int p9.2.1)], [.inv 4 (mapI mk107 false en_p_round_search o6)], []⟩, ⟨.tup [.ptr 8 0, .val (.bool true)], [], [], []⟩, ⟨.ptr 8 0, [], [], []⟩, ⟨.val (.bool true), [], [], []⟩, ⟨.ptr 8 0, [], [], []⟩] rfl ?_ rfl ?_ rfl ?_ ?_
    · kernel_rfl
    · kernel_rfl
    · exact DAll.op' (sp_move rfl rfl) trivial rfl (From.ok (ps := []) trivial) (DAll.op' (sp_nilCheck rfl isRob rfl) trivial rfl (From.ok (ps := [(none, 4)]) ⟨⟨rfl, rfl⟩, trivial⟩) (DAll.op' (sp_fieldAddrB rfl isRob rfl ft109_1 vt107 (by decide)) trivial rfl (From.ok (ps := [(none, 4)]) ⟨⟨rfl, rfl⟩, trivial⟩) (DAll.op' (sp_loadB rfl isRob rfl vt107 rfl) trivial rfl (From.ok (ps := [(none, 4)]) ⟨⟨rfl, rfl⟩, trivial⟩) (DAll.op' (sp_loadBA rfl isBlk rfl vt145 rfl rfl) trivial rfl (From.ok (ps := [(none, 0)]) ⟨⟨rfl, rfl⟩, trivial⟩) (DAll.op' (sp_lookupS (xs := o6) (ds := en_round_search p9) (ns := [.ro 9 1 (List.map en_int p9.2.1)]) 8 (winder7, goal8) p9 h2 rfl rfl rfl (fun _ => rfl) isMapO km107 Try.zeroValue95 rfl (.v (.s (.v (.v (.nil))))) rfl) trivial rfl (From.ok (ps := [(none, 3)]) ⟨⟨rfl, rfl⟩, trivial⟩) (DAll.op' (sp_move rfl rfl) trivial rfl (From.ok (ps := []) trivial) (DAll.op' (sp_extract rfl rfl rfl) trivial rfl (From.ok (ps := []) trivial) (DAll.op' (sp_extract rfl rfl rfl) trivial rfl (From.ok (ps := []) trivial) (DAll.op' (sp_assign rfl rfl) trivial rfl (From.ok (ps := []) trivial) (.nil))))))))))
    refine op0 (sp_assign rfl rfl) rfl trivial rfl rfl ?_
    refine TL.nil ?_
    refine TC.seq ?_
    refine TC.region ?_
    refine op0 (sp_move rfl rfl) rfl trivial rfl rfl ?_
    refine TL.nil ?_
    refine TC.condT rfl ?_
    refine TC.seq ?_
    refine TC.region ?_
    refine op0 (sp_move rfl rfl) rfl trivial rfl rfl ?_
    refine op0 (sp_assign rfl rfl) rfl trivial rfl rfl ?_
    refine TL.nil ?_
    cases h
    exact retM [(500, 8), (501, 9)] 3 5 [4] rfl (.tmp rfl .nil) rfl ⟨mem_at 0 rfl, mem_at 1 rfl, mem_at 4 rfl, trivial⟩ rfl rfl ⟨⟨_, mem_at 3 rfl⟩, trivial⟩ rfl
def ev_round_Fewest_1_v1 (n : Nat) (s1 : List (Int × (List Int))) (s2 : Int) (c3 : Bool) (c4 : List (Int × (List Int))) (c5 : Int) : Option (Bool × (List (Int × (List Int))) × Int) :=
  cond (!c3) (some (true, s1, s2)) ((ev_round_share_compare n s1 s2 c4 c5).bind fun r6 => cond (decide (r6 < 0)) (some (true, s1, s2)) (some (c3, c4, c5)))
theorem ft_round_Fewest_1_v1 {n : Nat} {s1 : List (Int × (List Int))} {s2 : Int} {c3 : Bool} {c4 : List (Int × (List Int))} {c5 : Int} {r : Bool × (List (Int × (List Int))) × Int} (h : ev_round_Fewest_1_v1 n s1 s2 c3 c4 c5 = some r) : FT Try.prog 41 [.agg [.ref 0, vi s2], .ptr 1 0, .ptr 2 0] [.blk 1 [.val (.bool c3)] 4, .blk 2 [.ref 3, vi c5] 105] [.ro 0 2 (List.map en_api_RoundTrip s1), .ro 3 2 (List.map en_api_RoundTrip c4)] (.tup []) [.blk 1 [.val (.bool r.1)] 4, .ro 500 2 (List.map en_api_RoundTrip r.2.1), .blk 2 [.ref 500, vi r.2.2] 105] := by
  refine introM (nz := 13) 4 [(5, 1), (6, 2)] Try.func41 rfl rfl rfl rfl (fun w0 M0 R0 env0 => ?_)
  rw [ev_round_Fewest_1_v1] at h
  refine TC.seq ?_
  refine TC.region ?_
  refine op0 (sp_box 7 rfl rfl rfl rfl rfl) rfl trivial rfl rfl ?_
  refine TL.nil ?_
  refine TC.seq ?_
  refine TC.region ?_
  refine op1 4 rfl (sp_loadB rfl isBlk rfl vt4 rfl) rfl trivial rfl rfl ?_
  refine op0 (sp_not rfl rfl) rfl trivial rfl rfl ?_
  refine op0 (sp_move rfl rfl) rfl trivial rfl rfl ?_
  rcases cond_cases h with ⟨h1, h⟩ | ⟨h1, h⟩
  · refine (boolLit 6 rfl h1).2 ?_
    refine opSkip rfl ⟨_, rfl, .inl rfl⟩ rfl ?_
    refine opSkip rfl ⟨_, rfl, .inl rfl⟩ rfl ?_
    refine opSkip rfl ⟨_, rfl, .inl rfl⟩ rfl ?_
    refine opSkip rfl ⟨_, rfl, .inl rfl⟩ rfl ?_
    refine op0 (sp_pickT rfl rfl rfl) rfl trivial rfl rfl ?_
    refine TL.nil ?_
    refine TC.condT rfl ?_
    refine TC.region ?_
    refine op1 0 rfl (sp_loadBA rfl isBlk rfl vt105 rfl rfl) rfl trivial rfl rfl ?_
    refine stoB 5 (cells' := [.ref 0, vi s2]) rfl rfl trivial rfl rfl rfl rfl vt105 rfl rfl rfl ?_
    refine stoB 4 (cells' := [.val (.bool true)]) rfl rfl trivial rfl rfl rfl rfl vt4 rfl rfl rfl ?_
    refine TL.nil ?_
    cases h
    exact endM [(500, 0)] 1 4 [1, 2] rfl (.nil) rfl ⟨mem_at 3 rfl, mem_at 5 rfl, mem_at 4 rfl, trivial⟩ rfl rfl ⟨⟨_, mem_at 1 rfl⟩, ⟨_, mem_at 2 rfl⟩, trivial⟩ rfl
  · refine (boolLit 6 rfl h1).2 ?_
    refine op1 0 rfl (sp_loadBA rfl isBlk rfl vt105 rfl rfl) rfl ⟨_, rfl, rfl⟩ rfl rfl ?_
    refine op1 5 rfl (sp_loadBA rfl isBlk rfl vt105 rfl rfl) rfl ⟨_, rfl, rfl⟩ rfl rfl ?_
    obtain ⟨r6, h2, h⟩ := bind_inv h
    refine opN (need := [.ro 0 2 (List.map en_api_RoundTrip s1), .ro 3 2 (List.map en_api_RoundTrip c4)]) [6, 7] ⟨rfl, rfl, trivial⟩ (sp_call (avs := [.agg [.ref 0, vi s2], .agg [.ref 3, vi c5]]) (need := [.ro 0 2 (List.map en_api_RoundTrip s1), .ro 3 2 (List.map en_api_RoundTrip c4)]) (v := vi r6) (news := []) rfl rfl rfl Try.call42 (atJ [(1, 3)] [] (fc_round_share_compare h2) rfl rfl) (.inl (roAll rfl))) rfl ⟨_, rfl, rfl⟩ rfl rfl ?_
    refine op0 (sp_lss rfl rfl rfl) rfl ⟨_, rfl, rfl⟩ rfl rfl ?_
    refine op0 (sp_pickF rfl rfl rfl) rfl trivial rfl rfl ?_
    refine TL.nil ?_
    refine TC.cond (b := (decide (r6 < 0))) rfl (fun h3 => ?_) (fun h3 => ?_)
    · have h := cond_t h h3
      refine TC.region ?_
      refine op1 0 rfl (sp_loadBA rfl isBlk rfl vt105 rfl rfl) rfl trivial rfl rfl ?_
      refine stoB 5 (cells' := [.ref 0, vi s2]) rfl rfl trivial rfl rfl rfl rfl vt105 rfl rfl rfl ?_
      refine stoB 4 (cells' := [.val (.bool true)]) rfl rfl trivial rfl rfl rfl rfl vt4 rfl rfl rfl ?_
      refine TL.nil ?_
      cases h
      exact endM [(500, 0)] 1 4 [1, 2] rfl (.nil) rfl ⟨mem_at 3 rfl, mem_at 5 rfl, mem_at 4 rfl, trivial⟩ rfl rfl ⟨⟨_, mem_at 1 rfl⟩, ⟨_, mem_at 2 rfl⟩, trivial⟩ rfl
    · have h := cond_f h h3
      refine TC.skip ?_
      cases h
      exact endM [(500, 3)] 1 4 [1, 2] rfl (.nil) rfl ⟨mem_at 3 rfl, mem_at 6 rfl, mem_at 4 rfl, trivial⟩ rfl rfl ⟨⟨_, mem_at 1 rfl⟩, ⟨_, mem_at 2 rfl⟩, trivial⟩ rfl
def ev_p_round_office_shares_j1 (n : Nat) (o1 : List (Int × Int × Int × Int × Int)) (o2 : List ((List Int))) (o3 : List (Int × Int × Int × Int)) (o4 : Int) (o5 : Int) (x20 : Int × Int) (y21 : Int × Int × (List ((Int × Int) × (((Int × (List Int) × Int × Bool))))) × Bool × Int × (List (Int × (List Int)))) (self : (List (Int × Int × Int × Int × Int)) → (List ((List Int))) → (List (Int × Int × Int × Int)) → Int → Int → (List ((Int × Int) × (((Int × (List Int) × Int × Bool))))) → Int → Int → (List (Int × (List Int))) → Int → Bool → (List (Int × (List Int))) → Int → Option ((List ((Int × Int) × (((Int × (List Int) × Int × Bool))))) × Bool × (List (Int × (List Int))) × Int)) (i24 : Int) (i25 : Int) (i26 : Int) (l27 : List ((Int × Int) × (((Int × (List Int) × Int × Bool))))) (b28 : Bool) (i29 : Int) (l30 : List (Int × (List Int))) : Option (Nat × (Int × Int × (List ((Int × Int) × (((Int × (List Int) × Int × Bool))))) × Bool × Int × (List (Int × (List Int))))) :=
  chk (in64 (i24 + 1)) <| (self o1 o2 o3 o4 o5 l27 (i24 + 1) x20.2 l30 i25 b28 y21.2.2.2.2.2 i29).bind fun r31 => some (0, (i26, i24, r31.1, r31.2.1, r31.2.2.2, r31.2.2.1))
theorem ok_p_round_office_shares_j1 {n : Nat} {env0 : Env} {w0 : World} {M0 R0 : Nat → Prop} {l0 : Nat} {rec : Loop} {r : Nat × (Int × Int × (List ((Int × Int) × (((Int × (List Int) × Int × Bool))))) × Bool × Int × (List (Int × (List Int))))} {u19 : Value} {u18 : Value} {u17 : Value} {u15 : Value} {o4 : Int} {o5 : Int} {o1 : List (Int × Int × Int × Int × Int)} {o2 : List ((List Int))} {o3 : List (Int × Int × Int × Int)} {now9 : List (Int × (List Int))} {x20 : Int × Int} {y21 : Int × Int × (List ((Int × Int) × (((Int × (List Int) × Int × Bool))))) × Bool × Int × (List (Int × (List Int)))} {self : (List (Int × Int × Int × Int × Int)) → (List ((List Int))) → (List (Int × Int × Int × Int)) → Int → Int → (List ((Int × Int) × (((Int × (List Int) × Int × Bool))))) → Int → Int → (List (Int × (List Int))) → Int → Bool → (List (Int × (List Int))) → Int → Option ((List ((Int × Int) × (((Int × (List Int) × Int × Bool))))) × Bool × (List (Int × (List Int))) × Int)} {i24 : Int} {i25 : Int} {i26 : Int} {l27 : List ((Int × Int) × (((Int × (List Int) × Int × Bool))))} {b28 : Bool} {i29 : Int} {l30 : List (Int × (List Int))} (hself : ∀ (o1z : List (Int × Int × Int × Int × Int)) (o2z : List ((List Int))) (o3z : List (Int × Int × Int × Int)) (o4z : Int) (o5z : Int) (o6z : List ((Int × Int) × (((Int × (List Int) × Int × Bool))))) (winder7z : Int) (goal8z : Int) (now9z : List (Int × (List Int))) (now10z : Int) (yield11z : Bool) (yield12z : List (Int × (List Int))) (yield13z : Int) (r : (List ((Int × Int) × (((Int × (List Int) × Int × Bool))))) × Bool × (List (Int × (List Int))) × Int), self o1z o2z o3z o4z o5z o6z winder7z goal8z now9z now10z yield11z yield12z yield13z = some r → FT Try.prog 40 [.ptr 0 0, vi winder7z, vi goal8z, .agg [.ref 5, vi now10z], .fn 41 [] [.ptr 6 0, .ptr 7 0]] [.inv 4 (mapI mk107 false en_p_round_search o6z), .blk 6 [.val (.bool yield11z)] 4, .blk 7 [.ref 8, vi yield13z] 105] [.rob 0 [.ref 1, .ref 2, .ref 3, vi o4z, vi o5z, .ref 4] 109, .ro 1 5 (List.map en_api_RoundTower o1z), .ro 2 1 (List.map en_Lint o2z), .ro 3 4 (List.map en_api_RoundWinder o3z), .ro 5 2 (List.map en_api_RoundTrip now9z), .ro 8 2 (List.map en_api_RoundTrip yield12z)] (.tup []) [.inv 4 (mapI mk107 false en_p_round_search r.1), .blk 6 [.val (.bool r.2.1)] 4, .ro 500 2 (List.map en_api_RoundTrip r.2.2.1), .blk 7 [.ref 500, vi r.2.2.2] 105]) (h : ev_p_round_office_shares_j1 n o1 o2 o3 o4 o5 x20 y21 self i24 i25 i26 l27 b28 i29 l30 = some r) : TC Try.prog ⟨w0, M0, R0⟩ ⟨69, some l0, []⟩ (RoundQ ⟨w0, M0, R0⟩ (.inv 23 (recI l0 rec) :: [.pin 22 16 u19, .pin 21 15 u18, .pin 20 14 u17, .pin 19 13 u15, .blk 16 [.fn 41 [] [.ptr 6 0, .ptr 7 0]] 112, .blk 15 [.ref 5, vi r.2.1] 105, .blk 14 [vi r.2.2.1] 3, .blk 13 [.ptr 0 0] 106, .pin 10 4 (env0 4), .pin 11 6 (env0 6), .pin 12 7 (env0 7), .inv 4 (mapI mk107 false en_p_round_search r.2.2.2.1), .blk 6 [.val (.bool r.2.2.2.2.1)] 4, .blk 7 [.ref 8, vi r.2.2.2.2.2.1] 105, .rob 0 [.ref 1, .ref 2, .ref 3, vi o4, vi o5, .ref 4] 109, .ro 1 5 (List.map en_api_RoundTower o1), .ro 2 1 (List.map en_Lint o2), .ro 3 4 (List.map en_api_RoundWinder o3), .ro 5 2 (List.map en_api_RoundTrip now9), .ro 8 2 (List.map en_api_RoundTrip r.2.2.2.2.2.2)]) [] r.1) [.code (sub (bodyOf Try.f40) [1, 1, 1, 1, 0, 1, 0, 1, 1]), .inBlock 1] ([(5, .ptr 13 0), (6, .ptr 14 0), (9, .ptr 16 0), (11, vi x20.2), (12, .ptr 24 0)]) ([.blk 13 [.ptr 0 0] 106, .blk 14 [vi i24] 3, .blk 16 [.fn 41 [] [.ptr 6 0, .ptr 7 0]] 112, .blk 24 [.ref 29, vi i25] 105, .blk 15 [.ref 5, vi i26] 105, .inv 4 (mapI mk107 false en_p_round_search l27), .blk 6 [.val (.bool b28)] 4, .blk 7 [.ref 8, vi i29] 105, .rob 0 [.ref 1, .ref 2, .ref 3, vi o4, vi o5, .ref 4] 109, .ro 29 2 (List.map en_api_RoundTrip l30), .ro 5 2 (List.map en_api_RoundTrip now9), .ro 8 2 (List.map en_api_RoundTrip y21.2.2.2.2.2), .ro 1 5 (List.map en_api_RoundTower o1), .ro 2 1 (List.map en_Lint o2), .ro 3 4 (List.map en_api_RoundWinder o3), .inv 23 (recI l0 rec), .pin 22 16 u19, .pin 21 15 u18, .pin 20 14 u17, .pin 19 13 u15, .pin 10 4 (env0 4), .pin 11 6 (env0 6), .pin 12 7 (env0 7)]) := by
  rw [ev_p_round_office_shares_j1] at h
  refine TC.region ?_
  refine op1 0 rfl (sp_loadB rfl isBlk rfl vt106 rfl) rfl trivial rfl rfl ?_
  refine op1 1 rfl (sp_loadB rfl isBlk rfl vt3 rfl) rfl trivial rfl rfl ?_
  obtain ⟨h11, h⟩ := chk_inv h
  refine op0 (sp_add rfl rfl rfl h11) rfl trivial rfl rfl ?_
  refine op0 (sp_move rfl rfl) rfl trivial rfl rfl ?_
  refine op1 3 rfl (sp_loadBA rfl isBlk rfl vt105 rfl rfl) rfl trivial rfl rfl ?_
  refine op1 2 rfl (sp_loadB rfl isBlk rfl vt112 rfl) rfl trivial rfl rfl ?_
  obtain ⟨r31, h12, h⟩ := bind_inv h
  refine opT (take := [.inv 4 (mapI mk107 false en_p_round_search l27), .blk 6 [.val (.bool b28)] 4, .blk 7 [.ref 8, vi i29] 105]) (need := [.rob 0 [.ref 1, .ref 2, .ref 3, vi o4, vi o5, .ref 4] 109, .ro 1 5 (List.map en_api_RoundTower o1), .ro 2 1 (List.map en_Lint o2), .ro 3 4 (List.map en_api_RoundWinder o3), .ro 29 2 (List.map en_api_RoundTrip l30), .ro 8 2 (List.map en_api_RoundTrip y21.2.2.2.2.2)]) (V' := [.inv 4 (mapI mk107 false en_p_round_search r31.1), .blk 6 [.val (.bool r31.2.1)] 4, .ro 30 2 (List.map en_api_RoundTrip r31.2.2.1), .blk 7 [.ref 30, vi r31.2.2.2] 105, .blk 13 [.ptr 0 0] 106, .blk 14 [vi i24] 3, .blk 16 [.fn 41 [] [.ptr 6 0, .ptr 7 0]] 112, .blk 24 [.ref 29, vi i25] 105, .blk 15 [.ref 5, vi i26] 105, .rob 0 [.ref 1, .ref 2, .ref 3, vi o4, vi o5, .ref 4] 109, .ro 29 2 (List.map en_api_RoundTrip l30), .ro 5 2 (List.map en_api_RoundTrip now9), .ro 8 2 (List.map en_api_RoundTrip y21.2.2.2.2.2), .ro 1 5 (List.map en_api_RoundTower o1), .ro 2 1 (List.map en_Lint o2), .ro 3 4 (List.map en_api_RoundWinder o3), .inv 23 (recI l0 rec), .pin 22 16 u19, .pin 21 15 u18, .pin 20 14 u17, .pin 19 13 u15, .pin 10 4 (env0 4), .pin 11 6 (env0 6), .pin 12 7 (env0 7)]) [5, 6, 7] [8, 12, 13, 14, 9, 11] (ts_call (avs := [.ptr 0 0, vi (i24 + 1), vi x20.2, .agg [.ref 29, vi i25], .fn 41 [] [.ptr 6 0, .ptr 7 0]]) (take := [.inv 4 (mapI mk107 false en_p_round_search l27), .blk 6 [.val (.bool b28)] 4, .blk 7 [.ref 8, vi i29] 105]) (need := [.rob 0 [.ref 1, .ref 2, .ref 3, vi o4, vi o5, .ref 4] 109, .ro 1 5 (List.map en_api_RoundTower o1), .ro 2 1 (List.map en_Lint o2), .ro 3 4 (List.map en_api_RoundWinder o3), .ro 29 2 (List.map en_api_RoundTrip l30), .ro 8 2 (List.map en_api_RoundTrip y21.2.2.2.2.2)]) (v := .tup []) (news := [.inv 4 (mapI mk107 false en_p_round_search r31.1), .blk 6 [.val (.bool r31.2.1)] 4, .ro 30 2 (List.map en_api_RoundTrip r31.2.2.1), .blk 7 [.ref 30, vi r31.2.2.2] 105]) rfl rfl rfl Try.call40 (atT [(5, 29)] [(500, 30)] (hself _ _ _ _ _ _ _ _ _ _ _ _ _ _ h12) rfl rfl rfl) rfl rfl) trivial rfl ⟨rfl, rfl, rfl, trivial⟩ ⟨rfl, rfl, rfl, rfl, rfl, rfl, trivial⟩ rfl rfl ?_
  refine TL.nil ?_
  refine TC.inBlock ?_
  cases h
  exact bodyEnd [(8, 30)] ⟨mem_at 16 rfl, mem_at 17 rfl, mem_at 18 rfl, mem_at 19 rfl, mem_at 20 rfl, mem_at 6 rfl, mem_at 8 rfl, mem_at 5 rfl, mem_at 4 rfl, mem_at 21 rfl, mem_at 22 rfl, mem_at 23 rfl, mem_at 0 rfl, mem_at 1 rfl, mem_at 3 rfl, mem_at 9 rfl, mem_at 13 rfl, mem_at 14 rfl, mem_at 15 rfl, mem_at 11 rfl, mem_at 2 rfl, trivial⟩ rfl
def ev_p_round_office_shares_r0 (n : Nat) (o1 : List (Int × Int × Int × Int × Int)) (o2 : List ((List Int))) (o3 : List (Int × Int × Int × Int)) (o4 : Int) (o5 : Int) (now9 : List (Int × (List Int))) (self : (List (Int × Int × Int × Int × Int)) → (List ((List Int))) → (List (Int × Int × Int × Int)) → Int → Int → (List ((Int × Int) × (((Int × (List Int) × Int × Bool))))) → Int → Int → (List (Int × (List Int))) → Int → Bool → (List (Int × (List Int))) → Int → Option ((List ((Int × Int) × (((Int × (List Int) × Int × Bool))))) × Bool × (List (Int × (List Int))) × Int)) (x20 : Int × Int) (y21 : Int × Int × (List ((Int × Int) × (((Int × (List Int) × Int × Bool))))) × Bool × Int × (List (Int × (List Int)))) : Option (Nat × (Int × Int × (List ((Int × Int) × (((Int × (List Int) × Int × Bool))))) × Bool × Int × (List (Int × (List Int))))) :=
  cond (decide ((0 : Int) < x20.1)) ((ev_p_round_office_best n o1 o2 o3 o4 o5 y21.2.2.1 y21.2.1 x20.1).bind fun r22 => cond (!r22.2.2.2.1) (some (0, (y21.1, y21.2.1, r22.2.2.2.2, y21.2.2.2.1, y21.2.2.2.2.1, y21.2.2.2.2.2))) ((ev_slices_Clip_Lapi_RoundTrip_api_RoundTrip n now9).bind fun r23 => chk (Nat.blt 0 ([(y21.2.1, r22.2.1)] : List (Int × (List Int))).length) <| chk (room 32 (r23.length + ([(y21.2.1, r22.2.1)] : List (Int × (List Int))).length)) <| chk (in64 (y21.1 + r22.2.2.1)) <| ev_p_round_office_shares_j1 n o1 o2 o3 o4 o5 x20 y21 self y21.2.1 (y21.1 + r22.2.2.1) y21.1 r22.2.2.2.2 y21.2.2.2.1 y21.2.2.2.2.1 (r23 ++ ([(y21.2.1, r22.2.1)] : List (Int × (List Int)))))) (ev_p_round_office_shares_j1 n o1 o2 o3 o4 o5 x20 y21 self y21.2.1 y21.1 y21.1 y21.2.2.1 y21.2.2.2.1 y21.2.2.2.2.1 now9)
theorem ok_p_round_office_shares_r0 {n : Nat} {env0 : Env} {u19 : Value} {u18 : Value} {u17 : Value} {u15 : Value} {o4 : Int} {o5 : Int} {o1 : List (Int × Int × Int × Int × Int)} {o2 : List ((List Int))} {o3 : List (Int × Int × Int × Int)} {now9 : List (Int × (List Int))} {self : (List (Int × Int × Int × Int × Int)) → (List ((List Int))) → (List (Int × Int × Int × Int)) → Int → Int → (List ((Int × Int) × (((Int × (List Int) × Int × Bool))))) → Int → Int → (List (Int × (List Int))) → Int → Bool → (List (Int × (List Int))) → Int → Option ((List ((Int × Int) × (((Int × (List Int) × Int × Bool))))) × Bool × (List (Int × (List Int))) × Int)} (hself : ∀ (o1z : List (Int × Int × Int × Int × Int)) (o2z : List ((List Int))) (o3z : List (Int × Int × Int × Int)) (o4z : Int) (o5z : Int) (o6z : List ((Int × Int) × (((Int × (List Int) × Int × Bool))))) (winder7z : Int) (goal8z : Int) (now9z : List (Int × (List Int))) (now10z : Int) (yield11z : Bool) (yield12z : List (Int × (List Int))) (yield13z : Int) (r : (List ((Int × Int) × (((Int × (List Int) × Int × Bool))))) × Bool × (List (Int × (List Int))) × Int), self o1z o2z o3z o4z o5z o6z winder7z goal8z now9z now10z yield11z yield12z yield13z = some r → FT Try.prog 40 [.ptr 0 0, vi winder7z, vi goal8z, .agg [.ref 5, vi now10z], .fn 41 [] [.ptr 6 0, .ptr 7 0]] [.inv 4 (mapI mk107 false en_p_round_search o6z), .blk 6 [.val (.bool yield11z)] 4, .blk 7 [.ref 8, vi yield13z] 105] [.rob 0 [.ref 1, .ref 2, .ref 3, vi o4z, vi o5z, .ref 4] 109, .ro 1 5 (List.map en_api_RoundTower o1z), .ro 2 1 (List.map en_Lint o2z), .ro 3 4 (List.map en_api_RoundWinder o3z), .ro 5 2 (List.map en_api_RoundTrip now9z), .ro 8 2 (List.map en_api_RoundTrip yield12z)] (.tup []) [.inv 4 (mapI mk107 false en_p_round_search r.1), .blk 6 [.val (.bool r.2.1)] 4, .ro 500 2 (List.map en_api_RoundTrip r.2.2.1), .blk 7 [.ref 500, vi r.2.2.2] 105]) {x20 : Int × Int} {y21 : Int × Int × (List ((Int × Int) × (((Int × (List Int) × Int × Bool))))) × Bool × Int × (List (Int × (List Int)))} {r : Nat × (Int × Int × (List ((Int × Int) × (((Int × (List Int) × Int × Bool))))) × Bool × Int × (List (Int × (List Int))))} (h : ev_p_round_office_shares_r0 n o1 o2 o3 o4 o5 now9 self x20 y21 = some r) (l0 : Nat) (rec : Loop) (hrd : rec.state = .ready) (w0 : World) (M0 R0 : Nat → Prop) : TC Try.prog ⟨w0, M0, R0⟩ ⟨69, some l0, []⟩ (RoundQ ⟨w0, M0, R0⟩ (.inv 23 (recI l0 (busyR rec)) :: [.pin 22 16 u19, .pin 21 15 u18, .pin 20 14 u17, .pin 19 13 u15, .blk 16 [.fn 41 [] [.ptr 6 0, .ptr 7 0]] 112, .blk 15 [.ref 5, vi r.2.1] 105, .blk 14 [vi r.2.2.1] 3, .blk 13 [.ptr 0 0] 106, .pin 10 4 (env0 4), .pin 11 6 (env0 6), .pin 12 7 (env0 7), .inv 4 (mapI mk107 false en_p_round_search r.2.2.2.1), .blk 6 [.val (.bool r.2.2.2.2.1)] 4, .blk 7 [.ref 8, vi r.2.2.2.2.2.1] 105, .rob 0 [.ref 1, .ref 2, .ref 3, vi o4, vi o5, .ref 4] 109, .ro 1 5 (List.map en_api_RoundTower o1), .ro 2 1 (List.map en_Lint o2), .ro 3 4 (List.map en_api_RoundWinder o3), .ro 5 2 (List.map en_api_RoundTrip now9), .ro 8 2 (List.map en_api_RoundTrip r.2.2.2.2.2.2)]) [] r.1) [.code (sub (bodyOf Try.f40) [1, 1, 1, 1, 0, 0]), .beginRound, .code (sub (bodyOf Try.f40) [1, 1, 1, 1, 0, 1])] (pSlots [29, 30] (ye_funcround_set_round_set_bool x20) [(5, .ptr 13 0), (6, .ptr 14 0), (8, .ptr 15 0), (9, .ptr 16 0)]) (.inv 23 (recI l0 rec) :: yn_funcround_set_round_set_bool x20 ++ (fun y21 : Int × Int × (List ((Int × Int) × (((Int × (List Int) × Int × Bool))))) × Bool × Int × (List (Int × (List Int))) => [.pin 22 16 u19, .pin 21 15 u18, .pin 20 14 u17, .pin 19 13 u15, .blk 16 [.fn 41 [] [.ptr 6 0, .ptr 7 0]] 112, .blk 15 [.ref 5, vi y21.1] 105, .blk 14 [vi y21.2.1] 3, .blk 13 [.ptr 0 0] 106, .pin 10 4 (env0 4), .pin 11 6 (env0 6), .pin 12 7 (env0 7), .inv 4 (mapI mk107 false en_p_round_search y21.2.2.1), .blk 6 [.val (.bool y21.2.2.2.1)] 4, .blk 7 [.ref 8, vi y21.2.2.2.2.1] 105, .rob 0 [.ref 1, .ref 2, .ref 3, vi o4, vi o5, .ref 4] 109, .ro 1 5 (List.map en_api_RoundTower o1), .ro 2 1 (List.map en_Lint o2), .ro 3 4 (List.map en_api_RoundWinder o3), .ro 5 2 (List.map en_api_RoundTrip now9), .ro 8 2 (List.map en_api_RoundTrip y21.2.2.2.2.2)]) y21) := by
  rw [ev_p_round_office_shares_r0] at h
  refine subJ (s' := [(5, .ptr 13 0), (6, .ptr 14 0), (8, .ptr 15 0), (9, .ptr 16 0), (29, vi x20.1), (30, vi x20.2)]) (V' := [.inv 23 (recI l0 rec), .pin 22 16 u19, .pin 21 15 u18, .pin 20 14 u17, .pin 19 13 u15, .blk 16 [.fn 41 [] [.ptr 6 0, .ptr 7 0]] 112, .blk 15 [.ref 5, vi y21.1] 105, .blk 14 [vi y21.2.1] 3, .blk 13 [.ptr 0 0] 106, .pin 10 4 (env0 4), .pin 11 6 (env0 6), .pin 12 7 (env0 7), .inv 4 (mapI mk107 false en_p_round_search y21.2.2.1), .blk 6 [.val (.bool y21.2.2.2.1)] 4, .blk 7 [.ref 8, vi y21.2.2.2.2.1] 105, .rob 0 [.ref 1, .ref 2, .ref 3, vi o4, vi o5, .ref 4] 109, .ro 1 5 (List.map en_api_RoundTower o1), .ro 2 1 (List.map en_Lint o2), .ro 3 4 (List.map en_api_RoundWinder o3), .ro 5 2 (List.map en_api_RoundTrip now9), .ro 8 2 (List.map en_api_RoundTrip y21.2.2.2.2.2)]) [] ?_ ⟨rfl, rfl, rfl, rfl, rfl, rfl, trivial⟩ ⟨mem_at 0 rfl, mem_at 1 rfl, mem_at 2 rfl, mem_at 3 rfl, mem_at 4 rfl, mem_at 5 rfl, mem_at 6 rfl, mem_at 7 rfl, mem_at 8 rfl, mem_at 9 rfl, mem_at 10 rfl, mem_at 11 rfl, mem_at 12 rfl, mem_at 13 rfl, mem_at 14 rfl, mem_at 15 rfl, mem_at 16 rfl, mem_at 17 rfl, mem_at 18 rfl, mem_at 19 rfl, mem_at 20 rfl, trivial⟩ rfl
  refine TC.seq ?_
  refine TC.region ?_
  refine op0 (sp_assign rfl rfl) rfl trivial rfl rfl ?_
  refine TL.nil ?_
  refine TC.region ?_
  refine op0 (sp_assign rfl rfl) rfl trivial rfl rfl ?_
  refine TL.nil ?_
  refine TC.beginRound 0 rfl hrd ?_
  refine TC.block ?_
  refine TC.seq ?_
  refine TC.region ?_
  refine op1 6 rfl (sp_loadBA rfl isBlk rfl vt105 rfl rfl) rfl trivial rfl rfl ?_
  refine op0 (sp_alloc 24 rfl Try.zeroValue105 rfl) rfl trivial rfl rfl ?_
  refine stoB 0 (cells' := [.ref 5, vi y21.1]) rfl rfl trivial rfl rfl rfl rfl vt105 rfl rfl rfl ?_
  refine TL.nil ?_
  refine TC.seq ?_
  refine TC.seq ?_
  refine TC.region ?_
  refine op0 (sp_move rfl rfl) rfl trivial rfl rfl ?_
  refine op0 (sp_gtr rfl rfl rfl) rfl trivial rfl rfl ?_
  refine TL.nil ?_
  refine TC.cond (b := (decide ((0 : Int) < x20.1))) rfl (fun h4 => ?_) (fun h4 => ?_)
  · have h := cond_t h h4
    refine TC.seq ?_
    refine TC.region ?_
    refine op1 9 rfl (sp_loadB rfl isBlk rfl vt106 rfl) rfl trivial rfl rfl ?_
    refine op1 8 rfl (sp_loadB rfl isBlk rfl vt3 rfl) rfl trivial rfl rfl ?_
    refine op0 (sp_move rfl rfl) rfl trivial rfl rfl ?_
    obtain ⟨r22, h5, h⟩ := bind_inv h
    refine opT (take := [.inv 4 (mapI mk107 false en_p_round_search y21.2.2.1)]) (need := [.rob 0 [.ref 1, .ref 2, .ref 3, vi o4, vi o5, .ref 4] 109, .ro 1 5 (List.map en_api_RoundTower o1), .ro 2 1 (List.map en_Lint o2), .ro 3 4 (List.map en_api_RoundWinder o3)]) (V' := [.rob 25 [vi r22.1, .ref 26, vi r22.2.2.1, .val (.bool r22.2.2.2.1)] 97, .ro 26 1 (List.map en_int r22.2.1), .inv 4 (mapI mk107 false en_p_round_search r22.2.2.2.2), .blk 24 [.ref 5, vi y21.1] 105, .inv 23 (recI l0 (busyR rec)), .pin 22 16 u19, .pin 21 15 u18, .pin 20 14 u17, .pin 19 13 u15, .blk 16 [.fn 41 [] [.ptr 6 0, .ptr 7 0]] 112, .blk 15 [.ref 5, vi y21.1] 105, .blk 14 [vi y21.2.1] 3, .blk 13 [.ptr 0 0] 106, .pin 10 4 (env0 4), .pin 11 6 (env0 6), .pin 12 7 (env0 7), .blk 6 [.val (.bool y21.2.2.2.1)] 4, .blk 7 [.ref 8, vi y21.2.2.2.2.1] 105, .rob 0 [.ref 1, .ref 2, .ref 3, vi o4, vi o5, .ref 4] 109, .ro 1 5 (List.map en_api_RoundTower o1), .ro 2 1 (List.map en_Lint o2), .ro 3 4 (List.map en_api_RoundWinder o3), .ro 5 2 (List.map en_api_RoundTrip now9), .ro 8 2 (List.map en_api_RoundTrip y21.2.2.2.2.2)]) [13] [16, 17, 18, 19] (ts_call (avs := [.ptr 0 0, vi y21.2.1, vi x20.1]) (take := [.inv 4 (mapI mk107 false en_p_round_search y21.2.2.1)]) (need := [.rob 0 [.ref 1, .ref 2, .ref 3, vi o4, vi o5, .ref 4] 109, .ro 1 5 (List.map en_api_RoundTower o1), .ro 2 1 (List.map en_Lint o2), .ro 3 4 (List.map en_api_RoundWinder o3)]) (v := .ptr 25 0) (news := [.rob 25 [vi r22.1, .ref 26, vi r22.2.2.1, .val (.bool r22.2.2.2.1)] 97, .ro 26 1 (List.map en_int r22.2.1), .inv 4 (mapI mk107 false en_p_round_search r22.2.2.2.2)]) rfl rfl rfl Try.call64 (atT [] [(500, 25), (501, 26)] (ft_p_round_office_best h5) rfl rfl rfl) rfl rfl) trivial rfl ⟨rfl, trivial⟩ ⟨rfl, rfl, rfl, rfl, trivial⟩ rfl rfl ?_
    refine op0 (sp_assign rfl rfl) rfl trivial rfl rfl ?_
    refine TL.nil ?_
    refine TC.seq ?_
    refine TC.seq ?_
    refine TC.region ?_
    refine op0 (sp_move rfl rfl) rfl trivial rfl rfl ?_
    refine op1 0 rfl (sp_nilCheck rfl isRob rfl) rfl trivial rfl rfl ?_
    refine op1 0 rfl (sp_fieldAddrB rfl isRob rfl ft97_3 vt4 (by decide)) rfl trivial rfl rfl ?_
    refine op1 0 rfl (sp_loadB rfl isRob rfl vt4 rfl) rfl trivial rfl rfl ?_
    refine op0 (sp_not rfl rfl) rfl trivial rfl rfl ?_
    refine TL.nil ?_
    refine TC.cond (b := (!r22.2.2.2.1)) rfl (fun h6 => ?_) (fun h6 => ?_)
    · have h := cond_t h h6
      refine TC.exit rfl ?_
      cases h
      exact bodyEnd [] ⟨mem_at 4 rfl, mem_at 5 rfl, mem_at 6 rfl, mem_at 7 rfl, mem_at 8 rfl, mem_at 9 rfl, mem_at 10 rfl, mem_at 11 rfl, mem_at 12 rfl, mem_at 13 rfl, mem_at 14 rfl, mem_at 15 rfl, mem_at 2 rfl, mem_at 16 rfl, mem_at 17 rfl, mem_at 18 rfl, mem_at 19 rfl, mem_at 20 rfl, mem_at 21 rfl, mem_at 22 rfl, mem_at 23 rfl, trivial⟩ rfl
    · have h := cond_f h h6
      refine TC.skip ?_
      obtain ⟨r23, h7, h⟩ := bind_inv h
      obtain ⟨h8, h⟩ := chk_inv h
      obtain ⟨h9, h⟩ := chk_inv h
      obtain ⟨h10, h⟩ := chk_inv h
      refine drawJ 18 [⟨.ptr 15 0, [], [.blk 15 [.ref 5, vi y21.1] 105], []⟩, ⟨.ref 5, [], [.blk 15 [.ref 5, vi y21.1] 105], []⟩, ⟨.ref 27, [.any 27 (D.clip 2 (List.map en_api_RoundTrip r23))], [.ro 5 2 (List.map en_api_RoundTrip now9)], []⟩, ⟨vi y21.2.1, [], [.blk 14 [vi y21.2.1] 3], []⟩, ⟨.ptr 25 0, [], [], []⟩, ⟨.ptr 25 0, [], [.rob 25 [vi r22.1, .ref 26, vi r22.2.2.1, .val (.bool r22.2.2.2.1)] 97], []⟩, ⟨.ptr 25 1, [], [.rob 25 [vi r22.1, .ref 26, vi r22.2.2.1, .val (.bool r22.2.2.2.1)] 97], []⟩, ⟨.ref 26, [], [.rob 25 [vi r22.1, .ref 26, vi r22.2.2.1, .val (.bool r22.2.2.2.1)] 97], []⟩, ⟨.agg [vi y21.2.1, .ref 26], [], [], []⟩, ⟨.ref 28, [.row 28 65 2 (List.map en_api_RoundTrip ([(y21.2.1, r22.2.1)] : List (Int × (List Int))))], [.ro 26 1 (List.map en_int r22.2.1)], []⟩, ⟨.ref 29, [.row 29 65 2 (List.map en_api_RoundTrip (r23 ++ ([(y21.2.1, r22.2.1)] : List (Int × (List Int)))))], [.any 27 (D.clip 2 (List.map en_api_RoundTrip r23)), .row 28 65 2 (List.map en_api_RoundTrip ([(y21.2.1, r22.2.1)] : List (Int × (List Int))))], []⟩, ⟨.ptr 15 1, [], [.blk 15 [.ref 5, vi y21.1] 105], []⟩, ⟨vi y21.1, [], [.blk 15 [.ref 5, vi y21.1] 105], []⟩, ⟨.ptr 25 0, [], [], []⟩, ⟨.ptr 25 0, [], [.rob 25 [vi r22.1, .ref 26, vi r22.2.2.1, .val (.bool r22.2.2.2.1)] 97], []⟩, ⟨.ptr 25 2, [], [.rob 25 [vi r22.1, .ref 26, vi r22.2.2.1, .val (.bool r22.2.2.2.1)] 97], []⟩, ⟨vi r22.2.2.1, [], [.rob 25 [vi r22.1, .ref 26, vi r22.2.2.1, .val (.bool r22.2.2.2.1)] 97], []⟩, ⟨vi (y21.1 + r22.2.2.1), [], [], []⟩] rfl ?_ rfl ?_ rfl ?_ ?_
      · kernel_rfl
      · kernel_rfl
      · exact DAll.op' (sp_fieldAddrB rfl isBlk rfl ft105_0 vt68 (by decide)) trivial rfl (From.ok (ps := [(none, 10)]) ⟨⟨rfl, by kernel_rfl⟩, trivial⟩) (DAll.op' (sp_loadB rfl isBlk rfl vt68 rfl) trivial rfl (From.ok (ps := [(none, 10)]) ⟨⟨rfl, by kernel_rfl⟩, trivial⟩) (DAll.op' (sp_call (avs := [.ref 5]) (need := [.ro 5 2 (List.map en_api_RoundTrip now9)]) (v := .ref 27) (news := [.any 27 (D.clip 2 (List.map en_api_RoundTrip r23))]) rfl rfl rfl Try.call65 (atJ [(0, 5)] [(0, 27)] (fc_slices_Clip_Lapi_RoundTrip_api_RoundTrip h7) rfl rfl) (.inl (roAll rfl))) trivial rfl (From.ok (ps := [(none, 22)]) ⟨⟨rfl, by kernel_rfl⟩, trivial⟩) (DAll.op' (sp_loadB rfl isBlk rfl vt3 rfl) trivial rfl (From.ok (ps := [(none, 11)]) ⟨⟨rfl, by kernel_rfl⟩, trivial⟩) (DAll.op' (sp_move rfl rfl) trivial rfl (From.ok (ps := []) trivial) (DAll.op' (sp_nilCheck rfl isRob rfl) trivial rfl (From.ok (ps := [(none, 0)]) ⟨⟨rfl, by kernel_rfl⟩, trivial⟩) (DAll.op' (sp_fieldAddrB rfl isRob rfl ft97_1 vt30 (by decide)) trivial rfl (From.ok (ps := [(none, 0)]) ⟨⟨rfl, by kernel_rfl⟩, trivial⟩) (DAll.op' (sp_loadB rfl isRob rfl vt30 rfl) trivial rfl (From.ok (ps := [(none, 0)]) ⟨⟨rfl, by kernel_rfl⟩, trivial⟩) (DAll.op' (sp_build (qs := [(0, vi y21.2.1), (1, .ref 26)]) rfl bt65 rfl rfl rfl rfl) trivial rfl (From.ok (ps := []) trivial) (DAll.op' (sp_buildSlice (qs := [.agg [vi y21.2.1, .ref 26]]) (need := [.ro 26 1 (List.map en_int r22.2.1)]) (els := List.map en_api_RoundTrip ([(y21.2.1, r22.2.1)] : List (Int × (List Int)))) 28 rfl sl68 (by decide) (by decide) rfl rfl rfl (.v (.s (mem_at 0 rfl) (.nil))) (map_len fun _ => rfl) rfl rfl rfl) trivial rfl (From.ok (ps := [(none, 1)]) ⟨⟨rfl, by kernel_rfl⟩, trivial⟩) (DAll.op' (sp_appClip (N := r23.length) (N2 := ([(y21.2.1, r22.2.1)] : List (Int × (List Int))).length) 29 rfl rfl rfl isOwn sl68 (len_map _ _) (len_map _ _) h8 h9 (map_app _ _ _)) trivial rfl (From.ok (ps := [(some 2, 0), (some 9, 0)]) ⟨⟨_, rfl, by kernel_rfl, rfl, by kernel_rfl⟩, ⟨_, rfl, by kernel_rfl, rfl, by kernel_rfl⟩, trivial⟩) (DAll.op' (sp_fieldAddrB rfl isBlk rfl ft105_1 vt3 (by decide)) trivial rfl (From.ok (ps := [(none, 10)]) ⟨⟨rfl, by kernel_rfl⟩, trivial⟩) (DAll.op' (sp_loadB rfl isBlk rfl vt3 rfl) trivial rfl (From.ok (ps := [(none, 10)]) ⟨⟨rfl, by kernel_rfl⟩, trivial⟩) (DAll.op' (sp_move rfl rfl) trivial rfl (From.ok (ps := []) trivial) (DAll.op' (sp_nilCheck rfl isRob rfl) trivial rfl (From.ok (ps := [(none, 0)]) ⟨⟨rfl, by kernel_rfl⟩, trivial⟩) (DAll.op' (sp_fieldAddrB rfl isRob rfl ft97_2 vt3 (by decide)) trivial rfl (From.ok (ps := [(none, 0)]) ⟨⟨rfl, by kernel_rfl⟩, trivial⟩) (DAll.op' (sp_loadB rfl isRob rfl vt3 rfl) trivial rfl (From.ok (ps := [(none, 0)]) ⟨⟨rfl, by kernel_rfl⟩, trivial⟩) (DAll.op' (sp_add rfl rfl rfl h10) trivial rfl (From.ok (ps := []) trivial) (.nil))))))))))))))))))
      refine op0 (sp_build (qs := [(0, .ref 29), (1, vi (y21.1 + r22.2.2.1))]) rfl bt105 rfl rfl rfl rfl) rfl trivial rfl rfl ?_
      refine stoB 6 (cells' := [.ref 29, vi (y21.1 + r22.2.2.1)]) rfl rfl trivial rfl rfl rfl rfl vt105 rfl rfl rfl ?_
      refine TL.nil ?_
      refine TC.freeze 0 rfl ?_
      refine subJ [] (ok_p_round_office_shares_j1 (u19 := u19) (u18 := u18) (u17 := u17) (u15 := u15) (now9 := now9) hself h) ?_ ?_ ?_
      · exact ⟨rfl, rfl, rfl, rfl, rfl, trivial⟩
      · exact ⟨mem_at 15 rfl, mem_at 14 rfl, mem_at 12 rfl, mem_at 6 rfl, mem_at 13 rfl, mem_at 5 rfl, mem_at 19 rfl, mem_at 20 rfl, mem_at 21 rfl, mem_at 0 rfl, mem_at 25 rfl, mem_at 26 rfl, mem_at 22 rfl, mem_at 23 rfl, mem_at 24 rfl, mem_at 7 rfl, mem_at 8 rfl, mem_at 9 rfl, mem_at 10 rfl, mem_at 11 rfl, mem_at 16 rfl, mem_at 17 rfl, mem_at 18 rfl, trivial⟩
      · rfl
  · have h := cond_f h h4
    refine TC.skip ?_
    refine aliasB 7 20 31 15 5 2 [.ref 31, vi y21.1] rfl rfl rfl rfl ?_
    refine subJ [(5, 31), (29, 5)] (ok_p_round_office_shares_j1 (u19 := u19) (u18 := u18) (u17 := u17) (u15 := u15) (now9 := now9) hself h) ?_ ?_ ?_
    · exact ⟨rfl, rfl, rfl, rfl, rfl, trivial⟩
    · exact ⟨mem_at 10 rfl, mem_at 9 rfl, mem_at 7 rfl, mem_at 1 rfl, mem_at 8 rfl, mem_at 14 rfl, mem_at 15 rfl, mem_at 16 rfl, mem_at 17 rfl, mem_at 21 rfl, mem_at 0 rfl, mem_at 22 rfl, mem_at 18 rfl, mem_at 19 rfl, mem_at 20 rfl, mem_at 2 rfl, mem_at 3 rfl, mem_at 4 rfl, mem_at 5 rfl, mem_at 6 rfl, mem_at 11 rfl, mem_at 12 rfl, mem_at 13 rfl, trivial⟩
    · rfl
def ev_p_round_office_shares : Nat → (List (Int × Int × Int × Int × Int)) → (List ((List Int))) → (List (Int × Int × Int × Int)) → Int → Int → (List ((Int × Int) × (((Int × (List Int) × Int × Bool))))) → Int → Int → (List (Int × (List Int))) → Int → Bool → (List (Int × (List Int))) → Int → Option ((List ((Int × Int) × (((Int × (List Int) × Int × Bool))))) × Bool × (List (Int × (List Int))) × Int)
  | 0, _, _, _, _, _, _, _, _, _, _, _, _, _ => none
  | n + 1, o1, o2, o3, o4, o5, o6, winder7, goal8, now9, now10, yield11, yield12, yield13 => cond (goal8 == 0) ((ev_round_Fewest_1_v1 n now9 now10 yield11 yield12 yield13).bind fun r14 => some (o6, r14.1, r14.2.1, r14.2.2)) (cond (winder7 == (o3.length : Int)) (some (o6, yield11, yield12, yield13)) ((ev_round_set_parts (loopStep (ev_p_round_office_shares_r0 n o1 o2 o3 o4 o5 now9 (ev_p_round_office_shares n))) n goal8 ((now10, winder7, o6, yield11, yield13, yield12), 0)).bind fun q32 => cond (q32.2 == 0) (some (q32.1.2.2.1, q32.1.2.2.2.1, q32.1.2.2.2.2.2, q32.1.2.2.2.2.1)) (none)))
theorem fcr_p_round_office_shares : ∀ (n : Nat) (o1 : List (Int × Int × Int × Int × Int)) (o2 : List ((List Int))) (o3 : List (Int × Int × Int × Int)) (o4 : Int) (o5 : Int) (o6 : List ((Int × Int) × (((Int × (List Int) × Int × Bool))))) (winder7 : Int) (goal8 : Int) (now9 : List (Int × (List Int))) (now10 : Int) (yield11 : Bool) (yield12 : List (Int × (List Int))) (yield13 : Int) (r : (List ((Int × Int) × (((Int × (List Int) × Int × Bool))))) × Bool × (List (Int × (List Int))) × Int), ev_p_round_office_shares n o1 o2 o3 o4 o5 o6 winder7 goal8 now9 now10 yield11 yield12 yield13 = some r → FT Try.prog 40 [.ptr 0 0, vi winder7, vi goal8, .agg [.ref 5, vi now10], .fn 41 [] [.ptr 6 0, .ptr 7 0]] [.inv 4 (mapI mk107 false en_p_round_search o6), .blk 6 [.val (.bool yield11)] 4, .blk 7 [.ref 8, vi yield13] 105] [.rob 0 [.ref 1, .ref 2, .ref 3, vi o4, vi o5, .ref 4] 109, .ro 1 5 (List.map en_api_RoundTower o1), .ro 2 1 (List.map en_Lint o2), .ro 3 4 (List.map en_api_RoundWinder o3), .ro 5 2 (List.map en_api_RoundTrip now9), .ro 8 2 (List.map en_api_RoundTrip yield12)] (.tup []) [.inv 4 (mapI mk107 false en_p_round_search r.1), .blk 6 [.val (.bool r.2.1)] 4, .ro 500 2 (List.map en_api_RoundTrip r.2.2.1), .blk 7 [.ref 500, vi r.2.2.2] 105] := by
  intro n
  induction n with
  | zero => intro _ _ _ _ _ _ _ _ _ _ _ _ _ r h; exact none_no h
  | succ n ih =>
    intro o1 o2 o3 o4 o5 o6 winder7 goal8 now9 now10 yield11 yield12 yield13 r h
    refine introM (nz := 69) 9 [(10, 4), (11, 6), (12, 7)] Try.func40 rfl rfl rfl rfl (fun w0 M0 R0 env0 => ?_)
    rw [ev_p_round_office_shares] at h
    refine TC.seq ?_
    refine TC.region ?_
    refine op0 (sp_box 13 rfl rfl rfl rfl rfl) rfl trivial rfl rfl ?_
    refine op0 (sp_box 14 rfl rfl rfl rfl rfl) rfl trivial rfl rfl ?_
    refine op0 (sp_box 15 rfl rfl rfl rfl rfl) rfl trivial rfl rfl ?_
    refine op0 (sp_box 16 rfl rfl rfl rfl rfl) rfl trivial rfl rfl ?_
    refine TL.nil ?_
    refine TC.seq ?_
    refine TC.seq ?_
    refine TC.region ?_
    refine op0 (sp_move rfl rfl) rfl trivial rfl rfl ?_
    refine op0 (sp_eql rfl rfl rfl) rfl trivial rfl rfl ?_
    refine TL.nil ?_
    refine TC.cond (b := (goal8 == 0)) rfl (fun h1 => ?_) (fun h1 => ?_)
    · have h := cond_t h h1
      refine TC.seq ?_
      refine TC.region ?_
      refine op1 0 rfl (sp_loadB rfl isBlk rfl vt112 rfl) rfl trivial rfl rfl ?_
      refine op1 1 rfl (sp_loadBA rfl isBlk rfl vt105 rfl rfl) rfl trivial rfl rfl ?_
      obtain ⟨r14, h2, h⟩ := bind_inv h
      refine opT (take := [.blk 6 [.val (.bool yield11)] 4, .blk 7 [.ref 8, vi yield13] 105]) (need := [.ro 5 2 (List.map en_api_RoundTrip now9), .ro 8 2 (List.map en_api_RoundTrip yield12)]) (V' := [.blk 6 [.val (.bool r14.1)] 4, .ro 17 2 (List.map en_api_RoundTrip r14.2.1), .blk 7 [.ref 17, vi r14.2.2] 105, .blk 16 [.fn 41 [] [.ptr 6 0, .ptr 7 0]] 112, .blk 15 [.ref 5, vi now10] 105, .blk 14 [vi winder7] 3, .blk 13 [.ptr 0 0] 106, .inv 9 (marksI []), .pin 10 4 (env0 4), .pin 11 6 (env0 6), .pin 12 7 (env0 7), .inv 4 (mapI mk107 false en_p_round_search o6), .rob 0 [.ref 1, .ref 2, .ref 3, vi o4, vi o5, .ref 4] 109, .ro 1 5 (List.map en_api_RoundTower o1), .ro 2 1 (List.map en_Lint o2), .ro 3 4 (List.map en_api_RoundWinder o3), .ro 5 2 (List.map en_api_RoundTrip now9), .ro 8 2 (List.map en_api_RoundTrip yield12)]) [9, 10] [15, 16] (ts_call (avs := [.agg [.ref 5, vi now10]]) (take := [.blk 6 [.val (.bool yield11)] 4, .blk 7 [.ref 8, vi yield13] 105]) (need := [.ro 5 2 (List.map en_api_RoundTrip now9), .ro 8 2 (List.map en_api_RoundTrip yield12)]) (v := .tup []) (news := [.blk 6 [.val (.bool r14.1)] 4, .ro 17 2 (List.map en_api_RoundTrip r14.2.1), .blk 7 [.ref 17, vi r14.2.2] 105]) rfl rfl rfl Try.call41 (atT [(0, 5), (1, 6), (2, 7), (3, 8)] [(1, 6), (500, 17), (2, 7)] (ft_round_Fewest_1_v1 h2) rfl rfl rfl) rfl rfl) trivial rfl ⟨rfl, rfl, trivial⟩ ⟨rfl, rfl, trivial⟩ rfl rfl ?_
      refine TL.nil ?_
      cases h
      exact retM [(500, 17)] 7 9 [4, 6, 7] rfl (.nil) rfl ⟨mem_at 10 rfl, mem_at 0 rfl, mem_at 1 rfl, mem_at 2 rfl, trivial⟩ rfl rfl ⟨⟨_, mem_at 7 rfl⟩, ⟨_, mem_at 8 rfl⟩, ⟨_, mem_at 9 rfl⟩, trivial⟩ rfl
    · have h := cond_f h h1
      refine TC.skip ?_
      refine TC.seq ?_
      refine TC.seq ?_
      refine drawJ 7 [⟨vi winder7, [], [.blk 14 [vi winder7] 3], []⟩, ⟨.ptr 0 0, [], [.blk 13 [.ptr 0 0] 106], []⟩, ⟨.ptr 0 0, [], [.rob 0 [.ref 1, .ref 2, .ref 3, vi o4, vi o5, .ref 4] 109], []⟩, ⟨.ptr 0 0, [], [.rob 0 [.ref 1, .ref 2, .ref 3, vi o4, vi o5, .ref 4] 109], []⟩, ⟨.ptr 0 2, [], [.rob 0 [.ref 1, .ref 2, .ref 3, vi o4, vi o5, .ref 4] 109], []⟩, ⟨.ref 3, [], [.rob 0 [.ref 1, .ref 2, .ref 3, vi o4, vi o5, .ref 4] 109], []⟩, ⟨vi (o3.length : Int), [], [.ro 3 4 (List.map en_api_RoundWinder o3)], []⟩] rfl ?_ rfl ?_ rfl ?_ ?_
      · kernel_rfl
      · kernel_rfl
      · exact DAll.op' (sp_loadB rfl isBlk rfl vt3 rfl) trivial rfl (From.ok (ps := [(none, 2)]) ⟨⟨rfl, rfl⟩, trivial⟩) (DAll.op' (sp_loadB rfl isBlk rfl vt106 rfl) trivial rfl (From.ok (ps := [(none, 3)]) ⟨⟨rfl, rfl⟩, trivial⟩) (DAll.op' (sp_nilCheck rfl isRob rfl) trivial rfl (From.ok (ps := [(none, 11)]) ⟨⟨rfl, rfl⟩, trivial⟩) (DAll.op' (sp_fieldAddrB rfl isRob rfl ft109_0 vt26 (by decide)) trivial rfl (From.ok (ps := [(none, 11)]) ⟨⟨rfl, rfl⟩, trivial⟩) (DAll.op' (sp_fieldAddrB rfl isRob rfl ft26_2 vt24 (by decide)) trivial rfl (From.ok (ps := [(none, 11)]) ⟨⟨rfl, rfl⟩, trivial⟩) (DAll.op' (sp_loadB rfl isRob rfl vt24 rfl) trivial rfl (From.ok (ps := [(none, 11)]) ⟨⟨rfl, rfl⟩, trivial⟩) (DAll.op' (sp_lenM (N := o3.length) (len_map _ _) rfl rfl isRo Try.underlying24) trivial rfl (From.ok (ps := [(none, 14)]) ⟨⟨rfl, rfl⟩, trivial⟩) (.nil)))))))
      refine op0 (sp_eql rfl rfl rfl) rfl trivial rfl rfl ?_
      refine TL.nil ?_
      refine TC.cond (b := (winder7 == (o3.length : Int))) rfl (fun h3 => ?_) (fun h3 => ?_)
      · have h := cond_t h h3
        cases h
        exact retM [(500, 8)] 4 9 [4, 6, 7] rfl (.nil) rfl ⟨mem_at 7 rfl, mem_at 8 rfl, mem_at 15 rfl, mem_at 9 rfl, trivial⟩ rfl rfl ⟨⟨_, mem_at 4 rfl⟩, ⟨_, mem_at 5 rfl⟩, ⟨_, mem_at 6 rfl⟩, trivial⟩ rfl
      · have h := cond_f h h3
        refine TC.skip ?_
        refine TC.seq ?_
        refine TC.region ?_
        refine op0 (sp_move rfl rfl) rfl trivial rfl rfl ?_
        refine op0 (sp_makeFunc (fi := [.tmp 27]) (ca := []) (fa := [vi goal8]) (cb := []) rfl rfl rfl) rfl trivial rfl rfl ?_
        refine TL.nil ?_
        refine TC.block ?_
        refine TC.pin 19 13 rfl rfl fun u15 => ?_
        refine TC.pin 20 14 rfl rfl fun u17 => ?_
        refine TC.pin 21 15 rfl rfl fun u18 => ?_
        refine TC.pin 22 16 rfl rfl fun u19 => ?_
        obtain ⟨q32, h13, h⟩ := bind_inv h
        refine rangeO (T := []) (T' := []) (k := 18) (gm := 9) (grec := 23) (S := [(5, .ptr 13 0), (6, .ptr 14 0), (8, .ptr 15 0), (9, .ptr 16 0)]) (V0 := (fun y21 : Int × Int × (List ((Int × Int) × (((Int × (List Int) × Int × Bool))))) × Bool × Int × (List (Int × (List Int))) => [.pin 22 16 u19, .pin 21 15 u18, .pin 20 14 u17, .pin 19 13 u15, .blk 16 [.fn 41 [] [.ptr 6 0, .ptr 7 0]] 112, .blk 15 [.ref 5, vi y21.1] 105, .blk 14 [vi y21.2.1] 3, .blk 13 [.ptr 0 0] 106, .pin 10 4 (env0 4), .pin 11 6 (env0 6), .pin 12 7 (env0 7), .inv 4 (mapI mk107 false en_p_round_search y21.2.2.1), .blk 6 [.val (.bool y21.2.2.2.1)] 4, .blk 7 [.ref 8, vi y21.2.2.2.2.1] 105, .rob 0 [.ref 1, .ref 2, .ref 3, vi o4, vi o5, .ref 4] 109, .ro 1 5 (List.map en_api_RoundTower o1), .ro 2 1 (List.map en_Lint o2), .ro 3 4 (List.map en_api_RoundWinder o3), .ro 5 2 (List.map en_api_RoundTrip now9), .ro 8 2 (List.map en_api_RoundTrip y21.2.2.2.2.2)])) (needI := []) (ps := [29, 30]) (jl := []) (ea := ye_funcround_set_round_set_bool) (en := yn_funcround_set_round_set_bool) (f := (ev_p_round_office_shares_r0 n o1 o2 o3 o4 o5 now9 (ev_p_round_office_shares n))) (s0 := ((now10, winder7, o6, yield11, yield13, yield12), 0)) (yf := q32) (v := .tup []) (fi := [vi goal8]) (caps := [])
          ⟨fun x y r hr l rec hrd w0 M0 R0 => ok_p_round_office_shares_r0 (u19 := u19) (u18 := u18) (u17 := u17) (u15 := u15) ih hr l rec hrd w0 M0 R0, ⟨rfl, rfl, rfl, rfl, trivial⟩, At.mem (is := [0, 1, 2, 3, 4, 5, 6, 7, 9, 10, 11, 12, 13, 14, 15, 16, 17, 18, 19, 20]) ⟨rfl, rfl, rfl, rfl, rfl, rfl, rfl, rfl, rfl, rfl, rfl, rfl, rfl, rfl, rfl, rfl, rfl, rfl, rfl, rfl, trivial⟩, At.mem (is := []) trivial, rfl, pinsIn [13, 14, 15, 16] [3, 2, 1, 0] ⟨⟨_, _, fun _ => rfl⟩, ⟨_, _, fun _ => rfl⟩, ⟨_, _, fun _ => rfl⟩, ⟨_, _, fun _ => rfl⟩, trivial⟩ rfl, rfl, fun _ => rfl, fun _ _ => rfl, fun _ => rfl, fun _ _ => rfl, fun _ => rfl, fun _ => rfl, fun _ => rfl, rfl, rfl, fun _ => rfl, rfl⟩
          rfl rfl Try.call63 (takesNil rfl) 8 rfl (fun I hI => atT [(0, 18)] [(0, 18)] (ft_round_set_parts hI h13) rfl rfl rfl) (fun d => ?_)
        rcases cond_cases h with ⟨h14, h⟩ | ⟨h14, h⟩
        · refine done0 h14 ?_
          refine TC.inBlock ?_
          cases h
          exact endM [(500, 8)] 0 9 [4, 6, 7] rfl (.nil) rfl ⟨mem_at 11 rfl, mem_at 12 rfl, mem_at 19 rfl, mem_at 13 rfl, trivial⟩ rfl rfl ⟨⟨_, mem_at 8 rfl⟩, ⟨_, mem_at 9 rfl⟩, ⟨_, mem_at 10 rfl⟩, trivial⟩ rfl
        · exact none_no h
theorem ft_p_round_office_shares {n : Nat} {o1 : List (Int × Int × Int × Int × Int)} {o2 : List ((List Int))} {o3 : List (Int × Int × Int × Int)} {o4 : Int} {o5 : Int} {o6 : List ((Int × Int) × (((Int × (List Int) × Int × Bool))))} {winder7 : Int} {goal8 : Int} {now9 : List (Int × (List Int))} {now10 : Int} {yield11 : Bool} {yield12 : List (Int × (List Int))} {yield13 : Int} {r : (List ((Int × Int) × (((Int × (List Int) × Int × Bool))))) × Bool × (List (Int × (List Int))) × Int} (h : ev_p_round_office_shares n o1 o2 o3 o4 o5 o6 winder7 goal8 now9 now10 yield11 yield12 yield13 = some r) : FT Try.prog 40 [.ptr 0 0, vi winder7, vi goal8, .agg [.ref 5, vi now10], .fn 41 [] [.ptr 6 0, .ptr 7 0]] [.inv 4 (mapI mk107 false en_p_round_search o6), .blk 6 [.val (.bool yield11)] 4, .blk 7 [.ref 8, vi yield13] 105] [.rob 0 [.ref 1, .ref 2, .ref 3, vi o4, vi o5, .ref 4] 109, .ro 1 5 (List.map en_api_RoundTower o1), .ro 2 1 (List.map en_Lint o2), .ro 3 4 (List.map en_api_RoundWinder o3), .ro 5 2 (List.map en_api_RoundTrip now9), .ro 8 2 (List.map en_api_RoundTrip yield12)] (.tup []) [.inv 4 (mapI mk107 false en_p_round_search r.1), .blk 6 [.val (.bool r.2.1)] 4, .ro 500 2 (List.map en_api_RoundTrip r.2.2.1), .blk 7 [.ref 500, vi r.2.2.2] 105] := fcr_p_round_office_shares n o1 o2 o3 o4 o5 o6 winder7 goal8 now9 now10 yield11 yield12 yield13 r h
end
end Go.Proofs.Ytohjpfkcahlfkaa.Sy
