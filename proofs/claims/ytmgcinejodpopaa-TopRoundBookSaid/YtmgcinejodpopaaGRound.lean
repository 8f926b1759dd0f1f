/- What functions of the program compute, and that they do: printed by symgen.py. -/
import Derived.Test.YtmgcinejodpopaaGLib
import Derived.Test.YtmgcinejodpopaaGRoundA
set_option linter.unusedSimpArgs false
set_option linter.unusedVariables false
namespace Go.Proofs.Ytmgcinejodpopaa.Sy
open Go.RowKit
noncomputable section

/- p_round_walker_home -/
def ev_p_round_walker_home (n : Nat) (w1 : List (Int × Int × Int × Int × Int)) (w2 : List ((List Int))) (w3 : List (Int × Int × Int × Int)) (w4 : Int) (w5 : Int) (w6 : Int) (w7 : Int) (w8 : Int) (w9 : Int) (w10 : Int) (w11 : Int) (w12 : Int) (w13 : Int) (w14 : Int) : Option (Int × (List (Int × Int × Int × Int × Int)) × (List ((List Int))) × (List (Int × Int × Int × Int)) × Int × Int × Int × Int × Int × Int × Int × Int × Int × Int × Int) :=
  idx w2 w10 fun x15 => (ev_round_works n w1 w2 w3 w4 w5).bind fun r16 => idx x15 r16 fun x17 => (ev_p_round_walker_work n w1 w2 w3 w4 w5 w6 w7 w8 w9 w10 w11 w12 w13 w14 x17).bind fun r18 => some (r18.1, r18.2.1, r18.2.2.1, r18.2.2.2.1, r18.2.2.2.2.1, r18.2.2.2.2.2.1, r18.2.2.2.2.2.2.1, r18.2.2.2.2.2.2.2.1, r18.2.2.2.2.2.2.2.2.1, r18.2.2.2.2.2.2.2.2.2.1, r18.2.2.2.2.2.2.2.2.2.2.1, r18.2.2.2.2.2.2.2.2.2.2.2.1, r18.2.2.2.2.2.2.2.2.2.2.2.2.1, r18.2.2.2.2.2.2.2.2.2.2.2.2.2.1, r18.2.2.2.2.2.2.2.2.2.2.2.2.2.2)
set_option maxRecDepth 100000 in
set_option maxHeartbeats 2000000 in
theorem ft_p_round_walker_home {n : Nat} {w1 : List (Int × Int × Int × Int × Int)} {w2 : List ((List Int))} {w3 : List (Int × Int × Int × Int)} {w4 : Int} {w5 : Int} {w6 : Int} {w7 : Int} {w8 : Int} {w9 : Int} {w10 : Int} {w11 : Int} {w12 : Int} {w13 : Int} {w14 : Int} {r : Int × (List (Int × Int × Int × Int × Int)) × (List ((List Int))) × (List (Int × Int × Int × Int)) × Int × Int × Int × Int × Int × Int × Int × Int × Int × Int × Int} (h : ev_p_round_walker_home n w1 w2 w3 w4 w5 w6 w7 w8 w9 w10 w11 w12 w13 w14 = some r) : FT Try.prog 93 [.ptr 0 0] [.blk 0 [.ref 1, .ref 2, .ref 3, .val (.int .i64 w4), .val (.int .i64 w5), .val (.int .u16 w6), .val (.int .i64 w7), .val (.int .i64 w8), .val (.int .i64 w9), .val (.int .i64 w10), .val (.int .i64 w11), .val (.int .i64 w12), .val (.int .i64 w13), .val (.int .i64 w14)] 215] [.ro 1 5 (List.map en_api_RoundTower w1), .ro 2 1 (List.map en_Lint w2), .ro 3 4 (List.map en_api_RoundWinder w3)] (.val (.int .i64 r.1)) [.ro 500 5 (List.map en_api_RoundTower r.2.1), .ro 501 1 (List.map en_Lint r.2.2.1), .ro 502 4 (List.map en_api_RoundWinder r.2.2.2.1), .blk 0 [.ref 500, .ref 501, .ref 502, .val (.int .i64 r.2.2.2.2.1), .val (.int .i64 r.2.2.2.2.2.1), .val (.int .u16 r.2.2.2.2.2.2.1), .val (.int .i64 r.2.2.2.2.2.2.2.1), .val (.int .i64 r.2.2.2.2.2.2.2.2.1), .val (.int .i64 r.2.2.2.2.2.2.2.2.2.1), .val (.int .i64 r.2.2.2.2.2.2.2.2.2.2.1), .val (.int .i64 r.2.2.2.2.2.2.2.2.2.2.2.1), .val (.int .i64 r.2.2.2.2.2.2.2.2.2.2.2.2.1), .val (.int .i64 r.2.2.2.2.2.2.2.2.2.2.2.2.2.1), .val (.int .i64 r.2.2.2.2.2.2.2.2.2.2.2.2.2.2)] 215] := by
  refine introM (nz := 23) 4 [(5, 0)] Try.func93 rfl rfl rfl rfl (fun w0 M0 R0 env0 => ?_)
  rw [ev_p_round_walker_home] at h
  refine TC.seq ?_
  refine TC.region ?_
  refine op0 (sp_assign rfl rfl) rfl trivial rfl rfl ?_
  refine TL.nil ?_
  refine TC.seq ?_
  obtain ⟨x15, h1, h2, h⟩ := idx_inv h
  obtain ⟨r16, h3, h⟩ := bind_inv h
  obtain ⟨x17, h4, h5, h⟩ := idx_inv h
  refine drawJ 19 [⟨.ptr 0 0, [], [], []⟩, ⟨.ptr 0 0, [], [], []⟩, ⟨.ptr 0 0, [], [.blk 0 [.ref 1, .ref 2, .ref 3, .val (.int .i64 w4), .val (.int .i64 w5), .val (.int .u16 w6), .val (.int .i64 w7), .val (.int .i64 w8), .val (.int .i64 w9), .val (.int .i64 w10), .val (.int .i64 w11), .val (.int .i64 w12), .val (.int .i64 w13), .val (.int .i64 w14)] 215], []⟩, ⟨.ptr 0 0, [], [.blk 0 [.ref 1, .ref 2, .ref 3, .val (.int .i64 w4), .val (.int .i64 w5), .val (.int .u16 w6), .val (.int .i64 w7), .val (.int .i64 w8), .val (.int .i64 w9), .val (.int .i64 w10), .val (.int .i64 w11), .val (.int .i64 w12), .val (.int .i64 w13), .val (.int .i64 w14)] 215], []⟩, ⟨.ptr 0 1, [], [.blk 0 [.ref 1, .ref 2, .ref 3, .val (.int .i64 w4), .val (.int .i64 w5), .val (.int .u16 w6), .val (.int .i64 w7), .val (.int .i64 w8), .val (.int .i64 w9), .val (.int .i64 w10), .val (.int .i64 w11), .val (.int .i64 w12), .val (.int .i64 w13), .val (.int .i64 w14)] 215], []⟩, ⟨.ref 2, [], [.blk 0 [.ref 1, .ref 2, .ref 3, .val (.int .i64 w4), .val (.int .i64 w5), .val (.int .u16 w6), .val (.int .i64 w7), .val (.int .i64 w8), .val (.int .i64 w9), .val (.int .i64 w10), .val (.int .i64 w11), .val (.int .i64 w12), .val (.int .i64 w13), .val (.int .i64 w14)] 215], []⟩, ⟨.ptr 0 0, [], [], []⟩, ⟨.ptr 0 0, [], [.blk 0 [.ref 1, .ref 2, .ref 3, .val (.int .i64 w4), .val (.int .i64 w5), .val (.int .u16 w6), .val (.int .i64 w7), .val (.int .i64 w8), .val (.int .i64 w9), .val (.int .i64 w10), .val (.int .i64 w11), .val (.int .i64 w12), .val (.int .i64 w13), .val (.int .i64 w14)] 215], []⟩, ⟨.ptr 0 9, [], [.blk 0 [.ref 1, .ref 2, .ref 3, .val (.int .i64 w4), .val (.int .i64 w5), .val (.int .u16 w6), .val (.int .i64 w7), .val (.int .i64 w8), .val (.int .i64 w9), .val (.int .i64 w10), .val (.int .i64 w11), .val (.int .i64 w12), .val (.int .i64 w13), .val (.int .i64 w14)] 215], []⟩, ⟨.val (.int .i64 w10), [], [.blk 0 [.ref 1, .ref 2, .ref 3, .val (.int .i64 w4), .val (.int .i64 w5), .val (.int .u16 w6), .val (.int .i64 w7), .val (.int .i64 w8), .val (.int .i64 w9), .val (.int .i64 w10), .val (.int .i64 w11), .val (.int .i64 w12), .val (.int .i64 w13), .val (.int .i64 w14)] 215], []⟩, ⟨.cell 2 ((w10 : Int).toNat * 1), [], [.ro 2 1 (List.map en_Lint w2)], []⟩, ⟨.ref 6, [.ro 6 1 (List.map en_int x15)], [.ro 2 1 (List.map en_Lint w2)], []⟩, ⟨.ptr 0 0, [], [], []⟩, ⟨.ptr 0 0, [], [.blk 0 [.ref 1, .ref 2, .ref 3, .val (.int .i64 w4), .val (.int .i64 w5), .val (.int .u16 w6), .val (.int .i64 w7), .val (.int .i64 w8), .val (.int .i64 w9), .val (.int .i64 w10), .val (.int .i64 w11), .val (.int .i64 w12), .val (.int .i64 w13), .val (.int .i64 w14)] 215], []⟩, ⟨.ptr 0 0, [], [.blk 0 [.ref 1, .ref 2, .ref 3, .val (.int .i64 w4), .val (.int .i64 w5), .val (.int .u16 w6), .val (.int .i64 w7), .val (.int .i64 w8), .val (.int .i64 w9), .val (.int .i64 w10), .val (.int .i64 w11), .val (.int .i64 w12), .val (.int .i64 w13), .val (.int .i64 w14)] 215], []⟩, ⟨.agg [.ref 1, .ref 2, .ref 3, .val (.int .i64 w4), .val (.int .i64 w5)], [], [.blk 0 [.ref 1, .ref 2, .ref 3, .val (.int .i64 w4), .val (.int .i64 w5), .val (.int .u16 w6), .val (.int .i64 w7), .val (.int .i64 w8), .val (.int .i64 w9), .val (.int .i64 w10), .val (.int .i64 w11), .val (.int .i64 w12), .val (.int .i64 w13), .val (.int .i64 w14)] 215], []⟩, ⟨.val (.int .i64 r16), [], [.ro 1 5 (List.map en_api_RoundTower w1), .ro 2 1 (List.map en_Lint w2), .ro 3 4 (List.map en_api_RoundWinder w3)], []⟩, ⟨.cell 6 ((r16 : Int).toNat * 1), [], [.ro 6 1 (List.map en_int x15)], []⟩, ⟨.val (.int .i64 x17), [], [.ro 6 1 (List.map en_int x15)], []⟩] rfl ?_ rfl ?_ rfl ?_ ?_
  · kernel_rfl
  · kernel_rfl
  · exact DAll.op' (sp_move rfl rfl) trivial rfl (From.ok (ps := []) trivial) (DAll.op' (sp_move rfl rfl) trivial rfl (From.ok (ps := []) trivial) (DAll.op' (sp_nilCheck rfl isBlk rfl) trivial rfl (From.ok (ps := [(none, 2)]) ⟨⟨rfl, by kernel_rfl⟩, trivial⟩) (DAll.op' (sp_fieldAddrB rfl isBlk rfl ft215_0 vt74 (by decide)) trivial rfl (From.ok (ps := [(none, 2)]) ⟨⟨rfl, by kernel_rfl⟩, trivial⟩) (DAll.op' (sp_fieldAddrB rfl isBlk rfl ft74_1 vt71 (by decide)) trivial rfl (From.ok (ps := [(none, 2)]) ⟨⟨rfl, by kernel_rfl⟩, trivial⟩) (DAll.op' (sp_loadB rfl isBlk rfl vt71 rfl) trivial rfl (From.ok (ps := [(none, 2)]) ⟨⟨rfl, by kernel_rfl⟩, trivial⟩) (DAll.op' (sp_move rfl rfl) trivial rfl (From.ok (ps := []) trivial) (DAll.op' (sp_nilCheck rfl isBlk rfl) trivial rfl (From.ok (ps := [(none, 2)]) ⟨⟨rfl, by kernel_rfl⟩, trivial⟩) (DAll.op' (sp_fieldAddrB rfl isBlk rfl ft215_2 vt3 (by decide)) trivial rfl (From.ok (ps := [(none, 2)]) ⟨⟨rfl, by kernel_rfl⟩, trivial⟩) (DAll.op' (sp_loadB rfl isBlk rfl vt3 rfl) trivial rfl (From.ok (ps := [(none, 2)]) ⟨⟨rfl, by kernel_rfl⟩, trivial⟩) (DAll.op' (sp_indexS rfl rfl rfl isRo sl71 h1 (map_get _ h2)) trivial rfl (From.ok (ps := [(none, 4)]) ⟨⟨rfl, by kernel_rfl⟩, trivial⟩) (DAll.op' (sp_loadR (i := (w10 : Int).toNat) (j := 0) (ns := [.ro 6 1 (List.map en_int x15)]) rfl rfl isRo vt37 rfl (map_get _ h2) rfl (.s (.nil)) (nodup_of_B rfl)) trivial rfl (From.ok (ps := [(none, 4)]) ⟨⟨rfl, by kernel_rfl⟩, trivial⟩) (DAll.op' (sp_move rfl rfl) trivial rfl (From.ok (ps := []) trivial) (DAll.op' (sp_nilCheck rfl isBlk rfl) trivial rfl (From.ok (ps := [(none, 2)]) ⟨⟨rfl, by kernel_rfl⟩, trivial⟩) (DAll.op' (sp_fieldAddrB rfl isBlk rfl ft215_0 vt74 (by decide)) trivial rfl (From.ok (ps := [(none, 2)]) ⟨⟨rfl, by kernel_rfl⟩, trivial⟩) (DAll.op' (sp_loadBA rfl isBlk rfl vt74 rfl rfl) trivial rfl (From.ok (ps := [(none, 2)]) ⟨⟨rfl, by kernel_rfl⟩, trivial⟩) (DAll.op' (sp_call (avs := [.agg [.ref 1, .ref 2, .ref 3, .val (.int .i64 w4), .val (.int .i64 w5)]]) (need := [.ro 1 5 (List.map en_api_RoundTower w1), .ro 2 1 (List.map en_Lint w2), .ro 3 4 (List.map en_api_RoundWinder w3)]) (v := .val (.int .i64 r16)) (news := []) rfl rfl rfl Try.call163 (atJ [(0, 1), (1, 2), (2, 3)] [] (fc_round_works h3) rfl rfl) (.inl (roAll rfl))) trivial rfl (From.ok (ps := [(none, 3), (none, 4), (none, 5)]) ⟨⟨rfl, by kernel_rfl⟩, ⟨rfl, by kernel_rfl⟩, ⟨rfl, by kernel_rfl⟩, trivial⟩) (DAll.op' (sp_indexS rfl rfl rfl isRo sl37 h4 (map_get _ h5)) trivial rfl (From.ok (ps := [(some 11, 0)]) ⟨⟨_, rfl, by kernel_rfl, rfl, by kernel_rfl⟩, trivial⟩) (DAll.op' (sp_loadR (i := (r16 : Int).toNat) (j := 0) rfl rfl isRo vt3 rfl (map_get _ h5) rfl (.v (.nil)) (nodup_of_B rfl)) trivial rfl (From.ok (ps := [(some 11, 0)]) ⟨⟨_, rfl, by kernel_rfl, rfl, by kernel_rfl⟩, trivial⟩) (.nil)))))))))))))))))))
  obtain ⟨r18, h6, h⟩ := bind_inv h
  refine opT (take := [.blk 0 [.ref 1, .ref 2, .ref 3, .val (.int .i64 w4), .val (.int .i64 w5), .val (.int .u16 w6), .val (.int .i64 w7), .val (.int .i64 w8), .val (.int .i64 w9), .val (.int .i64 w10), .val (.int .i64 w11), .val (.int .i64 w12), .val (.int .i64 w13), .val (.int .i64 w14)] 215]) (need := [.ro 1 5 (List.map en_api_RoundTower w1), .ro 2 1 (List.map en_Lint w2), .ro 3 4 (List.map en_api_RoundWinder w3)]) (V' := [.ro 7 5 (List.map en_api_RoundTower r18.2.1), .ro 8 1 (List.map en_Lint r18.2.2.1), .ro 9 4 (List.map en_api_RoundWinder r18.2.2.2.1), .blk 0 [.ref 7, .ref 8, .ref 9, .val (.int .i64 r18.2.2.2.2.1), .val (.int .i64 r18.2.2.2.2.2.1), .val (.int .u16 r18.2.2.2.2.2.2.1), .val (.int .i64 r18.2.2.2.2.2.2.2.1), .val (.int .i64 r18.2.2.2.2.2.2.2.2.1), .val (.int .i64 r18.2.2.2.2.2.2.2.2.2.1), .val (.int .i64 r18.2.2.2.2.2.2.2.2.2.2.1), .val (.int .i64 r18.2.2.2.2.2.2.2.2.2.2.2.1), .val (.int .i64 r18.2.2.2.2.2.2.2.2.2.2.2.2.1), .val (.int .i64 r18.2.2.2.2.2.2.2.2.2.2.2.2.2.1), .val (.int .i64 r18.2.2.2.2.2.2.2.2.2.2.2.2.2.2)] 215, .ro 6 1 (List.map en_int x15), .inv 4 (marksI []), .pin 5 0 (env0 0), .ro 1 5 (List.map en_api_RoundTower w1), .ro 2 1 (List.map en_Lint w2), .ro 3 4 (List.map en_api_RoundWinder w3)]) [3] [4, 5, 6] (ts_call (avs := [.ptr 0 0, .val (.int .i64 x17)]) (take := [.blk 0 [.ref 1, .ref 2, .ref 3, .val (.int .i64 w4), .val (.int .i64 w5), .val (.int .u16 w6), .val (.int .i64 w7), .val (.int .i64 w8), .val (.int .i64 w9), .val (.int .i64 w10), .val (.int .i64 w11), .val (.int .i64 w12), .val (.int .i64 w13), .val (.int .i64 w14)] 215]) (need := [.ro 1 5 (List.map en_api_RoundTower w1), .ro 2 1 (List.map en_Lint w2), .ro 3 4 (List.map en_api_RoundWinder w3)]) (v := .val (.int .i64 r18.1)) (news := [.ro 7 5 (List.map en_api_RoundTower r18.2.1), .ro 8 1 (List.map en_Lint r18.2.2.1), .ro 9 4 (List.map en_api_RoundWinder r18.2.2.2.1), .blk 0 [.ref 7, .ref 8, .ref 9, .val (.int .i64 r18.2.2.2.2.1), .val (.int .i64 r18.2.2.2.2.2.1), .val (.int .u16 r18.2.2.2.2.2.2.1), .val (.int .i64 r18.2.2.2.2.2.2.2.1), .val (.int .i64 r18.2.2.2.2.2.2.2.2.1), .val (.int .i64 r18.2.2.2.2.2.2.2.2.2.1), .val (.int .i64 r18.2.2.2.2.2.2.2.2.2.2.1), .val (.int .i64 r18.2.2.2.2.2.2.2.2.2.2.2.1), .val (.int .i64 r18.2.2.2.2.2.2.2.2.2.2.2.2.1), .val (.int .i64 r18.2.2.2.2.2.2.2.2.2.2.2.2.2.1), .val (.int .i64 r18.2.2.2.2.2.2.2.2.2.2.2.2.2.2)] 215]) rfl rfl rfl Try.call166 (atT [] [(500, 7), (501, 8), (502, 9)] (ft_p_round_walker_work h6) rfl rfl rfl) rfl rfl) trivial rfl ⟨rfl, trivial⟩ ⟨rfl, rfl, rfl, trivial⟩ rfl rfl ?_
  refine op0 (sp_assign rfl rfl) rfl trivial rfl rfl ?_
  refine TL.nil ?_
  cases h
  exact retM [(500, 7), (501, 8), (502, 9)] 5 4 [0] rfl (.tmp rfl .nil) rfl ⟨mem_at 0 rfl, mem_at 1 rfl, mem_at 2 rfl, mem_at 3 rfl, trivial⟩ rfl rfl ⟨⟨_, mem_at 5 rfl⟩, trivial⟩ rfl
/- round_Walk -/
def ev_round_Walk_l0 (n : Nat) (t7 : List Int) : Nat → Int → Int → Int → Int → Int → Int → Int → Int → Int → Int → Int → Int → Int → Int → Int → (List Int) → (List (Int × Int × Int × Int × Int)) → (List ((List Int))) → (List (Int × Int × Int × Int)) → (List (Int × Int × Int × Int × Int)) → (List ((List Int))) → (List (Int × Int × Int × Int)) → Option (Int × Int × Int × Int)
  | 0, _, _, _, _, _, _, _, _, _, _, _, _, _, _, _, _, _, _, _, _, _, _ => none
  | m + 1, i11, i12, i13, i14, i15, i17, i18, i19, i20, i21, i22, i23, i24, i25, i26, l27, l28, l29, l30, l31, l32, l33 => cond (decide (i11 < (t7.length : Int))) (idx l27 i11 fun x34 => (ev_p_round_walker_step n l31 l32 l33 i15 i17 i18 i19 i20 i21 i22 i23 i24 i25 i26 x34).bind fun r35 => cond (r35.1 != 0) (some (0, 0, i11, r35.1)) (chk (in64 (i11 + 1)) <| ev_round_Walk_l0 n t7 m (i11 + 1) i12 i13 i14 r35.2.2.2.2.1 r35.2.2.2.2.2.1 r35.2.2.2.2.2.2.1 r35.2.2.2.2.2.2.2.1 r35.2.2.2.2.2.2.2.2.1 r35.2.2.2.2.2.2.2.2.2.1 r35.2.2.2.2.2.2.2.2.2.2.1 r35.2.2.2.2.2.2.2.2.2.2.2.1 r35.2.2.2.2.2.2.2.2.2.2.2.2.1 r35.2.2.2.2.2.2.2.2.2.2.2.2.2.1 r35.2.2.2.2.2.2.2.2.2.2.2.2.2.2 l27 l28 l29 l30 r35.2.1 r35.2.2.1 r35.2.2.2.1)) ((ev_p_round_walker_home n l31 l32 l33 i15 i17 i18 i19 i20 i21 i22 i23 i24 i25 i26).bind fun r36 => cond (r36.1 != 0) (some (0, 0, (l27.length : Int), r36.1)) (chk (in64 (r36.2.2.2.2.2.2.2.2.2.2.2.2.2.2 * i13)) <| some (r36.2.2.2.2.2.2.2.2.2.2.2.2.2.2, (r36.2.2.2.2.2.2.2.2.2.2.2.2.2.2 * i13), 0, 0)))
set_option maxRecDepth 100000 in
set_option maxHeartbeats 2000000 in
theorem ok_round_Walk_l0 {n : Nat} {w0 : World} {R0 : Nat → Prop} {env0 : Env} {r : Int × Int × Int × Int} {t7 : List Int} : ∀ (m : Nat) (i11 : Int) (i12 : Int) (i13 : Int) (i14 : Int) (i15 : Int) (i17 : Int) (i18 : Int) (i19 : Int) (i20 : Int) (i21 : Int) (i22 : Int) (i23 : Int) (i24 : Int) (i25 : Int) (i26 : Int) (l27 : List Int) (l28 : List (Int × Int × Int × Int × Int)) (l29 : List ((List Int))) (l30 : List (Int × Int × Int × Int)) (l31 : List (Int × Int × Int × Int × Int)) (l32 : List ((List Int))) (l33 : List (Int × Int × Int × Int)), ev_round_Walk_l0 n t7 m i11 i12 i13 i14 i15 i17 i18 i19 i20 i21 i22 i23 i24 i25 i26 l27 l28 l29 l30 l31 l32 l33 = some r → TC Try.prog ⟨w0, fun _ => False, R0⟩ 64 (bodyPost Try.prog Try.f27 (Post ⟨w0, fun _ => False, R0⟩ env0 (.tup [.val (.int .i64 r.1), .val (.int .i64 r.2.1), .val (.int .i64 r.2.2.1), .val (.int .i64 r.2.2.2)]) [])) [.code (sub (bodyOf Try.f27) [1, 1, 1, 0, 1, 0, 0, 0]), .code (sub (bodyOf Try.f27) [1, 1, 1, 0, 1, 0, 0, 1]), .inLoop (sub (bodyOf Try.f27) [1, 1, 1, 0, 1, 0, 0]), .inBlock 1, .code (sub (bodyOf Try.f27) [1, 1, 1, 1])] ([(2, .ptr 4 0), (3, .ptr 5 0), (9, .ptr 9 0), (36, .ref 3), (37, .val (.int .i64 (t7.length : Int))), (38, .val (.int .i64 i11))]) ([.blk 4 [.ref 0, .ref 1, .ref 2, .val (.int .i64 i12), .val (.int .i64 i13)] 74, .blk 5 [.val (.int .i64 i14), .ref 3] 79, .blk 9 [.ref 6, .ref 7, .ref 8, .val (.int .i64 i15), .val (.int .i64 i17), .val (.int .u16 i18), .val (.int .i64 i19), .val (.int .i64 i20), .val (.int .i64 i21), .val (.int .i64 i22), .val (.int .i64 i23), .val (.int .i64 i24), .val (.int .i64 i25), .val (.int .i64 i26)] 215, .ro 3 1 (List.map en_int l27), .ro 0 5 (List.map en_api_RoundTower l28), .ro 1 1 (List.map en_Lint l29), .ro 2 4 (List.map en_api_RoundWinder l30), .ro 6 5 (List.map en_api_RoundTower l31), .ro 7 1 (List.map en_Lint l32), .ro 8 4 (List.map en_api_RoundWinder l33)]) := by
  intro m
  induction m with
  | zero => intro i11 i12 i13 i14 i15 i17 i18 i19 i20 i21 i22 i23 i24 i25 i26 l27 l28 l29 l30 l31 l32 l33 h; exact none_no h
  | succ m ih =>
    intro i11 i12 i13 i14 i15 i17 i18 i19 i20 i21 i22 i23 i24 i25 i26 l27 l28 l29 l30 l31 l32 l33 h
    rw [ev_round_Walk_l0] at h
    refine TC.region ?_
    refine op0 (sp_lss rfl rfl rfl) rfl trivial rfl rfl ?_
    refine TL.nil ?_
    refine TC.seq ?_
    refine TC.cond (b := (decide (i11 < (t7.length : Int)))) rfl (fun h7 => ?_) (fun h7 => ?_)
    · have h := cond_t h h7
      refine TC.skip ?_
      refine TC.seq ?_
      refine TC.block ?_
      refine TC.seq ?_
      refine TC.region ?_
      refine op0 (sp_move rfl rfl) rfl trivial rfl rfl ?_
      obtain ⟨x34, h8, h9, h⟩ := idx_inv h
      refine op1 3 rfl (sp_indexS rfl rfl rfl isRo sl37 h8 (map_get _ h9)) rfl trivial rfl rfl ?_
      refine op1 3 rfl (sp_loadR (i := (i11 : Int).toNat) (j := 0) rfl rfl isRo vt3 rfl (map_get _ h9) rfl (.v (.nil)) (nodup_of_B rfl)) rfl trivial rfl rfl ?_
      refine op0 (sp_assign rfl rfl) rfl trivial rfl rfl ?_
      refine op0 (sp_assign rfl rfl) rfl trivial rfl rfl ?_
      refine TL.nil ?_
      refine TC.seq ?_
      refine TC.region ?_
      refine op0 (sp_move rfl rfl) rfl trivial rfl rfl ?_
      obtain ⟨r35, h10, h⟩ := bind_inv h
      refine opT (take := [.blk 9 [.ref 6, .ref 7, .ref 8, .val (.int .i64 i15), .val (.int .i64 i17), .val (.int .u16 i18), .val (.int .i64 i19), .val (.int .i64 i20), .val (.int .i64 i21), .val (.int .i64 i22), .val (.int .i64 i23), .val (.int .i64 i24), .val (.int .i64 i25), .val (.int .i64 i26)] 215]) (need := [.ro 6 5 (List.map en_api_RoundTower l31), .ro 7 1 (List.map en_Lint l32), .ro 8 4 (List.map en_api_RoundWinder l33)]) (V' := [.ro 10 5 (List.map en_api_RoundTower r35.2.1), .ro 11 1 (List.map en_Lint r35.2.2.1), .ro 12 4 (List.map en_api_RoundWinder r35.2.2.2.1), .blk 9 [.ref 10, .ref 11, .ref 12, .val (.int .i64 r35.2.2.2.2.1), .val (.int .i64 r35.2.2.2.2.2.1), .val (.int .u16 r35.2.2.2.2.2.2.1), .val (.int .i64 r35.2.2.2.2.2.2.2.1), .val (.int .i64 r35.2.2.2.2.2.2.2.2.1), .val (.int .i64 r35.2.2.2.2.2.2.2.2.2.1), .val (.int .i64 r35.2.2.2.2.2.2.2.2.2.2.1), .val (.int .i64 r35.2.2.2.2.2.2.2.2.2.2.2.1), .val (.int .i64 r35.2.2.2.2.2.2.2.2.2.2.2.2.1), .val (.int .i64 r35.2.2.2.2.2.2.2.2.2.2.2.2.2.1), .val (.int .i64 r35.2.2.2.2.2.2.2.2.2.2.2.2.2.2)] 215, .blk 4 [.ref 0, .ref 1, .ref 2, .val (.int .i64 i12), .val (.int .i64 i13)] 74, .blk 5 [.val (.int .i64 i14), .ref 3] 79, .ro 3 1 (List.map en_int l27), .ro 0 5 (List.map en_api_RoundTower l28), .ro 1 1 (List.map en_Lint l29), .ro 2 4 (List.map en_api_RoundWinder l30), .ro 6 5 (List.map en_api_RoundTower l31), .ro 7 1 (List.map en_Lint l32), .ro 8 4 (List.map en_api_RoundWinder l33)]) [2] [7, 8, 9] (ts_call (avs := [.ptr 9 0, .val (.int .i64 x34)]) (take := [.blk 9 [.ref 6, .ref 7, .ref 8, .val (.int .i64 i15), .val (.int .i64 i17), .val (.int .u16 i18), .val (.int .i64 i19), .val (.int .i64 i20), .val (.int .i64 i21), .val (.int .i64 i22), .val (.int .i64 i23), .val (.int .i64 i24), .val (.int .i64 i25), .val (.int .i64 i26)] 215]) (need := [.ro 6 5 (List.map en_api_RoundTower l31), .ro 7 1 (List.map en_Lint l32), .ro 8 4 (List.map en_api_RoundWinder l33)]) (v := .val (.int .i64 r35.1)) (news := [.ro 10 5 (List.map en_api_RoundTower r35.2.1), .ro 11 1 (List.map en_Lint r35.2.2.1), .ro 12 4 (List.map en_api_RoundWinder r35.2.2.2.1), .blk 9 [.ref 10, .ref 11, .ref 12, .val (.int .i64 r35.2.2.2.2.1), .val (.int .i64 r35.2.2.2.2.2.1), .val (.int .u16 r35.2.2.2.2.2.2.1), .val (.int .i64 r35.2.2.2.2.2.2.2.1), .val (.int .i64 r35.2.2.2.2.2.2.2.2.1), .val (.int .i64 r35.2.2.2.2.2.2.2.2.2.1), .val (.int .i64 r35.2.2.2.2.2.2.2.2.2.2.1), .val (.int .i64 r35.2.2.2.2.2.2.2.2.2.2.2.1), .val (.int .i64 r35.2.2.2.2.2.2.2.2.2.2.2.2.1), .val (.int .i64 r35.2.2.2.2.2.2.2.2.2.2.2.2.2.1), .val (.int .i64 r35.2.2.2.2.2.2.2.2.2.2.2.2.2.2)] 215]) rfl rfl rfl Try.call92 (atT [(0, 9), (1, 6), (2, 7), (3, 8)] [(500, 10), (501, 11), (502, 12), (0, 9)] (ft_p_round_walker_step h10) rfl rfl rfl) rfl rfl) trivial rfl ⟨rfl, trivial⟩ ⟨rfl, rfl, rfl, trivial⟩ rfl rfl ?_
      refine op0 (sp_assign rfl rfl) rfl trivial rfl rfl ?_
      refine TL.nil ?_
      refine TC.seq ?_
      refine TC.region ?_
      refine op0 (sp_move rfl rfl) rfl trivial rfl rfl ?_
      refine op0 (sp_neq rfl rfl rfl) rfl trivial rfl rfl ?_
      refine TL.nil ?_
      refine TC.cond (b := (r35.1 != 0)) rfl (fun h11 => ?_) (fun h11 => ?_)
      · have h := cond_t h h11
        refine TC.seq ?_
        refine TC.region ?_
        refine op0 (sp_move rfl rfl) rfl trivial rfl rfl ?_
        refine op0 (sp_move rfl rfl) rfl trivial rfl rfl ?_
        refine op0 (sp_assign rfl rfl) rfl trivial rfl rfl ?_
        refine op0 (sp_assign rfl rfl) rfl trivial rfl rfl ?_
        refine op0 (sp_assign rfl rfl) rfl trivial rfl rfl ?_
        refine op0 (sp_assign rfl rfl) rfl trivial rfl rfl ?_
        refine TL.nil ?_
        cases h
        exact retJ [] (.tmp rfl (.tmp rfl (.tmp rfl (.tmp rfl .nil)))) rfl trivial rfl rfl
      · have h := cond_f h h11
        refine TC.skip ?_
        refine TC.inBlock ?_
        refine TC.region ?_
        obtain ⟨h12, h⟩ := chk_inv h
        refine op0 (sp_add rfl rfl rfl h12) rfl trivial rfl rfl ?_
        refine op0 (sp_move rfl rfl) rfl trivial rfl rfl ?_
        refine TL.nil ?_
        refine TC.inLoop ?_
        refine TC.seq ?_
        refine subJ [(6, 10), (7, 11), (8, 12)] (ih _ _ _ _ _ _ _ _ _ _ _ _ _ _ _ _ _ _ _ _ _ _ h) ?_ ?_ ?_
        · exact ⟨rfl, rfl, rfl, rfl, rfl, rfl, trivial⟩
        · exact ⟨mem_at 4 rfl, mem_at 5 rfl, mem_at 3 rfl, mem_at 6 rfl, mem_at 7 rfl, mem_at 8 rfl, mem_at 9 rfl, mem_at 0 rfl, mem_at 1 rfl, mem_at 2 rfl, trivial⟩
        · rfl
    · have h := cond_f h h7
      refine TC.exit rfl ?_
      refine TC.seq ?_
      refine TC.seq ?_
      refine TC.region ?_
      obtain ⟨r36, h13, h⟩ := bind_inv h
      refine opT (take := [.blk 9 [.ref 6, .ref 7, .ref 8, .val (.int .i64 i15), .val (.int .i64 i17), .val (.int .u16 i18), .val (.int .i64 i19), .val (.int .i64 i20), .val (.int .i64 i21), .val (.int .i64 i22), .val (.int .i64 i23), .val (.int .i64 i24), .val (.int .i64 i25), .val (.int .i64 i26)] 215]) (need := [.ro 6 5 (List.map en_api_RoundTower l31), .ro 7 1 (List.map en_Lint l32), .ro 8 4 (List.map en_api_RoundWinder l33)]) (V' := [.ro 13 5 (List.map en_api_RoundTower r36.2.1), .ro 14 1 (List.map en_Lint r36.2.2.1), .ro 15 4 (List.map en_api_RoundWinder r36.2.2.2.1), .blk 9 [.ref 13, .ref 14, .ref 15, .val (.int .i64 r36.2.2.2.2.1), .val (.int .i64 r36.2.2.2.2.2.1), .val (.int .u16 r36.2.2.2.2.2.2.1), .val (.int .i64 r36.2.2.2.2.2.2.2.1), .val (.int .i64 r36.2.2.2.2.2.2.2.2.1), .val (.int .i64 r36.2.2.2.2.2.2.2.2.2.1), .val (.int .i64 r36.2.2.2.2.2.2.2.2.2.2.1), .val (.int .i64 r36.2.2.2.2.2.2.2.2.2.2.2.1), .val (.int .i64 r36.2.2.2.2.2.2.2.2.2.2.2.2.1), .val (.int .i64 r36.2.2.2.2.2.2.2.2.2.2.2.2.2.1), .val (.int .i64 r36.2.2.2.2.2.2.2.2.2.2.2.2.2.2)] 215, .blk 4 [.ref 0, .ref 1, .ref 2, .val (.int .i64 i12), .val (.int .i64 i13)] 74, .blk 5 [.val (.int .i64 i14), .ref 3] 79, .ro 3 1 (List.map en_int l27), .ro 0 5 (List.map en_api_RoundTower l28), .ro 1 1 (List.map en_Lint l29), .ro 2 4 (List.map en_api_RoundWinder l30), .ro 6 5 (List.map en_api_RoundTower l31), .ro 7 1 (List.map en_Lint l32), .ro 8 4 (List.map en_api_RoundWinder l33)]) [2] [7, 8, 9] (ts_call (avs := [.ptr 9 0]) (take := [.blk 9 [.ref 6, .ref 7, .ref 8, .val (.int .i64 i15), .val (.int .i64 i17), .val (.int .u16 i18), .val (.int .i64 i19), .val (.int .i64 i20), .val (.int .i64 i21), .val (.int .i64 i22), .val (.int .i64 i23), .val (.int .i64 i24), .val (.int .i64 i25), .val (.int .i64 i26)] 215]) (need := [.ro 6 5 (List.map en_api_RoundTower l31), .ro 7 1 (List.map en_Lint l32), .ro 8 4 (List.map en_api_RoundWinder l33)]) (v := .val (.int .i64 r36.1)) (news := [.ro 13 5 (List.map en_api_RoundTower r36.2.1), .ro 14 1 (List.map en_Lint r36.2.2.1), .ro 15 4 (List.map en_api_RoundWinder r36.2.2.2.1), .blk 9 [.ref 13, .ref 14, .ref 15, .val (.int .i64 r36.2.2.2.2.1), .val (.int .i64 r36.2.2.2.2.2.1), .val (.int .u16 r36.2.2.2.2.2.2.1), .val (.int .i64 r36.2.2.2.2.2.2.2.1), .val (.int .i64 r36.2.2.2.2.2.2.2.2.1), .val (.int .i64 r36.2.2.2.2.2.2.2.2.2.1), .val (.int .i64 r36.2.2.2.2.2.2.2.2.2.2.1), .val (.int .i64 r36.2.2.2.2.2.2.2.2.2.2.2.1), .val (.int .i64 r36.2.2.2.2.2.2.2.2.2.2.2.2.1), .val (.int .i64 r36.2.2.2.2.2.2.2.2.2.2.2.2.2.1), .val (.int .i64 r36.2.2.2.2.2.2.2.2.2.2.2.2.2.2)] 215]) rfl rfl rfl Try.call93 (atT [(0, 9), (1, 6), (2, 7), (3, 8)] [(500, 13), (501, 14), (502, 15), (0, 9)] (ft_p_round_walker_home h13) rfl rfl rfl) rfl rfl) trivial rfl ⟨rfl, trivial⟩ ⟨rfl, rfl, rfl, trivial⟩ rfl rfl ?_
      refine op0 (sp_assign rfl rfl) rfl trivial rfl rfl ?_
      refine TL.nil ?_
      refine TC.seq ?_
      refine TC.region ?_
      refine op0 (sp_move rfl rfl) rfl trivial rfl rfl ?_
      refine op0 (sp_neq rfl rfl rfl) rfl trivial rfl rfl ?_
      refine TL.nil ?_
      refine TC.cond (b := (r36.1 != 0)) rfl (fun h14 => ?_) (fun h14 => ?_)
      · have h := cond_t h h14
        refine TC.seq ?_
        refine drawJ 7 [⟨.ptr 5 1, [], [.blk 5 [.val (.int .i64 i14), .ref 3] 79], []⟩, ⟨.ref 3, [], [.blk 5 [.val (.int .i64 i14), .ref 3] 79], []⟩, ⟨.val (.int .i64 (l27.length : Int)), [], [.ro 3 1 (List.map en_int l27)], []⟩, ⟨.val (.int .i64 r36.1), [], [], []⟩, ⟨.val (.int .i64 0), [], [], []⟩, ⟨.val (.int .i64 0), [], [], []⟩, ⟨.val (.int .i64 (l27.length : Int)), [], [], []⟩] rfl ?_ rfl ?_ rfl ?_ ?_
        · kernel_rfl
        · kernel_rfl
        · exact DAll.op' (sp_fieldAddrB rfl isBlk rfl ft79_1 vt37 (by decide)) trivial rfl (From.ok (ps := [(none, 5)]) ⟨⟨rfl, rfl⟩, trivial⟩) (DAll.op' (sp_loadB rfl isBlk rfl vt37 rfl) trivial rfl (From.ok (ps := [(none, 5)]) ⟨⟨rfl, rfl⟩, trivial⟩) (DAll.op' (sp_lenM (N := l27.length) (len_map _ _) rfl rfl isRo Try.underlying37) trivial rfl (From.ok (ps := [(none, 6)]) ⟨⟨rfl, rfl⟩, trivial⟩) (DAll.op' (sp_move rfl rfl) trivial rfl (From.ok (ps := []) trivial) (DAll.op' (sp_assign rfl rfl) trivial rfl (From.ok (ps := []) trivial) (DAll.op' (sp_assign rfl rfl) trivial rfl (From.ok (ps := []) trivial) (DAll.op' (sp_assign rfl rfl) trivial rfl (From.ok (ps := []) trivial) (.nil)))))))
        refine op0 (sp_assign rfl rfl) rfl trivial rfl rfl ?_
        refine TL.nil ?_
        cases h
        exact retJ [] (.tmp rfl (.tmp rfl (.tmp rfl (.tmp rfl .nil)))) rfl trivial rfl rfl
      · have h := cond_f h h14
        refine TC.skip ?_
        refine TC.seq ?_
        obtain ⟨h15, h⟩ := chk_inv h
        refine drawJ 8 [⟨.ptr 9 13, [], [.blk 9 [.ref 13, .ref 14, .ref 15, .val (.int .i64 r36.2.2.2.2.1), .val (.int .i64 r36.2.2.2.2.2.1), .val (.int .u16 r36.2.2.2.2.2.2.1), .val (.int .i64 r36.2.2.2.2.2.2.2.1), .val (.int .i64 r36.2.2.2.2.2.2.2.2.1), .val (.int .i64 r36.2.2.2.2.2.2.2.2.2.1), .val (.int .i64 r36.2.2.2.2.2.2.2.2.2.2.1), .val (.int .i64 r36.2.2.2.2.2.2.2.2.2.2.2.1), .val (.int .i64 r36.2.2.2.2.2.2.2.2.2.2.2.2.1), .val (.int .i64 r36.2.2.2.2.2.2.2.2.2.2.2.2.2.1), .val (.int .i64 r36.2.2.2.2.2.2.2.2.2.2.2.2.2.2)] 215], []⟩, ⟨.val (.int .i64 r36.2.2.2.2.2.2.2.2.2.2.2.2.2.2), [], [.blk 9 [.ref 13, .ref 14, .ref 15, .val (.int .i64 r36.2.2.2.2.1), .val (.int .i64 r36.2.2.2.2.2.1), .val (.int .u16 r36.2.2.2.2.2.2.1), .val (.int .i64 r36.2.2.2.2.2.2.2.1), .val (.int .i64 r36.2.2.2.2.2.2.2.2.1), .val (.int .i64 r36.2.2.2.2.2.2.2.2.2.1), .val (.int .i64 r36.2.2.2.2.2.2.2.2.2.2.1), .val (.int .i64 r36.2.2.2.2.2.2.2.2.2.2.2.1), .val (.int .i64 r36.2.2.2.2.2.2.2.2.2.2.2.2.1), .val (.int .i64 r36.2.2.2.2.2.2.2.2.2.2.2.2.2.1), .val (.int .i64 r36.2.2.2.2.2.2.2.2.2.2.2.2.2.2)] 215], []⟩, ⟨.ptr 9 13, [], [.blk 9 [.ref 13, .ref 14, .ref 15, .val (.int .i64 r36.2.2.2.2.1), .val (.int .i64 r36.2.2.2.2.2.1), .val (.int .u16 r36.2.2.2.2.2.2.1), .val (.int .i64 r36.2.2.2.2.2.2.2.1), .val (.int .i64 r36.2.2.2.2.2.2.2.2.1), .val (.int .i64 r36.2.2.2.2.2.2.2.2.2.1), .val (.int .i64 r36.2.2.2.2.2.2.2.2.2.2.1), .val (.int .i64 r36.2.2.2.2.2.2.2.2.2.2.2.1), .val (.int .i64 r36.2.2.2.2.2.2.2.2.2.2.2.2.1), .val (.int .i64 r36.2.2.2.2.2.2.2.2.2.2.2.2.2.1), .val (.int .i64 r36.2.2.2.2.2.2.2.2.2.2.2.2.2.2)] 215], []⟩, ⟨.val (.int .i64 r36.2.2.2.2.2.2.2.2.2.2.2.2.2.2), [], [.blk 9 [.ref 13, .ref 14, .ref 15, .val (.int .i64 r36.2.2.2.2.1), .val (.int .i64 r36.2.2.2.2.2.1), .val (.int .u16 r36.2.2.2.2.2.2.1), .val (.int .i64 r36.2.2.2.2.2.2.2.1), .val (.int .i64 r36.2.2.2.2.2.2.2.2.1), .val (.int .i64 r36.2.2.2.2.2.2.2.2.2.1), .val (.int .i64 r36.2.2.2.2.2.2.2.2.2.2.1), .val (.int .i64 r36.2.2.2.2.2.2.2.2.2.2.2.1), .val (.int .i64 r36.2.2.2.2.2.2.2.2.2.2.2.2.1), .val (.int .i64 r36.2.2.2.2.2.2.2.2.2.2.2.2.2.1), .val (.int .i64 r36.2.2.2.2.2.2.2.2.2.2.2.2.2.2)] 215], []⟩, ⟨.ptr 4 4, [], [.blk 4 [.ref 0, .ref 1, .ref 2, .val (.int .i64 i12), .val (.int .i64 i13)] 74], []⟩, ⟨.val (.int .i64 i13), [], [.blk 4 [.ref 0, .ref 1, .ref 2, .val (.int .i64 i12), .val (.int .i64 i13)] 74], []⟩, ⟨.val (.int .i64 (r36.2.2.2.2.2.2.2.2.2.2.2.2.2.2 * i13)), [], [], []⟩, ⟨.val (.int .i64 r36.2.2.2.2.2.2.2.2.2.2.2.2.2.2), [], [], []⟩] rfl ?_ rfl ?_ rfl ?_ ?_
        · kernel_rfl
        · kernel_rfl
        · exact DAll.op' (sp_fieldAddrB rfl isBlk rfl ft215_6 vt3 (by decide)) trivial rfl (From.ok (ps := [(none, 3)]) ⟨⟨rfl, rfl⟩, trivial⟩) (DAll.op' (sp_loadB rfl isBlk rfl vt3 rfl) trivial rfl (From.ok (ps := [(none, 3)]) ⟨⟨rfl, rfl⟩, trivial⟩) (DAll.op' (sp_fieldAddrB rfl isBlk rfl ft215_6 vt3 (by decide)) trivial rfl (From.ok (ps := [(none, 3)]) ⟨⟨rfl, rfl⟩, trivial⟩) (DAll.op' (sp_loadB rfl isBlk rfl vt3 rfl) trivial rfl (From.ok (ps := [(none, 3)]) ⟨⟨rfl, rfl⟩, trivial⟩) (DAll.op' (sp_fieldAddrB rfl isBlk rfl ft74_4 vt3 (by decide)) trivial rfl (From.ok (ps := [(none, 4)]) ⟨⟨rfl, rfl⟩, trivial⟩) (DAll.op' (sp_loadB rfl isBlk rfl vt3 rfl) trivial rfl (From.ok (ps := [(none, 4)]) ⟨⟨rfl, rfl⟩, trivial⟩) (DAll.op' (sp_mul rfl rfl rfl h15) trivial rfl (From.ok (ps := []) trivial) (DAll.op' (sp_assign rfl rfl) trivial rfl (From.ok (ps := []) trivial) (.nil))))))))
        refine op0 (sp_assign rfl rfl) rfl trivial rfl rfl ?_
        refine op0 (sp_assign rfl rfl) rfl trivial rfl rfl ?_
        refine op0 (sp_assign rfl rfl) rfl trivial rfl rfl ?_
        refine TL.nil ?_
        cases h
        exact retJ [] (.tmp rfl (.tmp rfl (.tmp rfl (.tmp rfl .nil)))) rfl trivial rfl rfl
def ev_round_Walk (n : Nat) (rr1 : List (Int × Int × Int × Int × Int)) (rr2 : List ((List Int))) (rr3 : List (Int × Int × Int × Int)) (rr4 : Int) (rr5 : Int) (t6 : Int) (t7 : List Int) : Option (Int × Int × Int × Int) :=
  (ev_round_Check n rr1 rr2 rr3 rr4 rr5).bind fun r8 => cond (r8 != 0) (some (0, 0, 0, r8)) ((ev_round_isNumber n rr1 rr2 rr3 rr4 rr5 t6).bind fun r9 => cond (!r9) (some (0, 0, 0, 7)) (cond (decide ((40 : Int) < (t7.length : Int))) (some (0, 0, 0, 5)) ((ev_round_start n rr1 rr2 rr3 rr4 rr5 t6).bind fun r10 => ev_round_Walk_l0 n t7 n 0 rr4 rr5 t6 r10.2.2.2.1 r10.2.2.2.2.1 r10.2.2.2.2.2.1 r10.2.2.2.2.2.2.1 r10.2.2.2.2.2.2.2.1 r10.2.2.2.2.2.2.2.2.1 r10.2.2.2.2.2.2.2.2.2.1 r10.2.2.2.2.2.2.2.2.2.2.1 r10.2.2.2.2.2.2.2.2.2.2.2.1 r10.2.2.2.2.2.2.2.2.2.2.2.2.1 r10.2.2.2.2.2.2.2.2.2.2.2.2.2 t7 rr1 rr2 rr3 r10.1 r10.2.1 r10.2.2.1)))
set_option maxRecDepth 100000 in
set_option maxHeartbeats 2000000 in
theorem fc_round_Walk {n : Nat} {rr1 : List (Int × Int × Int × Int × Int)} {rr2 : List ((List Int))} {rr3 : List (Int × Int × Int × Int)} {rr4 : Int} {rr5 : Int} {t6 : Int} {t7 : List Int} {r : Int × Int × Int × Int} (h : ev_round_Walk n rr1 rr2 rr3 rr4 rr5 t6 t7 = some r) : FC Try.prog 27 [.agg [.ref 0, .ref 1, .ref 2, .val (.int .i64 rr4), .val (.int .i64 rr5)], .agg [.val (.int .i64 t6), .ref 3]] [.ro 0 5 (List.map en_api_RoundTower rr1), .ro 1 1 (List.map en_Lint rr2), .ro 2 4 (List.map en_api_RoundWinder rr3), .ro 3 1 (List.map en_int t7)] (.tup [.val (.int .i64 r.1), .val (.int .i64 r.2.1), .val (.int .i64 r.2.2.1), .val (.int .i64 r.2.2.2)]) [] := by
  refine introJ (nz := 64) Try.func27 rfl rfl rfl (fun w0 R0 env0 => ?_)
  rw [ev_round_Walk] at h
  refine TC.seq ?_
  refine TC.region ?_
  refine op0 (sp_box 4 rfl rfl rfl rfl rfl) rfl trivial rfl rfl ?_
  refine op0 (sp_box 5 rfl rfl rfl rfl rfl) rfl trivial rfl rfl ?_
  refine op0 (sp_assign rfl rfl) rfl trivial rfl rfl ?_
  refine op0 (sp_assign rfl rfl) rfl trivial rfl rfl ?_
  refine op0 (sp_assign rfl rfl) rfl trivial rfl rfl ?_
  refine op0 (sp_assign rfl rfl) rfl trivial rfl rfl ?_
  refine TL.nil ?_
  refine TC.seq ?_
  refine TC.seq ?_
  refine TC.region ?_
  refine op1 1 rfl (sp_loadBA rfl isBlk rfl vt74 rfl rfl) rfl trivial rfl rfl ?_
  obtain ⟨r8, h1, h⟩ := bind_inv h
  refine opN (need := [.ro 0 5 (List.map en_api_RoundTower rr1), .ro 1 1 (List.map en_Lint rr2), .ro 2 4 (List.map en_api_RoundWinder rr3)]) [2, 3, 4] ⟨rfl, rfl, rfl, trivial⟩ (sp_call (avs := [.agg [.ref 0, .ref 1, .ref 2, .val (.int .i64 rr4), .val (.int .i64 rr5)]]) (need := [.ro 0 5 (List.map en_api_RoundTower rr1), .ro 1 1 (List.map en_Lint rr2), .ro 2 4 (List.map en_api_RoundWinder rr3)]) (v := .val (.int .i64 r8)) (news := []) rfl rfl rfl Try.call87 (atJ [] [] (fc_round_Check h1) rfl rfl) (.inl (roAll rfl))) rfl trivial rfl rfl ?_
  refine op0 (sp_assign rfl rfl) rfl trivial rfl rfl ?_
  refine TL.nil ?_
  refine TC.block ?_
  refine TC.seq ?_
  refine TC.region ?_
  refine op0 (sp_move rfl rfl) rfl trivial rfl rfl ?_
  refine op0 (sp_neq rfl rfl rfl) rfl trivial rfl rfl ?_
  refine op0 (sp_assign rfl rfl) rfl trivial rfl rfl ?_
  refine TL.nil ?_
  refine TC.cond (b := (r8 != 0)) rfl (fun h2 => ?_) (fun h2 => ?_)
  · have h := cond_t h h2
    refine TC.seq ?_
    refine TC.region ?_
    refine op0 (sp_move rfl rfl) rfl trivial rfl rfl ?_
    refine op0 (sp_assign rfl rfl) rfl trivial rfl rfl ?_
    refine op0 (sp_assign rfl rfl) rfl trivial rfl rfl ?_
    refine op0 (sp_assign rfl rfl) rfl trivial rfl rfl ?_
    refine op0 (sp_assign rfl rfl) rfl trivial rfl rfl ?_
    refine TL.nil ?_
    cases h
    exact retJ [] (.tmp rfl (.tmp rfl (.tmp rfl (.tmp rfl .nil)))) rfl trivial rfl rfl
  · have h := cond_f h h2
    refine TC.seq ?_
    refine TC.region ?_
    refine op1 1 rfl (sp_loadBA rfl isBlk rfl vt74 rfl rfl) rfl trivial rfl rfl ?_
    refine op1 0 rfl (sp_fieldAddrB rfl isBlk rfl ft79_0 vt3 (by decide)) rfl trivial rfl rfl ?_
    refine op1 0 rfl (sp_loadB rfl isBlk rfl vt3 rfl) rfl trivial rfl rfl ?_
    obtain ⟨r9, h3, h⟩ := bind_inv h
    refine opN (need := [.ro 0 5 (List.map en_api_RoundTower rr1), .ro 1 1 (List.map en_Lint rr2), .ro 2 4 (List.map en_api_RoundWinder rr3)]) [2, 3, 4] ⟨rfl, rfl, rfl, trivial⟩ (sp_call (avs := [.agg [.ref 0, .ref 1, .ref 2, .val (.int .i64 rr4), .val (.int .i64 rr5)], .val (.int .i64 t6)]) (need := [.ro 0 5 (List.map en_api_RoundTower rr1), .ro 1 1 (List.map en_Lint rr2), .ro 2 4 (List.map en_api_RoundWinder rr3)]) (v := .val (.bool r9)) (news := []) rfl rfl rfl Try.call88 (atJ [] [] (fc_round_isNumber h3) rfl rfl) (.inl (roAll rfl))) rfl trivial rfl rfl ?_
    refine op0 (sp_not rfl rfl) rfl trivial rfl rfl ?_
    refine op0 (sp_assign rfl rfl) rfl trivial rfl rfl ?_
    refine TL.nil ?_
    refine TC.cond (b := (!r9)) rfl (fun h4 => ?_) (fun h4 => ?_)
    · have h := cond_t h h4
      refine TC.seq ?_
      refine TC.region ?_
      refine op0 (sp_assign rfl rfl) rfl trivial rfl rfl ?_
      refine op0 (sp_assign rfl rfl) rfl trivial rfl rfl ?_
      refine op0 (sp_assign rfl rfl) rfl trivial rfl rfl ?_
      refine op0 (sp_assign rfl rfl) rfl trivial rfl rfl ?_
      refine TL.nil ?_
      cases h
      exact retJ [] (.tmp rfl (.tmp rfl (.tmp rfl (.tmp rfl .nil)))) rfl trivial rfl rfl
    · have h := cond_f h h4
      refine TC.seq ?_
      refine TC.region ?_
      refine op1 0 rfl (sp_fieldAddrB rfl isBlk rfl ft79_1 vt37 (by decide)) rfl trivial rfl rfl ?_
      refine op1 0 rfl (sp_loadB rfl isBlk rfl vt37 rfl) rfl trivial rfl rfl ?_
      refine op1 5 rfl (sp_lenM (N := t7.length) (len_map _ _) rfl rfl isRo Try.underlying37) rfl trivial rfl rfl ?_
      refine op0 (sp_gtr rfl rfl rfl) rfl trivial rfl rfl ?_
      refine op0 (sp_assign rfl rfl) rfl trivial rfl rfl ?_
      refine TL.nil ?_
      refine TC.cond (b := (decide ((40 : Int) < (t7.length : Int)))) rfl (fun h5 => ?_) (fun h5 => ?_)
      · have h := cond_t h h5
        refine TC.seq ?_
        refine TC.region ?_
        refine op0 (sp_assign rfl rfl) rfl trivial rfl rfl ?_
        refine op0 (sp_assign rfl rfl) rfl trivial rfl rfl ?_
        refine op0 (sp_assign rfl rfl) rfl trivial rfl rfl ?_
        refine op0 (sp_assign rfl rfl) rfl trivial rfl rfl ?_
        refine TL.nil ?_
        cases h
        exact retJ [] (.tmp rfl (.tmp rfl (.tmp rfl (.tmp rfl .nil)))) rfl trivial rfl rfl
      · have h := cond_f h h5
        refine TC.skip ?_
        refine TC.inBlock ?_
        refine TC.seq ?_
        refine TC.region ?_
        refine op1 1 rfl (sp_loadBA rfl isBlk rfl vt74 rfl rfl) rfl trivial rfl rfl ?_
        refine op1 0 rfl (sp_fieldAddrB rfl isBlk rfl ft79_0 vt3 (by decide)) rfl trivial rfl rfl ?_
        refine op1 0 rfl (sp_loadB rfl isBlk rfl vt3 rfl) rfl trivial rfl rfl ?_
        obtain ⟨r10, h6, h⟩ := bind_inv h
        refine opN (need := [.ro 0 5 (List.map en_api_RoundTower rr1), .ro 1 1 (List.map en_Lint rr2), .ro 2 4 (List.map en_api_RoundWinder rr3)]) [2, 3, 4] ⟨rfl, rfl, rfl, trivial⟩ (sp_call (avs := [.agg [.ref 0, .ref 1, .ref 2, .val (.int .i64 rr4), .val (.int .i64 rr5)], .val (.int .i64 t6)]) (need := [.ro 0 5 (List.map en_api_RoundTower rr1), .ro 1 1 (List.map en_Lint rr2), .ro 2 4 (List.map en_api_RoundWinder rr3)]) (v := .agg [.ref 6, .ref 7, .ref 8, .val (.int .i64 r10.2.2.2.1), .val (.int .i64 r10.2.2.2.2.1), .val (.int .u16 r10.2.2.2.2.2.1), .val (.int .i64 r10.2.2.2.2.2.2.1), .val (.int .i64 r10.2.2.2.2.2.2.2.1), .val (.int .i64 r10.2.2.2.2.2.2.2.2.1), .val (.int .i64 r10.2.2.2.2.2.2.2.2.2.1), .val (.int .i64 r10.2.2.2.2.2.2.2.2.2.2.1), .val (.int .i64 r10.2.2.2.2.2.2.2.2.2.2.2.1), .val (.int .i64 r10.2.2.2.2.2.2.2.2.2.2.2.2.1), .val (.int .i64 r10.2.2.2.2.2.2.2.2.2.2.2.2.2)]) (news := [.ro 6 5 (List.map en_api_RoundTower r10.1), .ro 7 1 (List.map en_Lint r10.2.1), .ro 8 4 (List.map en_api_RoundWinder r10.2.2.1)]) rfl rfl rfl Try.call91 (atJ [] [(0, 6), (1, 7), (2, 8)] (fc_round_start h6) rfl rfl) (.inl (roAll rfl))) rfl trivial rfl rfl ?_
        refine op0 (sp_alloc 9 rfl Try.zeroValue215 rfl) rfl trivial rfl rfl ?_
        refine stoB 0 (cells' := [.ref 6, .ref 7, .ref 8, .val (.int .i64 r10.2.2.2.1), .val (.int .i64 r10.2.2.2.2.1), .val (.int .u16 r10.2.2.2.2.2.1), .val (.int .i64 r10.2.2.2.2.2.2.1), .val (.int .i64 r10.2.2.2.2.2.2.2.1), .val (.int .i64 r10.2.2.2.2.2.2.2.2.1), .val (.int .i64 r10.2.2.2.2.2.2.2.2.2.1), .val (.int .i64 r10.2.2.2.2.2.2.2.2.2.2.1), .val (.int .i64 r10.2.2.2.2.2.2.2.2.2.2.2.1), .val (.int .i64 r10.2.2.2.2.2.2.2.2.2.2.2.2.1), .val (.int .i64 r10.2.2.2.2.2.2.2.2.2.2.2.2.2)]) rfl rfl trivial rfl rfl rfl rfl vt215 rfl rfl rfl ?_
        refine TL.nil ?_
        refine TC.seq ?_
        refine TC.seq ?_
        refine TC.region ?_
        refine op1 4 rfl (sp_fieldAddrB rfl isBlk rfl ft79_1 vt37 (by decide)) rfl trivial rfl rfl ?_
        refine op1 4 rfl (sp_loadB rfl isBlk rfl vt37 rfl) rfl trivial rfl rfl ?_
        refine op1 9 rfl (sp_lenM (N := t7.length) (len_map _ _) rfl rfl isRo Try.underlying37) rfl trivial rfl rfl ?_
        refine op0 (sp_move rfl rfl) rfl trivial rfl rfl ?_
        refine TL.nil ?_
        refine TC.block ?_
        refine TC.loop ?_
        refine TC.seq ?_
        refine subJ [] (ok_round_Walk_l0 _ _ _ _ _ _ _ _ _ _ _ _ _ _ _ _ _ _ _ _ _ _ _ h) ?_ ?_ ?_
        · exact ⟨rfl, rfl, rfl, rfl, rfl, rfl, trivial⟩
        · exact ⟨mem_at 5 rfl, mem_at 4 rfl, mem_at 0 rfl, mem_at 9 rfl, mem_at 6 rfl, mem_at 7 rfl, mem_at 8 rfl, mem_at 1 rfl, mem_at 2 rfl, mem_at 3 rfl, trivial⟩
        · rfl
/- round_checkTowers -/
def ev_round_checkTowers_l0 (n : Nat) (l6 : List Int) : Nat → Int → Int → Option (Int × Int)
  | 0, _, _ => none
  | m + 1, i9, i10 => cond (decide (i10 < (l6.length : Int))) (idx l6 i10 fun x11 => (ev_round_set_has n i9 x11).bind fun r12 => cond r12 (some (0, 6)) ((ev_round_set_with n i9 x11).bind fun r13 => chk (in64 (i10 + 1)) <| ev_round_checkTowers_l0 n l6 m r13 (i10 + 1))) (some (i9, 0))
set_option maxRecDepth 100000 in
set_option maxHeartbeats 2000000 in
theorem ok_round_checkTowers_l0 {n : Nat} {w0 : World} {R0 : Nat → Prop} {env0 : Env} {r : Int × Int} {l6 : List Int} : ∀ (m : Nat) (i9 : Int) (i10 : Int), ev_round_checkTowers_l0 n l6 m i9 i10 = some r → TC Try.prog ⟨w0, fun _ => False, R0⟩ 32 (bodyPost Try.prog Try.f89 (Post ⟨w0, fun _ => False, R0⟩ env0 (.tup [.val (.int .i64 r.1), .val (.int .i64 r.2)]) [])) [.code (sub (bodyOf Try.f89) [1, 1, 1, 0, 1, 0, 0, 0]), .code (sub (bodyOf Try.f89) [1, 1, 1, 0, 1, 0, 0, 1]), .inLoop (sub (bodyOf Try.f89) [1, 1, 1, 0, 1, 0, 0]), .inBlock 0, .code (sub (bodyOf Try.f89) [1, 1, 1, 1])] ([(4, .val (.int .i64 i9)), (18, .ref 3), (19, .val (.int .i64 (l6.length : Int))), (20, .val (.int .i64 i10))]) ([.ro 3 1 (List.map en_int l6)]) := by
  intro m
  induction m with
  | zero => intro i9 i10 h; exact none_no h
  | succ m ih =>
    intro i9 i10 h
    rw [ev_round_checkTowers_l0] at h
    refine TC.region ?_
    refine op0 (sp_lss rfl rfl rfl) rfl trivial rfl rfl ?_
    refine TL.nil ?_
    refine TC.seq ?_
    refine TC.cond (b := (decide (i10 < (l6.length : Int)))) rfl (fun h5 => ?_) (fun h5 => ?_)
    · have h := cond_t h h5
      refine TC.skip ?_
      refine TC.seq ?_
      refine TC.block ?_
      refine TC.seq ?_
      refine TC.region ?_
      obtain ⟨x11, h6, h7, h⟩ := idx_inv h
      refine op1 0 rfl (sp_indexS rfl rfl rfl isRo sl37 h6 (map_get _ h7)) rfl trivial rfl rfl ?_
      refine op1 0 rfl (sp_loadR (i := (i10 : Int).toNat) (j := 0) rfl rfl isRo vt3 rfl (map_get _ h7) rfl (.v (.nil)) (nodup_of_B rfl)) rfl trivial rfl rfl ?_
      refine op0 (sp_assign rfl rfl) rfl trivial rfl rfl ?_
      refine TL.nil ?_
      refine TC.seq ?_
      refine TC.seq ?_
      refine TC.region ?_
      refine op0 (sp_move rfl rfl) rfl trivial rfl rfl ?_
      refine op0 (sp_move rfl rfl) rfl trivial rfl rfl ?_
      obtain ⟨r12, h8, h⟩ := bind_inv h
      refine op0 (sp_call (avs := [.val (.int .i64 i9), .val (.int .i64 x11)]) (need := []) (v := .val (.bool r12)) (news := []) rfl rfl rfl Try.call160 (atJ [] [] (fc_round_set_has h8) rfl rfl) (.inl (roAll rfl))) rfl trivial rfl rfl ?_
      refine TL.nil ?_
      refine TC.cond (b := r12) rfl (fun h9 => ?_) (fun h9 => ?_)
      · have h := cond_t h h9
        refine TC.seq ?_
        refine TC.region ?_
        refine op0 (sp_assign rfl rfl) rfl trivial rfl rfl ?_
        refine op0 (sp_assign rfl rfl) rfl trivial rfl rfl ?_
        refine TL.nil ?_
        cases h
        exact retJ [] (.tmp rfl (.tmp rfl .nil)) rfl trivial rfl rfl
      · have h := cond_f h h9
        refine TC.skip ?_
        refine TC.region ?_
        refine op0 (sp_move rfl rfl) rfl trivial rfl rfl ?_
        refine op0 (sp_move rfl rfl) rfl trivial rfl rfl ?_
        obtain ⟨r13, h10, h⟩ := bind_inv h
        refine op0 (sp_call (avs := [.val (.int .i64 i9), .val (.int .i64 x11)]) (need := []) (v := .val (.int .i64 r13)) (news := []) rfl rfl rfl Try.call161 (atJ [] [] (fc_round_set_with h10) rfl rfl) (.inl (roAll rfl))) rfl trivial rfl rfl ?_
        refine op0 (sp_assign rfl rfl) rfl trivial rfl rfl ?_
        refine TL.nil ?_
        refine TC.inBlock ?_
        refine TC.region ?_
        obtain ⟨h11, h⟩ := chk_inv h
        refine op0 (sp_add rfl rfl rfl h11) rfl trivial rfl rfl ?_
        refine op0 (sp_move rfl rfl) rfl trivial rfl rfl ?_
        refine TL.nil ?_
        refine TC.inLoop ?_
        refine TC.seq ?_
        refine subJ [] (ih _ _ h) ?_ ?_ ?_
        · exact ⟨rfl, rfl, rfl, rfl, trivial⟩
        · exact ⟨mem_at 0 rfl, trivial⟩
        · rfl
    · have h := cond_f h h5
      refine TC.exit rfl ?_
      refine TC.seq ?_
      refine TC.region ?_
      refine op0 (sp_move rfl rfl) rfl trivial rfl rfl ?_
      refine op0 (sp_assign rfl rfl) rfl trivial rfl rfl ?_
      refine op0 (sp_assign rfl rfl) rfl trivial rfl rfl ?_
      refine TL.nil ?_
      cases h
      exact retJ [] (.tmp rfl (.tmp rfl .nil)) rfl trivial rfl rfl
def ev_round_checkTowers (n : Nat) (rr1 : List (Int × Int × Int × Int × Int)) (rr2 : List ((List Int))) (rr3 : List (Int × Int × Int × Int)) (rr4 : Int) (rr5 : Int) (l6 : List Int) : Option (Int × Int) :=
  cond (decide ((5 : Int) < (l6.length : Int))) (some (0, 5)) (chk (in64 ((rr1.length : Int) - 1)) <| (ev_round_within n 0 ((rr1.length : Int) - 1) l6).bind fun r7 => cond (!r7) (some (0, 2)) (ev_round_checkTowers_l0 n l6 n 0 0))
set_option maxRecDepth 100000 in
set_option maxHeartbeats 2000000 in
theorem fc_round_checkTowers {n : Nat} {rr1 : List (Int × Int × Int × Int × Int)} {rr2 : List ((List Int))} {rr3 : List (Int × Int × Int × Int)} {rr4 : Int} {rr5 : Int} {l6 : List Int} {r : Int × Int} (h : ev_round_checkTowers n rr1 rr2 rr3 rr4 rr5 l6 = some r) : FC Try.prog 89 [.agg [.ref 0, .ref 1, .ref 2, .val (.int .i64 rr4), .val (.int .i64 rr5)], .ref 3] [.ro 0 5 (List.map en_api_RoundTower rr1), .ro 1 1 (List.map en_Lint rr2), .ro 2 4 (List.map en_api_RoundWinder rr3), .ro 3 1 (List.map en_int l6)] (.tup [.val (.int .i64 r.1), .val (.int .i64 r.2)]) [] := by
  refine introJ (nz := 32) Try.func89 rfl rfl rfl (fun w0 R0 env0 => ?_)
  rw [ev_round_checkTowers] at h
  refine TC.seq ?_
  refine TC.region ?_
  refine op0 (sp_box 4 rfl rfl rfl rfl rfl) rfl trivial rfl rfl ?_
  refine op0 (sp_assign rfl rfl) rfl trivial rfl rfl ?_
  refine op0 (sp_assign rfl rfl) rfl trivial rfl rfl ?_
  refine TL.nil ?_
  refine TC.seq ?_
  refine TC.seq ?_
  refine TC.region ?_
  refine op0 (sp_move rfl rfl) rfl trivial rfl rfl ?_
  refine op1 4 rfl (sp_lenM (N := l6.length) (len_map _ _) rfl rfl isRo Try.underlying37) rfl trivial rfl rfl ?_
  refine op0 (sp_gtr rfl rfl rfl) rfl trivial rfl rfl ?_
  refine TL.nil ?_
  refine TC.cond (b := (decide ((5 : Int) < (l6.length : Int)))) rfl (fun h1 => ?_) (fun h1 => ?_)
  · have h := cond_t h h1
    refine TC.seq ?_
    refine TC.region ?_
    refine op0 (sp_assign rfl rfl) rfl trivial rfl rfl ?_
    refine op0 (sp_assign rfl rfl) rfl trivial rfl rfl ?_
    refine TL.nil ?_
    cases h
    exact retJ [] (.tmp rfl (.tmp rfl .nil)) rfl trivial rfl rfl
  · have h := cond_f h h1
    refine TC.skip ?_
    refine TC.seq ?_
    refine TC.seq ?_
    refine TC.region ?_
    refine op1 0 rfl (sp_fieldAddrB rfl isBlk rfl ft74_0 vt70 (by decide)) rfl trivial rfl rfl ?_
    refine op1 0 rfl (sp_loadB rfl isBlk rfl vt70 rfl) rfl trivial rfl rfl ?_
    refine op1 1 rfl (sp_lenM (N := rr1.length) (len_map _ _) rfl rfl isRo Try.underlying70) rfl trivial rfl rfl ?_
    obtain ⟨h2, h⟩ := chk_inv h
    refine op0 (sp_sub rfl rfl rfl h2) rfl trivial rfl rfl ?_
    refine op0 (sp_move rfl rfl) rfl trivial rfl rfl ?_
    obtain ⟨r7, h3, h⟩ := bind_inv h
    refine op1 4 rfl (sp_call (avs := [.val (.int .i64 0), .val (.int .i64 ((rr1.length : Int) - 1)), .ref 3]) (need := [.ro 3 1 (List.map en_int l6)]) (v := .val (.bool r7)) (news := []) rfl rfl rfl Try.call153 (atJ [(0, 3)] [] (fc_round_within h3) rfl rfl) (.inl (roAll rfl))) rfl trivial rfl rfl ?_
    refine op0 (sp_not rfl rfl) rfl trivial rfl rfl ?_
    refine TL.nil ?_
    refine TC.cond (b := (!r7)) rfl (fun h4 => ?_) (fun h4 => ?_)
    · have h := cond_t h h4
      refine TC.seq ?_
      refine TC.region ?_
      refine op0 (sp_assign rfl rfl) rfl trivial rfl rfl ?_
      refine op0 (sp_assign rfl rfl) rfl trivial rfl rfl ?_
      refine TL.nil ?_
      cases h
      exact retJ [] (.tmp rfl (.tmp rfl .nil)) rfl trivial rfl rfl
    · have h := cond_f h h4
      refine TC.skip ?_
      refine TC.seq ?_
      refine TC.seq ?_
      refine TC.region ?_
      refine op0 (sp_move rfl rfl) rfl trivial rfl rfl ?_
      refine op1 4 rfl (sp_lenM (N := l6.length) (len_map _ _) rfl rfl isRo Try.underlying37) rfl trivial rfl rfl ?_
      refine op0 (sp_move rfl rfl) rfl trivial rfl rfl ?_
      refine TL.nil ?_
      refine TC.block ?_
      refine TC.loop ?_
      refine TC.seq ?_
      refine subJ [] (ok_round_checkTowers_l0 _ _ _ h) ?_ ?_ ?_
      · exact ⟨rfl, rfl, rfl, rfl, trivial⟩
      · exact ⟨mem_at 4 rfl, trivial⟩
      · rfl
/- p_round_search_try -/
def ev_p_round_search_try_j5 (n : Nat) (l95 : List (Int × Int × Int × Int × Int)) (l96 : List ((List Int))) (l97 : List (Int × Int × Int × Int)) (i83 : Int) (i84 : Int) (i85 : Int) (i86 : Int) (i87 : Int) (i88 : Int) (i89 : Int) (i90 : Int) (i91 : Int) (i92 : Int) (i93 : Int) (i78 : Int) (l82 : List Int) (i79 : Int) (l94 : List Int) (i80 : Int) (b81 : Bool) (self : Int → (List Int) → Int → Bool → (List (Int × Int × Int × Int × Int)) → (List ((List Int))) → (List (Int × Int × Int × Int)) → Int → Int → Int → Int → Int → Int → Int → Int → Int → Int → Int → (List Int) → Option (Int × (List Int) × Int × Bool)) (k_p_round_search_try_l4 : Int → Int → Int → Bool → (List Int) → Int → Int → Int → Int → Int → Int → Int → Int → Int → Int → Int → (List Int) → (List (Int × Int × Int × Int × Int)) → (List ((List Int))) → (List (Int × Int × Int × Int)) → Option (Int × (List Int) × Int × Bool)) : Option (Int × (List Int) × Int × Bool) :=
  (ev_p_round_walker_step n l95 l96 l97 i83 i84 i85 i86 i87 i88 i89 i90 i91 i92 i93 i78).bind fun r100 => cond (r100.1 == 0) ((ev_slices_Clip_Lint_int n l82).bind fun r101 => chk (Nat.blt 0 ([i78] : List Int).length) <| chk (room 8 (r101.length + ([i78] : List Int).length)) <| (self i79 l94 i80 b81 r100.2.1 r100.2.2.1 r100.2.2.2.1 r100.2.2.2.2.1 r100.2.2.2.2.2.1 r100.2.2.2.2.2.2.1 r100.2.2.2.2.2.2.2.1 r100.2.2.2.2.2.2.2.2.1 r100.2.2.2.2.2.2.2.2.2.1 r100.2.2.2.2.2.2.2.2.2.2.1 r100.2.2.2.2.2.2.2.2.2.2.2.1 r100.2.2.2.2.2.2.2.2.2.2.2.2.1 r100.2.2.2.2.2.2.2.2.2.2.2.2.2.1 r100.2.2.2.2.2.2.2.2.2.2.2.2.2.2 (r101 ++ ([i78] : List Int))).bind fun r102 => chk (in64 (i78 + 1)) <| k_p_round_search_try_l4 (i78 + 1) r102.1 r102.2.2.1 r102.2.2.2 l82 i83 i84 i85 i86 i87 i88 i89 i90 i91 i92 i93 r102.2.1 l95 l96 l97) (chk (in64 (i78 + 1)) <| k_p_round_search_try_l4 (i78 + 1) i79 i80 b81 l82 i83 i84 i85 i86 i87 i88 i89 i90 i91 i92 i93 l94 l95 l96 l97)
set_option maxRecDepth 100000 in
set_option maxHeartbeats 2000000 in
theorem ok_p_round_search_try_j5 {n : Nat} {w0 : World} {M0 R0 : Nat → Prop} {env0 : Env} {df : List Deferred} {r : Int × (List Int) × Int × Bool} {b77 : Bool} {l95 : List (Int × Int × Int × Int × Int)} {l96 : List ((List Int))} {l97 : List (Int × Int × Int × Int)} {i83 : Int} {i84 : Int} {i85 : Int} {i86 : Int} {i87 : Int} {i88 : Int} {i89 : Int} {i90 : Int} {i91 : Int} {i92 : Int} {i93 : Int} {i78 : Int} {l82 : List Int} {i79 : Int} {l94 : List Int} {i80 : Int} {b81 : Bool} {self : Int → (List Int) → Int → Bool → (List (Int × Int × Int × Int × Int)) → (List ((List Int))) → (List (Int × Int × Int × Int)) → Int → Int → Int → Int → Int → Int → Int → Int → Int → Int → Int → (List Int) → Option (Int × (List Int) × Int × Bool)} {k_p_round_search_try_l4 : Int → Int → Int → Bool → (List Int) → Int → Int → Int → Int → Int → Int → Int → Int → Int → Int → Int → (List Int) → (List (Int × Int × Int × Int × Int)) → (List ((List Int))) → (List (Int × Int × Int × Int)) → Option (Int × (List Int) × Int × Bool)} (hself : ∀ (s1z : Int) (s2z : List Int) (s3z : Int) (s4z : Bool) (w5z : List (Int × Int × Int × Int × Int)) (w6z : List ((List Int))) (w7z : List (Int × Int × Int × Int)) (w8z : Int) (w9z : Int) (w10z : Int) (w11z : Int) (w12z : Int) (w13z : Int) (w14z : Int) (w15z : Int) (w16z : Int) (w17z : Int) (w18z : Int) (steps19z : List Int) (r : Int × (List Int) × Int × Bool), self s1z s2z s3z s4z w5z w6z w7z w8z w9z w10z w11z w12z w13z w14z w15z w16z w17z w18z steps19z = some r → FT Try.prog 90 [.ptr 0 0, .agg [.ref 2, .ref 3, .ref 4, .val (.int .i64 w8z), .val (.int .i64 w9z), .val (.int .u16 w10z), .val (.int .i64 w11z), .val (.int .i64 w12z), .val (.int .i64 w13z), .val (.int .i64 w14z), .val (.int .i64 w15z), .val (.int .i64 w16z), .val (.int .i64 w17z), .val (.int .i64 w18z)], .ref 5] [.blk 0 [.val (.int .i64 s1z), .ref 1, .val (.int .i64 s3z), .val (.bool s4z)] 210] [.ro 1 1 (List.map en_int s2z), .ro 2 5 (List.map en_api_RoundTower w5z), .ro 3 1 (List.map en_Lint w6z), .ro 4 4 (List.map en_api_RoundWinder w7z), .ro 5 1 (List.map en_int steps19z)] (.tup []) [.ro 500 1 (List.map en_int r.2.1), .blk 0 [.val (.int .i64 r.1), .ref 500, .val (.int .i64 r.2.2.1), .val (.bool r.2.2.2)] 210]) (hk_p_round_search_try_l4 : ∀ (i78 : Int) (i79 : Int) (i80 : Int) (b81 : Bool) (l82 : List Int) (i83 : Int) (i84 : Int) (i85 : Int) (i86 : Int) (i87 : Int) (i88 : Int) (i89 : Int) (i90 : Int) (i91 : Int) (i92 : Int) (i93 : Int) (l94 : List Int) (l95 : List (Int × Int × Int × Int × Int)) (l96 : List ((List Int))) (l97 : List (Int × Int × Int × Int)), k_p_round_search_try_l4 i78 i79 i80 b81 l82 i83 i84 i85 i86 i87 i88 i89 i90 i91 i92 i93 l94 l95 l96 l97 = some r → TC Try.prog ⟨w0, M0, R0⟩ ⟨118, none, df⟩ (bodyPostM Fence.wide 0 Try.prog Try.f90 (PostT ⟨w0, M0, R0⟩ env0 [0] (.tup []) [.ro 500 1 (List.map en_int r.2.1), .blk 0 [.val (.int .i64 r.1), .ref 500, .val (.int .i64 r.2.2.1), .val (.bool r.2.2.2)] 210])) [.code (sub (bodyOf Try.f90) [1, 1, 1, 1, 1, 0, 0, 0, 0]), .code (sub (bodyOf Try.f90) [1, 1, 1, 1, 1, 0, 0, 0, 1]), .code (sub (bodyOf Try.f90) [1, 1, 1, 1, 1, 0, 0, 1]), .inLoop (sub (bodyOf Try.f90) [1, 1, 1, 1, 1, 0, 0]), .inBlock 0] ([(0, .ptr 0 0), (2, .ref 5), (4, .ptr 8 0), (7, .val (.bool b77)), (8, .val (.int .i64 i78))]) ([.blk 0 [.val (.int .i64 i79), .ref 13, .val (.int .i64 i80), .val (.bool b81)] 210, .ro 5 1 (List.map en_int l82), .blk 8 [.ref 2, .ref 3, .ref 4, .val (.int .i64 i83), .val (.int .i64 i84), .val (.int .u16 i85), .val (.int .i64 i86), .val (.int .i64 i87), .val (.int .i64 i88), .val (.int .i64 i89), .val (.int .i64 i90), .val (.int .i64 i91), .val (.int .i64 i92), .val (.int .i64 i93)] 215, .ro 13 1 (List.map en_int l94), .ro 2 5 (List.map en_api_RoundTower l95), .ro 3 1 (List.map en_Lint l96), .ro 4 4 (List.map en_api_RoundWinder l97), .inv 6 (marksI df), .pin 7 0 (env0 0)])) (h : ev_p_round_search_try_j5 n l95 l96 l97 i83 i84 i85 i86 i87 i88 i89 i90 i91 i92 i93 i78 l82 i79 l94 i80 b81 self k_p_round_search_try_l4 = some r) : TC Try.prog ⟨w0, M0, R0⟩ ⟨118, none, df⟩ (bodyPostM Fence.wide 0 Try.prog Try.f90 (PostT ⟨w0, M0, R0⟩ env0 [0] (.tup []) [.ro 500 1 (List.map en_int r.2.1), .blk 0 [.val (.int .i64 r.1), .ref 500, .val (.int .i64 r.2.2.1), .val (.bool r.2.2.2)] 210])) [.code (sub (bodyOf Try.f90) [1, 1, 1, 1, 1, 0, 0, 1, 0, 0, 0, 1, 1]), .code (sub (bodyOf Try.f90) [1, 1, 1, 1, 1, 0, 0, 1, 0, 0, 1]), .inBlock 1, .code (sub (bodyOf Try.f90) [1, 1, 1, 1, 1, 0, 0, 1, 1]), .inLoop (sub (bodyOf Try.f90) [1, 1, 1, 1, 1, 0, 0]), .inBlock 0] ([(0, .ptr 0 0), (2, .ref 5), (4, .ptr 8 0), (7, .val (.bool b77)), (8, .val (.int .i64 i78))]) ([.blk 0 [.val (.int .i64 i79), .ref 13, .val (.int .i64 i80), .val (.bool b81)] 210, .ro 5 1 (List.map en_int l82), .blk 8 [.ref 2, .ref 3, .ref 4, .val (.int .i64 i83), .val (.int .i64 i84), .val (.int .u16 i85), .val (.int .i64 i86), .val (.int .i64 i87), .val (.int .i64 i88), .val (.int .i64 i89), .val (.int .i64 i90), .val (.int .i64 i91), .val (.int .i64 i92), .val (.int .i64 i93)] 215, .ro 13 1 (List.map en_int l94), .ro 2 5 (List.map en_api_RoundTower l95), .ro 3 1 (List.map en_Lint l96), .ro 4 4 (List.map en_api_RoundWinder l97), .inv 6 (marksI df), .pin 7 0 (env0 0)]) := by
  rw [ev_p_round_search_try_j5] at h
  refine TC.skip ?_
  refine TC.seq ?_
  refine TC.region ?_
  refine op1 2 rfl (sp_loadBA rfl isBlk rfl vt215 rfl rfl) rfl trivial rfl rfl ?_
  refine op0 (sp_alloc 14 rfl Try.zeroValue215 rfl) rfl trivial rfl rfl ?_
  refine stoB 0 (cells' := [.ref 2, .ref 3, .ref 4, .val (.int .i64 i83), .val (.int .i64 i84), .val (.int .u16 i85), .val (.int .i64 i86), .val (.int .i64 i87), .val (.int .i64 i88), .val (.int .i64 i89), .val (.int .i64 i90), .val (.int .i64 i91), .val (.int .i64 i92), .val (.int .i64 i93)]) rfl rfl trivial rfl rfl rfl rfl vt215 rfl rfl rfl ?_
  refine TL.nil ?_
  refine TC.seq ?_
  refine TC.region ?_
  refine op0 (sp_move rfl rfl) rfl trivial rfl rfl ?_
  obtain ⟨r100, h23, h⟩ := bind_inv h
  refine opT (take := [.blk 14 [.ref 2, .ref 3, .ref 4, .val (.int .i64 i83), .val (.int .i64 i84), .val (.int .u16 i85), .val (.int .i64 i86), .val (.int .i64 i87), .val (.int .i64 i88), .val (.int .i64 i89), .val (.int .i64 i90), .val (.int .i64 i91), .val (.int .i64 i92), .val (.int .i64 i93)] 215]) (need := [.ro 2 5 (List.map en_api_RoundTower l95), .ro 3 1 (List.map en_Lint l96), .ro 4 4 (List.map en_api_RoundWinder l97)]) (V' := [.ro 15 5 (List.map en_api_RoundTower r100.2.1), .ro 16 1 (List.map en_Lint r100.2.2.1), .ro 17 4 (List.map en_api_RoundWinder r100.2.2.2.1), .blk 14 [.ref 15, .ref 16, .ref 17, .val (.int .i64 r100.2.2.2.2.1), .val (.int .i64 r100.2.2.2.2.2.1), .val (.int .u16 r100.2.2.2.2.2.2.1), .val (.int .i64 r100.2.2.2.2.2.2.2.1), .val (.int .i64 r100.2.2.2.2.2.2.2.2.1), .val (.int .i64 r100.2.2.2.2.2.2.2.2.2.1), .val (.int .i64 r100.2.2.2.2.2.2.2.2.2.2.1), .val (.int .i64 r100.2.2.2.2.2.2.2.2.2.2.2.1), .val (.int .i64 r100.2.2.2.2.2.2.2.2.2.2.2.2.1), .val (.int .i64 r100.2.2.2.2.2.2.2.2.2.2.2.2.2.1), .val (.int .i64 r100.2.2.2.2.2.2.2.2.2.2.2.2.2.2)] 215, .blk 0 [.val (.int .i64 i79), .ref 13, .val (.int .i64 i80), .val (.bool b81)] 210, .ro 5 1 (List.map en_int l82), .blk 8 [.ref 2, .ref 3, .ref 4, .val (.int .i64 i83), .val (.int .i64 i84), .val (.int .u16 i85), .val (.int .i64 i86), .val (.int .i64 i87), .val (.int .i64 i88), .val (.int .i64 i89), .val (.int .i64 i90), .val (.int .i64 i91), .val (.int .i64 i92), .val (.int .i64 i93)] 215, .ro 13 1 (List.map en_int l94), .ro 2 5 (List.map en_api_RoundTower l95), .ro 3 1 (List.map en_Lint l96), .ro 4 4 (List.map en_api_RoundWinder l97), .inv 6 (marksI df), .pin 7 0 (env0 0)]) [0] [5, 6, 7] (ts_call (avs := [.ptr 14 0, .val (.int .i64 i78)]) (take := [.blk 14 [.ref 2, .ref 3, .ref 4, .val (.int .i64 i83), .val (.int .i64 i84), .val (.int .u16 i85), .val (.int .i64 i86), .val (.int .i64 i87), .val (.int .i64 i88), .val (.int .i64 i89), .val (.int .i64 i90), .val (.int .i64 i91), .val (.int .i64 i92), .val (.int .i64 i93)] 215]) (need := [.ro 2 5 (List.map en_api_RoundTower l95), .ro 3 1 (List.map en_Lint l96), .ro 4 4 (List.map en_api_RoundWinder l97)]) (v := .val (.int .i64 r100.1)) (news := [.ro 15 5 (List.map en_api_RoundTower r100.2.1), .ro 16 1 (List.map en_Lint r100.2.2.1), .ro 17 4 (List.map en_api_RoundWinder r100.2.2.2.1), .blk 14 [.ref 15, .ref 16, .ref 17, .val (.int .i64 r100.2.2.2.2.1), .val (.int .i64 r100.2.2.2.2.2.1), .val (.int .u16 r100.2.2.2.2.2.2.1), .val (.int .i64 r100.2.2.2.2.2.2.2.1), .val (.int .i64 r100.2.2.2.2.2.2.2.2.1), .val (.int .i64 r100.2.2.2.2.2.2.2.2.2.1), .val (.int .i64 r100.2.2.2.2.2.2.2.2.2.2.1), .val (.int .i64 r100.2.2.2.2.2.2.2.2.2.2.2.1), .val (.int .i64 r100.2.2.2.2.2.2.2.2.2.2.2.2.1), .val (.int .i64 r100.2.2.2.2.2.2.2.2.2.2.2.2.2.1), .val (.int .i64 r100.2.2.2.2.2.2.2.2.2.2.2.2.2.2)] 215]) rfl rfl rfl Try.call92 (atT [(0, 14), (1, 2), (2, 3), (3, 4)] [(500, 15), (501, 16), (502, 17), (0, 14)] (ft_p_round_walker_step h23) rfl rfl rfl) rfl rfl) trivial rfl ⟨rfl, trivial⟩ ⟨rfl, rfl, rfl, trivial⟩ rfl rfl ?_
  refine op0 (sp_eql rfl rfl rfl) rfl trivial rfl rfl ?_
  refine TL.nil ?_
  refine TC.cond (b := (r100.1 == 0)) rfl (fun h24 => ?_) (fun h24 => ?_)
  · have h := cond_t h h24
    obtain ⟨r101, h25, h⟩ := bind_inv h
    obtain ⟨h26, h⟩ := chk_inv h
    obtain ⟨h27, h⟩ := chk_inv h
    refine drawJ 7 [⟨.ptr 0 0, [], [], []⟩, ⟨.agg [.ref 15, .ref 16, .ref 17, .val (.int .i64 r100.2.2.2.2.1), .val (.int .i64 r100.2.2.2.2.2.1), .val (.int .u16 r100.2.2.2.2.2.2.1), .val (.int .i64 r100.2.2.2.2.2.2.2.1), .val (.int .i64 r100.2.2.2.2.2.2.2.2.1), .val (.int .i64 r100.2.2.2.2.2.2.2.2.2.1), .val (.int .i64 r100.2.2.2.2.2.2.2.2.2.2.1), .val (.int .i64 r100.2.2.2.2.2.2.2.2.2.2.2.1), .val (.int .i64 r100.2.2.2.2.2.2.2.2.2.2.2.2.1), .val (.int .i64 r100.2.2.2.2.2.2.2.2.2.2.2.2.2.1), .val (.int .i64 r100.2.2.2.2.2.2.2.2.2.2.2.2.2.2)], [], [.blk 14 [.ref 15, .ref 16, .ref 17, .val (.int .i64 r100.2.2.2.2.1), .val (.int .i64 r100.2.2.2.2.2.1), .val (.int .u16 r100.2.2.2.2.2.2.1), .val (.int .i64 r100.2.2.2.2.2.2.2.1), .val (.int .i64 r100.2.2.2.2.2.2.2.2.1), .val (.int .i64 r100.2.2.2.2.2.2.2.2.2.1), .val (.int .i64 r100.2.2.2.2.2.2.2.2.2.2.1), .val (.int .i64 r100.2.2.2.2.2.2.2.2.2.2.2.1), .val (.int .i64 r100.2.2.2.2.2.2.2.2.2.2.2.2.1), .val (.int .i64 r100.2.2.2.2.2.2.2.2.2.2.2.2.2.1), .val (.int .i64 r100.2.2.2.2.2.2.2.2.2.2.2.2.2.2)] 215], []⟩, ⟨.ref 5, [], [], []⟩, ⟨.ref 18, [.any 18 (D.clip 1 (List.map en_int r101))], [.ro 5 1 (List.map en_int l82)], []⟩, ⟨.val (.int .i64 i78), [], [], []⟩, ⟨.ref 19, [.row 19 3 1 (List.map en_int ([i78] : List Int))], [], []⟩, ⟨.ref 20, [.row 20 3 1 (List.map en_int (r101 ++ ([i78] : List Int)))], [.any 18 (D.clip 1 (List.map en_int r101)), .row 19 3 1 (List.map en_int ([i78] : List Int))], []⟩] rfl ?_ rfl ?_ rfl ?_ ?_
    · kernel_rfl
    · kernel_rfl
    · exact DAll.op' (sp_move rfl rfl) trivial rfl (From.ok (ps := []) trivial) (DAll.op' (sp_loadBA rfl isBlk rfl vt215 rfl rfl) trivial rfl (From.ok (ps := [(none, 3)]) ⟨⟨rfl, rfl⟩, trivial⟩) (DAll.op' (sp_move rfl rfl) trivial rfl (From.ok (ps := []) trivial) (DAll.op' (sp_call (avs := [.ref 5]) (need := [.ro 5 1 (List.map en_int l82)]) (v := .ref 18) (news := [.any 18 (D.clip 1 (List.map en_int r101))]) rfl rfl rfl Try.call162 (atJ [(0, 5)] [(0, 18)] (fc_slices_Clip_Lint_int h25) rfl rfl) (.inl (roAll rfl))) trivial rfl (From.ok (ps := [(none, 5)]) ⟨⟨rfl, rfl⟩, trivial⟩) (DAll.op' (sp_move rfl rfl) trivial rfl (From.ok (ps := []) trivial) (DAll.op' (sp_buildSlice (qs := [.val (.int .i64 i78)]) (need := []) (els := List.map en_int ([i78] : List Int)) 19 rfl sl37 (by decide) (by decide) rfl rfl rfl (.v (.nil)) (map_len fun _ => rfl) rfl rfl rfl) trivial rfl (From.ok (ps := []) trivial) (DAll.op' (sp_appClip (N := r101.length) (N2 := ([i78] : List Int).length) 20 rfl rfl rfl isOwn sl37 (len_map _ _) (len_map _ _) h26 h27 (map_app _ _ _)) trivial rfl (From.ok (ps := [(some 3, 0), (some 5, 0)]) ⟨⟨_, rfl, rfl, rfl, rfl⟩, ⟨_, rfl, rfl, rfl, rfl⟩, trivial⟩) (.nil)))))))
    refine TL.freeze 0 rfl ?_
    obtain ⟨r102, h28, h⟩ := bind_inv h
    refine opT (take := [.blk 0 [.val (.int .i64 i79), .ref 13, .val (.int .i64 i80), .val (.bool b81)] 210]) (need := [.ro 13 1 (List.map en_int l94), .ro 15 5 (List.map en_api_RoundTower r100.2.1), .ro 16 1 (List.map en_Lint r100.2.2.1), .ro 17 4 (List.map en_api_RoundWinder r100.2.2.2.1), .ro 20 1 (List.map en_int (r101 ++ ([i78] : List Int)))]) (V' := [.ro 21 1 (List.map en_int r102.2.1), .blk 0 [.val (.int .i64 r102.1), .ref 21, .val (.int .i64 r102.2.2.1), .val (.bool r102.2.2.2)] 210, .ro 20 1 (List.map en_int (r101 ++ ([i78] : List Int))), .row 19 3 1 (List.map en_int ([i78] : List Int)), .any 18 (D.clip 1 (List.map en_int r101)), .ro 15 5 (List.map en_api_RoundTower r100.2.1), .ro 16 1 (List.map en_Lint r100.2.2.1), .ro 17 4 (List.map en_api_RoundWinder r100.2.2.2.1), .blk 14 [.ref 15, .ref 16, .ref 17, .val (.int .i64 r100.2.2.2.2.1), .val (.int .i64 r100.2.2.2.2.2.1), .val (.int .u16 r100.2.2.2.2.2.2.1), .val (.int .i64 r100.2.2.2.2.2.2.2.1), .val (.int .i64 r100.2.2.2.2.2.2.2.2.1), .val (.int .i64 r100.2.2.2.2.2.2.2.2.2.1), .val (.int .i64 r100.2.2.2.2.2.2.2.2.2.2.1), .val (.int .i64 r100.2.2.2.2.2.2.2.2.2.2.2.1), .val (.int .i64 r100.2.2.2.2.2.2.2.2.2.2.2.2.1), .val (.int .i64 r100.2.2.2.2.2.2.2.2.2.2.2.2.2.1), .val (.int .i64 r100.2.2.2.2.2.2.2.2.2.2.2.2.2.2)] 215, .ro 5 1 (List.map en_int l82), .blk 8 [.ref 2, .ref 3, .ref 4, .val (.int .i64 i83), .val (.int .i64 i84), .val (.int .u16 i85), .val (.int .i64 i86), .val (.int .i64 i87), .val (.int .i64 i88), .val (.int .i64 i89), .val (.int .i64 i90), .val (.int .i64 i91), .val (.int .i64 i92), .val (.int .i64 i93)] 215, .ro 13 1 (List.map en_int l94), .ro 2 5 (List.map en_api_RoundTower l95), .ro 3 1 (List.map en_Lint l96), .ro 4 4 (List.map en_api_RoundWinder l97), .inv 6 (marksI df), .pin 7 0 (env0 0)]) [7] [10, 3, 4, 5, 0] (ts_call (avs := [.ptr 0 0, .agg [.ref 15, .ref 16, .ref 17, .val (.int .i64 r100.2.2.2.2.1), .val (.int .i64 r100.2.2.2.2.2.1), .val (.int .u16 r100.2.2.2.2.2.2.1), .val (.int .i64 r100.2.2.2.2.2.2.2.1), .val (.int .i64 r100.2.2.2.2.2.2.2.2.1), .val (.int .i64 r100.2.2.2.2.2.2.2.2.2.1), .val (.int .i64 r100.2.2.2.2.2.2.2.2.2.2.1), .val (.int .i64 r100.2.2.2.2.2.2.2.2.2.2.2.1), .val (.int .i64 r100.2.2.2.2.2.2.2.2.2.2.2.2.1), .val (.int .i64 r100.2.2.2.2.2.2.2.2.2.2.2.2.2.1), .val (.int .i64 r100.2.2.2.2.2.2.2.2.2.2.2.2.2.2)], .ref 20]) (take := [.blk 0 [.val (.int .i64 i79), .ref 13, .val (.int .i64 i80), .val (.bool b81)] 210]) (need := [.ro 13 1 (List.map en_int l94), .ro 15 5 (List.map en_api_RoundTower r100.2.1), .ro 16 1 (List.map en_Lint r100.2.2.1), .ro 17 4 (List.map en_api_RoundWinder r100.2.2.2.1), .ro 20 1 (List.map en_int (r101 ++ ([i78] : List Int)))]) (v := .tup []) (news := [.ro 21 1 (List.map en_int r102.2.1), .blk 0 [.val (.int .i64 r102.1), .ref 21, .val (.int .i64 r102.2.2.1), .val (.bool r102.2.2.2)] 210]) rfl rfl rfl Try.call90 (atT [(1, 13), (2, 15), (3, 16), (4, 17), (5, 20)] [(500, 21)] (hself _ _ _ _ _ _ _ _ _ _ _ _ _ _ _ _ _ _ _ _ h28) rfl rfl rfl) rfl rfl) trivial rfl ⟨rfl, trivial⟩ ⟨rfl, rfl, rfl, rfl, rfl, trivial⟩ rfl rfl ?_
    refine TL.nil ?_
    refine TC.inBlock ?_
    refine TC.region ?_
    refine op0 (sp_move rfl rfl) rfl trivial rfl rfl ?_
    obtain ⟨h29, h⟩ := chk_inv h
    refine op0 (sp_add rfl rfl rfl h29) rfl trivial rfl rfl ?_
    refine op0 (sp_assign rfl rfl) rfl trivial rfl rfl ?_
    refine TL.nil ?_
    refine TC.inLoop ?_
    refine TC.seq ?_
    refine TC.seq ?_
    refine subJ [(13, 21)] (hk_p_round_search_try_l4 _ _ _ _ _ _ _ _ _ _ _ _ _ _ _ _ _ _ _ _ h) ?_ ?_ ?_
    · exact ⟨rfl, rfl, rfl, rfl, rfl, trivial⟩
    · exact ⟨mem_at 1 rfl, mem_at 9 rfl, mem_at 10 rfl, mem_at 0 rfl, mem_at 12 rfl, mem_at 13 rfl, mem_at 14 rfl, mem_at 15 rfl, mem_at 16 rfl, trivial⟩
    · rfl
  · have h := cond_f h h24
    refine TC.skip ?_
    refine TC.inBlock ?_
    refine TC.region ?_
    refine op0 (sp_move rfl rfl) rfl trivial rfl rfl ?_
    obtain ⟨h30, h⟩ := chk_inv h
    refine op0 (sp_add rfl rfl rfl h30) rfl trivial rfl rfl ?_
    refine op0 (sp_assign rfl rfl) rfl trivial rfl rfl ?_
    refine TL.nil ?_
    refine TC.inLoop ?_
    refine TC.seq ?_
    refine TC.seq ?_
    refine subJ [] (hk_p_round_search_try_l4 _ _ _ _ _ _ _ _ _ _ _ _ _ _ _ _ _ _ _ _ h) ?_ ?_ ?_
    · exact ⟨rfl, rfl, rfl, rfl, rfl, trivial⟩
    · exact ⟨mem_at 4 rfl, mem_at 5 rfl, mem_at 6 rfl, mem_at 7 rfl, mem_at 8 rfl, mem_at 9 rfl, mem_at 10 rfl, mem_at 11 rfl, mem_at 12 rfl, trivial⟩
    · rfl
def ev_p_round_search_try_l4 (n : Nat) (b77 : Bool) (self : Int → (List Int) → Int → Bool → (List (Int × Int × Int × Int × Int)) → (List ((List Int))) → (List (Int × Int × Int × Int)) → Int → Int → Int → Int → Int → Int → Int → Int → Int → Int → Int → (List Int) → Option (Int × (List Int) × Int × Bool)) : Nat → Int → Int → Int → Bool → (List Int) → Int → Int → Int → Int → Int → Int → Int → Int → Int → Int → Int → (List Int) → (List (Int × Int × Int × Int × Int)) → (List ((List Int))) → (List (Int × Int × Int × Int)) → Option (Int × (List Int) × Int × Bool)
  | 0, _, _, _, _, _, _, _, _, _, _, _, _, _, _, _, _, _, _, _, _ => none
  | m + 1, i78, i79, i80, b81, l82, i83, i84, i85, i86, i87, i88, i89, i90, i91, i92, i93, l94, l95, l96, l97 => cond (decide (i78 < (l95.length : Int))) (cond (i78 == (-1)) (cond b77 (chk (in64 (i78 + 1)) <| ev_p_round_search_try_l4 n b77 self m (i78 + 1) i79 i80 b81 l82 i83 i84 i85 i86 i87 i88 i89 i90 i91 i92 i93 l94 l95 l96 l97) (cond (i78 != (-1)) ((ev_round_set_has n i79 i78).bind fun r98 => cond (!r98) (chk (in64 (i78 + 1)) <| ev_p_round_search_try_l4 n b77 self m (i78 + 1) i79 i80 b81 l82 i83 i84 i85 i86 i87 i88 i89 i90 i91 i92 i93 l94 l95 l96 l97) ((ev_round_set_has n i90 i78).bind fun r99 => cond r99 (chk (in64 (i78 + 1)) <| ev_p_round_search_try_l4 n b77 self m (i78 + 1) i79 i80 b81 l82 i83 i84 i85 i86 i87 i88 i89 i90 i91 i92 i93 l94 l95 l96 l97) (ev_p_round_search_try_j5 n l95 l96 l97 i83 i84 i85 i86 i87 i88 i89 i90 i91 i92 i93 i78 l82 i79 l94 i80 b81 self (fun i78q i79q i80q b81q l82q i83q i84q i85q i86q i87q i88q i89q i90q i91q i92q i93q l94q l95q l96q l97q => ev_p_round_search_try_l4 n b77 self m i78q i79q i80q b81q l82q i83q i84q i85q i86q i87q i88q i89q i90q i91q i92q i93q l94q l95q l96q l97q)))) (ev_p_round_search_try_j5 n l95 l96 l97 i83 i84 i85 i86 i87 i88 i89 i90 i91 i92 i93 i78 l82 i79 l94 i80 b81 self (fun i78q i79q i80q b81q l82q i83q i84q i85q i86q i87q i88q i89q i90q i91q i92q i93q l94q l95q l96q l97q => ev_p_round_search_try_l4 n b77 self m i78q i79q i80q b81q l82q i83q i84q i85q i86q i87q i88q i89q i90q i91q i92q i93q l94q l95q l96q l97q)))) (cond (i78 != (-1)) ((ev_round_set_has n i79 i78).bind fun r103 => cond (!r103) (chk (in64 (i78 + 1)) <| ev_p_round_search_try_l4 n b77 self m (i78 + 1) i79 i80 b81 l82 i83 i84 i85 i86 i87 i88 i89 i90 i91 i92 i93 l94 l95 l96 l97) ((ev_round_set_has n i90 i78).bind fun r104 => cond r104 (chk (in64 (i78 + 1)) <| ev_p_round_search_try_l4 n b77 self m (i78 + 1) i79 i80 b81 l82 i83 i84 i85 i86 i87 i88 i89 i90 i91 i92 i93 l94 l95 l96 l97) (ev_p_round_search_try_j5 n l95 l96 l97 i83 i84 i85 i86 i87 i88 i89 i90 i91 i92 i93 i78 l82 i79 l94 i80 b81 self (fun i78q i79q i80q b81q l82q i83q i84q i85q i86q i87q i88q i89q i90q i91q i92q i93q l94q l95q l96q l97q => ev_p_round_search_try_l4 n b77 self m i78q i79q i80q b81q l82q i83q i84q i85q i86q i87q i88q i89q i90q i91q i92q i93q l94q l95q l96q l97q)))) (ev_p_round_search_try_j5 n l95 l96 l97 i83 i84 i85 i86 i87 i88 i89 i90 i91 i92 i93 i78 l82 i79 l94 i80 b81 self (fun i78q i79q i80q b81q l82q i83q i84q i85q i86q i87q i88q i89q i90q i91q i92q i93q l94q l95q l96q l97q => ev_p_round_search_try_l4 n b77 self m i78q i79q i80q b81q l82q i83q i84q i85q i86q i87q i88q i89q i90q i91q i92q i93q l94q l95q l96q l97q)))) (some (i79, l94, i80, b81))
set_option maxRecDepth 100000 in
set_option maxHeartbeats 2000000 in
theorem ok_p_round_search_try_l4 {n : Nat} {w0 : World} {M0 R0 : Nat → Prop} {env0 : Env} {df : List Deferred} {r : Int × (List Int) × Int × Bool} {b77 : Bool} {self : Int → (List Int) → Int → Bool → (List (Int × Int × Int × Int × Int)) → (List ((List Int))) → (List (Int × Int × Int × Int)) → Int → Int → Int → Int → Int → Int → Int → Int → Int → Int → Int → (List Int) → Option (Int × (List Int) × Int × Bool)} (hself : ∀ (s1z : Int) (s2z : List Int) (s3z : Int) (s4z : Bool) (w5z : List (Int × Int × Int × Int × Int)) (w6z : List ((List Int))) (w7z : List (Int × Int × Int × Int)) (w8z : Int) (w9z : Int) (w10z : Int) (w11z : Int) (w12z : Int) (w13z : Int) (w14z : Int) (w15z : Int) (w16z : Int) (w17z : Int) (w18z : Int) (steps19z : List Int) (r : Int × (List Int) × Int × Bool), self s1z s2z s3z s4z w5z w6z w7z w8z w9z w10z w11z w12z w13z w14z w15z w16z w17z w18z steps19z = some r → FT Try.prog 90 [.ptr 0 0, .agg [.ref 2, .ref 3, .ref 4, .val (.int .i64 w8z), .val (.int .i64 w9z), .val (.int .u16 w10z), .val (.int .i64 w11z), .val (.int .i64 w12z), .val (.int .i64 w13z), .val (.int .i64 w14z), .val (.int .i64 w15z), .val (.int .i64 w16z), .val (.int .i64 w17z), .val (.int .i64 w18z)], .ref 5] [.blk 0 [.val (.int .i64 s1z), .ref 1, .val (.int .i64 s3z), .val (.bool s4z)] 210] [.ro 1 1 (List.map en_int s2z), .ro 2 5 (List.map en_api_RoundTower w5z), .ro 3 1 (List.map en_Lint w6z), .ro 4 4 (List.map en_api_RoundWinder w7z), .ro 5 1 (List.map en_int steps19z)] (.tup []) [.ro 500 1 (List.map en_int r.2.1), .blk 0 [.val (.int .i64 r.1), .ref 500, .val (.int .i64 r.2.2.1), .val (.bool r.2.2.2)] 210]) : ∀ (m : Nat) (i78 : Int) (i79 : Int) (i80 : Int) (b81 : Bool) (l82 : List Int) (i83 : Int) (i84 : Int) (i85 : Int) (i86 : Int) (i87 : Int) (i88 : Int) (i89 : Int) (i90 : Int) (i91 : Int) (i92 : Int) (i93 : Int) (l94 : List Int) (l95 : List (Int × Int × Int × Int × Int)) (l96 : List ((List Int))) (l97 : List (Int × Int × Int × Int)), ev_p_round_search_try_l4 n b77 self m i78 i79 i80 b81 l82 i83 i84 i85 i86 i87 i88 i89 i90 i91 i92 i93 l94 l95 l96 l97 = some r → TC Try.prog ⟨w0, M0, R0⟩ ⟨118, none, df⟩ (bodyPostM Fence.wide 0 Try.prog Try.f90 (PostT ⟨w0, M0, R0⟩ env0 [0] (.tup []) [.ro 500 1 (List.map en_int r.2.1), .blk 0 [.val (.int .i64 r.1), .ref 500, .val (.int .i64 r.2.2.1), .val (.bool r.2.2.2)] 210])) [.code (sub (bodyOf Try.f90) [1, 1, 1, 1, 1, 0, 0, 0, 0]), .code (sub (bodyOf Try.f90) [1, 1, 1, 1, 1, 0, 0, 0, 1]), .code (sub (bodyOf Try.f90) [1, 1, 1, 1, 1, 0, 0, 1]), .inLoop (sub (bodyOf Try.f90) [1, 1, 1, 1, 1, 0, 0]), .inBlock 0] ([(0, .ptr 0 0), (2, .ref 5), (4, .ptr 8 0), (7, .val (.bool b77)), (8, .val (.int .i64 i78))]) ([.blk 0 [.val (.int .i64 i79), .ref 13, .val (.int .i64 i80), .val (.bool b81)] 210, .ro 5 1 (List.map en_int l82), .blk 8 [.ref 2, .ref 3, .ref 4, .val (.int .i64 i83), .val (.int .i64 i84), .val (.int .u16 i85), .val (.int .i64 i86), .val (.int .i64 i87), .val (.int .i64 i88), .val (.int .i64 i89), .val (.int .i64 i90), .val (.int .i64 i91), .val (.int .i64 i92), .val (.int .i64 i93)] 215, .ro 13 1 (List.map en_int l94), .ro 2 5 (List.map en_api_RoundTower l95), .ro 3 1 (List.map en_Lint l96), .ro 4 4 (List.map en_api_RoundWinder l97), .inv 6 (marksI df), .pin 7 0 (env0 0)]) := by
  intro m
  induction m with
  | zero => intro i78 i79 i80 b81 l82 i83 i84 i85 i86 i87 i88 i89 i90 i91 i92 i93 l94 l95 l96 l97 h; exact none_no h
  | succ m ih =>
    intro i78 i79 i80 b81 l82 i83 i84 i85 i86 i87 i88 i89 i90 i91 i92 i93 l94 l95 l96 l97 h
    rw [ev_p_round_search_try_l4] at h
    refine TC.region ?_
    refine op0 (sp_move rfl rfl) rfl trivial rfl rfl ?_
    refine op1 2 rfl (sp_fieldAddrB rfl isBlk rfl ft215_0 vt74 (by decide)) rfl trivial rfl rfl ?_
    refine op1 2 rfl (sp_fieldAddrB rfl isBlk rfl ft74_0 vt70 (by decide)) rfl trivial rfl rfl ?_
    refine op1 2 rfl (sp_loadB rfl isBlk rfl vt70 rfl) rfl trivial rfl rfl ?_
    refine op1 4 rfl (sp_lenM (N := l95.length) (len_map _ _) rfl rfl isRo Try.underlying70) rfl trivial rfl rfl ?_
    refine op0 (sp_lss rfl rfl rfl) rfl trivial rfl rfl ?_
    refine TL.nil ?_
    refine TC.cond (b := (decide (i78 < (l95.length : Int)))) rfl (fun h12 => ?_) (fun h12 => ?_)
    · have h := cond_t h h12
      refine TC.skip ?_
      refine TC.seq ?_
      refine TC.block ?_
      refine TC.seq ?_
      refine TC.seq ?_
      refine TC.region ?_
      refine op0 (sp_move rfl rfl) rfl trivial rfl rfl ?_
      refine op0 (sp_eql rfl rfl rfl) rfl trivial rfl rfl ?_
      refine op0 (sp_move rfl rfl) rfl trivial rfl rfl ?_
      rcases cond_cases h with ⟨h13, h⟩ | ⟨h13, h⟩
      · refine (boolLit 84 rfl h13).2 ?_
        refine op0 (sp_move rfl rfl) rfl ⟨_, rfl, rfl⟩ rfl rfl ?_
        refine op0 (sp_pickT rfl rfl rfl) rfl trivial rfl rfl ?_
        refine op0 (sp_move rfl rfl) rfl trivial rfl rfl ?_
        rcases cond_cases h with ⟨h14, h⟩ | ⟨h14, h⟩
        · refine (boolLit 87 rfl h14).2 ?_
          refine opSkip rfl ⟨_, rfl, .inl rfl⟩ rfl ?_
          refine opSkip rfl ⟨_, rfl, .inl rfl⟩ rfl ?_
          refine opSkip rfl ⟨_, rfl, .inl rfl⟩ rfl ?_
          refine opSkip rfl ⟨_, rfl, .inr rfl⟩ rfl ?_
          refine opSkip rfl ⟨_, rfl, .inr rfl⟩ rfl ?_
          refine opSkip rfl ⟨_, rfl, .inr rfl⟩ rfl ?_
          refine opSkip rfl ⟨_, rfl, .inr rfl⟩ rfl ?_
          refine opSkip rfl ⟨_, rfl, .inr rfl⟩ rfl ?_
          refine opSkip rfl ⟨_, rfl, .inr rfl⟩ rfl ?_
          refine opSkip rfl ⟨_, rfl, .inr rfl⟩ rfl ?_
          refine opSkip rfl ⟨_, rfl, .inr rfl⟩ rfl ?_
          refine opSkip rfl ⟨_, rfl, .inr rfl⟩ rfl ?_
          refine opSkip rfl ⟨_, rfl, .inr rfl⟩ rfl ?_
          refine opSkip rfl ⟨_, rfl, .inr rfl⟩ rfl ?_
          refine opSkip rfl ⟨_, rfl, .inr rfl⟩ rfl ?_
          refine opSkip rfl ⟨_, rfl, .inr rfl⟩ rfl ?_
          refine opSkip rfl ⟨_, rfl, .inl rfl⟩ rfl ?_
          refine op0 (sp_pickT rfl rfl rfl) rfl trivial rfl rfl ?_
          refine TL.nil ?_
          refine TC.condT rfl ?_
          refine TC.exit rfl ?_
          refine TC.region ?_
          refine op0 (sp_move rfl rfl) rfl trivial rfl rfl ?_
          obtain ⟨h15, h⟩ := chk_inv h
          refine op0 (sp_add rfl rfl rfl h15) rfl trivial rfl rfl ?_
          refine op0 (sp_assign rfl rfl) rfl trivial rfl rfl ?_
          refine TL.nil ?_
          refine TC.inLoop ?_
          refine TC.seq ?_
          refine TC.seq ?_
          refine subJ [] (ih _ _ _ _ _ _ _ _ _ _ _ _ _ _ _ _ _ _ _ _ h) ?_ ?_ ?_
          · exact ⟨rfl, rfl, rfl, rfl, rfl, trivial⟩
          · exact ⟨mem_at 0 rfl, mem_at 1 rfl, mem_at 2 rfl, mem_at 3 rfl, mem_at 4 rfl, mem_at 5 rfl, mem_at 6 rfl, mem_at 7 rfl, mem_at 8 rfl, trivial⟩
          · rfl
        · refine (boolLit 87 rfl h14).2 ?_
          refine op0 (sp_move rfl rfl) rfl ⟨_, rfl, rfl⟩ rfl rfl ?_
          refine op0 (sp_neq rfl rfl rfl) rfl ⟨_, rfl, rfl⟩ rfl rfl ?_
          refine op0 (sp_move rfl rfl) rfl ⟨_, rfl, rfl⟩ rfl rfl ?_
          rcases cond_cases h with ⟨h16, h⟩ | ⟨h16, h⟩
          · refine (boolLit 90 rfl h16).2 ?_
            refine op0 (sp_move rfl rfl) rfl ⟨_, rfl, rfl⟩ rfl rfl ?_
            refine op1 0 rfl (sp_nilCheck rfl isBlk rfl) rfl ⟨_, rfl, rfl⟩ rfl rfl ?_
            refine op1 0 rfl (sp_fieldAddrB rfl isBlk rfl ft210_0 vt205 (by decide)) rfl ⟨_, rfl, rfl⟩ rfl rfl ?_
            refine op1 0 rfl (sp_loadB rfl isBlk rfl vt205 rfl) rfl ⟨_, rfl, rfl⟩ rfl rfl ?_
            refine op0 (sp_move rfl rfl) rfl ⟨_, rfl, rfl⟩ rfl rfl ?_
            obtain ⟨r98, h17, h⟩ := bind_inv h
            refine op0 (sp_call (avs := [.val (.int .i64 i79), .val (.int .i64 i78)]) (need := []) (v := .val (.bool r98)) (news := []) rfl rfl rfl Try.call160 (atJ [] [] (fc_round_set_has h17) rfl rfl) (.inl (roAll rfl))) rfl ⟨_, rfl, rfl⟩ rfl rfl ?_
            refine op0 (sp_not rfl rfl) rfl ⟨_, rfl, rfl⟩ rfl rfl ?_
            refine op0 (sp_move rfl rfl) rfl ⟨_, rfl, rfl⟩ rfl rfl ?_
            rcases cond_cases h with ⟨h18, h⟩ | ⟨h18, h⟩
            · refine (boolLit 98 rfl h18).2 ?_
              refine opSkip rfl ⟨_, rfl, .inl rfl⟩ rfl ?_
              refine opSkip rfl ⟨_, rfl, .inl rfl⟩ rfl ?_
              refine opSkip rfl ⟨_, rfl, .inl rfl⟩ rfl ?_
              refine opSkip rfl ⟨_, rfl, .inl rfl⟩ rfl ?_
              refine op0 (sp_pickT rfl rfl rfl) rfl ⟨_, rfl, rfl⟩ rfl rfl ?_
              refine op0 (sp_pickT rfl rfl rfl) rfl ⟨_, rfl, rfl⟩ rfl rfl ?_
              refine op0 (sp_pickF rfl rfl rfl) rfl trivial rfl rfl ?_
              refine TL.nil ?_
              refine TC.condT rfl ?_
              refine TC.exit rfl ?_
              refine TC.region ?_
              refine op0 (sp_move rfl rfl) rfl trivial rfl rfl ?_
              obtain ⟨h19, h⟩ := chk_inv h
              refine op0 (sp_add rfl rfl rfl h19) rfl trivial rfl rfl ?_
              refine op0 (sp_assign rfl rfl) rfl trivial rfl rfl ?_
              refine TL.nil ?_
              refine TC.inLoop ?_
              refine TC.seq ?_
              refine TC.seq ?_
              refine subJ [] (ih _ _ _ _ _ _ _ _ _ _ _ _ _ _ _ _ _ _ _ _ h) ?_ ?_ ?_
              · exact ⟨rfl, rfl, rfl, rfl, rfl, trivial⟩
              · exact ⟨mem_at 0 rfl, mem_at 1 rfl, mem_at 2 rfl, mem_at 3 rfl, mem_at 4 rfl, mem_at 5 rfl, mem_at 6 rfl, mem_at 7 rfl, mem_at 8 rfl, trivial⟩
              · rfl
            · refine (boolLit 98 rfl h18).2 ?_
              refine op1 2 rfl (sp_fieldAddrB rfl isBlk rfl ft215_3 vt205 (by decide)) rfl ⟨_, rfl, rfl⟩ rfl rfl ?_
              refine op1 2 rfl (sp_loadB rfl isBlk rfl vt205 rfl) rfl ⟨_, rfl, rfl⟩ rfl rfl ?_
              refine op0 (sp_move rfl rfl) rfl ⟨_, rfl, rfl⟩ rfl rfl ?_
              obtain ⟨r99, h20, h⟩ := bind_inv h
              refine op0 (sp_call (avs := [.val (.int .i64 i90), .val (.int .i64 i78)]) (need := []) (v := .val (.bool r99)) (news := []) rfl rfl rfl Try.call160 (atJ [] [] (fc_round_set_has h20) rfl rfl) (.inl (roAll rfl))) rfl ⟨_, rfl, rfl⟩ rfl rfl ?_
              refine op0 (sp_pickF rfl rfl rfl) rfl ⟨_, rfl, rfl⟩ rfl rfl ?_
              refine op0 (sp_pickT rfl rfl rfl) rfl ⟨_, rfl, rfl⟩ rfl rfl ?_
              refine op0 (sp_pickF rfl rfl rfl) rfl trivial rfl rfl ?_
              refine TL.nil ?_
              refine TC.cond (b := r99) rfl (fun h21 => ?_) (fun h21 => ?_)
              · have h := cond_t h h21
                refine TC.exit rfl ?_
                refine TC.region ?_
                refine op0 (sp_move rfl rfl) rfl trivial rfl rfl ?_
                obtain ⟨h22, h⟩ := chk_inv h
                refine op0 (sp_add rfl rfl rfl h22) rfl trivial rfl rfl ?_
                refine op0 (sp_assign rfl rfl) rfl trivial rfl rfl ?_
                refine TL.nil ?_
                refine TC.inLoop ?_
                refine TC.seq ?_
                refine TC.seq ?_
                refine subJ [] (ih _ _ _ _ _ _ _ _ _ _ _ _ _ _ _ _ _ _ _ _ h) ?_ ?_ ?_
                · exact ⟨rfl, rfl, rfl, rfl, rfl, trivial⟩
                · exact ⟨mem_at 0 rfl, mem_at 1 rfl, mem_at 2 rfl, mem_at 3 rfl, mem_at 4 rfl, mem_at 5 rfl, mem_at 6 rfl, mem_at 7 rfl, mem_at 8 rfl, trivial⟩
                · rfl
              · have h := cond_f h h21
                refine subJ [] (ok_p_round_search_try_j5 (b77 := b77) hself ih h) ?_ ?_ ?_
                · exact ⟨rfl, rfl, rfl, rfl, rfl, trivial⟩
                · exact ⟨mem_at 0 rfl, mem_at 1 rfl, mem_at 2 rfl, mem_at 3 rfl, mem_at 4 rfl, mem_at 5 rfl, mem_at 6 rfl, mem_at 7 rfl, mem_at 8 rfl, trivial⟩
                · rfl
          · refine (boolLit 90 rfl h16).2 ?_
            refine opSkip rfl ⟨_, rfl, .inl rfl⟩ rfl ?_
            refine opSkip rfl ⟨_, rfl, .inl rfl⟩ rfl ?_
            refine opSkip rfl ⟨_, rfl, .inl rfl⟩ rfl ?_
            refine opSkip rfl ⟨_, rfl, .inl rfl⟩ rfl ?_
            refine opSkip rfl ⟨_, rfl, .inl rfl⟩ rfl ?_
            refine opSkip rfl ⟨_, rfl, .inl rfl⟩ rfl ?_
            refine opSkip rfl ⟨_, rfl, .inl rfl⟩ rfl ?_
            refine opSkip rfl ⟨_, rfl, .inl rfl⟩ rfl ?_
            refine opSkip rfl ⟨_, rfl, .inr rfl⟩ rfl ?_
            refine opSkip rfl ⟨_, rfl, .inr rfl⟩ rfl ?_
            refine opSkip rfl ⟨_, rfl, .inr rfl⟩ rfl ?_
            refine opSkip rfl ⟨_, rfl, .inr rfl⟩ rfl ?_
            refine opSkip rfl ⟨_, rfl, .inl rfl⟩ rfl ?_
            refine op0 (sp_pickF rfl rfl rfl) rfl ⟨_, rfl, rfl⟩ rfl rfl ?_
            refine op0 (sp_pickF rfl rfl rfl) rfl trivial rfl rfl ?_
            refine TL.nil ?_
            refine TC.condF rfl ?_
            refine subJ [] (ok_p_round_search_try_j5 (b77 := b77) hself ih h) ?_ ?_ ?_
            · exact ⟨rfl, rfl, rfl, rfl, rfl, trivial⟩
            · exact ⟨mem_at 0 rfl, mem_at 1 rfl, mem_at 2 rfl, mem_at 3 rfl, mem_at 4 rfl, mem_at 5 rfl, mem_at 6 rfl, mem_at 7 rfl, mem_at 8 rfl, trivial⟩
            · rfl
      · refine (boolLit 84 rfl h13).2 ?_
        refine opSkip rfl ⟨_, rfl, .inl rfl⟩ rfl ?_
        refine op0 (sp_pickF rfl rfl rfl) rfl trivial rfl rfl ?_
        refine op0 (sp_move rfl rfl) rfl trivial rfl rfl ?_
        refine op0 (sp_move rfl rfl) rfl ⟨_, rfl, rfl⟩ rfl rfl ?_
        refine op0 (sp_neq rfl rfl rfl) rfl ⟨_, rfl, rfl⟩ rfl rfl ?_
        refine op0 (sp_move rfl rfl) rfl ⟨_, rfl, rfl⟩ rfl rfl ?_
        rcases cond_cases h with ⟨h31, h⟩ | ⟨h31, h⟩
        · refine (boolLit 90 rfl h31).2 ?_
          refine op0 (sp_move rfl rfl) rfl ⟨_, rfl, rfl⟩ rfl rfl ?_
          refine op1 0 rfl (sp_nilCheck rfl isBlk rfl) rfl ⟨_, rfl, rfl⟩ rfl rfl ?_
          refine op1 0 rfl (sp_fieldAddrB rfl isBlk rfl ft210_0 vt205 (by decide)) rfl ⟨_, rfl, rfl⟩ rfl rfl ?_
          refine op1 0 rfl (sp_loadB rfl isBlk rfl vt205 rfl) rfl ⟨_, rfl, rfl⟩ rfl rfl ?_
          refine op0 (sp_move rfl rfl) rfl ⟨_, rfl, rfl⟩ rfl rfl ?_
          obtain ⟨r103, h32, h⟩ := bind_inv h
          refine op0 (sp_call (avs := [.val (.int .i64 i79), .val (.int .i64 i78)]) (need := []) (v := .val (.bool r103)) (news := []) rfl rfl rfl Try.call160 (atJ [] [] (fc_round_set_has h32) rfl rfl) (.inl (roAll rfl))) rfl ⟨_, rfl, rfl⟩ rfl rfl ?_
          refine op0 (sp_not rfl rfl) rfl ⟨_, rfl, rfl⟩ rfl rfl ?_
          refine op0 (sp_move rfl rfl) rfl ⟨_, rfl, rfl⟩ rfl rfl ?_
          rcases cond_cases h with ⟨h33, h⟩ | ⟨h33, h⟩
          · refine (boolLit 98 rfl h33).2 ?_
            refine opSkip rfl ⟨_, rfl, .inl rfl⟩ rfl ?_
            refine opSkip rfl ⟨_, rfl, .inl rfl⟩ rfl ?_
            refine opSkip rfl ⟨_, rfl, .inl rfl⟩ rfl ?_
            refine opSkip rfl ⟨_, rfl, .inl rfl⟩ rfl ?_
            refine op0 (sp_pickT rfl rfl rfl) rfl ⟨_, rfl, rfl⟩ rfl rfl ?_
            refine op0 (sp_pickT rfl rfl rfl) rfl ⟨_, rfl, rfl⟩ rfl rfl ?_
            refine op0 (sp_pickF rfl rfl rfl) rfl trivial rfl rfl ?_
            refine TL.nil ?_
            refine TC.condT rfl ?_
            refine TC.exit rfl ?_
            refine TC.region ?_
            refine op0 (sp_move rfl rfl) rfl trivial rfl rfl ?_
            obtain ⟨h34, h⟩ := chk_inv h
            refine op0 (sp_add rfl rfl rfl h34) rfl trivial rfl rfl ?_
            refine op0 (sp_assign rfl rfl) rfl trivial rfl rfl ?_
            refine TL.nil ?_
            refine TC.inLoop ?_
            refine TC.seq ?_
            refine TC.seq ?_
            refine subJ [] (ih _ _ _ _ _ _ _ _ _ _ _ _ _ _ _ _ _ _ _ _ h) ?_ ?_ ?_
            · exact ⟨rfl, rfl, rfl, rfl, rfl, trivial⟩
            · exact ⟨mem_at 0 rfl, mem_at 1 rfl, mem_at 2 rfl, mem_at 3 rfl, mem_at 4 rfl, mem_at 5 rfl, mem_at 6 rfl, mem_at 7 rfl, mem_at 8 rfl, trivial⟩
            · rfl
          · refine (boolLit 98 rfl h33).2 ?_
            refine op1 2 rfl (sp_fieldAddrB rfl isBlk rfl ft215_3 vt205 (by decide)) rfl ⟨_, rfl, rfl⟩ rfl rfl ?_
            refine op1 2 rfl (sp_loadB rfl isBlk rfl vt205 rfl) rfl ⟨_, rfl, rfl⟩ rfl rfl ?_
            refine op0 (sp_move rfl rfl) rfl ⟨_, rfl, rfl⟩ rfl rfl ?_
            obtain ⟨r104, h35, h⟩ := bind_inv h
            refine op0 (sp_call (avs := [.val (.int .i64 i90), .val (.int .i64 i78)]) (need := []) (v := .val (.bool r104)) (news := []) rfl rfl rfl Try.call160 (atJ [] [] (fc_round_set_has h35) rfl rfl) (.inl (roAll rfl))) rfl ⟨_, rfl, rfl⟩ rfl rfl ?_
            refine op0 (sp_pickF rfl rfl rfl) rfl ⟨_, rfl, rfl⟩ rfl rfl ?_
            refine op0 (sp_pickT rfl rfl rfl) rfl ⟨_, rfl, rfl⟩ rfl rfl ?_
            refine op0 (sp_pickF rfl rfl rfl) rfl trivial rfl rfl ?_
            refine TL.nil ?_
            refine TC.cond (b := r104) rfl (fun h36 => ?_) (fun h36 => ?_)
            · have h := cond_t h h36
              refine TC.exit rfl ?_
              refine TC.region ?_
              refine op0 (sp_move rfl rfl) rfl trivial rfl rfl ?_
              obtain ⟨h37, h⟩ := chk_inv h
              refine op0 (sp_add rfl rfl rfl h37) rfl trivial rfl rfl ?_
              refine op0 (sp_assign rfl rfl) rfl trivial rfl rfl ?_
              refine TL.nil ?_
              refine TC.inLoop ?_
              refine TC.seq ?_
              refine TC.seq ?_
              refine subJ [] (ih _ _ _ _ _ _ _ _ _ _ _ _ _ _ _ _ _ _ _ _ h) ?_ ?_ ?_
              · exact ⟨rfl, rfl, rfl, rfl, rfl, trivial⟩
              · exact ⟨mem_at 0 rfl, mem_at 1 rfl, mem_at 2 rfl, mem_at 3 rfl, mem_at 4 rfl, mem_at 5 rfl, mem_at 6 rfl, mem_at 7 rfl, mem_at 8 rfl, trivial⟩
              · rfl
            · have h := cond_f h h36
              refine subJ [] (ok_p_round_search_try_j5 (b77 := b77) hself ih h) ?_ ?_ ?_
              · exact ⟨rfl, rfl, rfl, rfl, rfl, trivial⟩
              · exact ⟨mem_at 0 rfl, mem_at 1 rfl, mem_at 2 rfl, mem_at 3 rfl, mem_at 4 rfl, mem_at 5 rfl, mem_at 6 rfl, mem_at 7 rfl, mem_at 8 rfl, trivial⟩
              · rfl
        · refine (boolLit 90 rfl h31).2 ?_
          refine opSkip rfl ⟨_, rfl, .inl rfl⟩ rfl ?_
          refine opSkip rfl ⟨_, rfl, .inl rfl⟩ rfl ?_
          refine opSkip rfl ⟨_, rfl, .inl rfl⟩ rfl ?_
          refine opSkip rfl ⟨_, rfl, .inl rfl⟩ rfl ?_
          refine opSkip rfl ⟨_, rfl, .inl rfl⟩ rfl ?_
          refine opSkip rfl ⟨_, rfl, .inl rfl⟩ rfl ?_
          refine opSkip rfl ⟨_, rfl, .inl rfl⟩ rfl ?_
          refine opSkip rfl ⟨_, rfl, .inl rfl⟩ rfl ?_
          refine opSkip rfl ⟨_, rfl, .inr rfl⟩ rfl ?_
          refine opSkip rfl ⟨_, rfl, .inr rfl⟩ rfl ?_
          refine opSkip rfl ⟨_, rfl, .inr rfl⟩ rfl ?_
          refine opSkip rfl ⟨_, rfl, .inr rfl⟩ rfl ?_
          refine opSkip rfl ⟨_, rfl, .inl rfl⟩ rfl ?_
          refine op0 (sp_pickF rfl rfl rfl) rfl ⟨_, rfl, rfl⟩ rfl rfl ?_
          refine op0 (sp_pickF rfl rfl rfl) rfl trivial rfl rfl ?_
          refine TL.nil ?_
          refine TC.condF rfl ?_
          refine subJ [] (ok_p_round_search_try_j5 (b77 := b77) hself ih h) ?_ ?_ ?_
          · exact ⟨rfl, rfl, rfl, rfl, rfl, trivial⟩
          · exact ⟨mem_at 0 rfl, mem_at 1 rfl, mem_at 2 rfl, mem_at 3 rfl, mem_at 4 rfl, mem_at 5 rfl, mem_at 6 rfl, mem_at 7 rfl, mem_at 8 rfl, trivial⟩
          · rfl
    · have h := cond_f h h12
      refine TC.exit rfl ?_
      cases h
      exact endM [(500, 13)] 7 6 [0] rfl (.nil) rfl ⟨mem_at 3 rfl, mem_at 0 rfl, trivial⟩ rfl rfl ⟨⟨_, mem_at 7 rfl⟩, trivial⟩ rfl
def ev_p_round_search_try_j3 (n : Nat) (i56 : Int) (i57 : Int) (b58 : Bool) (l59 : List Int) (i60 : Int) (i61 : Int) (i62 : Int) (i63 : Int) (i65 : Int) (i66 : Int) (i67 : Int) (i68 : Int) (i69 : Int) (i70 : Int) (i71 : Int) (l72 : List Int) (l73 : List (Int × Int × Int × Int × Int)) (l74 : List ((List Int))) (l75 : List (Int × Int × Int × Int)) (self : Int → (List Int) → Int → Bool → (List (Int × Int × Int × Int × Int)) → (List ((List Int))) → (List (Int × Int × Int × Int)) → Int → Int → Int → Int → Int → Int → Int → Int → Int → Int → Int → (List Int) → Option (Int × (List Int) × Int × Bool)) (b77 : Bool) : Option (Int × (List Int) × Int × Bool) :=
  ev_p_round_search_try_l4 n b77 self n (-1) i56 i57 b58 l59 i60 i61 i62 i63 i65 i66 i67 i68 i69 i70 i71 l72 l73 l74 l75
set_option maxRecDepth 100000 in
set_option maxHeartbeats 2000000 in
theorem ok_p_round_search_try_j3 {n : Nat} {w0 : World} {M0 R0 : Nat → Prop} {env0 : Env} {df : List Deferred} {r : Int × (List Int) × Int × Bool} {i56 : Int} {i57 : Int} {b58 : Bool} {l59 : List Int} {i60 : Int} {i61 : Int} {i62 : Int} {i63 : Int} {i65 : Int} {i66 : Int} {i67 : Int} {i68 : Int} {i69 : Int} {i70 : Int} {i71 : Int} {l72 : List Int} {l73 : List (Int × Int × Int × Int × Int)} {l74 : List ((List Int))} {l75 : List (Int × Int × Int × Int)} {self : Int → (List Int) → Int → Bool → (List (Int × Int × Int × Int × Int)) → (List ((List Int))) → (List (Int × Int × Int × Int)) → Int → Int → Int → Int → Int → Int → Int → Int → Int → Int → Int → (List Int) → Option (Int × (List Int) × Int × Bool)} {b77 : Bool} (hself : ∀ (s1z : Int) (s2z : List Int) (s3z : Int) (s4z : Bool) (w5z : List (Int × Int × Int × Int × Int)) (w6z : List ((List Int))) (w7z : List (Int × Int × Int × Int)) (w8z : Int) (w9z : Int) (w10z : Int) (w11z : Int) (w12z : Int) (w13z : Int) (w14z : Int) (w15z : Int) (w16z : Int) (w17z : Int) (w18z : Int) (steps19z : List Int) (r : Int × (List Int) × Int × Bool), self s1z s2z s3z s4z w5z w6z w7z w8z w9z w10z w11z w12z w13z w14z w15z w16z w17z w18z steps19z = some r → FT Try.prog 90 [.ptr 0 0, .agg [.ref 2, .ref 3, .ref 4, .val (.int .i64 w8z), .val (.int .i64 w9z), .val (.int .u16 w10z), .val (.int .i64 w11z), .val (.int .i64 w12z), .val (.int .i64 w13z), .val (.int .i64 w14z), .val (.int .i64 w15z), .val (.int .i64 w16z), .val (.int .i64 w17z), .val (.int .i64 w18z)], .ref 5] [.blk 0 [.val (.int .i64 s1z), .ref 1, .val (.int .i64 s3z), .val (.bool s4z)] 210] [.ro 1 1 (List.map en_int s2z), .ro 2 5 (List.map en_api_RoundTower w5z), .ro 3 1 (List.map en_Lint w6z), .ro 4 4 (List.map en_api_RoundWinder w7z), .ro 5 1 (List.map en_int steps19z)] (.tup []) [.ro 500 1 (List.map en_int r.2.1), .blk 0 [.val (.int .i64 r.1), .ref 500, .val (.int .i64 r.2.2.1), .val (.bool r.2.2.2)] 210]) (h : ev_p_round_search_try_j3 n i56 i57 b58 l59 i60 i61 i62 i63 i65 i66 i67 i68 i69 i70 i71 l72 l73 l74 l75 self b77 = some r) : TC Try.prog ⟨w0, M0, R0⟩ ⟨118, none, df⟩ (bodyPostM Fence.wide 0 Try.prog Try.f90 (PostT ⟨w0, M0, R0⟩ env0 [0] (.tup []) [.ro 500 1 (List.map en_int r.2.1), .blk 0 [.val (.int .i64 r.1), .ref 500, .val (.int .i64 r.2.2.1), .val (.bool r.2.2.2)] 210])) [.code (sub (bodyOf Try.f90) [1, 1, 1, 1, 0]), .code (sub (bodyOf Try.f90) [1, 1, 1, 1, 1])] ([(0, .ptr 0 0), (2, .ref 5), (4, .ptr 8 0), (7, .val (.bool b77))]) ([.blk 0 [.val (.int .i64 i56), .ref 13, .val (.int .i64 i57), .val (.bool b58)] 210, .ro 5 1 (List.map en_int l59), .blk 8 [.ref 2, .ref 3, .ref 4, .val (.int .i64 i60), .val (.int .i64 i61), .val (.int .u16 i62), .val (.int .i64 i63), .val (.int .i64 i65), .val (.int .i64 i66), .val (.int .i64 i67), .val (.int .i64 i68), .val (.int .i64 i69), .val (.int .i64 i70), .val (.int .i64 i71)] 215, .ro 13 1 (List.map en_int l72), .ro 2 5 (List.map en_api_RoundTower l73), .ro 3 1 (List.map en_Lint l74), .ro 4 4 (List.map en_api_RoundWinder l75), .inv 6 (marksI df), .pin 7 0 (env0 0)]) := by
  rw [ev_p_round_search_try_j3] at h
  refine TC.region ?_
  refine op0 (sp_assign rfl rfl) rfl trivial rfl rfl ?_
  refine TL.nil ?_
  refine TC.block ?_
  refine TC.loop ?_
  refine TC.seq ?_
  refine TC.seq ?_
  refine subJ [] (ok_p_round_search_try_l4 hself _ _ _ _ _ _ _ _ _ _ _ _ _ _ _ _ _ _ _ _ _ h) ?_ ?_ ?_
  · exact ⟨rfl, rfl, rfl, rfl, rfl, trivial⟩
  · exact ⟨mem_at 0 rfl, mem_at 1 rfl, mem_at 2 rfl, mem_at 3 rfl, mem_at 4 rfl, mem_at 5 rfl, mem_at 6 rfl, mem_at 7 rfl, mem_at 8 rfl, trivial⟩
  · rfl
def ev_p_round_search_try_j2 (n : Nat) (self : Int → (List Int) → Int → Bool → (List (Int × Int × Int × Int × Int)) → (List ((List Int))) → (List (Int × Int × Int × Int)) → Int → Int → Int → Int → Int → Int → Int → Int → Int → Int → Int → (List Int) → Option (Int × (List Int) × Int × Bool)) (i56 : Int) (i57 : Int) (b58 : Bool) (l59 : List Int) (i60 : Int) (i61 : Int) (i62 : Int) (i63 : Int) (i65 : Int) (i66 : Int) (i67 : Int) (i68 : Int) (i69 : Int) (i70 : Int) (i71 : Int) (l72 : List Int) (l73 : List (Int × Int × Int × Int × Int)) (l74 : List ((List Int))) (l75 : List (Int × Int × Int × Int)) : Option (Int × (List Int) × Int × Bool) :=
  cond (decide ((0 : Int) < (l59.length : Int))) (chk (in64 ((l59.length : Int) - 1)) <| idx l59 ((l59.length : Int) - 1) fun x76 => ev_p_round_search_try_j3 n i56 i57 b58 l59 i60 i61 i62 i63 i65 i66 i67 i68 i69 i70 i71 l72 l73 l74 l75 self (x76 == (-1))) (ev_p_round_search_try_j3 n i56 i57 b58 l59 i60 i61 i62 i63 i65 i66 i67 i68 i69 i70 i71 l72 l73 l74 l75 self false)
set_option maxRecDepth 100000 in
set_option maxHeartbeats 2000000 in
theorem ok_p_round_search_try_j2 {n : Nat} {w0 : World} {M0 R0 : Nat → Prop} {env0 : Env} {df : List Deferred} {r : Int × (List Int) × Int × Bool} {self : Int → (List Int) → Int → Bool → (List (Int × Int × Int × Int × Int)) → (List ((List Int))) → (List (Int × Int × Int × Int)) → Int → Int → Int → Int → Int → Int → Int → Int → Int → Int → Int → (List Int) → Option (Int × (List Int) × Int × Bool)} {i56 : Int} {i57 : Int} {b58 : Bool} {l59 : List Int} {i60 : Int} {i61 : Int} {i62 : Int} {i63 : Int} {i65 : Int} {i66 : Int} {i67 : Int} {i68 : Int} {i69 : Int} {i70 : Int} {i71 : Int} {l72 : List Int} {l73 : List (Int × Int × Int × Int × Int)} {l74 : List ((List Int))} {l75 : List (Int × Int × Int × Int)} (hself : ∀ (s1z : Int) (s2z : List Int) (s3z : Int) (s4z : Bool) (w5z : List (Int × Int × Int × Int × Int)) (w6z : List ((List Int))) (w7z : List (Int × Int × Int × Int)) (w8z : Int) (w9z : Int) (w10z : Int) (w11z : Int) (w12z : Int) (w13z : Int) (w14z : Int) (w15z : Int) (w16z : Int) (w17z : Int) (w18z : Int) (steps19z : List Int) (r : Int × (List Int) × Int × Bool), self s1z s2z s3z s4z w5z w6z w7z w8z w9z w10z w11z w12z w13z w14z w15z w16z w17z w18z steps19z = some r → FT Try.prog 90 [.ptr 0 0, .agg [.ref 2, .ref 3, .ref 4, .val (.int .i64 w8z), .val (.int .i64 w9z), .val (.int .u16 w10z), .val (.int .i64 w11z), .val (.int .i64 w12z), .val (.int .i64 w13z), .val (.int .i64 w14z), .val (.int .i64 w15z), .val (.int .i64 w16z), .val (.int .i64 w17z), .val (.int .i64 w18z)], .ref 5] [.blk 0 [.val (.int .i64 s1z), .ref 1, .val (.int .i64 s3z), .val (.bool s4z)] 210] [.ro 1 1 (List.map en_int s2z), .ro 2 5 (List.map en_api_RoundTower w5z), .ro 3 1 (List.map en_Lint w6z), .ro 4 4 (List.map en_api_RoundWinder w7z), .ro 5 1 (List.map en_int steps19z)] (.tup []) [.ro 500 1 (List.map en_int r.2.1), .blk 0 [.val (.int .i64 r.1), .ref 500, .val (.int .i64 r.2.2.1), .val (.bool r.2.2.2)] 210]) (h : ev_p_round_search_try_j2 n self i56 i57 b58 l59 i60 i61 i62 i63 i65 i66 i67 i68 i69 i70 i71 l72 l73 l74 l75 = some r) : TC Try.prog ⟨w0, M0, R0⟩ ⟨118, none, df⟩ (bodyPostM Fence.wide 0 Try.prog Try.f90 (PostT ⟨w0, M0, R0⟩ env0 [0] (.tup []) [.ro 500 1 (List.map en_int r.2.1), .blk 0 [.val (.int .i64 r.1), .ref 500, .val (.int .i64 r.2.2.1), .val (.bool r.2.2.2)] 210])) [.code (sub (bodyOf Try.f90) [1, 1, 1, 0]), .code (sub (bodyOf Try.f90) [1, 1, 1, 1])] ([(0, .ptr 0 0), (2, .ref 5), (4, .ptr 8 0)]) ([.blk 0 [.val (.int .i64 i56), .ref 13, .val (.int .i64 i57), .val (.bool b58)] 210, .ro 5 1 (List.map en_int l59), .blk 8 [.ref 2, .ref 3, .ref 4, .val (.int .i64 i60), .val (.int .i64 i61), .val (.int .u16 i62), .val (.int .i64 i63), .val (.int .i64 i65), .val (.int .i64 i66), .val (.int .i64 i67), .val (.int .i64 i68), .val (.int .i64 i69), .val (.int .i64 i70), .val (.int .i64 i71)] 215, .ro 13 1 (List.map en_int l72), .ro 2 5 (List.map en_api_RoundTower l73), .ro 3 1 (List.map en_Lint l74), .ro 4 4 (List.map en_api_RoundWinder l75), .inv 6 (marksI df), .pin 7 0 (env0 0)]) := by
  rw [ev_p_round_search_try_j2] at h
  refine TC.region ?_
  refine op0 (sp_move rfl rfl) rfl trivial rfl rfl ?_
  refine op1 1 rfl (sp_lenM (N := l59.length) (len_map _ _) rfl rfl isRo Try.underlying37) rfl trivial rfl rfl ?_
  refine op0 (sp_gtr rfl rfl rfl) rfl trivial rfl rfl ?_
  refine op0 (sp_move rfl rfl) rfl trivial rfl rfl ?_
  rcases cond_cases h with ⟨h8, h⟩ | ⟨h8, h⟩
  · refine (boolLit 65 rfl h8).2 ?_
    refine op0 (sp_move rfl rfl) rfl ⟨_, rfl, rfl⟩ rfl rfl ?_
    refine op0 (sp_move rfl rfl) rfl ⟨_, rfl, rfl⟩ rfl rfl ?_
    refine op1 1 rfl (sp_lenM (N := l59.length) (len_map _ _) rfl rfl isRo Try.underlying37) rfl ⟨_, rfl, rfl⟩ rfl rfl ?_
    obtain ⟨h9, h⟩ := chk_inv h
    refine op0 (sp_sub rfl rfl rfl h9) rfl ⟨_, rfl, rfl⟩ rfl rfl ?_
    obtain ⟨x76, h10, h11, h⟩ := idx_inv h
    refine op1 1 rfl (sp_indexS rfl rfl rfl isRo sl37 h10 (map_get _ h11)) rfl ⟨_, rfl, rfl⟩ rfl rfl ?_
    refine op1 1 rfl (sp_loadR (i := (((l59.length : Int) - 1) : Int).toNat) (j := 0) rfl rfl isRo vt3 rfl (map_get _ h11) rfl (.v (.nil)) (nodup_of_B rfl)) rfl ⟨_, rfl, rfl⟩ rfl rfl ?_
    refine op0 (sp_eql rfl rfl rfl) rfl ⟨_, rfl, rfl⟩ rfl rfl ?_
    refine op0 (sp_pickT rfl rfl rfl) rfl trivial rfl rfl ?_
    refine op0 (sp_assign rfl rfl) rfl trivial rfl rfl ?_
    refine TL.nil ?_
    refine TC.seq ?_
    refine subJ [] (ok_p_round_search_try_j3 hself h) ?_ ?_ ?_
    · exact ⟨rfl, rfl, rfl, rfl, trivial⟩
    · exact ⟨mem_at 0 rfl, mem_at 1 rfl, mem_at 2 rfl, mem_at 3 rfl, mem_at 4 rfl, mem_at 5 rfl, mem_at 6 rfl, mem_at 7 rfl, mem_at 8 rfl, trivial⟩
    · rfl
  · refine (boolLit 65 rfl h8).2 ?_
    refine opSkip rfl ⟨_, rfl, .inl rfl⟩ rfl ?_
    refine opSkip rfl ⟨_, rfl, .inl rfl⟩ rfl ?_
    refine opSkip rfl ⟨_, rfl, .inl rfl⟩ rfl ?_
    refine opSkip rfl ⟨_, rfl, .inl rfl⟩ rfl ?_
    refine opSkip rfl ⟨_, rfl, .inl rfl⟩ rfl ?_
    refine opSkip rfl ⟨_, rfl, .inl rfl⟩ rfl ?_
    refine opSkip rfl ⟨_, rfl, .inl rfl⟩ rfl ?_
    refine op0 (sp_pickF rfl rfl rfl) rfl trivial rfl rfl ?_
    refine op0 (sp_assign rfl rfl) rfl trivial rfl rfl ?_
    refine TL.nil ?_
    refine TC.seq ?_
    refine subJ [] (ok_p_round_search_try_j3 hself h) ?_ ?_ ?_
    · exact ⟨rfl, rfl, rfl, rfl, trivial⟩
    · exact ⟨mem_at 0 rfl, mem_at 1 rfl, mem_at 2 rfl, mem_at 3 rfl, mem_at 4 rfl, mem_at 5 rfl, mem_at 6 rfl, mem_at 7 rfl, mem_at 8 rfl, trivial⟩
    · rfl
def ev_p_round_search_try_j1 (n : Nat) (self : Int → (List Int) → Int → Bool → (List (Int × Int × Int × Int × Int)) → (List ((List Int))) → (List (Int × Int × Int × Int)) → Int → Int → Int → Int → Int → Int → Int → Int → Int → Int → Int → (List Int) → Option (Int × (List Int) × Int × Bool)) (i21 : Int) (i22 : Int) (b23 : Bool) (l24 : List Int) (i25 : Int) (i26 : Int) (i27 : Int) (i28 : Int) (i29 : Int) (i30 : Int) (i31 : Int) (i33 : Int) (i34 : Int) (i35 : Int) (i36 : Int) (i37 : Int) (i38 : Int) (i39 : Int) (i40 : Int) (i41 : Int) (i42 : Int) (i43 : Int) (i44 : Int) (i45 : Int) (i46 : Int) (i47 : Int) (l48 : List Int) (l49 : List (Int × Int × Int × Int × Int)) (l50 : List ((List Int))) (l51 : List (Int × Int × Int × Int)) (l52 : List (Int × Int × Int × Int × Int)) (l53 : List ((List Int))) (l54 : List (Int × Int × Int × Int)) : Option (Int × (List Int) × Int × Bool) :=
  (ev_slices_Clone_Lint_int n l24).bind fun r55 => ev_p_round_search_try_j2 n self i21 i47 true l24 i25 i26 i27 i28 i29 i30 i31 i33 i34 i35 i36 r55 l49 l50 l51
set_option maxRecDepth 100000 in
set_option maxHeartbeats 2000000 in
theorem ok_p_round_search_try_j1 {n : Nat} {w0 : World} {M0 R0 : Nat → Prop} {env0 : Env} {df : List Deferred} {r : Int × (List Int) × Int × Bool} {self : Int → (List Int) → Int → Bool → (List (Int × Int × Int × Int × Int)) → (List ((List Int))) → (List (Int × Int × Int × Int)) → Int → Int → Int → Int → Int → Int → Int → Int → Int → Int → Int → (List Int) → Option (Int × (List Int) × Int × Bool)} {i21 : Int} {i22 : Int} {b23 : Bool} {l24 : List Int} {i25 : Int} {i26 : Int} {i27 : Int} {i28 : Int} {i29 : Int} {i30 : Int} {i31 : Int} {i33 : Int} {i34 : Int} {i35 : Int} {i36 : Int} {i37 : Int} {i38 : Int} {i39 : Int} {i40 : Int} {i41 : Int} {i42 : Int} {i43 : Int} {i44 : Int} {i45 : Int} {i46 : Int} {i47 : Int} {l48 : List Int} {l49 : List (Int × Int × Int × Int × Int)} {l50 : List ((List Int))} {l51 : List (Int × Int × Int × Int)} {l52 : List (Int × Int × Int × Int × Int)} {l53 : List ((List Int))} {l54 : List (Int × Int × Int × Int)} (hself : ∀ (s1z : Int) (s2z : List Int) (s3z : Int) (s4z : Bool) (w5z : List (Int × Int × Int × Int × Int)) (w6z : List ((List Int))) (w7z : List (Int × Int × Int × Int)) (w8z : Int) (w9z : Int) (w10z : Int) (w11z : Int) (w12z : Int) (w13z : Int) (w14z : Int) (w15z : Int) (w16z : Int) (w17z : Int) (w18z : Int) (steps19z : List Int) (r : Int × (List Int) × Int × Bool), self s1z s2z s3z s4z w5z w6z w7z w8z w9z w10z w11z w12z w13z w14z w15z w16z w17z w18z steps19z = some r → FT Try.prog 90 [.ptr 0 0, .agg [.ref 2, .ref 3, .ref 4, .val (.int .i64 w8z), .val (.int .i64 w9z), .val (.int .u16 w10z), .val (.int .i64 w11z), .val (.int .i64 w12z), .val (.int .i64 w13z), .val (.int .i64 w14z), .val (.int .i64 w15z), .val (.int .i64 w16z), .val (.int .i64 w17z), .val (.int .i64 w18z)], .ref 5] [.blk 0 [.val (.int .i64 s1z), .ref 1, .val (.int .i64 s3z), .val (.bool s4z)] 210] [.ro 1 1 (List.map en_int s2z), .ro 2 5 (List.map en_api_RoundTower w5z), .ro 3 1 (List.map en_Lint w6z), .ro 4 4 (List.map en_api_RoundWinder w7z), .ro 5 1 (List.map en_int steps19z)] (.tup []) [.ro 500 1 (List.map en_int r.2.1), .blk 0 [.val (.int .i64 r.1), .ref 500, .val (.int .i64 r.2.2.1), .val (.bool r.2.2.2)] 210]) (h : ev_p_round_search_try_j1 n self i21 i22 b23 l24 i25 i26 i27 i28 i29 i30 i31 i33 i34 i35 i36 i37 i38 i39 i40 i41 i42 i43 i44 i45 i46 i47 l48 l49 l50 l51 l52 l53 l54 = some r) : TC Try.prog ⟨w0, M0, R0⟩ ⟨118, none, df⟩ (bodyPostM Fence.wide 0 Try.prog Try.f90 (PostT ⟨w0, M0, R0⟩ env0 [0] (.tup []) [.ro 500 1 (List.map en_int r.2.1), .blk 0 [.val (.int .i64 r.1), .ref 500, .val (.int .i64 r.2.2.1), .val (.bool r.2.2.2)] 210])) [.code (sub (bodyOf Try.f90) [1, 1, 0, 1, 0, 1, 1, 0]), .code (sub (bodyOf Try.f90) [1, 1, 1])] ([(0, .ptr 0 0), (2, .ref 5), (4, .ptr 8 0), (6, .ptr 9 0)]) ([.blk 0 [.val (.int .i64 i21), .ref 1, .val (.int .i64 i22), .val (.bool b23)] 210, .ro 5 1 (List.map en_int l24), .blk 8 [.ref 2, .ref 3, .ref 4, .val (.int .i64 i25), .val (.int .i64 i26), .val (.int .u16 i27), .val (.int .i64 i28), .val (.int .i64 i29), .val (.int .i64 i30), .val (.int .i64 i31), .val (.int .i64 i33), .val (.int .i64 i34), .val (.int .i64 i35), .val (.int .i64 i36)] 215, .blk 9 [.ref 10, .ref 11, .ref 12, .val (.int .i64 i37), .val (.int .i64 i38), .val (.int .u16 i39), .val (.int .i64 i40), .val (.int .i64 i41), .val (.int .i64 i42), .val (.int .i64 i43), .val (.int .i64 i44), .val (.int .i64 i45), .val (.int .i64 i46), .val (.int .i64 i47)] 215, .ro 1 1 (List.map en_int l48), .ro 2 5 (List.map en_api_RoundTower l49), .ro 3 1 (List.map en_Lint l50), .ro 4 4 (List.map en_api_RoundWinder l51), .ro 10 5 (List.map en_api_RoundTower l52), .ro 11 1 (List.map en_Lint l53), .ro 12 4 (List.map en_api_RoundWinder l54), .inv 6 (marksI df), .pin 7 0 (env0 0)]) := by
  rw [ev_p_round_search_try_j1] at h
  obtain ⟨r55, h7, h⟩ := bind_inv h
  refine drawJ 13 [⟨.ptr 0 0, [], [], []⟩, ⟨.ptr 0 0, [], [], []⟩, ⟨.ptr 0 0, [], [], []⟩, ⟨.ref 5, [], [], []⟩, ⟨.ref 13, [.row 13 3 1 (List.map en_int r55)], [.ro 5 1 (List.map en_int l24)], []⟩, ⟨.ptr 9 13, [], [.blk 9 [.ref 10, .ref 11, .ref 12, .val (.int .i64 i37), .val (.int .i64 i38), .val (.int .u16 i39), .val (.int .i64 i40), .val (.int .i64 i41), .val (.int .i64 i42), .val (.int .i64 i43), .val (.int .i64 i44), .val (.int .i64 i45), .val (.int .i64 i46), .val (.int .i64 i47)] 215], []⟩, ⟨.val (.int .i64 i47), [], [.blk 9 [.ref 10, .ref 11, .ref 12, .val (.int .i64 i37), .val (.int .i64 i38), .val (.int .u16 i39), .val (.int .i64 i40), .val (.int .i64 i41), .val (.int .i64 i42), .val (.int .i64 i43), .val (.int .i64 i44), .val (.int .i64 i45), .val (.int .i64 i46), .val (.int .i64 i47)] 215], []⟩, ⟨.ptr 0 0, [], [.blk 0 [.val (.int .i64 i21), .ref 1, .val (.int .i64 i22), .val (.bool b23)] 210], []⟩, ⟨.ptr 0 1, [], [.blk 0 [.val (.int .i64 i21), .ref 1, .val (.int .i64 i22), .val (.bool b23)] 210], []⟩, ⟨.val (undef), [.blk 0 [.val (.int .i64 i21), .ref 13, .val (.int .i64 i22), .val (.bool b23)] 210], [], [.blk 0 [.val (.int .i64 i21), .ref 1, .val (.int .i64 i22), .val (.bool b23)] 210]⟩, ⟨.ptr 0 0, [], [.blk 0 [.val (.int .i64 i21), .ref 13, .val (.int .i64 i22), .val (.bool b23)] 210], []⟩, ⟨.ptr 0 2, [], [.blk 0 [.val (.int .i64 i21), .ref 13, .val (.int .i64 i22), .val (.bool b23)] 210], []⟩, ⟨.val (undef), [.blk 0 [.val (.int .i64 i21), .ref 13, .val (.int .i64 i47), .val (.bool b23)] 210], [], [.blk 0 [.val (.int .i64 i21), .ref 13, .val (.int .i64 i22), .val (.bool b23)] 210]⟩] rfl ?_ rfl ?_ rfl ?_ ?_
  · kernel_rfl
  · kernel_rfl
  · exact DAll.op' (sp_move rfl rfl) trivial rfl (From.ok (ps := []) trivial) (DAll.op' (sp_move rfl rfl) trivial rfl (From.ok (ps := []) trivial) (DAll.op' (sp_move rfl rfl) trivial rfl (From.ok (ps := []) trivial) (DAll.op' (sp_move rfl rfl) trivial rfl (From.ok (ps := []) trivial) (DAll.op' (sp_call (avs := [.ref 5]) (need := [.ro 5 1 (List.map en_int l24)]) (v := .ref 13) (news := [.row 13 3 1 (List.map en_int r55)]) rfl rfl rfl Try.call74 (atJ [(0, 5)] [(0, 13)] (fc_slices_Clone_Lint_int h7) rfl rfl) (.inl (roAll rfl))) trivial rfl (From.ok (ps := [(none, 1)]) ⟨⟨rfl, by kernel_rfl⟩, trivial⟩) (DAll.op' (sp_fieldAddrB rfl isBlk rfl ft215_6 vt3 (by decide)) trivial rfl (From.ok (ps := [(none, 3)]) ⟨⟨rfl, by kernel_rfl⟩, trivial⟩) (DAll.op' (sp_loadB rfl isBlk rfl vt3 rfl) trivial rfl (From.ok (ps := [(none, 3)]) ⟨⟨rfl, by kernel_rfl⟩, trivial⟩) (DAll.op' (sp_nilCheck rfl isBlk rfl) trivial rfl (From.ok (ps := [(none, 0)]) ⟨⟨rfl, by kernel_rfl⟩, trivial⟩) (DAll.op' (sp_fieldAddrB rfl isBlk rfl ft210_1 vt37 (by decide)) trivial rfl (From.ok (ps := [(none, 0)]) ⟨⟨rfl, by kernel_rfl⟩, trivial⟩) (DAll.opT (ts_storeB (off := 1) (cells' := [.val (.int .i64 i21), .ref 13, .val (.int .i64 i22), .val (.bool b23)]) rfl rfl rfl rfl vt37 rfl rfl rfl) trivial (From.ok (ps := [(none, 0)]) ⟨⟨rfl, by kernel_rfl⟩, trivial⟩) (From.ok (ps := []) trivial) (DAll.op' (sp_nilCheck rfl isBlk rfl) trivial rfl (From.ok (ps := [(some 9, 0)]) ⟨⟨_, rfl, by kernel_rfl, rfl, by kernel_rfl⟩, trivial⟩) (DAll.op' (sp_fieldAddrB rfl isBlk rfl ft210_2 vt3 (by decide)) trivial rfl (From.ok (ps := [(some 9, 0)]) ⟨⟨_, rfl, by kernel_rfl, rfl, by kernel_rfl⟩, trivial⟩) (DAll.opT (ts_storeB (off := 2) (cells' := [.val (.int .i64 i21), .ref 13, .val (.int .i64 i47), .val (.bool b23)]) rfl rfl rfl rfl vt3 rfl rfl rfl) trivial (From.ok (ps := [(some 9, 0)]) ⟨⟨_, rfl, by kernel_rfl, rfl, by kernel_rfl⟩, trivial⟩) (From.ok (ps := []) trivial) (.nil)))))))))))))
  refine op1 0 rfl (sp_nilCheck rfl isBlk rfl) rfl trivial rfl rfl ?_
  refine op1 0 rfl (sp_fieldAddrB rfl isBlk rfl ft210_3 vt4 (by decide)) rfl trivial rfl rfl ?_
  refine stoB 0 (cells' := [.val (.int .i64 i21), .ref 13, .val (.int .i64 i47), .val (.bool true)]) rfl rfl trivial rfl rfl rfl rfl vt4 rfl rfl rfl ?_
  refine TL.nil ?_
  refine TC.seq ?_
  refine TC.freeze 1 rfl ?_
  refine subJ [] (ok_p_round_search_try_j2 hself h) ?_ ?_ ?_
  · exact ⟨rfl, rfl, rfl, trivial⟩
  · exact ⟨mem_at 0 rfl, mem_at 2 rfl, mem_at 3 rfl, mem_at 1 rfl, mem_at 6 rfl, mem_at 7 rfl, mem_at 8 rfl, mem_at 12 rfl, mem_at 13 rfl, trivial⟩
  · rfl
def ev_p_round_search_try_j6 (n : Nat) (self : Int → (List Int) → Int → Bool → (List (Int × Int × Int × Int × Int)) → (List ((List Int))) → (List (Int × Int × Int × Int)) → Int → Int → Int → Int → Int → Int → Int → Int → Int → Int → Int → (List Int) → Option (Int × (List Int) × Int × Bool)) (i105 : Int) (i106 : Int) (b107 : Bool) (l108 : List Int) (i109 : Int) (i110 : Int) (i111 : Int) (i112 : Int) (i113 : Int) (i114 : Int) (i115 : Int) (i116 : Int) (i117 : Int) (i118 : Int) (i119 : Int) (l120 : List Int) (l121 : List (Int × Int × Int × Int × Int)) (l122 : List ((List Int))) (l123 : List (Int × Int × Int × Int)) : Option (Int × (List Int) × Int × Bool) :=
  ev_p_round_search_try_j2 n self i105 i106 b107 l108 i109 i110 i111 i112 i113 i114 i115 i116 i117 i118 i119 l120 l121 l122 l123
set_option maxRecDepth 100000 in
set_option maxHeartbeats 2000000 in
theorem ok_p_round_search_try_j6 {n : Nat} {w0 : World} {M0 R0 : Nat → Prop} {env0 : Env} {df : List Deferred} {r : Int × (List Int) × Int × Bool} {self : Int → (List Int) → Int → Bool → (List (Int × Int × Int × Int × Int)) → (List ((List Int))) → (List (Int × Int × Int × Int)) → Int → Int → Int → Int → Int → Int → Int → Int → Int → Int → Int → (List Int) → Option (Int × (List Int) × Int × Bool)} {i105 : Int} {i106 : Int} {b107 : Bool} {l108 : List Int} {i109 : Int} {i110 : Int} {i111 : Int} {i112 : Int} {i113 : Int} {i114 : Int} {i115 : Int} {i116 : Int} {i117 : Int} {i118 : Int} {i119 : Int} {l120 : List Int} {l121 : List (Int × Int × Int × Int × Int)} {l122 : List ((List Int))} {l123 : List (Int × Int × Int × Int)} (hself : ∀ (s1z : Int) (s2z : List Int) (s3z : Int) (s4z : Bool) (w5z : List (Int × Int × Int × Int × Int)) (w6z : List ((List Int))) (w7z : List (Int × Int × Int × Int)) (w8z : Int) (w9z : Int) (w10z : Int) (w11z : Int) (w12z : Int) (w13z : Int) (w14z : Int) (w15z : Int) (w16z : Int) (w17z : Int) (w18z : Int) (steps19z : List Int) (r : Int × (List Int) × Int × Bool), self s1z s2z s3z s4z w5z w6z w7z w8z w9z w10z w11z w12z w13z w14z w15z w16z w17z w18z steps19z = some r → FT Try.prog 90 [.ptr 0 0, .agg [.ref 2, .ref 3, .ref 4, .val (.int .i64 w8z), .val (.int .i64 w9z), .val (.int .u16 w10z), .val (.int .i64 w11z), .val (.int .i64 w12z), .val (.int .i64 w13z), .val (.int .i64 w14z), .val (.int .i64 w15z), .val (.int .i64 w16z), .val (.int .i64 w17z), .val (.int .i64 w18z)], .ref 5] [.blk 0 [.val (.int .i64 s1z), .ref 1, .val (.int .i64 s3z), .val (.bool s4z)] 210] [.ro 1 1 (List.map en_int s2z), .ro 2 5 (List.map en_api_RoundTower w5z), .ro 3 1 (List.map en_Lint w6z), .ro 4 4 (List.map en_api_RoundWinder w7z), .ro 5 1 (List.map en_int steps19z)] (.tup []) [.ro 500 1 (List.map en_int r.2.1), .blk 0 [.val (.int .i64 r.1), .ref 500, .val (.int .i64 r.2.2.1), .val (.bool r.2.2.2)] 210]) (h : ev_p_round_search_try_j6 n self i105 i106 b107 l108 i109 i110 i111 i112 i113 i114 i115 i116 i117 i118 i119 l120 l121 l122 l123 = some r) : TC Try.prog ⟨w0, M0, R0⟩ ⟨118, none, df⟩ (bodyPostM Fence.wide 0 Try.prog Try.f90 (PostT ⟨w0, M0, R0⟩ env0 [0] (.tup []) [.ro 500 1 (List.map en_int r.2.1), .blk 0 [.val (.int .i64 r.1), .ref 500, .val (.int .i64 r.2.2.1), .val (.bool r.2.2.2)] 210])) [.code (sub (bodyOf Try.f90) [1, 1, 0, 1, 0, 1, 1, 1]), .code (sub (bodyOf Try.f90) [1, 1, 1])] ([(0, .ptr 0 0), (2, .ref 5), (4, .ptr 8 0)]) ([.blk 0 [.val (.int .i64 i105), .ref 1, .val (.int .i64 i106), .val (.bool b107)] 210, .ro 5 1 (List.map en_int l108), .blk 8 [.ref 2, .ref 3, .ref 4, .val (.int .i64 i109), .val (.int .i64 i110), .val (.int .u16 i111), .val (.int .i64 i112), .val (.int .i64 i113), .val (.int .i64 i114), .val (.int .i64 i115), .val (.int .i64 i116), .val (.int .i64 i117), .val (.int .i64 i118), .val (.int .i64 i119)] 215, .ro 1 1 (List.map en_int l120), .ro 2 5 (List.map en_api_RoundTower l121), .ro 3 1 (List.map en_Lint l122), .ro 4 4 (List.map en_api_RoundWinder l123), .inv 6 (marksI df), .pin 7 0 (env0 0)]) := by
  rw [ev_p_round_search_try_j6] at h
  refine TC.skip ?_
  refine TC.seq ?_
  refine subJ [(13, 1)] (ok_p_round_search_try_j2 hself h) ?_ ?_ ?_
  · exact ⟨rfl, rfl, rfl, trivial⟩
  · exact ⟨mem_at 0 rfl, mem_at 1 rfl, mem_at 2 rfl, mem_at 3 rfl, mem_at 4 rfl, mem_at 5 rfl, mem_at 6 rfl, mem_at 7 rfl, mem_at 8 rfl, trivial⟩
  · rfl
def ev_p_round_search_try_j0 (n : Nat) (w15 : Int) (s1 : Int) (w5 : List (Int × Int × Int × Int × Int)) (w6 : List ((List Int))) (w7 : List (Int × Int × Int × Int)) (w8 : Int) (w9 : Int) (w10 : Int) (w11 : Int) (w12 : Int) (w13 : Int) (w14 : Int) (w16 : Int) (w17 : Int) (w18 : Int) (s4 : Bool) (s3 : Int) (steps19 : List Int) (s2 : List Int) (self : Int → (List Int) → Int → Bool → (List (Int × Int × Int × Int × Int)) → (List ((List Int))) → (List (Int × Int × Int × Int)) → Int → Int → Int → Int → Int → Int → Int → Int → Int → Int → Int → (List Int) → Option (Int × (List Int) × Int × Bool)) : Option (Int × (List Int) × Int × Bool) :=
  cond (w15 == s1) ((ev_p_round_walker_home n w5 w6 w7 w8 w9 w10 w11 w12 w13 w14 w15 w16 w17 w18).bind fun r20 => cond (r20.1 == 0) (cond (!s4) (ev_p_round_search_try_j1 n self s1 s3 s4 steps19 w8 w9 w10 w11 w12 w13 w14 w15 w16 w17 w18 r20.2.2.2.2.1 r20.2.2.2.2.2.1 r20.2.2.2.2.2.2.1 r20.2.2.2.2.2.2.2.1 r20.2.2.2.2.2.2.2.2.1 r20.2.2.2.2.2.2.2.2.2.1 r20.2.2.2.2.2.2.2.2.2.2.1 r20.2.2.2.2.2.2.2.2.2.2.2.1 r20.2.2.2.2.2.2.2.2.2.2.2.2.1 r20.2.2.2.2.2.2.2.2.2.2.2.2.2.1 r20.2.2.2.2.2.2.2.2.2.2.2.2.2.2 s2 w5 w6 w7 r20.2.1 r20.2.2.1 r20.2.2.2.1) (cond (decide (r20.2.2.2.2.2.2.2.2.2.2.2.2.2.2 < s3)) (ev_p_round_search_try_j1 n self s1 s3 s4 steps19 w8 w9 w10 w11 w12 w13 w14 w15 w16 w17 w18 r20.2.2.2.2.1 r20.2.2.2.2.2.1 r20.2.2.2.2.2.2.1 r20.2.2.2.2.2.2.2.1 r20.2.2.2.2.2.2.2.2.1 r20.2.2.2.2.2.2.2.2.2.1 r20.2.2.2.2.2.2.2.2.2.2.1 r20.2.2.2.2.2.2.2.2.2.2.2.1 r20.2.2.2.2.2.2.2.2.2.2.2.2.1 r20.2.2.2.2.2.2.2.2.2.2.2.2.2.1 r20.2.2.2.2.2.2.2.2.2.2.2.2.2.2 s2 w5 w6 w7 r20.2.1 r20.2.2.1 r20.2.2.2.1) (ev_p_round_search_try_j6 n self s1 s3 s4 steps19 w8 w9 w10 w11 w12 w13 w14 w15 w16 w17 w18 s2 w5 w6 w7))) (ev_p_round_search_try_j6 n self s1 s3 s4 steps19 w8 w9 w10 w11 w12 w13 w14 w15 w16 w17 w18 s2 w5 w6 w7)) (ev_p_round_search_try_j2 n self s1 s3 s4 steps19 w8 w9 w10 w11 w12 w13 w14 w15 w16 w17 w18 s2 w5 w6 w7)
set_option maxRecDepth 100000 in
set_option maxHeartbeats 2000000 in
theorem ok_p_round_search_try_j0 {n : Nat} {w0 : World} {M0 R0 : Nat → Prop} {env0 : Env} {df : List Deferred} {r : Int × (List Int) × Int × Bool} {s1 : Int} {s3 : Int} {s4 : Bool} {steps19 : List Int} {w8 : Int} {w9 : Int} {w10 : Int} {w11 : Int} {w12 : Int} {w13 : Int} {w14 : Int} {w15 : Int} {w16 : Int} {w17 : Int} {w18 : Int} {s2 : List Int} {w5 : List (Int × Int × Int × Int × Int)} {w6 : List ((List Int))} {w7 : List (Int × Int × Int × Int)} {self : Int → (List Int) → Int → Bool → (List (Int × Int × Int × Int × Int)) → (List ((List Int))) → (List (Int × Int × Int × Int)) → Int → Int → Int → Int → Int → Int → Int → Int → Int → Int → Int → (List Int) → Option (Int × (List Int) × Int × Bool)} (hself : ∀ (s1z : Int) (s2z : List Int) (s3z : Int) (s4z : Bool) (w5z : List (Int × Int × Int × Int × Int)) (w6z : List ((List Int))) (w7z : List (Int × Int × Int × Int)) (w8z : Int) (w9z : Int) (w10z : Int) (w11z : Int) (w12z : Int) (w13z : Int) (w14z : Int) (w15z : Int) (w16z : Int) (w17z : Int) (w18z : Int) (steps19z : List Int) (r : Int × (List Int) × Int × Bool), self s1z s2z s3z s4z w5z w6z w7z w8z w9z w10z w11z w12z w13z w14z w15z w16z w17z w18z steps19z = some r → FT Try.prog 90 [.ptr 0 0, .agg [.ref 2, .ref 3, .ref 4, .val (.int .i64 w8z), .val (.int .i64 w9z), .val (.int .u16 w10z), .val (.int .i64 w11z), .val (.int .i64 w12z), .val (.int .i64 w13z), .val (.int .i64 w14z), .val (.int .i64 w15z), .val (.int .i64 w16z), .val (.int .i64 w17z), .val (.int .i64 w18z)], .ref 5] [.blk 0 [.val (.int .i64 s1z), .ref 1, .val (.int .i64 s3z), .val (.bool s4z)] 210] [.ro 1 1 (List.map en_int s2z), .ro 2 5 (List.map en_api_RoundTower w5z), .ro 3 1 (List.map en_Lint w6z), .ro 4 4 (List.map en_api_RoundWinder w7z), .ro 5 1 (List.map en_int steps19z)] (.tup []) [.ro 500 1 (List.map en_int r.2.1), .blk 0 [.val (.int .i64 r.1), .ref 500, .val (.int .i64 r.2.2.1), .val (.bool r.2.2.2)] 210]) (h : ev_p_round_search_try_j0 n w15 s1 w5 w6 w7 w8 w9 w10 w11 w12 w13 w14 w16 w17 w18 s4 s3 steps19 s2 self = some r) : TC Try.prog ⟨w0, M0, R0⟩ ⟨118, none, df⟩ (bodyPostM Fence.wide 0 Try.prog Try.f90 (PostT ⟨w0, M0, R0⟩ env0 [0] (.tup []) [.ro 500 1 (List.map en_int r.2.1), .blk 0 [.val (.int .i64 r.1), .ref 500, .val (.int .i64 r.2.2.1), .val (.bool r.2.2.2)] 210])) [.code (sub (bodyOf Try.f90) [1, 0, 1, 1]), .code (sub (bodyOf Try.f90) [1, 1])] ([(0, .ptr 0 0), (2, .ref 5), (4, .ptr 8 0)]) ([.blk 0 [.val (.int .i64 s1), .ref 1, .val (.int .i64 s3), .val (.bool s4)] 210, .ro 5 1 (List.map en_int steps19), .blk 8 [.ref 2, .ref 3, .ref 4, .val (.int .i64 w8), .val (.int .i64 w9), .val (.int .u16 w10), .val (.int .i64 w11), .val (.int .i64 w12), .val (.int .i64 w13), .val (.int .i64 w14), .val (.int .i64 w15), .val (.int .i64 w16), .val (.int .i64 w17), .val (.int .i64 w18)] 215, .ro 1 1 (List.map en_int s2), .ro 2 5 (List.map en_api_RoundTower w5), .ro 3 1 (List.map en_Lint w6), .ro 4 4 (List.map en_api_RoundWinder w7), .inv 6 (marksI df), .pin 7 0 (env0 0)]) := by
  rw [ev_p_round_search_try_j0] at h
  refine TC.skip ?_
  refine TC.seq ?_
  refine TC.seq ?_
  refine drawJ 6 [⟨.ptr 8 10, [], [.blk 8 [.ref 2, .ref 3, .ref 4, .val (.int .i64 w8), .val (.int .i64 w9), .val (.int .u16 w10), .val (.int .i64 w11), .val (.int .i64 w12), .val (.int .i64 w13), .val (.int .i64 w14), .val (.int .i64 w15), .val (.int .i64 w16), .val (.int .i64 w17), .val (.int .i64 w18)] 215], []⟩, ⟨.val (.int .i64 w15), [], [.blk 8 [.ref 2, .ref 3, .ref 4, .val (.int .i64 w8), .val (.int .i64 w9), .val (.int .u16 w10), .val (.int .i64 w11), .val (.int .i64 w12), .val (.int .i64 w13), .val (.int .i64 w14), .val (.int .i64 w15), .val (.int .i64 w16), .val (.int .i64 w17), .val (.int .i64 w18)] 215], []⟩, ⟨.ptr 0 0, [], [], []⟩, ⟨.ptr 0 0, [], [.blk 0 [.val (.int .i64 s1), .ref 1, .val (.int .i64 s3), .val (.bool s4)] 210], []⟩, ⟨.ptr 0 0, [], [.blk 0 [.val (.int .i64 s1), .ref 1, .val (.int .i64 s3), .val (.bool s4)] 210], []⟩, ⟨.val (.int .i64 s1), [], [.blk 0 [.val (.int .i64 s1), .ref 1, .val (.int .i64 s3), .val (.bool s4)] 210], []⟩] rfl ?_ rfl ?_ rfl ?_ ?_
  · kernel_rfl
  · kernel_rfl
  · exact DAll.op' (sp_fieldAddrB rfl isBlk rfl ft215_3 vt205 (by decide)) trivial rfl (From.ok (ps := [(none, 2)]) ⟨⟨rfl, rfl⟩, trivial⟩) (DAll.op' (sp_loadB rfl isBlk rfl vt205 rfl) trivial rfl (From.ok (ps := [(none, 2)]) ⟨⟨rfl, rfl⟩, trivial⟩) (DAll.op' (sp_move rfl rfl) trivial rfl (From.ok (ps := []) trivial) (DAll.op' (sp_nilCheck rfl isBlk rfl) trivial rfl (From.ok (ps := [(none, 0)]) ⟨⟨rfl, rfl⟩, trivial⟩) (DAll.op' (sp_fieldAddrB rfl isBlk rfl ft210_0 vt205 (by decide)) trivial rfl (From.ok (ps := [(none, 0)]) ⟨⟨rfl, rfl⟩, trivial⟩) (DAll.op' (sp_loadB rfl isBlk rfl vt205 rfl) trivial rfl (From.ok (ps := [(none, 0)]) ⟨⟨rfl, rfl⟩, trivial⟩) (.nil))))))
  refine op0 (sp_eql rfl rfl rfl) rfl trivial rfl rfl ?_
  refine TL.nil ?_
  refine TC.cond (b := (w15 == s1)) rfl (fun h3 => ?_) (fun h3 => ?_)
  · have h := cond_t h h3
    refine TC.seq ?_
    refine TC.region ?_
    refine op1 2 rfl (sp_loadBA rfl isBlk rfl vt215 rfl rfl) rfl trivial rfl rfl ?_
    refine op0 (sp_alloc 9 rfl Try.zeroValue215 rfl) rfl trivial rfl rfl ?_
    refine stoB 0 (cells' := [.ref 2, .ref 3, .ref 4, .val (.int .i64 w8), .val (.int .i64 w9), .val (.int .u16 w10), .val (.int .i64 w11), .val (.int .i64 w12), .val (.int .i64 w13), .val (.int .i64 w14), .val (.int .i64 w15), .val (.int .i64 w16), .val (.int .i64 w17), .val (.int .i64 w18)]) rfl rfl trivial rfl rfl rfl rfl vt215 rfl rfl rfl ?_
    refine TL.nil ?_
    refine TC.seq ?_
    obtain ⟨r20, h4, h⟩ := bind_inv h
    rcases cond_cases h with ⟨h5, h⟩ | ⟨h5, h⟩
    · rcases cond_cases h with ⟨h6, h⟩ | ⟨h6, h⟩
      · refine drawJ 15 [⟨.val (.int .i64 r20.1), [.ro 10 5 (List.map en_api_RoundTower r20.2.1), .ro 11 1 (List.map en_Lint r20.2.2.1), .ro 12 4 (List.map en_api_RoundWinder r20.2.2.2.1), .blk 9 [.ref 10, .ref 11, .ref 12, .val (.int .i64 r20.2.2.2.2.1), .val (.int .i64 r20.2.2.2.2.2.1), .val (.int .u16 r20.2.2.2.2.2.2.1), .val (.int .i64 r20.2.2.2.2.2.2.2.1), .val (.int .i64 r20.2.2.2.2.2.2.2.2.1), .val (.int .i64 r20.2.2.2.2.2.2.2.2.2.1), .val (.int .i64 r20.2.2.2.2.2.2.2.2.2.2.1), .val (.int .i64 r20.2.2.2.2.2.2.2.2.2.2.2.1), .val (.int .i64 r20.2.2.2.2.2.2.2.2.2.2.2.2.1), .val (.int .i64 r20.2.2.2.2.2.2.2.2.2.2.2.2.2.1), .val (.int .i64 r20.2.2.2.2.2.2.2.2.2.2.2.2.2.2)] 215], [.ro 2 5 (List.map en_api_RoundTower w5), .ro 3 1 (List.map en_Lint w6), .ro 4 4 (List.map en_api_RoundWinder w7)], [.blk 9 [.ref 2, .ref 3, .ref 4, .val (.int .i64 w8), .val (.int .i64 w9), .val (.int .u16 w10), .val (.int .i64 w11), .val (.int .i64 w12), .val (.int .i64 w13), .val (.int .i64 w14), .val (.int .i64 w15), .val (.int .i64 w16), .val (.int .i64 w17), .val (.int .i64 w18)] 215]⟩, ⟨.val (.bool (r20.1 == 0)), [], [], []⟩, ⟨.val (.bool true), [], [], []⟩, ⟨.ptr 0 0, [], [], []⟩, ⟨.ptr 0 0, [], [.blk 0 [.val (.int .i64 s1), .ref 1, .val (.int .i64 s3), .val (.bool s4)] 210], []⟩, ⟨.ptr 0 3, [], [.blk 0 [.val (.int .i64 s1), .ref 1, .val (.int .i64 s3), .val (.bool s4)] 210], []⟩, ⟨.val (.bool s4), [], [.blk 0 [.val (.int .i64 s1), .ref 1, .val (.int .i64 s3), .val (.bool s4)] 210], []⟩, ⟨.val (.bool (!s4)), [], [], []⟩, ⟨.val (.bool true), [], [], []⟩, ⟨.val (undef), [], [], []⟩, ⟨.val (undef), [], [], []⟩, ⟨.val (undef), [], [], []⟩, ⟨.val (undef), [], [], []⟩, ⟨.val (undef), [], [], []⟩, ⟨.val (undef), [], [], []⟩] rfl ?_ rfl ?_ rfl ?_ ?_
        · kernel_rfl
        · kernel_rfl
        · exact DAll.opT (ts_call (avs := [.ptr 9 0]) (take := [.blk 9 [.ref 2, .ref 3, .ref 4, .val (.int .i64 w8), .val (.int .i64 w9), .val (.int .u16 w10), .val (.int .i64 w11), .val (.int .i64 w12), .val (.int .i64 w13), .val (.int .i64 w14), .val (.int .i64 w15), .val (.int .i64 w16), .val (.int .i64 w17), .val (.int .i64 w18)] 215]) (need := [.ro 2 5 (List.map en_api_RoundTower w5), .ro 3 1 (List.map en_Lint w6), .ro 4 4 (List.map en_api_RoundWinder w7)]) (v := .val (.int .i64 r20.1)) (news := [.ro 10 5 (List.map en_api_RoundTower r20.2.1), .ro 11 1 (List.map en_Lint r20.2.2.1), .ro 12 4 (List.map en_api_RoundWinder r20.2.2.2.1), .blk 9 [.ref 10, .ref 11, .ref 12, .val (.int .i64 r20.2.2.2.2.1), .val (.int .i64 r20.2.2.2.2.2.1), .val (.int .u16 r20.2.2.2.2.2.2.1), .val (.int .i64 r20.2.2.2.2.2.2.2.1), .val (.int .i64 r20.2.2.2.2.2.2.2.2.1), .val (.int .i64 r20.2.2.2.2.2.2.2.2.2.1), .val (.int .i64 r20.2.2.2.2.2.2.2.2.2.2.1), .val (.int .i64 r20.2.2.2.2.2.2.2.2.2.2.2.1), .val (.int .i64 r20.2.2.2.2.2.2.2.2.2.2.2.2.1), .val (.int .i64 r20.2.2.2.2.2.2.2.2.2.2.2.2.2.1), .val (.int .i64 r20.2.2.2.2.2.2.2.2.2.2.2.2.2.2)] 215]) rfl rfl rfl Try.call93 (atT [(0, 9), (1, 2), (2, 3), (3, 4)] [(500, 10), (501, 11), (502, 12), (0, 9)] (ft_p_round_walker_home h4) rfl rfl rfl) rfl rfl) trivial (From.ok (ps := [(none, 0)]) ⟨⟨rfl, by kernel_rfl⟩, trivial⟩) (From.ok (ps := [(none, 5), (none, 6), (none, 7)]) ⟨⟨rfl, by kernel_rfl⟩, ⟨rfl, by kernel_rfl⟩, ⟨rfl, by kernel_rfl⟩, trivial⟩) (DAll.op' (sp_eql rfl rfl rfl) trivial rfl (From.ok (ps := []) trivial) (DAll.op' (sp_castB h5 (sp_move rfl rfl)) trivial rfl (From.ok (ps := []) trivial) (DAll.op' (sp_move rfl rfl) ⟨_, rfl, rfl⟩ rfl (From.ok (ps := []) trivial) (DAll.op' (sp_nilCheck rfl isBlk rfl) ⟨_, rfl, rfl⟩ rfl (From.ok (ps := [(none, 1)]) ⟨⟨rfl, by kernel_rfl⟩, trivial⟩) (DAll.op' (sp_fieldAddrB rfl isBlk rfl ft210_3 vt4 (by decide)) ⟨_, rfl, rfl⟩ rfl (From.ok (ps := [(none, 1)]) ⟨⟨rfl, by kernel_rfl⟩, trivial⟩) (DAll.op' (sp_loadB rfl isBlk rfl vt4 rfl) ⟨_, rfl, rfl⟩ rfl (From.ok (ps := [(none, 1)]) ⟨⟨rfl, by kernel_rfl⟩, trivial⟩) (DAll.op' (sp_not rfl rfl) ⟨_, rfl, rfl⟩ rfl (From.ok (ps := []) trivial) (DAll.op' (sp_castB h6 (sp_move rfl rfl)) ⟨_, rfl, rfl⟩ rfl (From.ok (ps := []) trivial) (.skip ⟨_, rfl, .inl rfl⟩ rfl rfl rfl (.skip ⟨_, rfl, .inl rfl⟩ rfl rfl rfl (.skip ⟨_, rfl, .inl rfl⟩ rfl rfl rfl (.skip ⟨_, rfl, .inl rfl⟩ rfl rfl rfl (.skip ⟨_, rfl, .inl rfl⟩ rfl rfl rfl (.skip ⟨_, rfl, .inl rfl⟩ rfl rfl rfl (.nil)))))))))))))))
        refine opSkip rfl ⟨_, rfl, .inl rfl⟩ rfl ?_
        refine op0 (sp_pickT rfl rfl rfl) rfl ⟨_, rfl, rfl⟩ rfl rfl ?_
        refine op0 (sp_pickT rfl rfl rfl) rfl trivial rfl rfl ?_
        refine TL.nil ?_
        refine TC.condT rfl ?_
        refine subJ [] (ok_p_round_search_try_j1 hself h) ?_ ?_ ?_
        · exact ⟨rfl, rfl, rfl, rfl, trivial⟩
        · exact ⟨mem_at 4 rfl, mem_at 5 rfl, mem_at 6 rfl, mem_at 3 rfl, mem_at 7 rfl, mem_at 8 rfl, mem_at 9 rfl, mem_at 10 rfl, mem_at 0 rfl, mem_at 1 rfl, mem_at 2 rfl, mem_at 11 rfl, mem_at 12 rfl, trivial⟩
        · rfl
      · refine drawJ 15 [⟨.val (.int .i64 r20.1), [.ro 10 5 (List.map en_api_RoundTower r20.2.1), .ro 11 1 (List.map en_Lint r20.2.2.1), .ro 12 4 (List.map en_api_RoundWinder r20.2.2.2.1), .blk 9 [.ref 10, .ref 11, .ref 12, .val (.int .i64 r20.2.2.2.2.1), .val (.int .i64 r20.2.2.2.2.2.1), .val (.int .u16 r20.2.2.2.2.2.2.1), .val (.int .i64 r20.2.2.2.2.2.2.2.1), .val (.int .i64 r20.2.2.2.2.2.2.2.2.1), .val (.int .i64 r20.2.2.2.2.2.2.2.2.2.1), .val (.int .i64 r20.2.2.2.2.2.2.2.2.2.2.1), .val (.int .i64 r20.2.2.2.2.2.2.2.2.2.2.2.1), .val (.int .i64 r20.2.2.2.2.2.2.2.2.2.2.2.2.1), .val (.int .i64 r20.2.2.2.2.2.2.2.2.2.2.2.2.2.1), .val (.int .i64 r20.2.2.2.2.2.2.2.2.2.2.2.2.2.2)] 215], [.ro 2 5 (List.map en_api_RoundTower w5), .ro 3 1 (List.map en_Lint w6), .ro 4 4 (List.map en_api_RoundWinder w7)], [.blk 9 [.ref 2, .ref 3, .ref 4, .val (.int .i64 w8), .val (.int .i64 w9), .val (.int .u16 w10), .val (.int .i64 w11), .val (.int .i64 w12), .val (.int .i64 w13), .val (.int .i64 w14), .val (.int .i64 w15), .val (.int .i64 w16), .val (.int .i64 w17), .val (.int .i64 w18)] 215]⟩, ⟨.val (.bool (r20.1 == 0)), [], [], []⟩, ⟨.val (.bool true), [], [], []⟩, ⟨.ptr 0 0, [], [], []⟩, ⟨.ptr 0 0, [], [.blk 0 [.val (.int .i64 s1), .ref 1, .val (.int .i64 s3), .val (.bool s4)] 210], []⟩, ⟨.ptr 0 3, [], [.blk 0 [.val (.int .i64 s1), .ref 1, .val (.int .i64 s3), .val (.bool s4)] 210], []⟩, ⟨.val (.bool s4), [], [.blk 0 [.val (.int .i64 s1), .ref 1, .val (.int .i64 s3), .val (.bool s4)] 210], []⟩, ⟨.val (.bool (!s4)), [], [], []⟩, ⟨.val (.bool false), [], [], []⟩, ⟨.ptr 9 13, [], [.blk 9 [.ref 10, .ref 11, .ref 12, .val (.int .i64 r20.2.2.2.2.1), .val (.int .i64 r20.2.2.2.2.2.1), .val (.int .u16 r20.2.2.2.2.2.2.1), .val (.int .i64 r20.2.2.2.2.2.2.2.1), .val (.int .i64 r20.2.2.2.2.2.2.2.2.1), .val (.int .i64 r20.2.2.2.2.2.2.2.2.2.1), .val (.int .i64 r20.2.2.2.2.2.2.2.2.2.2.1), .val (.int .i64 r20.2.2.2.2.2.2.2.2.2.2.2.1), .val (.int .i64 r20.2.2.2.2.2.2.2.2.2.2.2.2.1), .val (.int .i64 r20.2.2.2.2.2.2.2.2.2.2.2.2.2.1), .val (.int .i64 r20.2.2.2.2.2.2.2.2.2.2.2.2.2.2)] 215], []⟩, ⟨.val (.int .i64 r20.2.2.2.2.2.2.2.2.2.2.2.2.2.2), [], [.blk 9 [.ref 10, .ref 11, .ref 12, .val (.int .i64 r20.2.2.2.2.1), .val (.int .i64 r20.2.2.2.2.2.1), .val (.int .u16 r20.2.2.2.2.2.2.1), .val (.int .i64 r20.2.2.2.2.2.2.2.1), .val (.int .i64 r20.2.2.2.2.2.2.2.2.1), .val (.int .i64 r20.2.2.2.2.2.2.2.2.2.1), .val (.int .i64 r20.2.2.2.2.2.2.2.2.2.2.1), .val (.int .i64 r20.2.2.2.2.2.2.2.2.2.2.2.1), .val (.int .i64 r20.2.2.2.2.2.2.2.2.2.2.2.2.1), .val (.int .i64 r20.2.2.2.2.2.2.2.2.2.2.2.2.2.1), .val (.int .i64 r20.2.2.2.2.2.2.2.2.2.2.2.2.2.2)] 215], []⟩, ⟨.ptr 0 0, [], [], []⟩, ⟨.ptr 0 0, [], [.blk 0 [.val (.int .i64 s1), .ref 1, .val (.int .i64 s3), .val (.bool s4)] 210], []⟩, ⟨.ptr 0 2, [], [.blk 0 [.val (.int .i64 s1), .ref 1, .val (.int .i64 s3), .val (.bool s4)] 210], []⟩, ⟨.val (.int .i64 s3), [], [.blk 0 [.val (.int .i64 s1), .ref 1, .val (.int .i64 s3), .val (.bool s4)] 210], []⟩] rfl ?_ rfl ?_ rfl ?_ ?_
        · kernel_rfl
        · kernel_rfl
        · exact DAll.opT (ts_call (avs := [.ptr 9 0]) (take := [.blk 9 [.ref 2, .ref 3, .ref 4, .val (.int .i64 w8), .val (.int .i64 w9), .val (.int .u16 w10), .val (.int .i64 w11), .val (.int .i64 w12), .val (.int .i64 w13), .val (.int .i64 w14), .val (.int .i64 w15), .val (.int .i64 w16), .val (.int .i64 w17), .val (.int .i64 w18)] 215]) (need := [.ro 2 5 (List.map en_api_RoundTower w5), .ro 3 1 (List.map en_Lint w6), .ro 4 4 (List.map en_api_RoundWinder w7)]) (v := .val (.int .i64 r20.1)) (news := [.ro 10 5 (List.map en_api_RoundTower r20.2.1), .ro 11 1 (List.map en_Lint r20.2.2.1), .ro 12 4 (List.map en_api_RoundWinder r20.2.2.2.1), .blk 9 [.ref 10, .ref 11, .ref 12, .val (.int .i64 r20.2.2.2.2.1), .val (.int .i64 r20.2.2.2.2.2.1), .val (.int .u16 r20.2.2.2.2.2.2.1), .val (.int .i64 r20.2.2.2.2.2.2.2.1), .val (.int .i64 r20.2.2.2.2.2.2.2.2.1), .val (.int .i64 r20.2.2.2.2.2.2.2.2.2.1), .val (.int .i64 r20.2.2.2.2.2.2.2.2.2.2.1), .val (.int .i64 r20.2.2.2.2.2.2.2.2.2.2.2.1), .val (.int .i64 r20.2.2.2.2.2.2.2.2.2.2.2.2.1), .val (.int .i64 r20.2.2.2.2.2.2.2.2.2.2.2.2.2.1), .val (.int .i64 r20.2.2.2.2.2.2.2.2.2.2.2.2.2.2)] 215]) rfl rfl rfl Try.call93 (atT [(0, 9), (1, 2), (2, 3), (3, 4)] [(500, 10), (501, 11), (502, 12), (0, 9)] (ft_p_round_walker_home h4) rfl rfl rfl) rfl rfl) trivial (From.ok (ps := [(none, 0)]) ⟨⟨rfl, by kernel_rfl⟩, trivial⟩) (From.ok (ps := [(none, 5), (none, 6), (none, 7)]) ⟨⟨rfl, by kernel_rfl⟩, ⟨rfl, by kernel_rfl⟩, ⟨rfl, by kernel_rfl⟩, trivial⟩) (DAll.op' (sp_eql rfl rfl rfl) trivial rfl (From.ok (ps := []) trivial) (DAll.op' (sp_castB h5 (sp_move rfl rfl)) trivial rfl (From.ok (ps := []) trivial) (DAll.op' (sp_move rfl rfl) ⟨_, rfl, rfl⟩ rfl (From.ok (ps := []) trivial) (DAll.op' (sp_nilCheck rfl isBlk rfl) ⟨_, rfl, rfl⟩ rfl (From.ok (ps := [(none, 1)]) ⟨⟨rfl, by kernel_rfl⟩, trivial⟩) (DAll.op' (sp_fieldAddrB rfl isBlk rfl ft210_3 vt4 (by decide)) ⟨_, rfl, rfl⟩ rfl (From.ok (ps := [(none, 1)]) ⟨⟨rfl, by kernel_rfl⟩, trivial⟩) (DAll.op' (sp_loadB rfl isBlk rfl vt4 rfl) ⟨_, rfl, rfl⟩ rfl (From.ok (ps := [(none, 1)]) ⟨⟨rfl, by kernel_rfl⟩, trivial⟩) (DAll.op' (sp_not rfl rfl) ⟨_, rfl, rfl⟩ rfl (From.ok (ps := []) trivial) (DAll.op' (sp_castB h6 (sp_move rfl rfl)) ⟨_, rfl, rfl⟩ rfl (From.ok (ps := []) trivial) (DAll.op' (sp_fieldAddrB rfl isBlk rfl ft215_6 vt3 (by decide)) ⟨_, rfl, rfl⟩ rfl (From.ok (ps := [(some 0, 3)]) ⟨⟨_, rfl, by kernel_rfl, rfl, by kernel_rfl⟩, trivial⟩) (DAll.op' (sp_loadB rfl isBlk rfl vt3 rfl) ⟨_, rfl, rfl⟩ rfl (From.ok (ps := [(some 0, 3)]) ⟨⟨_, rfl, by kernel_rfl, rfl, by kernel_rfl⟩, trivial⟩) (DAll.op' (sp_move rfl rfl) ⟨_, rfl, rfl⟩ rfl (From.ok (ps := []) trivial) (DAll.op' (sp_nilCheck rfl isBlk rfl) ⟨_, rfl, rfl⟩ rfl (From.ok (ps := [(none, 1)]) ⟨⟨rfl, by kernel_rfl⟩, trivial⟩) (DAll.op' (sp_fieldAddrB rfl isBlk rfl ft210_2 vt3 (by decide)) ⟨_, rfl, rfl⟩ rfl (From.ok (ps := [(none, 1)]) ⟨⟨rfl, by kernel_rfl⟩, trivial⟩) (DAll.op' (sp_loadB rfl isBlk rfl vt3 rfl) ⟨_, rfl, rfl⟩ rfl (From.ok (ps := [(none, 1)]) ⟨⟨rfl, by kernel_rfl⟩, trivial⟩) (.nil)))))))))))))))
        refine op0 (sp_lss rfl rfl rfl) rfl ⟨_, rfl, rfl⟩ rfl rfl ?_
        refine op0 (sp_pickF rfl rfl rfl) rfl ⟨_, rfl, rfl⟩ rfl rfl ?_
        refine op0 (sp_pickT rfl rfl rfl) rfl trivial rfl rfl ?_
        refine TL.nil ?_
        refine TC.cond (b := (decide (r20.2.2.2.2.2.2.2.2.2.2.2.2.2.2 < s3))) rfl (fun h38 => ?_) (fun h38 => ?_)
        · have h := cond_t h h38
          refine subJ [] (ok_p_round_search_try_j1 hself h) ?_ ?_ ?_
          · exact ⟨rfl, rfl, rfl, rfl, trivial⟩
          · exact ⟨mem_at 4 rfl, mem_at 5 rfl, mem_at 6 rfl, mem_at 3 rfl, mem_at 7 rfl, mem_at 8 rfl, mem_at 9 rfl, mem_at 10 rfl, mem_at 0 rfl, mem_at 1 rfl, mem_at 2 rfl, mem_at 11 rfl, mem_at 12 rfl, trivial⟩
          · rfl
        · have h := cond_f h h38
          refine subJ [] (ok_p_round_search_try_j6 hself h) ?_ ?_ ?_
          · exact ⟨rfl, rfl, rfl, trivial⟩
          · exact ⟨mem_at 4 rfl, mem_at 5 rfl, mem_at 6 rfl, mem_at 7 rfl, mem_at 8 rfl, mem_at 9 rfl, mem_at 10 rfl, mem_at 11 rfl, mem_at 12 rfl, trivial⟩
          · rfl
    · refine drawJ 15 [⟨.val (.int .i64 r20.1), [.ro 10 5 (List.map en_api_RoundTower r20.2.1), .ro 11 1 (List.map en_Lint r20.2.2.1), .ro 12 4 (List.map en_api_RoundWinder r20.2.2.2.1), .blk 9 [.ref 10, .ref 11, .ref 12, .val (.int .i64 r20.2.2.2.2.1), .val (.int .i64 r20.2.2.2.2.2.1), .val (.int .u16 r20.2.2.2.2.2.2.1), .val (.int .i64 r20.2.2.2.2.2.2.2.1), .val (.int .i64 r20.2.2.2.2.2.2.2.2.1), .val (.int .i64 r20.2.2.2.2.2.2.2.2.2.1), .val (.int .i64 r20.2.2.2.2.2.2.2.2.2.2.1), .val (.int .i64 r20.2.2.2.2.2.2.2.2.2.2.2.1), .val (.int .i64 r20.2.2.2.2.2.2.2.2.2.2.2.2.1), .val (.int .i64 r20.2.2.2.2.2.2.2.2.2.2.2.2.2.1), .val (.int .i64 r20.2.2.2.2.2.2.2.2.2.2.2.2.2.2)] 215], [.ro 2 5 (List.map en_api_RoundTower w5), .ro 3 1 (List.map en_Lint w6), .ro 4 4 (List.map en_api_RoundWinder w7)], [.blk 9 [.ref 2, .ref 3, .ref 4, .val (.int .i64 w8), .val (.int .i64 w9), .val (.int .u16 w10), .val (.int .i64 w11), .val (.int .i64 w12), .val (.int .i64 w13), .val (.int .i64 w14), .val (.int .i64 w15), .val (.int .i64 w16), .val (.int .i64 w17), .val (.int .i64 w18)] 215]⟩, ⟨.val (.bool (r20.1 == 0)), [], [], []⟩, ⟨.val (.bool false), [], [], []⟩, ⟨.val (undef), [], [], []⟩, ⟨.val (undef), [], [], []⟩, ⟨.val (undef), [], [], []⟩, ⟨.val (undef), [], [], []⟩, ⟨.val (undef), [], [], []⟩, ⟨.val (undef), [], [], []⟩, ⟨.val (undef), [], [], []⟩, ⟨.val (undef), [], [], []⟩, ⟨.val (undef), [], [], []⟩, ⟨.val (undef), [], [], []⟩, ⟨.val (undef), [], [], []⟩, ⟨.val (undef), [], [], []⟩] rfl ?_ rfl ?_ rfl ?_ ?_
      · kernel_rfl
      · kernel_rfl
      · exact DAll.opT (ts_call (avs := [.ptr 9 0]) (take := [.blk 9 [.ref 2, .ref 3, .ref 4, .val (.int .i64 w8), .val (.int .i64 w9), .val (.int .u16 w10), .val (.int .i64 w11), .val (.int .i64 w12), .val (.int .i64 w13), .val (.int .i64 w14), .val (.int .i64 w15), .val (.int .i64 w16), .val (.int .i64 w17), .val (.int .i64 w18)] 215]) (need := [.ro 2 5 (List.map en_api_RoundTower w5), .ro 3 1 (List.map en_Lint w6), .ro 4 4 (List.map en_api_RoundWinder w7)]) (v := .val (.int .i64 r20.1)) (news := [.ro 10 5 (List.map en_api_RoundTower r20.2.1), .ro 11 1 (List.map en_Lint r20.2.2.1), .ro 12 4 (List.map en_api_RoundWinder r20.2.2.2.1), .blk 9 [.ref 10, .ref 11, .ref 12, .val (.int .i64 r20.2.2.2.2.1), .val (.int .i64 r20.2.2.2.2.2.1), .val (.int .u16 r20.2.2.2.2.2.2.1), .val (.int .i64 r20.2.2.2.2.2.2.2.1), .val (.int .i64 r20.2.2.2.2.2.2.2.2.1), .val (.int .i64 r20.2.2.2.2.2.2.2.2.2.1), .val (.int .i64 r20.2.2.2.2.2.2.2.2.2.2.1), .val (.int .i64 r20.2.2.2.2.2.2.2.2.2.2.2.1), .val (.int .i64 r20.2.2.2.2.2.2.2.2.2.2.2.2.1), .val (.int .i64 r20.2.2.2.2.2.2.2.2.2.2.2.2.2.1), .val (.int .i64 r20.2.2.2.2.2.2.2.2.2.2.2.2.2.2)] 215]) rfl rfl rfl Try.call93 (atT [(0, 9), (1, 2), (2, 3), (3, 4)] [(500, 10), (501, 11), (502, 12), (0, 9)] (ft_p_round_walker_home h4) rfl rfl rfl) rfl rfl) trivial (From.ok (ps := [(none, 0)]) ⟨⟨rfl, by kernel_rfl⟩, trivial⟩) (From.ok (ps := [(none, 5), (none, 6), (none, 7)]) ⟨⟨rfl, by kernel_rfl⟩, ⟨rfl, by kernel_rfl⟩, ⟨rfl, by kernel_rfl⟩, trivial⟩) (DAll.op' (sp_eql rfl rfl rfl) trivial rfl (From.ok (ps := []) trivial) (DAll.op' (sp_castB h5 (sp_move rfl rfl)) trivial rfl (From.ok (ps := []) trivial) (.skip ⟨_, rfl, .inl rfl⟩ rfl rfl rfl (.skip ⟨_, rfl, .inl rfl⟩ rfl rfl rfl (.skip ⟨_, rfl, .inl rfl⟩ rfl rfl rfl (.skip ⟨_, rfl, .inl rfl⟩ rfl rfl rfl (.skip ⟨_, rfl, .inl rfl⟩ rfl rfl rfl (.skip ⟨_, rfl, .inl rfl⟩ rfl rfl rfl (.skip ⟨_, rfl, .inr rfl⟩ rfl rfl rfl (.skip ⟨_, rfl, .inr rfl⟩ rfl rfl rfl (.skip ⟨_, rfl, .inr rfl⟩ rfl rfl rfl (.skip ⟨_, rfl, .inr rfl⟩ rfl rfl rfl (.skip ⟨_, rfl, .inr rfl⟩ rfl rfl rfl (.skip ⟨_, rfl, .inr rfl⟩ rfl rfl rfl (.nil)))))))))))))))
      refine opSkip rfl ⟨_, rfl, .inr rfl⟩ rfl ?_
      refine opSkip rfl ⟨_, rfl, .inl rfl⟩ rfl ?_
      refine op0 (sp_pickF rfl rfl rfl) rfl trivial rfl rfl ?_
      refine TL.nil ?_
      refine TC.condF rfl ?_
      refine subJ [] (ok_p_round_search_try_j6 hself h) ?_ ?_ ?_
      · exact ⟨rfl, rfl, rfl, trivial⟩
      · exact ⟨mem_at 4 rfl, mem_at 5 rfl, mem_at 6 rfl, mem_at 7 rfl, mem_at 8 rfl, mem_at 9 rfl, mem_at 10 rfl, mem_at 11 rfl, mem_at 12 rfl, trivial⟩
      · rfl
  · have h := cond_f h h3
    refine TC.skip ?_
    refine TC.seq ?_
    refine subJ [(13, 1)] (ok_p_round_search_try_j2 hself h) ?_ ?_ ?_
    · exact ⟨rfl, rfl, rfl, trivial⟩
    · exact ⟨mem_at 0 rfl, mem_at 1 rfl, mem_at 2 rfl, mem_at 3 rfl, mem_at 4 rfl, mem_at 5 rfl, mem_at 6 rfl, mem_at 7 rfl, mem_at 8 rfl, trivial⟩
    · rfl
def ev_p_round_search_try : Nat → Int → (List Int) → Int → Bool → (List (Int × Int × Int × Int × Int)) → (List ((List Int))) → (List (Int × Int × Int × Int)) → Int → Int → Int → Int → Int → Int → Int → Int → Int → Int → Int → (List Int) → Option (Int × (List Int) × Int × Bool)
  | 0, _, _, _, _, _, _, _, _, _, _, _, _, _, _, _, _, _, _, _ => none
  | n + 1, s1, s2, s3, s4, w5, w6, w7, w8, w9, w10, w11, w12, w13, w14, w15, w16, w17, w18, steps19 => cond s4 (cond (decide (s3 ≤ w18)) (some (s1, s2, s3, s4)) (ev_p_round_search_try_j0 n w15 s1 w5 w6 w7 w8 w9 w10 w11 w12 w13 w14 w16 w17 w18 s4 s3 steps19 s2 (ev_p_round_search_try n))) (ev_p_round_search_try_j0 n w15 s1 w5 w6 w7 w8 w9 w10 w11 w12 w13 w14 w16 w17 w18 s4 s3 steps19 s2 (ev_p_round_search_try n))
set_option maxRecDepth 100000 in
set_option maxHeartbeats 2000000 in
theorem fcr_p_round_search_try : ∀ (n : Nat) (s1 : Int) (s2 : List Int) (s3 : Int) (s4 : Bool) (w5 : List (Int × Int × Int × Int × Int)) (w6 : List ((List Int))) (w7 : List (Int × Int × Int × Int)) (w8 : Int) (w9 : Int) (w10 : Int) (w11 : Int) (w12 : Int) (w13 : Int) (w14 : Int) (w15 : Int) (w16 : Int) (w17 : Int) (w18 : Int) (steps19 : List Int) (r : Int × (List Int) × Int × Bool), ev_p_round_search_try n s1 s2 s3 s4 w5 w6 w7 w8 w9 w10 w11 w12 w13 w14 w15 w16 w17 w18 steps19 = some r → FT Try.prog 90 [.ptr 0 0, .agg [.ref 2, .ref 3, .ref 4, .val (.int .i64 w8), .val (.int .i64 w9), .val (.int .u16 w10), .val (.int .i64 w11), .val (.int .i64 w12), .val (.int .i64 w13), .val (.int .i64 w14), .val (.int .i64 w15), .val (.int .i64 w16), .val (.int .i64 w17), .val (.int .i64 w18)], .ref 5] [.blk 0 [.val (.int .i64 s1), .ref 1, .val (.int .i64 s3), .val (.bool s4)] 210] [.ro 1 1 (List.map en_int s2), .ro 2 5 (List.map en_api_RoundTower w5), .ro 3 1 (List.map en_Lint w6), .ro 4 4 (List.map en_api_RoundWinder w7), .ro 5 1 (List.map en_int steps19)] (.tup []) [.ro 500 1 (List.map en_int r.2.1), .blk 0 [.val (.int .i64 r.1), .ref 500, .val (.int .i64 r.2.2.1), .val (.bool r.2.2.2)] 210] := by
  intro n
  induction n with
  | zero => intro _ _ _ _ _ _ _ _ _ _ _ _ _ _ _ _ _ _ _ r h; exact none_no h
  | succ n ih =>
    intro s1 s2 s3 s4 w5 w6 w7 w8 w9 w10 w11 w12 w13 w14 w15 w16 w17 w18 steps19 r h
    refine introM (nz := 118) 6 [(7, 0)] Try.func90 rfl rfl rfl rfl (fun w0 M0 R0 env0 => ?_)
    rw [ev_p_round_search_try] at h
    refine TC.seq ?_
    refine TC.region ?_
    refine op0 (sp_box 8 rfl rfl rfl rfl rfl) rfl trivial rfl rfl ?_
    refine TL.nil ?_
    refine TC.seq ?_
    refine TC.seq ?_
    rcases cond_cases h with ⟨h1, h⟩ | ⟨h1, h⟩
    · refine drawJ 11 [⟨.ptr 0 0, [], [], []⟩, ⟨.ptr 0 0, [], [.blk 0 [.val (.int .i64 s1), .ref 1, .val (.int .i64 s3), .val (.bool s4)] 210], []⟩, ⟨.ptr 0 3, [], [.blk 0 [.val (.int .i64 s1), .ref 1, .val (.int .i64 s3), .val (.bool s4)] 210], []⟩, ⟨.val (.bool s4), [], [.blk 0 [.val (.int .i64 s1), .ref 1, .val (.int .i64 s3), .val (.bool s4)] 210], []⟩, ⟨.val (.bool true), [], [], []⟩, ⟨.ptr 8 13, [], [.blk 8 [.ref 2, .ref 3, .ref 4, .val (.int .i64 w8), .val (.int .i64 w9), .val (.int .u16 w10), .val (.int .i64 w11), .val (.int .i64 w12), .val (.int .i64 w13), .val (.int .i64 w14), .val (.int .i64 w15), .val (.int .i64 w16), .val (.int .i64 w17), .val (.int .i64 w18)] 215], []⟩, ⟨.val (.int .i64 w18), [], [.blk 8 [.ref 2, .ref 3, .ref 4, .val (.int .i64 w8), .val (.int .i64 w9), .val (.int .u16 w10), .val (.int .i64 w11), .val (.int .i64 w12), .val (.int .i64 w13), .val (.int .i64 w14), .val (.int .i64 w15), .val (.int .i64 w16), .val (.int .i64 w17), .val (.int .i64 w18)] 215], []⟩, ⟨.ptr 0 0, [], [], []⟩, ⟨.ptr 0 0, [], [.blk 0 [.val (.int .i64 s1), .ref 1, .val (.int .i64 s3), .val (.bool s4)] 210], []⟩, ⟨.ptr 0 2, [], [.blk 0 [.val (.int .i64 s1), .ref 1, .val (.int .i64 s3), .val (.bool s4)] 210], []⟩, ⟨.val (.int .i64 s3), [], [.blk 0 [.val (.int .i64 s1), .ref 1, .val (.int .i64 s3), .val (.bool s4)] 210], []⟩] rfl ?_ rfl ?_ rfl ?_ ?_
      · kernel_rfl
      · kernel_rfl
      · exact DAll.op' (sp_move rfl rfl) trivial rfl (From.ok (ps := []) trivial) (DAll.op' (sp_nilCheck rfl isBlk rfl) trivial rfl (From.ok (ps := [(none, 3)]) ⟨⟨rfl, rfl⟩, trivial⟩) (DAll.op' (sp_fieldAddrB rfl isBlk rfl ft210_3 vt4 (by decide)) trivial rfl (From.ok (ps := [(none, 3)]) ⟨⟨rfl, rfl⟩, trivial⟩) (DAll.op' (sp_loadB rfl isBlk rfl vt4 rfl) trivial rfl (From.ok (ps := [(none, 3)]) ⟨⟨rfl, rfl⟩, trivial⟩) (DAll.op' (sp_castB h1 (sp_move rfl rfl)) trivial rfl (From.ok (ps := []) trivial) (DAll.op' (sp_fieldAddrB rfl isBlk rfl ft215_6 vt3 (by decide)) ⟨_, rfl, rfl⟩ rfl (From.ok (ps := [(none, 0)]) ⟨⟨rfl, rfl⟩, trivial⟩) (DAll.op' (sp_loadB rfl isBlk rfl vt3 rfl) ⟨_, rfl, rfl⟩ rfl (From.ok (ps := [(none, 0)]) ⟨⟨rfl, rfl⟩, trivial⟩) (DAll.op' (sp_move rfl rfl) ⟨_, rfl, rfl⟩ rfl (From.ok (ps := []) trivial) (DAll.op' (sp_nilCheck rfl isBlk rfl) ⟨_, rfl, rfl⟩ rfl (From.ok (ps := [(none, 3)]) ⟨⟨rfl, rfl⟩, trivial⟩) (DAll.op' (sp_fieldAddrB rfl isBlk rfl ft210_2 vt3 (by decide)) ⟨_, rfl, rfl⟩ rfl (From.ok (ps := [(none, 3)]) ⟨⟨rfl, rfl⟩, trivial⟩) (DAll.op' (sp_loadB rfl isBlk rfl vt3 rfl) ⟨_, rfl, rfl⟩ rfl (From.ok (ps := [(none, 3)]) ⟨⟨rfl, rfl⟩, trivial⟩) (.nil)))))))))))
      refine op0 (sp_geq rfl rfl rfl) rfl ⟨_, rfl, rfl⟩ rfl rfl ?_
      refine op0 (sp_pickT rfl rfl rfl) rfl trivial rfl rfl ?_
      refine TL.nil ?_
      refine TC.cond (b := (decide (s3 ≤ w18))) rfl (fun h2 => ?_) (fun h2 => ?_)
      · have h := cond_t h h2
        cases h
        exact retM [(500, 1)] 1 6 [0] rfl (.nil) rfl ⟨mem_at 3 rfl, mem_at 2 rfl, trivial⟩ rfl rfl ⟨⟨_, mem_at 1 rfl⟩, trivial⟩ rfl
      · have h := cond_f h h2
        refine subJ [] (ok_p_round_search_try_j0 ih h) ?_ ?_ ?_
        · exact ⟨rfl, rfl, rfl, trivial⟩
        · exact ⟨mem_at 3 rfl, mem_at 8 rfl, mem_at 0 rfl, mem_at 4 rfl, mem_at 5 rfl, mem_at 6 rfl, mem_at 7 rfl, mem_at 1 rfl, mem_at 2 rfl, trivial⟩
        · rfl
    · refine drawJ 11 [⟨.ptr 0 0, [], [], []⟩, ⟨.ptr 0 0, [], [.blk 0 [.val (.int .i64 s1), .ref 1, .val (.int .i64 s3), .val (.bool s4)] 210], []⟩, ⟨.ptr 0 3, [], [.blk 0 [.val (.int .i64 s1), .ref 1, .val (.int .i64 s3), .val (.bool s4)] 210], []⟩, ⟨.val (.bool s4), [], [.blk 0 [.val (.int .i64 s1), .ref 1, .val (.int .i64 s3), .val (.bool s4)] 210], []⟩, ⟨.val (.bool false), [], [], []⟩, ⟨.val (undef), [], [], []⟩, ⟨.val (undef), [], [], []⟩, ⟨.val (undef), [], [], []⟩, ⟨.val (undef), [], [], []⟩, ⟨.val (undef), [], [], []⟩, ⟨.val (undef), [], [], []⟩] rfl ?_ rfl ?_ rfl ?_ ?_
      · kernel_rfl
      · kernel_rfl
      · exact DAll.op' (sp_move rfl rfl) trivial rfl (From.ok (ps := []) trivial) (DAll.op' (sp_nilCheck rfl isBlk rfl) trivial rfl (From.ok (ps := [(none, 3)]) ⟨⟨rfl, rfl⟩, trivial⟩) (DAll.op' (sp_fieldAddrB rfl isBlk rfl ft210_3 vt4 (by decide)) trivial rfl (From.ok (ps := [(none, 3)]) ⟨⟨rfl, rfl⟩, trivial⟩) (DAll.op' (sp_loadB rfl isBlk rfl vt4 rfl) trivial rfl (From.ok (ps := [(none, 3)]) ⟨⟨rfl, rfl⟩, trivial⟩) (DAll.op' (sp_castB h1 (sp_move rfl rfl)) trivial rfl (From.ok (ps := []) trivial) (.skip ⟨_, rfl, .inl rfl⟩ rfl rfl rfl (.skip ⟨_, rfl, .inl rfl⟩ rfl rfl rfl (.skip ⟨_, rfl, .inl rfl⟩ rfl rfl rfl (.skip ⟨_, rfl, .inl rfl⟩ rfl rfl rfl (.skip ⟨_, rfl, .inl rfl⟩ rfl rfl rfl (.skip ⟨_, rfl, .inl rfl⟩ rfl rfl rfl (.nil)))))))))))
      refine opSkip rfl ⟨_, rfl, .inl rfl⟩ rfl ?_
      refine op0 (sp_pickF rfl rfl rfl) rfl trivial rfl rfl ?_
      refine TL.nil ?_
      refine TC.condF rfl ?_
      refine subJ [] (ok_p_round_search_try_j0 ih h) ?_ ?_ ?_
      · exact ⟨rfl, rfl, rfl, trivial⟩
      · exact ⟨mem_at 3 rfl, mem_at 8 rfl, mem_at 0 rfl, mem_at 4 rfl, mem_at 5 rfl, mem_at 6 rfl, mem_at 7 rfl, mem_at 1 rfl, mem_at 2 rfl, trivial⟩
      · rfl
theorem ft_p_round_search_try {n : Nat} {s1 : Int} {s2 : List Int} {s3 : Int} {s4 : Bool} {w5 : List (Int × Int × Int × Int × Int)} {w6 : List ((List Int))} {w7 : List (Int × Int × Int × Int)} {w8 : Int} {w9 : Int} {w10 : Int} {w11 : Int} {w12 : Int} {w13 : Int} {w14 : Int} {w15 : Int} {w16 : Int} {w17 : Int} {w18 : Int} {steps19 : List Int} {r : Int × (List Int) × Int × Bool} (h : ev_p_round_search_try n s1 s2 s3 s4 w5 w6 w7 w8 w9 w10 w11 w12 w13 w14 w15 w16 w17 w18 steps19 = some r) : FT Try.prog 90 [.ptr 0 0, .agg [.ref 2, .ref 3, .ref 4, .val (.int .i64 w8), .val (.int .i64 w9), .val (.int .u16 w10), .val (.int .i64 w11), .val (.int .i64 w12), .val (.int .i64 w13), .val (.int .i64 w14), .val (.int .i64 w15), .val (.int .i64 w16), .val (.int .i64 w17), .val (.int .i64 w18)], .ref 5] [.blk 0 [.val (.int .i64 s1), .ref 1, .val (.int .i64 s3), .val (.bool s4)] 210] [.ro 1 1 (List.map en_int s2), .ro 2 5 (List.map en_api_RoundTower w5), .ro 3 1 (List.map en_Lint w6), .ro 4 4 (List.map en_api_RoundWinder w7), .ro 5 1 (List.map en_int steps19)] (.tup []) [.ro 500 1 (List.map en_int r.2.1), .blk 0 [.val (.int .i64 r.1), .ref 500, .val (.int .i64 r.2.2.1), .val (.bool r.2.2.2)] 210] := fcr_p_round_search_try n s1 s2 s3 s4 w5 w6 w7 w8 w9 w10 w11 w12 w13 w14 w15 w16 w17 w18 steps19 r h
/- round_Best -/
def ev_round_Best (n : Nat) (rr1 : List (Int × Int × Int × Int × Int)) (rr2 : List ((List Int))) (rr3 : List (Int × Int × Int × Int)) (rr4 : Int) (rr5 : Int) (winder6 : Int) (towers7 : List Int) : Option ((List Int) × Int × Int) :=
  (ev_round_Check n rr1 rr2 rr3 rr4 rr5).bind fun r8 => cond (r8 != 0) (some (([] : List Int), 0, r8)) ((ev_round_isNumber n rr1 rr2 rr3 rr4 rr5 winder6).bind fun r9 => cond (!r9) (some (([] : List Int), 0, 7)) ((ev_round_checkTowers n rr1 rr2 rr3 rr4 rr5 towers7).bind fun r10 => cond (r10.2 != 0) (some (([] : List Int), 0, r10.2)) ((ev_round_start n rr1 rr2 rr3 rr4 rr5 winder6).bind fun r11 => (ev_p_round_search_try n r10.1 ([] : List Int) 0 false r11.1 r11.2.1 r11.2.2.1 r11.2.2.2.1 r11.2.2.2.2.1 r11.2.2.2.2.2.1 r11.2.2.2.2.2.2.1 r11.2.2.2.2.2.2.2.1 r11.2.2.2.2.2.2.2.2.1 r11.2.2.2.2.2.2.2.2.2.1 r11.2.2.2.2.2.2.2.2.2.2.1 r11.2.2.2.2.2.2.2.2.2.2.2.1 r11.2.2.2.2.2.2.2.2.2.2.2.2.1 r11.2.2.2.2.2.2.2.2.2.2.2.2.2 ([])).bind fun r12 => cond (!r12.2.2.2) (some (([] : List Int), 0, 7)) (some (r12.2.1, r12.2.2.1, 0)))))
set_option maxRecDepth 100000 in
set_option maxHeartbeats 2000000 in
theorem fc_round_Best {n : Nat} {rr1 : List (Int × Int × Int × Int × Int)} {rr2 : List ((List Int))} {rr3 : List (Int × Int × Int × Int)} {rr4 : Int} {rr5 : Int} {winder6 : Int} {towers7 : List Int} {r : (List Int) × Int × Int} (h : ev_round_Best n rr1 rr2 rr3 rr4 rr5 winder6 towers7 = some r) : FC Try.prog 25 [.agg [.ref 0, .ref 1, .ref 2, .val (.int .i64 rr4), .val (.int .i64 rr5)], .val (.int .i64 winder6), .ref 3] [.ro 0 5 (List.map en_api_RoundTower rr1), .ro 1 1 (List.map en_Lint rr2), .ro 2 4 (List.map en_api_RoundWinder rr3), .ro 3 1 (List.map en_int towers7)] (.tup [.ref 0, .val (.int .i64 r.2.1), .val (.int .i64 r.2.2)]) [.ro 0 1 (List.map en_int r.1)] := by
  refine introJ (nz := 53) Try.func25 rfl rfl rfl (fun w0 R0 env0 => ?_)
  rw [ev_round_Best] at h
  refine TC.seq ?_
  refine TC.region ?_
  refine op0 (sp_box 4 rfl rfl rfl rfl rfl) rfl trivial rfl rfl ?_
  refine op0 (sp_assign rfl rfl) rfl trivial rfl rfl ?_
  refine op0 (sp_assign rfl rfl) rfl trivial rfl rfl ?_
  refine op0 (sp_assign rfl rfl) rfl trivial rfl rfl ?_
  refine TL.nil ?_
  refine TC.seq ?_
  refine TC.seq ?_
  refine TC.region ?_
  refine op1 0 rfl (sp_loadBA rfl isBlk rfl vt74 rfl rfl) rfl trivial rfl rfl ?_
  obtain ⟨r8, h1, h⟩ := bind_inv h
  refine opN (need := [.ro 0 5 (List.map en_api_RoundTower rr1), .ro 1 1 (List.map en_Lint rr2), .ro 2 4 (List.map en_api_RoundWinder rr3)]) [1, 2, 3] ⟨rfl, rfl, rfl, trivial⟩ (sp_call (avs := [.agg [.ref 0, .ref 1, .ref 2, .val (.int .i64 rr4), .val (.int .i64 rr5)]]) (need := [.ro 0 5 (List.map en_api_RoundTower rr1), .ro 1 1 (List.map en_Lint rr2), .ro 2 4 (List.map en_api_RoundWinder rr3)]) (v := .val (.int .i64 r8)) (news := []) rfl rfl rfl Try.call87 (atJ [] [] (fc_round_Check h1) rfl rfl) (.inl (roAll rfl))) rfl trivial rfl rfl ?_
  refine op0 (sp_assign rfl rfl) rfl trivial rfl rfl ?_
  refine TL.nil ?_
  refine TC.block ?_
  refine TC.seq ?_
  refine TC.region ?_
  refine op0 (sp_move rfl rfl) rfl trivial rfl rfl ?_
  refine op0 (sp_neq rfl rfl rfl) rfl trivial rfl rfl ?_
  refine op0 (sp_assign rfl rfl) rfl trivial rfl rfl ?_
  refine TL.nil ?_
  refine TC.cond (b := (r8 != 0)) rfl (fun h2 => ?_) (fun h2 => ?_)
  · have h := cond_t h h2
    refine TC.seq ?_
    refine TC.region ?_
    refine op0 (sp_move rfl rfl) rfl trivial rfl rfl ?_
    refine op0 (sp_assign rfl rfl) rfl trivial rfl rfl ?_
    refine op0 (sp_assign rfl rfl) rfl trivial rfl rfl ?_
    refine op0 (sp_assign rfl rfl) rfl trivial rfl rfl ?_
    refine TL.nil ?_
    refine nilRowC 6 5 3 1 (List.map en_int []) rfl rfl rfl ?_
    refine TC.freeze 0 rfl ?_
    cases h
    exact retJ [(0, 5)] (.tmp rfl (.tmp rfl (.tmp rfl .nil))) rfl ⟨mem_at 0 rfl, trivial⟩ rfl rfl
  · have h := cond_f h h2
    refine TC.seq ?_
    refine TC.region ?_
    refine op1 0 rfl (sp_loadBA rfl isBlk rfl vt74 rfl rfl) rfl trivial rfl rfl ?_
    refine op0 (sp_move rfl rfl) rfl trivial rfl rfl ?_
    obtain ⟨r9, h3, h⟩ := bind_inv h
    refine opN (need := [.ro 0 5 (List.map en_api_RoundTower rr1), .ro 1 1 (List.map en_Lint rr2), .ro 2 4 (List.map en_api_RoundWinder rr3)]) [1, 2, 3] ⟨rfl, rfl, rfl, trivial⟩ (sp_call (avs := [.agg [.ref 0, .ref 1, .ref 2, .val (.int .i64 rr4), .val (.int .i64 rr5)], .val (.int .i64 winder6)]) (need := [.ro 0 5 (List.map en_api_RoundTower rr1), .ro 1 1 (List.map en_Lint rr2), .ro 2 4 (List.map en_api_RoundWinder rr3)]) (v := .val (.bool r9)) (news := []) rfl rfl rfl Try.call88 (atJ [] [] (fc_round_isNumber h3) rfl rfl) (.inl (roAll rfl))) rfl trivial rfl rfl ?_
    refine op0 (sp_not rfl rfl) rfl trivial rfl rfl ?_
    refine op0 (sp_assign rfl rfl) rfl trivial rfl rfl ?_
    refine TL.nil ?_
    refine TC.cond (b := (!r9)) rfl (fun h4 => ?_) (fun h4 => ?_)
    · have h := cond_t h h4
      refine TC.seq ?_
      refine TC.region ?_
      refine op0 (sp_assign rfl rfl) rfl trivial rfl rfl ?_
      refine op0 (sp_assign rfl rfl) rfl trivial rfl rfl ?_
      refine op0 (sp_assign rfl rfl) rfl trivial rfl rfl ?_
      refine TL.nil ?_
      refine nilRowC 6 6 3 1 (List.map en_int []) rfl rfl rfl ?_
      refine TC.freeze 0 rfl ?_
      cases h
      exact retJ [(0, 6)] (.tmp rfl (.tmp rfl (.tmp rfl .nil))) rfl ⟨mem_at 0 rfl, trivial⟩ rfl rfl
    · have h := cond_f h h4
      refine TC.skip ?_
      refine TC.inBlock ?_
      refine TC.seq ?_
      refine TC.region ?_
      refine op1 0 rfl (sp_loadBA rfl isBlk rfl vt74 rfl rfl) rfl trivial rfl rfl ?_
      refine op0 (sp_move rfl rfl) rfl trivial rfl rfl ?_
      obtain ⟨r10, h5, h⟩ := bind_inv h
      refine opN (need := [.ro 0 5 (List.map en_api_RoundTower rr1), .ro 1 1 (List.map en_Lint rr2), .ro 2 4 (List.map en_api_RoundWinder rr3), .ro 3 1 (List.map en_int towers7)]) [1, 2, 3, 4] ⟨rfl, rfl, rfl, rfl, trivial⟩ (sp_call (avs := [.agg [.ref 0, .ref 1, .ref 2, .val (.int .i64 rr4), .val (.int .i64 rr5)], .ref 3]) (need := [.ro 0 5 (List.map en_api_RoundTower rr1), .ro 1 1 (List.map en_Lint rr2), .ro 2 4 (List.map en_api_RoundWinder rr3), .ro 3 1 (List.map en_int towers7)]) (v := .tup [.val (.int .i64 r10.1), .val (.int .i64 r10.2)]) (news := []) rfl rfl rfl Try.call89 (atJ [] [] (fc_round_checkTowers h5) rfl rfl) (.inl (roAll rfl))) rfl trivial rfl rfl ?_
      refine op0 (sp_move rfl rfl) rfl trivial rfl rfl ?_
      refine op0 (sp_extract rfl rfl rfl) rfl trivial rfl rfl ?_
      refine op0 (sp_extract rfl rfl rfl) rfl trivial rfl rfl ?_
      refine op0 (sp_assign rfl rfl) rfl trivial rfl rfl ?_
      refine op0 (sp_assign rfl rfl) rfl trivial rfl rfl ?_
      refine TL.nil ?_
      refine TC.seq ?_
      refine TC.seq ?_
      refine TC.region ?_
      refine op0 (sp_move rfl rfl) rfl trivial rfl rfl ?_
      refine op0 (sp_neq rfl rfl rfl) rfl trivial rfl rfl ?_
      refine TL.nil ?_
      refine TC.cond (b := (r10.2 != 0)) rfl (fun h6 => ?_) (fun h6 => ?_)
      · have h := cond_t h h6
        refine TC.seq ?_
        refine TC.region ?_
        refine op0 (sp_move rfl rfl) rfl trivial rfl rfl ?_
        refine op0 (sp_assign rfl rfl) rfl trivial rfl rfl ?_
        refine op0 (sp_assign rfl rfl) rfl trivial rfl rfl ?_
        refine op0 (sp_assign rfl rfl) rfl trivial rfl rfl ?_
        refine TL.nil ?_
        refine nilRowC 6 7 3 1 (List.map en_int []) rfl rfl rfl ?_
        refine TC.freeze 0 rfl ?_
        cases h
        exact retJ [(0, 7)] (.tmp rfl (.tmp rfl (.tmp rfl .nil))) rfl ⟨mem_at 0 rfl, trivial⟩ rfl rfl
      · have h := cond_f h h6
        refine TC.skip ?_
        refine TC.seq ?_
        refine TC.region ?_
        refine op0 (sp_move rfl rfl) rfl trivial rfl rfl ?_
        refine op0 (sp_build (qs := [(0, .val (.int .i64 r10.1))]) rfl bt210 rfl rfl rfl rfl) rfl trivial rfl rfl ?_
        refine op0 (sp_box 8 rfl rfl rfl rfl rfl) rfl trivial rfl rfl ?_
        refine op0 (sp_assign rfl rfl) rfl trivial rfl rfl ?_
        refine TL.nil ?_
        refine TC.seq ?_
        refine TC.seq ?_
        refine TC.region ?_
        refine op0 (sp_move rfl rfl) rfl trivial rfl rfl ?_
        refine op1 1 rfl (sp_loadBA rfl isBlk rfl vt74 rfl rfl) rfl trivial rfl rfl ?_
        refine op0 (sp_move rfl rfl) rfl trivial rfl rfl ?_
        obtain ⟨r11, h7, h⟩ := bind_inv h
        refine opN (need := [.ro 0 5 (List.map en_api_RoundTower rr1), .ro 1 1 (List.map en_Lint rr2), .ro 2 4 (List.map en_api_RoundWinder rr3)]) [2, 3, 4] ⟨rfl, rfl, rfl, trivial⟩ (sp_call (avs := [.agg [.ref 0, .ref 1, .ref 2, .val (.int .i64 rr4), .val (.int .i64 rr5)], .val (.int .i64 winder6)]) (need := [.ro 0 5 (List.map en_api_RoundTower rr1), .ro 1 1 (List.map en_Lint rr2), .ro 2 4 (List.map en_api_RoundWinder rr3)]) (v := .agg [.ref 9, .ref 10, .ref 11, .val (.int .i64 r11.2.2.2.1), .val (.int .i64 r11.2.2.2.2.1), .val (.int .u16 r11.2.2.2.2.2.1), .val (.int .i64 r11.2.2.2.2.2.2.1), .val (.int .i64 r11.2.2.2.2.2.2.2.1), .val (.int .i64 r11.2.2.2.2.2.2.2.2.1), .val (.int .i64 r11.2.2.2.2.2.2.2.2.2.1), .val (.int .i64 r11.2.2.2.2.2.2.2.2.2.2.1), .val (.int .i64 r11.2.2.2.2.2.2.2.2.2.2.2.1), .val (.int .i64 r11.2.2.2.2.2.2.2.2.2.2.2.2.1), .val (.int .i64 r11.2.2.2.2.2.2.2.2.2.2.2.2.2)]) (news := [.ro 9 5 (List.map en_api_RoundTower r11.1), .ro 10 1 (List.map en_Lint r11.2.1), .ro 11 4 (List.map en_api_RoundWinder r11.2.2.1)]) rfl rfl rfl Try.call91 (atJ [] [(0, 9), (1, 10), (2, 11)] (fc_round_start h7) rfl rfl) (.inl (roAll rfl))) rfl trivial rfl rfl ?_
        refine nilCellL 3 12 3 1 8 (List.map en_int []) [.val (.int .i64 r10.1), .ref 12, .val (.int .i64 0), .val (.bool false)] rfl rfl rfl ?_
        refine TL.freeze 0 rfl ?_
        obtain ⟨r12, h8, h⟩ := bind_inv h
        refine opT (take := [.blk 8 [.val (.int .i64 r10.1), .ref 12, .val (.int .i64 0), .val (.bool false)] 210]) (need := [.ro 12 1 (List.map en_int ([] : List Int)), .ro 9 5 (List.map en_api_RoundTower r11.1), .ro 10 1 (List.map en_Lint r11.2.1), .ro 11 4 (List.map en_api_RoundWinder r11.2.2.1)]) (V' := [.ro 14 1 (List.map en_int r12.2.1), .blk 8 [.val (.int .i64 r12.1), .ref 14, .val (.int .i64 r12.2.2.1), .val (.bool r12.2.2.2)] 210, .ro 12 1 (List.map en_int ([] : List Int)), .ro 9 5 (List.map en_api_RoundTower r11.1), .ro 10 1 (List.map en_Lint r11.2.1), .ro 11 4 (List.map en_api_RoundWinder r11.2.2.1), .blk 4 [.ref 0, .ref 1, .ref 2, .val (.int .i64 rr4), .val (.int .i64 rr5)] 74, .ro 0 5 (List.map en_api_RoundTower rr1), .ro 1 1 (List.map en_Lint rr2), .ro 2 4 (List.map en_api_RoundWinder rr3), .ro 3 1 (List.map en_int towers7)]) [4] [0, 1, 2, 3] (ts_call (avs := [.ptr 8 0, .agg [.ref 9, .ref 10, .ref 11, .val (.int .i64 r11.2.2.2.1), .val (.int .i64 r11.2.2.2.2.1), .val (.int .u16 r11.2.2.2.2.2.1), .val (.int .i64 r11.2.2.2.2.2.2.1), .val (.int .i64 r11.2.2.2.2.2.2.2.1), .val (.int .i64 r11.2.2.2.2.2.2.2.2.1), .val (.int .i64 r11.2.2.2.2.2.2.2.2.2.1), .val (.int .i64 r11.2.2.2.2.2.2.2.2.2.2.1), .val (.int .i64 r11.2.2.2.2.2.2.2.2.2.2.2.1), .val (.int .i64 r11.2.2.2.2.2.2.2.2.2.2.2.2.1), .val (.int .i64 r11.2.2.2.2.2.2.2.2.2.2.2.2.2)], .val (.slice none 0 0)]) (take := [.blk 8 [.val (.int .i64 r10.1), .ref 12, .val (.int .i64 0), .val (.bool false)] 210]) (need := [.ro 12 1 (List.map en_int ([] : List Int)), .ro 9 5 (List.map en_api_RoundTower r11.1), .ro 10 1 (List.map en_Lint r11.2.1), .ro 11 4 (List.map en_api_RoundWinder r11.2.2.1)]) (v := .tup []) (news := [.ro 14 1 (List.map en_int r12.2.1), .blk 8 [.val (.int .i64 r12.1), .ref 14, .val (.int .i64 r12.2.2.1), .val (.bool r12.2.2.2)] 210]) rfl rfl rfl Try.call90 (FT.nil (args := [.ptr 8 0, .agg [.ref 9, .ref 10, .ref 11, .val (.int .i64 r11.2.2.2.1), .val (.int .i64 r11.2.2.2.2.1), .val (.int .u16 r11.2.2.2.2.2.1), .val (.int .i64 r11.2.2.2.2.2.2.1), .val (.int .i64 r11.2.2.2.2.2.2.2.1), .val (.int .i64 r11.2.2.2.2.2.2.2.2.1), .val (.int .i64 r11.2.2.2.2.2.2.2.2.2.1), .val (.int .i64 r11.2.2.2.2.2.2.2.2.2.2.1), .val (.int .i64 r11.2.2.2.2.2.2.2.2.2.2.2.1), .val (.int .i64 r11.2.2.2.2.2.2.2.2.2.2.2.2.1), .val (.int .i64 r11.2.2.2.2.2.2.2.2.2.2.2.2.2)], .ref 13]) 13 1 (FT.needJ (need := [.ro 13 1 (List.map en_int ([])), .ro 12 1 (List.map en_int ([] : List Int)), .ro 9 5 (List.map en_api_RoundTower r11.1), .ro 10 1 (List.map en_Lint r11.2.1), .ro 11 4 (List.map en_api_RoundWinder r11.2.2.1)]) (need' := [.ro 12 1 (List.map en_int ([] : List Int)), .ro 9 5 (List.map en_api_RoundTower r11.1), .ro 10 1 (List.map en_Lint r11.2.1), .ro 11 4 (List.map en_api_RoundWinder r11.2.2.1), .ro 13 1 (List.map en_int ([]))]) [1, 2, 3, 4, 0] ⟨rfl, rfl, rfl, rfl, rfl, trivial⟩ (atT [(0, 8), (1, 12), (2, 9), (3, 10), (4, 11), (5, 13)] [(500, 14), (0, 8)] (ft_p_round_search_try h8) rfl rfl rfl)) rfl rfl rfl rfl) rfl rfl) trivial rfl ⟨rfl, trivial⟩ ⟨rfl, rfl, rfl, rfl, trivial⟩ rfl rfl ?_
        refine TL.nil ?_
        refine TC.seq ?_
        refine TC.region ?_
        refine op0 (sp_move rfl rfl) rfl trivial rfl rfl ?_
        refine op1 1 rfl (sp_nilCheck rfl isBlk rfl) rfl trivial rfl rfl ?_
        refine op1 1 rfl (sp_fieldAddrB rfl isBlk rfl ft210_3 vt4 (by decide)) rfl trivial rfl rfl ?_
        refine op1 1 rfl (sp_loadB rfl isBlk rfl vt4 rfl) rfl trivial rfl rfl ?_
        refine op0 (sp_not rfl rfl) rfl trivial rfl rfl ?_
        refine TL.nil ?_
        refine TC.cond (b := (!r12.2.2.2)) rfl (fun h9 => ?_) (fun h9 => ?_)
        · have h := cond_t h h9
          refine TC.seq ?_
          refine TC.region ?_
          refine op0 (sp_assign rfl rfl) rfl trivial rfl rfl ?_
          refine op0 (sp_assign rfl rfl) rfl trivial rfl rfl ?_
          refine op0 (sp_assign rfl rfl) rfl trivial rfl rfl ?_
          refine TL.nil ?_
          refine nilRowC 6 15 3 1 (List.map en_int []) rfl rfl rfl ?_
          refine TC.freeze 0 rfl ?_
          cases h
          exact retJ [(0, 15)] (.tmp rfl (.tmp rfl (.tmp rfl .nil))) rfl ⟨mem_at 0 rfl, trivial⟩ rfl rfl
        · have h := cond_f h h9
          refine TC.skip ?_
          refine TC.seq ?_
          refine drawJ 9 [⟨.ptr 8 0, [], [], []⟩, ⟨.ptr 8 0, [], [.blk 8 [.val (.int .i64 r12.1), .ref 14, .val (.int .i64 r12.2.2.1), .val (.bool r12.2.2.2)] 210], []⟩, ⟨.ptr 8 1, [], [.blk 8 [.val (.int .i64 r12.1), .ref 14, .val (.int .i64 r12.2.2.1), .val (.bool r12.2.2.2)] 210], []⟩, ⟨.ref 14, [], [.blk 8 [.val (.int .i64 r12.1), .ref 14, .val (.int .i64 r12.2.2.1), .val (.bool r12.2.2.2)] 210], []⟩, ⟨.ptr 8 0, [], [], []⟩, ⟨.ptr 8 0, [], [.blk 8 [.val (.int .i64 r12.1), .ref 14, .val (.int .i64 r12.2.2.1), .val (.bool r12.2.2.2)] 210], []⟩, ⟨.ptr 8 2, [], [.blk 8 [.val (.int .i64 r12.1), .ref 14, .val (.int .i64 r12.2.2.1), .val (.bool r12.2.2.2)] 210], []⟩, ⟨.val (.int .i64 r12.2.2.1), [], [.blk 8 [.val (.int .i64 r12.1), .ref 14, .val (.int .i64 r12.2.2.1), .val (.bool r12.2.2.2)] 210], []⟩, ⟨.ref 14, [], [], []⟩] rfl ?_ rfl ?_ rfl ?_ ?_
          · kernel_rfl
          · kernel_rfl
          · exact DAll.op' (sp_move rfl rfl) trivial rfl (From.ok (ps := []) trivial) (DAll.op' (sp_nilCheck rfl isBlk rfl) trivial rfl (From.ok (ps := [(none, 1)]) ⟨⟨rfl, rfl⟩, trivial⟩) (DAll.op' (sp_fieldAddrB rfl isBlk rfl ft210_1 vt37 (by decide)) trivial rfl (From.ok (ps := [(none, 1)]) ⟨⟨rfl, rfl⟩, trivial⟩) (DAll.op' (sp_loadB rfl isBlk rfl vt37 rfl) trivial rfl (From.ok (ps := [(none, 1)]) ⟨⟨rfl, rfl⟩, trivial⟩) (DAll.op' (sp_move rfl rfl) trivial rfl (From.ok (ps := []) trivial) (DAll.op' (sp_nilCheck rfl isBlk rfl) trivial rfl (From.ok (ps := [(none, 1)]) ⟨⟨rfl, rfl⟩, trivial⟩) (DAll.op' (sp_fieldAddrB rfl isBlk rfl ft210_2 vt3 (by decide)) trivial rfl (From.ok (ps := [(none, 1)]) ⟨⟨rfl, rfl⟩, trivial⟩) (DAll.op' (sp_loadB rfl isBlk rfl vt3 rfl) trivial rfl (From.ok (ps := [(none, 1)]) ⟨⟨rfl, rfl⟩, trivial⟩) (DAll.op' (sp_assign rfl rfl) trivial rfl (From.ok (ps := []) trivial) (.nil)))))))))
          refine op0 (sp_assign rfl rfl) rfl trivial rfl rfl ?_
          refine op0 (sp_assign rfl rfl) rfl trivial rfl rfl ?_
          refine TL.nil ?_
          cases h
          exact retJ [(0, 14)] (.tmp rfl (.tmp rfl (.tmp rfl .nil))) rfl ⟨mem_at 0 rfl, trivial⟩ rfl rfl
/- top_pubRound -/
def ev_top_pubRound (n : Nat) : Option Bool :=
  (ev_top_pubTown n).bind fun r1 => (ev_round_Walk n r1.1 r1.2.1 r1.2.2.1 r1.2.2.2.1 r1.2.2.2.2 0 ([0, 1, (-1)] : List Int)).bind fun r2 => (ev_top_pubTown n).bind fun r3 => (ev_round_Best n r3.1 r3.2.1 r3.2.2.1 r3.2.2.2.1 r3.2.2.2.2 1 ([1] : List Int)).bind fun r4 => cond (r2.2.2.2 == 0) (cond (r4.2.2 == 0) (cond (r2.1 == 130) (cond (r2.2.1 == 260) (cond (r4.2.1 == 85) (cond ((r4.1.length : Int) == 2) (idx r4.1 0 fun x5 => cond (x5 == 1) (idx r4.1 1 fun x6 => some (x6 == (-1))) (some false)) (some false)) (some false)) (some false)) (some false)) (some false)) (some false)
set_option maxRecDepth 100000 in
set_option maxHeartbeats 2000000 in
theorem fc_top_pubRound {n : Nat}  {r : Bool} (h : ev_top_pubRound n = some r) : FC Try.prog 28 [] [] (.val (.bool r)) [] := by
  refine introJ (nz := 59) Try.func28 rfl rfl rfl (fun w0 R0 env0 => ?_)
  rw [ev_top_pubRound] at h
  refine TC.seq ?_
  refine TC.region ?_
  refine op0 (sp_assign rfl rfl) rfl trivial rfl rfl ?_
  refine TL.nil ?_
  refine TC.seq ?_
  refine TC.region ?_
  obtain ⟨r1, h1, h⟩ := bind_inv h
  refine op0 (sp_call (avs := []) (need := []) (v := .agg [.ref 0, .ref 1, .ref 2, .val (.int .i64 r1.2.2.2.1), .val (.int .i64 r1.2.2.2.2)]) (news := [.row 0 218 5 (List.map en_api_RoundTower r1.1), .row 1 37 1 (List.map en_Lint r1.2.1), .row 2 213 4 (List.map en_api_RoundWinder r1.2.2.1)]) rfl rfl rfl Try.call26 (atJ [] [] (fc_top_pubTown h1) rfl rfl) (.inl (roAll rfl))) rfl trivial rfl rfl ?_
  refine op0 (sp_buildSlice (qs := [.val (.int .i64 0), .val (.int .i64 1), .val (.int .i64 (-1))]) (need := []) (els := List.map en_int ([0, 1, (-1)] : List Int)) 3 rfl sl37 (by decide) (by decide) rfl rfl rfl (.v (.v (.v (.nil)))) (map_len fun _ => rfl) rfl rfl rfl) rfl trivial rfl rfl ?_
  refine op0 (sp_build (qs := [(1, .ref 3)]) rfl bt79 rfl rfl rfl rfl) rfl trivial rfl rfl ?_
  obtain ⟨r2, h2, h⟩ := bind_inv h
  refine opN (need := [.row 0 218 5 (List.map en_api_RoundTower r1.1), .row 1 37 1 (List.map en_Lint r1.2.1), .row 2 213 4 (List.map en_api_RoundWinder r1.2.2.1), .row 3 3 1 (List.map en_int ([0, 1, (-1)] : List Int))]) [1, 2, 3, 0] ⟨rfl, rfl, rfl, rfl, trivial⟩ (sp_call (avs := [.agg [.ref 0, .ref 1, .ref 2, .val (.int .i64 r1.2.2.2.1), .val (.int .i64 r1.2.2.2.2)], .agg [.val (.int .i64 0), .ref 3]]) (need := [.row 0 218 5 (List.map en_api_RoundTower r1.1), .row 1 37 1 (List.map en_Lint r1.2.1), .row 2 213 4 (List.map en_api_RoundWinder r1.2.2.1), .row 3 3 1 (List.map en_int ([0, 1, (-1)] : List Int))]) (v := .tup [.val (.int .i64 r2.1), .val (.int .i64 r2.2.1), .val (.int .i64 r2.2.2.1), .val (.int .i64 r2.2.2.2)]) (news := []) rfl rfl rfl Try.call27 (atJ [] [] (fc_round_Walk h2) rfl rfl) (.inr (fun x hx => nomatch hx))) rfl trivial rfl rfl ?_
  refine op0 (sp_move rfl rfl) rfl trivial rfl rfl ?_
  refine op0 (sp_extract rfl rfl rfl) rfl trivial rfl rfl ?_
  refine op0 (sp_extract rfl rfl rfl) rfl trivial rfl rfl ?_
  refine op0 (sp_extract rfl rfl rfl) rfl trivial rfl rfl ?_
  refine op0 (sp_extract rfl rfl rfl) rfl trivial rfl rfl ?_
  refine op0 (sp_assign rfl rfl) rfl trivial rfl rfl ?_
  refine op0 (sp_assign rfl rfl) rfl trivial rfl rfl ?_
  refine op0 (sp_assign rfl rfl) rfl trivial rfl rfl ?_
  refine op0 (sp_assign rfl rfl) rfl trivial rfl rfl ?_
  refine TL.nil ?_
  refine TC.seq ?_
  refine TC.region ?_
  obtain ⟨r3, h3, h⟩ := bind_inv h
  refine op0 (sp_call (avs := []) (need := []) (v := .agg [.ref 4, .ref 5, .ref 6, .val (.int .i64 r3.2.2.2.1), .val (.int .i64 r3.2.2.2.2)]) (news := [.row 4 218 5 (List.map en_api_RoundTower r3.1), .row 5 37 1 (List.map en_Lint r3.2.1), .row 6 213 4 (List.map en_api_RoundWinder r3.2.2.1)]) rfl rfl rfl Try.call26 (atJ [] [(0, 4), (1, 5), (2, 6)] (fc_top_pubTown h3) rfl rfl) (.inl (roAll rfl))) rfl trivial rfl rfl ?_
  refine op0 (sp_buildSlice (qs := [.val (.int .i64 1)]) (need := []) (els := List.map en_int ([1] : List Int)) 7 rfl sl37 (by decide) (by decide) rfl rfl rfl (.v (.nil)) (map_len fun _ => rfl) rfl rfl rfl) rfl trivial rfl rfl ?_
  refine TL.freeze 1 rfl ?_
  refine TL.freeze 2 rfl ?_
  refine TL.freeze 3 rfl ?_
  refine TL.freeze 0 rfl ?_
  obtain ⟨r4, h4, h⟩ := bind_inv h
  refine opN (need := [.ro 4 5 (List.map en_api_RoundTower r3.1), .ro 5 1 (List.map en_Lint r3.2.1), .ro 6 4 (List.map en_api_RoundWinder r3.2.2.1), .ro 7 1 (List.map en_int ([1] : List Int))]) [1, 2, 3, 0] ⟨rfl, rfl, rfl, rfl, trivial⟩ (sp_call (avs := [.agg [.ref 4, .ref 5, .ref 6, .val (.int .i64 r3.2.2.2.1), .val (.int .i64 r3.2.2.2.2)], .val (.int .i64 1), .ref 7]) (need := [.ro 4 5 (List.map en_api_RoundTower r3.1), .ro 5 1 (List.map en_Lint r3.2.1), .ro 6 4 (List.map en_api_RoundWinder r3.2.2.1), .ro 7 1 (List.map en_int ([1] : List Int))]) (v := .tup [.ref 8, .val (.int .i64 r4.2.1), .val (.int .i64 r4.2.2)]) (news := [.ro 8 1 (List.map en_int r4.1)]) rfl rfl rfl Try.call25 (atJ [(0, 4), (1, 5), (2, 6), (3, 7)] [(0, 8)] (fc_round_Best h4) rfl rfl) (.inl (roAll rfl))) rfl trivial rfl rfl ?_
  refine op0 (sp_move rfl rfl) rfl trivial rfl rfl ?_
  refine op0 (sp_extract rfl rfl rfl) rfl trivial rfl rfl ?_
  refine op0 (sp_extract rfl rfl rfl) rfl trivial rfl rfl ?_
  refine op0 (sp_extract rfl rfl rfl) rfl trivial rfl rfl ?_
  refine op0 (sp_assign rfl rfl) rfl trivial rfl rfl ?_
  refine op0 (sp_assign rfl rfl) rfl trivial rfl rfl ?_
  refine op0 (sp_assign rfl rfl) rfl trivial rfl rfl ?_
  refine TL.nil ?_
  refine TC.seq ?_
  refine TC.region ?_
  refine op0 (sp_move rfl rfl) rfl trivial rfl rfl ?_
  refine op0 (sp_eql rfl rfl rfl) rfl trivial rfl rfl ?_
  refine op0 (sp_move rfl rfl) rfl trivial rfl rfl ?_
  rcases cond_cases h with ⟨h5, h⟩ | ⟨h5, h⟩
  · refine (boolLit 26 rfl h5).2 ?_
    refine op0 (sp_move rfl rfl) rfl ⟨_, rfl, rfl⟩ rfl rfl ?_
    refine op0 (sp_eql rfl rfl rfl) rfl ⟨_, rfl, rfl⟩ rfl rfl ?_
    refine op0 (sp_pickT rfl rfl rfl) rfl trivial rfl rfl ?_
    refine op0 (sp_move rfl rfl) rfl trivial rfl rfl ?_
    rcases cond_cases h with ⟨h6, h⟩ | ⟨h6, h⟩
    · refine (boolLit 30 rfl h6).2 ?_
      refine op0 (sp_move rfl rfl) rfl ⟨_, rfl, rfl⟩ rfl rfl ?_
      refine op0 (sp_eql rfl rfl rfl) rfl ⟨_, rfl, rfl⟩ rfl rfl ?_
      refine op0 (sp_pickT rfl rfl rfl) rfl trivial rfl rfl ?_
      refine op0 (sp_move rfl rfl) rfl trivial rfl rfl ?_
      rcases cond_cases h with ⟨h7, h⟩ | ⟨h7, h⟩
      · refine (boolLit 34 rfl h7).2 ?_
        refine op0 (sp_move rfl rfl) rfl ⟨_, rfl, rfl⟩ rfl rfl ?_
        refine op0 (sp_eql rfl rfl rfl) rfl ⟨_, rfl, rfl⟩ rfl rfl ?_
        refine op0 (sp_pickT rfl rfl rfl) rfl trivial rfl rfl ?_
        refine op0 (sp_move rfl rfl) rfl trivial rfl rfl ?_
        rcases cond_cases h with ⟨h8, h⟩ | ⟨h8, h⟩
        · refine (boolLit 38 rfl h8).2 ?_
          refine op0 (sp_move rfl rfl) rfl ⟨_, rfl, rfl⟩ rfl rfl ?_
          refine op0 (sp_eql rfl rfl rfl) rfl ⟨_, rfl, rfl⟩ rfl rfl ?_
          refine op0 (sp_pickT rfl rfl rfl) rfl trivial rfl rfl ?_
          refine op0 (sp_move rfl rfl) rfl trivial rfl rfl ?_
          rcases cond_cases h with ⟨h9, h⟩ | ⟨h9, h⟩
          · refine (boolLit 42 rfl h9).2 ?_
            refine op0 (sp_move rfl rfl) rfl ⟨_, rfl, rfl⟩ rfl rfl ?_
            refine op1 0 rfl (sp_lenM (N := r4.1.length) (len_map _ _) rfl rfl isRo Try.underlying37) rfl ⟨_, rfl, rfl⟩ rfl rfl ?_
            refine op0 (sp_eql rfl rfl rfl) rfl ⟨_, rfl, rfl⟩ rfl rfl ?_
            refine op0 (sp_pickT rfl rfl rfl) rfl trivial rfl rfl ?_
            refine op0 (sp_move rfl rfl) rfl trivial rfl rfl ?_
            rcases cond_cases h with ⟨h10, h⟩ | ⟨h10, h⟩
            · refine (boolLit 47 rfl h10).2 ?_
              refine op0 (sp_move rfl rfl) rfl ⟨_, rfl, rfl⟩ rfl rfl ?_
              obtain ⟨x5, h11, h12, h⟩ := idx_inv h
              refine op1 0 rfl (sp_indexS rfl rfl rfl isRo sl37 h11 (map_get _ h12)) rfl ⟨_, rfl, rfl⟩ rfl rfl ?_
              refine op1 0 rfl (sp_loadR (i := (0 : Int).toNat) (j := 0) rfl rfl isRo vt3 rfl (map_get _ h12) rfl (.v (.nil)) (nodup_of_B rfl)) rfl ⟨_, rfl, rfl⟩ rfl rfl ?_
              refine op0 (sp_eql rfl rfl rfl) rfl ⟨_, rfl, rfl⟩ rfl rfl ?_
              refine op0 (sp_pickT rfl rfl rfl) rfl trivial rfl rfl ?_
              refine op0 (sp_move rfl rfl) rfl trivial rfl rfl ?_
              rcases cond_cases h with ⟨h13, h⟩ | ⟨h13, h⟩
              · refine (boolLit 53 rfl h13).2 ?_
                refine op0 (sp_move rfl rfl) rfl ⟨_, rfl, rfl⟩ rfl rfl ?_
                obtain ⟨x6, h14, h15, h⟩ := idx_inv h
                refine op1 0 rfl (sp_indexS rfl rfl rfl isRo sl37 h14 (map_get _ h15)) rfl ⟨_, rfl, rfl⟩ rfl rfl ?_
                refine op1 0 rfl (sp_loadR (i := (1 : Int).toNat) (j := 0) rfl rfl isRo vt3 rfl (map_get _ h15) rfl (.v (.nil)) (nodup_of_B rfl)) rfl ⟨_, rfl, rfl⟩ rfl rfl ?_
                refine op0 (sp_eql rfl rfl rfl) rfl ⟨_, rfl, rfl⟩ rfl rfl ?_
                refine op0 (sp_pickT rfl rfl rfl) rfl trivial rfl rfl ?_
                refine op0 (sp_assign rfl rfl) rfl trivial rfl rfl ?_
                refine TL.nil ?_
                cases h
                exact retJ [] (.tmp rfl .nil) rfl trivial rfl rfl
              · refine (boolLit 53 rfl h13).2 ?_
                refine opSkip rfl ⟨_, rfl, .inl rfl⟩ rfl ?_
                refine opSkip rfl ⟨_, rfl, .inl rfl⟩ rfl ?_
                refine opSkip rfl ⟨_, rfl, .inl rfl⟩ rfl ?_
                refine opSkip rfl ⟨_, rfl, .inl rfl⟩ rfl ?_
                refine op0 (sp_pickF rfl rfl rfl) rfl trivial rfl rfl ?_
                refine op0 (sp_assign rfl rfl) rfl trivial rfl rfl ?_
                refine TL.nil ?_
                cases h
                exact retJ [] (.tmp rfl .nil) rfl trivial rfl rfl
            · refine (boolLit 47 rfl h10).2 ?_
              refine opSkip rfl ⟨_, rfl, .inl rfl⟩ rfl ?_
              refine opSkip rfl ⟨_, rfl, .inl rfl⟩ rfl ?_
              refine opSkip rfl ⟨_, rfl, .inl rfl⟩ rfl ?_
              refine opSkip rfl ⟨_, rfl, .inl rfl⟩ rfl ?_
              refine op0 (sp_pickF rfl rfl rfl) rfl trivial rfl rfl ?_
              refine op0 (sp_move rfl rfl) rfl trivial rfl rfl ?_
              refine opSkip rfl ⟨_, rfl, .inl rfl⟩ rfl ?_
              refine opSkip rfl ⟨_, rfl, .inl rfl⟩ rfl ?_
              refine opSkip rfl ⟨_, rfl, .inl rfl⟩ rfl ?_
              refine opSkip rfl ⟨_, rfl, .inl rfl⟩ rfl ?_
              refine op0 (sp_pickF rfl rfl rfl) rfl trivial rfl rfl ?_
              refine op0 (sp_assign rfl rfl) rfl trivial rfl rfl ?_
              refine TL.nil ?_
              cases h
              exact retJ [] (.tmp rfl .nil) rfl trivial rfl rfl
          · refine (boolLit 42 rfl h9).2 ?_
            refine opSkip rfl ⟨_, rfl, .inl rfl⟩ rfl ?_
            refine opSkip rfl ⟨_, rfl, .inl rfl⟩ rfl ?_
            refine opSkip rfl ⟨_, rfl, .inl rfl⟩ rfl ?_
            refine op0 (sp_pickF rfl rfl rfl) rfl trivial rfl rfl ?_
            refine op0 (sp_move rfl rfl) rfl trivial rfl rfl ?_
            refine opSkip rfl ⟨_, rfl, .inl rfl⟩ rfl ?_
            refine opSkip rfl ⟨_, rfl, .inl rfl⟩ rfl ?_
            refine opSkip rfl ⟨_, rfl, .inl rfl⟩ rfl ?_
            refine opSkip rfl ⟨_, rfl, .inl rfl⟩ rfl ?_
            refine op0 (sp_pickF rfl rfl rfl) rfl trivial rfl rfl ?_
            refine op0 (sp_move rfl rfl) rfl trivial rfl rfl ?_
            refine opSkip rfl ⟨_, rfl, .inl rfl⟩ rfl ?_
            refine opSkip rfl ⟨_, rfl, .inl rfl⟩ rfl ?_
            refine opSkip rfl ⟨_, rfl, .inl rfl⟩ rfl ?_
            refine opSkip rfl ⟨_, rfl, .inl rfl⟩ rfl ?_
            refine op0 (sp_pickF rfl rfl rfl) rfl trivial rfl rfl ?_
            refine op0 (sp_assign rfl rfl) rfl trivial rfl rfl ?_
            refine TL.nil ?_
            cases h
            exact retJ [] (.tmp rfl .nil) rfl trivial rfl rfl
        · refine (boolLit 38 rfl h8).2 ?_
          refine opSkip rfl ⟨_, rfl, .inl rfl⟩ rfl ?_
          refine opSkip rfl ⟨_, rfl, .inl rfl⟩ rfl ?_
          refine op0 (sp_pickF rfl rfl rfl) rfl trivial rfl rfl ?_
          refine op0 (sp_move rfl rfl) rfl trivial rfl rfl ?_
          refine opSkip rfl ⟨_, rfl, .inl rfl⟩ rfl ?_
          refine opSkip rfl ⟨_, rfl, .inl rfl⟩ rfl ?_
          refine opSkip rfl ⟨_, rfl, .inl rfl⟩ rfl ?_
          refine op0 (sp_pickF rfl rfl rfl) rfl trivial rfl rfl ?_
          refine op0 (sp_move rfl rfl) rfl trivial rfl rfl ?_
          refine opSkip rfl ⟨_, rfl, .inl rfl⟩ rfl ?_
          refine opSkip rfl ⟨_, rfl, .inl rfl⟩ rfl ?_
          refine opSkip rfl ⟨_, rfl, .inl rfl⟩ rfl ?_
          refine opSkip rfl ⟨_, rfl, .inl rfl⟩ rfl ?_
          refine op0 (sp_pickF rfl rfl rfl) rfl trivial rfl rfl ?_
          refine op0 (sp_move rfl rfl) rfl trivial rfl rfl ?_
          refine opSkip rfl ⟨_, rfl, .inl rfl⟩ rfl ?_
          refine opSkip rfl ⟨_, rfl, .inl rfl⟩ rfl ?_
          refine opSkip rfl ⟨_, rfl, .inl rfl⟩ rfl ?_
          refine opSkip rfl ⟨_, rfl, .inl rfl⟩ rfl ?_
          refine op0 (sp_pickF rfl rfl rfl) rfl trivial rfl rfl ?_
          refine op0 (sp_assign rfl rfl) rfl trivial rfl rfl ?_
          refine TL.nil ?_
          cases h
          exact retJ [] (.tmp rfl .nil) rfl trivial rfl rfl
      · refine (boolLit 34 rfl h7).2 ?_
        refine opSkip rfl ⟨_, rfl, .inl rfl⟩ rfl ?_
        refine opSkip rfl ⟨_, rfl, .inl rfl⟩ rfl ?_
        refine op0 (sp_pickF rfl rfl rfl) rfl trivial rfl rfl ?_
        refine op0 (sp_move rfl rfl) rfl trivial rfl rfl ?_
        refine opSkip rfl ⟨_, rfl, .inl rfl⟩ rfl ?_
        refine opSkip rfl ⟨_, rfl, .inl rfl⟩ rfl ?_
        refine op0 (sp_pickF rfl rfl rfl) rfl trivial rfl rfl ?_
        refine op0 (sp_move rfl rfl) rfl trivial rfl rfl ?_
        refine opSkip rfl ⟨_, rfl, .inl rfl⟩ rfl ?_
        refine opSkip rfl ⟨_, rfl, .inl rfl⟩ rfl ?_
        refine opSkip rfl ⟨_, rfl, .inl rfl⟩ rfl ?_
        refine op0 (sp_pickF rfl rfl rfl) rfl trivial rfl rfl ?_
        refine op0 (sp_move rfl rfl) rfl trivial rfl rfl ?_
        refine opSkip rfl ⟨_, rfl, .inl rfl⟩ rfl ?_
        refine opSkip rfl ⟨_, rfl, .inl rfl⟩ rfl ?_
        refine opSkip rfl ⟨_, rfl, .inl rfl⟩ rfl ?_
        refine opSkip rfl ⟨_, rfl, .inl rfl⟩ rfl ?_
        refine op0 (sp_pickF rfl rfl rfl) rfl trivial rfl rfl ?_
        refine op0 (sp_move rfl rfl) rfl trivial rfl rfl ?_
        refine opSkip rfl ⟨_, rfl, .inl rfl⟩ rfl ?_
        refine opSkip rfl ⟨_, rfl, .inl rfl⟩ rfl ?_
        refine opSkip rfl ⟨_, rfl, .inl rfl⟩ rfl ?_
        refine opSkip rfl ⟨_, rfl, .inl rfl⟩ rfl ?_
        refine op0 (sp_pickF rfl rfl rfl) rfl trivial rfl rfl ?_
        refine op0 (sp_assign rfl rfl) rfl trivial rfl rfl ?_
        refine TL.nil ?_
        cases h
        exact retJ [] (.tmp rfl .nil) rfl trivial rfl rfl
    · refine (boolLit 30 rfl h6).2 ?_
      refine opSkip rfl ⟨_, rfl, .inl rfl⟩ rfl ?_
      refine opSkip rfl ⟨_, rfl, .inl rfl⟩ rfl ?_
      refine op0 (sp_pickF rfl rfl rfl) rfl trivial rfl rfl ?_
      refine op0 (sp_move rfl rfl) rfl trivial rfl rfl ?_
      refine opSkip rfl ⟨_, rfl, .inl rfl⟩ rfl ?_
      refine opSkip rfl ⟨_, rfl, .inl rfl⟩ rfl ?_
      refine op0 (sp_pickF rfl rfl rfl) rfl trivial rfl rfl ?_
      refine op0 (sp_move rfl rfl) rfl trivial rfl rfl ?_
      refine opSkip rfl ⟨_, rfl, .inl rfl⟩ rfl ?_
      refine opSkip rfl ⟨_, rfl, .inl rfl⟩ rfl ?_
      refine op0 (sp_pickF rfl rfl rfl) rfl trivial rfl rfl ?_
      refine op0 (sp_move rfl rfl) rfl trivial rfl rfl ?_
      refine opSkip rfl ⟨_, rfl, .inl rfl⟩ rfl ?_
      refine opSkip rfl ⟨_, rfl, .inl rfl⟩ rfl ?_
      refine opSkip rfl ⟨_, rfl, .inl rfl⟩ rfl ?_
      refine op0 (sp_pickF rfl rfl rfl) rfl trivial rfl rfl ?_
      refine op0 (sp_move rfl rfl) rfl trivial rfl rfl ?_
      refine opSkip rfl ⟨_, rfl, .inl rfl⟩ rfl ?_
      refine opSkip rfl ⟨_, rfl, .inl rfl⟩ rfl ?_
      refine opSkip rfl ⟨_, rfl, .inl rfl⟩ rfl ?_
      refine opSkip rfl ⟨_, rfl, .inl rfl⟩ rfl ?_
      refine op0 (sp_pickF rfl rfl rfl) rfl trivial rfl rfl ?_
      refine op0 (sp_move rfl rfl) rfl trivial rfl rfl ?_
      refine opSkip rfl ⟨_, rfl, .inl rfl⟩ rfl ?_
      refine opSkip rfl ⟨_, rfl, .inl rfl⟩ rfl ?_
      refine opSkip rfl ⟨_, rfl, .inl rfl⟩ rfl ?_
      refine opSkip rfl ⟨_, rfl, .inl rfl⟩ rfl ?_
      refine op0 (sp_pickF rfl rfl rfl) rfl trivial rfl rfl ?_
      refine op0 (sp_assign rfl rfl) rfl trivial rfl rfl ?_
      refine TL.nil ?_
      cases h
      exact retJ [] (.tmp rfl .nil) rfl trivial rfl rfl
  · refine (boolLit 26 rfl h5).2 ?_
    refine opSkip rfl ⟨_, rfl, .inl rfl⟩ rfl ?_
    refine opSkip rfl ⟨_, rfl, .inl rfl⟩ rfl ?_
    refine op0 (sp_pickF rfl rfl rfl) rfl trivial rfl rfl ?_
    refine op0 (sp_move rfl rfl) rfl trivial rfl rfl ?_
    refine opSkip rfl ⟨_, rfl, .inl rfl⟩ rfl ?_
    refine opSkip rfl ⟨_, rfl, .inl rfl⟩ rfl ?_
    refine op0 (sp_pickF rfl rfl rfl) rfl trivial rfl rfl ?_
    refine op0 (sp_move rfl rfl) rfl trivial rfl rfl ?_
    refine opSkip rfl ⟨_, rfl, .inl rfl⟩ rfl ?_
    refine opSkip rfl ⟨_, rfl, .inl rfl⟩ rfl ?_
    refine op0 (sp_pickF rfl rfl rfl) rfl trivial rfl rfl ?_
    refine op0 (sp_move rfl rfl) rfl trivial rfl rfl ?_
    refine opSkip rfl ⟨_, rfl, .inl rfl⟩ rfl ?_
    refine opSkip rfl ⟨_, rfl, .inl rfl⟩ rfl ?_
    refine op0 (sp_pickF rfl rfl rfl) rfl trivial rfl rfl ?_
    refine op0 (sp_move rfl rfl) rfl trivial rfl rfl ?_
    refine opSkip rfl ⟨_, rfl, .inl rfl⟩ rfl ?_
    refine opSkip rfl ⟨_, rfl, .inl rfl⟩ rfl ?_
    refine opSkip rfl ⟨_, rfl, .inl rfl⟩ rfl ?_
    refine op0 (sp_pickF rfl rfl rfl) rfl trivial rfl rfl ?_
    refine op0 (sp_move rfl rfl) rfl trivial rfl rfl ?_
    refine opSkip rfl ⟨_, rfl, .inl rfl⟩ rfl ?_
    refine opSkip rfl ⟨_, rfl, .inl rfl⟩ rfl ?_
    refine opSkip rfl ⟨_, rfl, .inl rfl⟩ rfl ?_
    refine opSkip rfl ⟨_, rfl, .inl rfl⟩ rfl ?_
    refine op0 (sp_pickF rfl rfl rfl) rfl trivial rfl rfl ?_
    refine op0 (sp_move rfl rfl) rfl trivial rfl rfl ?_
    refine opSkip rfl ⟨_, rfl, .inl rfl⟩ rfl ?_
    refine opSkip rfl ⟨_, rfl, .inl rfl⟩ rfl ?_
    refine opSkip rfl ⟨_, rfl, .inl rfl⟩ rfl ?_
    refine opSkip rfl ⟨_, rfl, .inl rfl⟩ rfl ?_
    refine op0 (sp_pickF rfl rfl rfl) rfl trivial rfl rfl ?_
    refine op0 (sp_assign rfl rfl) rfl trivial rfl rfl ?_
    refine TL.nil ?_
    cases h
    exact retJ [] (.tmp rfl .nil) rfl trivial rfl rfl
end
end Go.Proofs.Ytmgcinejodpopaa.Sy
