/- What functions of the program compute, and that they do: printed by symgen.py. -/
import Derived.Test.YtmgcinejodpopaaGLib
import Derived.Test.YtmgcinejodpopaaGBook
import Derived.Test.YtmgcinejodpopaaGDial
set_option linter.unusedSimpArgs false
set_option linter.unusedVariables false
namespace Go.Proofs.Ytmgcinejodpopaa.Sy
open Go.RowKit
noncomputable section

/- top_TopBookDial -/
def ev_top_TopBookDial_j1 (n : Nat) (l5 : List (Int × Int)) (i4 : Int) (i3 : Int) (l6 : List (Int × Int × Int)) (k_top_TopBookDial_l0 : Int → Int → (List (Int × Int)) → (List (Int × Int × Int)) → Option Bool) : Option Bool :=
  idx l5 i4 fun x7 => chk (in64 x7.1) <| chk (in64 ((97 : Int) * x7.1)) <| chk (in64 ((1 : Int) + ((97 : Int) * x7.1))) <| chk (in64 (i3 + ((1 : Int) + ((97 : Int) * x7.1)))) <| chk (inK .u16 ((1 : Int) + (Int.tmod x7.2 4))) <| chk (in64 ((1 : Int) + (Int.tmod x7.2 4))) <| cond (((1 : Int) + (Int.tmod x7.2 4)) == 1) (chk (in64 x7.2) <| chk (in64 ((i3 + ((1 : Int) + ((97 : Int) * x7.1))) + (Int.tmod x7.2 600))) <| chk (in64 (((i3 + ((1 : Int) + ((97 : Int) * x7.1))) + (Int.tmod x7.2 600)) - 300)) <| (ev_top_pubRest n (((i3 + ((1 : Int) + ((97 : Int) * x7.1))) + (Int.tmod x7.2 600)) - 300) 43200).bind fun r8 => chk (room 24 (l6.length + ([((i3 + ((1 : Int) + ((97 : Int) * x7.1))), ((1 : Int) + (Int.tmod x7.2 4)), r8)] : List (Int × Int × Int)).length)) <| chk (in64 (i4 + 1)) <| k_top_TopBookDial_l0 (i3 + ((1 : Int) + ((97 : Int) * x7.1))) (i4 + 1) l5 (l6 ++ ([((i3 + ((1 : Int) + ((97 : Int) * x7.1))), ((1 : Int) + (Int.tmod x7.2 4)), r8)] : List (Int × Int × Int)))) (cond (((1 : Int) + (Int.tmod x7.2 4)) == 2) (chk (in64 x7.2) <| chk (in64 ((Int.tmod x7.2 4000) - 2000)) <| chk (room 24 (l6.length + ([((i3 + ((1 : Int) + ((97 : Int) * x7.1))), ((1 : Int) + (Int.tmod x7.2 4)), ((Int.tmod x7.2 4000) - 2000))] : List (Int × Int × Int)).length)) <| chk (in64 (i4 + 1)) <| k_top_TopBookDial_l0 (i3 + ((1 : Int) + ((97 : Int) * x7.1))) (i4 + 1) l5 (l6 ++ ([((i3 + ((1 : Int) + ((97 : Int) * x7.1))), ((1 : Int) + (Int.tmod x7.2 4)), ((Int.tmod x7.2 4000) - 2000))] : List (Int × Int × Int)))) (chk (room 24 (l6.length + ([((i3 + ((1 : Int) + ((97 : Int) * x7.1))), ((1 : Int) + (Int.tmod x7.2 4)), 0)] : List (Int × Int × Int)).length)) <| chk (in64 (i4 + 1)) <| k_top_TopBookDial_l0 (i3 + ((1 : Int) + ((97 : Int) * x7.1))) (i4 + 1) l5 (l6 ++ ([((i3 + ((1 : Int) + ((97 : Int) * x7.1))), ((1 : Int) + (Int.tmod x7.2 4)), 0)] : List (Int × Int × Int)))))
set_option maxRecDepth 100000 in
set_option maxHeartbeats 2000000 in
theorem ok_top_TopBookDial_j1 {n : Nat} {w0 : World} {R0 : Nat → Prop} {env0 : Env} {r : Bool} {at_2 : Int} {l5 : List (Int × Int)} {i4 : Int} {i3 : Int} {l6 : List (Int × Int × Int)} {k_top_TopBookDial_l0 : Int → Int → (List (Int × Int)) → (List (Int × Int × Int)) → Option Bool} (hk_top_TopBookDial_l0 : ∀ (i3 : Int) (i4 : Int) (l5 : List (Int × Int)) (l6 : List (Int × Int × Int)), k_top_TopBookDial_l0 i3 i4 l5 l6 = some r → TC Try.prog ⟨w0, fun _ => False, R0⟩ 155 (bodyPost Try.prog Try.f10 (Post ⟨w0, fun _ => False, R0⟩ env0 (.val (.bool r)) [])) [.code (sub (bodyOf Try.f10) [1, 1, 0, 1, 0, 0, 0, 0]), .code (sub (bodyOf Try.f10) [1, 1, 0, 1, 0, 0, 0, 1]), .code (sub (bodyOf Try.f10) [1, 1, 0, 1, 0, 0, 1]), .inLoop (sub (bodyOf Try.f10) [1, 1, 0, 1, 0, 0]), .inBlock 0, .code (sub (bodyOf Try.f10) [1, 1, 1])] ([(0, .ref 0), (1, .val (.int .u32 at_2)), (5, .ref 1), (6, .val (.int .i64 i3)), (7, .val (.int .i64 i4))]) ([.ro 0 2 (List.map en_2_uint16 l5), .row 1 35 3 (List.map en_api_BookEntry l6)])) (h : ev_top_TopBookDial_j1 n l5 i4 i3 l6 k_top_TopBookDial_l0 = some r) : TC Try.prog ⟨w0, fun _ => False, R0⟩ 155 (bodyPost Try.prog Try.f10 (Post ⟨w0, fun _ => False, R0⟩ env0 (.val (.bool r)) [])) [.code (sub (bodyOf Try.f10) [1, 1, 0, 1, 0, 0, 0, 1, 0]), .code (sub (bodyOf Try.f10) [1, 1, 0, 1, 0, 0, 1]), .inLoop (sub (bodyOf Try.f10) [1, 1, 0, 1, 0, 0]), .inBlock 0, .code (sub (bodyOf Try.f10) [1, 1, 1])] ([(0, .ref 0), (1, .val (.int .u32 at_2)), (5, .ref 1), (6, .val (.int .i64 i3)), (7, .val (.int .i64 i4))]) ([.ro 0 2 (List.map en_2_uint16 l5), .row 1 35 3 (List.map en_api_BookEntry l6)]) := by
  rw [ev_top_TopBookDial_j1] at h
  refine TC.skip ?_
  refine TC.seq ?_
  refine TC.block ?_
  refine TC.seq ?_
  refine TC.region ?_
  refine op0 (sp_move rfl rfl) rfl trivial rfl rfl ?_
  refine op0 (sp_move rfl rfl) rfl trivial rfl rfl ?_
  refine op0 (sp_move rfl rfl) rfl trivial rfl rfl ?_
  obtain ⟨x7, h3, h4, h⟩ := idx_inv h
  refine op1 0 rfl (sp_indexS rfl rfl rfl isRo sl130 h3 (map_get _ h4)) rfl trivial rfl rfl ?_
  refine op1 0 rfl (sp_indexAR (q := (i4 : Int).toNat) (len := 2) (iv := 0) rfl rfl rfl isRo Try.underlying132 vt22 (by decide) (map_get _ h4) (fun h => nomatch h)) rfl trivial rfl rfl ?_
  refine op1 0 rfl (sp_loadR (i := (i4 : Int).toNat) (j := 0) rfl rfl isRo vt22 rfl (map_get _ h4) rfl (.v (.nil)) (nodup_of_B rfl)) rfl trivial rfl rfl ?_
  obtain ⟨h5, h⟩ := chk_inv h
  refine op0 (sp_conv rfl Try.underlying22 Try.underlying3 rfl h5) rfl trivial rfl rfl ?_
  obtain ⟨h6, h⟩ := chk_inv h
  refine op0 (sp_mul rfl rfl rfl h6) rfl trivial rfl rfl ?_
  obtain ⟨h7, h⟩ := chk_inv h
  refine op0 (sp_add rfl rfl rfl h7) rfl trivial rfl rfl ?_
  obtain ⟨h8, h⟩ := chk_inv h
  refine op0 (sp_add rfl rfl rfl h8) rfl trivial rfl rfl ?_
  refine op0 (sp_assign rfl rfl) rfl trivial rfl rfl ?_
  refine TL.nil ?_
  refine TC.seq ?_
  refine TC.region ?_
  refine op0 (sp_move rfl rfl) rfl trivial rfl rfl ?_
  refine op0 (sp_move rfl rfl) rfl trivial rfl rfl ?_
  refine op0 (sp_move rfl rfl) rfl trivial rfl rfl ?_
  refine op1 0 rfl (sp_indexS rfl rfl rfl isRo sl130 h3 (map_get _ h4)) rfl trivial rfl rfl ?_
  refine op1 0 rfl (sp_indexAR (q := (i4 : Int).toNat) (len := 2) (iv := 1) rfl rfl rfl isRo Try.underlying132 vt22 (by decide) (map_get _ h4) (fun h => nomatch h)) rfl trivial rfl rfl ?_
  refine op1 0 rfl (sp_loadR (i := (i4 : Int).toNat) (j := 1) rfl rfl isRo vt22 rfl (map_get _ h4) rfl (.v (.nil)) (nodup_of_B rfl)) rfl trivial rfl rfl ?_
  refine op0 (sp_rem rfl rfl rfl (by decide)) rfl trivial rfl rfl ?_
  obtain ⟨h9, h⟩ := chk_inv h
  refine op0 (sp_add rfl rfl rfl h9) rfl trivial rfl rfl ?_
  obtain ⟨h10, h⟩ := chk_inv h
  refine op0 (sp_conv rfl Try.underlying22 Try.underlying33 rfl h10) rfl trivial rfl rfl ?_
  refine op0 (sp_build (qs := [(0, .val (.int .i64 (i3 + ((1 : Int) + ((97 : Int) * x7.1))))), (1, .val (.int .i64 ((1 : Int) + (Int.tmod x7.2 4))))]) rfl bt35 rfl rfl rfl rfl) rfl trivial rfl rfl ?_
  refine op0 (sp_alloc 2 rfl Try.zeroValue35 rfl) rfl trivial rfl rfl ?_
  refine stoB 0 (cells' := [.val (.int .i64 (i3 + ((1 : Int) + ((97 : Int) * x7.1)))), .val (.int .i64 ((1 : Int) + (Int.tmod x7.2 4))), .val (.int .i64 0)]) rfl rfl trivial rfl rfl rfl rfl vt35 rfl rfl rfl ?_
  refine TL.nil ?_
  refine TC.seq ?_
  refine TC.seq ?_
  refine TC.region ?_
  refine op1 0 rfl (sp_fieldAddrB rfl isBlk rfl ft35_1 vt33 (by decide)) rfl trivial rfl rfl ?_
  refine op1 0 rfl (sp_loadB rfl isBlk rfl vt33 rfl) rfl trivial rfl rfl ?_
  refine TL.nil ?_
  refine TC.block ?_
  refine TC.seq ?_
  refine TC.region ?_
  refine op0 (sp_eql rfl rfl rfl) rfl trivial rfl rfl ?_
  refine op0 (sp_assign rfl rfl) rfl trivial rfl rfl ?_
  refine TL.nil ?_
  refine TC.cond (b := (((1 : Int) + (Int.tmod x7.2 4)) == 1)) rfl (fun h11 => ?_) (fun h11 => ?_)
  · have h := cond_t h h11
    refine TC.region ?_
    refine op0 (sp_move rfl rfl) rfl trivial rfl rfl ?_
    refine op0 (sp_move rfl rfl) rfl trivial rfl rfl ?_
    refine op0 (sp_move rfl rfl) rfl trivial rfl rfl ?_
    refine op1 1 rfl (sp_indexS rfl rfl rfl isRo sl130 h3 (map_get _ h4)) rfl trivial rfl rfl ?_
    refine op1 1 rfl (sp_indexAR (q := (i4 : Int).toNat) (len := 2) (iv := 1) rfl rfl rfl isRo Try.underlying132 vt22 (by decide) (map_get _ h4) (fun h => nomatch h)) rfl trivial rfl rfl ?_
    refine op1 1 rfl (sp_loadR (i := (i4 : Int).toNat) (j := 1) rfl rfl isRo vt22 rfl (map_get _ h4) rfl (.v (.nil)) (nodup_of_B rfl)) rfl trivial rfl rfl ?_
    obtain ⟨h12, h⟩ := chk_inv h
    refine op0 (sp_conv rfl Try.underlying22 Try.underlying3 rfl h12) rfl trivial rfl rfl ?_
    refine op0 (sp_rem rfl rfl rfl (by decide)) rfl trivial rfl rfl ?_
    obtain ⟨h13, h⟩ := chk_inv h
    refine op0 (sp_add rfl rfl rfl h13) rfl trivial rfl rfl ?_
    obtain ⟨h14, h⟩ := chk_inv h
    refine op0 (sp_sub rfl rfl rfl h14) rfl trivial rfl rfl ?_
    obtain ⟨r8, h15, h⟩ := bind_inv h
    refine op0 (sp_call (avs := [.val (.int .i64 (((i3 + ((1 : Int) + ((97 : Int) * x7.1))) + (Int.tmod x7.2 600)) - 300)), .val (.int .i64 43200)]) (need := []) (v := .val (.int .i64 r8)) (news := []) rfl rfl rfl Try.call35 (atJ [] [] (fc_top_pubRest h15) rfl rfl) (.inl (roAll rfl))) rfl trivial rfl rfl ?_
    refine op1 0 rfl (sp_fieldAddrB rfl isBlk rfl ft35_2 vt3 (by decide)) rfl trivial rfl rfl ?_
    refine stoB 0 (cells' := [.val (.int .i64 (i3 + ((1 : Int) + ((97 : Int) * x7.1)))), .val (.int .i64 ((1 : Int) + (Int.tmod x7.2 4))), .val (.int .i64 r8)]) rfl rfl trivial rfl rfl rfl rfl vt3 rfl rfl rfl ?_
    refine TL.nil ?_
    refine TC.inBlock ?_
    refine TC.region ?_
    refine op0 (sp_move rfl rfl) rfl trivial rfl rfl ?_
    refine op1 0 rfl (sp_loadBA rfl isBlk rfl vt35 rfl rfl) rfl trivial rfl rfl ?_
    refine op0 (sp_buildSlice (qs := [.agg [.val (.int .i64 (i3 + ((1 : Int) + ((97 : Int) * x7.1)))), .val (.int .i64 ((1 : Int) + (Int.tmod x7.2 4))), .val (.int .i64 r8)]]) (need := []) (els := List.map en_api_BookEntry ([((i3 + ((1 : Int) + ((97 : Int) * x7.1))), ((1 : Int) + (Int.tmod x7.2 4)), r8)] : List (Int × Int × Int))) 3 rfl sl36 (by decide) (by decide) rfl rfl rfl (.v (.v (.v (.nil)))) (map_len fun _ => rfl) rfl rfl rfl) rfl trivial rfl rfl ?_
    obtain ⟨h16, h⟩ := chk_inv h
    refine appM 3 0 (N := l6.length) (N2 := ([((i3 + ((1 : Int) + ((97 : Int) * x7.1))), ((1 : Int) + (Int.tmod x7.2 4)), r8)] : List (Int × Int × Int)).length) 4 rfl rfl trivial rfl rfl rfl rfl rfl isOwn rfl sl36 (len_map _ _) (len_map _ _) h16 (map_app _ _ _) rfl ?_
    refine op0 (sp_assign rfl rfl) rfl trivial rfl rfl ?_
    refine TL.nil ?_
    refine TC.inBlock ?_
    refine TC.region ?_
    refine op0 (sp_move rfl rfl) rfl trivial rfl rfl ?_
    obtain ⟨h17, h⟩ := chk_inv h
    refine op0 (sp_add rfl rfl rfl h17) rfl trivial rfl rfl ?_
    refine op0 (sp_assign rfl rfl) rfl trivial rfl rfl ?_
    refine TL.nil ?_
    refine TC.inLoop ?_
    refine TC.seq ?_
    refine TC.seq ?_
    refine subJ [(1, 4)] (hk_top_TopBookDial_l0 _ _ _ _ h) ?_ ?_ ?_
    · exact ⟨rfl, rfl, rfl, rfl, rfl, trivial⟩
    · exact ⟨mem_at 3 rfl, mem_at 0 rfl, trivial⟩
    · rfl
  · have h := cond_f h h11
    refine TC.seq ?_
    refine TC.region ?_
    refine op0 (sp_eql rfl rfl rfl) rfl trivial rfl rfl ?_
    refine op0 (sp_assign rfl rfl) rfl trivial rfl rfl ?_
    refine TL.nil ?_
    refine TC.cond (b := (((1 : Int) + (Int.tmod x7.2 4)) == 2)) rfl (fun h18 => ?_) (fun h18 => ?_)
    · have h := cond_t h h18
      refine TC.region ?_
      refine op0 (sp_move rfl rfl) rfl trivial rfl rfl ?_
      refine op0 (sp_move rfl rfl) rfl trivial rfl rfl ?_
      refine op1 1 rfl (sp_indexS rfl rfl rfl isRo sl130 h3 (map_get _ h4)) rfl trivial rfl rfl ?_
      refine op1 1 rfl (sp_indexAR (q := (i4 : Int).toNat) (len := 2) (iv := 1) rfl rfl rfl isRo Try.underlying132 vt22 (by decide) (map_get _ h4) (fun h => nomatch h)) rfl trivial rfl rfl ?_
      refine op1 1 rfl (sp_loadR (i := (i4 : Int).toNat) (j := 1) rfl rfl isRo vt22 rfl (map_get _ h4) rfl (.v (.nil)) (nodup_of_B rfl)) rfl trivial rfl rfl ?_
      obtain ⟨h19, h⟩ := chk_inv h
      refine op0 (sp_conv rfl Try.underlying22 Try.underlying3 rfl h19) rfl trivial rfl rfl ?_
      refine op0 (sp_rem rfl rfl rfl (by decide)) rfl trivial rfl rfl ?_
      obtain ⟨h20, h⟩ := chk_inv h
      refine op0 (sp_sub rfl rfl rfl h20) rfl trivial rfl rfl ?_
      refine op1 0 rfl (sp_fieldAddrB rfl isBlk rfl ft35_2 vt3 (by decide)) rfl trivial rfl rfl ?_
      refine stoB 0 (cells' := [.val (.int .i64 (i3 + ((1 : Int) + ((97 : Int) * x7.1)))), .val (.int .i64 ((1 : Int) + (Int.tmod x7.2 4))), .val (.int .i64 ((Int.tmod x7.2 4000) - 2000))]) rfl rfl trivial rfl rfl rfl rfl vt3 rfl rfl rfl ?_
      refine TL.nil ?_
      refine TC.inBlock ?_
      refine TC.region ?_
      refine op0 (sp_move rfl rfl) rfl trivial rfl rfl ?_
      refine op1 0 rfl (sp_loadBA rfl isBlk rfl vt35 rfl rfl) rfl trivial rfl rfl ?_
      refine op0 (sp_buildSlice (qs := [.agg [.val (.int .i64 (i3 + ((1 : Int) + ((97 : Int) * x7.1)))), .val (.int .i64 ((1 : Int) + (Int.tmod x7.2 4))), .val (.int .i64 ((Int.tmod x7.2 4000) - 2000))]]) (need := []) (els := List.map en_api_BookEntry ([((i3 + ((1 : Int) + ((97 : Int) * x7.1))), ((1 : Int) + (Int.tmod x7.2 4)), ((Int.tmod x7.2 4000) - 2000))] : List (Int × Int × Int))) 5 rfl sl36 (by decide) (by decide) rfl rfl rfl (.v (.v (.v (.nil)))) (map_len fun _ => rfl) rfl rfl rfl) rfl trivial rfl rfl ?_
      obtain ⟨h21, h⟩ := chk_inv h
      refine appM 3 0 (N := l6.length) (N2 := ([((i3 + ((1 : Int) + ((97 : Int) * x7.1))), ((1 : Int) + (Int.tmod x7.2 4)), ((Int.tmod x7.2 4000) - 2000))] : List (Int × Int × Int)).length) 6 rfl rfl trivial rfl rfl rfl rfl rfl isOwn rfl sl36 (len_map _ _) (len_map _ _) h21 (map_app _ _ _) rfl ?_
      refine op0 (sp_assign rfl rfl) rfl trivial rfl rfl ?_
      refine TL.nil ?_
      refine TC.inBlock ?_
      refine TC.region ?_
      refine op0 (sp_move rfl rfl) rfl trivial rfl rfl ?_
      obtain ⟨h22, h⟩ := chk_inv h
      refine op0 (sp_add rfl rfl rfl h22) rfl trivial rfl rfl ?_
      refine op0 (sp_assign rfl rfl) rfl trivial rfl rfl ?_
      refine TL.nil ?_
      refine TC.inLoop ?_
      refine TC.seq ?_
      refine TC.seq ?_
      refine subJ [(1, 6)] (hk_top_TopBookDial_l0 _ _ _ _ h) ?_ ?_ ?_
      · exact ⟨rfl, rfl, rfl, rfl, rfl, trivial⟩
      · exact ⟨mem_at 3 rfl, mem_at 0 rfl, trivial⟩
      · rfl
    · have h := cond_f h h18
      refine TC.skip ?_
      refine TC.inBlock ?_
      refine TC.region ?_
      refine op0 (sp_move rfl rfl) rfl trivial rfl rfl ?_
      refine op1 0 rfl (sp_loadBA rfl isBlk rfl vt35 rfl rfl) rfl trivial rfl rfl ?_
      refine op0 (sp_buildSlice (qs := [.agg [.val (.int .i64 (i3 + ((1 : Int) + ((97 : Int) * x7.1)))), .val (.int .i64 ((1 : Int) + (Int.tmod x7.2 4))), .val (.int .i64 0)]]) (need := []) (els := List.map en_api_BookEntry ([((i3 + ((1 : Int) + ((97 : Int) * x7.1))), ((1 : Int) + (Int.tmod x7.2 4)), 0)] : List (Int × Int × Int))) 7 rfl sl36 (by decide) (by decide) rfl rfl rfl (.v (.v (.v (.nil)))) (map_len fun _ => rfl) rfl rfl rfl) rfl trivial rfl rfl ?_
      obtain ⟨h23, h⟩ := chk_inv h
      refine appM 3 0 (N := l6.length) (N2 := ([((i3 + ((1 : Int) + ((97 : Int) * x7.1))), ((1 : Int) + (Int.tmod x7.2 4)), 0)] : List (Int × Int × Int)).length) 8 rfl rfl trivial rfl rfl rfl rfl rfl isOwn rfl sl36 (len_map _ _) (len_map _ _) h23 (map_app _ _ _) rfl ?_
      refine op0 (sp_assign rfl rfl) rfl trivial rfl rfl ?_
      refine TL.nil ?_
      refine TC.inBlock ?_
      refine TC.region ?_
      refine op0 (sp_move rfl rfl) rfl trivial rfl rfl ?_
      obtain ⟨h24, h⟩ := chk_inv h
      refine op0 (sp_add rfl rfl rfl h24) rfl trivial rfl rfl ?_
      refine op0 (sp_assign rfl rfl) rfl trivial rfl rfl ?_
      refine TL.nil ?_
      refine TC.inLoop ?_
      refine TC.seq ?_
      refine TC.seq ?_
      refine subJ [(1, 8)] (hk_top_TopBookDial_l0 _ _ _ _ h) ?_ ?_ ?_
      · exact ⟨rfl, rfl, rfl, rfl, rfl, trivial⟩
      · exact ⟨mem_at 3 rfl, mem_at 0 rfl, trivial⟩
      · rfl
def ev_top_TopBookDial_j4 (n : Nat) : Option Bool :=
  (ev_top_pubDial n).bind fun r12 => cond r12 ((ev_top_pubBook n).bind fun r13 => some r13) (some false)
set_option maxRecDepth 100000 in
set_option maxHeartbeats 2000000 in
theorem ok_top_TopBookDial_j4 {n : Nat} {w0 : World} {R0 : Nat → Prop} {env0 : Env} {r : Bool} (h : ev_top_TopBookDial_j4 n = some r) : TC Try.prog ⟨w0, fun _ => False, R0⟩ 155 (bodyPost Try.prog Try.f10 (Post ⟨w0, fun _ => False, R0⟩ env0 (.val (.bool r)) [])) [.code (sub (bodyOf Try.f10) [1, 1, 1, 1, 1, 1, 1, 1, 0, 1, 0, 0]), .code (sub (bodyOf Try.f10) [1, 1, 1, 1, 1, 1, 1, 1, 0, 1, 0, 1]), .code (sub (bodyOf Try.f10) [1, 1, 1, 1, 1, 1, 1, 1, 1])] ([]) ([]) := by
  rw [ev_top_TopBookDial_j4] at h
  refine TC.region ?_
  obtain ⟨r12, h37, h⟩ := bind_inv h
  refine op0 (sp_call (avs := []) (need := []) (v := .val (.bool r12)) (news := []) rfl rfl rfl Try.call48 (atJ [] [] (fc_top_pubDial h37) rfl rfl) (.inl (roAll rfl))) rfl trivial rfl rfl ?_
  refine op0 (sp_move rfl rfl) rfl trivial rfl rfl ?_
  rcases cond_cases h with ⟨h38, h⟩ | ⟨h38, h⟩
  · refine (boolLit 117 rfl h38).2 ?_
    obtain ⟨r13, h39, h⟩ := bind_inv h
    refine op0 (sp_call (avs := []) (need := []) (v := .val (.bool r13)) (news := []) rfl rfl rfl Try.call18 (atJ [] [] (fc_top_pubBook h39) rfl rfl) (.inl (roAll rfl))) rfl ⟨_, rfl, rfl⟩ rfl rfl ?_
    refine op0 (sp_pickT rfl rfl rfl) rfl trivial rfl rfl ?_
    refine op0 (sp_assign rfl rfl) rfl trivial rfl rfl ?_
    refine TL.nil ?_
    cases h
    exact retJ [] (.tmp rfl .nil) rfl trivial rfl rfl
  · refine (boolLit 117 rfl h38).2 ?_
    refine opSkip rfl ⟨_, rfl, .inl rfl⟩ rfl ?_
    refine op0 (sp_pickF rfl rfl rfl) rfl trivial rfl rfl ?_
    refine op0 (sp_assign rfl rfl) rfl trivial rfl rfl ?_
    refine TL.nil ?_
    cases h
    exact retJ [] (.tmp rfl .nil) rfl trivial rfl rfl
def ev_top_TopBookDial_j5 (n : Nat) (r11 : Int) (at_2 : Int) (r10 : Int × Bool × Int) : Option Bool :=
  (ev_top_pubSpan n (r11 - 21600) (r11 - 21600)).bind fun r14 => (ev_dial_Shows n 1 r14.1 r14.2 ([(0, 0, [], 0, 0)] : List (Int × Int × (List (Int × Int × Int)) × Int × Int)) 0 (Int.tmod at_2 100000000) 0 0).bind fun r15 => cond (r15.2 == 0) (cond ((r15.1.length : Int) == 1) (idx r15.1 0 fun x16 => (ev_top_pubSpan n (Int.tdiv r10.1 1000) (Int.tdiv r10.1 1000)).bind fun r17 => cond ((x16.1 == r17.1) && (x16.2 == r17.2)) ((ev_top_pubDial n).bind fun r18 => cond r18 ((ev_top_pubBook n).bind fun r19 => some r19) (some false)) (some false)) (some false)) (some false)
set_option maxRecDepth 100000 in
set_option maxHeartbeats 2000000 in
theorem ok_top_TopBookDial_j5 {n : Nat} {w0 : World} {R0 : Nat → Prop} {env0 : Env} {r : Bool} {at_2 : Int} {r10 : Int × Bool × Int} {r11 : Int} (h : ev_top_TopBookDial_j5 n r11 at_2 r10 = some r) : TC Try.prog ⟨w0, fun _ => False, R0⟩ 155 (bodyPost Try.prog Try.f10 (Post ⟨w0, fun _ => False, R0⟩ env0 (.val (.bool r)) [])) [.code (sub (bodyOf Try.f10) [1, 1, 1, 1, 1, 1, 1, 1, 0, 1, 1]), .code (sub (bodyOf Try.f10) [1, 1, 1, 1, 1, 1, 1, 1, 1])] ([(9, .val (.int .i64 (Int.tmod at_2 100000000))), (13, .val (.int .i64 (Int.tdiv r10.1 1000))), (14, .val (.int .i64 (r11 - 21600)))]) ([]) := by
  rw [ev_top_TopBookDial_j5] at h
  refine TC.skip ?_
  refine TC.seq ?_
  refine TC.region ?_
  refine op0 (sp_move rfl rfl) rfl trivial rfl rfl ?_
  refine op0 (sp_move rfl rfl) rfl trivial rfl rfl ?_
  obtain ⟨r14, h41, h⟩ := bind_inv h
  refine op0 (sp_call (avs := [.val (.int .i64 (r11 - 21600)), .val (.int .i64 (r11 - 21600))]) (need := []) (v := .agg [.val (.int .i64 r14.1), .val (.int .i64 r14.2)]) (news := []) rfl rfl rfl Try.call14 (atJ [] [] (fc_top_pubSpan h41) rfl rfl) (.inl (roAll rfl))) rfl trivial rfl rfl ?_
  refine op0 (sp_build (qs := []) rfl bt135 rfl rfl rfl rfl) rfl trivial rfl rfl ?_
  refine op0 (sp_buildSlice (qs := [.agg [.val (.int .i64 0), .val (.int .i64 0), .val (.slice none 0 0), .val (.int .i64 0), .val (.int .i64 0)]]) (need := []) (els := List.map en_api_DialFace ([(0, 0, [], 0, 0)] : List (Int × Int × (List (Int × Int × Int)) × Int × Int))) 11 rfl sl136 (by decide) (by decide) rfl rfl rfl (.v (.v (.n (.v (.v (.nil)))))) (map_len fun _ => rfl) rfl rfl rfl) rfl trivial rfl rfl ?_
  refine op0 (sp_build (qs := [(0, .val (.int .i64 1)), (1, .agg [.val (.int .i64 r14.1), .val (.int .i64 r14.2)]), (2, .ref 11)]) rfl bt138 rfl rfl rfl rfl) rfl trivial rfl rfl ?_
  refine op0 (sp_alloc 12 rfl Try.zeroValue138 rfl) rfl trivial rfl rfl ?_
  refine stoB 0 (cells' := [.val (.int .i64 1), .val (.int .i64 r14.1), .val (.int .i64 r14.2), .ref 11]) rfl rfl trivial rfl rfl rfl rfl vt138 rfl rfl rfl ?_
  refine TL.nil ?_
  refine TC.seq ?_
  refine TC.region ?_
  refine op1 0 rfl (sp_loadBA rfl isBlk rfl vt138 rfl rfl) rfl trivial rfl rfl ?_
  refine op0 (sp_move rfl rfl) rfl trivial rfl rfl ?_
  refine op0 (sp_build (qs := []) rfl bt26 rfl rfl rfl rfl) rfl trivial rfl rfl ?_
  obtain ⟨r15, h42, h⟩ := bind_inv h
  refine op1 1 rfl (sp_call (avs := [.agg [.val (.int .i64 1), .val (.int .i64 r14.1), .val (.int .i64 r14.2), .ref 11], .val (.int .i64 0), .val (.int .i64 (Int.tmod at_2 100000000)), .agg [.val (.int .i64 0), .val (.int .i64 0)]]) (need := [.row 11 135 5 (List.map en_api_DialFace ([(0, 0, [], 0, 0)] : List (Int × Int × (List (Int × Int × Int)) × Int × Int)))]) (v := .tup [.ref 13, .val (.int .i64 r15.2)]) (news := [.row 13 26 2 (List.map en_api_Span r15.1)]) rfl rfl rfl Try.call49 (atJ [(0, 11)] [(500, 13)] (fc_dial_Shows h42) rfl rfl) (.inr (List.forall_mem_cons.2 ⟨indep_map en_api_Span_flat, (by simp)⟩))) rfl trivial rfl rfl ?_
  refine op0 (sp_move rfl rfl) rfl trivial rfl rfl ?_
  refine op0 (sp_extract rfl rfl rfl) rfl trivial rfl rfl ?_
  refine op0 (sp_extract rfl rfl rfl) rfl trivial rfl rfl ?_
  refine op0 (sp_assign rfl rfl) rfl trivial rfl rfl ?_
  refine op0 (sp_assign rfl rfl) rfl trivial rfl rfl ?_
  refine TL.nil ?_
  refine TC.seq ?_
  rcases cond_cases h with ⟨h43, h⟩ | ⟨h43, h⟩
  · rcases cond_cases h with ⟨h44, h⟩ | ⟨h44, h⟩
    · obtain ⟨x16, h45, h46, h⟩ := idx_inv h
      obtain ⟨r17, h47, h⟩ := bind_inv h
      refine drawJ 14 [⟨.val (.int .i64 r15.2), [], [], []⟩, ⟨.val (.bool (r15.2 == 0)), [], [], []⟩, ⟨.val (.bool true), [], [], []⟩, ⟨.ref 13, [], [], []⟩, ⟨.val (.int .i64 (r15.1.length : Int)), [], [.row 13 26 2 (List.map en_api_Span r15.1)], []⟩, ⟨.val (.bool ((r15.1.length : Int) == 1)), [], [], []⟩, ⟨.val (.bool ((r15.1.length : Int) == 1)), [], [], []⟩, ⟨.val (.bool true), [], [], []⟩, ⟨.ref 13, [], [], []⟩, ⟨.cell 13 ((0 : Int).toNat * 2), [], [.row 13 26 2 (List.map en_api_Span r15.1)], []⟩, ⟨.agg [.val (.int .i64 x16.1), .val (.int .i64 x16.2)], [], [.row 13 26 2 (List.map en_api_Span r15.1)], []⟩, ⟨.val (.int .i64 (Int.tdiv r10.1 1000)), [], [], []⟩, ⟨.val (.int .i64 (Int.tdiv r10.1 1000)), [], [], []⟩, ⟨.agg [.val (.int .i64 r17.1), .val (.int .i64 r17.2)], [], [], []⟩] rfl ?_ rfl ?_ rfl ?_ ?_
      · kernel_rfl
      · kernel_rfl
      · exact DAll.op' (sp_move rfl rfl) trivial rfl (From.ok (ps := []) trivial) (DAll.op' (sp_eql rfl rfl rfl) trivial rfl (From.ok (ps := []) trivial) (DAll.op' (sp_castB h43 (sp_move rfl rfl)) trivial rfl (From.ok (ps := []) trivial) (DAll.op' (sp_move rfl rfl) ⟨_, rfl, rfl⟩ rfl (From.ok (ps := []) trivial) (DAll.op' (sp_lenM (N := r15.1.length) (len_map _ _) rfl rfl isOwn Try.underlying23) ⟨_, rfl, rfl⟩ rfl (From.ok (ps := [(none, 0)]) ⟨⟨rfl, rfl⟩, trivial⟩) (DAll.op' (sp_eql rfl rfl rfl) ⟨_, rfl, rfl⟩ rfl (From.ok (ps := []) trivial) (DAll.op' (sp_pickT rfl rfl rfl) trivial rfl (From.ok (ps := []) trivial) (DAll.op' (sp_castB h44 (sp_move rfl rfl)) trivial rfl (From.ok (ps := []) trivial) (DAll.op' (sp_move rfl rfl) ⟨_, rfl, rfl⟩ rfl (From.ok (ps := []) trivial) (DAll.op' (sp_indexS rfl rfl rfl isOwn sl23 h45 (map_get _ h46)) ⟨_, rfl, rfl⟩ rfl (From.ok (ps := [(none, 0)]) ⟨⟨rfl, rfl⟩, trivial⟩) (DAll.op' (sp_loadRA (i := (0 : Int).toNat) (j := 0) (as_ := [.val (.int .i64 x16.1), .val (.int .i64 x16.2)]) (ns := []) rfl rfl isOwn vt26 rfl (map_get _ h46) rfl rfl (by decide) (.v (.v (.nil))) (nodup_of_B rfl)) ⟨_, rfl, rfl⟩ rfl (From.ok (ps := [(none, 0)]) ⟨⟨rfl, rfl⟩, trivial⟩) (DAll.op' (sp_move rfl rfl) ⟨_, rfl, rfl⟩ rfl (From.ok (ps := []) trivial) (DAll.op' (sp_move rfl rfl) ⟨_, rfl, rfl⟩ rfl (From.ok (ps := []) trivial) (DAll.op' (sp_call (avs := [.val (.int .i64 (Int.tdiv r10.1 1000)), .val (.int .i64 (Int.tdiv r10.1 1000))]) (need := []) (v := .agg [.val (.int .i64 r17.1), .val (.int .i64 r17.2)]) (news := []) rfl rfl rfl Try.call14 (atJ [] [] (fc_top_pubSpan h47) rfl rfl) (.inl (roAll rfl))) ⟨_, rfl, rfl⟩ rfl (From.ok (ps := []) trivial) (.nil))))))))))))))
      refine op0 (sp_eqlS rfl rfl rfl rfl rfl (eq26 _ _ _ _)) rfl ⟨_, rfl, rfl⟩ rfl rfl ?_
      refine op0 (sp_pickT rfl rfl rfl) rfl trivial rfl rfl ?_
      refine op0 (sp_move rfl rfl) rfl trivial rfl rfl ?_
      rcases cond_cases h with ⟨h48, h⟩ | ⟨h48, h⟩
      · refine (boolLit 149 rfl h48).2 ?_
        obtain ⟨r18, h49, h⟩ := bind_inv h
        refine op0 (sp_call (avs := []) (need := []) (v := .val (.bool r18)) (news := []) rfl rfl rfl Try.call48 (atJ [] [] (fc_top_pubDial h49) rfl rfl) (.inl (roAll rfl))) rfl ⟨_, rfl, rfl⟩ rfl rfl ?_
        refine op0 (sp_pickT rfl rfl rfl) rfl trivial rfl rfl ?_
        refine op0 (sp_move rfl rfl) rfl trivial rfl rfl ?_
        rcases cond_cases h with ⟨h50, h⟩ | ⟨h50, h⟩
        · refine (boolLit 152 rfl h50).2 ?_
          obtain ⟨r19, h51, h⟩ := bind_inv h
          refine op0 (sp_call (avs := []) (need := []) (v := .val (.bool r19)) (news := []) rfl rfl rfl Try.call18 (atJ [] [] (fc_top_pubBook h51) rfl rfl) (.inl (roAll rfl))) rfl ⟨_, rfl, rfl⟩ rfl rfl ?_
          refine op0 (sp_pickT rfl rfl rfl) rfl trivial rfl rfl ?_
          refine op0 (sp_assign rfl rfl) rfl trivial rfl rfl ?_
          refine TL.nil ?_
          cases h
          exact retJ [] (.tmp rfl .nil) rfl trivial rfl rfl
        · refine (boolLit 152 rfl h50).2 ?_
          refine opSkip rfl ⟨_, rfl, .inl rfl⟩ rfl ?_
          refine op0 (sp_pickF rfl rfl rfl) rfl trivial rfl rfl ?_
          refine op0 (sp_assign rfl rfl) rfl trivial rfl rfl ?_
          refine TL.nil ?_
          cases h
          exact retJ [] (.tmp rfl .nil) rfl trivial rfl rfl
      · refine (boolLit 149 rfl h48).2 ?_
        refine opSkip rfl ⟨_, rfl, .inl rfl⟩ rfl ?_
        refine op0 (sp_pickF rfl rfl rfl) rfl trivial rfl rfl ?_
        refine op0 (sp_move rfl rfl) rfl trivial rfl rfl ?_
        refine opSkip rfl ⟨_, rfl, .inl rfl⟩ rfl ?_
        refine op0 (sp_pickF rfl rfl rfl) rfl trivial rfl rfl ?_
        refine op0 (sp_assign rfl rfl) rfl trivial rfl rfl ?_
        refine TL.nil ?_
        cases h
        exact retJ [] (.tmp rfl .nil) rfl trivial rfl rfl
    · refine drawJ 14 [⟨.val (.int .i64 r15.2), [], [], []⟩, ⟨.val (.bool (r15.2 == 0)), [], [], []⟩, ⟨.val (.bool true), [], [], []⟩, ⟨.ref 13, [], [], []⟩, ⟨.val (.int .i64 (r15.1.length : Int)), [], [.row 13 26 2 (List.map en_api_Span r15.1)], []⟩, ⟨.val (.bool ((r15.1.length : Int) == 1)), [], [], []⟩, ⟨.val (.bool ((r15.1.length : Int) == 1)), [], [], []⟩, ⟨.val (.bool false), [], [], []⟩, ⟨.val (undef), [], [], []⟩, ⟨.val (undef), [], [], []⟩, ⟨.val (undef), [], [], []⟩, ⟨.val (undef), [], [], []⟩, ⟨.val (undef), [], [], []⟩, ⟨.val (undef), [], [], []⟩] rfl ?_ rfl ?_ rfl ?_ ?_
      · kernel_rfl
      · kernel_rfl
      · exact DAll.op' (sp_move rfl rfl) trivial rfl (From.ok (ps := []) trivial) (DAll.op' (sp_eql rfl rfl rfl) trivial rfl (From.ok (ps := []) trivial) (DAll.op' (sp_castB h43 (sp_move rfl rfl)) trivial rfl (From.ok (ps := []) trivial) (DAll.op' (sp_move rfl rfl) ⟨_, rfl, rfl⟩ rfl (From.ok (ps := []) trivial) (DAll.op' (sp_lenM (N := r15.1.length) (len_map _ _) rfl rfl isOwn Try.underlying23) ⟨_, rfl, rfl⟩ rfl (From.ok (ps := [(none, 0)]) ⟨⟨rfl, rfl⟩, trivial⟩) (DAll.op' (sp_eql rfl rfl rfl) ⟨_, rfl, rfl⟩ rfl (From.ok (ps := []) trivial) (DAll.op' (sp_pickT rfl rfl rfl) trivial rfl (From.ok (ps := []) trivial) (DAll.op' (sp_castB h44 (sp_move rfl rfl)) trivial rfl (From.ok (ps := []) trivial) (.skip ⟨_, rfl, .inl rfl⟩ rfl rfl rfl (.skip ⟨_, rfl, .inl rfl⟩ rfl rfl rfl (.skip ⟨_, rfl, .inl rfl⟩ rfl rfl rfl (.skip ⟨_, rfl, .inl rfl⟩ rfl rfl rfl (.skip ⟨_, rfl, .inl rfl⟩ rfl rfl rfl (.skip ⟨_, rfl, .inl rfl⟩ rfl rfl rfl (.nil))))))))))))))
      refine opSkip rfl ⟨_, rfl, .inl rfl⟩ rfl ?_
      refine op0 (sp_pickF rfl rfl rfl) rfl trivial rfl rfl ?_
      refine op0 (sp_move rfl rfl) rfl trivial rfl rfl ?_
      refine opSkip rfl ⟨_, rfl, .inl rfl⟩ rfl ?_
      refine op0 (sp_pickF rfl rfl rfl) rfl trivial rfl rfl ?_
      refine op0 (sp_move rfl rfl) rfl trivial rfl rfl ?_
      refine opSkip rfl ⟨_, rfl, .inl rfl⟩ rfl ?_
      refine op0 (sp_pickF rfl rfl rfl) rfl trivial rfl rfl ?_
      refine op0 (sp_assign rfl rfl) rfl trivial rfl rfl ?_
      refine TL.nil ?_
      cases h
      exact retJ [] (.tmp rfl .nil) rfl trivial rfl rfl
  · refine drawJ 14 [⟨.val (.int .i64 r15.2), [], [], []⟩, ⟨.val (.bool (r15.2 == 0)), [], [], []⟩, ⟨.val (.bool false), [], [], []⟩, ⟨.val (undef), [], [], []⟩, ⟨.val (undef), [], [], []⟩, ⟨.val (undef), [], [], []⟩, ⟨.val (.bool false), [], [], []⟩, ⟨.val (.bool false), [], [], []⟩, ⟨.val (undef), [], [], []⟩, ⟨.val (undef), [], [], []⟩, ⟨.val (undef), [], [], []⟩, ⟨.val (undef), [], [], []⟩, ⟨.val (undef), [], [], []⟩, ⟨.val (undef), [], [], []⟩] rfl ?_ rfl ?_ rfl ?_ ?_
    · kernel_rfl
    · kernel_rfl
    · exact DAll.op' (sp_move rfl rfl) trivial rfl (From.ok (ps := []) trivial) (DAll.op' (sp_eql rfl rfl rfl) trivial rfl (From.ok (ps := []) trivial) (DAll.op' (sp_castB h43 (sp_move rfl rfl)) trivial rfl (From.ok (ps := []) trivial) (.skip ⟨_, rfl, .inl rfl⟩ rfl rfl rfl (.skip ⟨_, rfl, .inl rfl⟩ rfl rfl rfl (.skip ⟨_, rfl, .inl rfl⟩ rfl rfl rfl (DAll.op' (sp_pickF rfl rfl rfl) trivial rfl (From.ok (ps := []) trivial) (DAll.op' (sp_move rfl rfl) trivial rfl (From.ok (ps := []) trivial) (.skip ⟨_, rfl, .inl rfl⟩ rfl rfl rfl (.skip ⟨_, rfl, .inl rfl⟩ rfl rfl rfl (.skip ⟨_, rfl, .inl rfl⟩ rfl rfl rfl (.skip ⟨_, rfl, .inl rfl⟩ rfl rfl rfl (.skip ⟨_, rfl, .inl rfl⟩ rfl rfl rfl (.skip ⟨_, rfl, .inl rfl⟩ rfl rfl rfl (.nil))))))))))))))
    refine opSkip rfl ⟨_, rfl, .inl rfl⟩ rfl ?_
    refine op0 (sp_pickF rfl rfl rfl) rfl trivial rfl rfl ?_
    refine op0 (sp_move rfl rfl) rfl trivial rfl rfl ?_
    refine opSkip rfl ⟨_, rfl, .inl rfl⟩ rfl ?_
    refine op0 (sp_pickF rfl rfl rfl) rfl trivial rfl rfl ?_
    refine op0 (sp_move rfl rfl) rfl trivial rfl rfl ?_
    refine opSkip rfl ⟨_, rfl, .inl rfl⟩ rfl ?_
    refine op0 (sp_pickF rfl rfl rfl) rfl trivial rfl rfl ?_
    refine op0 (sp_assign rfl rfl) rfl trivial rfl rfl ?_
    refine TL.nil ?_
    cases h
    exact retJ [] (.tmp rfl .nil) rfl trivial rfl rfl
def ev_top_TopBookDial_j3 (n : Nat) (r10 : Int × Bool × Int) (at_2 : Int) : Option Bool :=
  chk (in64 (Int.tdiv r10.1 1000)) <| chk (in64 ((Int.tdiv r10.1 1000) - (Int.tmod at_2 100000000))) <| chk (in64 (((Int.tdiv r10.1 1000) - (Int.tmod at_2 100000000)) + 21600)) <| (ev_top_pubRest n (((Int.tdiv r10.1 1000) - (Int.tmod at_2 100000000)) + 21600) 43200).bind fun r11 => chk (in64 (r11 - 21600)) <| cond (decide ((r11 - 21600) < (-3600))) (ev_top_TopBookDial_j4 n) (cond (decide ((3600 : Int) < (r11 - 21600))) (ev_top_TopBookDial_j4 n) (ev_top_TopBookDial_j5 n r11 at_2 r10))
set_option maxRecDepth 100000 in
set_option maxHeartbeats 2000000 in
theorem ok_top_TopBookDial_j3 {n : Nat} {w0 : World} {R0 : Nat → Prop} {env0 : Env} {r : Bool} {at_2 : Int} {r10 : Int × Bool × Int} (h : ev_top_TopBookDial_j3 n r10 at_2 = some r) : TC Try.prog ⟨w0, fun _ => False, R0⟩ 155 (bodyPost Try.prog Try.f10 (Post ⟨w0, fun _ => False, R0⟩ env0 (.val (.bool r)) [])) [.code (sub (bodyOf Try.f10) [1, 1, 1, 1, 1, 0, 1, 1]), .code (sub (bodyOf Try.f10) [1, 1, 1, 1, 1, 1])] ([(9, .val (.int .i64 (Int.tmod at_2 100000000))), (10, .val (.int .i64 r10.1))]) ([]) := by
  rw [ev_top_TopBookDial_j3] at h
  refine TC.skip ?_
  refine TC.seq ?_
  refine TC.region ?_
  refine op0 (sp_move rfl rfl) rfl trivial rfl rfl ?_
  obtain ⟨h31, h⟩ := chk_inv h
  refine op0 (sp_quo rfl rfl rfl (by decide) h31) rfl trivial rfl rfl ?_
  refine op0 (sp_assign rfl rfl) rfl trivial rfl rfl ?_
  refine TL.nil ?_
  refine TC.seq ?_
  refine TC.region ?_
  refine op0 (sp_move rfl rfl) rfl trivial rfl rfl ?_
  refine op0 (sp_move rfl rfl) rfl trivial rfl rfl ?_
  obtain ⟨h32, h⟩ := chk_inv h
  refine op0 (sp_sub rfl rfl rfl h32) rfl trivial rfl rfl ?_
  obtain ⟨h33, h⟩ := chk_inv h
  refine op0 (sp_add rfl rfl rfl h33) rfl trivial rfl rfl ?_
  obtain ⟨r11, h34, h⟩ := bind_inv h
  refine op0 (sp_call (avs := [.val (.int .i64 (((Int.tdiv r10.1 1000) - (Int.tmod at_2 100000000)) + 21600)), .val (.int .i64 43200)]) (need := []) (v := .val (.int .i64 r11)) (news := []) rfl rfl rfl Try.call35 (atJ [] [] (fc_top_pubRest h34) rfl rfl) (.inl (roAll rfl))) rfl trivial rfl rfl ?_
  obtain ⟨h35, h⟩ := chk_inv h
  refine op0 (sp_sub rfl rfl rfl h35) rfl trivial rfl rfl ?_
  refine op0 (sp_assign rfl rfl) rfl trivial rfl rfl ?_
  refine TL.nil ?_
  refine TC.seq ?_
  refine TC.seq ?_
  refine TC.region ?_
  refine op0 (sp_move rfl rfl) rfl trivial rfl rfl ?_
  refine op0 (sp_lss rfl rfl rfl) rfl trivial rfl rfl ?_
  refine op0 (sp_move rfl rfl) rfl trivial rfl rfl ?_
  rcases cond_cases h with ⟨h36, h⟩ | ⟨h36, h⟩
  · refine (boolLit 112 rfl h36).2 ?_
    refine opSkip rfl ⟨_, rfl, .inl rfl⟩ rfl ?_
    refine opSkip rfl ⟨_, rfl, .inl rfl⟩ rfl ?_
    refine op0 (sp_pickT rfl rfl rfl) rfl trivial rfl rfl ?_
    refine TL.nil ?_
    refine TC.condT rfl ?_
    refine TC.seq ?_
    refine subJ [] (ok_top_TopBookDial_j4 h) ?_ ?_ ?_
    · exact trivial
    · exact trivial
    · rfl
  · refine (boolLit 112 rfl h36).2 ?_
    refine op0 (sp_move rfl rfl) rfl ⟨_, rfl, rfl⟩ rfl rfl ?_
    refine op0 (sp_gtr rfl rfl rfl) rfl ⟨_, rfl, rfl⟩ rfl rfl ?_
    refine op0 (sp_pickF rfl rfl rfl) rfl trivial rfl rfl ?_
    refine TL.nil ?_
    refine TC.cond (b := (decide ((3600 : Int) < (r11 - 21600)))) rfl (fun h40 => ?_) (fun h40 => ?_)
    · have h := cond_t h h40
      refine TC.seq ?_
      refine subJ [] (ok_top_TopBookDial_j4 h) ?_ ?_ ?_
      · exact trivial
      · exact trivial
      · rfl
    · have h := cond_f h h40
      refine subJ [] (ok_top_TopBookDial_j5 h) ?_ ?_ ?_
      · exact ⟨rfl, rfl, rfl, trivial⟩
      · exact trivial
      · rfl
def ev_top_TopBookDial_j2 (n : Nat) (at_2 : Int) (l9 : List (Int × Int × Int)) : Option Bool :=
  chk (in64 at_2) <| chk (room 24 (([] : List (Int × Int × Int)).length + l9.length)) <| (ev_book_Hands n (([] : List (Int × Int × Int)) ++ l9) (Int.tmod at_2 100000000)).bind fun r10 => cond (r10.2.2 != 0) (some false) (cond (decide (r10.1 < 0)) (some false) (cond (decide ((43200000 : Int) ≤ r10.1)) (some false) (ev_top_TopBookDial_j3 n r10 at_2)))
set_option maxRecDepth 100000 in
set_option maxHeartbeats 2000000 in
theorem ok_top_TopBookDial_j2 {n : Nat} {w0 : World} {R0 : Nat → Prop} {env0 : Env} {r : Bool} {at_2 : Int} {l9 : List (Int × Int × Int)} (h : ev_top_TopBookDial_j2 n at_2 l9 = some r) : TC Try.prog ⟨w0, fun _ => False, R0⟩ 155 (bodyPost Try.prog Try.f10 (Post ⟨w0, fun _ => False, R0⟩ env0 (.val (.bool r)) [])) [.code (sub (bodyOf Try.f10) [1, 1, 1, 0]), .code (sub (bodyOf Try.f10) [1, 1, 1, 1])] ([(1, .val (.int .u32 at_2)), (5, .ref 1)]) ([.row 1 35 3 (List.map en_api_BookEntry l9)]) := by
  rw [ev_top_TopBookDial_j2] at h
  refine TC.region ?_
  refine op0 (sp_move rfl rfl) rfl trivial rfl rfl ?_
  obtain ⟨h25, h⟩ := chk_inv h
  refine op0 (sp_conv rfl Try.underlying131 Try.underlying3 rfl h25) rfl trivial rfl rfl ?_
  refine op0 (sp_rem rfl rfl rfl (by decide)) rfl trivial rfl rfl ?_
  refine op0 (sp_assign rfl rfl) rfl trivial rfl rfl ?_
  refine TL.nil ?_
  refine TC.seq ?_
  refine TC.region ?_
  refine op0 (sp_emptyM 9 (List.map en_api_BookEntry []) rfl rfl sl36) rfl trivial rfl rfl ?_
  refine op0 (sp_move rfl rfl) rfl trivial rfl rfl ?_
  obtain ⟨h26, h⟩ := chk_inv h
  refine appM 0 1 (N := ([] : List (Int × Int × Int)).length) (N2 := l9.length) 10 rfl rfl trivial rfl rfl rfl rfl rfl isOwn rfl sl36 (len_map _ _) (len_map _ _) h26 (map_app _ _ _) rfl ?_
  refine op0 (sp_move rfl rfl) rfl trivial rfl rfl ?_
  obtain ⟨r10, h27, h⟩ := bind_inv h
  refine op1 0 rfl (sp_call (avs := [.ref 10, .val (.int .i64 (Int.tmod at_2 100000000))]) (need := [.row 10 35 3 (List.map en_api_BookEntry (([] : List (Int × Int × Int)) ++ l9))]) (v := .tup [.val (.int .i64 r10.1), .val (.bool r10.2.1), .val (.int .i64 r10.2.2)]) (news := []) rfl rfl rfl Try.call23 (atJ [(0, 10)] [] (fc_book_Hands h27) rfl rfl) (.inr (fun x hx => nomatch hx))) rfl trivial rfl rfl ?_
  refine op0 (sp_move rfl rfl) rfl trivial rfl rfl ?_
  refine op0 (sp_extract rfl rfl rfl) rfl trivial rfl rfl ?_
  refine op0 (sp_extract rfl rfl rfl) rfl trivial rfl rfl ?_
  refine op0 (sp_extract rfl rfl rfl) rfl trivial rfl rfl ?_
  refine op0 (sp_assign rfl rfl) rfl trivial rfl rfl ?_
  refine op0 (sp_assign rfl rfl) rfl trivial rfl rfl ?_
  refine op0 (sp_assign rfl rfl) rfl trivial rfl rfl ?_
  refine TL.nil ?_
  refine TC.seq ?_
  refine TC.seq ?_
  refine TC.region ?_
  refine op0 (sp_move rfl rfl) rfl trivial rfl rfl ?_
  refine op0 (sp_neq rfl rfl rfl) rfl trivial rfl rfl ?_
  refine op0 (sp_move rfl rfl) rfl trivial rfl rfl ?_
  rcases cond_cases h with ⟨h28, h⟩ | ⟨h28, h⟩
  · refine (boolLit 94 rfl h28).2 ?_
    refine opSkip rfl ⟨_, rfl, .inl rfl⟩ rfl ?_
    refine opSkip rfl ⟨_, rfl, .inl rfl⟩ rfl ?_
    refine op0 (sp_pickT rfl rfl rfl) rfl trivial rfl rfl ?_
    refine op0 (sp_move rfl rfl) rfl trivial rfl rfl ?_
    refine opSkip rfl ⟨_, rfl, .inl rfl⟩ rfl ?_
    refine opSkip rfl ⟨_, rfl, .inl rfl⟩ rfl ?_
    refine op0 (sp_pickT rfl rfl rfl) rfl trivial rfl rfl ?_
    refine TL.nil ?_
    refine TC.condT rfl ?_
    refine TC.seq ?_
    refine TC.region ?_
    refine op0 (sp_assign rfl rfl) rfl trivial rfl rfl ?_
    refine TL.nil ?_
    cases h
    exact retJ [] (.tmp rfl .nil) rfl trivial rfl rfl
  · refine (boolLit 94 rfl h28).2 ?_
    refine op0 (sp_move rfl rfl) rfl ⟨_, rfl, rfl⟩ rfl rfl ?_
    refine op0 (sp_lss rfl rfl rfl) rfl ⟨_, rfl, rfl⟩ rfl rfl ?_
    refine op0 (sp_pickF rfl rfl rfl) rfl trivial rfl rfl ?_
    refine op0 (sp_move rfl rfl) rfl trivial rfl rfl ?_
    rcases cond_cases h with ⟨h29, h⟩ | ⟨h29, h⟩
    · refine (boolLit 98 rfl h29).2 ?_
      refine opSkip rfl ⟨_, rfl, .inl rfl⟩ rfl ?_
      refine opSkip rfl ⟨_, rfl, .inl rfl⟩ rfl ?_
      refine op0 (sp_pickT rfl rfl rfl) rfl trivial rfl rfl ?_
      refine TL.nil ?_
      refine TC.condT rfl ?_
      refine TC.seq ?_
      refine TC.region ?_
      refine op0 (sp_assign rfl rfl) rfl trivial rfl rfl ?_
      refine TL.nil ?_
      cases h
      exact retJ [] (.tmp rfl .nil) rfl trivial rfl rfl
    · refine (boolLit 98 rfl h29).2 ?_
      refine op0 (sp_move rfl rfl) rfl ⟨_, rfl, rfl⟩ rfl rfl ?_
      refine op0 (sp_geq rfl rfl rfl) rfl ⟨_, rfl, rfl⟩ rfl rfl ?_
      refine op0 (sp_pickF rfl rfl rfl) rfl trivial rfl rfl ?_
      refine TL.nil ?_
      refine TC.cond (b := (decide ((43200000 : Int) ≤ r10.1))) rfl (fun h30 => ?_) (fun h30 => ?_)
      · have h := cond_t h h30
        refine TC.seq ?_
        refine TC.region ?_
        refine op0 (sp_assign rfl rfl) rfl trivial rfl rfl ?_
        refine TL.nil ?_
        cases h
        exact retJ [] (.tmp rfl .nil) rfl trivial rfl rfl
      · have h := cond_f h h30
        refine subJ [] (ok_top_TopBookDial_j3 h) ?_ ?_ ?_
        · exact ⟨rfl, rfl, trivial⟩
        · exact trivial
        · rfl
def ev_top_TopBookDial_l0 (n : Nat) (at_2 : Int) : Nat → Int → Int → (List (Int × Int)) → (List (Int × Int × Int)) → Option Bool
  | 0, _, _, _, _ => none
  | m + 1, i3, i4, l5, l6 => cond (decide (i4 < (l5.length : Int))) (cond (decide (i4 < 20)) (ev_top_TopBookDial_j1 n l5 i4 i3 l6 (fun i3q i4q l5q l6q => ev_top_TopBookDial_l0 n at_2 m i3q i4q l5q l6q)) (ev_top_TopBookDial_j2 n at_2 l6)) (ev_top_TopBookDial_j2 n at_2 l6)
set_option maxRecDepth 100000 in
set_option maxHeartbeats 2000000 in
theorem ok_top_TopBookDial_l0 {n : Nat} {w0 : World} {R0 : Nat → Prop} {env0 : Env} {r : Bool} {at_2 : Int} : ∀ (m : Nat) (i3 : Int) (i4 : Int) (l5 : List (Int × Int)) (l6 : List (Int × Int × Int)), ev_top_TopBookDial_l0 n at_2 m i3 i4 l5 l6 = some r → TC Try.prog ⟨w0, fun _ => False, R0⟩ 155 (bodyPost Try.prog Try.f10 (Post ⟨w0, fun _ => False, R0⟩ env0 (.val (.bool r)) [])) [.code (sub (bodyOf Try.f10) [1, 1, 0, 1, 0, 0, 0, 0]), .code (sub (bodyOf Try.f10) [1, 1, 0, 1, 0, 0, 0, 1]), .code (sub (bodyOf Try.f10) [1, 1, 0, 1, 0, 0, 1]), .inLoop (sub (bodyOf Try.f10) [1, 1, 0, 1, 0, 0]), .inBlock 0, .code (sub (bodyOf Try.f10) [1, 1, 1])] ([(0, .ref 0), (1, .val (.int .u32 at_2)), (5, .ref 1), (6, .val (.int .i64 i3)), (7, .val (.int .i64 i4))]) ([.ro 0 2 (List.map en_2_uint16 l5), .row 1 35 3 (List.map en_api_BookEntry l6)]) := by
  intro m
  induction m with
  | zero => intro i3 i4 l5 l6 h; exact none_no h
  | succ m ih =>
    intro i3 i4 l5 l6 h
    rw [ev_top_TopBookDial_l0] at h
    refine TC.region ?_
    refine op0 (sp_move rfl rfl) rfl trivial rfl rfl ?_
    refine op0 (sp_move rfl rfl) rfl trivial rfl rfl ?_
    refine op1 0 rfl (sp_lenM (N := l5.length) (len_map _ _) rfl rfl isRo Try.underlying130) rfl trivial rfl rfl ?_
    refine op0 (sp_lss rfl rfl rfl) rfl trivial rfl rfl ?_
    refine op0 (sp_move rfl rfl) rfl trivial rfl rfl ?_
    rcases cond_cases h with ⟨h1, h⟩ | ⟨h1, h⟩
    · refine (boolLit 23 rfl h1).2 ?_
      refine op0 (sp_move rfl rfl) rfl ⟨_, rfl, rfl⟩ rfl rfl ?_
      refine op0 (sp_lss rfl rfl rfl) rfl ⟨_, rfl, rfl⟩ rfl rfl ?_
      refine op0 (sp_pickT rfl rfl rfl) rfl trivial rfl rfl ?_
      refine TL.nil ?_
      refine TC.cond (b := (decide (i4 < 20))) rfl (fun h2 => ?_) (fun h2 => ?_)
      · have h := cond_t h h2
        refine subJ [] (ok_top_TopBookDial_j1 (at_2 := at_2) ih h) ?_ ?_ ?_
        · exact ⟨rfl, rfl, rfl, rfl, rfl, trivial⟩
        · exact ⟨mem_at 0 rfl, mem_at 1 rfl, trivial⟩
        · rfl
      · have h := cond_f h h2
        refine TC.exit rfl ?_
        refine TC.seq ?_
        refine subJ [] (ok_top_TopBookDial_j2 h) ?_ ?_ ?_
        · exact ⟨rfl, rfl, trivial⟩
        · exact ⟨mem_at 1 rfl, trivial⟩
        · rfl
    · refine (boolLit 23 rfl h1).2 ?_
      refine opSkip rfl ⟨_, rfl, .inl rfl⟩ rfl ?_
      refine opSkip rfl ⟨_, rfl, .inl rfl⟩ rfl ?_
      refine op0 (sp_pickF rfl rfl rfl) rfl trivial rfl rfl ?_
      refine TL.nil ?_
      refine TC.condF rfl ?_
      refine TC.exit rfl ?_
      refine TC.seq ?_
      refine subJ [] (ok_top_TopBookDial_j2 h) ?_ ?_ ?_
      · exact ⟨rfl, rfl, trivial⟩
      · exact ⟨mem_at 1 rfl, trivial⟩
      · rfl
def ev_top_TopBookDial (n : Nat) (by_1 : List (Int × Int)) (at_2 : Int) : Option Bool :=
  ev_top_TopBookDial_l0 n at_2 n (-1) 0 by_1 ([] : List (Int × Int × Int))
set_option maxRecDepth 100000 in
set_option maxHeartbeats 2000000 in
theorem fc_top_TopBookDial {n : Nat} {by_1 : List (Int × Int)} {at_2 : Int} {r : Bool} (h : ev_top_TopBookDial n by_1 at_2 = some r) : FC Try.prog 10 [.ref 0, .val (.int .u32 at_2)] [.ro 0 2 (List.map en_2_uint16 by_1)] (.val (.bool r)) [] := by
  refine introJ (nz := 155) Try.func10 rfl rfl rfl (fun w0 R0 env0 => ?_)
  rw [ev_top_TopBookDial] at h
  refine TC.seq ?_
  refine TC.region ?_
  refine op0 (sp_assign rfl rfl) rfl trivial rfl rfl ?_
  refine TL.nil ?_
  refine TC.seq ?_
  refine TC.region ?_
  refine op0 (sp_emptyM 1 (List.map en_api_BookEntry []) rfl rfl sl36) rfl trivial rfl rfl ?_
  refine op0 (sp_assign rfl rfl) rfl trivial rfl rfl ?_
  refine op0 (sp_assign rfl rfl) rfl trivial rfl rfl ?_
  refine TL.nil ?_
  refine TC.seq ?_
  refine TC.seq ?_
  refine TC.region ?_
  refine op0 (sp_assign rfl rfl) rfl trivial rfl rfl ?_
  refine TL.nil ?_
  refine TC.block ?_
  refine TC.loop ?_
  refine TC.seq ?_
  refine TC.seq ?_
  refine subJ [] (ok_top_TopBookDial_l0 _ _ _ _ _ h) ?_ ?_ ?_
  · exact ⟨rfl, rfl, rfl, rfl, rfl, trivial⟩
  · exact ⟨mem_at 1 rfl, mem_at 0 rfl, trivial⟩
  · rfl
end
end Go.Proofs.Ytmgcinejodpopaa.Sy
