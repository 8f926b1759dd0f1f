/- What functions of the program compute, and that they do: printed by symgen.py. -/
import Derived.Test.YtmgcinejodpopaaGLib
import Derived.Test.YtmgcinejodpopaaGBook
import Derived.Test.YtmgcinejodpopaaGZone
set_option linter.unusedSimpArgs false
set_option linter.unusedVariables false
namespace Go.Proofs.Ytmgcinejodpopaa.Sy
open Go.RowKit
noncomputable section

/- top_TopZoneBook -/
def ev_top_TopZoneBook_l0 (n : Nat) (at_3 : Int) : Nat → Int → Int → (List (Int × Int × Int)) → (List (Int × Int)) → Option Bool
  | 0, _, _, _, _ => none
  | m + 1, i6, i7, l8, l9 => cond (decide (i6 < (l9.length : Int))) (idx l9 i6 fun x10 => chk (in64 (x10.1 + x10.2)) <| (ev_top_pubRest n (x10.1 + x10.2) 43200).bind fun r11 => chk (room 24 (l8.length + ([(x10.1, 1, r11)] : List (Int × Int × Int)).length)) <| chk (in64 (i6 + 1)) <| ev_top_TopZoneBook_l0 n at_3 m (i6 + 1) i7 (l8 ++ ([(x10.1, 1, r11)] : List (Int × Int × Int))) l9) (chk (in64 at_3) <| (ev_book_Hands n l8 (Int.tmod at_3 1000000)).bind fun r12 => (ev_zone_Says n i7 l9 (Int.tmod at_3 1000000)).bind fun r13 => cond (r12.2.2 == 0) (cond (r13.2.2 == 0) (cond r12.2.1 (chk (in64 ((1000 : Int) * (Int.tmod r13.2.1 43200))) <| cond (r12.1 == ((1000 : Int) * (Int.tmod r13.2.1 43200))) ((ev_top_pubTowns n).bind fun r14 => cond r14 ((ev_top_pubBook n).bind fun r15 => some r15) (some false)) (some false)) (some false)) (some false)) (some false))
set_option maxRecDepth 100000 in
set_option maxHeartbeats 2000000 in
theorem ok_top_TopZoneBook_l0 {n : Nat} {w0 : World} {R0 : Nat → Prop} {env0 : Env} {r : Bool} {at_3 : Int} : ∀ (m : Nat) (i6 : Int) (i7 : Int) (l8 : List (Int × Int × Int)) (l9 : List (Int × Int)), ev_top_TopZoneBook_l0 n at_3 m i6 i7 l8 l9 = some r → TC Try.prog ⟨w0, fun _ => False, R0⟩ 89 (bodyPost Try.prog Try.f12 (Post ⟨w0, fun _ => False, R0⟩ env0 (.val (.bool r)) [])) [.code (sub (bodyOf Try.f12) [1, 1, 1, 0, 1, 0, 0, 0, 0]), .code (sub (bodyOf Try.f12) [1, 1, 1, 0, 1, 0, 0, 0, 1]), .code (sub (bodyOf Try.f12) [1, 1, 1, 0, 1, 0, 0, 1]), .inLoop (sub (bodyOf Try.f12) [1, 1, 1, 0, 1, 0, 0]), .inBlock 0, .code (sub (bodyOf Try.f12) [1, 1, 1, 1])] ([(2, .val (.int .u32 at_3)), (7, .ptr 2 0), (8, .ref 3), (9, .val (.int .i64 i6))]) ([.blk 2 [.val (.int .i64 i7), .ref 1] 153, .row 3 35 3 (List.map en_api_BookEntry l8), .row 1 156 2 (List.map en_api_ZoneChange l9)]) := by
  intro m
  induction m with
  | zero => intro i6 i7 l8 l9 h; exact none_no h
  | succ m ih =>
    intro i6 i7 l8 l9 h
    rw [ev_top_TopZoneBook_l0] at h
    refine TC.region ?_
    refine op0 (sp_move rfl rfl) rfl trivial rfl rfl ?_
    refine op1 0 rfl (sp_fieldAddrB rfl isBlk rfl ft153_1 vt151 (by decide)) rfl trivial rfl rfl ?_
    refine op1 0 rfl (sp_loadB rfl isBlk rfl vt151 rfl) rfl trivial rfl rfl ?_
    refine op1 2 rfl (sp_lenM (N := l9.length) (len_map _ _) rfl rfl isOwn Try.underlying151) rfl trivial rfl rfl ?_
    refine op0 (sp_lss rfl rfl rfl) rfl trivial rfl rfl ?_
    refine TL.nil ?_
    refine TC.cond (b := (decide (i6 < (l9.length : Int)))) rfl (fun h3 => ?_) (fun h3 => ?_)
    · have h := cond_t h h3
      refine TC.skip ?_
      refine TC.seq ?_
      refine TC.block ?_
      refine TC.seq ?_
      refine TC.region ?_
      refine op1 0 rfl (sp_fieldAddrB rfl isBlk rfl ft153_1 vt151 (by decide)) rfl trivial rfl rfl ?_
      refine op1 0 rfl (sp_loadB rfl isBlk rfl vt151 rfl) rfl trivial rfl rfl ?_
      refine op0 (sp_move rfl rfl) rfl trivial rfl rfl ?_
      obtain ⟨x10, h4, h5, h⟩ := idx_inv h
      refine op1 2 rfl (sp_indexS rfl rfl rfl isOwn sl151 h4 (map_get _ h5)) rfl trivial rfl rfl ?_
      refine op1 2 rfl (sp_loadRA (i := (i6 : Int).toNat) (j := 0) (as_ := [.val (.int .i64 x10.1), .val (.int .i64 x10.2)]) (ns := []) rfl rfl isOwn vt156 rfl (map_get _ h5) rfl rfl (by decide) (.v (.v (.nil))) (nodup_of_B rfl)) rfl trivial rfl rfl ?_
      refine op0 (sp_alloc 4 rfl Try.zeroValue156 rfl) rfl trivial rfl rfl ?_
      refine stoB 0 (cells' := [.val (.int .i64 x10.1), .val (.int .i64 x10.2)]) rfl rfl trivial rfl rfl rfl rfl vt156 rfl rfl rfl ?_
      refine TL.nil ?_
      obtain ⟨h6, h⟩ := chk_inv h
      obtain ⟨r11, h7, h⟩ := bind_inv h
      refine drawJ 11 [⟨.ref 3, [], [], []⟩, ⟨.ptr 4 0, [], [.blk 4 [.val (.int .i64 x10.1), .val (.int .i64 x10.2)] 156], []⟩, ⟨.val (.int .i64 x10.1), [], [.blk 4 [.val (.int .i64 x10.1), .val (.int .i64 x10.2)] 156], []⟩, ⟨.ptr 4 0, [], [.blk 4 [.val (.int .i64 x10.1), .val (.int .i64 x10.2)] 156], []⟩, ⟨.val (.int .i64 x10.1), [], [.blk 4 [.val (.int .i64 x10.1), .val (.int .i64 x10.2)] 156], []⟩, ⟨.ptr 4 1, [], [.blk 4 [.val (.int .i64 x10.1), .val (.int .i64 x10.2)] 156], []⟩, ⟨.val (.int .i64 x10.2), [], [.blk 4 [.val (.int .i64 x10.1), .val (.int .i64 x10.2)] 156], []⟩, ⟨.val (.int .i64 (x10.1 + x10.2)), [], [], []⟩, ⟨.val (.int .i64 r11), [], [], []⟩, ⟨.agg [.val (.int .i64 x10.1), .val (.int .i64 1), .val (.int .i64 r11)], [], [], []⟩, ⟨.ref 5, [.row 5 35 3 (List.map en_api_BookEntry ([(x10.1, 1, r11)] : List (Int × Int × Int)))], [], []⟩] rfl ?_ rfl ?_ rfl ?_ ?_
      · kernel_rfl
      · kernel_rfl
      · exact DAll.op' (sp_move rfl rfl) trivial rfl (From.ok (ps := []) trivial) (DAll.op' (sp_fieldAddrB rfl isBlk rfl ft156_0 vt3 (by decide)) trivial rfl (From.ok (ps := [(none, 0)]) ⟨⟨rfl, rfl⟩, trivial⟩) (DAll.op' (sp_loadB rfl isBlk rfl vt3 rfl) trivial rfl (From.ok (ps := [(none, 0)]) ⟨⟨rfl, rfl⟩, trivial⟩) (DAll.op' (sp_fieldAddrB rfl isBlk rfl ft156_0 vt3 (by decide)) trivial rfl (From.ok (ps := [(none, 0)]) ⟨⟨rfl, rfl⟩, trivial⟩) (DAll.op' (sp_loadB rfl isBlk rfl vt3 rfl) trivial rfl (From.ok (ps := [(none, 0)]) ⟨⟨rfl, rfl⟩, trivial⟩) (DAll.op' (sp_fieldAddrB rfl isBlk rfl ft156_1 vt3 (by decide)) trivial rfl (From.ok (ps := [(none, 0)]) ⟨⟨rfl, rfl⟩, trivial⟩) (DAll.op' (sp_loadB rfl isBlk rfl vt3 rfl) trivial rfl (From.ok (ps := [(none, 0)]) ⟨⟨rfl, rfl⟩, trivial⟩) (DAll.op' (sp_add rfl rfl rfl h6) trivial rfl (From.ok (ps := []) trivial) (DAll.op' (sp_call (avs := [.val (.int .i64 (x10.1 + x10.2)), .val (.int .i64 43200)]) (need := []) (v := .val (.int .i64 r11)) (news := []) rfl rfl rfl Try.call35 (atJ [] [] (fc_top_pubRest h7) rfl rfl) (.inl (roAll rfl))) trivial rfl (From.ok (ps := []) trivial) (DAll.op' (sp_build (qs := [(0, .val (.int .i64 x10.1)), (1, .val (.int .i64 1)), (2, .val (.int .i64 r11))]) rfl bt35 rfl rfl rfl rfl) trivial rfl (From.ok (ps := []) trivial) (DAll.op' (sp_buildSlice (qs := [.agg [.val (.int .i64 x10.1), .val (.int .i64 1), .val (.int .i64 r11)]]) (need := []) (els := List.map en_api_BookEntry ([(x10.1, 1, r11)] : List (Int × Int × Int))) 5 rfl sl36 (by decide) (by decide) rfl rfl rfl (.v (.v (.v (.nil)))) (map_len fun _ => rfl) rfl rfl rfl) trivial rfl (From.ok (ps := []) trivial) (.nil)))))))))))
      obtain ⟨h8, h⟩ := chk_inv h
      refine appM 3 0 (N := l8.length) (N2 := ([(x10.1, 1, r11)] : List (Int × Int × Int)).length) 6 rfl rfl trivial rfl rfl rfl rfl rfl isOwn rfl sl36 (len_map _ _) (len_map _ _) h8 (map_app _ _ _) rfl ?_
      refine op0 (sp_assign rfl rfl) rfl trivial rfl rfl ?_
      refine TL.nil ?_
      refine TC.inBlock ?_
      refine TC.region ?_
      refine op0 (sp_move rfl rfl) rfl trivial rfl rfl ?_
      obtain ⟨h9, h⟩ := chk_inv h
      refine op0 (sp_add rfl rfl rfl h9) rfl trivial rfl rfl ?_
      refine op0 (sp_assign rfl rfl) rfl trivial rfl rfl ?_
      refine TL.nil ?_
      refine TC.inLoop ?_
      refine TC.seq ?_
      refine TC.seq ?_
      refine subJ [(3, 6)] (ih _ _ _ _ h) ?_ ?_ ?_
      · exact ⟨rfl, rfl, rfl, rfl, trivial⟩
      · exact ⟨mem_at 3 rfl, mem_at 0 rfl, mem_at 4 rfl, trivial⟩
      · rfl
    · have h := cond_f h h3
      refine TC.exit rfl ?_
      refine TC.seq ?_
      refine TC.region ?_
      refine op0 (sp_move rfl rfl) rfl trivial rfl rfl ?_
      obtain ⟨h10, h⟩ := chk_inv h
      refine op0 (sp_conv rfl Try.underlying131 Try.underlying3 rfl h10) rfl trivial rfl rfl ?_
      refine op0 (sp_rem rfl rfl rfl (by decide)) rfl trivial rfl rfl ?_
      refine op0 (sp_assign rfl rfl) rfl trivial rfl rfl ?_
      refine TL.nil ?_
      refine TC.seq ?_
      refine TC.region ?_
      refine op0 (sp_move rfl rfl) rfl trivial rfl rfl ?_
      refine op0 (sp_move rfl rfl) rfl trivial rfl rfl ?_
      obtain ⟨r12, h11, h⟩ := bind_inv h
      refine op1 1 rfl (sp_call (avs := [.ref 3, .val (.int .i64 (Int.tmod at_3 1000000))]) (need := [.row 3 35 3 (List.map en_api_BookEntry l8)]) (v := .tup [.val (.int .i64 r12.1), .val (.bool r12.2.1), .val (.int .i64 r12.2.2)]) (news := []) rfl rfl rfl Try.call23 (atJ [(0, 3)] [] (fc_book_Hands h11) rfl rfl) (.inr (fun x hx => nomatch hx))) rfl trivial rfl rfl ?_
      refine op0 (sp_move rfl rfl) rfl trivial rfl rfl ?_
      refine op0 (sp_extract rfl rfl rfl) rfl trivial rfl rfl ?_
      refine op0 (sp_extract rfl rfl rfl) rfl trivial rfl rfl ?_
      refine op0 (sp_extract rfl rfl rfl) rfl trivial rfl rfl ?_
      refine op0 (sp_assign rfl rfl) rfl trivial rfl rfl ?_
      refine op0 (sp_assign rfl rfl) rfl trivial rfl rfl ?_
      refine op0 (sp_assign rfl rfl) rfl trivial rfl rfl ?_
      refine TL.nil ?_
      refine TC.seq ?_
      refine TC.region ?_
      refine op1 0 rfl (sp_loadBA rfl isBlk rfl vt153 rfl rfl) rfl trivial rfl rfl ?_
      refine op0 (sp_move rfl rfl) rfl trivial rfl rfl ?_
      obtain ⟨r13, h12, h⟩ := bind_inv h
      refine op1 2 rfl (sp_call (avs := [.agg [.val (.int .i64 i7), .ref 1], .val (.int .i64 (Int.tmod at_3 1000000))]) (need := [.row 1 156 2 (List.map en_api_ZoneChange l9)]) (v := .tup [.val (.int .i64 r13.1), .val (.int .i64 r13.2.1), .val (.int .i64 r13.2.2)]) (news := []) rfl rfl rfl Try.call55 (atJ [(0, 1)] [] (fc_zone_Says h12) rfl rfl) (.inr (fun x hx => nomatch hx))) rfl trivial rfl rfl ?_
      refine op0 (sp_move rfl rfl) rfl trivial rfl rfl ?_
      refine op0 (sp_extract rfl rfl rfl) rfl trivial rfl rfl ?_
      refine op0 (sp_extract rfl rfl rfl) rfl trivial rfl rfl ?_
      refine op0 (sp_extract rfl rfl rfl) rfl trivial rfl rfl ?_
      refine op0 (sp_assign rfl rfl) rfl trivial rfl rfl ?_
      refine op0 (sp_assign rfl rfl) rfl trivial rfl rfl ?_
      refine op0 (sp_assign rfl rfl) rfl trivial rfl rfl ?_
      refine TL.nil ?_
      refine TC.seq ?_
      refine TC.region ?_
      refine op0 (sp_move rfl rfl) rfl trivial rfl rfl ?_
      refine op0 (sp_eql rfl rfl rfl) rfl trivial rfl rfl ?_
      refine op0 (sp_move rfl rfl) rfl trivial rfl rfl ?_
      rcases cond_cases h with ⟨h13, h⟩ | ⟨h13, h⟩
      · refine (boolLit 69 rfl h13).2 ?_
        refine op0 (sp_move rfl rfl) rfl ⟨_, rfl, rfl⟩ rfl rfl ?_
        refine op0 (sp_eql rfl rfl rfl) rfl ⟨_, rfl, rfl⟩ rfl rfl ?_
        refine op0 (sp_pickT rfl rfl rfl) rfl trivial rfl rfl ?_
        refine op0 (sp_move rfl rfl) rfl trivial rfl rfl ?_
        rcases cond_cases h with ⟨h14, h⟩ | ⟨h14, h⟩
        · refine (boolLit 73 rfl h14).2 ?_
          refine op0 (sp_move rfl rfl) rfl ⟨_, rfl, rfl⟩ rfl rfl ?_
          refine op0 (sp_pickT rfl rfl rfl) rfl trivial rfl rfl ?_
          refine op0 (sp_move rfl rfl) rfl trivial rfl rfl ?_
          rcases cond_cases h with ⟨h15, h⟩ | ⟨h15, h⟩
          · refine (boolLit 76 rfl h15).2 ?_
            refine op0 (sp_move rfl rfl) rfl ⟨_, rfl, rfl⟩ rfl rfl ?_
            refine op0 (sp_move rfl rfl) rfl ⟨_, rfl, rfl⟩ rfl rfl ?_
            refine op0 (sp_rem rfl rfl rfl (by decide)) rfl ⟨_, rfl, rfl⟩ rfl rfl ?_
            obtain ⟨h16, h⟩ := chk_inv h
            refine op0 (sp_mul rfl rfl rfl h16) rfl ⟨_, rfl, rfl⟩ rfl rfl ?_
            refine op0 (sp_eql rfl rfl rfl) rfl ⟨_, rfl, rfl⟩ rfl rfl ?_
            refine op0 (sp_pickT rfl rfl rfl) rfl trivial rfl rfl ?_
            refine op0 (sp_move rfl rfl) rfl trivial rfl rfl ?_
            rcases cond_cases h with ⟨h17, h⟩ | ⟨h17, h⟩
            · refine (boolLit 83 rfl h17).2 ?_
              obtain ⟨r14, h18, h⟩ := bind_inv h
              refine op0 (sp_call (avs := []) (need := []) (v := .val (.bool r14)) (news := []) rfl rfl rfl Try.call56 (atJ [] [] (fc_top_pubTowns h18) rfl rfl) (.inl (roAll rfl))) rfl ⟨_, rfl, rfl⟩ rfl rfl ?_
              refine op0 (sp_pickT rfl rfl rfl) rfl trivial rfl rfl ?_
              refine op0 (sp_move rfl rfl) rfl trivial rfl rfl ?_
              rcases cond_cases h with ⟨h19, h⟩ | ⟨h19, h⟩
              · refine (boolLit 86 rfl h19).2 ?_
                obtain ⟨r15, h20, h⟩ := bind_inv h
                refine op0 (sp_call (avs := []) (need := []) (v := .val (.bool r15)) (news := []) rfl rfl rfl Try.call18 (atJ [] [] (fc_top_pubBook h20) rfl rfl) (.inl (roAll rfl))) rfl ⟨_, rfl, rfl⟩ rfl rfl ?_
                refine op0 (sp_pickT rfl rfl rfl) rfl trivial rfl rfl ?_
                refine op0 (sp_assign rfl rfl) rfl trivial rfl rfl ?_
                refine TL.nil ?_
                cases h
                exact retJ [] (.tmp rfl .nil) rfl trivial rfl rfl
              · refine (boolLit 86 rfl h19).2 ?_
                refine opSkip rfl ⟨_, rfl, .inl rfl⟩ rfl ?_
                refine op0 (sp_pickF rfl rfl rfl) rfl trivial rfl rfl ?_
                refine op0 (sp_assign rfl rfl) rfl trivial rfl rfl ?_
                refine TL.nil ?_
                cases h
                exact retJ [] (.tmp rfl .nil) rfl trivial rfl rfl
            · refine (boolLit 83 rfl h17).2 ?_
              refine opSkip rfl ⟨_, rfl, .inl rfl⟩ rfl ?_
              refine op0 (sp_pickF rfl rfl rfl) rfl trivial rfl rfl ?_
              refine op0 (sp_move rfl rfl) rfl trivial rfl rfl ?_
              refine opSkip rfl ⟨_, rfl, .inl rfl⟩ rfl ?_
              refine op0 (sp_pickF rfl rfl rfl) rfl trivial rfl rfl ?_
              refine op0 (sp_assign rfl rfl) rfl trivial rfl rfl ?_
              refine TL.nil ?_
              cases h
              exact retJ [] (.tmp rfl .nil) rfl trivial rfl rfl
          · refine (boolLit 76 rfl h15).2 ?_
            refine opSkip rfl ⟨_, rfl, .inl rfl⟩ rfl ?_
            refine opSkip rfl ⟨_, rfl, .inl rfl⟩ rfl ?_
            refine opSkip rfl ⟨_, rfl, .inl rfl⟩ rfl ?_
            refine opSkip rfl ⟨_, rfl, .inl rfl⟩ rfl ?_
            refine opSkip rfl ⟨_, rfl, .inl rfl⟩ rfl ?_
            refine op0 (sp_pickF rfl rfl rfl) rfl trivial rfl rfl ?_
            refine op0 (sp_move rfl rfl) rfl trivial rfl rfl ?_
            refine opSkip rfl ⟨_, rfl, .inl rfl⟩ rfl ?_
            refine op0 (sp_pickF rfl rfl rfl) rfl trivial rfl rfl ?_
            refine op0 (sp_move rfl rfl) rfl trivial rfl rfl ?_
            refine opSkip rfl ⟨_, rfl, .inl rfl⟩ rfl ?_
            refine op0 (sp_pickF rfl rfl rfl) rfl trivial rfl rfl ?_
            refine op0 (sp_assign rfl rfl) rfl trivial rfl rfl ?_
            refine TL.nil ?_
            cases h
            exact retJ [] (.tmp rfl .nil) rfl trivial rfl rfl
        · refine (boolLit 73 rfl h14).2 ?_
          refine opSkip rfl ⟨_, rfl, .inl rfl⟩ rfl ?_
          refine op0 (sp_pickF rfl rfl rfl) rfl trivial rfl rfl ?_
          refine op0 (sp_move rfl rfl) rfl trivial rfl rfl ?_
          refine opSkip rfl ⟨_, rfl, .inl rfl⟩ rfl ?_
          refine opSkip rfl ⟨_, rfl, .inl rfl⟩ rfl ?_
          refine opSkip rfl ⟨_, rfl, .inl rfl⟩ rfl ?_
          refine opSkip rfl ⟨_, rfl, .inl rfl⟩ rfl ?_
          refine opSkip rfl ⟨_, rfl, .inl rfl⟩ rfl ?_
          refine op0 (sp_pickF rfl rfl rfl) rfl trivial rfl rfl ?_
          refine op0 (sp_move rfl rfl) rfl trivial rfl rfl ?_
          refine opSkip rfl ⟨_, rfl, .inl rfl⟩ rfl ?_
          refine op0 (sp_pickF rfl rfl rfl) rfl trivial rfl rfl ?_
          refine op0 (sp_move rfl rfl) rfl trivial rfl rfl ?_
          refine opSkip rfl ⟨_, rfl, .inl rfl⟩ rfl ?_
          refine op0 (sp_pickF rfl rfl rfl) rfl trivial rfl rfl ?_
          refine op0 (sp_assign rfl rfl) rfl trivial rfl rfl ?_
          refine TL.nil ?_
          cases h
          exact retJ [] (.tmp rfl .nil) rfl trivial rfl rfl
      · refine (boolLit 69 rfl h13).2 ?_
        refine opSkip rfl ⟨_, rfl, .inl rfl⟩ rfl ?_
        refine opSkip rfl ⟨_, rfl, .inl rfl⟩ rfl ?_
        refine op0 (sp_pickF rfl rfl rfl) rfl trivial rfl rfl ?_
        refine op0 (sp_move rfl rfl) rfl trivial rfl rfl ?_
        refine opSkip rfl ⟨_, rfl, .inl rfl⟩ rfl ?_
        refine op0 (sp_pickF rfl rfl rfl) rfl trivial rfl rfl ?_
        refine op0 (sp_move rfl rfl) rfl trivial rfl rfl ?_
        refine opSkip rfl ⟨_, rfl, .inl rfl⟩ rfl ?_
        refine opSkip rfl ⟨_, rfl, .inl rfl⟩ rfl ?_
        refine opSkip rfl ⟨_, rfl, .inl rfl⟩ rfl ?_
        refine opSkip rfl ⟨_, rfl, .inl rfl⟩ rfl ?_
        refine opSkip rfl ⟨_, rfl, .inl rfl⟩ rfl ?_
        refine op0 (sp_pickF rfl rfl rfl) rfl trivial rfl rfl ?_
        refine op0 (sp_move rfl rfl) rfl trivial rfl rfl ?_
        refine opSkip rfl ⟨_, rfl, .inl rfl⟩ rfl ?_
        refine op0 (sp_pickF rfl rfl rfl) rfl trivial rfl rfl ?_
        refine op0 (sp_move rfl rfl) rfl trivial rfl rfl ?_
        refine opSkip rfl ⟨_, rfl, .inl rfl⟩ rfl ?_
        refine op0 (sp_pickF rfl rfl rfl) rfl trivial rfl rfl ?_
        refine op0 (sp_assign rfl rfl) rfl trivial rfl rfl ?_
        refine TL.nil ?_
        cases h
        exact retJ [] (.tmp rfl .nil) rfl trivial rfl rfl
def ev_top_TopZoneBook (n : Nat) (offset1 : Int) (by_2 : List (Int × Int)) (at_3 : Int) : Option Bool :=
  (ev_top_pubZone n offset1 by_2).bind fun r4 => (ev_top_pubRest n r4.1 43200).bind fun r5 => ev_top_TopZoneBook_l0 n at_3 n 0 r4.1 ([(0, 1, r5)] : List (Int × Int × Int)) r4.2
set_option maxRecDepth 100000 in
set_option maxHeartbeats 2000000 in
theorem fc_top_TopZoneBook {n : Nat} {offset1 : Int} {by_2 : List (Int × Int)} {at_3 : Int} {r : Bool} (h : ev_top_TopZoneBook n offset1 by_2 at_3 = some r) : FC Try.prog 12 [.val (.int .i16 offset1), .ref 0, .val (.int .u32 at_3)] [.ro 0 2 (List.map en_2_uint16 by_2)] (.val (.bool r)) [] := by
  refine introJ (nz := 89) Try.func12 rfl rfl rfl (fun w0 R0 env0 => ?_)
  rw [ev_top_TopZoneBook] at h
  refine TC.seq ?_
  refine TC.region ?_
  refine op0 (sp_assign rfl rfl) rfl trivial rfl rfl ?_
  refine TL.nil ?_
  refine TC.seq ?_
  refine TC.region ?_
  refine op0 (sp_move rfl rfl) rfl trivial rfl rfl ?_
  refine op0 (sp_move rfl rfl) rfl trivial rfl rfl ?_
  obtain ⟨r4, h1, h⟩ := bind_inv h
  refine op1 0 rfl (sp_call (avs := [.val (.int .i16 offset1), .ref 0]) (need := [.ro 0 2 (List.map en_2_uint16 by_2)]) (v := .agg [.val (.int .i64 r4.1), .ref 1]) (news := [.row 1 156 2 (List.map en_api_ZoneChange r4.2)]) rfl rfl rfl Try.call54 (atJ [] [(0, 1)] (fc_top_pubZone h1) rfl rfl) (.inl (roAll rfl))) rfl trivial rfl rfl ?_
  refine op0 (sp_alloc 2 rfl Try.zeroValue153 rfl) rfl trivial rfl rfl ?_
  refine stoB 0 (cells' := [.val (.int .i64 r4.1), .ref 1]) rfl rfl trivial rfl rfl rfl rfl vt153 rfl rfl rfl ?_
  refine TL.nil ?_
  refine TC.seq ?_
  refine TC.region ?_
  refine op1 0 rfl (sp_fieldAddrB rfl isBlk rfl ft153_0 vt3 (by decide)) rfl trivial rfl rfl ?_
  refine op1 0 rfl (sp_loadB rfl isBlk rfl vt3 rfl) rfl trivial rfl rfl ?_
  obtain ⟨r5, h2, h⟩ := bind_inv h
  refine op0 (sp_call (avs := [.val (.int .i64 r4.1), .val (.int .i64 43200)]) (need := []) (v := .val (.int .i64 r5)) (news := []) rfl rfl rfl Try.call35 (atJ [] [] (fc_top_pubRest h2) rfl rfl) (.inl (roAll rfl))) rfl trivial rfl rfl ?_
  refine op0 (sp_build (qs := [(2, .val (.int .i64 r5)), (1, .val (.int .i64 1))]) rfl bt35 rfl rfl rfl rfl) rfl trivial rfl rfl ?_
  refine op0 (sp_buildSlice (qs := [.agg [.val (.int .i64 0), .val (.int .i64 1), .val (.int .i64 r5)]]) (need := []) (els := List.map en_api_BookEntry ([(0, 1, r5)] : List (Int × Int × Int))) 3 rfl sl36 (by decide) (by decide) rfl rfl rfl (.v (.v (.v (.nil)))) (map_len fun _ => rfl) rfl rfl rfl) rfl trivial rfl rfl ?_
  refine op0 (sp_assign rfl rfl) rfl trivial rfl rfl ?_
  refine TL.nil ?_
  refine TC.seq ?_
  refine TC.seq ?_
  refine TC.region ?_
  refine op0 (sp_assign rfl rfl) rfl trivial rfl rfl ?_
  refine TL.nil ?_
  refine TC.block ?_
  refine TC.loop ?_
  refine TC.seq ?_
  refine TC.seq ?_
  refine subJ [] (ok_top_TopZoneBook_l0 _ _ _ _ _ h) ?_ ?_ ?_
  · exact ⟨rfl, rfl, rfl, rfl, trivial⟩
  · exact ⟨mem_at 1 rfl, mem_at 0 rfl, mem_at 2 rfl, trivial⟩
  · rfl
end
end Go.Proofs.Ytmgcinejodpopaa.Sy
