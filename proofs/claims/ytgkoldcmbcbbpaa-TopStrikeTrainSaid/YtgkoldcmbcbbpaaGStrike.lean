/- What functions of the program compute, and that they do: printed by symgen.py. -/
import Derived.Test.YtgkoldcmbcbbpaaGLib
import Derived.Test.YtgkoldcmbcbbpaaGStrikeA
set_option linter.unusedSimpArgs false
set_option linter.unusedVariables false
namespace Go.Proofs.Ytgkoldcmbcbbpaa.Sy
open Go.RowKit
noncomputable section

/- strike_checkHeard -/
def ev_strike_checkHeard_l0 (n : Nat) (l1 : List (Int × Int)) : Nat → Int → (List (Int × Int)) → Option Int
  | 0, _, _ => none
  | m + 1, i2, l3 => cond (decide (i2 < (l1.length : Int))) (idx l3 i2 fun x4 => (ev_strike_isSlot n x4.1).bind fun r5 => cond (!r5) (some 2) ((ev_strike_within n 0 12 ([x4.2] : List Int)).bind fun r6 => cond (!r6) (some 2) (cond (decide ((0 : Int) < i2)) (chk (in64 (i2 - 1)) <| idx l3 (i2 - 1) fun x7 => cond (decide (x4.1 ≤ x7.1)) (some 2) (chk (in64 (i2 + 1)) <| ev_strike_checkHeard_l0 n l1 m (i2 + 1) l3)) (chk (in64 (i2 + 1)) <| ev_strike_checkHeard_l0 n l1 m (i2 + 1) l3)))) (chk (in64 ((l3.length : Int) - 1)) <| idx l3 ((l3.length : Int) - 1) fun x8 => idx l3 0 fun x9 => chk (in64 (x8.1 - x9.1)) <| cond (decide ((2000 : Int) ≤ (x8.1 - x9.1))) (some 5) (some 0))
set_option maxRecDepth 100000 in
set_option maxHeartbeats 2000000 in
theorem ok_strike_checkHeard_l0 {n : Nat} {w0 : World} {R0 : Nat → Prop} {env0 : Env} {r : Int} {l1 : List (Int × Int)} : ∀ (m : Nat) (i2 : Int) (l3 : List (Int × Int)), ev_strike_checkHeard_l0 n l1 m i2 l3 = some r → TC Try.prog ⟨w0, fun _ => False, R0⟩ 60 (bodyPost Try.prog Try.f118 (Post ⟨w0, fun _ => False, R0⟩ env0 (.val (.int .i64 r)) [])) [.code (sub (bodyOf Try.f118) [1, 1, 0, 1, 0, 0, 0]), .code (sub (bodyOf Try.f118) [1, 1, 0, 1, 0, 0, 1]), .inLoop (sub (bodyOf Try.f118) [1, 1, 0, 1, 0, 0]), .inBlock 1, .code (sub (bodyOf Try.f118) [1, 1, 1])] ([(0, .ref 0), (13, .ref 0), (14, .val (.int .i64 (l1.length : Int))), (15, .val (.int .i64 i2))]) ([.ro 0 2 (List.map en_api_StrikeHeard l3)]) := by
  intro m
  induction m with
  | zero => intro i2 l3 h; exact none_no h
  | succ m ih =>
    intro i2 l3 h
    rw [ev_strike_checkHeard_l0] at h
    refine TC.region ?_
    refine op0 (sp_lss rfl rfl rfl) rfl trivial rfl rfl ?_
    refine TL.nil ?_
    refine TC.seq ?_
    refine TC.cond (b := (decide (i2 < (l1.length : Int)))) rfl (fun h3 => ?_) (fun h3 => ?_)
    · have h := cond_t h h3
      refine TC.skip ?_
      refine TC.seq ?_
      refine TC.block ?_
      refine TC.seq ?_
      refine TC.region ?_
      refine op0 (sp_move rfl rfl) rfl trivial rfl rfl ?_
      obtain ⟨x4, h4, h5, h⟩ := idx_inv h
      refine op1 0 rfl (sp_indexS rfl rfl rfl isRo sl152 h4 (map_get _ h5)) rfl trivial rfl rfl ?_
      refine op1 0 rfl (sp_loadRA (i := (i2 : Int).toNat) (j := 0) (as_ := [.val (.int .i64 x4.1), .val (.int .i64 x4.2)]) (ns := []) rfl rfl isRo vt157 rfl (map_get _ h5) rfl rfl (by decide) (.v (.v (.nil))) (nodup_of_B rfl)) rfl trivial rfl rfl ?_
      refine op0 (sp_alloc 1 rfl Try.zeroValue157 rfl) rfl trivial rfl rfl ?_
      refine op0 (sp_assign rfl rfl) rfl trivial rfl rfl ?_
      refine stoB 0 (cells' := [.val (.int .i64 x4.1), .val (.int .i64 x4.2)]) rfl rfl trivial rfl rfl rfl rfl vt157 rfl rfl rfl ?_
      refine TL.nil ?_
      refine TC.seq ?_
      obtain ⟨r5, h6, h⟩ := bind_inv h
      rcases cond_cases h with ⟨h7, h⟩ | ⟨h7, h⟩
      · refine drawJ 23 [⟨.ptr 1 0, [], [.blk 1 [.val (.int .i64 x4.1), .val (.int .i64 x4.2)] 157], []⟩, ⟨.val (.int .i64 x4.1), [], [.blk 1 [.val (.int .i64 x4.1), .val (.int .i64 x4.2)] 157], []⟩, ⟨.val (.bool r5), [], [], []⟩, ⟨.val (.bool (!r5)), [], [], []⟩, ⟨.val (.bool true), [], [], []⟩, ⟨.val (undef), [], [], []⟩, ⟨.val (undef), [], [], []⟩, ⟨.val (undef), [], [], []⟩, ⟨.val (undef), [], [], []⟩, ⟨.val (undef), [], [], []⟩, ⟨.val (.bool true), [], [], []⟩, ⟨.val (.bool true), [], [], []⟩, ⟨.val (undef), [], [], []⟩, ⟨.val (undef), [], [], []⟩, ⟨.val (undef), [], [], []⟩, ⟨.val (undef), [], [], []⟩, ⟨.val (undef), [], [], []⟩, ⟨.val (undef), [], [], []⟩, ⟨.val (undef), [], [], []⟩, ⟨.val (undef), [], [], []⟩, ⟨.val (undef), [], [], []⟩, ⟨.val (undef), [], [], []⟩, ⟨.val (undef), [], [], []⟩] rfl ?_ rfl ?_ rfl ?_ ?_
        · kernel_rfl
        · kernel_rfl
        · exact DAll.op' (sp_fieldAddrB rfl isBlk rfl ft157_0 vt3 (by decide)) trivial rfl (From.ok (ps := [(none, 0)]) ⟨⟨rfl, rfl⟩, trivial⟩) (DAll.op' (sp_loadB rfl isBlk rfl vt3 rfl) trivial rfl (From.ok (ps := [(none, 0)]) ⟨⟨rfl, rfl⟩, trivial⟩) (DAll.op' (sp_call (avs := [.val (.int .i64 x4.1)]) (need := []) (v := .val (.bool r5)) (news := []) rfl rfl rfl Try.call145 (atJ [] [] (fc_strike_isSlot h6) rfl rfl) (.inl (roAll rfl))) trivial rfl (From.ok (ps := []) trivial) (DAll.op' (sp_not rfl rfl) trivial rfl (From.ok (ps := []) trivial) (DAll.op' (sp_castB h7 (sp_move rfl rfl)) trivial rfl (From.ok (ps := []) trivial) (.skip ⟨_, rfl, .inl rfl⟩ rfl rfl rfl (.skip ⟨_, rfl, .inl rfl⟩ rfl rfl rfl (.skip ⟨_, rfl, .inl rfl⟩ rfl rfl rfl (.skip ⟨_, rfl, .inl rfl⟩ rfl rfl rfl (.skip ⟨_, rfl, .inl rfl⟩ rfl rfl rfl (DAll.op' (sp_pickT rfl rfl rfl) trivial rfl (From.ok (ps := []) trivial) (DAll.op' (sp_move rfl rfl) trivial rfl (From.ok (ps := []) trivial) (.skip ⟨_, rfl, .inl rfl⟩ rfl rfl rfl (.skip ⟨_, rfl, .inl rfl⟩ rfl rfl rfl (.skip ⟨_, rfl, .inl rfl⟩ rfl rfl rfl (.skip ⟨_, rfl, .inr rfl⟩ rfl rfl rfl (.skip ⟨_, rfl, .inr rfl⟩ rfl rfl rfl (.skip ⟨_, rfl, .inr rfl⟩ rfl rfl rfl (.skip ⟨_, rfl, .inr rfl⟩ rfl rfl rfl (.skip ⟨_, rfl, .inr rfl⟩ rfl rfl rfl (.skip ⟨_, rfl, .inr rfl⟩ rfl rfl rfl (.skip ⟨_, rfl, .inr rfl⟩ rfl rfl rfl (.skip ⟨_, rfl, .inr rfl⟩ rfl rfl rfl (.nil)))))))))))))))))))))))
        refine opSkip rfl ⟨_, rfl, .inr rfl⟩ rfl ?_
        refine opSkip rfl ⟨_, rfl, .inl rfl⟩ rfl ?_
        refine op0 (sp_pickT rfl rfl rfl) rfl trivial rfl rfl ?_
        refine TL.nil ?_
        refine TC.condT rfl ?_
        refine TC.seq ?_
        refine TC.region ?_
        refine op0 (sp_assign rfl rfl) rfl trivial rfl rfl ?_
        refine TL.nil ?_
        cases h
        exact retJ [] (.tmp rfl .nil) rfl trivial rfl rfl
      · obtain ⟨r6, h8, h⟩ := bind_inv h
        rcases cond_cases h with ⟨h9, h⟩ | ⟨h9, h⟩
        · refine drawJ 23 [⟨.ptr 1 0, [], [.blk 1 [.val (.int .i64 x4.1), .val (.int .i64 x4.2)] 157], []⟩, ⟨.val (.int .i64 x4.1), [], [.blk 1 [.val (.int .i64 x4.1), .val (.int .i64 x4.2)] 157], []⟩, ⟨.val (.bool r5), [], [], []⟩, ⟨.val (.bool (!r5)), [], [], []⟩, ⟨.val (.bool false), [], [], []⟩, ⟨.ptr 1 1, [], [.blk 1 [.val (.int .i64 x4.1), .val (.int .i64 x4.2)] 157], []⟩, ⟨.val (.int .i64 x4.2), [], [.blk 1 [.val (.int .i64 x4.1), .val (.int .i64 x4.2)] 157], []⟩, ⟨.ref 2, [.row 2 3 1 (List.map en_int ([x4.2] : List Int))], [], []⟩, ⟨.val (.bool r6), [], [.row 2 3 1 (List.map en_int ([x4.2] : List Int))], []⟩, ⟨.val (.bool (!r6)), [], [], []⟩, ⟨.val (.bool (!r6)), [], [], []⟩, ⟨.val (.bool true), [], [], []⟩, ⟨.val (undef), [], [], []⟩, ⟨.val (undef), [], [], []⟩, ⟨.val (undef), [], [], []⟩, ⟨.val (undef), [], [], []⟩, ⟨.val (undef), [], [], []⟩, ⟨.val (undef), [], [], []⟩, ⟨.val (undef), [], [], []⟩, ⟨.val (undef), [], [], []⟩, ⟨.val (undef), [], [], []⟩, ⟨.val (undef), [], [], []⟩, ⟨.val (undef), [], [], []⟩] rfl ?_ rfl ?_ rfl ?_ ?_
          · kernel_rfl
          · kernel_rfl
          · exact DAll.op' (sp_fieldAddrB rfl isBlk rfl ft157_0 vt3 (by decide)) trivial rfl (From.ok (ps := [(none, 0)]) ⟨⟨rfl, rfl⟩, trivial⟩) (DAll.op' (sp_loadB rfl isBlk rfl vt3 rfl) trivial rfl (From.ok (ps := [(none, 0)]) ⟨⟨rfl, rfl⟩, trivial⟩) (DAll.op' (sp_call (avs := [.val (.int .i64 x4.1)]) (need := []) (v := .val (.bool r5)) (news := []) rfl rfl rfl Try.call145 (atJ [] [] (fc_strike_isSlot h6) rfl rfl) (.inl (roAll rfl))) trivial rfl (From.ok (ps := []) trivial) (DAll.op' (sp_not rfl rfl) trivial rfl (From.ok (ps := []) trivial) (DAll.op' (sp_castB h7 (sp_move rfl rfl)) trivial rfl (From.ok (ps := []) trivial) (DAll.op' (sp_fieldAddrB rfl isBlk rfl ft157_1 vt3 (by decide)) ⟨_, rfl, rfl⟩ rfl (From.ok (ps := [(none, 0)]) ⟨⟨rfl, rfl⟩, trivial⟩) (DAll.op' (sp_loadB rfl isBlk rfl vt3 rfl) ⟨_, rfl, rfl⟩ rfl (From.ok (ps := [(none, 0)]) ⟨⟨rfl, rfl⟩, trivial⟩) (DAll.op' (sp_buildSlice (qs := [.val (.int .i64 x4.2)]) (need := []) (els := List.map en_int ([x4.2] : List Int)) 2 rfl sl50 (by decide) (by decide) rfl rfl rfl (.v (.nil)) (map_len fun _ => rfl) rfl rfl rfl) ⟨_, rfl, rfl⟩ rfl (From.ok (ps := []) trivial) (DAll.op' (sp_call (avs := [.val (.int .i64 0), .val (.int .i64 12), .ref 2]) (need := [.row 2 3 1 (List.map en_int ([x4.2] : List Int))]) (v := .val (.bool r6)) (news := []) rfl rfl rfl Try.call135 (atJ [(0, 2)] [] (fc_strike_within h8) rfl rfl) (.inr (fun x hx => nomatch hx))) ⟨_, rfl, rfl⟩ rfl (From.ok (ps := [(some 7, 0)]) ⟨⟨_, rfl, rfl, rfl, rfl⟩, trivial⟩) (DAll.op' (sp_not rfl rfl) ⟨_, rfl, rfl⟩ rfl (From.ok (ps := []) trivial) (DAll.op' (sp_pickF rfl rfl rfl) trivial rfl (From.ok (ps := []) trivial) (DAll.op' (sp_castB h9 (sp_move rfl rfl)) trivial rfl (From.ok (ps := []) trivial) (.skip ⟨_, rfl, .inl rfl⟩ rfl rfl rfl (.skip ⟨_, rfl, .inl rfl⟩ rfl rfl rfl (.skip ⟨_, rfl, .inl rfl⟩ rfl rfl rfl (.skip ⟨_, rfl, .inr rfl⟩ rfl rfl rfl (.skip ⟨_, rfl, .inr rfl⟩ rfl rfl rfl (.skip ⟨_, rfl, .inr rfl⟩ rfl rfl rfl (.skip ⟨_, rfl, .inr rfl⟩ rfl rfl rfl (.skip ⟨_, rfl, .inr rfl⟩ rfl rfl rfl (.skip ⟨_, rfl, .inr rfl⟩ rfl rfl rfl (.skip ⟨_, rfl, .inr rfl⟩ rfl rfl rfl (.skip ⟨_, rfl, .inr rfl⟩ rfl rfl rfl (.nil)))))))))))))))))))))))
          refine opSkip rfl ⟨_, rfl, .inr rfl⟩ rfl ?_
          refine opSkip rfl ⟨_, rfl, .inl rfl⟩ rfl ?_
          refine op0 (sp_pickT rfl rfl rfl) rfl trivial rfl rfl ?_
          refine TL.nil ?_
          refine TC.condT rfl ?_
          refine TC.seq ?_
          refine TC.region ?_
          refine op0 (sp_assign rfl rfl) rfl trivial rfl rfl ?_
          refine TL.nil ?_
          cases h
          exact retJ [] (.tmp rfl .nil) rfl trivial rfl rfl
        · rcases cond_cases h with ⟨h10, h⟩ | ⟨h10, h⟩
          · obtain ⟨h11, h⟩ := chk_inv h
            obtain ⟨x7, h12, h13, h⟩ := idx_inv h
            refine drawJ 23 [⟨.ptr 1 0, [], [.blk 1 [.val (.int .i64 x4.1), .val (.int .i64 x4.2)] 157], []⟩, ⟨.val (.int .i64 x4.1), [], [.blk 1 [.val (.int .i64 x4.1), .val (.int .i64 x4.2)] 157], []⟩, ⟨.val (.bool r5), [], [], []⟩, ⟨.val (.bool (!r5)), [], [], []⟩, ⟨.val (.bool false), [], [], []⟩, ⟨.ptr 1 1, [], [.blk 1 [.val (.int .i64 x4.1), .val (.int .i64 x4.2)] 157], []⟩, ⟨.val (.int .i64 x4.2), [], [.blk 1 [.val (.int .i64 x4.1), .val (.int .i64 x4.2)] 157], []⟩, ⟨.ref 2, [.row 2 3 1 (List.map en_int ([x4.2] : List Int))], [], []⟩, ⟨.val (.bool r6), [], [.row 2 3 1 (List.map en_int ([x4.2] : List Int))], []⟩, ⟨.val (.bool (!r6)), [], [], []⟩, ⟨.val (.bool (!r6)), [], [], []⟩, ⟨.val (.bool false), [], [], []⟩, ⟨.val (.int .i64 i2), [], [], []⟩, ⟨.val (.bool (decide ((0 : Int) < i2))), [], [], []⟩, ⟨.val (.bool true), [], [], []⟩, ⟨.ptr 1 0, [], [.blk 1 [.val (.int .i64 x4.1), .val (.int .i64 x4.2)] 157], []⟩, ⟨.val (.int .i64 x4.1), [], [.blk 1 [.val (.int .i64 x4.1), .val (.int .i64 x4.2)] 157], []⟩, ⟨.ref 0, [], [], []⟩, ⟨.val (.int .i64 i2), [], [], []⟩, ⟨.val (.int .i64 (i2 - 1)), [], [], []⟩, ⟨.cell 0 (((i2 - 1) : Int).toNat * 2), [], [.ro 0 2 (List.map en_api_StrikeHeard l3)], []⟩, ⟨.cell 0 (((i2 - 1) : Int).toNat * 2 + 0), [], [.ro 0 2 (List.map en_api_StrikeHeard l3)], []⟩, ⟨.val (.int .i64 x7.1), [], [.ro 0 2 (List.map en_api_StrikeHeard l3)], []⟩] rfl ?_ rfl ?_ rfl ?_ ?_
            · kernel_rfl
            · kernel_rfl
            · exact DAll.op' (sp_fieldAddrB rfl isBlk rfl ft157_0 vt3 (by decide)) trivial rfl (From.ok (ps := [(none, 0)]) ⟨⟨rfl, rfl⟩, trivial⟩) (DAll.op' (sp_loadB rfl isBlk rfl vt3 rfl) trivial rfl (From.ok (ps := [(none, 0)]) ⟨⟨rfl, rfl⟩, trivial⟩) (DAll.op' (sp_call (avs := [.val (.int .i64 x4.1)]) (need := []) (v := .val (.bool r5)) (news := []) rfl rfl rfl Try.call145 (atJ [] [] (fc_strike_isSlot h6) rfl rfl) (.inl (roAll rfl))) trivial rfl (From.ok (ps := []) trivial) (DAll.op' (sp_not rfl rfl) trivial rfl (From.ok (ps := []) trivial) (DAll.op' (sp_castB h7 (sp_move rfl rfl)) trivial rfl (From.ok (ps := []) trivial) (DAll.op' (sp_fieldAddrB rfl isBlk rfl ft157_1 vt3 (by decide)) ⟨_, rfl, rfl⟩ rfl (From.ok (ps := [(none, 0)]) ⟨⟨rfl, rfl⟩, trivial⟩) (DAll.op' (sp_loadB rfl isBlk rfl vt3 rfl) ⟨_, rfl, rfl⟩ rfl (From.ok (ps := [(none, 0)]) ⟨⟨rfl, rfl⟩, trivial⟩) (DAll.op' (sp_buildSlice (qs := [.val (.int .i64 x4.2)]) (need := []) (els := List.map en_int ([x4.2] : List Int)) 2 rfl sl50 (by decide) (by decide) rfl rfl rfl (.v (.nil)) (map_len fun _ => rfl) rfl rfl rfl) ⟨_, rfl, rfl⟩ rfl (From.ok (ps := []) trivial) (DAll.op' (sp_call (avs := [.val (.int .i64 0), .val (.int .i64 12), .ref 2]) (need := [.row 2 3 1 (List.map en_int ([x4.2] : List Int))]) (v := .val (.bool r6)) (news := []) rfl rfl rfl Try.call135 (atJ [(0, 2)] [] (fc_strike_within h8) rfl rfl) (.inr (fun x hx => nomatch hx))) ⟨_, rfl, rfl⟩ rfl (From.ok (ps := [(some 7, 0)]) ⟨⟨_, rfl, rfl, rfl, rfl⟩, trivial⟩) (DAll.op' (sp_not rfl rfl) ⟨_, rfl, rfl⟩ rfl (From.ok (ps := []) trivial) (DAll.op' (sp_pickF rfl rfl rfl) trivial rfl (From.ok (ps := []) trivial) (DAll.op' (sp_castB h9 (sp_move rfl rfl)) trivial rfl (From.ok (ps := []) trivial) (DAll.op' (sp_move rfl rfl) ⟨_, rfl, rfl⟩ rfl (From.ok (ps := []) trivial) (DAll.op' (sp_gtr rfl rfl rfl) ⟨_, rfl, rfl⟩ rfl (From.ok (ps := []) trivial) (DAll.op' (sp_castB h10 (sp_move rfl rfl)) ⟨_, rfl, rfl⟩ rfl (From.ok (ps := []) trivial) (DAll.op' (sp_fieldAddrB rfl isBlk rfl ft157_0 vt3 (by decide)) ⟨_, rfl, rfl⟩ rfl (From.ok (ps := [(none, 0)]) ⟨⟨rfl, rfl⟩, trivial⟩) (DAll.op' (sp_loadB rfl isBlk rfl vt3 rfl) ⟨_, rfl, rfl⟩ rfl (From.ok (ps := [(none, 0)]) ⟨⟨rfl, rfl⟩, trivial⟩) (DAll.op' (sp_move rfl rfl) ⟨_, rfl, rfl⟩ rfl (From.ok (ps := []) trivial) (DAll.op' (sp_move rfl rfl) ⟨_, rfl, rfl⟩ rfl (From.ok (ps := []) trivial) (DAll.op' (sp_sub rfl rfl rfl h11) ⟨_, rfl, rfl⟩ rfl (From.ok (ps := []) trivial) (DAll.op' (sp_indexS rfl rfl rfl isRo sl152 h12 (map_get _ h13)) ⟨_, rfl, rfl⟩ rfl (From.ok (ps := [(none, 1)]) ⟨⟨rfl, rfl⟩, trivial⟩) (DAll.op' (sp_fieldAddrR (i := ((i2 - 1) : Int).toNat) rfl rfl isRo ft157_0 vt3 (by decide) (map_get _ h13) (fun h => nomatch h)) ⟨_, rfl, rfl⟩ rfl (From.ok (ps := [(none, 1)]) ⟨⟨rfl, rfl⟩, trivial⟩) (DAll.op' (sp_loadR (i := ((i2 - 1) : Int).toNat) (j := 0) rfl rfl isRo vt3 rfl (map_get _ h13) rfl (.v (.nil)) (nodup_of_B rfl)) ⟨_, rfl, rfl⟩ rfl (From.ok (ps := [(none, 1)]) ⟨⟨rfl, rfl⟩, trivial⟩) (.nil)))))))))))))))))))))))
            refine op0 (sp_leq rfl rfl rfl) rfl ⟨_, rfl, rfl⟩ rfl rfl ?_
            refine op0 (sp_pickT rfl rfl rfl) rfl ⟨_, rfl, rfl⟩ rfl rfl ?_
            refine op0 (sp_pickF rfl rfl rfl) rfl trivial rfl rfl ?_
            refine TL.nil ?_
            refine TC.cond (b := (decide (x4.1 ≤ x7.1))) rfl (fun h14 => ?_) (fun h14 => ?_)
            · have h := cond_t h h14
              refine TC.seq ?_
              refine TC.region ?_
              refine op0 (sp_assign rfl rfl) rfl trivial rfl rfl ?_
              refine TL.nil ?_
              cases h
              exact retJ [] (.tmp rfl .nil) rfl trivial rfl rfl
            · have h := cond_f h h14
              refine TC.skip ?_
              refine TC.inBlock ?_
              refine TC.region ?_
              obtain ⟨h15, h⟩ := chk_inv h
              refine op0 (sp_add rfl rfl rfl h15) rfl trivial rfl rfl ?_
              refine op0 (sp_move rfl rfl) rfl trivial rfl rfl ?_
              refine TL.nil ?_
              refine TC.inLoop ?_
              refine TC.seq ?_
              refine subJ [] (ih _ _ h) ?_ ?_ ?_
              · exact ⟨rfl, rfl, rfl, rfl, trivial⟩
              · exact ⟨mem_at 2 rfl, trivial⟩
              · rfl
          · refine drawJ 23 [⟨.ptr 1 0, [], [.blk 1 [.val (.int .i64 x4.1), .val (.int .i64 x4.2)] 157], []⟩, ⟨.val (.int .i64 x4.1), [], [.blk 1 [.val (.int .i64 x4.1), .val (.int .i64 x4.2)] 157], []⟩, ⟨.val (.bool r5), [], [], []⟩, ⟨.val (.bool (!r5)), [], [], []⟩, ⟨.val (.bool false), [], [], []⟩, ⟨.ptr 1 1, [], [.blk 1 [.val (.int .i64 x4.1), .val (.int .i64 x4.2)] 157], []⟩, ⟨.val (.int .i64 x4.2), [], [.blk 1 [.val (.int .i64 x4.1), .val (.int .i64 x4.2)] 157], []⟩, ⟨.ref 2, [.row 2 3 1 (List.map en_int ([x4.2] : List Int))], [], []⟩, ⟨.val (.bool r6), [], [.row 2 3 1 (List.map en_int ([x4.2] : List Int))], []⟩, ⟨.val (.bool (!r6)), [], [], []⟩, ⟨.val (.bool (!r6)), [], [], []⟩, ⟨.val (.bool false), [], [], []⟩, ⟨.val (.int .i64 i2), [], [], []⟩, ⟨.val (.bool (decide ((0 : Int) < i2))), [], [], []⟩, ⟨.val (.bool false), [], [], []⟩, ⟨.val (undef), [], [], []⟩, ⟨.val (undef), [], [], []⟩, ⟨.val (undef), [], [], []⟩, ⟨.val (undef), [], [], []⟩, ⟨.val (undef), [], [], []⟩, ⟨.val (undef), [], [], []⟩, ⟨.val (undef), [], [], []⟩, ⟨.val (undef), [], [], []⟩] rfl ?_ rfl ?_ rfl ?_ ?_
            · kernel_rfl
            · kernel_rfl
            · exact DAll.op' (sp_fieldAddrB rfl isBlk rfl ft157_0 vt3 (by decide)) trivial rfl (From.ok (ps := [(none, 0)]) ⟨⟨rfl, rfl⟩, trivial⟩) (DAll.op' (sp_loadB rfl isBlk rfl vt3 rfl) trivial rfl (From.ok (ps := [(none, 0)]) ⟨⟨rfl, rfl⟩, trivial⟩) (DAll.op' (sp_call (avs := [.val (.int .i64 x4.1)]) (need := []) (v := .val (.bool r5)) (news := []) rfl rfl rfl Try.call145 (atJ [] [] (fc_strike_isSlot h6) rfl rfl) (.inl (roAll rfl))) trivial rfl (From.ok (ps := []) trivial) (DAll.op' (sp_not rfl rfl) trivial rfl (From.ok (ps := []) trivial) (DAll.op' (sp_castB h7 (sp_move rfl rfl)) trivial rfl (From.ok (ps := []) trivial) (DAll.op' (sp_fieldAddrB rfl isBlk rfl ft157_1 vt3 (by decide)) ⟨_, rfl, rfl⟩ rfl (From.ok (ps := [(none, 0)]) ⟨⟨rfl, rfl⟩, trivial⟩) (DAll.op' (sp_loadB rfl isBlk rfl vt3 rfl) ⟨_, rfl, rfl⟩ rfl (From.ok (ps := [(none, 0)]) ⟨⟨rfl, rfl⟩, trivial⟩) (DAll.op' (sp_buildSlice (qs := [.val (.int .i64 x4.2)]) (need := []) (els := List.map en_int ([x4.2] : List Int)) 2 rfl sl50 (by decide) (by decide) rfl rfl rfl (.v (.nil)) (map_len fun _ => rfl) rfl rfl rfl) ⟨_, rfl, rfl⟩ rfl (From.ok (ps := []) trivial) (DAll.op' (sp_call (avs := [.val (.int .i64 0), .val (.int .i64 12), .ref 2]) (need := [.row 2 3 1 (List.map en_int ([x4.2] : List Int))]) (v := .val (.bool r6)) (news := []) rfl rfl rfl Try.call135 (atJ [(0, 2)] [] (fc_strike_within h8) rfl rfl) (.inr (fun x hx => nomatch hx))) ⟨_, rfl, rfl⟩ rfl (From.ok (ps := [(some 7, 0)]) ⟨⟨_, rfl, rfl, rfl, rfl⟩, trivial⟩) (DAll.op' (sp_not rfl rfl) ⟨_, rfl, rfl⟩ rfl (From.ok (ps := []) trivial) (DAll.op' (sp_pickF rfl rfl rfl) trivial rfl (From.ok (ps := []) trivial) (DAll.op' (sp_castB h9 (sp_move rfl rfl)) trivial rfl (From.ok (ps := []) trivial) (DAll.op' (sp_move rfl rfl) ⟨_, rfl, rfl⟩ rfl (From.ok (ps := []) trivial) (DAll.op' (sp_gtr rfl rfl rfl) ⟨_, rfl, rfl⟩ rfl (From.ok (ps := []) trivial) (DAll.op' (sp_castB h10 (sp_move rfl rfl)) ⟨_, rfl, rfl⟩ rfl (From.ok (ps := []) trivial) (.skip ⟨_, rfl, .inl rfl⟩ rfl rfl rfl (.skip ⟨_, rfl, .inl rfl⟩ rfl rfl rfl (.skip ⟨_, rfl, .inl rfl⟩ rfl rfl rfl (.skip ⟨_, rfl, .inl rfl⟩ rfl rfl rfl (.skip ⟨_, rfl, .inl rfl⟩ rfl rfl rfl (.skip ⟨_, rfl, .inl rfl⟩ rfl rfl rfl (.skip ⟨_, rfl, .inl rfl⟩ rfl rfl rfl (.skip ⟨_, rfl, .inl rfl⟩ rfl rfl rfl (.nil)))))))))))))))))))))))
            refine opSkip rfl ⟨_, rfl, .inl rfl⟩ rfl ?_
            refine op0 (sp_pickF rfl rfl rfl) rfl ⟨_, rfl, rfl⟩ rfl rfl ?_
            refine op0 (sp_pickF rfl rfl rfl) rfl trivial rfl rfl ?_
            refine TL.nil ?_
            refine TC.condF rfl ?_
            refine TC.skip ?_
            refine TC.inBlock ?_
            refine TC.region ?_
            obtain ⟨h16, h⟩ := chk_inv h
            refine op0 (sp_add rfl rfl rfl h16) rfl trivial rfl rfl ?_
            refine op0 (sp_move rfl rfl) rfl trivial rfl rfl ?_
            refine TL.nil ?_
            refine TC.inLoop ?_
            refine TC.seq ?_
            refine subJ [] (ih _ _ h) ?_ ?_ ?_
            · exact ⟨rfl, rfl, rfl, rfl, trivial⟩
            · exact ⟨mem_at 2 rfl, trivial⟩
            · rfl
    · have h := cond_f h h3
      refine TC.exit rfl ?_
      refine TC.seq ?_
      refine TC.seq ?_
      obtain ⟨h17, h⟩ := chk_inv h
      obtain ⟨x8, h18, h19, h⟩ := idx_inv h
      obtain ⟨x9, h20, h21, h⟩ := idx_inv h
      refine drawJ 11 [⟨.ref 0, [], [], []⟩, ⟨.ref 0, [], [], []⟩, ⟨.val (.int .i64 (l3.length : Int)), [], [.ro 0 2 (List.map en_api_StrikeHeard l3)], []⟩, ⟨.val (.int .i64 ((l3.length : Int) - 1)), [], [], []⟩, ⟨.cell 0 ((((l3.length : Int) - 1) : Int).toNat * 2), [], [.ro 0 2 (List.map en_api_StrikeHeard l3)], []⟩, ⟨.cell 0 ((((l3.length : Int) - 1) : Int).toNat * 2 + 0), [], [.ro 0 2 (List.map en_api_StrikeHeard l3)], []⟩, ⟨.val (.int .i64 x8.1), [], [.ro 0 2 (List.map en_api_StrikeHeard l3)], []⟩, ⟨.ref 0, [], [], []⟩, ⟨.cell 0 ((0 : Int).toNat * 2), [], [.ro 0 2 (List.map en_api_StrikeHeard l3)], []⟩, ⟨.cell 0 ((0 : Int).toNat * 2 + 0), [], [.ro 0 2 (List.map en_api_StrikeHeard l3)], []⟩, ⟨.val (.int .i64 x9.1), [], [.ro 0 2 (List.map en_api_StrikeHeard l3)], []⟩] rfl ?_ rfl ?_ rfl ?_ ?_
      · kernel_rfl
      · kernel_rfl
      · exact DAll.op' (sp_move rfl rfl) trivial rfl (From.ok (ps := []) trivial) (DAll.op' (sp_move rfl rfl) trivial rfl (From.ok (ps := []) trivial) (DAll.op' (sp_lenM (N := l3.length) (len_map _ _) rfl rfl isRo Try.underlying152) trivial rfl (From.ok (ps := [(none, 0)]) ⟨⟨rfl, rfl⟩, trivial⟩) (DAll.op' (sp_sub rfl rfl rfl h17) trivial rfl (From.ok (ps := []) trivial) (DAll.op' (sp_indexS rfl rfl rfl isRo sl152 h18 (map_get _ h19)) trivial rfl (From.ok (ps := [(none, 0)]) ⟨⟨rfl, rfl⟩, trivial⟩) (DAll.op' (sp_fieldAddrR (i := (((l3.length : Int) - 1) : Int).toNat) rfl rfl isRo ft157_0 vt3 (by decide) (map_get _ h19) (fun h => nomatch h)) trivial rfl (From.ok (ps := [(none, 0)]) ⟨⟨rfl, rfl⟩, trivial⟩) (DAll.op' (sp_loadR (i := (((l3.length : Int) - 1) : Int).toNat) (j := 0) rfl rfl isRo vt3 rfl (map_get _ h19) rfl (.v (.nil)) (nodup_of_B rfl)) trivial rfl (From.ok (ps := [(none, 0)]) ⟨⟨rfl, rfl⟩, trivial⟩) (DAll.op' (sp_move rfl rfl) trivial rfl (From.ok (ps := []) trivial) (DAll.op' (sp_indexS rfl rfl rfl isRo sl152 h20 (map_get _ h21)) trivial rfl (From.ok (ps := [(none, 0)]) ⟨⟨rfl, rfl⟩, trivial⟩) (DAll.op' (sp_fieldAddrR (i := (0 : Int).toNat) rfl rfl isRo ft157_0 vt3 (by decide) (map_get _ h21) (fun h => nomatch h)) trivial rfl (From.ok (ps := [(none, 0)]) ⟨⟨rfl, rfl⟩, trivial⟩) (DAll.op' (sp_loadR (i := (0 : Int).toNat) (j := 0) rfl rfl isRo vt3 rfl (map_get _ h21) rfl (.v (.nil)) (nodup_of_B rfl)) trivial rfl (From.ok (ps := [(none, 0)]) ⟨⟨rfl, rfl⟩, trivial⟩) (.nil)))))))))))
      obtain ⟨h22, h⟩ := chk_inv h
      refine op0 (sp_sub rfl rfl rfl h22) rfl trivial rfl rfl ?_
      refine op0 (sp_geq rfl rfl rfl) rfl trivial rfl rfl ?_
      refine TL.nil ?_
      refine TC.cond (b := (decide ((2000 : Int) ≤ (x8.1 - x9.1)))) rfl (fun h23 => ?_) (fun h23 => ?_)
      · have h := cond_t h h23
        refine TC.seq ?_
        refine TC.region ?_
        refine op0 (sp_assign rfl rfl) rfl trivial rfl rfl ?_
        refine TL.nil ?_
        cases h
        exact retJ [] (.tmp rfl .nil) rfl trivial rfl rfl
      · have h := cond_f h h23
        refine TC.skip ?_
        refine TC.seq ?_
        refine TC.region ?_
        refine op0 (sp_assign rfl rfl) rfl trivial rfl rfl ?_
        refine TL.nil ?_
        cases h
        exact retJ [] (.tmp rfl .nil) rfl trivial rfl rfl
def ev_strike_checkHeard (n : Nat) (l1 : List (Int × Int)) : Option Int :=
  cond ((l1.length : Int) == 0) (some 7) (cond (decide ((200 : Int) < (l1.length : Int))) (some 5) (ev_strike_checkHeard_l0 n l1 n 0 l1))
set_option maxRecDepth 100000 in
set_option maxHeartbeats 2000000 in
theorem fc_strike_checkHeard {n : Nat} {l1 : List (Int × Int)} {r : Int} (h : ev_strike_checkHeard n l1 = some r) : FC Try.prog 118 [.ref 0] [.ro 0 2 (List.map en_api_StrikeHeard l1)] (.val (.int .i64 r)) [] := by
  refine introJ (nz := 60) Try.func118 rfl rfl rfl (fun w0 R0 env0 => ?_)
  rw [ev_strike_checkHeard] at h
  refine TC.seq ?_
  refine TC.region ?_
  refine op0 (sp_assign rfl rfl) rfl trivial rfl rfl ?_
  refine TL.nil ?_
  refine TC.seq ?_
  refine TC.block ?_
  refine TC.seq ?_
  refine TC.region ?_
  refine op0 (sp_move rfl rfl) rfl trivial rfl rfl ?_
  refine op1 0 rfl (sp_lenM (N := l1.length) (len_map _ _) rfl rfl isRo Try.underlying152) rfl trivial rfl rfl ?_
  refine op0 (sp_eql rfl rfl rfl) rfl trivial rfl rfl ?_
  refine op0 (sp_assign rfl rfl) rfl trivial rfl rfl ?_
  refine TL.nil ?_
  refine TC.cond (b := ((l1.length : Int) == 0)) rfl (fun h1 => ?_) (fun h1 => ?_)
  · have h := cond_t h h1
    refine TC.seq ?_
    refine TC.region ?_
    refine op0 (sp_assign rfl rfl) rfl trivial rfl rfl ?_
    refine TL.nil ?_
    cases h
    exact retJ [] (.tmp rfl .nil) rfl trivial rfl rfl
  · have h := cond_f h h1
    refine TC.seq ?_
    refine TC.region ?_
    refine op0 (sp_move rfl rfl) rfl trivial rfl rfl ?_
    refine op1 0 rfl (sp_lenM (N := l1.length) (len_map _ _) rfl rfl isRo Try.underlying152) rfl trivial rfl rfl ?_
    refine op0 (sp_gtr rfl rfl rfl) rfl trivial rfl rfl ?_
    refine op0 (sp_assign rfl rfl) rfl trivial rfl rfl ?_
    refine TL.nil ?_
    refine TC.cond (b := (decide ((200 : Int) < (l1.length : Int)))) rfl (fun h2 => ?_) (fun h2 => ?_)
    · have h := cond_t h h2
      refine TC.seq ?_
      refine TC.region ?_
      refine op0 (sp_assign rfl rfl) rfl trivial rfl rfl ?_
      refine TL.nil ?_
      cases h
      exact retJ [] (.tmp rfl .nil) rfl trivial rfl rfl
    · have h := cond_f h h2
      refine TC.skip ?_
      refine TC.inBlock ?_
      refine TC.seq ?_
      refine TC.seq ?_
      refine TC.region ?_
      refine op0 (sp_move rfl rfl) rfl trivial rfl rfl ?_
      refine op1 0 rfl (sp_lenM (N := l1.length) (len_map _ _) rfl rfl isRo Try.underlying152) rfl trivial rfl rfl ?_
      refine op0 (sp_move rfl rfl) rfl trivial rfl rfl ?_
      refine TL.nil ?_
      refine TC.block ?_
      refine TC.loop ?_
      refine TC.seq ?_
      refine subJ [] (ok_strike_checkHeard_l0 _ _ _ h) ?_ ?_ ?_
      · exact ⟨rfl, rfl, rfl, rfl, trivial⟩
      · exact ⟨mem_at 0 rfl, trivial⟩
      · rfl
/- strike_misses_add -/
def ev_strike_misses_add (n : Nat) (mm1 : List (Int × Int)) (place2 : Int) (many3 : Int) : Option ((List (Int × Int))) :=
  cond (!((mlook mm1 place2).isSome)) (some (mputS kl290 mm1 place2 many3)) (cond (decide (many3 < ((mlook mm1 place2).getD 0))) (some (mputS kl290 mm1 place2 many3)) (some mm1))
set_option maxRecDepth 100000 in
set_option maxHeartbeats 2000000 in
theorem ft_strike_misses_add {n : Nat} {mm1 : List (Int × Int)} {place2 : Int} {many3 : Int} {r : (List (Int × Int))} (h : ev_strike_misses_add n mm1 place2 many3 = some r) : FT Try.prog 221 [.ref 0, .val (.int .i64 place2), .val (.int .i64 many3)] [.inv 0 (mapI mk290 false en_int mm1)] [] (.tup []) [.inv 0 (mapI mk290 false en_int r)] := by
  refine introM (nz := 24) 1 [(2, 0)] Try.func221 rfl rfl rfl rfl (fun w0 M0 R0 env0 => ?_)
  rw [ev_strike_misses_add] at h
  refine TC.seq ?_
  refine TC.region ?_
  refine op0 (sp_move rfl rfl) rfl trivial rfl rfl ?_
  refine op0 (sp_move rfl rfl) rfl trivial rfl rfl ?_
  refine op1 2 rfl (sp_lookup (cm := true) (v := .tup [.val (.int .i64 ((mlook mm1 place2).getD 0)), .val (.bool ((mlook mm1 place2).isSome))]) (ns := []) place2 0 rfl rfl rfl (fun _ => rfl) isMapO km290 Try.zeroValue3 (fun W R => zok (ZL.v rfl (ZL.nil)) rfl rfl W R) (.v (.nil)) rfl rfl) rfl trivial rfl rfl ?_
  refine op0 (sp_move rfl rfl) rfl trivial rfl rfl ?_
  refine op0 (sp_extract rfl rfl rfl) rfl trivial rfl rfl ?_
  refine op0 (sp_extract rfl rfl rfl) rfl trivial rfl rfl ?_
  refine op0 (sp_assign rfl rfl) rfl trivial rfl rfl ?_
  refine op0 (sp_assign rfl rfl) rfl trivial rfl rfl ?_
  refine TL.nil ?_
  refine TC.seq ?_
  refine TC.region ?_
  refine op0 (sp_move rfl rfl) rfl trivial rfl rfl ?_
  refine op0 (sp_not rfl rfl) rfl trivial rfl rfl ?_
  refine op0 (sp_move rfl rfl) rfl trivial rfl rfl ?_
  rcases cond_cases h with ⟨h1, h⟩ | ⟨h1, h⟩
  · refine (boolLit 16 rfl h1).2 ?_
    refine opSkip rfl ⟨_, rfl, .inl rfl⟩ rfl ?_
    refine opSkip rfl ⟨_, rfl, .inl rfl⟩ rfl ?_
    refine opSkip rfl ⟨_, rfl, .inl rfl⟩ rfl ?_
    refine op0 (sp_pickT rfl rfl rfl) rfl trivial rfl rfl ?_
    refine TL.nil ?_
    refine TC.condT rfl ?_
    refine TC.region ?_
    refine op0 (sp_move rfl rfl) rfl trivial rfl rfl ?_
    refine op0 (sp_move rfl rfl) rfl trivial rfl rfl ?_
    refine op0 (sp_move rfl rfl) rfl trivial rfl rfl ?_
    refine opT (take := [.inv 0 (mapI mk290 false en_int mm1)]) (need := []) (V' := [.inv 0 (mapI mk290 false en_int (mputS kl290 mm1 place2 many3)), .inv 1 (marksI []), .pin 2 0 (env0 0)]) [2] [] (ts_mapUpdate (need := []) place2 many3 rfl rfl rfl (fun _ => rfl) rfl rfl rfl (.v (.nil)) km290 (fun h => mputS_perm kl290 _ _ h)) trivial rfl ⟨rfl, trivial⟩ trivial rfl rfl ?_
    refine TL.nil ?_
    cases h
    exact endM [] 1 1 [0] rfl (.nil) rfl ⟨mem_at 0 rfl, trivial⟩ rfl rfl ⟨⟨_, mem_at 1 rfl⟩, trivial⟩ rfl
  · refine (boolLit 16 rfl h1).2 ?_
    refine op0 (sp_move rfl rfl) rfl ⟨_, rfl, rfl⟩ rfl rfl ?_
    refine op0 (sp_move rfl rfl) rfl ⟨_, rfl, rfl⟩ rfl rfl ?_
    refine op0 (sp_lss rfl rfl rfl) rfl ⟨_, rfl, rfl⟩ rfl rfl ?_
    refine op0 (sp_pickF rfl rfl rfl) rfl trivial rfl rfl ?_
    refine TL.nil ?_
    refine TC.cond (b := (decide (many3 < ((mlook mm1 place2).getD 0)))) rfl (fun h2 => ?_) (fun h2 => ?_)
    · have h := cond_t h h2
      refine TC.region ?_
      refine op0 (sp_move rfl rfl) rfl trivial rfl rfl ?_
      refine op0 (sp_move rfl rfl) rfl trivial rfl rfl ?_
      refine op0 (sp_move rfl rfl) rfl trivial rfl rfl ?_
      refine opT (take := [.inv 0 (mapI mk290 false en_int mm1)]) (need := []) (V' := [.inv 0 (mapI mk290 false en_int (mputS kl290 mm1 place2 many3)), .inv 1 (marksI []), .pin 2 0 (env0 0)]) [2] [] (ts_mapUpdate (need := []) place2 many3 rfl rfl rfl (fun _ => rfl) rfl rfl rfl (.v (.nil)) km290 (fun h => mputS_perm kl290 _ _ h)) trivial rfl ⟨rfl, trivial⟩ trivial rfl rfl ?_
      refine TL.nil ?_
      cases h
      exact endM [] 1 1 [0] rfl (.nil) rfl ⟨mem_at 0 rfl, trivial⟩ rfl rfl ⟨⟨_, mem_at 1 rfl⟩, trivial⟩ rfl
    · have h := cond_f h h2
      refine TC.skip ?_
      cases h
      exact endM [] 0 1 [0] rfl (.nil) rfl ⟨mem_at 1 rfl, trivial⟩ rfl rfl ⟨⟨_, mem_at 0 rfl⟩, trivial⟩ rfl
/- strike_train_after -/
def ev_strike_train_after_j1 (n : Nat) (hears7 : Int → Option Bool) (x14 : Int × Int) (k_strike_train_after_l0 : Bool → Bool → Int → (List (Int × Int)) → (List (Int × Int)) → (List (Int × Int)) → Option ((List (Int × Int)))) (b20 : Bool) (b21 : Bool) (i22 : Int) (l23 : List (Int × Int)) (l24 : List (Int × Int)) (l25 : List (Int × Int)) : Option ((List (Int × Int))) :=
  (hears7 0).bind fun r26 => cond r26 ((ev_strike_train_missed n b20 b21 l25 i22 x14.1).bind fun r27 => chk (in64 (x14.2 + 1)) <| (ev_strike_misses_add n l23 r27 (x14.2 + 1)).bind fun r28 => k_strike_train_after_l0 b20 b21 i22 r28 l24 l25) (k_strike_train_after_l0 b20 b21 i22 l23 l24 l25)
set_option maxRecDepth 100000 in
set_option maxHeartbeats 2000000 in
theorem ok_strike_train_after_j1 {n : Nat} {w0 : World} {R0 : Nat → Prop} {env0 : Env} {r : (List (Int × Int))} {slot6 : Int} {x14 : Int × Int} {hears7 : Int → Option Bool} {k_strike_train_after_l0 : Bool → Bool → Int → (List (Int × Int)) → (List (Int × Int)) → (List (Int × Int)) → Option ((List (Int × Int)))} {b20 : Bool} {b21 : Bool} {i22 : Int} {l23 : List (Int × Int)} {l24 : List (Int × Int)} {l25 : List (Int × Int)} (hk_strike_train_after_l0 : ∀ (b8 : Bool) (b9 : Bool) (i10 : Int) (l11 : List (Int × Int)) (l12 : List (Int × Int)) (l13 : List (Int × Int)), k_strike_train_after_l0 b8 b9 i10 l11 l12 l13 = some r → TC Try.prog ⟨w0, fun _ => False, R0⟩ 42 (bodyPost Try.prog Try.f119 (Post ⟨w0, fun _ => False, R0⟩ env0 (.ref 0) [.inv 0 (mapI mk290 false en_int r)])) [.code (sub (bodyOf Try.f119) [1, 1, 0, 1, 0, 0, 0]), .code (sub (bodyOf Try.f119) [1, 1, 0, 1, 0, 0, 1]), .inLoop (sub (bodyOf Try.f119) [1, 1, 0, 1, 0, 0]), .inBlock 0, .code (sub (bodyOf Try.f119) [1, 1, 1])] ([(2, .val (.int .i64 slot6)), (3, .ref 2), (4, .ptr 3 0), (9, .ref 4), (14, .ref 5)]) ([.any 2 (D.fn Try.prog fe_funcint_bool fd_funcint_bool hears7), .blk 3 [.val (.bool b8), .val (.bool b9), .ref 0, .val (.int .i64 i10)] 191, .inv 4 (mapI mk290 false en_int l11), .inv 5 (mitI mk290 false en_int l12 none), .ro 0 2 (List.map en_api_Span l13)])) (h : ev_strike_train_after_j1 n hears7 x14 k_strike_train_after_l0 b20 b21 i22 l23 l24 l25 = some r) : TC Try.prog ⟨w0, fun _ => False, R0⟩ 42 (bodyPost Try.prog Try.f119 (Post ⟨w0, fun _ => False, R0⟩ env0 (.ref 0) [.inv 0 (mapI mk290 false en_int r)])) [.code (sub (bodyOf Try.f119) [1, 1, 0, 1, 0, 0, 1, 1, 0, 1, 1, 0]), .code (sub (bodyOf Try.f119) [1, 1, 0, 1, 0, 0, 1, 1, 0, 1, 1, 1]), .inBlock 1, .inLoop (sub (bodyOf Try.f119) [1, 1, 0, 1, 0, 0]), .inBlock 0, .code (sub (bodyOf Try.f119) [1, 1, 1])] ([(2, .val (.int .i64 slot6)), (3, .ref 2), (4, .ptr 3 0), (9, .ref 4), (10, .val (.int .i64 x14.1)), (11, .val (.int .i64 x14.2)), (14, .ref 5)]) ([.any 2 (D.fn Try.prog fe_funcint_bool fd_funcint_bool hears7), .blk 3 [.val (.bool b20), .val (.bool b21), .ref 0, .val (.int .i64 i22)] 191, .inv 4 (mapI mk290 false en_int l23), .inv 5 (mitI mk290 false en_int l24 none), .ro 0 2 (List.map en_api_Span l25)]) := by
  rw [ev_strike_train_after_j1] at h
  refine TC.region ?_
  refine op0 (sp_move rfl rfl) rfl trivial rfl rfl ?_
  obtain ⟨r26, h8, h⟩ := bind_inv h
  refine op1 0 rfl (sp_callF (avs := [.val (.int .i64 0)]) (v := .val (.bool r26)) 0 rfl rfl rfl rfl rfl h8) rfl trivial rfl rfl ?_
  refine TL.nil ?_
  refine TC.cond (b := r26) rfl (fun h9 => ?_) (fun h9 => ?_)
  · have h := cond_t h h9
    refine TC.region ?_
    refine op0 (sp_move rfl rfl) rfl trivial rfl rfl ?_
    refine op1 1 rfl (sp_loadBA rfl isBlk rfl vt191 rfl rfl) rfl trivial rfl rfl ?_
    refine op0 (sp_move rfl rfl) rfl trivial rfl rfl ?_
    obtain ⟨r27, h10, h⟩ := bind_inv h
    refine op1 4 rfl (sp_call (avs := [.agg [.val (.bool b20), .val (.bool b21), .ref 0, .val (.int .i64 i22)], .val (.int .i64 x14.1)]) (need := [.ro 0 2 (List.map en_api_Span l25)]) (v := .val (.int .i64 r27)) (news := []) rfl rfl rfl Try.call223 (atJ [] [] (fc_strike_train_missed h10) rfl rfl) (.inl (roAll rfl))) rfl trivial rfl rfl ?_
    refine op0 (sp_move rfl rfl) rfl trivial rfl rfl ?_
    obtain ⟨h11, h⟩ := chk_inv h
    refine op0 (sp_add rfl rfl rfl h11) rfl trivial rfl rfl ?_
    obtain ⟨r28, h12, h⟩ := bind_inv h
    refine opT (take := [.inv 4 (mapI mk290 false en_int l23)]) (need := []) (V' := [.inv 4 (mapI mk290 false en_int r28), .any 2 (D.fn Try.prog fe_funcint_bool fd_funcint_bool hears7), .blk 3 [.val (.bool b20), .val (.bool b21), .ref 0, .val (.int .i64 i22)] 191, .inv 5 (mitI mk290 false en_int l24 none), .ro 0 2 (List.map en_api_Span l25)]) [2] [] (ts_call (avs := [.ref 4, .val (.int .i64 r27), .val (.int .i64 (x14.2 + 1))]) (take := [.inv 4 (mapI mk290 false en_int l23)]) (need := []) (v := .tup []) (news := [.inv 4 (mapI mk290 false en_int r28)]) rfl rfl rfl Try.call221 (atT [(0, 4)] [(0, 4)] (ft_strike_misses_add h12) rfl rfl rfl) rfl rfl) trivial rfl ⟨rfl, trivial⟩ trivial rfl rfl ?_
    refine TL.nil ?_
    refine TC.inBlock ?_
    refine TC.inLoop ?_
    refine TC.seq ?_
    refine subJ [] (hk_strike_train_after_l0 _ _ _ _ _ _ h) ?_ ?_ ?_
    · exact ⟨rfl, rfl, rfl, rfl, rfl, trivial⟩
    · exact ⟨mem_at 1 rfl, mem_at 2 rfl, mem_at 0 rfl, mem_at 3 rfl, mem_at 4 rfl, trivial⟩
    · rfl
  · have h := cond_f h h9
    refine TC.skip ?_
    refine TC.inBlock ?_
    refine TC.inLoop ?_
    refine TC.seq ?_
    refine subJ [] (hk_strike_train_after_l0 _ _ _ _ _ _ h) ?_ ?_ ?_
    · exact ⟨rfl, rfl, rfl, rfl, rfl, trivial⟩
    · exact ⟨mem_at 0 rfl, mem_at 1 rfl, mem_at 2 rfl, mem_at 3 rfl, mem_at 4 rfl, trivial⟩
    · rfl
def ev_strike_train_after_l0 (n : Nat) (slot6 : Int) (hears7 : Int → Option Bool) : Nat → Bool → Bool → Int → (List (Int × Int)) → (List (Int × Int)) → (List (Int × Int)) → Option ((List (Int × Int)))
  | 0, _, _, _, _, _, _ => none
  | m + 1, b8, b9, i10, l11, l12, l13 => nextAll l12 (fun x14 l15 => (ev_strike_train_blows n b8 b9 l13 i10 slot6 x14.1).bind fun r16 => (hears7 r16).bind fun r17 => cond r17 ((ev_strike_train_next n b8 b9 l13 i10 x14.1).bind fun r18 => (ev_strike_misses_add n l11 r18 x14.2).bind fun r19 => ev_strike_train_after_j1 n hears7 x14 (fun b8q b9q i10q l11q l12q l13q => ev_strike_train_after_l0 n slot6 hears7 m b8q b9q i10q l11q l12q l13q) b8 b9 i10 r19 l15 l13) (ev_strike_train_after_j1 n hears7 x14 (fun b8q b9q i10q l11q l12q l13q => ev_strike_train_after_l0 n slot6 hears7 m b8q b9q i10q l11q l12q l13q) b8 b9 i10 l11 l15 l13)) (some l11)
set_option maxRecDepth 100000 in
set_option maxHeartbeats 2000000 in
theorem ok_strike_train_after_l0 {n : Nat} {w0 : World} {R0 : Nat → Prop} {env0 : Env} {r : (List (Int × Int))} {slot6 : Int} {hears7 : Int → Option Bool} : ∀ (m : Nat) (b8 : Bool) (b9 : Bool) (i10 : Int) (l11 : List (Int × Int)) (l12 : List (Int × Int)) (l13 : List (Int × Int)), ev_strike_train_after_l0 n slot6 hears7 m b8 b9 i10 l11 l12 l13 = some r → TC Try.prog ⟨w0, fun _ => False, R0⟩ 42 (bodyPost Try.prog Try.f119 (Post ⟨w0, fun _ => False, R0⟩ env0 (.ref 0) [.inv 0 (mapI mk290 false en_int r)])) [.code (sub (bodyOf Try.f119) [1, 1, 0, 1, 0, 0, 0]), .code (sub (bodyOf Try.f119) [1, 1, 0, 1, 0, 0, 1]), .inLoop (sub (bodyOf Try.f119) [1, 1, 0, 1, 0, 0]), .inBlock 0, .code (sub (bodyOf Try.f119) [1, 1, 1])] ([(2, .val (.int .i64 slot6)), (3, .ref 2), (4, .ptr 3 0), (9, .ref 4), (14, .ref 5)]) ([.any 2 (D.fn Try.prog fe_funcint_bool fd_funcint_bool hears7), .blk 3 [.val (.bool b8), .val (.bool b9), .ref 0, .val (.int .i64 i10)] 191, .inv 4 (mapI mk290 false en_int l11), .inv 5 (mitI mk290 false en_int l12 none), .ro 0 2 (List.map en_api_Span l13)]) := by
  intro m
  induction m with
  | zero => intro b8 b9 i10 l11 l12 l13 h; exact none_no h
  | succ m ih =>
    intro b8 b9 i10 l11 l12 l13 h
    rw [ev_strike_train_after_l0] at h
    refine TC.region ?_
    refine TL.nextS 3 rfl rfl rfl rfl rfl rfl rfl rfl rfl rfl rfl (fun h2 => ?_) (fun x14 l15 h1 => ?_)
    · have h := nextAll_end h h2
      refine TL.nil ?_
      refine TC.seq ?_
      refine TC.condF rfl ?_
      refine TC.exit rfl ?_
      refine TC.seq ?_
      refine TC.region ?_
      refine op0 (sp_move rfl rfl) rfl trivial rfl rfl ?_
      refine op0 (sp_assign rfl rfl) rfl trivial rfl rfl ?_
      refine TL.nil ?_
      cases h
      exact retJ [(0, 4)] (.tmp rfl .nil) rfl ⟨mem_at 2 rfl, trivial⟩ rfl rfl
    · have h := nextAll_sel h h1
      refine TL.nil ?_
      refine TC.seq ?_
      refine TC.condT rfl ?_
      refine TC.skip ?_
      refine TC.block ?_
      refine TC.seq ?_
      refine TC.region ?_
      refine op1 3 rfl (sp_entry (ag := false) (ka := .val (.int .i64 x14.1)) (va := .val (.int .i64 x14.2)) (ns := []) rfl rfl (fun _ => rfl) (.v (.nil)) rfl rfl) rfl trivial rfl rfl ?_
      refine op0 (sp_extract rfl rfl rfl) rfl trivial rfl rfl ?_
      refine op0 (sp_extract rfl rfl rfl) rfl trivial rfl rfl ?_
      refine op0 (sp_assign rfl rfl) rfl trivial rfl rfl ?_
      refine op0 (sp_assign rfl rfl) rfl trivial rfl rfl ?_
      refine TL.nil ?_
      refine TC.seq ?_
      refine TC.seq ?_
      refine TC.region ?_
      refine op0 (sp_move rfl rfl) rfl trivial rfl rfl ?_
      refine op1 1 rfl (sp_loadBA rfl isBlk rfl vt191 rfl rfl) rfl trivial rfl rfl ?_
      refine op0 (sp_move rfl rfl) rfl trivial rfl rfl ?_
      refine op0 (sp_move rfl rfl) rfl trivial rfl rfl ?_
      obtain ⟨r16, h3, h⟩ := bind_inv h
      refine op1 4 rfl (sp_call (avs := [.agg [.val (.bool b8), .val (.bool b9), .ref 0, .val (.int .i64 i10)], .val (.int .i64 slot6), .val (.int .i64 x14.1)]) (need := [.ro 0 2 (List.map en_api_Span l13)]) (v := .val (.int .i64 r16)) (news := []) rfl rfl rfl Try.call71 (atJ [] [] (fc_strike_train_blows h3) rfl rfl) (.inl (roAll rfl))) rfl trivial rfl rfl ?_
      obtain ⟨r17, h4, h⟩ := bind_inv h
      refine op1 0 rfl (sp_callF (avs := [.val (.int .i64 r16)]) (v := .val (.bool r17)) r16 rfl rfl rfl rfl rfl h4) rfl trivial rfl rfl ?_
      refine TL.nil ?_
      refine TC.cond (b := r17) rfl (fun h5 => ?_) (fun h5 => ?_)
      · have h := cond_t h h5
        refine TC.region ?_
        refine op0 (sp_move rfl rfl) rfl trivial rfl rfl ?_
        refine op1 1 rfl (sp_loadBA rfl isBlk rfl vt191 rfl rfl) rfl trivial rfl rfl ?_
        refine op0 (sp_move rfl rfl) rfl trivial rfl rfl ?_
        obtain ⟨r18, h6, h⟩ := bind_inv h
        refine op1 4 rfl (sp_call (avs := [.agg [.val (.bool b8), .val (.bool b9), .ref 0, .val (.int .i64 i10)], .val (.int .i64 x14.1)]) (need := [.ro 0 2 (List.map en_api_Span l13)]) (v := .val (.int .i64 r18)) (news := []) rfl rfl rfl Try.call222 (atJ [] [] (fc_strike_train_next h6) rfl rfl) (.inl (roAll rfl))) rfl trivial rfl rfl ?_
        refine op0 (sp_move rfl rfl) rfl trivial rfl rfl ?_
        obtain ⟨r19, h7, h⟩ := bind_inv h
        refine opT (take := [.inv 4 (mapI mk290 false en_int l11)]) (need := []) (V' := [.inv 4 (mapI mk290 false en_int r19), .any 2 (D.fn Try.prog fe_funcint_bool fd_funcint_bool hears7), .blk 3 [.val (.bool b8), .val (.bool b9), .ref 0, .val (.int .i64 i10)] 191, .inv 5 (mitI mk290 false en_int l15 (some x14)), .ro 0 2 (List.map en_api_Span l13)]) [2] [] (ts_call (avs := [.ref 4, .val (.int .i64 r18), .val (.int .i64 x14.2)]) (take := [.inv 4 (mapI mk290 false en_int l11)]) (need := []) (v := .tup []) (news := [.inv 4 (mapI mk290 false en_int r19)]) rfl rfl rfl Try.call221 (atT [(0, 4)] [(0, 4)] (ft_strike_misses_add h7) rfl rfl rfl) rfl rfl) trivial rfl ⟨rfl, trivial⟩ trivial rfl rfl ?_
        refine TL.nil ?_
        refine TC.seq ?_
        refine TC.forget 3 rfl ?_
        refine subJ [] (ok_strike_train_after_j1 (slot6 := slot6) ih h) ?_ ?_ ?_
        · exact ⟨rfl, rfl, rfl, rfl, rfl, rfl, rfl, trivial⟩
        · exact ⟨mem_at 1 rfl, mem_at 2 rfl, mem_at 0 rfl, mem_at 3 rfl, mem_at 4 rfl, trivial⟩
        · rfl
      · have h := cond_f h h5
        refine TC.skip ?_
        refine TC.seq ?_
        refine TC.forget 3 rfl ?_
        refine subJ [] (ok_strike_train_after_j1 (slot6 := slot6) ih h) ?_ ?_ ?_
        · exact ⟨rfl, rfl, rfl, rfl, rfl, rfl, rfl, trivial⟩
        · exact ⟨mem_at 0 rfl, mem_at 1 rfl, mem_at 2 rfl, mem_at 3 rfl, mem_at 4 rfl, trivial⟩
        · rfl
def ev_strike_train_after (n : Nat) (t1 : Bool) (t2 : Bool) (t3 : List (Int × Int)) (t4 : Int) (mm5 : List (Int × Int)) (slot6 : Int) (hears7 : Int → Option Bool) : Option ((List (Int × Int))) :=
  ev_strike_train_after_l0 n slot6 hears7 n t1 t2 t4 ([] : List (Int × Int)) mm5 t3
set_option maxRecDepth 100000 in
set_option maxHeartbeats 2000000 in
theorem fc_strike_train_after {n : Nat} {t1 : Bool} {t2 : Bool} {t3 : List (Int × Int)} {t4 : Int} {mm5 : List (Int × Int)} {slot6 : Int} {hears7 : Int → Option Bool} {r : (List (Int × Int))} (h : ev_strike_train_after n t1 t2 t3 t4 mm5 slot6 hears7 = some r) : FC Try.prog 119 [.agg [.val (.bool t1), .val (.bool t2), .ref 0, .val (.int .i64 t4)], .ref 1, .val (.int .i64 slot6), .ref 2] [.ro 0 2 (List.map en_api_Span t3), .any 1 (mapI mk290 false en_int mm5).froz, .any 2 (D.fn Try.prog fe_funcint_bool fd_funcint_bool hears7)] (.ref 0) [.inv 0 (mapI mk290 false en_int r)] := by
  refine introJ (nz := 42) Try.func119 rfl rfl rfl (fun w0 R0 env0 => ?_)
  rw [ev_strike_train_after] at h
  refine TC.seq ?_
  refine TC.region ?_
  refine op0 (sp_box 3 rfl rfl rfl rfl rfl) rfl trivial rfl rfl ?_
  refine op0 (sp_assign rfl rfl) rfl trivial rfl rfl ?_
  refine TL.nil ?_
  refine TC.seq ?_
  refine TC.region ?_
  refine op0 (sp_makeMap (ek := mk290) (ag := false) (ev := en_int) 4 ([] : List (Int × Int)) rfl rfl) rfl trivial rfl rfl ?_
  refine op0 (sp_assign rfl rfl) rfl trivial rfl rfl ?_
  refine TL.nil ?_
  refine TC.seq ?_
  refine TC.seq ?_
  refine TC.region ?_
  refine op0 (sp_move rfl rfl) rfl trivial rfl rfl ?_
  refine op1 3 rfl (sp_range (ek := mk290) (ag := false) (ev := en_int) (xs := mm5) 5 rfl rfl Try.underlying290) rfl trivial rfl rfl ?_
  refine TL.nil ?_
  refine TC.block ?_
  refine TC.loop ?_
  refine TC.seq ?_
  refine subJ [] (ok_strike_train_after_l0 _ _ _ _ _ _ _ h) ?_ ?_ ?_
  · exact ⟨rfl, rfl, rfl, rfl, rfl, trivial⟩
  · exact ⟨mem_at 5 rfl, mem_at 2 rfl, mem_at 1 rfl, mem_at 0 rfl, mem_at 3 rfl, trivial⟩
  · rfl
/- strike_Misses_1 -/
def ev_strike_Misses_1 (n : Nat) (p1 : Int) : Option Bool :=
  some true
set_option maxRecDepth 100000 in
set_option maxHeartbeats 2000000 in
theorem fc_strike_Misses_1 {n : Nat} {p1 : Int} {r : Bool} (h : ev_strike_Misses_1 n p1 = some r) : FC Try.prog 120 [.val (.int .i64 p1)] [] (.val (.bool r)) [] := by
  refine introJ (nz := 3) Try.func120 rfl rfl rfl (fun w0 R0 env0 => ?_)
  rw [ev_strike_Misses_1] at h
  refine TC.seq ?_
  refine TC.region ?_
  refine op0 (sp_assign rfl rfl) rfl trivial rfl rfl ?_
  refine TL.nil ?_
  refine TC.seq ?_
  refine TC.region ?_
  refine op0 (sp_assign rfl rfl) rfl trivial rfl rfl ?_
  refine TL.nil ?_
  cases h
  exact retJ [] (.tmp rfl .nil) rfl trivial rfl rfl
/- strike_Misses_2 -/
def ev_strike_Misses_2 (n : Nat) (blows1 : Int) (c2 : Int) (c3 : Int) : Option Bool :=
  some (blows1 == c3)
set_option maxRecDepth 100000 in
set_option maxHeartbeats 2000000 in
theorem fc_strike_Misses_2 {n : Nat} {blows1 : Int} {c2 : Int} {c3 : Int} {r : Bool} (h : ev_strike_Misses_2 n blows1 c2 c3 = some r) : FC Try.prog 121 [.val (.int .i64 blows1), .ptr 0 0] [.rob 0 [.val (.int .i64 c2), .val (.int .i64 c3)] 157] (.val (.bool r)) [] := by
  refine introJ (nz := 8) Try.func121 rfl rfl rfl (fun w0 R0 env0 => ?_)
  rw [ev_strike_Misses_2] at h
  refine TC.seq ?_
  refine TC.region ?_
  refine op0 (sp_assign rfl rfl) rfl trivial rfl rfl ?_
  refine TL.nil ?_
  refine TC.seq ?_
  refine TC.region ?_
  refine op0 (sp_move rfl rfl) rfl trivial rfl rfl ?_
  refine op1 0 rfl (sp_fieldAddrB rfl isRob rfl ft157_1 vt3 (by decide)) rfl trivial rfl rfl ?_
  refine op1 0 rfl (sp_loadB rfl isRob rfl vt3 rfl) rfl trivial rfl rfl ?_
  refine op0 (sp_eql rfl rfl rfl) rfl trivial rfl rfl ?_
  refine op0 (sp_assign rfl rfl) rfl trivial rfl rfl ?_
  refine TL.nil ?_
  cases h
  exact retJ [] (.tmp rfl .nil) rfl trivial rfl rfl
/- strike_Misses -/
def ev_strike_Misses_l3 (n : Nat) (x24 : Int × Int) (b18 : Bool) (b19 : Bool) (l23 : List (Int × Int)) (i20 : Int) (i17 : Int) (l22 : List (Int × Int)) (k_strike_Misses_l2 : Int → Int → Bool → Bool → Int → (List (Int × Int)) → (List (Int × Int)) → (List (Int × Int)) → Option (Int × (List Int) × Int)) : Nat → Int → (List (Int × Int)) → Option (Int × (List Int) × Int)
  | 0, _, _ => none
  | m + 1, i25, l26 => cond (decide (i25 < x24.1)) ((ev_strike_train_after n b18 b19 l23 i20 l26 i25 (fun a => ev_strike_Misses_1 n a)).bind fun r27 => chk (in64 (i25 + 1)) <| ev_strike_Misses_l3 n x24 b18 b19 l23 i20 i17 l22 k_strike_Misses_l2 m (i25 + 1) r27) ((ev_strike_train_after n b18 b19 l23 i20 l26 i25 (fun a => ev_strike_Misses_2 n a x24.1 x24.2)).bind fun r28 => chk (in64 (i25 + 1)) <| chk (in64 (i17 + 1)) <| k_strike_Misses_l2 (i25 + 1) (i17 + 1) b18 b19 i20 r28 l22 l23)
set_option maxRecDepth 100000 in
set_option maxHeartbeats 2000000 in
theorem ok_strike_Misses_l3 {n : Nat} {w0 : World} {R0 : Nat → Prop} {env0 : Env} {r : Int × (List Int) × Int} {l10 : List (Int × Int)} {x24 : Int × Int} {b18 : Bool} {b19 : Bool} {l23 : List (Int × Int)} {i20 : Int} {i17 : Int} {l22 : List (Int × Int)} {k_strike_Misses_l2 : Int → Int → Bool → Bool → Int → (List (Int × Int)) → (List (Int × Int)) → (List (Int × Int)) → Option (Int × (List Int) × Int)} (hk_strike_Misses_l2 : ∀ (i16 : Int) (i17 : Int) (b18 : Bool) (b19 : Bool) (i20 : Int) (l21 : List (Int × Int)) (l22 : List (Int × Int)) (l23 : List (Int × Int)), k_strike_Misses_l2 i16 i17 b18 b19 i20 l21 l22 l23 = some r → TC Try.prog ⟨w0, fun _ => False, R0⟩ 109 (bodyPost Try.prog Try.f53 (Post ⟨w0, fun _ => False, R0⟩ env0 (.tup [.val (.int .i64 r.1), .ref 0, .val (.int .i64 r.2.2)]) [.row 0 3 1 (List.map en_int r.2.1)])) [.code (sub (bodyOf Try.f53) [1, 1, 1, 1, 1, 1, 0, 1, 0, 0, 0]), .code (sub (bodyOf Try.f53) [1, 1, 1, 1, 1, 1, 0, 1, 0, 0, 1]), .inLoop (sub (bodyOf Try.f53) [1, 1, 1, 1, 1, 1, 0, 1, 0, 0]), .inBlock 2, .code (sub (bodyOf Try.f53) [1, 1, 1, 1, 1, 1, 1])] ([(4, .val (.int .i64 0)), (5, .val (.slice none 0 0)), (7, .ptr 4 0), (8, .ref 6), (9, .val (.int .i64 i16)), (53, .ref 1), (54, .val (.int .i64 (l10.length : Int))), (55, .val (.int .i64 i17))]) ([.blk 4 [.val (.bool b18), .val (.bool b19), .ref 3, .val (.int .i64 i20)] 191, .inv 6 (mapI mk290 false en_int l21), .ro 1 2 (List.map en_api_StrikeHeard l22), .ro 3 2 (List.map en_api_Span l23)])) : ∀ (m : Nat) (i25 : Int) (l26 : List (Int × Int)), ev_strike_Misses_l3 n x24 b18 b19 l23 i20 i17 l22 k_strike_Misses_l2 m i25 l26 = some r → TC Try.prog ⟨w0, fun _ => False, R0⟩ 109 (bodyPost Try.prog Try.f53 (Post ⟨w0, fun _ => False, R0⟩ env0 (.tup [.val (.int .i64 r.1), .ref 0, .val (.int .i64 r.2.2)]) [.row 0 3 1 (List.map en_int r.2.1)])) [.code (sub (bodyOf Try.f53) [1, 1, 1, 1, 1, 1, 0, 1, 0, 0, 1, 1, 0, 0, 1, 0, 0, 0, 0, 0]), .code (sub (bodyOf Try.f53) [1, 1, 1, 1, 1, 1, 0, 1, 0, 0, 1, 1, 0, 0, 1, 0, 0, 0, 0, 1]), .code (sub (bodyOf Try.f53) [1, 1, 1, 1, 1, 1, 0, 1, 0, 0, 1, 1, 0, 0, 1, 0, 0, 0, 1]), .inLoop (sub (bodyOf Try.f53) [1, 1, 1, 1, 1, 1, 0, 1, 0, 0, 1, 1, 0, 0, 1, 0, 0, 0]), .inBlock 4, .code (sub (bodyOf Try.f53) [1, 1, 1, 1, 1, 1, 0, 1, 0, 0, 1, 1, 0, 0, 1, 1]), .inBlock 3, .code (sub (bodyOf Try.f53) [1, 1, 1, 1, 1, 1, 0, 1, 0, 0, 1, 1, 1]), .inLoop (sub (bodyOf Try.f53) [1, 1, 1, 1, 1, 1, 0, 1, 0, 0]), .inBlock 2, .code (sub (bodyOf Try.f53) [1, 1, 1, 1, 1, 1, 1])] ([(4, .val (.int .i64 0)), (5, .val (.slice none 0 0)), (7, .ptr 4 0), (8, .ref 6), (9, .val (.int .i64 i25)), (12, .ptr 7 0), (53, .ref 1), (54, .val (.int .i64 (l10.length : Int))), (55, .val (.int .i64 i17))]) ([.blk 4 [.val (.bool b18), .val (.bool b19), .ref 3, .val (.int .i64 i20)] 191, .inv 6 (mapI mk290 false en_int l26), .blk 7 [.val (.int .i64 x24.1), .val (.int .i64 x24.2)] 157, .ro 1 2 (List.map en_api_StrikeHeard l22), .ro 3 2 (List.map en_api_Span l23)]) := by
  intro m
  induction m with
  | zero => intro i25 l26 h; exact none_no h
  | succ m ih =>
    intro i25 l26 h
    rw [ev_strike_Misses_l3] at h
    refine TC.region ?_
    refine op0 (sp_move rfl rfl) rfl trivial rfl rfl ?_
    refine op1 2 rfl (sp_fieldAddrB rfl isBlk rfl ft157_0 vt3 (by decide)) rfl trivial rfl rfl ?_
    refine op1 2 rfl (sp_loadB rfl isBlk rfl vt3 rfl) rfl trivial rfl rfl ?_
    refine op0 (sp_lss rfl rfl rfl) rfl trivial rfl rfl ?_
    refine TL.nil ?_
    refine TC.cond (b := (decide (i25 < x24.1))) rfl (fun h17 => ?_) (fun h17 => ?_)
    · have h := cond_t h h17
      refine TC.skip ?_
      refine TC.seq ?_
      refine TC.block ?_
      refine TC.region ?_
      refine op1 0 rfl (sp_loadBA rfl isBlk rfl vt191 rfl rfl) rfl trivial rfl rfl ?_
      refine op0 (sp_move rfl rfl) rfl trivial rfl rfl ?_
      refine op0 (sp_move rfl rfl) rfl trivial rfl rfl ?_
      refine TL.freeze 1 rfl ?_
      obtain ⟨r27, h18, h⟩ := bind_inv h
      refine opN (need := [.ro 3 2 (List.map en_api_Span l23), .any 6 (mapI mk290 false en_int l26).froz]) [4, 1] ⟨rfl, rfl, trivial⟩ (sp_call (avs := [.agg [.val (.bool b18), .val (.bool b19), .ref 3, .val (.int .i64 i20)], .ref 6, .val (.int .i64 i25), .fn 120 [] []]) (need := [.ro 3 2 (List.map en_api_Span l23), .any 6 (mapI mk290 false en_int l26).froz]) (v := .ref 9) (news := [.inv 9 (mapI mk290 false en_int r27)]) rfl rfl rfl Try.call119 (FC.fnArg (args := [.agg [.val (.bool b18), .val (.bool b19), .ref 3, .val (.int .i64 i20)], .ref 6, .val (.int .i64 i25), .ref 8]) (needC := []) (need := [.ro 3 2 (List.map en_api_Span l23), .any 6 (mapI mk290 false en_int l26).froz]) 3 (first := []) (caps := []) (FC.needJ (need := [.any 8 (D.fn Try.prog fe_funcint_bool fd_funcint_bool (fun a => ev_strike_Misses_1 n a)), .ro 3 2 (List.map en_api_Span l23), .any 6 (mapI mk290 false en_int l26).froz]) (need' := [.ro 3 2 (List.map en_api_Span l23), .any 6 (mapI mk290 false en_int l26).froz, .any 8 (D.fn Try.prog fe_funcint_bool fd_funcint_bool (fun a => ev_strike_Misses_1 n a))]) [1, 2, 0] ⟨rfl, rfl, rfl, trivial⟩ (atJ [(0, 3), (1, 6), (2, 8)] [(0, 9)] (fc_strike_train_after h18) rfl rfl)) rfl Try.call120 (fun a b hab => atJ [] [] (fc_strike_Misses_1 hab) rfl rfl) rfl (fun _ => rfl) (fun _ => rfl) rfl rfl rfl rfl rfl rfl rfl) (.inl (roAll rfl))) rfl trivial rfl rfl ?_
      refine op0 (sp_assign rfl rfl) rfl trivial rfl rfl ?_
      refine TL.nil ?_
      refine TC.inBlock ?_
      refine TC.region ?_
      refine op0 (sp_move rfl rfl) rfl trivial rfl rfl ?_
      obtain ⟨h19, h⟩ := chk_inv h
      refine op0 (sp_add rfl rfl rfl h19) rfl trivial rfl rfl ?_
      refine op0 (sp_assign rfl rfl) rfl trivial rfl rfl ?_
      refine TL.nil ?_
      refine TC.inLoop ?_
      refine TC.seq ?_
      refine TC.seq ?_
      refine subJ [(6, 9)] (ih _ _ h) ?_ ?_ ?_
      · exact ⟨rfl, rfl, rfl, rfl, rfl, rfl, rfl, rfl, rfl, trivial⟩
      · exact ⟨mem_at 1 rfl, mem_at 0 rfl, mem_at 3 rfl, mem_at 4 rfl, mem_at 5 rfl, trivial⟩
      · rfl
    · have h := cond_f h h17
      refine TC.exit rfl ?_
      refine TC.seq ?_
      refine TC.region ?_
      refine op1 0 rfl (sp_loadBA rfl isBlk rfl vt191 rfl rfl) rfl trivial rfl rfl ?_
      refine op0 (sp_move rfl rfl) rfl trivial rfl rfl ?_
      refine op0 (sp_move rfl rfl) rfl trivial rfl rfl ?_
      refine op0 (sp_makeFunc (fi := []) (ca := [.tmp 12]) (fa := []) (cb := [.ptr 7 0]) rfl rfl rfl) rfl trivial rfl rfl ?_
      refine TL.freeze 1 rfl ?_
      refine TL.freeze 2 rfl ?_
      obtain ⟨r28, h20, h⟩ := bind_inv h
      refine opN (need := [.ro 3 2 (List.map en_api_Span l23), .any 6 (mapI mk290 false en_int l26).froz, .rob 7 [.val (.int .i64 x24.1), .val (.int .i64 x24.2)] 157]) [4, 1, 2] ⟨rfl, rfl, rfl, trivial⟩ (sp_call (avs := [.agg [.val (.bool b18), .val (.bool b19), .ref 3, .val (.int .i64 i20)], .ref 6, .val (.int .i64 i25), .fn 121 [] [.ptr 7 0]]) (need := [.ro 3 2 (List.map en_api_Span l23), .any 6 (mapI mk290 false en_int l26).froz, .rob 7 [.val (.int .i64 x24.1), .val (.int .i64 x24.2)] 157]) (v := .ref 11) (news := [.inv 11 (mapI mk290 false en_int r28)]) rfl rfl rfl Try.call119 (FC.needJ (need := [.ro 3 2 (List.map en_api_Span l23), .any 6 (mapI mk290 false en_int l26).froz, .rob 7 [.val (.int .i64 x24.1), .val (.int .i64 x24.2)] 157]) (need' := [.rob 7 [.val (.int .i64 x24.1), .val (.int .i64 x24.2)] 157, .ro 3 2 (List.map en_api_Span l23), .any 6 (mapI mk290 false en_int l26).froz]) [2, 0, 1] ⟨rfl, rfl, rfl, trivial⟩ (FC.fnArg (args := [.agg [.val (.bool b18), .val (.bool b19), .ref 3, .val (.int .i64 i20)], .ref 6, .val (.int .i64 i25), .ref 10]) (needC := [.rob 7 [.val (.int .i64 x24.1), .val (.int .i64 x24.2)] 157]) (need := [.ro 3 2 (List.map en_api_Span l23), .any 6 (mapI mk290 false en_int l26).froz]) 3 (first := []) (caps := [.ptr 7 0]) (FC.needJ (need := [.any 10 (D.fn Try.prog fe_funcint_bool fd_funcint_bool (fun a => ev_strike_Misses_2 n a x24.1 x24.2)), .ro 3 2 (List.map en_api_Span l23), .any 6 (mapI mk290 false en_int l26).froz]) (need' := [.ro 3 2 (List.map en_api_Span l23), .any 6 (mapI mk290 false en_int l26).froz, .any 10 (D.fn Try.prog fe_funcint_bool fd_funcint_bool (fun a => ev_strike_Misses_2 n a x24.1 x24.2))]) [1, 2, 0] ⟨rfl, rfl, rfl, trivial⟩ (atJ [(0, 3), (1, 6), (2, 10)] [(0, 11)] (fc_strike_train_after h20) rfl rfl)) rfl Try.call121 (fun a b hab => atJ [(0, 7)] [] (fc_strike_Misses_2 hab) rfl rfl) rfl (fun _ => rfl) (fun _ => rfl) rfl rfl rfl rfl rfl rfl rfl)) (.inl (roAll rfl))) rfl trivial rfl rfl ?_
      refine op0 (sp_assign rfl rfl) rfl trivial rfl rfl ?_
      refine TL.nil ?_
      refine TC.region ?_
      refine op0 (sp_move rfl rfl) rfl trivial rfl rfl ?_
      obtain ⟨h21, h⟩ := chk_inv h
      refine op0 (sp_add rfl rfl rfl h21) rfl trivial rfl rfl ?_
      refine op0 (sp_assign rfl rfl) rfl trivial rfl rfl ?_
      refine TL.nil ?_
      refine TC.inBlock ?_
      refine TC.region ?_
      obtain ⟨h22, h⟩ := chk_inv h
      refine op0 (sp_add rfl rfl rfl h22) rfl trivial rfl rfl ?_
      refine op0 (sp_move rfl rfl) rfl trivial rfl rfl ?_
      refine TL.nil ?_
      refine TC.inLoop ?_
      refine TC.seq ?_
      refine subJ [(6, 11)] (hk_strike_Misses_l2 _ _ _ _ _ _ _ _ h) ?_ ?_ ?_
      · exact ⟨rfl, rfl, rfl, rfl, rfl, rfl, rfl, rfl, trivial⟩
      · exact ⟨mem_at 1 rfl, mem_at 0 rfl, mem_at 4 rfl, mem_at 5 rfl, trivial⟩
      · rfl
def ev_strike_Misses_l4 (n : Nat) : Nat → Int → (List Int) → Bool → (List (Int × Int)) → Option (Int × (List Int) × Int)
  | 0, _, _, _, _ => none
  | m + 1, i29, l30, b31, l32 => nextAll l32 (fun x33 l34 => cond b31 (ev_strike_Misses_l4 n m x33.2 ([x33.1] : List Int) false l34) (cond (decide (x33.2 < i29)) (ev_strike_Misses_l4 n m x33.2 ([x33.1] : List Int) false l34) (cond (x33.2 == i29) (chk (room 8 (l30.length + ([x33.1] : List Int).length)) <| ev_strike_Misses_l4 n m i29 (l30 ++ ([x33.1] : List Int)) b31 l34) (ev_strike_Misses_l4 n m i29 l30 b31 l34)))) ((ev_slices_Sort_Lint_int n l30).bind fun r35 => some (i29, r35, 0))
set_option maxRecDepth 100000 in
set_option maxHeartbeats 2000000 in
theorem ok_strike_Misses_l4 {n : Nat} {w0 : World} {R0 : Nat → Prop} {env0 : Env} {r : Int × (List Int) × Int} : ∀ (m : Nat) (i29 : Int) (l30 : List Int) (b31 : Bool) (l32 : List (Int × Int)), ev_strike_Misses_l4 n m i29 l30 b31 l32 = some r → TC Try.prog ⟨w0, fun _ => False, R0⟩ 109 (bodyPost Try.prog Try.f53 (Post ⟨w0, fun _ => False, R0⟩ env0 (.tup [.val (.int .i64 r.1), .ref 0, .val (.int .i64 r.2.2)]) [.row 0 3 1 (List.map en_int r.2.1)])) [.code (sub (bodyOf Try.f53) [1, 1, 1, 1, 1, 1, 1, 1, 1, 0, 1, 0, 0, 0]), .code (sub (bodyOf Try.f53) [1, 1, 1, 1, 1, 1, 1, 1, 1, 0, 1, 0, 0, 1]), .inLoop (sub (bodyOf Try.f53) [1, 1, 1, 1, 1, 1, 1, 1, 1, 0, 1, 0, 0]), .inBlock 6, .code (sub (bodyOf Try.f53) [1, 1, 1, 1, 1, 1, 1, 1, 1, 1])] ([(4, .val (.int .i64 i29)), (5, .ref 14), (13, .val (.bool b31)), (81, .ref 13)]) ([.row 14 3 1 (List.map en_int l30), .inv 13 (mitI mk290 false en_int l32 none)]) := by
  intro m
  induction m with
  | zero => intro i29 l30 b31 l32 h; exact none_no h
  | succ m ih =>
    intro i29 l30 b31 l32 h
    rw [ev_strike_Misses_l4] at h
    refine TC.region ?_
    refine TL.nextS 1 rfl rfl rfl rfl rfl rfl rfl rfl rfl rfl rfl (fun h25 => ?_) (fun x33 l34 h24 => ?_)
    · have h := nextAll_end h h25
      refine TL.nil ?_
      refine TC.seq ?_
      refine TC.condF rfl ?_
      refine TC.exit rfl ?_
      refine TC.seq ?_
      refine TC.region ?_
      refine op0 (sp_move rfl rfl) rfl trivial rfl rfl ?_
      obtain ⟨r35, h26, h⟩ := bind_inv h
      refine opT (take := [.row 14 3 1 (List.map en_int l30)]) (need := []) (V' := [.row 14 3 1 (List.map en_int r35), .inv 13 (mitI mk290 false en_int l32 none)]) [0] [] (ts_call (avs := [.ref 14]) (take := [.row 14 3 1 (List.map en_int l30)]) (need := []) (v := .tup []) (news := [.row 14 3 1 (List.map en_int r35)]) rfl rfl rfl Try.call122 (atT [(0, 14)] [(0, 14)] (ft_slices_Sort_Lint_int h26) rfl rfl rfl) rfl rfl) trivial rfl ⟨rfl, trivial⟩ trivial rfl rfl ?_
      refine TL.nil ?_
      refine TC.seq ?_
      refine TC.region ?_
      refine op0 (sp_move rfl rfl) rfl trivial rfl rfl ?_
      refine op0 (sp_move rfl rfl) rfl trivial rfl rfl ?_
      refine op0 (sp_assign rfl rfl) rfl trivial rfl rfl ?_
      refine op0 (sp_assign rfl rfl) rfl trivial rfl rfl ?_
      refine op0 (sp_assign rfl rfl) rfl trivial rfl rfl ?_
      refine TL.nil ?_
      cases h
      exact retJ [(0, 14)] (.tmp rfl (.tmp rfl (.tmp rfl .nil))) rfl ⟨mem_at 0 rfl, trivial⟩ rfl rfl
    · have h := nextAll_sel h h24
      refine TL.nil ?_
      refine TC.seq ?_
      refine TC.condT rfl ?_
      refine TC.skip ?_
      refine TC.block ?_
      refine TC.seq ?_
      refine TC.region ?_
      refine op1 1 rfl (sp_entry (ag := false) (ka := .val (.int .i64 x33.1)) (va := .val (.int .i64 x33.2)) (ns := []) rfl rfl (fun _ => rfl) (.v (.nil)) rfl rfl) rfl trivial rfl rfl ?_
      refine op0 (sp_extract rfl rfl rfl) rfl trivial rfl rfl ?_
      refine op0 (sp_extract rfl rfl rfl) rfl trivial rfl rfl ?_
      refine op0 (sp_assign rfl rfl) rfl trivial rfl rfl ?_
      refine op0 (sp_assign rfl rfl) rfl trivial rfl rfl ?_
      refine TL.nil ?_
      refine TC.block ?_
      refine TC.seq ?_
      refine TC.region ?_
      refine op0 (sp_move rfl rfl) rfl trivial rfl rfl ?_
      refine op0 (sp_move rfl rfl) rfl trivial rfl rfl ?_
      rcases cond_cases h with ⟨h27, h⟩ | ⟨h27, h⟩
      · refine (boolLit 89 rfl h27).2 ?_
        refine opSkip rfl ⟨_, rfl, .inl rfl⟩ rfl ?_
        refine opSkip rfl ⟨_, rfl, .inl rfl⟩ rfl ?_
        refine opSkip rfl ⟨_, rfl, .inl rfl⟩ rfl ?_
        refine op0 (sp_pickT rfl rfl rfl) rfl trivial rfl rfl ?_
        refine op0 (sp_assign rfl rfl) rfl trivial rfl rfl ?_
        refine TL.nil ?_
        refine TC.condT rfl ?_
        refine TC.region ?_
        refine op0 (sp_move rfl rfl) rfl trivial rfl rfl ?_
        refine op0 (sp_move rfl rfl) rfl trivial rfl rfl ?_
        refine op0 (sp_buildSlice (qs := [.val (.int .i64 x33.1)]) (need := []) (els := List.map en_int ([x33.1] : List Int)) 15 rfl sl50 (by decide) (by decide) rfl rfl rfl (.v (.nil)) (map_len fun _ => rfl) rfl rfl rfl) rfl trivial rfl rfl ?_
        refine op0 (sp_assign rfl rfl) rfl trivial rfl rfl ?_
        refine op0 (sp_assign rfl rfl) rfl trivial rfl rfl ?_
        refine op0 (sp_assign rfl rfl) rfl trivial rfl rfl ?_
        refine TL.nil ?_
        refine TC.inBlock ?_
        refine TC.inBlock ?_
        refine TC.inLoop ?_
        refine TC.seq ?_
        refine TC.forget 2 rfl ?_
        refine subJ [(14, 15)] (ih _ _ _ _ h) ?_ ?_ ?_
        · exact ⟨rfl, rfl, rfl, rfl, trivial⟩
        · exact ⟨mem_at 0 rfl, mem_at 2 rfl, trivial⟩
        · rfl
      · refine (boolLit 89 rfl h27).2 ?_
        refine op0 (sp_move rfl rfl) rfl ⟨_, rfl, rfl⟩ rfl rfl ?_
        refine op0 (sp_move rfl rfl) rfl ⟨_, rfl, rfl⟩ rfl rfl ?_
        refine op0 (sp_lss rfl rfl rfl) rfl ⟨_, rfl, rfl⟩ rfl rfl ?_
        refine op0 (sp_pickF rfl rfl rfl) rfl trivial rfl rfl ?_
        refine op0 (sp_assign rfl rfl) rfl trivial rfl rfl ?_
        refine TL.nil ?_
        refine TC.cond (b := (decide (x33.2 < i29))) rfl (fun h28 => ?_) (fun h28 => ?_)
        · have h := cond_t h h28
          refine TC.region ?_
          refine op0 (sp_move rfl rfl) rfl trivial rfl rfl ?_
          refine op0 (sp_move rfl rfl) rfl trivial rfl rfl ?_
          refine op0 (sp_buildSlice (qs := [.val (.int .i64 x33.1)]) (need := []) (els := List.map en_int ([x33.1] : List Int)) 16 rfl sl50 (by decide) (by decide) rfl rfl rfl (.v (.nil)) (map_len fun _ => rfl) rfl rfl rfl) rfl trivial rfl rfl ?_
          refine op0 (sp_assign rfl rfl) rfl trivial rfl rfl ?_
          refine op0 (sp_assign rfl rfl) rfl trivial rfl rfl ?_
          refine op0 (sp_assign rfl rfl) rfl trivial rfl rfl ?_
          refine TL.nil ?_
          refine TC.inBlock ?_
          refine TC.inBlock ?_
          refine TC.inLoop ?_
          refine TC.seq ?_
          refine TC.forget 2 rfl ?_
          refine subJ [(14, 16)] (ih _ _ _ _ h) ?_ ?_ ?_
          · exact ⟨rfl, rfl, rfl, rfl, trivial⟩
          · exact ⟨mem_at 0 rfl, mem_at 2 rfl, trivial⟩
          · rfl
        · have h := cond_f h h28
          refine TC.seq ?_
          refine TC.region ?_
          refine op0 (sp_move rfl rfl) rfl trivial rfl rfl ?_
          refine op0 (sp_move rfl rfl) rfl trivial rfl rfl ?_
          refine op0 (sp_eql rfl rfl rfl) rfl trivial rfl rfl ?_
          refine op0 (sp_assign rfl rfl) rfl trivial rfl rfl ?_
          refine TL.nil ?_
          refine TC.cond (b := (x33.2 == i29)) rfl (fun h29 => ?_) (fun h29 => ?_)
          · have h := cond_t h h29
            refine TC.region ?_
            refine op0 (sp_move rfl rfl) rfl trivial rfl rfl ?_
            refine op0 (sp_move rfl rfl) rfl trivial rfl rfl ?_
            refine op0 (sp_buildSlice (qs := [.val (.int .i64 x33.1)]) (need := []) (els := List.map en_int ([x33.1] : List Int)) 17 rfl sl50 (by decide) (by decide) rfl rfl rfl (.v (.nil)) (map_len fun _ => rfl) rfl rfl rfl) rfl trivial rfl rfl ?_
            obtain ⟨h30, h⟩ := chk_inv h
            refine appM 1 0 (N := l30.length) (N2 := ([x33.1] : List Int).length) 18 rfl rfl trivial rfl rfl rfl rfl rfl isOwn rfl sl50 (len_map _ _) (len_map _ _) h30 (map_app _ _ _) rfl ?_
            refine op0 (sp_assign rfl rfl) rfl trivial rfl rfl ?_
            refine TL.nil ?_
            refine TC.inBlock ?_
            refine TC.inBlock ?_
            refine TC.inLoop ?_
            refine TC.seq ?_
            refine TC.forget 2 rfl ?_
            refine subJ [(14, 18)] (ih _ _ _ _ h) ?_ ?_ ?_
            · exact ⟨rfl, rfl, rfl, rfl, trivial⟩
            · exact ⟨mem_at 0 rfl, mem_at 2 rfl, trivial⟩
            · rfl
          · have h := cond_f h h29
            refine TC.skip ?_
            refine TC.inBlock ?_
            refine TC.inBlock ?_
            refine TC.inLoop ?_
            refine TC.seq ?_
            refine TC.forget 1 rfl ?_
            refine subJ [] (ih _ _ _ _ h) ?_ ?_ ?_
            · exact ⟨rfl, rfl, rfl, rfl, trivial⟩
            · exact ⟨mem_at 0 rfl, mem_at 1 rfl, trivial⟩
            · rfl
def ev_strike_Misses_l2 (n : Nat) (l10 : List (Int × Int)) : Nat → Int → Int → Bool → Bool → Int → (List (Int × Int)) → (List (Int × Int)) → (List (Int × Int)) → Option (Int × (List Int) × Int)
  | 0, _, _, _, _, _, _, _, _ => none
  | m + 1, i16, i17, b18, b19, i20, l21, l22, l23 => cond (decide (i17 < (l10.length : Int))) (idx l22 i17 fun x24 => ev_strike_Misses_l3 n x24 b18 b19 l23 i20 i17 l22 (fun i16q i17q b18q b19q i20q l21q l22q l23q => ev_strike_Misses_l2 n l10 m i16q i17q b18q b19q i20q l21q l22q l23q) n i16 l21) (cond ((l21.length : Int) == 0) (some (0, ([] : List Int), 9)) (ev_strike_Misses_l4 n n 0 ([] : List Int) true l21))
set_option maxRecDepth 100000 in
set_option maxHeartbeats 2000000 in
theorem ok_strike_Misses_l2 {n : Nat} {w0 : World} {R0 : Nat → Prop} {env0 : Env} {r : Int × (List Int) × Int} {l10 : List (Int × Int)} : ∀ (m : Nat) (i16 : Int) (i17 : Int) (b18 : Bool) (b19 : Bool) (i20 : Int) (l21 : List (Int × Int)) (l22 : List (Int × Int)) (l23 : List (Int × Int)), ev_strike_Misses_l2 n l10 m i16 i17 b18 b19 i20 l21 l22 l23 = some r → TC Try.prog ⟨w0, fun _ => False, R0⟩ 109 (bodyPost Try.prog Try.f53 (Post ⟨w0, fun _ => False, R0⟩ env0 (.tup [.val (.int .i64 r.1), .ref 0, .val (.int .i64 r.2.2)]) [.row 0 3 1 (List.map en_int r.2.1)])) [.code (sub (bodyOf Try.f53) [1, 1, 1, 1, 1, 1, 0, 1, 0, 0, 0]), .code (sub (bodyOf Try.f53) [1, 1, 1, 1, 1, 1, 0, 1, 0, 0, 1]), .inLoop (sub (bodyOf Try.f53) [1, 1, 1, 1, 1, 1, 0, 1, 0, 0]), .inBlock 2, .code (sub (bodyOf Try.f53) [1, 1, 1, 1, 1, 1, 1])] ([(4, .val (.int .i64 0)), (5, .val (.slice none 0 0)), (7, .ptr 4 0), (8, .ref 6), (9, .val (.int .i64 i16)), (53, .ref 1), (54, .val (.int .i64 (l10.length : Int))), (55, .val (.int .i64 i17))]) ([.blk 4 [.val (.bool b18), .val (.bool b19), .ref 3, .val (.int .i64 i20)] 191, .inv 6 (mapI mk290 false en_int l21), .ro 1 2 (List.map en_api_StrikeHeard l22), .ro 3 2 (List.map en_api_Span l23)]) := by
  intro m
  induction m with
  | zero => intro i16 i17 b18 b19 i20 l21 l22 l23 h; exact none_no h
  | succ m ih =>
    intro i16 i17 b18 b19 i20 l21 l22 l23 h
    rw [ev_strike_Misses_l2] at h
    refine TC.region ?_
    refine op0 (sp_lss rfl rfl rfl) rfl trivial rfl rfl ?_
    refine TL.nil ?_
    refine TC.seq ?_
    refine TC.cond (b := (decide (i17 < (l10.length : Int)))) rfl (fun h14 => ?_) (fun h14 => ?_)
    · have h := cond_t h h14
      refine TC.skip ?_
      refine TC.seq ?_
      refine TC.block ?_
      refine TC.seq ?_
      refine TC.region ?_
      obtain ⟨x24, h15, h16, h⟩ := idx_inv h
      refine op1 2 rfl (sp_indexS rfl rfl rfl isRo sl152 h15 (map_get _ h16)) rfl trivial rfl rfl ?_
      refine op1 2 rfl (sp_loadRA (i := (i17 : Int).toNat) (j := 0) (as_ := [.val (.int .i64 x24.1), .val (.int .i64 x24.2)]) (ns := []) rfl rfl isRo vt157 rfl (map_get _ h16) rfl rfl (by decide) (.v (.v (.nil))) (nodup_of_B rfl)) rfl trivial rfl rfl ?_
      refine op0 (sp_alloc 7 rfl Try.zeroValue157 rfl) rfl trivial rfl rfl ?_
      refine stoB 0 (cells' := [.val (.int .i64 x24.1), .val (.int .i64 x24.2)]) rfl rfl trivial rfl rfl rfl rfl vt157 rfl rfl rfl ?_
      refine TL.nil ?_
      refine TC.seq ?_
      refine TC.block ?_
      refine TC.loop ?_
      refine TC.seq ?_
      refine TC.seq ?_
      refine subJ [] (ok_strike_Misses_l3 (l10 := l10) ih _ _ _ h) ?_ ?_ ?_
      · exact ⟨rfl, rfl, rfl, rfl, rfl, rfl, rfl, rfl, rfl, trivial⟩
      · exact ⟨mem_at 1 rfl, mem_at 2 rfl, mem_at 0 rfl, mem_at 3 rfl, mem_at 4 rfl, trivial⟩
      · rfl
    · have h := cond_f h h14
      refine TC.exit rfl ?_
      refine TC.seq ?_
      refine TC.seq ?_
      refine TC.region ?_
      refine op0 (sp_move rfl rfl) rfl trivial rfl rfl ?_
      refine op1 1 rfl (sp_lenMap rfl rfl isMapO Try.underlying290) rfl trivial rfl rfl ?_
      refine op0 (sp_eql rfl rfl rfl) rfl trivial rfl rfl ?_
      refine TL.nil ?_
      refine TC.cond (b := ((l21.length : Int) == 0)) rfl (fun h23 => ?_) (fun h23 => ?_)
      · have h := cond_t h h23
        refine TC.seq ?_
        refine TC.region ?_
        refine op0 (sp_assign rfl rfl) rfl trivial rfl rfl ?_
        refine op0 (sp_assign rfl rfl) rfl trivial rfl rfl ?_
        refine op0 (sp_assign rfl rfl) rfl trivial rfl rfl ?_
        refine TL.nil ?_
        refine nilRowC 5 12 3 1 (List.map en_int []) rfl rfl rfl ?_
        cases h
        exact retJ [(0, 12)] (.tmp rfl (.tmp rfl (.tmp rfl .nil))) rfl ⟨mem_at 0 rfl, trivial⟩ rfl rfl
      · have h := cond_f h h23
        refine TC.skip ?_
        refine TC.seq ?_
        refine TC.region ?_
        refine op0 (sp_assign rfl rfl) rfl trivial rfl rfl ?_
        refine TL.nil ?_
        refine TC.seq ?_
        refine TC.seq ?_
        refine TC.region ?_
        refine op0 (sp_move rfl rfl) rfl trivial rfl rfl ?_
        refine TL.freeze 1 rfl ?_
        refine op1 1 rfl (sp_range (ek := mk290) (ag := false) (ev := en_int) (xs := l21) 13 rfl rfl Try.underlying290) rfl trivial rfl rfl ?_
        refine TL.nil ?_
        refine TC.block ?_
        refine TC.loop ?_
        refine TC.seq ?_
        refine nilRowC 5 19 3 1 (List.map en_int []) rfl rfl rfl ?_
        refine subJ [(14, 19)] (ok_strike_Misses_l4 _ _ _ _ _ h) ?_ ?_ ?_
        · exact ⟨rfl, rfl, rfl, rfl, trivial⟩
        · exact ⟨mem_at 0 rfl, mem_at 1 rfl, trivial⟩
        · rfl
def ev_strike_Misses_l1 (n : Nat) (r5 : Bool × Bool × (List (Int × Int)) × Int × Int) (x8 : Int × Int) : Nat → Int → (List (Int × Int)) → Bool → Bool → Int → (List (Int × Int)) → (List (Int × Int)) → Option (Int × (List Int) × Int)
  | 0, _, _, _, _, _, _, _ => none
  | m + 1, i9, l10, b11, b12, i13, l14, l15 => cond (decide (i9 < r5.2.2.2.1)) (cond (!b12) (chk (in64 (i9 + 1)) <| ev_strike_Misses_l1 n r5 x8 m (i9 + 1) l10 b11 b12 i13 (mputS kl290 l14 i9 0) l15) (chk (i13 != 0) <| cond (i9 == (Int.tmod x8.1 i13)) (chk (in64 (i9 + 1)) <| ev_strike_Misses_l1 n r5 x8 m (i9 + 1) l10 b11 b12 i13 (mputS kl290 l14 i9 0) l15) (chk (in64 (i9 + 1)) <| ev_strike_Misses_l1 n r5 x8 m (i9 + 1) l10 b11 b12 i13 l14 l15))) (ev_strike_Misses_l2 n l10 n x8.1 0 b11 b12 i13 l14 l10 l15)
set_option maxRecDepth 100000 in
set_option maxHeartbeats 2000000 in
theorem ok_strike_Misses_l1 {n : Nat} {w0 : World} {R0 : Nat → Prop} {env0 : Env} {r : Int × (List Int) × Int} {x8 : Int × Int} {r5 : Bool × Bool × (List (Int × Int)) × Int × Int} : ∀ (m : Nat) (i9 : Int) (l10 : List (Int × Int)) (b11 : Bool) (b12 : Bool) (i13 : Int) (l14 : List (Int × Int)) (l15 : List (Int × Int)), ev_strike_Misses_l1 n r5 x8 m i9 l10 b11 b12 i13 l14 l15 = some r → TC Try.prog ⟨w0, fun _ => False, R0⟩ 109 (bodyPost Try.prog Try.f53 (Post ⟨w0, fun _ => False, R0⟩ env0 (.tup [.val (.int .i64 r.1), .ref 0, .val (.int .i64 r.2.2)]) [.row 0 3 1 (List.map en_int r.2.1)])) [.code (sub (bodyOf Try.f53) [1, 1, 1, 1, 1, 0, 1, 0, 0, 0]), .code (sub (bodyOf Try.f53) [1, 1, 1, 1, 1, 0, 1, 0, 0, 1]), .inLoop (sub (bodyOf Try.f53) [1, 1, 1, 1, 1, 0, 1, 0, 0]), .inBlock 0, .code (sub (bodyOf Try.f53) [1, 1, 1, 1, 1, 1])] ([(1, .ref 1), (4, .val (.int .i64 0)), (5, .val (.slice none 0 0)), (7, .ptr 4 0), (8, .ref 6), (9, .val (.int .i64 x8.1)), (34, .val (.int .i64 r5.2.2.2.1)), (35, .val (.int .i64 i9))]) ([.ro 1 2 (List.map en_api_StrikeHeard l10), .blk 4 [.val (.bool b11), .val (.bool b12), .ref 3, .val (.int .i64 i13)] 191, .inv 6 (mapI mk290 false en_int l14), .ro 3 2 (List.map en_api_Span l15)]) := by
  intro m
  induction m with
  | zero => intro i9 l10 b11 b12 i13 l14 l15 h; exact none_no h
  | succ m ih =>
    intro i9 l10 b11 b12 i13 l14 l15 h
    rw [ev_strike_Misses_l1] at h
    refine TC.region ?_
    refine op0 (sp_lss rfl rfl rfl) rfl trivial rfl rfl ?_
    refine TL.nil ?_
    refine TC.seq ?_
    refine TC.cond (b := (decide (i9 < r5.2.2.2.1))) rfl (fun h7 => ?_) (fun h7 => ?_)
    · have h := cond_t h h7
      refine TC.skip ?_
      refine TC.seq ?_
      refine TC.block ?_
      refine TC.seq ?_
      refine TC.region ?_
      refine op0 (sp_move rfl rfl) rfl trivial rfl rfl ?_
      refine op0 (sp_assign rfl rfl) rfl trivial rfl rfl ?_
      refine TL.nil ?_
      refine TC.seq ?_
      refine TC.region ?_
      refine op1 1 rfl (sp_fieldAddrB rfl isBlk rfl ft191_0 vt48 (by decide)) rfl trivial rfl rfl ?_
      refine op1 1 rfl (sp_fieldAddrB rfl isBlk rfl ft48_1 vt4 (by decide)) rfl trivial rfl rfl ?_
      refine op1 1 rfl (sp_loadB rfl isBlk rfl vt4 rfl) rfl trivial rfl rfl ?_
      refine op0 (sp_not rfl rfl) rfl trivial rfl rfl ?_
      refine op0 (sp_move rfl rfl) rfl trivial rfl rfl ?_
      rcases cond_cases h with ⟨h8, h⟩ | ⟨h8, h⟩
      · refine (boolLit 42 rfl h8).2 ?_
        refine opSkip rfl ⟨_, rfl, .inl rfl⟩ rfl ?_
        refine opSkip rfl ⟨_, rfl, .inl rfl⟩ rfl ?_
        refine opSkip rfl ⟨_, rfl, .inl rfl⟩ rfl ?_
        refine opSkip rfl ⟨_, rfl, .inl rfl⟩ rfl ?_
        refine opSkip rfl ⟨_, rfl, .inl rfl⟩ rfl ?_
        refine opSkip rfl ⟨_, rfl, .inl rfl⟩ rfl ?_
        refine op0 (sp_pickT rfl rfl rfl) rfl trivial rfl rfl ?_
        refine TL.nil ?_
        refine TC.condT rfl ?_
        refine TC.region ?_
        refine op0 (sp_move rfl rfl) rfl trivial rfl rfl ?_
        refine op0 (sp_move rfl rfl) rfl trivial rfl rfl ?_
        refine opT (take := [.inv 6 (mapI mk290 false en_int l14)]) (need := []) (V' := [.inv 6 (mapI mk290 false en_int (mputS kl290 l14 i9 0)), .ro 1 2 (List.map en_api_StrikeHeard l10), .blk 4 [.val (.bool b11), .val (.bool b12), .ref 3, .val (.int .i64 i13)] 191, .ro 3 2 (List.map en_api_Span l15)]) [2] [] (ts_mapUpdate (need := []) i9 0 rfl rfl rfl (fun _ => rfl) rfl rfl rfl (.v (.nil)) km290 (fun h => mputS_perm kl290 _ _ h)) trivial rfl ⟨rfl, trivial⟩ trivial rfl rfl ?_
        refine TL.nil ?_
        refine TC.inBlock ?_
        refine TC.region ?_
        obtain ⟨h9, h⟩ := chk_inv h
        refine op0 (sp_add rfl rfl rfl h9) rfl trivial rfl rfl ?_
        refine op0 (sp_move rfl rfl) rfl trivial rfl rfl ?_
        refine TL.nil ?_
        refine TC.inLoop ?_
        refine TC.seq ?_
        refine subJ [] (ih _ _ _ _ _ _ _ h) ?_ ?_ ?_
        · exact ⟨rfl, rfl, rfl, rfl, rfl, rfl, rfl, rfl, trivial⟩
        · exact ⟨mem_at 1 rfl, mem_at 2 rfl, mem_at 0 rfl, mem_at 3 rfl, trivial⟩
        · rfl
      · refine (boolLit 42 rfl h8).2 ?_
        refine op0 (sp_move rfl rfl) rfl ⟨_, rfl, rfl⟩ rfl rfl ?_
        refine op0 (sp_move rfl rfl) rfl ⟨_, rfl, rfl⟩ rfl rfl ?_
        refine op1 1 rfl (sp_fieldAddrB rfl isBlk rfl ft191_1 vt3 (by decide)) rfl ⟨_, rfl, rfl⟩ rfl rfl ?_
        refine op1 1 rfl (sp_loadB rfl isBlk rfl vt3 rfl) rfl ⟨_, rfl, rfl⟩ rfl rfl ?_
        obtain ⟨h10, h⟩ := chk_inv h
        refine op0 (sp_rem rfl rfl rfl h10) rfl ⟨_, rfl, rfl⟩ rfl rfl ?_
        refine op0 (sp_eql rfl rfl rfl) rfl ⟨_, rfl, rfl⟩ rfl rfl ?_
        refine op0 (sp_pickF rfl rfl rfl) rfl trivial rfl rfl ?_
        refine TL.nil ?_
        refine TC.cond (b := (i9 == (Int.tmod x8.1 i13))) rfl (fun h11 => ?_) (fun h11 => ?_)
        · have h := cond_t h h11
          refine TC.region ?_
          refine op0 (sp_move rfl rfl) rfl trivial rfl rfl ?_
          refine op0 (sp_move rfl rfl) rfl trivial rfl rfl ?_
          refine opT (take := [.inv 6 (mapI mk290 false en_int l14)]) (need := []) (V' := [.inv 6 (mapI mk290 false en_int (mputS kl290 l14 i9 0)), .ro 1 2 (List.map en_api_StrikeHeard l10), .blk 4 [.val (.bool b11), .val (.bool b12), .ref 3, .val (.int .i64 i13)] 191, .ro 3 2 (List.map en_api_Span l15)]) [2] [] (ts_mapUpdate (need := []) i9 0 rfl rfl rfl (fun _ => rfl) rfl rfl rfl (.v (.nil)) km290 (fun h => mputS_perm kl290 _ _ h)) trivial rfl ⟨rfl, trivial⟩ trivial rfl rfl ?_
          refine TL.nil ?_
          refine TC.inBlock ?_
          refine TC.region ?_
          obtain ⟨h12, h⟩ := chk_inv h
          refine op0 (sp_add rfl rfl rfl h12) rfl trivial rfl rfl ?_
          refine op0 (sp_move rfl rfl) rfl trivial rfl rfl ?_
          refine TL.nil ?_
          refine TC.inLoop ?_
          refine TC.seq ?_
          refine subJ [] (ih _ _ _ _ _ _ _ h) ?_ ?_ ?_
          · exact ⟨rfl, rfl, rfl, rfl, rfl, rfl, rfl, rfl, trivial⟩
          · exact ⟨mem_at 1 rfl, mem_at 2 rfl, mem_at 0 rfl, mem_at 3 rfl, trivial⟩
          · rfl
        · have h := cond_f h h11
          refine TC.skip ?_
          refine TC.inBlock ?_
          refine TC.region ?_
          obtain ⟨h13, h⟩ := chk_inv h
          refine op0 (sp_add rfl rfl rfl h13) rfl trivial rfl rfl ?_
          refine op0 (sp_move rfl rfl) rfl trivial rfl rfl ?_
          refine TL.nil ?_
          refine TC.inLoop ?_
          refine TC.seq ?_
          refine subJ [] (ih _ _ _ _ _ _ _ h) ?_ ?_ ?_
          · exact ⟨rfl, rfl, rfl, rfl, rfl, rfl, rfl, rfl, trivial⟩
          · exact ⟨mem_at 0 rfl, mem_at 1 rfl, mem_at 2 rfl, mem_at 3 rfl, trivial⟩
          · rfl
    · have h := cond_f h h7
      refine TC.exit rfl ?_
      refine TC.seq ?_
      refine TC.seq ?_
      refine TC.region ?_
      refine op0 (sp_move rfl rfl) rfl trivial rfl rfl ?_
      refine op1 0 rfl (sp_lenM (N := l10.length) (len_map _ _) rfl rfl isRo Try.underlying152) rfl trivial rfl rfl ?_
      refine op0 (sp_move rfl rfl) rfl trivial rfl rfl ?_
      refine TL.nil ?_
      refine TC.block ?_
      refine TC.loop ?_
      refine TC.seq ?_
      refine subJ [] (ok_strike_Misses_l2 _ _ _ _ _ _ _ _ _ h) ?_ ?_ ?_
      · exact ⟨rfl, rfl, rfl, rfl, rfl, rfl, rfl, rfl, trivial⟩
      · exact ⟨mem_at 1 rfl, mem_at 2 rfl, mem_at 0 rfl, mem_at 3 rfl, trivial⟩
      · rfl
def ev_strike_Misses_j0 (n : Nat) (heard4 : List (Int × Int)) (r5 : Bool × Bool × (List (Int × Int)) × Int × Int) (i7 : Int) : Option (Int × (List Int) × Int) :=
  cond (i7 != 0) (some (0, ([] : List Int), i7)) (idx heard4 0 fun x8 => ev_strike_Misses_l1 n r5 x8 n 0 heard4 r5.1 r5.2.1 r5.2.2.2.1 ([] : List (Int × Int)) r5.2.2.1)
set_option maxRecDepth 100000 in
set_option maxHeartbeats 2000000 in
theorem ok_strike_Misses_j0 {n : Nat} {w0 : World} {R0 : Nat → Prop} {env0 : Env} {r : Int × (List Int) × Int} {heard4 : List (Int × Int)} {r5 : Bool × Bool × (List (Int × Int)) × Int × Int} {i7 : Int} (h : ev_strike_Misses_j0 n heard4 r5 i7 = some r) : TC Try.prog ⟨w0, fun _ => False, R0⟩ 109 (bodyPost Try.prog Try.f53 (Post ⟨w0, fun _ => False, R0⟩ env0 (.tup [.val (.int .i64 r.1), .ref 0, .val (.int .i64 r.2.2)]) [.row 0 3 1 (List.map en_int r.2.1)])) [.code (sub (bodyOf Try.f53) [1, 1, 1, 0, 0]), .code (sub (bodyOf Try.f53) [1, 1, 1, 0, 1]), .code (sub (bodyOf Try.f53) [1, 1, 1, 1])] ([(1, .ref 1), (4, .val (.int .i64 0)), (5, .val (.slice none 0 0)), (6, .val (.int .i64 i7)), (7, .ptr 4 0)]) ([.ro 1 2 (List.map en_api_StrikeHeard heard4), .blk 4 [.val (.bool r5.1), .val (.bool r5.2.1), .ref 3, .val (.int .i64 r5.2.2.2.1)] 191, .ro 3 2 (List.map en_api_Span r5.2.2.1)]) := by
  rw [ev_strike_Misses_j0] at h
  refine TC.region ?_
  refine op0 (sp_move rfl rfl) rfl trivial rfl rfl ?_
  refine op0 (sp_neq rfl rfl rfl) rfl trivial rfl rfl ?_
  refine TL.nil ?_
  refine TC.cond (b := (i7 != 0)) rfl (fun h4 => ?_) (fun h4 => ?_)
  · have h := cond_t h h4
    refine TC.seq ?_
    refine TC.region ?_
    refine op0 (sp_move rfl rfl) rfl trivial rfl rfl ?_
    refine op0 (sp_assign rfl rfl) rfl trivial rfl rfl ?_
    refine op0 (sp_assign rfl rfl) rfl trivial rfl rfl ?_
    refine op0 (sp_assign rfl rfl) rfl trivial rfl rfl ?_
    refine TL.nil ?_
    refine nilRowC 5 5 3 1 (List.map en_int []) rfl rfl rfl ?_
    cases h
    exact retJ [(0, 5)] (.tmp rfl (.tmp rfl (.tmp rfl .nil))) rfl ⟨mem_at 0 rfl, trivial⟩ rfl rfl
  · have h := cond_f h h4
    refine TC.skip ?_
    refine TC.seq ?_
    obtain ⟨x8, h5, h6, h⟩ := idx_inv h
    refine drawJ 6 [⟨.ref 6, [.inv 6 (mapI mk290 false en_int ([] : List (Int × Int)))], [], []⟩, ⟨.ref 1, [], [], []⟩, ⟨.cell 1 ((0 : Int).toNat * 2), [], [.ro 1 2 (List.map en_api_StrikeHeard heard4)], []⟩, ⟨.cell 1 ((0 : Int).toNat * 2 + 0), [], [.ro 1 2 (List.map en_api_StrikeHeard heard4)], []⟩, ⟨.val (.int .i64 x8.1), [], [.ro 1 2 (List.map en_api_StrikeHeard heard4)], []⟩, ⟨.ref 6, [], [], []⟩] rfl ?_ rfl ?_ rfl ?_ ?_
    · kernel_rfl
    · kernel_rfl
    · exact DAll.op' (sp_makeMap (ek := mk290) (ag := false) (ev := en_int) 6 ([] : List (Int × Int)) rfl rfl) trivial rfl (From.ok (ps := []) trivial) (DAll.op' (sp_move rfl rfl) trivial rfl (From.ok (ps := []) trivial) (DAll.op' (sp_indexS rfl rfl rfl isRo sl152 h5 (map_get _ h6)) trivial rfl (From.ok (ps := [(none, 0)]) ⟨⟨rfl, rfl⟩, trivial⟩) (DAll.op' (sp_fieldAddrR (i := (0 : Int).toNat) rfl rfl isRo ft157_0 vt3 (by decide) (map_get _ h6) (fun h => nomatch h)) trivial rfl (From.ok (ps := [(none, 0)]) ⟨⟨rfl, rfl⟩, trivial⟩) (DAll.op' (sp_loadR (i := (0 : Int).toNat) (j := 0) rfl rfl isRo vt3 rfl (map_get _ h6) rfl (.v (.nil)) (nodup_of_B rfl)) trivial rfl (From.ok (ps := [(none, 0)]) ⟨⟨rfl, rfl⟩, trivial⟩) (DAll.op' (sp_assign rfl rfl) trivial rfl (From.ok (ps := []) trivial) (.nil))))))
    refine op0 (sp_assign rfl rfl) rfl trivial rfl rfl ?_
    refine TL.nil ?_
    refine TC.seq ?_
    refine TC.seq ?_
    refine TC.region ?_
    refine op1 2 rfl (sp_fieldAddrB rfl isBlk rfl ft191_1 vt3 (by decide)) rfl trivial rfl rfl ?_
    refine op1 2 rfl (sp_loadB rfl isBlk rfl vt3 rfl) rfl trivial rfl rfl ?_
    refine op0 (sp_move rfl rfl) rfl trivial rfl rfl ?_
    refine TL.nil ?_
    refine TC.block ?_
    refine TC.loop ?_
    refine TC.seq ?_
    refine subJ [] (ok_strike_Misses_l1 _ _ _ _ _ _ _ _ h) ?_ ?_ ?_
    · exact ⟨rfl, rfl, rfl, rfl, rfl, rfl, rfl, rfl, trivial⟩
    · exact ⟨mem_at 1 rfl, mem_at 2 rfl, mem_at 0 rfl, mem_at 3 rfl, trivial⟩
    · rfl
def ev_strike_Misses (n : Nat) (rr1 : Bool) (rr2 : Bool) (rr3 : List (Int × Int)) (heard4 : List (Int × Int)) : Option (Int × (List Int) × Int) :=
  (ev_strike_open n rr1 rr2 rr3).bind fun r5 => cond (r5.2.2.2.2 == 0) ((ev_strike_checkHeard n heard4).bind fun r6 => ev_strike_Misses_j0 n heard4 r5 r6) (ev_strike_Misses_j0 n heard4 r5 r5.2.2.2.2)
set_option maxRecDepth 100000 in
set_option maxHeartbeats 2000000 in
theorem fc_strike_Misses {n : Nat} {rr1 : Bool} {rr2 : Bool} {rr3 : List (Int × Int)} {heard4 : List (Int × Int)} {r : Int × (List Int) × Int} (h : ev_strike_Misses n rr1 rr2 rr3 heard4 = some r) : FC Try.prog 53 [.agg [.val (.bool rr1), .val (.bool rr2), .ref 0], .ref 1] [.ro 0 2 (List.map en_api_Span rr3), .ro 1 2 (List.map en_api_StrikeHeard heard4)] (.tup [.val (.int .i64 r.1), .ref 0, .val (.int .i64 r.2.2)]) [.row 0 3 1 (List.map en_int r.2.1)] := by
  refine introJ (nz := 109) Try.func53 rfl rfl rfl (fun w0 R0 env0 => ?_)
  rw [ev_strike_Misses] at h
  refine TC.seq ?_
  refine TC.region ?_
  refine op0 (sp_box 2 rfl rfl rfl rfl rfl) rfl trivial rfl rfl ?_
  refine op0 (sp_assign rfl rfl) rfl trivial rfl rfl ?_
  refine op0 (sp_assign rfl rfl) rfl trivial rfl rfl ?_
  refine op0 (sp_assign rfl rfl) rfl trivial rfl rfl ?_
  refine TL.nil ?_
  refine TC.seq ?_
  refine TC.region ?_
  refine op1 0 rfl (sp_loadBA rfl isBlk rfl vt48 rfl rfl) rfl trivial rfl rfl ?_
  obtain ⟨r5, h1, h⟩ := bind_inv h
  refine op1 1 rfl (sp_call (avs := [.agg [.val (.bool rr1), .val (.bool rr2), .ref 0]]) (need := [.ro 0 2 (List.map en_api_Span rr3)]) (v := .tup [.agg [.val (.bool r5.1), .val (.bool r5.2.1), .ref 3, .val (.int .i64 r5.2.2.2.1)], .val (.int .i64 r5.2.2.2.2)]) (news := [.ro 3 2 (List.map en_api_Span r5.2.2.1)]) rfl rfl rfl Try.call70 (atJ [] [(0, 3)] (fc_strike_open h1) rfl rfl) (.inl (roAll rfl))) rfl trivial rfl rfl ?_
  refine op0 (sp_move rfl rfl) rfl trivial rfl rfl ?_
  refine op0 (sp_extract rfl rfl rfl) rfl trivial rfl rfl ?_
  refine op0 (sp_extract rfl rfl rfl) rfl trivial rfl rfl ?_
  refine op0 (sp_alloc 4 rfl Try.zeroValue191 rfl) rfl trivial rfl rfl ?_
  refine stoB 0 (cells' := [.val (.bool r5.1), .val (.bool r5.2.1), .ref 3, .val (.int .i64 r5.2.2.2.1)]) rfl rfl trivial rfl rfl rfl rfl vt191 rfl rfl rfl ?_
  refine op0 (sp_assign rfl rfl) rfl trivial rfl rfl ?_
  refine TL.nil ?_
  refine TC.seq ?_
  refine TC.seq ?_
  refine TC.region ?_
  refine op0 (sp_move rfl rfl) rfl trivial rfl rfl ?_
  refine op0 (sp_eql rfl rfl rfl) rfl trivial rfl rfl ?_
  refine TL.nil ?_
  refine TC.cond (b := (r5.2.2.2.2 == 0)) rfl (fun h2 => ?_) (fun h2 => ?_)
  · have h := cond_t h h2
    refine TC.region ?_
    refine op0 (sp_move rfl rfl) rfl trivial rfl rfl ?_
    obtain ⟨r6, h3, h⟩ := bind_inv h
    refine op1 4 rfl (sp_call (avs := [.ref 1]) (need := [.ro 1 2 (List.map en_api_StrikeHeard heard4)]) (v := .val (.int .i64 r6)) (news := []) rfl rfl rfl Try.call118 (atJ [(0, 1)] [] (fc_strike_checkHeard h3) rfl rfl) (.inl (roAll rfl))) rfl trivial rfl rfl ?_
    refine op0 (sp_assign rfl rfl) rfl trivial rfl rfl ?_
    refine TL.nil ?_
    refine TC.seq ?_
    refine TC.seq ?_
    refine subJ [] (ok_strike_Misses_j0 h) ?_ ?_ ?_
    · exact ⟨rfl, rfl, rfl, rfl, rfl, trivial⟩
    · exact ⟨mem_at 4 rfl, mem_at 0 rfl, mem_at 1 rfl, trivial⟩
    · rfl
  · have h := cond_f h h2
    refine TC.skip ?_
    refine TC.seq ?_
    refine TC.seq ?_
    refine subJ [] (ok_strike_Misses_j0 h) ?_ ?_ ?_
    · exact ⟨rfl, rfl, rfl, rfl, rfl, trivial⟩
    · exact ⟨mem_at 4 rfl, mem_at 0 rfl, mem_at 1 rfl, trivial⟩
    · rfl
end
end Go.Proofs.Ytgkoldcmbcbbpaa.Sy
