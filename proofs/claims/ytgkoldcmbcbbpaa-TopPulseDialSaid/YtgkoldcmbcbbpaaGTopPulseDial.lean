/- What functions of the program compute, and that they do: printed by symgen.py. -/
import Derived.Test.YtgkoldcmbcbbpaaGLib
import Derived.Test.YtgkoldcmbcbbpaaGDial
import Derived.Test.YtgkoldcmbcbbpaaGPulse
set_option linter.unusedSimpArgs false
set_option linter.unusedVariables false
namespace Go.Proofs.Ytgkoldcmbcbbpaa.Sy
open Go.RowKit
noncomputable section

/- top_TopPulseDial -/
def ev_top_TopPulseDial_l1 (n : Nat) (r4 : (List (Int × Int)) × Int × Int) (from_1 : Int) (many2 : Int) (r5 : Int × Int) (r6 : Int × Int) : Nat → Int → Option Bool
  | 0, _ => none
  | m + 1, i7 => cond (decide (i7 < 2)) (chk (in64 ((60 : Int) * i7)) <| chk (in64 (r4.2.2 - r4.2.1)) <| chk (in64 (((60 : Int) * i7) * (r4.2.2 - r4.2.1))) <| (ev_top_pubSpan n (((60 : Int) * i7) * (r4.2.2 - r4.2.1)) (((60 : Int) * i7) * (r4.2.2 - r4.2.1))).bind fun r8 => chk (in64 ((60 : Int) * ((Int.tmod from_1 50000) + many2))) <| (ev_dial_Shows n 60 r8.1 r8.2 ([(0, 0, [], 0, 0)] : List (Int × Int × (List (Int × Int × Int)) × Int × Int)) 0 ((60 : Int) * ((Int.tmod from_1 50000) + many2)) 0 0).bind fun r9 => chk (decide (0 ≤ i7) && decide (i7 < 2)) <| idx ([r5.1, r6.1] : List Int) i7 fun x10 => chk (in64 ((60 : Int) * x10)) <| cond (r9.2 != 0) (some false) (cond ((r9.1.length : Int) != 1) (some false) (idx r9.1 0 fun x11 => (ev_top_pubSpan n ((60 : Int) * x10) ((60 : Int) * x10)).bind fun r12 => cond (!((x11.1 == r12.1) && (x11.2 == r12.2))) (some false) (chk (in64 (i7 + 1)) <| ev_top_TopPulseDial_l1 n r4 from_1 many2 r5 r6 m (i7 + 1))))) ((ev_top_pubDial n).bind fun r13 => cond r13 ((ev_top_pubPulse n).bind fun r14 => some r14) (some false))
set_option maxRecDepth 100000 in
set_option maxHeartbeats 2000000 in
theorem ok_top_TopPulseDial_l1 {n : Nat} {w0 : World} {R0 : Nat → Prop} {env0 : Env} {r : Bool} {from_1 : Int} {many2 : Int} {r4 : (List (Int × Int)) × Int × Int} {r5 : Int × Int} {r6 : Int × Int} : ∀ (m : Nat) (i7 : Int), ev_top_TopPulseDial_l1 n r4 from_1 many2 r5 r6 m i7 = some r → TC Try.prog ⟨w0, fun _ => False, R0⟩ 112 (bodyPost Try.prog Try.f11 (Post ⟨w0, fun _ => False, R0⟩ env0 (.val (.bool r)) [])) [.code (sub (bodyOf Try.f11) [1, 1, 1, 1, 1, 1, 1, 0, 1, 0, 0, 0, 0]), .code (sub (bodyOf Try.f11) [1, 1, 1, 1, 1, 1, 1, 0, 1, 0, 0, 0, 1]), .code (sub (bodyOf Try.f11) [1, 1, 1, 1, 1, 1, 1, 0, 1, 0, 0, 1]), .inLoop (sub (bodyOf Try.f11) [1, 1, 1, 1, 1, 1, 1, 0, 1, 0, 0]), .inBlock 0, .code (sub (bodyOf Try.f11) [1, 1, 1, 1, 1, 1, 1, 1])] ([(8, .val (.int .i64 ((Int.tmod from_1 50000) + many2))), (10, .val (.int .i64 r4.2.1)), (11, .val (.int .i64 r4.2.2)), (12, .val (.int .i64 r5.1)), (14, .val (.int .i64 r6.1)), (16, .val (.int .i64 i7))]) ([]) := by
  intro m
  induction m with
  | zero => intro i7 h; exact none_no h
  | succ m ih =>
    intro i7 h
    rw [ev_top_TopPulseDial_l1] at h
    refine TC.region ?_
    refine op0 (sp_move rfl rfl) rfl trivial rfl rfl ?_
    refine op0 (sp_lss rfl rfl rfl) rfl trivial rfl rfl ?_
    refine TL.nil ?_
    refine TC.cond (b := (decide (i7 < 2))) rfl (fun h9 => ?_) (fun h9 => ?_)
    · have h := cond_t h h9
      refine TC.skip ?_
      refine TC.seq ?_
      refine TC.block ?_
      refine TC.seq ?_
      refine TC.region ?_
      refine op0 (sp_move rfl rfl) rfl trivial rfl rfl ?_
      obtain ⟨h10, h⟩ := chk_inv h
      refine op0 (sp_mul rfl rfl rfl h10) rfl trivial rfl rfl ?_
      refine op0 (sp_move rfl rfl) rfl trivial rfl rfl ?_
      refine op0 (sp_move rfl rfl) rfl trivial rfl rfl ?_
      obtain ⟨h11, h⟩ := chk_inv h
      refine op0 (sp_sub rfl rfl rfl h11) rfl trivial rfl rfl ?_
      obtain ⟨h12, h⟩ := chk_inv h
      refine op0 (sp_mul rfl rfl rfl h12) rfl trivial rfl rfl ?_
      refine op0 (sp_assign rfl rfl) rfl trivial rfl rfl ?_
      refine TL.nil ?_
      refine TC.seq ?_
      refine TC.region ?_
      refine op0 (sp_move rfl rfl) rfl trivial rfl rfl ?_
      refine op0 (sp_move rfl rfl) rfl trivial rfl rfl ?_
      obtain ⟨r8, h13, h⟩ := bind_inv h
      refine op0 (sp_call (avs := [.val (.int .i64 (((60 : Int) * i7) * (r4.2.2 - r4.2.1))), .val (.int .i64 (((60 : Int) * i7) * (r4.2.2 - r4.2.1)))]) (need := []) (v := .agg [.val (.int .i64 r8.1), .val (.int .i64 r8.2)]) (news := []) rfl rfl rfl Try.call20 (atJ [] [] (fc_top_pubSpan h13) rfl rfl) (.inl (roAll rfl))) rfl trivial rfl rfl ?_
      refine op0 (sp_build (qs := []) rfl bt107 rfl rfl rfl rfl) rfl trivial rfl rfl ?_
      refine op0 (sp_buildSlice (qs := [.agg [.val (.int .i64 0), .val (.int .i64 0), .val (.slice none 0 0), .val (.int .i64 0), .val (.int .i64 0)]]) (need := []) (els := List.map en_api_DialFace ([(0, 0, [], 0, 0)] : List (Int × Int × (List (Int × Int × Int)) × Int × Int))) 3 rfl sl109 (by decide) (by decide) rfl rfl rfl (.v (.v (.n (.v (.v (.nil)))))) (map_len fun _ => rfl) rfl rfl rfl) rfl trivial rfl rfl ?_
      refine op0 (sp_build (qs := [(0, .val (.int .i64 60)), (1, .agg [.val (.int .i64 r8.1), .val (.int .i64 r8.2)]), (2, .ref 3)]) rfl bt111 rfl rfl rfl rfl) rfl trivial rfl rfl ?_
      refine op0 (sp_alloc 4 rfl Try.zeroValue111 rfl) rfl trivial rfl rfl ?_
      refine stoB 0 (cells' := [.val (.int .i64 60), .val (.int .i64 r8.1), .val (.int .i64 r8.2), .ref 3]) rfl rfl trivial rfl rfl rfl rfl vt111 rfl rfl rfl ?_
      refine TL.nil ?_
      refine TC.seq ?_
      refine TC.region ?_
      refine op1 0 rfl (sp_loadBA rfl isBlk rfl vt111 rfl rfl) rfl trivial rfl rfl ?_
      refine op0 (sp_move rfl rfl) rfl trivial rfl rfl ?_
      obtain ⟨h14, h⟩ := chk_inv h
      refine op0 (sp_mul rfl rfl rfl h14) rfl trivial rfl rfl ?_
      refine op0 (sp_build (qs := []) rfl bt34 rfl rfl rfl rfl) rfl trivial rfl rfl ?_
      obtain ⟨r9, h15, h⟩ := bind_inv h
      refine op1 1 rfl (sp_call (avs := [.agg [.val (.int .i64 60), .val (.int .i64 r8.1), .val (.int .i64 r8.2), .ref 3], .val (.int .i64 0), .val (.int .i64 ((60 : Int) * ((Int.tmod from_1 50000) + many2))), .agg [.val (.int .i64 0), .val (.int .i64 0)]]) (need := [.row 3 107 5 (List.map en_api_DialFace ([(0, 0, [], 0, 0)] : List (Int × Int × (List (Int × Int × Int)) × Int × Int)))]) (v := .tup [.ref 5, .val (.int .i64 r9.2)]) (news := [.row 5 34 2 (List.map en_api_Span r9.1)]) rfl rfl rfl Try.call43 (atJ [(0, 3)] [(500, 5)] (fc_dial_Shows h15) rfl rfl) (.inr (List.forall_mem_cons.2 ⟨indep_map en_api_Span_flat, (by simp)⟩))) rfl trivial rfl rfl ?_
      refine op0 (sp_move rfl rfl) rfl trivial rfl rfl ?_
      refine op0 (sp_extract rfl rfl rfl) rfl trivial rfl rfl ?_
      refine op0 (sp_extract rfl rfl rfl) rfl trivial rfl rfl ?_
      refine op0 (sp_assign rfl rfl) rfl trivial rfl rfl ?_
      refine op0 (sp_assign rfl rfl) rfl trivial rfl rfl ?_
      refine TL.nil ?_
      refine TC.seq ?_
      refine TC.region ?_
      refine op0 (sp_move rfl rfl) rfl trivial rfl rfl ?_
      refine op0 (sp_move rfl rfl) rfl trivial rfl rfl ?_
      refine op0 (sp_build (qs := [(0, .val (.int .i64 r5.1)), (1, .val (.int .i64 r6.1))]) rfl bt149 rfl rfl rfl rfl) rfl trivial rfl rfl ?_
      refine op0 (sp_move rfl rfl) rfl trivial rfl rfl ?_
      obtain ⟨h18, h⟩ := chk_inv h
      obtain ⟨x10, h16, h17, h⟩ := idx_inv h
      refine op0 (sp_index rfl rfl rfl Try.underlying149 vt3 h18 (map_get (fun z => AV.val (.int .i64 z)) h17)) rfl trivial rfl rfl ?_
      obtain ⟨h19, h⟩ := chk_inv h
      refine op0 (sp_mul rfl rfl rfl h19) rfl trivial rfl rfl ?_
      refine op0 (sp_assign rfl rfl) rfl trivial rfl rfl ?_
      refine TL.nil ?_
      refine TC.seq ?_
      rcases cond_cases h with ⟨h20, h⟩ | ⟨h20, h⟩
      · refine drawJ 14 [⟨.val (.int .i64 r9.2), [], [], []⟩, ⟨.val (.bool (r9.2 != 0)), [], [], []⟩, ⟨.val (.bool true), [], [], []⟩, ⟨.val (undef), [], [], []⟩, ⟨.val (undef), [], [], []⟩, ⟨.val (undef), [], [], []⟩, ⟨.val (.bool true), [], [], []⟩, ⟨.val (.bool true), [], [], []⟩, ⟨.val (undef), [], [], []⟩, ⟨.val (undef), [], [], []⟩, ⟨.val (undef), [], [], []⟩, ⟨.val (undef), [], [], []⟩, ⟨.val (undef), [], [], []⟩, ⟨.val (undef), [], [], []⟩] rfl ?_ rfl ?_ rfl ?_ ?_
        · kernel_rfl
        · kernel_rfl
        · exact DAll.op' (sp_move rfl rfl) trivial rfl (From.ok (ps := []) trivial) (DAll.op' (sp_neq rfl rfl rfl) trivial rfl (From.ok (ps := []) trivial) (DAll.op' (sp_castB h20 (sp_move rfl rfl)) trivial rfl (From.ok (ps := []) trivial) (.skip ⟨_, rfl, .inl rfl⟩ rfl rfl rfl (.skip ⟨_, rfl, .inl rfl⟩ rfl rfl rfl (.skip ⟨_, rfl, .inl rfl⟩ rfl rfl rfl (DAll.op' (sp_pickT rfl rfl rfl) trivial rfl (From.ok (ps := []) trivial) (DAll.op' (sp_move rfl rfl) trivial rfl (From.ok (ps := []) trivial) (.skip ⟨_, rfl, .inl rfl⟩ rfl rfl rfl (.skip ⟨_, rfl, .inl rfl⟩ rfl rfl rfl (.skip ⟨_, rfl, .inl rfl⟩ rfl rfl rfl (.skip ⟨_, rfl, .inl rfl⟩ rfl rfl rfl (.skip ⟨_, rfl, .inl rfl⟩ rfl rfl rfl (.skip ⟨_, rfl, .inl rfl⟩ rfl rfl rfl (.nil))))))))))))))
        refine opSkip rfl ⟨_, rfl, .inl rfl⟩ rfl ?_
        refine op0 (sp_pickT rfl rfl rfl) rfl trivial rfl rfl ?_
        refine TL.nil ?_
        refine TC.condT rfl ?_
        refine TC.seq ?_
        refine TC.region ?_
        refine op0 (sp_assign rfl rfl) rfl trivial rfl rfl ?_
        refine TL.nil ?_
        cases h
        exact retJ [] (.tmp rfl .nil) rfl trivial rfl rfl
      · rcases cond_cases h with ⟨h21, h⟩ | ⟨h21, h⟩
        · refine drawJ 14 [⟨.val (.int .i64 r9.2), [], [], []⟩, ⟨.val (.bool (r9.2 != 0)), [], [], []⟩, ⟨.val (.bool false), [], [], []⟩, ⟨.ref 5, [], [], []⟩, ⟨.val (.int .i64 (r9.1.length : Int)), [], [.row 5 34 2 (List.map en_api_Span r9.1)], []⟩, ⟨.val (.bool ((r9.1.length : Int) != 1)), [], [], []⟩, ⟨.val (.bool ((r9.1.length : Int) != 1)), [], [], []⟩, ⟨.val (.bool true), [], [], []⟩, ⟨.val (undef), [], [], []⟩, ⟨.val (undef), [], [], []⟩, ⟨.val (undef), [], [], []⟩, ⟨.val (undef), [], [], []⟩, ⟨.val (undef), [], [], []⟩, ⟨.val (undef), [], [], []⟩] rfl ?_ rfl ?_ rfl ?_ ?_
          · kernel_rfl
          · kernel_rfl
          · exact DAll.op' (sp_move rfl rfl) trivial rfl (From.ok (ps := []) trivial) (DAll.op' (sp_neq rfl rfl rfl) trivial rfl (From.ok (ps := []) trivial) (DAll.op' (sp_castB h20 (sp_move rfl rfl)) trivial rfl (From.ok (ps := []) trivial) (DAll.op' (sp_move rfl rfl) ⟨_, rfl, rfl⟩ rfl (From.ok (ps := []) trivial) (DAll.op' (sp_lenM (N := r9.1.length) (len_map _ _) rfl rfl isOwn Try.underlying39) ⟨_, rfl, rfl⟩ rfl (From.ok (ps := [(none, 0)]) ⟨⟨rfl, rfl⟩, trivial⟩) (DAll.op' (sp_neq rfl rfl rfl) ⟨_, rfl, rfl⟩ rfl (From.ok (ps := []) trivial) (DAll.op' (sp_pickF rfl rfl rfl) trivial rfl (From.ok (ps := []) trivial) (DAll.op' (sp_castB h21 (sp_move rfl rfl)) trivial rfl (From.ok (ps := []) trivial) (.skip ⟨_, rfl, .inl rfl⟩ rfl rfl rfl (.skip ⟨_, rfl, .inl rfl⟩ rfl rfl rfl (.skip ⟨_, rfl, .inl rfl⟩ rfl rfl rfl (.skip ⟨_, rfl, .inl rfl⟩ rfl rfl rfl (.skip ⟨_, rfl, .inl rfl⟩ rfl rfl rfl (.skip ⟨_, rfl, .inl rfl⟩ rfl rfl rfl (.nil))))))))))))))
          refine opSkip rfl ⟨_, rfl, .inl rfl⟩ rfl ?_
          refine op0 (sp_pickT rfl rfl rfl) rfl trivial rfl rfl ?_
          refine TL.nil ?_
          refine TC.condT rfl ?_
          refine TC.seq ?_
          refine TC.region ?_
          refine op0 (sp_assign rfl rfl) rfl trivial rfl rfl ?_
          refine TL.nil ?_
          cases h
          exact retJ [] (.tmp rfl .nil) rfl trivial rfl rfl
        · obtain ⟨x11, h22, h23, h⟩ := idx_inv h
          obtain ⟨r12, h24, h⟩ := bind_inv h
          refine drawJ 14 [⟨.val (.int .i64 r9.2), [], [], []⟩, ⟨.val (.bool (r9.2 != 0)), [], [], []⟩, ⟨.val (.bool false), [], [], []⟩, ⟨.ref 5, [], [], []⟩, ⟨.val (.int .i64 (r9.1.length : Int)), [], [.row 5 34 2 (List.map en_api_Span r9.1)], []⟩, ⟨.val (.bool ((r9.1.length : Int) != 1)), [], [], []⟩, ⟨.val (.bool ((r9.1.length : Int) != 1)), [], [], []⟩, ⟨.val (.bool false), [], [], []⟩, ⟨.ref 5, [], [], []⟩, ⟨.cell 5 ((0 : Int).toNat * 2), [], [.row 5 34 2 (List.map en_api_Span r9.1)], []⟩, ⟨.agg [.val (.int .i64 x11.1), .val (.int .i64 x11.2)], [], [.row 5 34 2 (List.map en_api_Span r9.1)], []⟩, ⟨.val (.int .i64 ((60 : Int) * x10)), [], [], []⟩, ⟨.val (.int .i64 ((60 : Int) * x10)), [], [], []⟩, ⟨.agg [.val (.int .i64 r12.1), .val (.int .i64 r12.2)], [], [], []⟩] rfl ?_ rfl ?_ rfl ?_ ?_
          · kernel_rfl
          · kernel_rfl
          · exact DAll.op' (sp_move rfl rfl) trivial rfl (From.ok (ps := []) trivial) (DAll.op' (sp_neq rfl rfl rfl) trivial rfl (From.ok (ps := []) trivial) (DAll.op' (sp_castB h20 (sp_move rfl rfl)) trivial rfl (From.ok (ps := []) trivial) (DAll.op' (sp_move rfl rfl) ⟨_, rfl, rfl⟩ rfl (From.ok (ps := []) trivial) (DAll.op' (sp_lenM (N := r9.1.length) (len_map _ _) rfl rfl isOwn Try.underlying39) ⟨_, rfl, rfl⟩ rfl (From.ok (ps := [(none, 0)]) ⟨⟨rfl, rfl⟩, trivial⟩) (DAll.op' (sp_neq rfl rfl rfl) ⟨_, rfl, rfl⟩ rfl (From.ok (ps := []) trivial) (DAll.op' (sp_pickF rfl rfl rfl) trivial rfl (From.ok (ps := []) trivial) (DAll.op' (sp_castB h21 (sp_move rfl rfl)) trivial rfl (From.ok (ps := []) trivial) (DAll.op' (sp_move rfl rfl) ⟨_, rfl, rfl⟩ rfl (From.ok (ps := []) trivial) (DAll.op' (sp_indexS rfl rfl rfl isOwn sl39 h22 (map_get _ h23)) ⟨_, rfl, rfl⟩ rfl (From.ok (ps := [(none, 0)]) ⟨⟨rfl, rfl⟩, trivial⟩) (DAll.op' (sp_loadRA (i := (0 : Int).toNat) (j := 0) (as_ := [.val (.int .i64 x11.1), .val (.int .i64 x11.2)]) (ns := []) rfl rfl isOwn vt34 rfl (map_get _ h23) rfl rfl (by decide) (.v (.v (.nil))) (nodup_of_B rfl)) ⟨_, rfl, rfl⟩ rfl (From.ok (ps := [(none, 0)]) ⟨⟨rfl, rfl⟩, trivial⟩) (DAll.op' (sp_move rfl rfl) ⟨_, rfl, rfl⟩ rfl (From.ok (ps := []) trivial) (DAll.op' (sp_move rfl rfl) ⟨_, rfl, rfl⟩ rfl (From.ok (ps := []) trivial) (DAll.op' (sp_call (avs := [.val (.int .i64 ((60 : Int) * x10)), .val (.int .i64 ((60 : Int) * x10))]) (need := []) (v := .agg [.val (.int .i64 r12.1), .val (.int .i64 r12.2)]) (news := []) rfl rfl rfl Try.call20 (atJ [] [] (fc_top_pubSpan h24) rfl rfl) (.inl (roAll rfl))) ⟨_, rfl, rfl⟩ rfl (From.ok (ps := []) trivial) (.nil))))))))))))))
          refine op0 (sp_neqS rfl rfl rfl rfl rfl (eq34 _ _ _ _)) rfl ⟨_, rfl, rfl⟩ rfl rfl ?_
          refine op0 (sp_pickF rfl rfl rfl) rfl trivial rfl rfl ?_
          refine TL.nil ?_
          refine TC.cond (b := (!((x11.1 == r12.1) && (x11.2 == r12.2)))) rfl (fun h25 => ?_) (fun h25 => ?_)
          · have h := cond_t h h25
            refine TC.seq ?_
            refine TC.region ?_
            refine op0 (sp_assign rfl rfl) rfl trivial rfl rfl ?_
            refine TL.nil ?_
            cases h
            exact retJ [] (.tmp rfl .nil) rfl trivial rfl rfl
          · have h := cond_f h h25
            refine TC.skip ?_
            refine TC.inBlock ?_
            refine TC.region ?_
            refine op0 (sp_move rfl rfl) rfl trivial rfl rfl ?_
            obtain ⟨h26, h⟩ := chk_inv h
            refine op0 (sp_add rfl rfl rfl h26) rfl trivial rfl rfl ?_
            refine op0 (sp_assign rfl rfl) rfl trivial rfl rfl ?_
            refine TL.nil ?_
            refine TC.inLoop ?_
            refine TC.seq ?_
            refine TC.seq ?_
            refine subJ [] (ih _ h) ?_ ?_ ?_
            · exact ⟨rfl, rfl, rfl, rfl, rfl, rfl, trivial⟩
            · exact trivial
            · rfl
    · have h := cond_f h h9
      refine TC.exit rfl ?_
      refine TC.seq ?_
      refine TC.region ?_
      obtain ⟨r13, h27, h⟩ := bind_inv h
      refine op0 (sp_call (avs := []) (need := []) (v := .val (.bool r13)) (news := []) rfl rfl rfl Try.call45 (atJ [] [] (fc_top_pubDial h27) rfl rfl) (.inl (roAll rfl))) rfl trivial rfl rfl ?_
      refine op0 (sp_move rfl rfl) rfl trivial rfl rfl ?_
      rcases cond_cases h with ⟨h28, h⟩ | ⟨h28, h⟩
      · refine (boolLit 109 rfl h28).2 ?_
        obtain ⟨r14, h29, h⟩ := bind_inv h
        refine op0 (sp_call (avs := []) (need := []) (v := .val (.bool r14)) (news := []) rfl rfl rfl Try.call52 (atJ [] [] (fc_top_pubPulse h29) rfl rfl) (.inl (roAll rfl))) rfl ⟨_, rfl, rfl⟩ rfl rfl ?_
        refine op0 (sp_pickT rfl rfl rfl) rfl trivial rfl rfl ?_
        refine op0 (sp_assign rfl rfl) rfl trivial rfl rfl ?_
        refine TL.nil ?_
        cases h
        exact retJ [] (.tmp rfl .nil) rfl trivial rfl rfl
      · refine (boolLit 109 rfl h28).2 ?_
        refine opSkip rfl ⟨_, rfl, .inl rfl⟩ rfl ?_
        refine op0 (sp_pickF rfl rfl rfl) rfl trivial rfl rfl ?_
        refine op0 (sp_assign rfl rfl) rfl trivial rfl rfl ?_
        refine TL.nil ?_
        cases h
        exact retJ [] (.tmp rfl .nil) rfl trivial rfl rfl
def ev_top_TopPulseDial_j0 (n : Nat) (r4 : (List (Int × Int)) × Int × Int) (from_1 : Int) (many2 : Int) (r5 : Int × Int) (r6 : Int × Int) : Option Bool :=
  ev_top_TopPulseDial_l1 n r4 from_1 many2 r5 r6 n 0
set_option maxRecDepth 100000 in
set_option maxHeartbeats 2000000 in
theorem ok_top_TopPulseDial_j0 {n : Nat} {w0 : World} {R0 : Nat → Prop} {env0 : Env} {r : Bool} {from_1 : Int} {many2 : Int} {r4 : (List (Int × Int)) × Int × Int} {r5 : Int × Int} {r6 : Int × Int} (h : ev_top_TopPulseDial_j0 n r4 from_1 many2 r5 r6 = some r) : TC Try.prog ⟨w0, fun _ => False, R0⟩ 112 (bodyPost Try.prog Try.f11 (Post ⟨w0, fun _ => False, R0⟩ env0 (.val (.bool r)) [])) [.code (sub (bodyOf Try.f11) [1, 1, 1, 1, 1, 1, 0, 1, 1]), .code (sub (bodyOf Try.f11) [1, 1, 1, 1, 1, 1, 1])] ([(8, .val (.int .i64 ((Int.tmod from_1 50000) + many2))), (10, .val (.int .i64 r4.2.1)), (11, .val (.int .i64 r4.2.2)), (12, .val (.int .i64 r5.1)), (14, .val (.int .i64 r6.1))]) ([]) := by
  rw [ev_top_TopPulseDial_j0] at h
  refine TC.skip ?_
  refine TC.seq ?_
  refine TC.seq ?_
  refine TC.region ?_
  refine op0 (sp_assign rfl rfl) rfl trivial rfl rfl ?_
  refine TL.nil ?_
  refine TC.block ?_
  refine TC.loop ?_
  refine TC.seq ?_
  refine TC.seq ?_
  refine subJ [] (ok_top_TopPulseDial_l1 _ _ h) ?_ ?_ ?_
  · exact ⟨rfl, rfl, rfl, rfl, rfl, rfl, trivial⟩
  · exact trivial
  · rfl
def ev_top_TopPulseDial (n : Nat) (from_1 : Int) (many2 : Int) (by_3 : List Int) : Option Bool :=
  chk (in64 from_1) <| chk (in64 many2) <| chk (in64 ((Int.tmod from_1 50000) + many2)) <| (ev_top_pubFaults n (Int.tmod from_1 50000) ((Int.tmod from_1 50000) + many2) by_3).bind fun r4 => (ev_pulse_Run n 0 0 0 (Int.tmod (Int.tmod from_1 50000) 720) (Int.tmod from_1 50000) ([]) ((Int.tmod from_1 50000) + many2)).bind fun r5 => (ev_pulse_Run n 0 0 0 (Int.tmod (Int.tmod from_1 50000) 720) (Int.tmod from_1 50000) r4.1 ((Int.tmod from_1 50000) + many2)).bind fun r6 => cond (r5.2 != 0) (some false) (cond (r6.2 != 0) (some false) (ev_top_TopPulseDial_j0 n r4 from_1 many2 r5 r6))
set_option maxRecDepth 100000 in
set_option maxHeartbeats 2000000 in
theorem fc_top_TopPulseDial {n : Nat} {from_1 : Int} {many2 : Int} {by_3 : List Int} {r : Bool} (h : ev_top_TopPulseDial n from_1 many2 by_3 = some r) : FC Try.prog 11 [.val (.int .u16 from_1), .val (.int .u8 many2), .ref 0] [.ro 0 1 (List.map en_uint8 by_3)] (.val (.bool r)) [] := by
  refine introJ (nz := 112) Try.func11 rfl rfl rfl (fun w0 R0 env0 => ?_)
  rw [ev_top_TopPulseDial] at h
  refine TC.seq ?_
  refine TC.region ?_
  refine op0 (sp_assign rfl rfl) rfl trivial rfl rfl ?_
  refine TL.nil ?_
  refine TC.seq ?_
  refine TC.region ?_
  refine op0 (sp_move rfl rfl) rfl trivial rfl rfl ?_
  obtain ⟨h1, h⟩ := chk_inv h
  refine op0 (sp_conv rfl Try.underlying46 Try.underlying3 rfl h1) rfl trivial rfl rfl ?_
  refine op0 (sp_rem rfl rfl rfl (by decide)) rfl trivial rfl rfl ?_
  refine op0 (sp_assign rfl rfl) rfl trivial rfl rfl ?_
  refine TL.nil ?_
  refine TC.seq ?_
  refine TC.region ?_
  refine op0 (sp_move rfl rfl) rfl trivial rfl rfl ?_
  refine op0 (sp_move rfl rfl) rfl trivial rfl rfl ?_
  obtain ⟨h2, h⟩ := chk_inv h
  refine op0 (sp_conv rfl Try.underlying5 Try.underlying3 rfl h2) rfl trivial rfl rfl ?_
  obtain ⟨h3, h⟩ := chk_inv h
  refine op0 (sp_add rfl rfl rfl h3) rfl trivial rfl rfl ?_
  refine op0 (sp_assign rfl rfl) rfl trivial rfl rfl ?_
  refine TL.nil ?_
  refine TC.seq ?_
  refine TC.region ?_
  refine op0 (sp_move rfl rfl) rfl trivial rfl rfl ?_
  refine op0 (sp_move rfl rfl) rfl trivial rfl rfl ?_
  refine op0 (sp_move rfl rfl) rfl trivial rfl rfl ?_
  obtain ⟨r4, h4, h⟩ := bind_inv h
  refine op1 0 rfl (sp_call (avs := [.val (.int .i64 (Int.tmod from_1 50000)), .val (.int .i64 ((Int.tmod from_1 50000) + many2)), .ref 0]) (need := [.ro 0 1 (List.map en_uint8 by_3)]) (v := .tup [.ref 1, .val (.int .i64 r4.2.1), .val (.int .i64 r4.2.2)]) (news := [.row 1 155 2 (List.map en_api_PulseFault r4.1)]) rfl rfl rfl Try.call50 (atJ [] [(0, 1)] (fc_top_pubFaults h4) rfl rfl) (.inl (roAll rfl))) rfl trivial rfl rfl ?_
  refine op0 (sp_move rfl rfl) rfl trivial rfl rfl ?_
  refine op0 (sp_extract rfl rfl rfl) rfl trivial rfl rfl ?_
  refine op0 (sp_extract rfl rfl rfl) rfl trivial rfl rfl ?_
  refine op0 (sp_extract rfl rfl rfl) rfl trivial rfl rfl ?_
  refine op0 (sp_assign rfl rfl) rfl trivial rfl rfl ?_
  refine op0 (sp_assign rfl rfl) rfl trivial rfl rfl ?_
  refine op0 (sp_assign rfl rfl) rfl trivial rfl rfl ?_
  refine TL.nil ?_
  refine TC.seq ?_
  refine TC.region ?_
  refine op0 (sp_build (qs := []) rfl bt148 rfl rfl rfl rfl) rfl trivial rfl rfl ?_
  refine op0 (sp_move rfl rfl) rfl trivial rfl rfl ?_
  refine op0 (sp_rem rfl rfl rfl (by decide)) rfl trivial rfl rfl ?_
  refine op0 (sp_move rfl rfl) rfl trivial rfl rfl ?_
  refine op0 (sp_move rfl rfl) rfl trivial rfl rfl ?_
  obtain ⟨r5, h5, h⟩ := bind_inv h
  refine op0 (sp_call (avs := [.agg [.val (.int .i64 0), .val (.int .i64 0), .val (.int .i64 0)], .val (.int .i64 (Int.tmod (Int.tmod from_1 50000) 720)), .val (.int .i64 (Int.tmod from_1 50000)), .val (.slice none 0 0), .val (.int .i64 ((Int.tmod from_1 50000) + many2))]) (need := []) (v := .tup [.val (.int .i64 r5.1), .val (.int .i64 r5.2)]) (news := []) rfl rfl rfl Try.call51 (FC.nil (args := [.agg [.val (.int .i64 0), .val (.int .i64 0), .val (.int .i64 0)], .val (.int .i64 (Int.tmod (Int.tmod from_1 50000) 720)), .val (.int .i64 (Int.tmod from_1 50000)), .ref 2, .val (.int .i64 ((Int.tmod from_1 50000) + many2))]) 2 2 (atJ [(0, 2)] [] (fc_pulse_Run h5) rfl rfl) rfl rfl rfl) (.inl (roAll rfl))) rfl trivial rfl rfl ?_
  refine op0 (sp_move rfl rfl) rfl trivial rfl rfl ?_
  refine op0 (sp_extract rfl rfl rfl) rfl trivial rfl rfl ?_
  refine op0 (sp_extract rfl rfl rfl) rfl trivial rfl rfl ?_
  refine op0 (sp_assign rfl rfl) rfl trivial rfl rfl ?_
  refine op0 (sp_assign rfl rfl) rfl trivial rfl rfl ?_
  refine TL.nil ?_
  refine TC.seq ?_
  refine TC.region ?_
  refine op0 (sp_build (qs := []) rfl bt148 rfl rfl rfl rfl) rfl trivial rfl rfl ?_
  refine op0 (sp_move rfl rfl) rfl trivial rfl rfl ?_
  refine op0 (sp_rem rfl rfl rfl (by decide)) rfl trivial rfl rfl ?_
  refine op0 (sp_move rfl rfl) rfl trivial rfl rfl ?_
  refine op0 (sp_move rfl rfl) rfl trivial rfl rfl ?_
  refine op0 (sp_move rfl rfl) rfl trivial rfl rfl ?_
  obtain ⟨r6, h6, h⟩ := bind_inv h
  refine op1 0 rfl (sp_call (avs := [.agg [.val (.int .i64 0), .val (.int .i64 0), .val (.int .i64 0)], .val (.int .i64 (Int.tmod (Int.tmod from_1 50000) 720)), .val (.int .i64 (Int.tmod from_1 50000)), .ref 1, .val (.int .i64 ((Int.tmod from_1 50000) + many2))]) (need := [.row 1 155 2 (List.map en_api_PulseFault r4.1)]) (v := .tup [.val (.int .i64 r6.1), .val (.int .i64 r6.2)]) (news := []) rfl rfl rfl Try.call51 (atJ [(0, 1)] [] (fc_pulse_Run h6) rfl rfl) (.inr (fun x hx => nomatch hx))) rfl trivial rfl rfl ?_
  refine op0 (sp_move rfl rfl) rfl trivial rfl rfl ?_
  refine op0 (sp_extract rfl rfl rfl) rfl trivial rfl rfl ?_
  refine op0 (sp_extract rfl rfl rfl) rfl trivial rfl rfl ?_
  refine op0 (sp_assign rfl rfl) rfl trivial rfl rfl ?_
  refine op0 (sp_assign rfl rfl) rfl trivial rfl rfl ?_
  refine TL.nil ?_
  refine TC.seq ?_
  refine TC.seq ?_
  refine TC.region ?_
  refine op0 (sp_move rfl rfl) rfl trivial rfl rfl ?_
  refine op0 (sp_neq rfl rfl rfl) rfl trivial rfl rfl ?_
  refine op0 (sp_move rfl rfl) rfl trivial rfl rfl ?_
  rcases cond_cases h with ⟨h7, h⟩ | ⟨h7, h⟩
  · refine (boolLit 58 rfl h7).2 ?_
    refine opSkip rfl ⟨_, rfl, .inl rfl⟩ rfl ?_
    refine opSkip rfl ⟨_, rfl, .inl rfl⟩ rfl ?_
    refine op0 (sp_pickT rfl rfl rfl) rfl trivial rfl rfl ?_
    refine TL.nil ?_
    refine TC.condT rfl ?_
    refine TC.seq ?_
    refine TC.region ?_
    refine op0 (sp_assign rfl rfl) rfl trivial rfl rfl ?_
    refine TL.nil ?_
    cases h
    exact retJ [] (.tmp rfl .nil) rfl trivial rfl rfl
  · refine (boolLit 58 rfl h7).2 ?_
    refine op0 (sp_move rfl rfl) rfl ⟨_, rfl, rfl⟩ rfl rfl ?_
    refine op0 (sp_neq rfl rfl rfl) rfl ⟨_, rfl, rfl⟩ rfl rfl ?_
    refine op0 (sp_pickF rfl rfl rfl) rfl trivial rfl rfl ?_
    refine TL.nil ?_
    refine TC.cond (b := (r6.2 != 0)) rfl (fun h8 => ?_) (fun h8 => ?_)
    · have h := cond_t h h8
      refine TC.seq ?_
      refine TC.region ?_
      refine op0 (sp_assign rfl rfl) rfl trivial rfl rfl ?_
      refine TL.nil ?_
      cases h
      exact retJ [] (.tmp rfl .nil) rfl trivial rfl rfl
    · have h := cond_f h h8
      refine subJ [] (ok_top_TopPulseDial_j0 h) ?_ ?_ ?_
      · exact ⟨rfl, rfl, rfl, rfl, rfl, trivial⟩
      · exact trivial
      · rfl
end
end Go.Proofs.Ytgkoldcmbcbbpaa.Sy
