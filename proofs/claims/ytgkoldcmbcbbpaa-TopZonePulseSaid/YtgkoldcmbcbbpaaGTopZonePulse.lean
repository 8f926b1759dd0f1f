/- What functions of the program compute, and that they do: printed by symgen.py. -/
import Derived.Test.YtgkoldcmbcbbpaaGLib
import Derived.Test.YtgkoldcmbcbbpaaGPulse
import Derived.Test.YtgkoldcmbcbbpaaGZone
set_option linter.unusedSimpArgs false
set_option linter.unusedVariables false
namespace Go.Proofs.Ytgkoldcmbcbbpaa.Sy
open Go.RowKit
noncomputable section

/- top_TopZonePulse -/
def ev_top_TopZonePulse_j3 (n : Nat) (minutes2 : Int) (l16 : List (Int × Int)) (l17 : List (Int × Int)) : Option Bool :=
  cond ((l17.length : Int) == 0) (cond ((l16.length : Int) == 1) (idx l16 0 fun x18 => chk (in64 (x18.2 - x18.1)) <| chk (in64 ((x18.2 - x18.1) + 1)) <| cond (((x18.2 - x18.1) + 1) == ((2 : Int) + (Int.tmod minutes2 19))) ((ev_top_pubPulse n).bind fun r19 => cond r19 ((ev_top_pubTowns n).bind fun r20 => some r20) (some false)) (some false)) (some false)) (some false)
set_option maxRecDepth 100000 in
set_option maxHeartbeats 2000000 in
theorem ok_top_TopZonePulse_j3 {n : Nat} {w0 : World} {R0 : Nat → Prop} {env0 : Env} {r : Bool} {minutes2 : Int} {l16 : List (Int × Int)} {l17 : List (Int × Int)} (h : ev_top_TopZonePulse_j3 n minutes2 l16 l17 = some r) : TC Try.prog ⟨w0, fun _ => False, R0⟩ 154 (bodyPost Try.prog Try.f13 (Post ⟨w0, fun _ => False, R0⟩ env0 (.val (.bool r)) [])) [.code (sub (bodyOf Try.f13) [1, 1, 1, 1, 1, 1, 1, 1, 1, 1, 1, 1, 1, 1, 0]), .code (sub (bodyOf Try.f13) [1, 1, 1, 1, 1, 1, 1, 1, 1, 1, 1, 1, 1, 1, 1])] ([(10, .val (.int .i64 ((2 : Int) + (Int.tmod minutes2 19)))), (24, .ref 6), (25, .ref 7)]) ([.row 6 34 2 (List.map en_api_Span l16), .row 7 34 2 (List.map en_api_Span l17)]) := by
  rw [ev_top_TopZonePulse_j3] at h
  rcases cond_cases h with ⟨h30, h⟩ | ⟨h30, h⟩
  · rcases cond_cases h with ⟨h31, h⟩ | ⟨h31, h⟩
    · obtain ⟨x18, h32, h33, h⟩ := idx_inv h
      obtain ⟨h34, h⟩ := chk_inv h
      obtain ⟨h35, h⟩ := chk_inv h
      refine drawJ 20 [⟨.ref 7, [], [], []⟩, ⟨.val (.int .i64 (l17.length : Int)), [], [.row 7 34 2 (List.map en_api_Span l17)], []⟩, ⟨.val (.bool ((l17.length : Int) == 0)), [], [], []⟩, ⟨.val (.bool true), [], [], []⟩, ⟨.ref 6, [], [], []⟩, ⟨.val (.int .i64 (l16.length : Int)), [], [.row 6 34 2 (List.map en_api_Span l16)], []⟩, ⟨.val (.bool ((l16.length : Int) == 1)), [], [], []⟩, ⟨.val (.bool ((l16.length : Int) == 1)), [], [], []⟩, ⟨.val (.bool true), [], [], []⟩, ⟨.ref 6, [], [], []⟩, ⟨.cell 6 ((0 : Int).toNat * 2), [], [.row 6 34 2 (List.map en_api_Span l16)], []⟩, ⟨.cell 6 ((0 : Int).toNat * 2 + 1), [], [.row 6 34 2 (List.map en_api_Span l16)], []⟩, ⟨.val (.int .i64 x18.2), [], [.row 6 34 2 (List.map en_api_Span l16)], []⟩, ⟨.ref 6, [], [], []⟩, ⟨.cell 6 ((0 : Int).toNat * 2), [], [.row 6 34 2 (List.map en_api_Span l16)], []⟩, ⟨.cell 6 ((0 : Int).toNat * 2 + 0), [], [.row 6 34 2 (List.map en_api_Span l16)], []⟩, ⟨.val (.int .i64 x18.1), [], [.row 6 34 2 (List.map en_api_Span l16)], []⟩, ⟨.val (.int .i64 (x18.2 - x18.1)), [], [], []⟩, ⟨.val (.int .i64 ((x18.2 - x18.1) + 1)), [], [], []⟩, ⟨.val (.int .i64 ((2 : Int) + (Int.tmod minutes2 19))), [], [], []⟩] rfl ?_ rfl ?_ rfl ?_ ?_
      · kernel_rfl
      · kernel_rfl
      · exact DAll.op' (sp_move rfl rfl) trivial rfl (From.ok (ps := []) trivial) (DAll.op' (sp_lenM (N := l17.length) (len_map _ _) rfl rfl isOwn Try.underlying39) trivial rfl (From.ok (ps := [(none, 1)]) ⟨⟨rfl, rfl⟩, trivial⟩) (DAll.op' (sp_eql rfl rfl rfl) trivial rfl (From.ok (ps := []) trivial) (DAll.op' (sp_castB h30 (sp_move rfl rfl)) trivial rfl (From.ok (ps := []) trivial) (DAll.op' (sp_move rfl rfl) ⟨_, rfl, rfl⟩ rfl (From.ok (ps := []) trivial) (DAll.op' (sp_lenM (N := l16.length) (len_map _ _) rfl rfl isOwn Try.underlying39) ⟨_, rfl, rfl⟩ rfl (From.ok (ps := [(none, 0)]) ⟨⟨rfl, rfl⟩, trivial⟩) (DAll.op' (sp_eql rfl rfl rfl) ⟨_, rfl, rfl⟩ rfl (From.ok (ps := []) trivial) (DAll.op' (sp_pickT rfl rfl rfl) trivial rfl (From.ok (ps := []) trivial) (DAll.op' (sp_castB h31 (sp_move rfl rfl)) trivial rfl (From.ok (ps := []) trivial) (DAll.op' (sp_move rfl rfl) ⟨_, rfl, rfl⟩ rfl (From.ok (ps := []) trivial) (DAll.op' (sp_indexS rfl rfl rfl isOwn sl39 h32 (map_get _ h33)) ⟨_, rfl, rfl⟩ rfl (From.ok (ps := [(none, 0)]) ⟨⟨rfl, rfl⟩, trivial⟩) (DAll.op' (sp_fieldAddrR (i := (0 : Int).toNat) rfl rfl isOwn ft34_1 vt3 (by decide) (map_get _ h33) (fun h => nomatch h)) ⟨_, rfl, rfl⟩ rfl (From.ok (ps := [(none, 0)]) ⟨⟨rfl, rfl⟩, trivial⟩) (DAll.op' (sp_loadR (i := (0 : Int).toNat) (j := 1) rfl rfl isOwn vt3 rfl (map_get _ h33) rfl (.v (.nil)) (nodup_of_B rfl)) ⟨_, rfl, rfl⟩ rfl (From.ok (ps := [(none, 0)]) ⟨⟨rfl, rfl⟩, trivial⟩) (DAll.op' (sp_move rfl rfl) ⟨_, rfl, rfl⟩ rfl (From.ok (ps := []) trivial) (DAll.op' (sp_indexS rfl rfl rfl isOwn sl39 h32 (map_get _ h33)) ⟨_, rfl, rfl⟩ rfl (From.ok (ps := [(none, 0)]) ⟨⟨rfl, rfl⟩, trivial⟩) (DAll.op' (sp_fieldAddrR (i := (0 : Int).toNat) rfl rfl isOwn ft34_0 vt3 (by decide) (map_get _ h33) (fun h => nomatch h)) ⟨_, rfl, rfl⟩ rfl (From.ok (ps := [(none, 0)]) ⟨⟨rfl, rfl⟩, trivial⟩) (DAll.op' (sp_loadR (i := (0 : Int).toNat) (j := 0) rfl rfl isOwn vt3 rfl (map_get _ h33) rfl (.v (.nil)) (nodup_of_B rfl)) ⟨_, rfl, rfl⟩ rfl (From.ok (ps := [(none, 0)]) ⟨⟨rfl, rfl⟩, trivial⟩) (DAll.op' (sp_sub rfl rfl rfl h34) ⟨_, rfl, rfl⟩ rfl (From.ok (ps := []) trivial) (DAll.op' (sp_add rfl rfl rfl h35) ⟨_, rfl, rfl⟩ rfl (From.ok (ps := []) trivial) (DAll.op' (sp_move rfl rfl) ⟨_, rfl, rfl⟩ rfl (From.ok (ps := []) trivial) (.nil))))))))))))))))))))
      refine op0 (sp_eql rfl rfl rfl) rfl ⟨_, rfl, rfl⟩ rfl rfl ?_
      refine op0 (sp_pickT rfl rfl rfl) rfl trivial rfl rfl ?_
      refine op0 (sp_move rfl rfl) rfl trivial rfl rfl ?_
      rcases cond_cases h with ⟨h36, h⟩ | ⟨h36, h⟩
      · refine (boolLit 148 rfl h36).2 ?_
        obtain ⟨r19, h37, h⟩ := bind_inv h
        refine op0 (sp_call (avs := []) (need := []) (v := .val (.bool r19)) (news := []) rfl rfl rfl Try.call52 (atJ [] [] (fc_top_pubPulse h37) rfl rfl) (.inl (roAll rfl))) rfl ⟨_, rfl, rfl⟩ rfl rfl ?_
        refine op0 (sp_pickT rfl rfl rfl) rfl trivial rfl rfl ?_
        refine op0 (sp_move rfl rfl) rfl trivial rfl rfl ?_
        rcases cond_cases h with ⟨h38, h⟩ | ⟨h38, h⟩
        · refine (boolLit 151 rfl h38).2 ?_
          obtain ⟨r20, h39, h⟩ := bind_inv h
          refine op0 (sp_call (avs := []) (need := []) (v := .val (.bool r20)) (news := []) rfl rfl rfl Try.call57 (atJ [] [] (fc_top_pubTowns h39) rfl rfl) (.inl (roAll rfl))) rfl ⟨_, rfl, rfl⟩ rfl rfl ?_
          refine op0 (sp_pickT rfl rfl rfl) rfl trivial rfl rfl ?_
          refine op0 (sp_assign rfl rfl) rfl trivial rfl rfl ?_
          refine TL.nil ?_
          cases h
          exact retJ [] (.tmp rfl .nil) rfl trivial rfl rfl
        · refine (boolLit 151 rfl h38).2 ?_
          refine opSkip rfl ⟨_, rfl, .inl rfl⟩ rfl ?_
          refine op0 (sp_pickF rfl rfl rfl) rfl trivial rfl rfl ?_
          refine op0 (sp_assign rfl rfl) rfl trivial rfl rfl ?_
          refine TL.nil ?_
          cases h
          exact retJ [] (.tmp rfl .nil) rfl trivial rfl rfl
      · refine (boolLit 148 rfl h36).2 ?_
        refine opSkip rfl ⟨_, rfl, .inl rfl⟩ rfl ?_
        refine op0 (sp_pickF rfl rfl rfl) rfl trivial rfl rfl ?_
        refine op0 (sp_move rfl rfl) rfl trivial rfl rfl ?_
        refine opSkip rfl ⟨_, rfl, .inl rfl⟩ rfl ?_
        refine op0 (sp_pickF rfl rfl rfl) rfl trivial rfl rfl ?_
        refine op0 (sp_assign rfl rfl) rfl trivial rfl rfl ?_
        refine TL.nil ?_
        cases h
        exact retJ [] (.tmp rfl .nil) rfl trivial rfl rfl
    · refine drawJ 20 [⟨.ref 7, [], [], []⟩, ⟨.val (.int .i64 (l17.length : Int)), [], [.row 7 34 2 (List.map en_api_Span l17)], []⟩, ⟨.val (.bool ((l17.length : Int) == 0)), [], [], []⟩, ⟨.val (.bool true), [], [], []⟩, ⟨.ref 6, [], [], []⟩, ⟨.val (.int .i64 (l16.length : Int)), [], [.row 6 34 2 (List.map en_api_Span l16)], []⟩, ⟨.val (.bool ((l16.length : Int) == 1)), [], [], []⟩, ⟨.val (.bool ((l16.length : Int) == 1)), [], [], []⟩, ⟨.val (.bool false), [], [], []⟩, ⟨.val (undef), [], [], []⟩, ⟨.val (undef), [], [], []⟩, ⟨.val (undef), [], [], []⟩, ⟨.val (undef), [], [], []⟩, ⟨.val (undef), [], [], []⟩, ⟨.val (undef), [], [], []⟩, ⟨.val (undef), [], [], []⟩, ⟨.val (undef), [], [], []⟩, ⟨.val (undef), [], [], []⟩, ⟨.val (undef), [], [], []⟩, ⟨.val (undef), [], [], []⟩] rfl ?_ rfl ?_ rfl ?_ ?_
      · kernel_rfl
      · kernel_rfl
      · exact DAll.op' (sp_move rfl rfl) trivial rfl (From.ok (ps := []) trivial) (DAll.op' (sp_lenM (N := l17.length) (len_map _ _) rfl rfl isOwn Try.underlying39) trivial rfl (From.ok (ps := [(none, 1)]) ⟨⟨rfl, rfl⟩, trivial⟩) (DAll.op' (sp_eql rfl rfl rfl) trivial rfl (From.ok (ps := []) trivial) (DAll.op' (sp_castB h30 (sp_move rfl rfl)) trivial rfl (From.ok (ps := []) trivial) (DAll.op' (sp_move rfl rfl) ⟨_, rfl, rfl⟩ rfl (From.ok (ps := []) trivial) (DAll.op' (sp_lenM (N := l16.length) (len_map _ _) rfl rfl isOwn Try.underlying39) ⟨_, rfl, rfl⟩ rfl (From.ok (ps := [(none, 0)]) ⟨⟨rfl, rfl⟩, trivial⟩) (DAll.op' (sp_eql rfl rfl rfl) ⟨_, rfl, rfl⟩ rfl (From.ok (ps := []) trivial) (DAll.op' (sp_pickT rfl rfl rfl) trivial rfl (From.ok (ps := []) trivial) (DAll.op' (sp_castB h31 (sp_move rfl rfl)) trivial rfl (From.ok (ps := []) trivial) (.skip ⟨_, rfl, .inl rfl⟩ rfl rfl rfl (.skip ⟨_, rfl, .inl rfl⟩ rfl rfl rfl (.skip ⟨_, rfl, .inl rfl⟩ rfl rfl rfl (.skip ⟨_, rfl, .inl rfl⟩ rfl rfl rfl (.skip ⟨_, rfl, .inl rfl⟩ rfl rfl rfl (.skip ⟨_, rfl, .inl rfl⟩ rfl rfl rfl (.skip ⟨_, rfl, .inl rfl⟩ rfl rfl rfl (.skip ⟨_, rfl, .inl rfl⟩ rfl rfl rfl (.skip ⟨_, rfl, .inl rfl⟩ rfl rfl rfl (.skip ⟨_, rfl, .inl rfl⟩ rfl rfl rfl (.skip ⟨_, rfl, .inl rfl⟩ rfl rfl rfl (.nil))))))))))))))))))))
      refine opSkip rfl ⟨_, rfl, .inl rfl⟩ rfl ?_
      refine op0 (sp_pickF rfl rfl rfl) rfl trivial rfl rfl ?_
      refine op0 (sp_move rfl rfl) rfl trivial rfl rfl ?_
      refine opSkip rfl ⟨_, rfl, .inl rfl⟩ rfl ?_
      refine op0 (sp_pickF rfl rfl rfl) rfl trivial rfl rfl ?_
      refine op0 (sp_move rfl rfl) rfl trivial rfl rfl ?_
      refine opSkip rfl ⟨_, rfl, .inl rfl⟩ rfl ?_
      refine op0 (sp_pickF rfl rfl rfl) rfl trivial rfl rfl ?_
      refine op0 (sp_assign rfl rfl) rfl trivial rfl rfl ?_
      refine TL.nil ?_
      cases h
      exact retJ [] (.tmp rfl .nil) rfl trivial rfl rfl
  · refine drawJ 20 [⟨.ref 7, [], [], []⟩, ⟨.val (.int .i64 (l17.length : Int)), [], [.row 7 34 2 (List.map en_api_Span l17)], []⟩, ⟨.val (.bool ((l17.length : Int) == 0)), [], [], []⟩, ⟨.val (.bool false), [], [], []⟩, ⟨.val (undef), [], [], []⟩, ⟨.val (undef), [], [], []⟩, ⟨.val (undef), [], [], []⟩, ⟨.val (.bool false), [], [], []⟩, ⟨.val (.bool false), [], [], []⟩, ⟨.val (undef), [], [], []⟩, ⟨.val (undef), [], [], []⟩, ⟨.val (undef), [], [], []⟩, ⟨.val (undef), [], [], []⟩, ⟨.val (undef), [], [], []⟩, ⟨.val (undef), [], [], []⟩, ⟨.val (undef), [], [], []⟩, ⟨.val (undef), [], [], []⟩, ⟨.val (undef), [], [], []⟩, ⟨.val (undef), [], [], []⟩, ⟨.val (undef), [], [], []⟩] rfl ?_ rfl ?_ rfl ?_ ?_
    · kernel_rfl
    · kernel_rfl
    · exact DAll.op' (sp_move rfl rfl) trivial rfl (From.ok (ps := []) trivial) (DAll.op' (sp_lenM (N := l17.length) (len_map _ _) rfl rfl isOwn Try.underlying39) trivial rfl (From.ok (ps := [(none, 1)]) ⟨⟨rfl, rfl⟩, trivial⟩) (DAll.op' (sp_eql rfl rfl rfl) trivial rfl (From.ok (ps := []) trivial) (DAll.op' (sp_castB h30 (sp_move rfl rfl)) trivial rfl (From.ok (ps := []) trivial) (.skip ⟨_, rfl, .inl rfl⟩ rfl rfl rfl (.skip ⟨_, rfl, .inl rfl⟩ rfl rfl rfl (.skip ⟨_, rfl, .inl rfl⟩ rfl rfl rfl (DAll.op' (sp_pickF rfl rfl rfl) trivial rfl (From.ok (ps := []) trivial) (DAll.op' (sp_move rfl rfl) trivial rfl (From.ok (ps := []) trivial) (.skip ⟨_, rfl, .inl rfl⟩ rfl rfl rfl (.skip ⟨_, rfl, .inl rfl⟩ rfl rfl rfl (.skip ⟨_, rfl, .inl rfl⟩ rfl rfl rfl (.skip ⟨_, rfl, .inl rfl⟩ rfl rfl rfl (.skip ⟨_, rfl, .inl rfl⟩ rfl rfl rfl (.skip ⟨_, rfl, .inl rfl⟩ rfl rfl rfl (.skip ⟨_, rfl, .inl rfl⟩ rfl rfl rfl (.skip ⟨_, rfl, .inl rfl⟩ rfl rfl rfl (.skip ⟨_, rfl, .inl rfl⟩ rfl rfl rfl (.skip ⟨_, rfl, .inl rfl⟩ rfl rfl rfl (.skip ⟨_, rfl, .inl rfl⟩ rfl rfl rfl (.nil))))))))))))))))))))
    refine opSkip rfl ⟨_, rfl, .inl rfl⟩ rfl ?_
    refine op0 (sp_pickF rfl rfl rfl) rfl trivial rfl rfl ?_
    refine op0 (sp_move rfl rfl) rfl trivial rfl rfl ?_
    refine opSkip rfl ⟨_, rfl, .inl rfl⟩ rfl ?_
    refine op0 (sp_pickF rfl rfl rfl) rfl trivial rfl rfl ?_
    refine op0 (sp_move rfl rfl) rfl trivial rfl rfl ?_
    refine opSkip rfl ⟨_, rfl, .inl rfl⟩ rfl ?_
    refine op0 (sp_pickF rfl rfl rfl) rfl trivial rfl rfl ?_
    refine op0 (sp_assign rfl rfl) rfl trivial rfl rfl ?_
    refine TL.nil ?_
    cases h
    exact retJ [] (.tmp rfl .nil) rfl trivial rfl rfl
def ev_top_TopZonePulse_j2 (n : Nat) (v3 : Int) (minutes2 : Int) (r15 : (List (Int × Int)) × (List (Int × Int)) × Int) : Option Bool :=
  cond ((Int.tmod v3 2) == 1) (ev_top_TopZonePulse_j3 n minutes2 r15.1 r15.2.1) (ev_top_TopZonePulse_j3 n minutes2 r15.2.1 r15.1)
set_option maxRecDepth 100000 in
set_option maxHeartbeats 2000000 in
theorem ok_top_TopZonePulse_j2 {n : Nat} {w0 : World} {R0 : Nat → Prop} {env0 : Env} {r : Bool} {v3 : Int} {minutes2 : Int} {r15 : (List (Int × Int)) × (List (Int × Int)) × Int} (h : ev_top_TopZonePulse_j2 n v3 minutes2 r15 = some r) : TC Try.prog ⟨w0, fun _ => False, R0⟩ 154 (bodyPost Try.prog Try.f13 (Post ⟨w0, fun _ => False, R0⟩ env0 (.val (.bool r)) [])) [.code (sub (bodyOf Try.f13) [1, 1, 1, 1, 1, 1, 1, 1, 1, 1, 1, 0, 1, 1]), .code (sub (bodyOf Try.f13) [1, 1, 1, 1, 1, 1, 1, 1, 1, 1, 1, 1])] ([(7, .val (.bool ((Int.tmod v3 2) == 1))), (10, .val (.int .i64 ((2 : Int) + (Int.tmod minutes2 19)))), (21, .ref 6), (22, .ref 7)]) ([.row 6 34 2 (List.map en_api_Span r15.1), .row 7 34 2 (List.map en_api_Span r15.2.1)]) := by
  rw [ev_top_TopZonePulse_j2] at h
  refine TC.skip ?_
  refine TC.seq ?_
  refine TC.region ?_
  refine op0 (sp_move rfl rfl) rfl trivial rfl rfl ?_
  refine op0 (sp_move rfl rfl) rfl trivial rfl rfl ?_
  refine op0 (sp_assign rfl rfl) rfl trivial rfl rfl ?_
  refine op0 (sp_assign rfl rfl) rfl trivial rfl rfl ?_
  refine TL.nil ?_
  refine TC.seq ?_
  refine TC.seq ?_
  refine TC.region ?_
  refine op0 (sp_move rfl rfl) rfl trivial rfl rfl ?_
  refine TL.nil ?_
  refine TC.cond (b := ((Int.tmod v3 2) == 1)) rfl (fun h29 => ?_) (fun h29 => ?_)
  · have h := cond_t h h29
    refine TC.region ?_
    refine op0 (sp_move rfl rfl) rfl trivial rfl rfl ?_
    refine op0 (sp_move rfl rfl) rfl trivial rfl rfl ?_
    refine op0 (sp_assign rfl rfl) rfl trivial rfl rfl ?_
    refine op0 (sp_assign rfl rfl) rfl trivial rfl rfl ?_
    refine TL.nil ?_
    refine TC.seq ?_
    refine subJ [] (ok_top_TopZonePulse_j3 h) ?_ ?_ ?_
    · exact ⟨rfl, rfl, rfl, trivial⟩
    · exact ⟨mem_at 0 rfl, mem_at 1 rfl, trivial⟩
    · rfl
  · have h := cond_f h h29
    refine TC.skip ?_
    refine TC.seq ?_
    refine subJ [(6, 7), (7, 6)] (ok_top_TopZonePulse_j3 h) ?_ ?_ ?_
    · exact ⟨rfl, rfl, rfl, trivial⟩
    · exact ⟨mem_at 1 rfl, mem_at 0 rfl, trivial⟩
    · rfl
def ev_top_TopZonePulse_l1 (n : Nat) (minutes2 : Int) (from_1 : Int) (i6 : Int) (v4 : Int) (v3 : Int) : Nat → Int → Int → (List (Int × Int)) → (List (Int × Int)) → Option Bool
  | 0, _, _, _, _ => none
  | m + 1, i9, i10, l11, l12 => cond (decide (i9 < ((2 : Int) + (Int.tmod minutes2 19)))) (chk (in64 (((Int.tmod from_1 60000) + 100) + 1)) <| chk (in64 ((((Int.tmod from_1 60000) + 100) + 1) + i9)) <| chk (room 16 (l11.length + ([(((((Int.tmod from_1 60000) + 100) + 1) + i9), i6)] : List (Int × Int)).length)) <| chk (in64 (i9 + 1)) <| ev_top_TopZonePulse_l1 n minutes2 from_1 i6 v4 v3 m (i9 + 1) i10 (l11 ++ ([(((((Int.tmod from_1 60000) + 100) + 1) + i9), i6)] : List (Int × Int))) l12) ((ev_pulse_Run n 0 0 0 (Int.tmod ((Int.tmod from_1 60000) + 100) 720) ((Int.tmod from_1 60000) + 100) l11 ((((Int.tmod from_1 60000) + 100) + ((2 : Int) + (Int.tmod minutes2 19))) + v4)).bind fun r13 => chk (in64 ((60 : Int) * ((((Int.tmod from_1 60000) + 100) + ((2 : Int) + (Int.tmod minutes2 19))) + v4))) <| (ev_zone_Says n i10 l12 ((60 : Int) * ((((Int.tmod from_1 60000) + 100) + ((2 : Int) + (Int.tmod minutes2 19))) + v4))).bind fun r14 => (ev_zone_Odd n i10 l12).bind fun r15 => cond (r13.2 != 0) (some false) (cond (r14.2.2 != 0) (some false) (cond (r15.2.2 != 0) (some false) (cond ((Int.tmod r14.2.1 60) != 0) (some false) (chk (in64 (Int.tdiv (Int.tmod r14.2.1 43200) 60)) <| cond ((Int.tdiv (Int.tmod r14.2.1 43200) 60) != r13.1) (some false) (ev_top_TopZonePulse_j2 n v3 minutes2 r15))))))
set_option maxRecDepth 100000 in
set_option maxHeartbeats 2000000 in
theorem ok_top_TopZonePulse_l1 {n : Nat} {w0 : World} {R0 : Nat → Prop} {env0 : Env} {r : Bool} {v3 : Int} {from_1 : Int} {minutes2 : Int} {i6 : Int} {v4 : Int} : ∀ (m : Nat) (i9 : Int) (i10 : Int) (l11 : List (Int × Int)) (l12 : List (Int × Int)), ev_top_TopZonePulse_l1 n minutes2 from_1 i6 v4 v3 m i9 i10 l11 l12 = some r → TC Try.prog ⟨w0, fun _ => False, R0⟩ 154 (bodyPost Try.prog Try.f13 (Post ⟨w0, fun _ => False, R0⟩ env0 (.val (.bool r)) [])) [.code (sub (bodyOf Try.f13) [1, 1, 1, 1, 1, 1, 1, 0, 1, 0, 0, 0, 0]), .code (sub (bodyOf Try.f13) [1, 1, 1, 1, 1, 1, 1, 0, 1, 0, 0, 0, 1]), .code (sub (bodyOf Try.f13) [1, 1, 1, 1, 1, 1, 1, 0, 1, 0, 0, 1]), .inLoop (sub (bodyOf Try.f13) [1, 1, 1, 1, 1, 1, 1, 0, 1, 0, 0]), .inBlock 0, .code (sub (bodyOf Try.f13) [1, 1, 1, 1, 1, 1, 1, 1])] ([(7, .val (.bool ((Int.tmod v3 2) == 1))), (9, .val (.int .i64 ((Int.tmod from_1 60000) + 100))), (10, .val (.int .i64 ((2 : Int) + (Int.tmod minutes2 19)))), (11, .ptr 2 0), (12, .val (.int .i64 i6)), (13, .val (.int .i64 ((((Int.tmod from_1 60000) + 100) + ((2 : Int) + (Int.tmod minutes2 19))) + v4))), (14, .ref 3), (15, .val (.int .i64 i9))]) ([.blk 2 [.val (.int .i64 i10), .ref 1] 165, .row 3 155 2 (List.map en_api_PulseFault l11), .row 1 162 2 (List.map en_api_ZoneChange l12)]) := by
  intro m
  induction m with
  | zero => intro i9 i10 l11 l12 h; exact none_no h
  | succ m ih =>
    intro i9 i10 l11 l12 h
    rw [ev_top_TopZonePulse_l1] at h
    refine TC.region ?_
    refine op0 (sp_move rfl rfl) rfl trivial rfl rfl ?_
    refine op0 (sp_move rfl rfl) rfl trivial rfl rfl ?_
    refine op0 (sp_lss rfl rfl rfl) rfl trivial rfl rfl ?_
    refine TL.nil ?_
    refine TC.cond (b := (decide (i9 < ((2 : Int) + (Int.tmod minutes2 19))))) rfl (fun h14 => ?_) (fun h14 => ?_)
    · have h := cond_t h h14
      refine TC.skip ?_
      refine TC.seq ?_
      refine TC.block ?_
      refine TC.region ?_
      refine op0 (sp_move rfl rfl) rfl trivial rfl rfl ?_
      refine op0 (sp_move rfl rfl) rfl trivial rfl rfl ?_
      obtain ⟨h15, h⟩ := chk_inv h
      refine op0 (sp_add rfl rfl rfl h15) rfl trivial rfl rfl ?_
      refine op0 (sp_move rfl rfl) rfl trivial rfl rfl ?_
      obtain ⟨h16, h⟩ := chk_inv h
      refine op0 (sp_add rfl rfl rfl h16) rfl trivial rfl rfl ?_
      refine op0 (sp_move rfl rfl) rfl trivial rfl rfl ?_
      refine op0 (sp_build (qs := [(0, .val (.int .i64 ((((Int.tmod from_1 60000) + 100) + 1) + i9))), (1, .val (.int .i64 i6))]) rfl bt155 rfl rfl rfl rfl) rfl trivial rfl rfl ?_
      refine op0 (sp_buildSlice (qs := [.agg [.val (.int .i64 ((((Int.tmod from_1 60000) + 100) + 1) + i9)), .val (.int .i64 i6)]]) (need := []) (els := List.map en_api_PulseFault ([(((((Int.tmod from_1 60000) + 100) + 1) + i9), i6)] : List (Int × Int))) 4 rfl sl142 (by decide) (by decide) rfl rfl rfl (.v (.v (.nil))) (map_len fun _ => rfl) rfl rfl rfl) rfl trivial rfl rfl ?_
      obtain ⟨h17, h⟩ := chk_inv h
      refine appM 2 0 (N := l11.length) (N2 := ([(((((Int.tmod from_1 60000) + 100) + 1) + i9), i6)] : List (Int × Int)).length) 5 rfl rfl trivial rfl rfl rfl rfl rfl isOwn rfl sl142 (len_map _ _) (len_map _ _) h17 (map_app _ _ _) rfl ?_
      refine op0 (sp_assign rfl rfl) rfl trivial rfl rfl ?_
      refine TL.nil ?_
      refine TC.inBlock ?_
      refine TC.region ?_
      refine op0 (sp_move rfl rfl) rfl trivial rfl rfl ?_
      obtain ⟨h18, h⟩ := chk_inv h
      refine op0 (sp_add rfl rfl rfl h18) rfl trivial rfl rfl ?_
      refine op0 (sp_assign rfl rfl) rfl trivial rfl rfl ?_
      refine TL.nil ?_
      refine TC.inLoop ?_
      refine TC.seq ?_
      refine TC.seq ?_
      refine subJ [(3, 5)] (ih _ _ _ _ h) ?_ ?_ ?_
      · exact ⟨rfl, rfl, rfl, rfl, rfl, rfl, rfl, rfl, trivial⟩
      · exact ⟨mem_at 2 rfl, mem_at 0 rfl, mem_at 3 rfl, trivial⟩
      · rfl
    · have h := cond_f h h14
      refine TC.exit rfl ?_
      refine TC.seq ?_
      refine TC.region ?_
      refine op0 (sp_build (qs := []) rfl bt148 rfl rfl rfl rfl) rfl trivial rfl rfl ?_
      refine op0 (sp_move rfl rfl) rfl trivial rfl rfl ?_
      refine op0 (sp_rem rfl rfl rfl (by decide)) rfl trivial rfl rfl ?_
      refine op0 (sp_move rfl rfl) rfl trivial rfl rfl ?_
      refine op0 (sp_move rfl rfl) rfl trivial rfl rfl ?_
      refine op0 (sp_move rfl rfl) rfl trivial rfl rfl ?_
      obtain ⟨r13, h19, h⟩ := bind_inv h
      refine op1 1 rfl (sp_call (avs := [.agg [.val (.int .i64 0), .val (.int .i64 0), .val (.int .i64 0)], .val (.int .i64 (Int.tmod ((Int.tmod from_1 60000) + 100) 720)), .val (.int .i64 ((Int.tmod from_1 60000) + 100)), .ref 3, .val (.int .i64 ((((Int.tmod from_1 60000) + 100) + ((2 : Int) + (Int.tmod minutes2 19))) + v4))]) (need := [.row 3 155 2 (List.map en_api_PulseFault l11)]) (v := .tup [.val (.int .i64 r13.1), .val (.int .i64 r13.2)]) (news := []) rfl rfl rfl Try.call51 (atJ [(0, 3)] [] (fc_pulse_Run h19) rfl rfl) (.inr (fun x hx => nomatch hx))) rfl trivial rfl rfl ?_
      refine op0 (sp_move rfl rfl) rfl trivial rfl rfl ?_
      refine op0 (sp_extract rfl rfl rfl) rfl trivial rfl rfl ?_
      refine op0 (sp_extract rfl rfl rfl) rfl trivial rfl rfl ?_
      refine op0 (sp_assign rfl rfl) rfl trivial rfl rfl ?_
      refine op0 (sp_assign rfl rfl) rfl trivial rfl rfl ?_
      refine TL.nil ?_
      refine TC.seq ?_
      refine TC.region ?_
      refine op1 0 rfl (sp_loadBA rfl isBlk rfl vt165 rfl rfl) rfl trivial rfl rfl ?_
      refine op0 (sp_move rfl rfl) rfl trivial rfl rfl ?_
      obtain ⟨h20, h⟩ := chk_inv h
      refine op0 (sp_mul rfl rfl rfl h20) rfl trivial rfl rfl ?_
      obtain ⟨r14, h21, h⟩ := bind_inv h
      refine op1 2 rfl (sp_call (avs := [.agg [.val (.int .i64 i10), .ref 1], .val (.int .i64 ((60 : Int) * ((((Int.tmod from_1 60000) + 100) + ((2 : Int) + (Int.tmod minutes2 19))) + v4)))]) (need := [.row 1 162 2 (List.map en_api_ZoneChange l12)]) (v := .tup [.val (.int .i64 r14.1), .val (.int .i64 r14.2.1), .val (.int .i64 r14.2.2)]) (news := []) rfl rfl rfl Try.call55 (atJ [(0, 1)] [] (fc_zone_Says h21) rfl rfl) (.inr (fun x hx => nomatch hx))) rfl trivial rfl rfl ?_
      refine op0 (sp_move rfl rfl) rfl trivial rfl rfl ?_
      refine op0 (sp_extract rfl rfl rfl) rfl trivial rfl rfl ?_
      refine op0 (sp_extract rfl rfl rfl) rfl trivial rfl rfl ?_
      refine op0 (sp_extract rfl rfl rfl) rfl trivial rfl rfl ?_
      refine op0 (sp_assign rfl rfl) rfl trivial rfl rfl ?_
      refine op0 (sp_assign rfl rfl) rfl trivial rfl rfl ?_
      refine op0 (sp_assign rfl rfl) rfl trivial rfl rfl ?_
      refine TL.nil ?_
      refine TC.seq ?_
      refine TC.region ?_
      refine op1 0 rfl (sp_loadBA rfl isBlk rfl vt165 rfl rfl) rfl trivial rfl rfl ?_
      obtain ⟨r15, h22, h⟩ := bind_inv h
      refine op1 2 rfl (sp_call (avs := [.agg [.val (.int .i64 i10), .ref 1]]) (need := [.row 1 162 2 (List.map en_api_ZoneChange l12)]) (v := .tup [.ref 6, .ref 7, .val (.int .i64 r15.2.2)]) (news := [.row 6 34 2 (List.map en_api_Span r15.1), .row 7 34 2 (List.map en_api_Span r15.2.1)]) rfl rfl rfl Try.call56 (atJ [(0, 1)] [(500, 6), (501, 7)] (fc_zone_Odd h22) rfl rfl) (.inr (List.forall_mem_cons.2 ⟨indep_map en_api_Span_flat, List.forall_mem_cons.2 ⟨indep_map en_api_Span_flat, (by simp)⟩⟩))) rfl trivial rfl rfl ?_
      refine op0 (sp_move rfl rfl) rfl trivial rfl rfl ?_
      refine op0 (sp_extract rfl rfl rfl) rfl trivial rfl rfl ?_
      refine op0 (sp_extract rfl rfl rfl) rfl trivial rfl rfl ?_
      refine op0 (sp_extract rfl rfl rfl) rfl trivial rfl rfl ?_
      refine op0 (sp_assign rfl rfl) rfl trivial rfl rfl ?_
      refine op0 (sp_assign rfl rfl) rfl trivial rfl rfl ?_
      refine op0 (sp_assign rfl rfl) rfl trivial rfl rfl ?_
      refine TL.nil ?_
      refine TC.seq ?_
      refine TC.seq ?_
      refine TC.region ?_
      refine op0 (sp_move rfl rfl) rfl trivial rfl rfl ?_
      refine op0 (sp_neq rfl rfl rfl) rfl trivial rfl rfl ?_
      refine op0 (sp_move rfl rfl) rfl trivial rfl rfl ?_
      rcases cond_cases h with ⟨h23, h⟩ | ⟨h23, h⟩
      · refine (boolLit 101 rfl h23).2 ?_
        refine opSkip rfl ⟨_, rfl, .inl rfl⟩ rfl ?_
        refine opSkip rfl ⟨_, rfl, .inl rfl⟩ rfl ?_
        refine op0 (sp_pickT rfl rfl rfl) rfl trivial rfl rfl ?_
        refine op0 (sp_move rfl rfl) rfl trivial rfl rfl ?_
        refine opSkip rfl ⟨_, rfl, .inl rfl⟩ rfl ?_
        refine opSkip rfl ⟨_, rfl, .inl rfl⟩ rfl ?_
        refine op0 (sp_pickT rfl rfl rfl) rfl trivial rfl rfl ?_
        refine op0 (sp_move rfl rfl) rfl trivial rfl rfl ?_
        refine opSkip rfl ⟨_, rfl, .inl rfl⟩ rfl ?_
        refine opSkip rfl ⟨_, rfl, .inl rfl⟩ rfl ?_
        refine opSkip rfl ⟨_, rfl, .inl rfl⟩ rfl ?_
        refine op0 (sp_pickT rfl rfl rfl) rfl trivial rfl rfl ?_
        refine op0 (sp_move rfl rfl) rfl trivial rfl rfl ?_
        refine opSkip rfl ⟨_, rfl, .inl rfl⟩ rfl ?_
        refine opSkip rfl ⟨_, rfl, .inl rfl⟩ rfl ?_
        refine opSkip rfl ⟨_, rfl, .inl rfl⟩ rfl ?_
        refine opSkip rfl ⟨_, rfl, .inl rfl⟩ rfl ?_
        refine opSkip rfl ⟨_, rfl, .inl rfl⟩ rfl ?_
        refine op0 (sp_pickT rfl rfl rfl) rfl trivial rfl rfl ?_
        refine TL.nil ?_
        refine TC.condT rfl ?_
        refine TC.seq ?_
        refine TC.region ?_
        refine op0 (sp_assign rfl rfl) rfl trivial rfl rfl ?_
        refine TL.nil ?_
        cases h
        exact retJ [] (.tmp rfl .nil) rfl trivial rfl rfl
      · refine (boolLit 101 rfl h23).2 ?_
        refine op0 (sp_move rfl rfl) rfl ⟨_, rfl, rfl⟩ rfl rfl ?_
        refine op0 (sp_neq rfl rfl rfl) rfl ⟨_, rfl, rfl⟩ rfl rfl ?_
        refine op0 (sp_pickF rfl rfl rfl) rfl trivial rfl rfl ?_
        refine op0 (sp_move rfl rfl) rfl trivial rfl rfl ?_
        rcases cond_cases h with ⟨h24, h⟩ | ⟨h24, h⟩
        · refine (boolLit 105 rfl h24).2 ?_
          refine opSkip rfl ⟨_, rfl, .inl rfl⟩ rfl ?_
          refine opSkip rfl ⟨_, rfl, .inl rfl⟩ rfl ?_
          refine op0 (sp_pickT rfl rfl rfl) rfl trivial rfl rfl ?_
          refine op0 (sp_move rfl rfl) rfl trivial rfl rfl ?_
          refine opSkip rfl ⟨_, rfl, .inl rfl⟩ rfl ?_
          refine opSkip rfl ⟨_, rfl, .inl rfl⟩ rfl ?_
          refine opSkip rfl ⟨_, rfl, .inl rfl⟩ rfl ?_
          refine op0 (sp_pickT rfl rfl rfl) rfl trivial rfl rfl ?_
          refine op0 (sp_move rfl rfl) rfl trivial rfl rfl ?_
          refine opSkip rfl ⟨_, rfl, .inl rfl⟩ rfl ?_
          refine opSkip rfl ⟨_, rfl, .inl rfl⟩ rfl ?_
          refine opSkip rfl ⟨_, rfl, .inl rfl⟩ rfl ?_
          refine opSkip rfl ⟨_, rfl, .inl rfl⟩ rfl ?_
          refine opSkip rfl ⟨_, rfl, .inl rfl⟩ rfl ?_
          refine op0 (sp_pickT rfl rfl rfl) rfl trivial rfl rfl ?_
          refine TL.nil ?_
          refine TC.condT rfl ?_
          refine TC.seq ?_
          refine TC.region ?_
          refine op0 (sp_assign rfl rfl) rfl trivial rfl rfl ?_
          refine TL.nil ?_
          cases h
          exact retJ [] (.tmp rfl .nil) rfl trivial rfl rfl
        · refine (boolLit 105 rfl h24).2 ?_
          refine op0 (sp_move rfl rfl) rfl ⟨_, rfl, rfl⟩ rfl rfl ?_
          refine op0 (sp_neq rfl rfl rfl) rfl ⟨_, rfl, rfl⟩ rfl rfl ?_
          refine op0 (sp_pickF rfl rfl rfl) rfl trivial rfl rfl ?_
          refine op0 (sp_move rfl rfl) rfl trivial rfl rfl ?_
          rcases cond_cases h with ⟨h25, h⟩ | ⟨h25, h⟩
          · refine (boolLit 109 rfl h25).2 ?_
            refine opSkip rfl ⟨_, rfl, .inl rfl⟩ rfl ?_
            refine opSkip rfl ⟨_, rfl, .inl rfl⟩ rfl ?_
            refine opSkip rfl ⟨_, rfl, .inl rfl⟩ rfl ?_
            refine op0 (sp_pickT rfl rfl rfl) rfl trivial rfl rfl ?_
            refine op0 (sp_move rfl rfl) rfl trivial rfl rfl ?_
            refine opSkip rfl ⟨_, rfl, .inl rfl⟩ rfl ?_
            refine opSkip rfl ⟨_, rfl, .inl rfl⟩ rfl ?_
            refine opSkip rfl ⟨_, rfl, .inl rfl⟩ rfl ?_
            refine opSkip rfl ⟨_, rfl, .inl rfl⟩ rfl ?_
            refine opSkip rfl ⟨_, rfl, .inl rfl⟩ rfl ?_
            refine op0 (sp_pickT rfl rfl rfl) rfl trivial rfl rfl ?_
            refine TL.nil ?_
            refine TC.condT rfl ?_
            refine TC.seq ?_
            refine TC.region ?_
            refine op0 (sp_assign rfl rfl) rfl trivial rfl rfl ?_
            refine TL.nil ?_
            cases h
            exact retJ [] (.tmp rfl .nil) rfl trivial rfl rfl
          · refine (boolLit 109 rfl h25).2 ?_
            refine op0 (sp_move rfl rfl) rfl ⟨_, rfl, rfl⟩ rfl rfl ?_
            refine op0 (sp_rem rfl rfl rfl (by decide)) rfl ⟨_, rfl, rfl⟩ rfl rfl ?_
            refine op0 (sp_neq rfl rfl rfl) rfl ⟨_, rfl, rfl⟩ rfl rfl ?_
            refine op0 (sp_pickF rfl rfl rfl) rfl trivial rfl rfl ?_
            refine op0 (sp_move rfl rfl) rfl trivial rfl rfl ?_
            rcases cond_cases h with ⟨h26, h⟩ | ⟨h26, h⟩
            · refine (boolLit 114 rfl h26).2 ?_
              refine opSkip rfl ⟨_, rfl, .inl rfl⟩ rfl ?_
              refine opSkip rfl ⟨_, rfl, .inl rfl⟩ rfl ?_
              refine opSkip rfl ⟨_, rfl, .inl rfl⟩ rfl ?_
              refine opSkip rfl ⟨_, rfl, .inl rfl⟩ rfl ?_
              refine opSkip rfl ⟨_, rfl, .inl rfl⟩ rfl ?_
              refine op0 (sp_pickT rfl rfl rfl) rfl trivial rfl rfl ?_
              refine TL.nil ?_
              refine TC.condT rfl ?_
              refine TC.seq ?_
              refine TC.region ?_
              refine op0 (sp_assign rfl rfl) rfl trivial rfl rfl ?_
              refine TL.nil ?_
              cases h
              exact retJ [] (.tmp rfl .nil) rfl trivial rfl rfl
            · refine (boolLit 114 rfl h26).2 ?_
              refine op0 (sp_move rfl rfl) rfl ⟨_, rfl, rfl⟩ rfl rfl ?_
              refine op0 (sp_rem rfl rfl rfl (by decide)) rfl ⟨_, rfl, rfl⟩ rfl rfl ?_
              obtain ⟨h27, h⟩ := chk_inv h
              refine op0 (sp_quo rfl rfl rfl (by decide) h27) rfl ⟨_, rfl, rfl⟩ rfl rfl ?_
              refine op0 (sp_move rfl rfl) rfl ⟨_, rfl, rfl⟩ rfl rfl ?_
              refine op0 (sp_neq rfl rfl rfl) rfl ⟨_, rfl, rfl⟩ rfl rfl ?_
              refine op0 (sp_pickF rfl rfl rfl) rfl trivial rfl rfl ?_
              refine TL.nil ?_
              refine TC.cond (b := ((Int.tdiv (Int.tmod r14.2.1 43200) 60) != r13.1)) rfl (fun h28 => ?_) (fun h28 => ?_)
              · have h := cond_t h h28
                refine TC.seq ?_
                refine TC.region ?_
                refine op0 (sp_assign rfl rfl) rfl trivial rfl rfl ?_
                refine TL.nil ?_
                cases h
                exact retJ [] (.tmp rfl .nil) rfl trivial rfl rfl
              · have h := cond_f h h28
                refine subJ [] (ok_top_TopZonePulse_j2 h) ?_ ?_ ?_
                · exact ⟨rfl, rfl, rfl, rfl, trivial⟩
                · exact ⟨mem_at 0 rfl, mem_at 1 rfl, trivial⟩
                · rfl
def ev_top_TopZonePulse_j0 (n : Nat) (minutes2 : Int) (from_1 : Int) (v4 : Int) (v3 : Int) (i6 : Int) (i7 : Int) (l8 : List (Int × Int)) : Option Bool :=
  ev_top_TopZonePulse_l1 n minutes2 from_1 i6 v4 v3 n 0 i7 ([] : List (Int × Int)) l8
set_option maxRecDepth 100000 in
set_option maxHeartbeats 2000000 in
theorem ok_top_TopZonePulse_j0 {n : Nat} {w0 : World} {R0 : Nat → Prop} {env0 : Env} {r : Bool} {v3 : Int} {from_1 : Int} {minutes2 : Int} {v4 : Int} {i6 : Int} {i7 : Int} {l8 : List (Int × Int)} (h : ev_top_TopZonePulse_j0 n minutes2 from_1 v4 v3 i6 i7 l8 = some r) : TC Try.prog ⟨w0, fun _ => False, R0⟩ 154 (bodyPost Try.prog Try.f13 (Post ⟨w0, fun _ => False, R0⟩ env0 (.val (.bool r)) [])) [.code (sub (bodyOf Try.f13) [1, 1, 1, 1, 1, 1, 0]), .code (sub (bodyOf Try.f13) [1, 1, 1, 1, 1, 1, 1])] ([(7, .val (.bool ((Int.tmod v3 2) == 1))), (9, .val (.int .i64 ((Int.tmod from_1 60000) + 100))), (10, .val (.int .i64 ((2 : Int) + (Int.tmod minutes2 19)))), (11, .ptr 2 0), (12, .val (.int .i64 i6)), (13, .val (.int .i64 ((((Int.tmod from_1 60000) + 100) + ((2 : Int) + (Int.tmod minutes2 19))) + v4)))]) ([.blk 2 [.val (.int .i64 i7), .ref 1] 165, .row 1 162 2 (List.map en_api_ZoneChange l8)]) := by
  rw [ev_top_TopZonePulse_j0] at h
  refine TC.region ?_
  refine op0 (sp_emptyM 3 (List.map en_api_PulseFault []) rfl rfl sl142) rfl trivial rfl rfl ?_
  refine op0 (sp_assign rfl rfl) rfl trivial rfl rfl ?_
  refine TL.nil ?_
  refine TC.seq ?_
  refine TC.seq ?_
  refine TC.region ?_
  refine op0 (sp_assign rfl rfl) rfl trivial rfl rfl ?_
  refine TL.nil ?_
  refine TC.block ?_
  refine TC.loop ?_
  refine TC.seq ?_
  refine TC.seq ?_
  refine subJ [] (ok_top_TopZonePulse_l1 _ _ _ _ _ h) ?_ ?_ ?_
  · exact ⟨rfl, rfl, rfl, rfl, rfl, rfl, rfl, rfl, trivial⟩
  · exact ⟨mem_at 1 rfl, mem_at 0 rfl, mem_at 2 rfl, trivial⟩
  · rfl
def ev_top_TopZonePulse (n : Nat) (from_1 : Int) (minutes2 : Int) (v3 : Int) (v4 : Int) : Option Bool :=
  chk (in64 from_1) <| chk (in64 ((Int.tmod from_1 60000) + 100)) <| chk (in64 minutes2) <| chk (in64 ((2 : Int) + (Int.tmod minutes2 19))) <| chk (in64 ((60 : Int) * ((Int.tmod from_1 60000) + 100))) <| chk (in64 ((60 : Int) * ((2 : Int) + (Int.tmod minutes2 19)))) <| chk (in64 (((Int.tmod from_1 60000) + 100) + ((2 : Int) + (Int.tmod minutes2 19)))) <| chk (in64 v4) <| chk (in64 ((((Int.tmod from_1 60000) + 100) + ((2 : Int) + (Int.tmod minutes2 19))) + v4)) <| cond ((Int.tmod v3 2) == 1) (chk (in64 (((-60) : Int) * ((2 : Int) + (Int.tmod minutes2 19)))) <| idx ([(((60 : Int) * ((Int.tmod from_1 60000) + 100)), ((60 : Int) * ((2 : Int) + (Int.tmod minutes2 19))))] : List (Int × Int)) 0 fun x5 => ev_top_TopZonePulse_j0 n minutes2 from_1 v4 v3 1 0 (List.set ([(((60 : Int) * ((Int.tmod from_1 60000) + 100)), ((60 : Int) * ((2 : Int) + (Int.tmod minutes2 19))))] : List (Int × Int)) (0 : Int).toNat (x5.1, (((-60) : Int) * ((2 : Int) + (Int.tmod minutes2 19)))))) (ev_top_TopZonePulse_j0 n minutes2 from_1 v4 v3 2 0 ([(((60 : Int) * ((Int.tmod from_1 60000) + 100)), ((60 : Int) * ((2 : Int) + (Int.tmod minutes2 19))))] : List (Int × Int)))
set_option maxRecDepth 100000 in
set_option maxHeartbeats 2000000 in
theorem fc_top_TopZonePulse {n : Nat} {from_1 : Int} {minutes2 : Int} {v3 : Int} {v4 : Int} {r : Bool} (h : ev_top_TopZonePulse n from_1 minutes2 v3 v4 = some r) : FC Try.prog 13 [.val (.int .u16 from_1), .val (.int .u8 minutes2), .agg [.val (.int .u8 v3), .val (.int .u8 v4)]] [] (.val (.bool r)) [] := by
  refine introJ (nz := 154) Try.func13 rfl rfl rfl (fun w0 R0 env0 => ?_)
  rw [ev_top_TopZonePulse] at h
  refine TC.seq ?_
  refine TC.region ?_
  refine op0 (sp_box 0 rfl rfl rfl rfl rfl) rfl trivial rfl rfl ?_
  refine op0 (sp_assign rfl rfl) rfl trivial rfl rfl ?_
  refine TL.nil ?_
  refine TC.seq ?_
  refine drawJ 7 [⟨.ptr 0 0, [], [.blk 0 [.val (.int .u8 v3), .val (.int .u8 v4)] 45], []⟩, ⟨.val (.int .u8 v3), [], [.blk 0 [.val (.int .u8 v3), .val (.int .u8 v4)] 45], []⟩, ⟨.val (.int .u8 (Int.tmod v3 2)), [], [], []⟩, ⟨.val (.bool ((Int.tmod v3 2) == 1)), [], [], []⟩, ⟨.ptr 0 1, [], [.blk 0 [.val (.int .u8 v3), .val (.int .u8 v4)] 45], []⟩, ⟨.val (.int .u8 v4), [], [.blk 0 [.val (.int .u8 v3), .val (.int .u8 v4)] 45], []⟩, ⟨.val (.bool ((Int.tmod v3 2) == 1)), [], [], []⟩] rfl ?_ rfl ?_ rfl ?_ ?_
  · kernel_rfl
  · kernel_rfl
  · exact DAll.op' (sp_indexA (len := 2) (iv := 0) rfl isBlk rfl rfl Try.underlying45 vt5 (by decide)) trivial rfl (From.ok (ps := [(none, 0)]) ⟨⟨rfl, rfl⟩, trivial⟩) (DAll.op' (sp_loadB rfl isBlk rfl vt5 rfl) trivial rfl (From.ok (ps := [(none, 0)]) ⟨⟨rfl, rfl⟩, trivial⟩) (DAll.op' (sp_rem rfl rfl rfl (by decide)) trivial rfl (From.ok (ps := []) trivial) (DAll.op' (sp_eql rfl rfl rfl) trivial rfl (From.ok (ps := []) trivial) (DAll.op' (sp_indexA (len := 2) (iv := 1) rfl isBlk rfl rfl Try.underlying45 vt5 (by decide)) trivial rfl (From.ok (ps := [(none, 0)]) ⟨⟨rfl, rfl⟩, trivial⟩) (DAll.op' (sp_loadB rfl isBlk rfl vt5 rfl) trivial rfl (From.ok (ps := [(none, 0)]) ⟨⟨rfl, rfl⟩, trivial⟩) (DAll.op' (sp_assign rfl rfl) trivial rfl (From.ok (ps := []) trivial) (.nil)))))))
  refine op0 (sp_assign rfl rfl) rfl trivial rfl rfl ?_
  refine TL.nil ?_
  refine TC.seq ?_
  refine TC.region ?_
  refine op0 (sp_move rfl rfl) rfl trivial rfl rfl ?_
  obtain ⟨h1, h⟩ := chk_inv h
  refine op0 (sp_conv rfl Try.underlying46 Try.underlying3 rfl h1) rfl trivial rfl rfl ?_
  refine op0 (sp_rem rfl rfl rfl (by decide)) rfl trivial rfl rfl ?_
  obtain ⟨h2, h⟩ := chk_inv h
  refine op0 (sp_add rfl rfl rfl h2) rfl trivial rfl rfl ?_
  refine op0 (sp_move rfl rfl) rfl trivial rfl rfl ?_
  obtain ⟨h3, h⟩ := chk_inv h
  refine op0 (sp_conv rfl Try.underlying5 Try.underlying3 rfl h3) rfl trivial rfl rfl ?_
  refine op0 (sp_rem rfl rfl rfl (by decide)) rfl trivial rfl rfl ?_
  obtain ⟨h4, h⟩ := chk_inv h
  refine op0 (sp_add rfl rfl rfl h4) rfl trivial rfl rfl ?_
  refine op0 (sp_assign rfl rfl) rfl trivial rfl rfl ?_
  refine op0 (sp_assign rfl rfl) rfl trivial rfl rfl ?_
  refine TL.nil ?_
  refine TC.seq ?_
  refine TC.region ?_
  refine op0 (sp_move rfl rfl) rfl trivial rfl rfl ?_
  obtain ⟨h5, h⟩ := chk_inv h
  refine op0 (sp_mul rfl rfl rfl h5) rfl trivial rfl rfl ?_
  refine op0 (sp_move rfl rfl) rfl trivial rfl rfl ?_
  obtain ⟨h6, h⟩ := chk_inv h
  refine op0 (sp_mul rfl rfl rfl h6) rfl trivial rfl rfl ?_
  refine op0 (sp_build (qs := [(0, .val (.int .i64 ((60 : Int) * ((Int.tmod from_1 60000) + 100)))), (1, .val (.int .i64 ((60 : Int) * ((2 : Int) + (Int.tmod minutes2 19)))))]) rfl bt162 rfl rfl rfl rfl) rfl trivial rfl rfl ?_
  refine op0 (sp_buildSlice (qs := [.agg [.val (.int .i64 ((60 : Int) * ((Int.tmod from_1 60000) + 100))), .val (.int .i64 ((60 : Int) * ((2 : Int) + (Int.tmod minutes2 19))))]]) (need := []) (els := List.map en_api_ZoneChange ([(((60 : Int) * ((Int.tmod from_1 60000) + 100)), ((60 : Int) * ((2 : Int) + (Int.tmod minutes2 19))))] : List (Int × Int))) 1 rfl sl163 (by decide) (by decide) rfl rfl rfl (.v (.v (.nil))) (map_len fun _ => rfl) rfl rfl rfl) rfl trivial rfl rfl ?_
  refine op0 (sp_build (qs := [(1, .ref 1)]) rfl bt165 rfl rfl rfl rfl) rfl trivial rfl rfl ?_
  refine op0 (sp_alloc 2 rfl Try.zeroValue165 rfl) rfl trivial rfl rfl ?_
  refine stoB 0 (cells' := [.val (.int .i64 0), .ref 1]) rfl rfl trivial rfl rfl rfl rfl vt165 rfl rfl rfl ?_
  refine TL.nil ?_
  refine TC.seq ?_
  refine TC.region ?_
  refine op0 (sp_move rfl rfl) rfl trivial rfl rfl ?_
  refine op0 (sp_move rfl rfl) rfl trivial rfl rfl ?_
  obtain ⟨h7, h⟩ := chk_inv h
  refine op0 (sp_add rfl rfl rfl h7) rfl trivial rfl rfl ?_
  refine op0 (sp_move rfl rfl) rfl trivial rfl rfl ?_
  obtain ⟨h8, h⟩ := chk_inv h
  refine op0 (sp_conv rfl Try.underlying5 Try.underlying3 rfl h8) rfl trivial rfl rfl ?_
  obtain ⟨h9, h⟩ := chk_inv h
  refine op0 (sp_add rfl rfl rfl h9) rfl trivial rfl rfl ?_
  refine op0 (sp_assign rfl rfl) rfl trivial rfl rfl ?_
  refine op0 (sp_assign rfl rfl) rfl trivial rfl rfl ?_
  refine TL.nil ?_
  refine TC.seq ?_
  refine TC.seq ?_
  refine TC.region ?_
  refine op0 (sp_move rfl rfl) rfl trivial rfl rfl ?_
  refine TL.nil ?_
  refine TC.cond (b := ((Int.tmod v3 2) == 1)) rfl (fun h10 => ?_) (fun h10 => ?_)
  · have h := cond_t h h10
    refine TC.region ?_
    refine op1 0 rfl (sp_fieldAddrB rfl isBlk rfl ft165_1 vt163 (by decide)) rfl trivial rfl rfl ?_
    refine op1 0 rfl (sp_loadB rfl isBlk rfl vt163 rfl) rfl trivial rfl rfl ?_
    refine op0 (sp_move rfl rfl) rfl trivial rfl rfl ?_
    obtain ⟨h11, h⟩ := chk_inv h
    refine op0 (sp_mul rfl rfl rfl h11) rfl trivial rfl rfl ?_
    obtain ⟨x5, h12, h13, h⟩ := idx_inv h
    refine op1 1 rfl (sp_indexS rfl rfl rfl isOwn sl163 h12 (map_get _ h13)) rfl trivial rfl rfl ?_
    refine op1 1 rfl (sp_fieldAddrR (i := (0 : Int).toNat) rfl rfl isOwn ft162_1 vt3 (by decide) (map_get _ h13) (fun h => nomatch h)) rfl trivial rfl rfl ?_
    refine stoR 1 ((0 : Int).toNat) 1 (need := []) [] rfl rfl trivial rfl rfl rfl rfl vt3 rfl rfl (map_get _ h13) rfl rfl trivial (.v (.nil)) (map_set ([(((60 : Int) * ((Int.tmod from_1 60000) + 100)), ((60 : Int) * ((2 : Int) + (Int.tmod minutes2 19))))] : List (Int × Int)) en_api_ZoneChange ((0 : Int).toNat) (x5.1, (((-60) : Int) * ((2 : Int) + (Int.tmod minutes2 19))))) ?_
    refine op0 (sp_assign rfl rfl) rfl trivial rfl rfl ?_
    refine TL.nil ?_
    refine TC.seq ?_
    refine subJ [] (ok_top_TopZonePulse_j0 h) ?_ ?_ ?_
    · exact ⟨rfl, rfl, rfl, rfl, rfl, rfl, trivial⟩
    · exact ⟨mem_at 0 rfl, mem_at 1 rfl, trivial⟩
    · rfl
  · have h := cond_f h h10
    refine TC.skip ?_
    refine TC.seq ?_
    refine subJ [] (ok_top_TopZonePulse_j0 h) ?_ ?_ ?_
    · exact ⟨rfl, rfl, rfl, rfl, rfl, rfl, trivial⟩
    · exact ⟨mem_at 0 rfl, mem_at 1 rfl, trivial⟩
    · rfl
end
end Go.Proofs.Ytgkoldcmbcbbpaa.Sy
