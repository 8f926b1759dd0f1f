/- What functions of the program compute, and that they do: printed by symgen.py. -/
import Derived.Test.YtgkoldcmbcbbpaaGLib
import Derived.Test.YtgkoldcmbcbbpaaGPulse
import Derived.Test.YtgkoldcmbcbbpaaGStrike
set_option linter.unusedSimpArgs false
set_option linter.unusedVariables false
namespace Go.Proofs.Ytgkoldcmbcbbpaa.Sy
open Go.RowKit
noncomputable section

/- top_TopPulseStrike -/
def ev_top_TopPulseStrike_j1 (n : Nat) (i24 : Int) (b25 : Bool) (b26 : Bool) (b27 : Bool) (b28 : Bool) (b29 : Bool) (b30 : Bool) (b31 : Bool) (b32 : Bool) (b33 : Bool) (b34 : Bool) (b35 : Bool) (b36 : Bool) (b37 : Bool) (b38 : Bool) (b39 : Bool) (b40 : Bool) (b41 : Bool) (b42 : Bool) (b43 : Bool) (b44 : Bool) (day1 : Int) (l45 : List (Int × Int)) (i23 : Int) (l46 : List (Int × Int)) (i22 : Int) (k_top_TopPulseStrike_l0 : Int → Int → Int → Bool → Bool → Bool → Bool → Bool → Bool → Bool → Bool → Bool → Bool → Bool → Bool → Bool → Bool → Bool → Bool → Bool → Bool → Bool → Bool → (List (Int × Int)) → (List (Int × Int)) → Option Bool) (i47 : Int) : Option Bool :=
  chk (decide (0 ≤ i24) && decide (i24 < 20)) <| idx ([b25, b26, b27, b28, b29, b30, b31, b32, b33, b34, b35, b36, b37, b38, b39, b40, b41, b42, b43, b44] : List Bool) i24 fun x48 => cond x48 (chk (in64 (((24 : Int) * (Int.tmod day1 60)) + i24)) <| chk (in64 ((((24 : Int) * (Int.tmod day1 60)) + i24) + 1)) <| chk (in64 ((60 : Int) * ((((24 : Int) * (Int.tmod day1 60)) + i24) + 1))) <| chk (room 16 (l45.length + ([(((60 : Int) * ((((24 : Int) * (Int.tmod day1 60)) + i24) + 1)), 1)] : List (Int × Int)).length)) <| chk (in64 (i23 + 1)) <| chk (in64 (((24 : Int) * (Int.tmod day1 60)) + i24)) <| chk (room 16 (l46.length + ([((((24 : Int) * (Int.tmod day1 60)) + i24), 0)] : List (Int × Int)).length)) <| chk (in64 (i24 + 1)) <| k_top_TopPulseStrike_l0 i22 (i23 + 1) (i24 + 1) b25 b26 b27 b28 b29 b30 b31 b32 b33 b34 b35 b36 b37 b38 b39 b40 b41 b42 b43 b44 (l45 ++ ([(((60 : Int) * ((((24 : Int) * (Int.tmod day1 60)) + i24) + 1)), 1)] : List (Int × Int))) (l46 ++ ([((((24 : Int) * (Int.tmod day1 60)) + i24), 0)] : List (Int × Int)))) (chk (in64 (i22 + 1)) <| chk (in64 (((24 : Int) * (Int.tmod day1 60)) + i24)) <| chk (room 16 (l46.length + ([((((24 : Int) * (Int.tmod day1 60)) + i24), i47)] : List (Int × Int)).length)) <| chk (in64 (i24 + 1)) <| k_top_TopPulseStrike_l0 (Int.tmod (i22 + 1) 12) i23 (i24 + 1) b25 b26 b27 b28 b29 b30 b31 b32 b33 b34 b35 b36 b37 b38 b39 b40 b41 b42 b43 b44 l45 (l46 ++ ([((((24 : Int) * (Int.tmod day1 60)) + i24), i47)] : List (Int × Int))))
set_option maxRecDepth 100000 in
set_option maxHeartbeats 2000000 in
theorem ok_top_TopPulseStrike_j1 {n : Nat} {w0 : World} {R0 : Nat → Prop} {env0 : Env} {r : Bool} {day1 : Int} {i24 : Int} {b25 : Bool} {b26 : Bool} {b27 : Bool} {b28 : Bool} {b29 : Bool} {b30 : Bool} {b31 : Bool} {b32 : Bool} {b33 : Bool} {b34 : Bool} {b35 : Bool} {b36 : Bool} {b37 : Bool} {b38 : Bool} {b39 : Bool} {b40 : Bool} {b41 : Bool} {b42 : Bool} {b43 : Bool} {b44 : Bool} {l45 : List (Int × Int)} {i23 : Int} {l46 : List (Int × Int)} {i22 : Int} {k_top_TopPulseStrike_l0 : Int → Int → Int → Bool → Bool → Bool → Bool → Bool → Bool → Bool → Bool → Bool → Bool → Bool → Bool → Bool → Bool → Bool → Bool → Bool → Bool → Bool → Bool → (List (Int × Int)) → (List (Int × Int)) → Option Bool} {i47 : Int} (hk_top_TopPulseStrike_l0 : ∀ (i22 : Int) (i23 : Int) (i24 : Int) (b25 : Bool) (b26 : Bool) (b27 : Bool) (b28 : Bool) (b29 : Bool) (b30 : Bool) (b31 : Bool) (b32 : Bool) (b33 : Bool) (b34 : Bool) (b35 : Bool) (b36 : Bool) (b37 : Bool) (b38 : Bool) (b39 : Bool) (b40 : Bool) (b41 : Bool) (b42 : Bool) (b43 : Bool) (b44 : Bool) (l45 : List (Int × Int)) (l46 : List (Int × Int)), k_top_TopPulseStrike_l0 i22 i23 i24 b25 b26 b27 b28 b29 b30 b31 b32 b33 b34 b35 b36 b37 b38 b39 b40 b41 b42 b43 b44 l45 l46 = some r → TC Try.prog ⟨w0, fun _ => False, R0⟩ 138 (bodyPost Try.prog Try.f12 (Post ⟨w0, fun _ => False, R0⟩ env0 (.val (.bool r)) [])) [.code (sub (bodyOf Try.f12) [1, 1, 1, 0, 1, 0, 0, 0, 0]), .code (sub (bodyOf Try.f12) [1, 1, 1, 0, 1, 0, 0, 0, 1]), .code (sub (bodyOf Try.f12) [1, 1, 1, 0, 1, 0, 0, 1]), .inLoop (sub (bodyOf Try.f12) [1, 1, 1, 0, 1, 0, 0]), .inBlock 0, .code (sub (bodyOf Try.f12) [1, 1, 1, 1])] ([(3, .ptr 0 0), (5, .val (.int .i64 ((24 : Int) * (Int.tmod day1 60)))), (6, .ref 1), (7, .val (.int .i64 i22)), (8, .ref 2), (9, .val (.int .i64 i23)), (10, .val (.int .i64 i24))]) ([.blk 0 [.val (.bool b25), .val (.bool b26), .val (.bool b27), .val (.bool b28), .val (.bool b29), .val (.bool b30), .val (.bool b31), .val (.bool b32), .val (.bool b33), .val (.bool b34), .val (.bool b35), .val (.bool b36), .val (.bool b37), .val (.bool b38), .val (.bool b39), .val (.bool b40), .val (.bool b41), .val (.bool b42), .val (.bool b43), .val (.bool b44)] 151, .row 1 155 2 (List.map en_api_PulseFault l45), .row 2 157 2 (List.map en_api_StrikeHeard l46)])) (h : ev_top_TopPulseStrike_j1 n i24 b25 b26 b27 b28 b29 b30 b31 b32 b33 b34 b35 b36 b37 b38 b39 b40 b41 b42 b43 b44 day1 l45 i23 l46 i22 k_top_TopPulseStrike_l0 i47 = some r) : TC Try.prog ⟨w0, fun _ => False, R0⟩ 138 (bodyPost Try.prog Try.f12 (Post ⟨w0, fun _ => False, R0⟩ env0 (.val (.bool r)) [])) [.code (sub (bodyOf Try.f12) [1, 1, 1, 0, 1, 0, 0, 1, 0, 0, 1, 1, 0, 0]), .code (sub (bodyOf Try.f12) [1, 1, 1, 0, 1, 0, 0, 1, 0, 0, 1, 1, 0, 1]), .code (sub (bodyOf Try.f12) [1, 1, 1, 0, 1, 0, 0, 1, 0, 0, 1, 1, 1]), .inBlock 1, .code (sub (bodyOf Try.f12) [1, 1, 1, 0, 1, 0, 0, 1, 1]), .inLoop (sub (bodyOf Try.f12) [1, 1, 1, 0, 1, 0, 0]), .inBlock 0, .code (sub (bodyOf Try.f12) [1, 1, 1, 1])] ([(3, .ptr 0 0), (5, .val (.int .i64 ((24 : Int) * (Int.tmod day1 60)))), (6, .ref 1), (7, .val (.int .i64 i22)), (8, .ref 2), (9, .val (.int .i64 i23)), (10, .val (.int .i64 i24)), (11, .val (.int .i64 i47))]) ([.blk 0 [.val (.bool b25), .val (.bool b26), .val (.bool b27), .val (.bool b28), .val (.bool b29), .val (.bool b30), .val (.bool b31), .val (.bool b32), .val (.bool b33), .val (.bool b34), .val (.bool b35), .val (.bool b36), .val (.bool b37), .val (.bool b38), .val (.bool b39), .val (.bool b40), .val (.bool b41), .val (.bool b42), .val (.bool b43), .val (.bool b44)] 151, .row 1 155 2 (List.map en_api_PulseFault l45), .row 2 157 2 (List.map en_api_StrikeHeard l46)]) := by
  rw [ev_top_TopPulseStrike_j1] at h
  refine TC.region ?_
  refine op0 (sp_move rfl rfl) rfl trivial rfl rfl ?_
  obtain ⟨h5, h⟩ := chk_inv h
  obtain ⟨x48, h6, h7, h⟩ := idx_inv h
  refine op1 0 rfl (sp_indexA (len := 20) rfl isBlk rfl rfl Try.underlying151 vt4 h5) rfl trivial rfl rfl ?_
  refine op1 0 rfl (sp_loadB rfl isBlk rfl vt4 (arr_get (enc := ax_bool) (j := 0) (fun _ => rfl) rfl (pre := []) (post := []) (xs := ([b25, b26, b27, b28, b29, b30, b31, b32, b33, b34, b35, b36, b37, b38, b39, b40, b41, b42, b43, b44] : List Bool)) rfl h7 rfl)) rfl trivial rfl rfl ?_
  refine TL.nil ?_
  refine TC.cond (b := x48) rfl (fun h8 => ?_) (fun h8 => ?_)
  · have h := cond_t h h8
    refine TC.region ?_
    refine op0 (sp_move rfl rfl) rfl trivial rfl rfl ?_
    refine op0 (sp_move rfl rfl) rfl trivial rfl rfl ?_
    refine op0 (sp_move rfl rfl) rfl trivial rfl rfl ?_
    obtain ⟨h9, h⟩ := chk_inv h
    refine op0 (sp_add rfl rfl rfl h9) rfl trivial rfl rfl ?_
    obtain ⟨h10, h⟩ := chk_inv h
    refine op0 (sp_add rfl rfl rfl h10) rfl trivial rfl rfl ?_
    obtain ⟨h11, h⟩ := chk_inv h
    refine op0 (sp_mul rfl rfl rfl h11) rfl trivial rfl rfl ?_
    refine op0 (sp_build (qs := [(0, .val (.int .i64 ((60 : Int) * ((((24 : Int) * (Int.tmod day1 60)) + i24) + 1)))), (1, .val (.int .i64 1))]) rfl bt155 rfl rfl rfl rfl) rfl trivial rfl rfl ?_
    refine op0 (sp_buildSlice (qs := [.agg [.val (.int .i64 ((60 : Int) * ((((24 : Int) * (Int.tmod day1 60)) + i24) + 1))), .val (.int .i64 1)]]) (need := []) (els := List.map en_api_PulseFault ([(((60 : Int) * ((((24 : Int) * (Int.tmod day1 60)) + i24) + 1)), 1)] : List (Int × Int))) 3 rfl sl142 (by decide) (by decide) rfl rfl rfl (.v (.v (.nil))) (map_len fun _ => rfl) rfl rfl rfl) rfl trivial rfl rfl ?_
    obtain ⟨h12, h⟩ := chk_inv h
    refine appM 2 0 (N := l45.length) (N2 := ([(((60 : Int) * ((((24 : Int) * (Int.tmod day1 60)) + i24) + 1)), 1)] : List (Int × Int)).length) 4 rfl rfl trivial rfl rfl rfl rfl rfl isOwn rfl sl142 (len_map _ _) (len_map _ _) h12 (map_app _ _ _) rfl ?_
    refine op0 (sp_move rfl rfl) rfl trivial rfl rfl ?_
    obtain ⟨h13, h⟩ := chk_inv h
    refine op0 (sp_add rfl rfl rfl h13) rfl trivial rfl rfl ?_
    refine op0 (sp_assign rfl rfl) rfl trivial rfl rfl ?_
    refine op0 (sp_assign rfl rfl) rfl trivial rfl rfl ?_
    refine op0 (sp_assign rfl rfl) rfl trivial rfl rfl ?_
    refine TL.nil ?_
    refine TC.region ?_
    refine op0 (sp_move rfl rfl) rfl trivial rfl rfl ?_
    refine op0 (sp_move rfl rfl) rfl trivial rfl rfl ?_
    refine op0 (sp_move rfl rfl) rfl trivial rfl rfl ?_
    obtain ⟨h14, h⟩ := chk_inv h
    refine op0 (sp_add rfl rfl rfl h14) rfl trivial rfl rfl ?_
    refine op0 (sp_move rfl rfl) rfl trivial rfl rfl ?_
    refine op0 (sp_build (qs := [(0, .val (.int .i64 (((24 : Int) * (Int.tmod day1 60)) + i24))), (1, .val (.int .i64 0))]) rfl bt157 rfl rfl rfl rfl) rfl trivial rfl rfl ?_
    refine op0 (sp_buildSlice (qs := [.agg [.val (.int .i64 (((24 : Int) * (Int.tmod day1 60)) + i24)), .val (.int .i64 0)]]) (need := []) (els := List.map en_api_StrikeHeard ([((((24 : Int) * (Int.tmod day1 60)) + i24), 0)] : List (Int × Int))) 5 rfl sl152 (by decide) (by decide) rfl rfl rfl (.v (.v (.nil))) (map_len fun _ => rfl) rfl rfl rfl) rfl trivial rfl rfl ?_
    obtain ⟨h15, h⟩ := chk_inv h
    refine appM 4 0 (N := l46.length) (N2 := ([((((24 : Int) * (Int.tmod day1 60)) + i24), 0)] : List (Int × Int)).length) 6 rfl rfl trivial rfl rfl rfl rfl rfl isOwn rfl sl152 (len_map _ _) (len_map _ _) h15 (map_app _ _ _) rfl ?_
    refine op0 (sp_assign rfl rfl) rfl trivial rfl rfl ?_
    refine TL.nil ?_
    refine TC.inBlock ?_
    refine TC.region ?_
    refine op0 (sp_move rfl rfl) rfl trivial rfl rfl ?_
    obtain ⟨h16, h⟩ := chk_inv h
    refine op0 (sp_add rfl rfl rfl h16) rfl trivial rfl rfl ?_
    refine op0 (sp_assign rfl rfl) rfl trivial rfl rfl ?_
    refine TL.nil ?_
    refine TC.inLoop ?_
    refine TC.seq ?_
    refine TC.seq ?_
    refine subJ [(1, 4), (2, 6)] (hk_top_TopPulseStrike_l0 _ _ _ _ _ _ _ _ _ _ _ _ _ _ _ _ _ _ _ _ _ _ _ _ _ h) ?_ ?_ ?_
    · exact ⟨rfl, rfl, rfl, rfl, rfl, rfl, rfl, trivial⟩
    · exact ⟨mem_at 4 rfl, mem_at 2 rfl, mem_at 0 rfl, trivial⟩
    · rfl
  · have h := cond_f h h8
    refine TC.region ?_
    refine op0 (sp_move rfl rfl) rfl trivial rfl rfl ?_
    obtain ⟨h17, h⟩ := chk_inv h
    refine op0 (sp_add rfl rfl rfl h17) rfl trivial rfl rfl ?_
    refine op0 (sp_rem rfl rfl rfl (by decide)) rfl trivial rfl rfl ?_
    refine op0 (sp_assign rfl rfl) rfl trivial rfl rfl ?_
    refine TL.nil ?_
    refine TC.region ?_
    refine op0 (sp_move rfl rfl) rfl trivial rfl rfl ?_
    refine op0 (sp_move rfl rfl) rfl trivial rfl rfl ?_
    refine op0 (sp_move rfl rfl) rfl trivial rfl rfl ?_
    obtain ⟨h18, h⟩ := chk_inv h
    refine op0 (sp_add rfl rfl rfl h18) rfl trivial rfl rfl ?_
    refine op0 (sp_move rfl rfl) rfl trivial rfl rfl ?_
    refine op0 (sp_build (qs := [(0, .val (.int .i64 (((24 : Int) * (Int.tmod day1 60)) + i24))), (1, .val (.int .i64 i47))]) rfl bt157 rfl rfl rfl rfl) rfl trivial rfl rfl ?_
    refine op0 (sp_buildSlice (qs := [.agg [.val (.int .i64 (((24 : Int) * (Int.tmod day1 60)) + i24)), .val (.int .i64 i47)]]) (need := []) (els := List.map en_api_StrikeHeard ([((((24 : Int) * (Int.tmod day1 60)) + i24), i47)] : List (Int × Int))) 7 rfl sl152 (by decide) (by decide) rfl rfl rfl (.v (.v (.nil))) (map_len fun _ => rfl) rfl rfl rfl) rfl trivial rfl rfl ?_
    obtain ⟨h19, h⟩ := chk_inv h
    refine appM 3 0 (N := l46.length) (N2 := ([((((24 : Int) * (Int.tmod day1 60)) + i24), i47)] : List (Int × Int)).length) 8 rfl rfl trivial rfl rfl rfl rfl rfl isOwn rfl sl152 (len_map _ _) (len_map _ _) h19 (map_app _ _ _) rfl ?_
    refine op0 (sp_assign rfl rfl) rfl trivial rfl rfl ?_
    refine TL.nil ?_
    refine TC.inBlock ?_
    refine TC.region ?_
    refine op0 (sp_move rfl rfl) rfl trivial rfl rfl ?_
    obtain ⟨h20, h⟩ := chk_inv h
    refine op0 (sp_add rfl rfl rfl h20) rfl trivial rfl rfl ?_
    refine op0 (sp_assign rfl rfl) rfl trivial rfl rfl ?_
    refine TL.nil ?_
    refine TC.inLoop ?_
    refine TC.seq ?_
    refine TC.seq ?_
    refine subJ [(2, 8)] (hk_top_TopPulseStrike_l0 _ _ _ _ _ _ _ _ _ _ _ _ _ _ _ _ _ _ _ _ _ _ _ _ _ h) ?_ ?_ ?_
    · exact ⟨rfl, rfl, rfl, rfl, rfl, rfl, rfl, trivial⟩
    · exact ⟨mem_at 2 rfl, mem_at 3 rfl, mem_at 0 rfl, trivial⟩
    · rfl
def ev_top_TopPulseStrike_l3 (n : Nat) (r49 : Int × (List Int) × Int) (i22 : Int) (day1 : Int) (r50 : Int × Int) (i23 : Int) : Nat → Bool → Int → Option Bool
  | 0, _, _ => none
  | m + 1, b51, i52 => cond (decide (i52 < (r49.2.1.length : Int))) (cond b51 (chk (in64 (i52 + 1)) <| ev_top_TopPulseStrike_l3 n r49 i22 day1 r50 i23 m true (i52 + 1)) (idx r49.2.1 i52 fun x53 => chk (in64 (i52 + 1)) <| ev_top_TopPulseStrike_l3 n r49 i22 day1 r50 i23 m (x53 == i22) (i52 + 1))) (cond b51 (chk (in64 ((60 : Int) * (((24 : Int) * (Int.tmod day1 60)) + 20))) <| chk (in64 (((60 : Int) * (((24 : Int) * (Int.tmod day1 60)) + 20)) - r50.1)) <| (ev_top_pubRest n (((60 : Int) * (((24 : Int) * (Int.tmod day1 60)) + 20)) - r50.1) 720).bind fun r54 => cond (r54 == i23) (chk (in64 ((((24 : Int) * (Int.tmod day1 60)) + 20) - i22)) <| (ev_top_pubRest n ((((24 : Int) * (Int.tmod day1 60)) + 20) - i22) 12).bind fun r55 => cond (r55 == (Int.tmod i23 12)) ((ev_top_pubStrike n).bind fun r56 => cond r56 ((ev_top_pubPulse n).bind fun r57 => some r57) (some false)) (some false)) (some false)) (some false))
set_option maxRecDepth 100000 in
set_option maxHeartbeats 2000000 in
theorem ok_top_TopPulseStrike_l3 {n : Nat} {w0 : World} {R0 : Nat → Prop} {env0 : Env} {r : Bool} {i22 : Int} {i23 : Int} {day1 : Int} {r50 : Int × Int} {r49 : Int × (List Int) × Int} : ∀ (m : Nat) (b51 : Bool) (i52 : Int), ev_top_TopPulseStrike_l3 n r49 i22 day1 r50 i23 m b51 i52 = some r → TC Try.prog ⟨w0, fun _ => False, R0⟩ 138 (bodyPost Try.prog Try.f12 (Post ⟨w0, fun _ => False, R0⟩ env0 (.val (.bool r)) [])) [.code (sub (bodyOf Try.f12) [1, 1, 1, 1, 1, 1, 1, 1, 1, 0, 1, 0, 0, 0, 0]), .code (sub (bodyOf Try.f12) [1, 1, 1, 1, 1, 1, 1, 1, 1, 0, 1, 0, 0, 0, 1]), .code (sub (bodyOf Try.f12) [1, 1, 1, 1, 1, 1, 1, 1, 1, 0, 1, 0, 0, 1]), .inLoop (sub (bodyOf Try.f12) [1, 1, 1, 1, 1, 1, 1, 1, 1, 0, 1, 0, 0]), .inBlock 2, .code (sub (bodyOf Try.f12) [1, 1, 1, 1, 1, 1, 1, 1, 1, 1])] ([(7, .val (.int .i64 i22)), (9, .val (.int .i64 i23)), (12, .val (.int .i64 (((24 : Int) * (Int.tmod day1 60)) + 20))), (14, .ref 10), (16, .val (.int .i64 r50.1)), (18, .val (.bool b51)), (19, .val (.int .i64 i52))]) ([.row 10 3 1 (List.map en_int r49.2.1)]) := by
  intro m
  induction m with
  | zero => intro b51 i52 h; exact none_no h
  | succ m ih =>
    intro b51 i52 h
    rw [ev_top_TopPulseStrike_l3] at h
    refine TC.region ?_
    refine op0 (sp_move rfl rfl) rfl trivial rfl rfl ?_
    refine op0 (sp_move rfl rfl) rfl trivial rfl rfl ?_
    refine op1 0 rfl (sp_lenM (N := r49.2.1.length) (len_map _ _) rfl rfl isOwn Try.underlying50) rfl trivial rfl rfl ?_
    refine op0 (sp_lss rfl rfl rfl) rfl trivial rfl rfl ?_
    refine TL.nil ?_
    refine TC.cond (b := (decide (i52 < (r49.2.1.length : Int)))) rfl (fun h31 => ?_) (fun h31 => ?_)
    · have h := cond_t h h31
      refine TC.skip ?_
      refine TC.seq ?_
      refine TC.block ?_
      refine TC.region ?_
      refine op0 (sp_move rfl rfl) rfl trivial rfl rfl ?_
      refine op0 (sp_move rfl rfl) rfl trivial rfl rfl ?_
      rcases cond_cases h with ⟨h32, h⟩ | ⟨h32, h⟩
      · refine (boolLit 105 rfl h32).2 ?_
        refine opSkip rfl ⟨_, rfl, .inl rfl⟩ rfl ?_
        refine opSkip rfl ⟨_, rfl, .inl rfl⟩ rfl ?_
        refine opSkip rfl ⟨_, rfl, .inl rfl⟩ rfl ?_
        refine opSkip rfl ⟨_, rfl, .inl rfl⟩ rfl ?_
        refine opSkip rfl ⟨_, rfl, .inl rfl⟩ rfl ?_
        refine opSkip rfl ⟨_, rfl, .inl rfl⟩ rfl ?_
        refine op0 (sp_pickT rfl rfl rfl) rfl trivial rfl rfl ?_
        refine op0 (sp_assign rfl rfl) rfl trivial rfl rfl ?_
        refine TL.nil ?_
        refine TC.inBlock ?_
        refine TC.region ?_
        refine op0 (sp_move rfl rfl) rfl trivial rfl rfl ?_
        obtain ⟨h33, h⟩ := chk_inv h
        refine op0 (sp_add rfl rfl rfl h33) rfl trivial rfl rfl ?_
        refine op0 (sp_assign rfl rfl) rfl trivial rfl rfl ?_
        refine TL.nil ?_
        refine TC.inLoop ?_
        refine TC.seq ?_
        refine TC.seq ?_
        refine subJ [] (ih _ _ h) ?_ ?_ ?_
        · exact ⟨rfl, rfl, rfl, rfl, rfl, rfl, rfl, trivial⟩
        · exact ⟨mem_at 0 rfl, trivial⟩
        · rfl
      · refine (boolLit 105 rfl h32).2 ?_
        refine op0 (sp_move rfl rfl) rfl ⟨_, rfl, rfl⟩ rfl rfl ?_
        refine op0 (sp_move rfl rfl) rfl ⟨_, rfl, rfl⟩ rfl rfl ?_
        obtain ⟨x53, h34, h35, h⟩ := idx_inv h
        refine op1 0 rfl (sp_indexS rfl rfl rfl isOwn sl50 h34 (map_get _ h35)) rfl ⟨_, rfl, rfl⟩ rfl rfl ?_
        refine op1 0 rfl (sp_loadR (i := (i52 : Int).toNat) (j := 0) rfl rfl isOwn vt3 rfl (map_get _ h35) rfl (.v (.nil)) (nodup_of_B rfl)) rfl ⟨_, rfl, rfl⟩ rfl rfl ?_
        refine op0 (sp_move rfl rfl) rfl ⟨_, rfl, rfl⟩ rfl rfl ?_
        refine op0 (sp_eql rfl rfl rfl) rfl ⟨_, rfl, rfl⟩ rfl rfl ?_
        refine op0 (sp_pickF rfl rfl rfl) rfl trivial rfl rfl ?_
        refine op0 (sp_assign rfl rfl) rfl trivial rfl rfl ?_
        refine TL.nil ?_
        refine TC.inBlock ?_
        refine TC.region ?_
        refine op0 (sp_move rfl rfl) rfl trivial rfl rfl ?_
        obtain ⟨h36, h⟩ := chk_inv h
        refine op0 (sp_add rfl rfl rfl h36) rfl trivial rfl rfl ?_
        refine op0 (sp_assign rfl rfl) rfl trivial rfl rfl ?_
        refine TL.nil ?_
        refine TC.inLoop ?_
        refine TC.seq ?_
        refine TC.seq ?_
        refine subJ [] (ih _ _ h) ?_ ?_ ?_
        · exact ⟨rfl, rfl, rfl, rfl, rfl, rfl, rfl, trivial⟩
        · exact ⟨mem_at 0 rfl, trivial⟩
        · rfl
    · have h := cond_f h h31
      refine TC.exit rfl ?_
      refine TC.seq ?_
      refine TC.region ?_
      refine op0 (sp_move rfl rfl) rfl trivial rfl rfl ?_
      refine op0 (sp_move rfl rfl) rfl trivial rfl rfl ?_
      rcases cond_cases h with ⟨h37, h⟩ | ⟨h37, h⟩
      · refine (boolLit 114 rfl h37).2 ?_
        refine op0 (sp_move rfl rfl) rfl ⟨_, rfl, rfl⟩ rfl rfl ?_
        obtain ⟨h38, h⟩ := chk_inv h
        refine op0 (sp_mul rfl rfl rfl h38) rfl ⟨_, rfl, rfl⟩ rfl rfl ?_
        refine op0 (sp_move rfl rfl) rfl ⟨_, rfl, rfl⟩ rfl rfl ?_
        obtain ⟨h39, h⟩ := chk_inv h
        refine op0 (sp_sub rfl rfl rfl h39) rfl ⟨_, rfl, rfl⟩ rfl rfl ?_
        obtain ⟨r54, h40, h⟩ := bind_inv h
        refine op0 (sp_call (avs := [.val (.int .i64 (((60 : Int) * (((24 : Int) * (Int.tmod day1 60)) + 20)) - r50.1)), .val (.int .i64 720)]) (need := []) (v := .val (.int .i64 r54)) (news := []) rfl rfl rfl Try.call54 (atJ [] [] (fc_top_pubRest h40) rfl rfl) (.inl (roAll rfl))) rfl ⟨_, rfl, rfl⟩ rfl rfl ?_
        refine op0 (sp_move rfl rfl) rfl ⟨_, rfl, rfl⟩ rfl rfl ?_
        refine op0 (sp_eql rfl rfl rfl) rfl ⟨_, rfl, rfl⟩ rfl rfl ?_
        refine op0 (sp_pickT rfl rfl rfl) rfl trivial rfl rfl ?_
        refine op0 (sp_move rfl rfl) rfl trivial rfl rfl ?_
        rcases cond_cases h with ⟨h41, h⟩ | ⟨h41, h⟩
        · refine (boolLit 123 rfl h41).2 ?_
          refine op0 (sp_move rfl rfl) rfl ⟨_, rfl, rfl⟩ rfl rfl ?_
          refine op0 (sp_move rfl rfl) rfl ⟨_, rfl, rfl⟩ rfl rfl ?_
          obtain ⟨h42, h⟩ := chk_inv h
          refine op0 (sp_sub rfl rfl rfl h42) rfl ⟨_, rfl, rfl⟩ rfl rfl ?_
          obtain ⟨r55, h43, h⟩ := bind_inv h
          refine op0 (sp_call (avs := [.val (.int .i64 ((((24 : Int) * (Int.tmod day1 60)) + 20) - i22)), .val (.int .i64 12)]) (need := []) (v := .val (.int .i64 r55)) (news := []) rfl rfl rfl Try.call54 (atJ [] [] (fc_top_pubRest h43) rfl rfl) (.inl (roAll rfl))) rfl ⟨_, rfl, rfl⟩ rfl rfl ?_
          refine op0 (sp_move rfl rfl) rfl ⟨_, rfl, rfl⟩ rfl rfl ?_
          refine op0 (sp_rem rfl rfl rfl (by decide)) rfl ⟨_, rfl, rfl⟩ rfl rfl ?_
          refine op0 (sp_eql rfl rfl rfl) rfl ⟨_, rfl, rfl⟩ rfl rfl ?_
          refine op0 (sp_pickT rfl rfl rfl) rfl trivial rfl rfl ?_
          refine op0 (sp_move rfl rfl) rfl trivial rfl rfl ?_
          rcases cond_cases h with ⟨h44, h⟩ | ⟨h44, h⟩
          · refine (boolLit 132 rfl h44).2 ?_
            obtain ⟨r56, h45, h⟩ := bind_inv h
            refine op0 (sp_call (avs := []) (need := []) (v := .val (.bool r56)) (news := []) rfl rfl rfl Try.call31 (atJ [] [] (fc_top_pubStrike h45) rfl rfl) (.inl (roAll rfl))) rfl ⟨_, rfl, rfl⟩ rfl rfl ?_
            refine op0 (sp_pickT rfl rfl rfl) rfl trivial rfl rfl ?_
            refine op0 (sp_move rfl rfl) rfl trivial rfl rfl ?_
            rcases cond_cases h with ⟨h46, h⟩ | ⟨h46, h⟩
            · refine (boolLit 135 rfl h46).2 ?_
              obtain ⟨r57, h47, h⟩ := bind_inv h
              refine op0 (sp_call (avs := []) (need := []) (v := .val (.bool r57)) (news := []) rfl rfl rfl Try.call52 (atJ [] [] (fc_top_pubPulse h47) rfl rfl) (.inl (roAll rfl))) rfl ⟨_, rfl, rfl⟩ rfl rfl ?_
              refine op0 (sp_pickT rfl rfl rfl) rfl trivial rfl rfl ?_
              refine op0 (sp_assign rfl rfl) rfl trivial rfl rfl ?_
              refine TL.nil ?_
              cases h
              exact retJ [] (.tmp rfl .nil) rfl trivial rfl rfl
            · refine (boolLit 135 rfl h46).2 ?_
              refine opSkip rfl ⟨_, rfl, .inl rfl⟩ rfl ?_
              refine op0 (sp_pickF rfl rfl rfl) rfl trivial rfl rfl ?_
              refine op0 (sp_assign rfl rfl) rfl trivial rfl rfl ?_
              refine TL.nil ?_
              cases h
              exact retJ [] (.tmp rfl .nil) rfl trivial rfl rfl
          · refine (boolLit 132 rfl h44).2 ?_
            refine opSkip rfl ⟨_, rfl, .inl rfl⟩ rfl ?_
            refine op0 (sp_pickF rfl rfl rfl) rfl trivial rfl rfl ?_
            refine op0 (sp_move rfl rfl) rfl trivial rfl rfl ?_
            refine opSkip rfl ⟨_, rfl, .inl rfl⟩ rfl ?_
            refine op0 (sp_pickF rfl rfl rfl) rfl trivial rfl rfl ?_
            refine op0 (sp_assign rfl rfl) rfl trivial rfl rfl ?_
            refine TL.nil ?_
            cases h
            exact retJ [] (.tmp rfl .nil) rfl trivial rfl rfl
        · refine (boolLit 123 rfl h41).2 ?_
          refine opSkip rfl ⟨_, rfl, .inl rfl⟩ rfl ?_
          refine opSkip rfl ⟨_, rfl, .inl rfl⟩ rfl ?_
          refine opSkip rfl ⟨_, rfl, .inl rfl⟩ rfl ?_
          refine opSkip rfl ⟨_, rfl, .inl rfl⟩ rfl ?_
          refine opSkip rfl ⟨_, rfl, .inl rfl⟩ rfl ?_
          refine opSkip rfl ⟨_, rfl, .inl rfl⟩ rfl ?_
          refine opSkip rfl ⟨_, rfl, .inl rfl⟩ rfl ?_
          refine op0 (sp_pickF rfl rfl rfl) rfl trivial rfl rfl ?_
          refine op0 (sp_move rfl rfl) rfl trivial rfl rfl ?_
          refine opSkip rfl ⟨_, rfl, .inl rfl⟩ rfl ?_
          refine op0 (sp_pickF rfl rfl rfl) rfl trivial rfl rfl ?_
          refine op0 (sp_move rfl rfl) rfl trivial rfl rfl ?_
          refine opSkip rfl ⟨_, rfl, .inl rfl⟩ rfl ?_
          refine op0 (sp_pickF rfl rfl rfl) rfl trivial rfl rfl ?_
          refine op0 (sp_assign rfl rfl) rfl trivial rfl rfl ?_
          refine TL.nil ?_
          cases h
          exact retJ [] (.tmp rfl .nil) rfl trivial rfl rfl
      · refine (boolLit 114 rfl h37).2 ?_
        refine opSkip rfl ⟨_, rfl, .inl rfl⟩ rfl ?_
        refine opSkip rfl ⟨_, rfl, .inl rfl⟩ rfl ?_
        refine opSkip rfl ⟨_, rfl, .inl rfl⟩ rfl ?_
        refine opSkip rfl ⟨_, rfl, .inl rfl⟩ rfl ?_
        refine opSkip rfl ⟨_, rfl, .inl rfl⟩ rfl ?_
        refine opSkip rfl ⟨_, rfl, .inl rfl⟩ rfl ?_
        refine opSkip rfl ⟨_, rfl, .inl rfl⟩ rfl ?_
        refine op0 (sp_pickF rfl rfl rfl) rfl trivial rfl rfl ?_
        refine op0 (sp_move rfl rfl) rfl trivial rfl rfl ?_
        refine opSkip rfl ⟨_, rfl, .inl rfl⟩ rfl ?_
        refine opSkip rfl ⟨_, rfl, .inl rfl⟩ rfl ?_
        refine opSkip rfl ⟨_, rfl, .inl rfl⟩ rfl ?_
        refine opSkip rfl ⟨_, rfl, .inl rfl⟩ rfl ?_
        refine opSkip rfl ⟨_, rfl, .inl rfl⟩ rfl ?_
        refine opSkip rfl ⟨_, rfl, .inl rfl⟩ rfl ?_
        refine opSkip rfl ⟨_, rfl, .inl rfl⟩ rfl ?_
        refine op0 (sp_pickF rfl rfl rfl) rfl trivial rfl rfl ?_
        refine op0 (sp_move rfl rfl) rfl trivial rfl rfl ?_
        refine opSkip rfl ⟨_, rfl, .inl rfl⟩ rfl ?_
        refine op0 (sp_pickF rfl rfl rfl) rfl trivial rfl rfl ?_
        refine op0 (sp_move rfl rfl) rfl trivial rfl rfl ?_
        refine opSkip rfl ⟨_, rfl, .inl rfl⟩ rfl ?_
        refine op0 (sp_pickF rfl rfl rfl) rfl trivial rfl rfl ?_
        refine op0 (sp_assign rfl rfl) rfl trivial rfl rfl ?_
        refine TL.nil ?_
        cases h
        exact retJ [] (.tmp rfl .nil) rfl trivial rfl rfl
def ev_top_TopPulseStrike_j2 (n : Nat) (r49 : Int × (List Int) × Int) (i22 : Int) (day1 : Int) (r50 : Int × Int) (i23 : Int) : Option Bool :=
  ev_top_TopPulseStrike_l3 n r49 i22 day1 r50 i23 n false 0
set_option maxRecDepth 100000 in
set_option maxHeartbeats 2000000 in
theorem ok_top_TopPulseStrike_j2 {n : Nat} {w0 : World} {R0 : Nat → Prop} {env0 : Env} {r : Bool} {i22 : Int} {i23 : Int} {day1 : Int} {r50 : Int × Int} {r49 : Int × (List Int) × Int} (h : ev_top_TopPulseStrike_j2 n r49 i22 day1 r50 i23 = some r) : TC Try.prog ⟨w0, fun _ => False, R0⟩ 138 (bodyPost Try.prog Try.f12 (Post ⟨w0, fun _ => False, R0⟩ env0 (.val (.bool r)) [])) [.code (sub (bodyOf Try.f12) [1, 1, 1, 1, 1, 1, 1, 0, 1, 1]), .code (sub (bodyOf Try.f12) [1, 1, 1, 1, 1, 1, 1, 1])] ([(7, .val (.int .i64 i22)), (9, .val (.int .i64 i23)), (12, .val (.int .i64 (((24 : Int) * (Int.tmod day1 60)) + 20))), (14, .ref 10), (16, .val (.int .i64 r50.1))]) ([.row 10 3 1 (List.map en_int r49.2.1)]) := by
  rw [ev_top_TopPulseStrike_j2] at h
  refine TC.skip ?_
  refine TC.seq ?_
  refine TC.region ?_
  refine op0 (sp_assign rfl rfl) rfl trivial rfl rfl ?_
  refine TL.nil ?_
  refine TC.seq ?_
  refine TC.seq ?_
  refine TC.region ?_
  refine op0 (sp_assign rfl rfl) rfl trivial rfl rfl ?_
  refine TL.nil ?_
  refine TC.block ?_
  refine TC.loop ?_
  refine TC.seq ?_
  refine TC.seq ?_
  refine subJ [] (ok_top_TopPulseStrike_l3 _ _ _ h) ?_ ?_ ?_
  · exact ⟨rfl, rfl, rfl, rfl, rfl, rfl, rfl, trivial⟩
  · exact ⟨mem_at 0 rfl, trivial⟩
  · rfl
def ev_top_TopPulseStrike_l0 (n : Nat) (day1 : Int) : Nat → Int → Int → Int → Bool → Bool → Bool → Bool → Bool → Bool → Bool → Bool → Bool → Bool → Bool → Bool → Bool → Bool → Bool → Bool → Bool → Bool → Bool → Bool → (List (Int × Int)) → (List (Int × Int)) → Option Bool
  | 0, _, _, _, _, _, _, _, _, _, _, _, _, _, _, _, _, _, _, _, _, _, _, _, _, _ => none
  | m + 1, i22, i23, i24, b25, b26, b27, b28, b29, b30, b31, b32, b33, b34, b35, b36, b37, b38, b39, b40, b41, b42, b43, b44, l45, l46 => cond (decide (i24 < 20)) (cond (i22 == 0) (ev_top_TopPulseStrike_j1 n i24 b25 b26 b27 b28 b29 b30 b31 b32 b33 b34 b35 b36 b37 b38 b39 b40 b41 b42 b43 b44 day1 l45 i23 l46 i22 (fun i22q i23q i24q b25q b26q b27q b28q b29q b30q b31q b32q b33q b34q b35q b36q b37q b38q b39q b40q b41q b42q b43q b44q l45q l46q => ev_top_TopPulseStrike_l0 n day1 m i22q i23q i24q b25q b26q b27q b28q b29q b30q b31q b32q b33q b34q b35q b36q b37q b38q b39q b40q b41q b42q b43q b44q l45q l46q) 12) (ev_top_TopPulseStrike_j1 n i24 b25 b26 b27 b28 b29 b30 b31 b32 b33 b34 b35 b36 b37 b38 b39 b40 b41 b42 b43 b44 day1 l45 i23 l46 i22 (fun i22q i23q i24q b25q b26q b27q b28q b29q b30q b31q b32q b33q b34q b35q b36q b37q b38q b39q b40q b41q b42q b43q b44q l45q l46q => ev_top_TopPulseStrike_l0 n day1 m i22q i23q i24q b25q b26q b27q b28q b29q b30q b31q b32q b33q b34q b35q b36q b37q b38q b39q b40q b41q b42q b43q b44q l45q l46q) i22)) (chk (in64 (((24 : Int) * (Int.tmod day1 60)) + 20)) <| (ev_strike_Misses n false false ([]) l46).bind fun r49 => chk (in64 ((60 : Int) * ((24 : Int) * (Int.tmod day1 60)))) <| chk (in64 ((60 : Int) * ((24 : Int) * (Int.tmod day1 60)))) <| chk (in64 ((60 : Int) * (((24 : Int) * (Int.tmod day1 60)) + 20))) <| (ev_pulse_Run n 0 0 0 (Int.tmod ((60 : Int) * ((24 : Int) * (Int.tmod day1 60))) 720) ((60 : Int) * ((24 : Int) * (Int.tmod day1 60))) l45 ((60 : Int) * (((24 : Int) * (Int.tmod day1 60)) + 20))).bind fun r50 => cond (r49.2.2 != 0) (some false) (cond (r50.2 != 0) (some false) (cond (decide (i23 < r49.1)) (some false) (cond (decide (r49.1 < i23)) (some false) (ev_top_TopPulseStrike_j2 n r49 i22 day1 r50 i23)))))
set_option maxRecDepth 100000 in
set_option maxHeartbeats 2000000 in
theorem ok_top_TopPulseStrike_l0 {n : Nat} {w0 : World} {R0 : Nat → Prop} {env0 : Env} {r : Bool} {day1 : Int} : ∀ (m : Nat) (i22 : Int) (i23 : Int) (i24 : Int) (b25 : Bool) (b26 : Bool) (b27 : Bool) (b28 : Bool) (b29 : Bool) (b30 : Bool) (b31 : Bool) (b32 : Bool) (b33 : Bool) (b34 : Bool) (b35 : Bool) (b36 : Bool) (b37 : Bool) (b38 : Bool) (b39 : Bool) (b40 : Bool) (b41 : Bool) (b42 : Bool) (b43 : Bool) (b44 : Bool) (l45 : List (Int × Int)) (l46 : List (Int × Int)), ev_top_TopPulseStrike_l0 n day1 m i22 i23 i24 b25 b26 b27 b28 b29 b30 b31 b32 b33 b34 b35 b36 b37 b38 b39 b40 b41 b42 b43 b44 l45 l46 = some r → TC Try.prog ⟨w0, fun _ => False, R0⟩ 138 (bodyPost Try.prog Try.f12 (Post ⟨w0, fun _ => False, R0⟩ env0 (.val (.bool r)) [])) [.code (sub (bodyOf Try.f12) [1, 1, 1, 0, 1, 0, 0, 0, 0]), .code (sub (bodyOf Try.f12) [1, 1, 1, 0, 1, 0, 0, 0, 1]), .code (sub (bodyOf Try.f12) [1, 1, 1, 0, 1, 0, 0, 1]), .inLoop (sub (bodyOf Try.f12) [1, 1, 1, 0, 1, 0, 0]), .inBlock 0, .code (sub (bodyOf Try.f12) [1, 1, 1, 1])] ([(3, .ptr 0 0), (5, .val (.int .i64 ((24 : Int) * (Int.tmod day1 60)))), (6, .ref 1), (7, .val (.int .i64 i22)), (8, .ref 2), (9, .val (.int .i64 i23)), (10, .val (.int .i64 i24))]) ([.blk 0 [.val (.bool b25), .val (.bool b26), .val (.bool b27), .val (.bool b28), .val (.bool b29), .val (.bool b30), .val (.bool b31), .val (.bool b32), .val (.bool b33), .val (.bool b34), .val (.bool b35), .val (.bool b36), .val (.bool b37), .val (.bool b38), .val (.bool b39), .val (.bool b40), .val (.bool b41), .val (.bool b42), .val (.bool b43), .val (.bool b44)] 151, .row 1 155 2 (List.map en_api_PulseFault l45), .row 2 157 2 (List.map en_api_StrikeHeard l46)]) := by
  intro m
  induction m with
  | zero => intro i22 i23 i24 b25 b26 b27 b28 b29 b30 b31 b32 b33 b34 b35 b36 b37 b38 b39 b40 b41 b42 b43 b44 l45 l46 h; exact none_no h
  | succ m ih =>
    intro i22 i23 i24 b25 b26 b27 b28 b29 b30 b31 b32 b33 b34 b35 b36 b37 b38 b39 b40 b41 b42 b43 b44 l45 l46 h
    rw [ev_top_TopPulseStrike_l0] at h
    refine TC.region ?_
    refine op0 (sp_move rfl rfl) rfl trivial rfl rfl ?_
    refine op0 (sp_lss rfl rfl rfl) rfl trivial rfl rfl ?_
    refine TL.nil ?_
    refine TC.cond (b := (decide (i24 < 20))) rfl (fun h3 => ?_) (fun h3 => ?_)
    · have h := cond_t h h3
      refine TC.skip ?_
      refine TC.seq ?_
      refine TC.block ?_
      refine TC.seq ?_
      refine TC.region ?_
      refine op0 (sp_move rfl rfl) rfl trivial rfl rfl ?_
      refine op0 (sp_assign rfl rfl) rfl trivial rfl rfl ?_
      refine TL.nil ?_
      refine TC.seq ?_
      refine TC.seq ?_
      refine TC.region ?_
      refine op0 (sp_move rfl rfl) rfl trivial rfl rfl ?_
      refine op0 (sp_eql rfl rfl rfl) rfl trivial rfl rfl ?_
      refine TL.nil ?_
      refine TC.cond (b := (i22 == 0)) rfl (fun h4 => ?_) (fun h4 => ?_)
      · have h := cond_t h h4
        refine TC.region ?_
        refine op0 (sp_assign rfl rfl) rfl trivial rfl rfl ?_
        refine TL.nil ?_
        refine TC.seq ?_
        refine TC.seq ?_
        refine subJ [] (ok_top_TopPulseStrike_j1 ih h) ?_ ?_ ?_
        · exact ⟨rfl, rfl, rfl, rfl, rfl, rfl, rfl, rfl, trivial⟩
        · exact ⟨mem_at 0 rfl, mem_at 1 rfl, mem_at 2 rfl, trivial⟩
        · rfl
      · have h := cond_f h h4
        refine TC.skip ?_
        refine TC.seq ?_
        refine TC.seq ?_
        refine subJ [] (ok_top_TopPulseStrike_j1 ih h) ?_ ?_ ?_
        · exact ⟨rfl, rfl, rfl, rfl, rfl, rfl, rfl, rfl, trivial⟩
        · exact ⟨mem_at 0 rfl, mem_at 1 rfl, mem_at 2 rfl, trivial⟩
        · rfl
    · have h := cond_f h h3
      refine TC.exit rfl ?_
      refine TC.seq ?_
      refine TC.region ?_
      refine op0 (sp_move rfl rfl) rfl trivial rfl rfl ?_
      obtain ⟨h21, h⟩ := chk_inv h
      refine op0 (sp_add rfl rfl rfl h21) rfl trivial rfl rfl ?_
      refine op0 (sp_assign rfl rfl) rfl trivial rfl rfl ?_
      refine TL.nil ?_
      refine TC.seq ?_
      refine TC.region ?_
      refine op0 (sp_build (qs := []) rfl bt48 rfl rfl rfl rfl) rfl trivial rfl rfl ?_
      refine op0 (sp_move rfl rfl) rfl trivial rfl rfl ?_
      obtain ⟨r49, h22, h⟩ := bind_inv h
      refine op1 2 rfl (sp_call (avs := [.agg [.val (.bool false), .val (.bool false), .val (.slice none 0 0)], .ref 2]) (need := [.row 2 157 2 (List.map en_api_StrikeHeard l46)]) (v := .tup [.val (.int .i64 r49.1), .ref 10, .val (.int .i64 r49.2.2)]) (news := [.row 10 3 1 (List.map en_int r49.2.1)]) rfl rfl rfl Try.call53 (FC.nil (args := [.agg [.val (.bool false), .val (.bool false), .ref 9], .ref 2]) 9 2 (atJ [(0, 9), (1, 2)] [(0, 10)] (fc_strike_Misses h22) rfl rfl) rfl rfl rfl) (.inr (List.forall_mem_cons.2 ⟨indep_map en_int_flat, (by simp)⟩))) rfl trivial rfl rfl ?_
      refine op0 (sp_move rfl rfl) rfl trivial rfl rfl ?_
      refine op0 (sp_extract rfl rfl rfl) rfl trivial rfl rfl ?_
      refine op0 (sp_extract rfl rfl rfl) rfl trivial rfl rfl ?_
      refine op0 (sp_extract rfl rfl rfl) rfl trivial rfl rfl ?_
      refine op0 (sp_assign rfl rfl) rfl trivial rfl rfl ?_
      refine op0 (sp_assign rfl rfl) rfl trivial rfl rfl ?_
      refine op0 (sp_assign rfl rfl) rfl trivial rfl rfl ?_
      refine TL.nil ?_
      refine TC.seq ?_
      refine TC.region ?_
      refine op0 (sp_build (qs := []) rfl bt148 rfl rfl rfl rfl) rfl trivial rfl rfl ?_
      refine op0 (sp_move rfl rfl) rfl trivial rfl rfl ?_
      obtain ⟨h23, h⟩ := chk_inv h
      refine op0 (sp_mul rfl rfl rfl h23) rfl trivial rfl rfl ?_
      refine op0 (sp_rem rfl rfl rfl (by decide)) rfl trivial rfl rfl ?_
      refine op0 (sp_move rfl rfl) rfl trivial rfl rfl ?_
      obtain ⟨h24, h⟩ := chk_inv h
      refine op0 (sp_mul rfl rfl rfl h24) rfl trivial rfl rfl ?_
      refine op0 (sp_move rfl rfl) rfl trivial rfl rfl ?_
      refine op0 (sp_move rfl rfl) rfl trivial rfl rfl ?_
      obtain ⟨h25, h⟩ := chk_inv h
      refine op0 (sp_mul rfl rfl rfl h25) rfl trivial rfl rfl ?_
      obtain ⟨r50, h26, h⟩ := bind_inv h
      refine op1 2 rfl (sp_call (avs := [.agg [.val (.int .i64 0), .val (.int .i64 0), .val (.int .i64 0)], .val (.int .i64 (Int.tmod ((60 : Int) * ((24 : Int) * (Int.tmod day1 60))) 720)), .val (.int .i64 ((60 : Int) * ((24 : Int) * (Int.tmod day1 60)))), .ref 1, .val (.int .i64 ((60 : Int) * (((24 : Int) * (Int.tmod day1 60)) + 20)))]) (need := [.row 1 155 2 (List.map en_api_PulseFault l45)]) (v := .tup [.val (.int .i64 r50.1), .val (.int .i64 r50.2)]) (news := []) rfl rfl rfl Try.call51 (atJ [(0, 1)] [] (fc_pulse_Run h26) rfl rfl) (.inr (fun x hx => nomatch hx))) rfl trivial rfl rfl ?_
      refine op0 (sp_move rfl rfl) rfl trivial rfl rfl ?_
      refine op0 (sp_extract rfl rfl rfl) rfl trivial rfl rfl ?_
      refine op0 (sp_extract rfl rfl rfl) rfl trivial rfl rfl ?_
      refine op0 (sp_assign rfl rfl) rfl trivial rfl rfl ?_
      refine op0 (sp_assign rfl rfl) rfl trivial rfl rfl ?_
      refine TL.nil ?_
      refine TC.seq ?_
      refine TC.seq ?_
      refine TC.region ?_
      refine op0 (sp_move rfl rfl) rfl trivial rfl rfl ?_
      refine op0 (sp_neq rfl rfl rfl) rfl trivial rfl rfl ?_
      refine op0 (sp_move rfl rfl) rfl trivial rfl rfl ?_
      rcases cond_cases h with ⟨h27, h⟩ | ⟨h27, h⟩
      · refine (boolLit 84 rfl h27).2 ?_
        refine opSkip rfl ⟨_, rfl, .inl rfl⟩ rfl ?_
        refine opSkip rfl ⟨_, rfl, .inl rfl⟩ rfl ?_
        refine op0 (sp_pickT rfl rfl rfl) rfl trivial rfl rfl ?_
        refine op0 (sp_move rfl rfl) rfl trivial rfl rfl ?_
        refine opSkip rfl ⟨_, rfl, .inl rfl⟩ rfl ?_
        refine opSkip rfl ⟨_, rfl, .inl rfl⟩ rfl ?_
        refine opSkip rfl ⟨_, rfl, .inl rfl⟩ rfl ?_
        refine op0 (sp_pickT rfl rfl rfl) rfl trivial rfl rfl ?_
        refine op0 (sp_move rfl rfl) rfl trivial rfl rfl ?_
        refine opSkip rfl ⟨_, rfl, .inl rfl⟩ rfl ?_
        refine opSkip rfl ⟨_, rfl, .inl rfl⟩ rfl ?_
        refine opSkip rfl ⟨_, rfl, .inl rfl⟩ rfl ?_
        refine op0 (sp_pickT rfl rfl rfl) rfl trivial rfl rfl ?_
        refine TL.nil ?_
        refine TC.condT rfl ?_
        refine TC.seq ?_
        refine TC.region ?_
        refine op0 (sp_assign rfl rfl) rfl trivial rfl rfl ?_
        refine TL.nil ?_
        cases h
        exact retJ [] (.tmp rfl .nil) rfl trivial rfl rfl
      · refine (boolLit 84 rfl h27).2 ?_
        refine op0 (sp_move rfl rfl) rfl ⟨_, rfl, rfl⟩ rfl rfl ?_
        refine op0 (sp_neq rfl rfl rfl) rfl ⟨_, rfl, rfl⟩ rfl rfl ?_
        refine op0 (sp_pickF rfl rfl rfl) rfl trivial rfl rfl ?_
        refine op0 (sp_move rfl rfl) rfl trivial rfl rfl ?_
        rcases cond_cases h with ⟨h28, h⟩ | ⟨h28, h⟩
        · refine (boolLit 88 rfl h28).2 ?_
          refine opSkip rfl ⟨_, rfl, .inl rfl⟩ rfl ?_
          refine opSkip rfl ⟨_, rfl, .inl rfl⟩ rfl ?_
          refine opSkip rfl ⟨_, rfl, .inl rfl⟩ rfl ?_
          refine op0 (sp_pickT rfl rfl rfl) rfl trivial rfl rfl ?_
          refine op0 (sp_move rfl rfl) rfl trivial rfl rfl ?_
          refine opSkip rfl ⟨_, rfl, .inl rfl⟩ rfl ?_
          refine opSkip rfl ⟨_, rfl, .inl rfl⟩ rfl ?_
          refine opSkip rfl ⟨_, rfl, .inl rfl⟩ rfl ?_
          refine op0 (sp_pickT rfl rfl rfl) rfl trivial rfl rfl ?_
          refine TL.nil ?_
          refine TC.condT rfl ?_
          refine TC.seq ?_
          refine TC.region ?_
          refine op0 (sp_assign rfl rfl) rfl trivial rfl rfl ?_
          refine TL.nil ?_
          cases h
          exact retJ [] (.tmp rfl .nil) rfl trivial rfl rfl
        · refine (boolLit 88 rfl h28).2 ?_
          refine op0 (sp_move rfl rfl) rfl ⟨_, rfl, rfl⟩ rfl rfl ?_
          refine op0 (sp_move rfl rfl) rfl ⟨_, rfl, rfl⟩ rfl rfl ?_
          refine op0 (sp_gtr rfl rfl rfl) rfl ⟨_, rfl, rfl⟩ rfl rfl ?_
          refine op0 (sp_pickF rfl rfl rfl) rfl trivial rfl rfl ?_
          refine op0 (sp_move rfl rfl) rfl trivial rfl rfl ?_
          rcases cond_cases h with ⟨h29, h⟩ | ⟨h29, h⟩
          · refine (boolLit 93 rfl h29).2 ?_
            refine opSkip rfl ⟨_, rfl, .inl rfl⟩ rfl ?_
            refine opSkip rfl ⟨_, rfl, .inl rfl⟩ rfl ?_
            refine opSkip rfl ⟨_, rfl, .inl rfl⟩ rfl ?_
            refine op0 (sp_pickT rfl rfl rfl) rfl trivial rfl rfl ?_
            refine TL.nil ?_
            refine TC.condT rfl ?_
            refine TC.seq ?_
            refine TC.region ?_
            refine op0 (sp_assign rfl rfl) rfl trivial rfl rfl ?_
            refine TL.nil ?_
            cases h
            exact retJ [] (.tmp rfl .nil) rfl trivial rfl rfl
          · refine (boolLit 93 rfl h29).2 ?_
            refine op0 (sp_move rfl rfl) rfl ⟨_, rfl, rfl⟩ rfl rfl ?_
            refine op0 (sp_move rfl rfl) rfl ⟨_, rfl, rfl⟩ rfl rfl ?_
            refine op0 (sp_lss rfl rfl rfl) rfl ⟨_, rfl, rfl⟩ rfl rfl ?_
            refine op0 (sp_pickF rfl rfl rfl) rfl trivial rfl rfl ?_
            refine TL.nil ?_
            refine TC.cond (b := (decide (r49.1 < i23))) rfl (fun h30 => ?_) (fun h30 => ?_)
            · have h := cond_t h h30
              refine TC.seq ?_
              refine TC.region ?_
              refine op0 (sp_assign rfl rfl) rfl trivial rfl rfl ?_
              refine TL.nil ?_
              cases h
              exact retJ [] (.tmp rfl .nil) rfl trivial rfl rfl
            · have h := cond_f h h30
              refine subJ [] (ok_top_TopPulseStrike_j2 h) ?_ ?_ ?_
              · exact ⟨rfl, rfl, rfl, rfl, rfl, trivial⟩
              · exact ⟨mem_at 0 rfl, trivial⟩
              · rfl
def ev_top_TopPulseStrike (n : Nat) (day1 : Int) (gone2 : Bool) (gone3 : Bool) (gone4 : Bool) (gone5 : Bool) (gone6 : Bool) (gone7 : Bool) (gone8 : Bool) (gone9 : Bool) (gone10 : Bool) (gone11 : Bool) (gone12 : Bool) (gone13 : Bool) (gone14 : Bool) (gone15 : Bool) (gone16 : Bool) (gone17 : Bool) (gone18 : Bool) (gone19 : Bool) (gone20 : Bool) (gone21 : Bool) : Option Bool :=
  chk (in64 day1) <| chk (in64 ((24 : Int) * (Int.tmod day1 60))) <| ev_top_TopPulseStrike_l0 n day1 n (Int.tmod ((24 : Int) * (Int.tmod day1 60)) 12) 0 0 gone2 gone3 gone4 gone5 gone6 gone7 gone8 gone9 gone10 gone11 gone12 gone13 gone14 gone15 gone16 gone17 gone18 gone19 gone20 gone21 ([] : List (Int × Int)) ([] : List (Int × Int))
set_option maxRecDepth 100000 in
set_option maxHeartbeats 2000000 in
theorem fc_top_TopPulseStrike {n : Nat} {day1 : Int} {gone2 : Bool} {gone3 : Bool} {gone4 : Bool} {gone5 : Bool} {gone6 : Bool} {gone7 : Bool} {gone8 : Bool} {gone9 : Bool} {gone10 : Bool} {gone11 : Bool} {gone12 : Bool} {gone13 : Bool} {gone14 : Bool} {gone15 : Bool} {gone16 : Bool} {gone17 : Bool} {gone18 : Bool} {gone19 : Bool} {gone20 : Bool} {gone21 : Bool} {r : Bool} (h : ev_top_TopPulseStrike n day1 gone2 gone3 gone4 gone5 gone6 gone7 gone8 gone9 gone10 gone11 gone12 gone13 gone14 gone15 gone16 gone17 gone18 gone19 gone20 gone21 = some r) : FC Try.prog 12 [.val (.int .u8 day1), .agg [.val (.bool gone2), .val (.bool gone3), .val (.bool gone4), .val (.bool gone5), .val (.bool gone6), .val (.bool gone7), .val (.bool gone8), .val (.bool gone9), .val (.bool gone10), .val (.bool gone11), .val (.bool gone12), .val (.bool gone13), .val (.bool gone14), .val (.bool gone15), .val (.bool gone16), .val (.bool gone17), .val (.bool gone18), .val (.bool gone19), .val (.bool gone20), .val (.bool gone21)]] [] (.val (.bool r)) [] := by
  refine introJ (nz := 138) Try.func12 rfl rfl rfl (fun w0 R0 env0 => ?_)
  rw [ev_top_TopPulseStrike] at h
  refine TC.seq ?_
  refine TC.region ?_
  refine op0 (sp_box 0 rfl rfl rfl rfl rfl) rfl trivial rfl rfl ?_
  refine op0 (sp_assign rfl rfl) rfl trivial rfl rfl ?_
  refine TL.nil ?_
  refine TC.seq ?_
  refine TC.region ?_
  refine op0 (sp_move rfl rfl) rfl trivial rfl rfl ?_
  obtain ⟨h1, h⟩ := chk_inv h
  refine op0 (sp_conv rfl Try.underlying5 Try.underlying3 rfl h1) rfl trivial rfl rfl ?_
  refine op0 (sp_rem rfl rfl rfl (by decide)) rfl trivial rfl rfl ?_
  obtain ⟨h2, h⟩ := chk_inv h
  refine op0 (sp_mul rfl rfl rfl h2) rfl trivial rfl rfl ?_
  refine op0 (sp_assign rfl rfl) rfl trivial rfl rfl ?_
  refine TL.nil ?_
  refine TC.seq ?_
  refine TC.region ?_
  refine op0 (sp_emptyM 1 (List.map en_api_PulseFault []) rfl rfl sl142) rfl trivial rfl rfl ?_
  refine op0 (sp_move rfl rfl) rfl trivial rfl rfl ?_
  refine op0 (sp_rem rfl rfl rfl (by decide)) rfl trivial rfl rfl ?_
  refine op0 (sp_emptyM 2 (List.map en_api_StrikeHeard []) rfl rfl sl152) rfl trivial rfl rfl ?_
  refine op0 (sp_assign rfl rfl) rfl trivial rfl rfl ?_
  refine op0 (sp_assign rfl rfl) rfl trivial rfl rfl ?_
  refine op0 (sp_assign rfl rfl) rfl trivial rfl rfl ?_
  refine op0 (sp_assign rfl rfl) rfl trivial rfl rfl ?_
  refine TL.nil ?_
  refine TC.seq ?_
  refine TC.seq ?_
  refine TC.region ?_
  refine op0 (sp_assign rfl rfl) rfl trivial rfl rfl ?_
  refine TL.nil ?_
  refine TC.block ?_
  refine TC.loop ?_
  refine TC.seq ?_
  refine TC.seq ?_
  refine subJ [] (ok_top_TopPulseStrike_l0 _ _ _ _ _ _ _ _ _ _ _ _ _ _ _ _ _ _ _ _ _ _ _ _ _ _ h) ?_ ?_ ?_
  · exact ⟨rfl, rfl, rfl, rfl, rfl, rfl, rfl, trivial⟩
  · exact ⟨mem_at 2 rfl, mem_at 1 rfl, mem_at 0 rfl, trivial⟩
  · rfl
end
end Go.Proofs.Ytgkoldcmbcbbpaa.Sy
