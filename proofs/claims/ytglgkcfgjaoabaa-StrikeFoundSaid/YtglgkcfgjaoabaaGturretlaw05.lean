/- What functions of the program compute, and that they do: printed by symgen.py. -/
import Derived.Test.YtglgkcfgjaoabaaGLib
import Derived.Test.YtglgkcfgjaoabaaGStrike
import Derived.Test.YtglgkcfgjaoabaaGTurretref05
set_option linter.unusedSimpArgs false
set_option linter.unusedVariables false
namespace Go.Proofs.Ytglgkcfgjaoabaa.Sy
open Go.RowKit
noncomputable section

/- law05_Wheel_places -/
def ev_law05_Wheel_places (n : Nat) (w1 : Bool) (w2 : Int) (w3 : Int) : Option Int :=
  cond w1 (some 24) (some 12)
set_option maxRecDepth 100000 in
set_option maxHeartbeats 2000000 in
theorem fc_law05_Wheel_places {n : Nat} {w1 : Bool} {w2 : Int} {w3 : Int} {r : Int} (h : ev_law05_Wheel_places n w1 w2 w3 = some r) : FC Try.prog 34 [.agg [.val (.bool w1), .val (.int .u8 w2), .val (.int .u8 w3)]] [] (.val (.int .i64 r)) [] := by
  refine introJ (nz := 5) Try.func34 rfl rfl rfl (fun w0 R0 env0 => ?_)
  rw [ev_law05_Wheel_places] at h
  refine TC.seq ?_
  refine TC.region ?_
  refine op0 (sp_box 0 rfl rfl rfl rfl rfl) rfl trivial rfl rfl ?_
  refine op0 (sp_assign rfl rfl) rfl trivial rfl rfl ?_
  refine TL.nil ?_
  refine TC.seq ?_
  refine TC.seq ?_
  refine TC.region ?_
  refine op1 0 rfl (sp_fieldAddrB rfl isBlk rfl ft64_0 vt4 (by decide)) rfl trivial rfl rfl ?_
  refine op1 0 rfl (sp_loadB rfl isBlk rfl vt4 rfl) rfl trivial rfl rfl ?_
  refine TL.nil ?_
  refine TC.cond (b := w1) rfl (fun h1 => ?_) (fun h1 => ?_)
  · have h := cond_t h h1
    refine TC.seq ?_
    refine TC.region ?_
    refine op0 (sp_assign rfl rfl) rfl trivial rfl rfl ?_
    refine TL.nil ?_
    cases h
    exact retJ [] (.tmp rfl .nil) rfl trivial rfl rfl
  · have h := cond_f h h1
    refine TC.skip ?_
    refine TC.seq ?_
    refine TC.region ?_
    refine op0 (sp_assign rfl rfl) rfl trivial rfl rfl ?_
    refine TL.nil ?_
    cases h
    exact retJ [] (.tmp rfl .nil) rfl trivial rfl rfl
/- law05_Wheel_rules -/
def ev_law05_Wheel_rules (n : Nat) (w1 : Bool) (w2 : Int) (w3 : Int) : Option (Bool × Bool × (List (Int × Int))) :=
  chk (in64 w3) <| cond (decide ((0 : Int) < (Int.tmod w3 20))) (chk (in64 w2) <| (ev_law05_Wheel_places n w1 w2 w3).bind fun r4 => chk (in64 ((2 : Int) * r4)) <| chk (((2 : Int) * r4) != 0) <| (ev_law05_Wheel_places n w1 w2 w3).bind fun r5 => chk (in64 ((2 : Int) * r5)) <| chk (in64 (((2 : Int) * r5) - 1)) <| chk (in64 ((Int.tmod w2 ((2 : Int) * r4)) + (Int.tmod w3 20))) <| some (w1, false, ([((Int.tmod w2 ((2 : Int) * r4)), (min (((2 : Int) * r5) - 1) ((Int.tmod w2 ((2 : Int) * r4)) + (Int.tmod w3 20))))] : List (Int × Int)))) (some (w1, false, ([] : List (Int × Int))))
set_option maxRecDepth 100000 in
set_option maxHeartbeats 2000000 in
theorem fc_law05_Wheel_rules {n : Nat} {w1 : Bool} {w2 : Int} {w3 : Int} {r : Bool × Bool × (List (Int × Int))} (h : ev_law05_Wheel_rules n w1 w2 w3 = some r) : FC Try.prog 38 [.agg [.val (.bool w1), .val (.int .u8 w2), .val (.int .u8 w3)]] [] (.agg [.val (.bool r.1), .val (.bool r.2.1), .ref 0]) [.row 0 81 2 (List.map en_api_Span r.2.2)] := by
  refine introJ (nz := 37) Try.func38 rfl rfl rfl (fun w0 R0 env0 => ?_)
  rw [ev_law05_Wheel_rules] at h
  refine TC.seq ?_
  refine TC.region ?_
  refine op0 (sp_box 0 rfl rfl rfl rfl rfl) rfl trivial rfl rfl ?_
  refine op0 (sp_alloc 1 rfl Try.zeroValue24 rfl) rfl trivial rfl rfl ?_
  refine TL.nil ?_
  refine TC.seq ?_
  refine TC.region ?_
  refine op1 1 rfl (sp_fieldAddrB rfl isBlk rfl ft64_0 vt4 (by decide)) rfl trivial rfl rfl ?_
  refine op1 1 rfl (sp_loadB rfl isBlk rfl vt4 rfl) rfl trivial rfl rfl ?_
  refine op0 (sp_build (qs := [(0, .val (.bool w1))]) rfl bt24 rfl rfl rfl rfl) rfl trivial rfl rfl ?_
  refine op0 (sp_alloc 2 rfl Try.zeroValue24 rfl) rfl trivial rfl rfl ?_
  refine stoB 0 (cells' := [.val (.bool w1), .val (.bool false), .val (.slice none 0 0)]) rfl rfl trivial rfl rfl rfl rfl vt24 rfl rfl rfl ?_
  refine TL.nil ?_
  refine TC.seq ?_
  refine TC.seq ?_
  refine TC.region ?_
  refine op1 2 rfl (sp_fieldAddrB rfl isBlk rfl ft64_1 vt62 (by decide)) rfl trivial rfl rfl ?_
  refine op1 2 rfl (sp_indexA (len := 2) (iv := 1) rfl isBlk rfl rfl Try.underlying62 vt5 (by decide)) rfl trivial rfl rfl ?_
  refine op1 2 rfl (sp_loadB rfl isBlk rfl vt5 rfl) rfl trivial rfl rfl ?_
  obtain ⟨h1, h⟩ := chk_inv h
  refine op0 (sp_conv rfl Try.underlying5 Try.underlying3 rfl h1) rfl trivial rfl rfl ?_
  refine op0 (sp_rem rfl rfl rfl (by decide)) rfl trivial rfl rfl ?_
  refine op0 (sp_assign rfl rfl) rfl trivial rfl rfl ?_
  refine TL.nil ?_
  refine TC.seq ?_
  refine TC.region ?_
  refine op0 (sp_move rfl rfl) rfl trivial rfl rfl ?_
  refine op0 (sp_gtr rfl rfl rfl) rfl trivial rfl rfl ?_
  refine TL.nil ?_
  refine TC.cond (b := (decide ((0 : Int) < (Int.tmod w3 20)))) rfl (fun h2 => ?_) (fun h2 => ?_)
  · have h := cond_t h h2
    refine TC.seq ?_
    obtain ⟨h3, h⟩ := chk_inv h
    obtain ⟨r4, h4, h⟩ := bind_inv h
    obtain ⟨h5, h⟩ := chk_inv h
    refine drawJ 7 [⟨.ptr 0 1, [], [.blk 0 [.val (.bool w1), .val (.int .u8 w2), .val (.int .u8 w3)] 64], []⟩, ⟨.ptr 0 1, [], [.blk 0 [.val (.bool w1), .val (.int .u8 w2), .val (.int .u8 w3)] 64], []⟩, ⟨.val (.int .u8 w2), [], [.blk 0 [.val (.bool w1), .val (.int .u8 w2), .val (.int .u8 w3)] 64], []⟩, ⟨.val (.int .i64 w2), [], [], []⟩, ⟨.agg [.val (.bool w1), .val (.int .u8 w2), .val (.int .u8 w3)], [], [.blk 0 [.val (.bool w1), .val (.int .u8 w2), .val (.int .u8 w3)] 64], []⟩, ⟨.val (.int .i64 r4), [], [], []⟩, ⟨.val (.int .i64 ((2 : Int) * r4)), [], [], []⟩] rfl ?_ rfl ?_ rfl ?_ ?_
    · kernel_rfl
    · kernel_rfl
    · exact DAll.op' (sp_fieldAddrB rfl isBlk rfl ft64_1 vt62 (by decide)) trivial rfl (From.ok (ps := [(none, 2)]) ⟨⟨rfl, rfl⟩, trivial⟩) (DAll.op' (sp_indexA (len := 2) (iv := 0) rfl isBlk rfl rfl Try.underlying62 vt5 (by decide)) trivial rfl (From.ok (ps := [(none, 2)]) ⟨⟨rfl, rfl⟩, trivial⟩) (DAll.op' (sp_loadB rfl isBlk rfl vt5 rfl) trivial rfl (From.ok (ps := [(none, 2)]) ⟨⟨rfl, rfl⟩, trivial⟩) (DAll.op' (sp_conv rfl Try.underlying5 Try.underlying3 rfl h3) trivial rfl (From.ok (ps := []) trivial) (DAll.op' (sp_loadBA rfl isBlk rfl vt64 rfl rfl) trivial rfl (From.ok (ps := [(none, 2)]) ⟨⟨rfl, rfl⟩, trivial⟩) (DAll.op' (sp_call (avs := [.agg [.val (.bool w1), .val (.int .u8 w2), .val (.int .u8 w3)]]) (need := []) (v := .val (.int .i64 r4)) (news := []) rfl rfl rfl Try.call34 (atJ [] [] (fc_law05_Wheel_places h4) rfl rfl) (.inl (roAll rfl))) trivial rfl (From.ok (ps := []) trivial) (DAll.op' (sp_mul rfl rfl rfl h5) trivial rfl (From.ok (ps := []) trivial) (.nil)))))))
    obtain ⟨h6, h⟩ := chk_inv h
    refine op0 (sp_rem rfl rfl rfl h6) rfl trivial rfl rfl ?_
    refine op0 (sp_assign rfl rfl) rfl trivial rfl rfl ?_
    refine TL.nil ?_
    refine TC.region ?_
    refine op0 (sp_move rfl rfl) rfl trivial rfl rfl ?_
    refine op1 2 rfl (sp_loadBA rfl isBlk rfl vt64 rfl rfl) rfl trivial rfl rfl ?_
    obtain ⟨r5, h7, h⟩ := bind_inv h
    refine op0 (sp_call (avs := [.agg [.val (.bool w1), .val (.int .u8 w2), .val (.int .u8 w3)]]) (need := []) (v := .val (.int .i64 r5)) (news := []) rfl rfl rfl Try.call34 (atJ [] [] (fc_law05_Wheel_places h7) rfl rfl) (.inl (roAll rfl))) rfl trivial rfl rfl ?_
    obtain ⟨h8, h⟩ := chk_inv h
    refine op0 (sp_mul rfl rfl rfl h8) rfl trivial rfl rfl ?_
    obtain ⟨h9, h⟩ := chk_inv h
    refine op0 (sp_sub rfl rfl rfl h9) rfl trivial rfl rfl ?_
    refine op0 (sp_move rfl rfl) rfl trivial rfl rfl ?_
    refine op0 (sp_move rfl rfl) rfl trivial rfl rfl ?_
    obtain ⟨h10, h⟩ := chk_inv h
    refine op0 (sp_add rfl rfl rfl h10) rfl trivial rfl rfl ?_
    refine op0 (sp_min rfl rfl rfl) rfl trivial rfl rfl ?_
    refine op0 (sp_build (qs := [(0, .val (.int .i64 (Int.tmod w2 ((2 : Int) * r4)))), (1, .val (.int .i64 (min (((2 : Int) * r5) - 1) ((Int.tmod w2 ((2 : Int) * r4)) + (Int.tmod w3 20)))))]) rfl bt81 rfl rfl rfl rfl) rfl trivial rfl rfl ?_
    refine op0 (sp_buildSlice (qs := [.agg [.val (.int .i64 (Int.tmod w2 ((2 : Int) * r4))), .val (.int .i64 (min (((2 : Int) * r5) - 1) ((Int.tmod w2 ((2 : Int) * r4)) + (Int.tmod w3 20))))]]) (need := []) (els := List.map en_api_Span ([((Int.tmod w2 ((2 : Int) * r4)), (min (((2 : Int) * r5) - 1) ((Int.tmod w2 ((2 : Int) * r4)) + (Int.tmod w3 20))))] : List (Int × Int))) 3 rfl sl22 (by decide) (by decide) rfl rfl rfl (.v (.v (.nil))) (map_len fun _ => rfl) rfl rfl rfl) rfl trivial rfl rfl ?_
    refine op1 1 rfl (sp_fieldAddrB rfl isBlk rfl ft24_2 vt22 (by decide)) rfl trivial rfl rfl ?_
    refine stoB 1 (cells' := [.val (.bool w1), .val (.bool false), .ref 3]) rfl rfl trivial rfl rfl rfl rfl vt22 rfl rfl rfl ?_
    refine TL.nil ?_
    refine TC.seq ?_
    refine TC.region ?_
    refine op1 1 rfl (sp_loadBA rfl isBlk rfl vt24 rfl rfl) rfl trivial rfl rfl ?_
    refine stoB 2 (cells' := [.val (.bool w1), .val (.bool false), .ref 3]) rfl rfl trivial rfl rfl rfl rfl vt24 rfl rfl rfl ?_
    refine TL.nil ?_
    cases h
    exact retJ [(0, 3)] (.cells rfl (mem_at 2 rfl) isBlk vt24 rfl rfl (.nil)) rfl ⟨mem_at 0 rfl, trivial⟩ rfl rfl
  · have h := cond_f h h2
    refine TC.skip ?_
    refine TC.seq ?_
    refine TC.region ?_
    refine op1 0 rfl (sp_loadBA rfl isBlk rfl vt24 rfl rfl) rfl trivial rfl rfl ?_
    refine stoB 1 (cells' := [.val (.bool w1), .val (.bool false), .val (.slice none 0 0)]) rfl rfl trivial rfl rfl rfl rfl vt24 rfl rfl rfl ?_
    refine TL.nil ?_
    refine nilCellC 1 4 81 2 1 (List.map en_api_Span []) [.val (.bool w1), .val (.bool false), .ref 4] rfl rfl rfl ?_
    cases h
    exact retJ [(0, 4)] (.cells rfl (mem_at 2 rfl) isBlk vt24 rfl rfl (.nil)) rfl ⟨mem_at 0 rfl, trivial⟩ rfl rfl
/- law05_copied -/
def ev_law05_copied (n : Nat) (rr1 : Bool) (rr2 : Bool) (rr3 : List (Int × Int)) : Option (Bool × Bool × (List (Int × Int))) :=
  chk (room 16 (([] : List (Int × Int)).length + rr3.length)) <| some (rr1, rr2, (([] : List (Int × Int)) ++ rr3))
set_option maxRecDepth 100000 in
set_option maxHeartbeats 2000000 in
theorem fc_law05_copied {n : Nat} {rr1 : Bool} {rr2 : Bool} {rr3 : List (Int × Int)} {r : Bool × Bool × (List (Int × Int))} (h : ev_law05_copied n rr1 rr2 rr3 = some r) : FC Try.prog 13 [.agg [.val (.bool rr1), .val (.bool rr2), .ref 0]] [.ro 0 2 (List.map en_api_Span rr3)] (.agg [.val (.bool r.1), .val (.bool r.2.1), .ref 0]) [.row 0 81 2 (List.map en_api_Span r.2.2)] := by
  refine introJ (nz := 9) Try.func13 rfl rfl rfl (fun w0 R0 env0 => ?_)
  rw [ev_law05_copied] at h
  refine TC.seq ?_
  refine TC.region ?_
  refine op0 (sp_box 1 rfl rfl rfl rfl rfl) rfl trivial rfl rfl ?_
  refine op0 (sp_alloc 2 rfl Try.zeroValue24 rfl) rfl trivial rfl rfl ?_
  refine TL.nil ?_
  refine TC.seq ?_
  refine TC.region ?_
  refine op0 (sp_emptyM 3 (List.map en_api_Span []) rfl rfl sl22) rfl trivial rfl rfl ?_
  refine op1 2 rfl (sp_fieldAddrB rfl isBlk rfl ft24_2 vt22 (by decide)) rfl trivial rfl rfl ?_
  refine op1 2 rfl (sp_loadB rfl isBlk rfl vt22 rfl) rfl trivial rfl rfl ?_
  obtain ⟨h1, h⟩ := chk_inv h
  refine appM 0 3 (N := ([] : List (Int × Int)).length) (N2 := rr3.length) 4 rfl rfl trivial rfl rfl rfl rfl rfl isRo rfl sl22 (len_map _ _) (len_map _ _) h1 (map_app _ _ _) rfl ?_
  refine op1 2 rfl (sp_fieldAddrB rfl isBlk rfl ft24_2 vt22 (by decide)) rfl trivial rfl rfl ?_
  refine stoB 2 (cells' := [.val (.bool rr1), .val (.bool rr2), .ref 4]) rfl rfl trivial rfl rfl rfl rfl vt22 rfl rfl rfl ?_
  refine TL.nil ?_
  refine TC.seq ?_
  refine TC.region ?_
  refine op1 2 rfl (sp_loadBA rfl isBlk rfl vt24 rfl rfl) rfl trivial rfl rfl ?_
  refine stoB 1 (cells' := [.val (.bool rr1), .val (.bool rr2), .ref 4]) rfl rfl trivial rfl rfl rfl rfl vt24 rfl rfl rfl ?_
  refine TL.nil ?_
  cases h
  exact retJ [(0, 4)] (.cells rfl (mem_at 1 rfl) isBlk vt24 rfl rfl (.nil)) rfl ⟨mem_at 0 rfl, trivial⟩ rfl rfl
/- law05_Wheel_silent -/
def ev_law05_Wheel_silent (n : Nat) (w1 : Bool) (w2 : Int) (w3 : Int) (slot4 : Int) : Option Bool :=
  (ev_law05_Wheel_rules n w1 w2 w3).bind fun r5 => (ev_law05_Wheel_places n w1 w2 w3).bind fun r6 => chk (in64 ((2 : Int) * r6)) <| chk (((2 : Int) * r6) != 0) <| cond (decide ((0 : Int) < (r5.2.2.length : Int))) (idx r5.2.2 0 fun x7 => cond (decide (x7.1 ≤ (Int.tmod slot4 ((2 : Int) * r6)))) (some (decide ((Int.tmod slot4 ((2 : Int) * r6)) ≤ x7.2))) (some false)) (some false)
set_option maxRecDepth 100000 in
set_option maxHeartbeats 2000000 in
theorem fc_law05_Wheel_silent {n : Nat} {w1 : Bool} {w2 : Int} {w3 : Int} {slot4 : Int} {r : Bool} (h : ev_law05_Wheel_silent n w1 w2 w3 slot4 = some r) : FC Try.prog 37 [.agg [.val (.bool w1), .val (.int .u8 w2), .val (.int .u8 w3)], .val (.int .i64 slot4)] [] (.val (.bool r)) [] := by
  refine introJ (nz := 36) Try.func37 rfl rfl rfl (fun w0 R0 env0 => ?_)
  rw [ev_law05_Wheel_silent] at h
  refine TC.seq ?_
  refine TC.region ?_
  refine op0 (sp_box 0 rfl rfl rfl rfl rfl) rfl trivial rfl rfl ?_
  refine op0 (sp_assign rfl rfl) rfl trivial rfl rfl ?_
  refine TL.nil ?_
  refine TC.seq ?_
  refine TC.region ?_
  refine op1 0 rfl (sp_loadBA rfl isBlk rfl vt64 rfl rfl) rfl trivial rfl rfl ?_
  obtain ⟨r5, h1, h⟩ := bind_inv h
  refine op0 (sp_call (avs := [.agg [.val (.bool w1), .val (.int .u8 w2), .val (.int .u8 w3)]]) (need := []) (v := .agg [.val (.bool r5.1), .val (.bool r5.2.1), .ref 1]) (news := [.row 1 81 2 (List.map en_api_Span r5.2.2)]) rfl rfl rfl Try.call38 (atJ [] [(0, 1)] (fc_law05_Wheel_rules h1) rfl rfl) (.inl (roAll rfl))) rfl trivial rfl rfl ?_
  refine op0 (sp_alloc 2 rfl Try.zeroValue24 rfl) rfl trivial rfl rfl ?_
  refine stoB 0 (cells' := [.val (.bool r5.1), .val (.bool r5.2.1), .ref 1]) rfl rfl trivial rfl rfl rfl rfl vt24 rfl rfl rfl ?_
  refine TL.nil ?_
  refine TC.seq ?_
  refine TC.region ?_
  refine op0 (sp_move rfl rfl) rfl trivial rfl rfl ?_
  refine op1 2 rfl (sp_loadBA rfl isBlk rfl vt64 rfl rfl) rfl trivial rfl rfl ?_
  obtain ⟨r6, h2, h⟩ := bind_inv h
  refine op0 (sp_call (avs := [.agg [.val (.bool w1), .val (.int .u8 w2), .val (.int .u8 w3)]]) (need := []) (v := .val (.int .i64 r6)) (news := []) rfl rfl rfl Try.call34 (atJ [] [] (fc_law05_Wheel_places h2) rfl rfl) (.inl (roAll rfl))) rfl trivial rfl rfl ?_
  obtain ⟨h3, h⟩ := chk_inv h
  refine op0 (sp_mul rfl rfl rfl h3) rfl trivial rfl rfl ?_
  obtain ⟨h4, h⟩ := chk_inv h
  refine op0 (sp_rem rfl rfl rfl h4) rfl trivial rfl rfl ?_
  refine op0 (sp_assign rfl rfl) rfl trivial rfl rfl ?_
  refine TL.nil ?_
  refine TC.seq ?_
  refine TC.region ?_
  refine op1 0 rfl (sp_fieldAddrB rfl isBlk rfl ft24_2 vt22 (by decide)) rfl trivial rfl rfl ?_
  refine op1 0 rfl (sp_loadB rfl isBlk rfl vt22 rfl) rfl trivial rfl rfl ?_
  refine op1 1 rfl (sp_lenM (N := r5.2.2.length) (len_map _ _) rfl rfl isOwn Try.underlying22) rfl trivial rfl rfl ?_
  refine op0 (sp_gtr rfl rfl rfl) rfl trivial rfl rfl ?_
  refine op0 (sp_move rfl rfl) rfl trivial rfl rfl ?_
  rcases cond_cases h with ⟨h5, h⟩ | ⟨h5, h⟩
  · refine (boolLit 18 rfl h5).2 ?_
    refine op0 (sp_move rfl rfl) rfl ⟨_, rfl, rfl⟩ rfl rfl ?_
    refine op1 0 rfl (sp_fieldAddrB rfl isBlk rfl ft24_2 vt22 (by decide)) rfl ⟨_, rfl, rfl⟩ rfl rfl ?_
    refine op1 0 rfl (sp_loadB rfl isBlk rfl vt22 rfl) rfl ⟨_, rfl, rfl⟩ rfl rfl ?_
    obtain ⟨x7, h6, h7, h⟩ := idx_inv h
    refine op1 1 rfl (sp_indexS rfl rfl rfl isOwn sl22 h6 (map_get _ h7)) rfl ⟨_, rfl, rfl⟩ rfl rfl ?_
    refine op1 1 rfl (sp_fieldAddrR (i := (0 : Int).toNat) rfl rfl isOwn ft81_0 vt3 (by decide) (map_get _ h7) (fun h => nomatch h)) rfl ⟨_, rfl, rfl⟩ rfl rfl ?_
    refine op1 1 rfl (sp_loadR (i := (0 : Int).toNat) (j := 0) rfl rfl isOwn vt3 rfl (map_get _ h7) rfl (.v (.nil)) (nodup_of_B rfl)) rfl ⟨_, rfl, rfl⟩ rfl rfl ?_
    refine op0 (sp_geq rfl rfl rfl) rfl ⟨_, rfl, rfl⟩ rfl rfl ?_
    refine op0 (sp_pickT rfl rfl rfl) rfl trivial rfl rfl ?_
    refine op0 (sp_move rfl rfl) rfl trivial rfl rfl ?_
    rcases cond_cases h with ⟨h8, h⟩ | ⟨h8, h⟩
    · refine (boolLit 27 rfl h8).2 ?_
      refine op0 (sp_move rfl rfl) rfl ⟨_, rfl, rfl⟩ rfl rfl ?_
      refine op1 0 rfl (sp_fieldAddrB rfl isBlk rfl ft24_2 vt22 (by decide)) rfl ⟨_, rfl, rfl⟩ rfl rfl ?_
      refine op1 0 rfl (sp_loadB rfl isBlk rfl vt22 rfl) rfl ⟨_, rfl, rfl⟩ rfl rfl ?_
      refine op1 1 rfl (sp_indexS rfl rfl rfl isOwn sl22 h6 (map_get _ h7)) rfl ⟨_, rfl, rfl⟩ rfl rfl ?_
      refine op1 1 rfl (sp_fieldAddrR (i := (0 : Int).toNat) rfl rfl isOwn ft81_1 vt3 (by decide) (map_get _ h7) (fun h => nomatch h)) rfl ⟨_, rfl, rfl⟩ rfl rfl ?_
      refine op1 1 rfl (sp_loadR (i := (0 : Int).toNat) (j := 1) rfl rfl isOwn vt3 rfl (map_get _ h7) rfl (.v (.nil)) (nodup_of_B rfl)) rfl ⟨_, rfl, rfl⟩ rfl rfl ?_
      refine op0 (sp_leq rfl rfl rfl) rfl ⟨_, rfl, rfl⟩ rfl rfl ?_
      refine op0 (sp_pickT rfl rfl rfl) rfl trivial rfl rfl ?_
      refine op0 (sp_assign rfl rfl) rfl trivial rfl rfl ?_
      refine TL.nil ?_
      cases h
      exact retJ [] (.tmp rfl .nil) rfl trivial rfl rfl
    · refine (boolLit 27 rfl h8).2 ?_
      refine opSkip rfl ⟨_, rfl, .inl rfl⟩ rfl ?_
      refine opSkip rfl ⟨_, rfl, .inl rfl⟩ rfl ?_
      refine opSkip rfl ⟨_, rfl, .inl rfl⟩ rfl ?_
      refine opSkip rfl ⟨_, rfl, .inl rfl⟩ rfl ?_
      refine opSkip rfl ⟨_, rfl, .inl rfl⟩ rfl ?_
      refine opSkip rfl ⟨_, rfl, .inl rfl⟩ rfl ?_
      refine opSkip rfl ⟨_, rfl, .inl rfl⟩ rfl ?_
      refine op0 (sp_pickF rfl rfl rfl) rfl trivial rfl rfl ?_
      refine op0 (sp_assign rfl rfl) rfl trivial rfl rfl ?_
      refine TL.nil ?_
      cases h
      exact retJ [] (.tmp rfl .nil) rfl trivial rfl rfl
  · refine (boolLit 18 rfl h5).2 ?_
    refine opSkip rfl ⟨_, rfl, .inl rfl⟩ rfl ?_
    refine opSkip rfl ⟨_, rfl, .inl rfl⟩ rfl ?_
    refine opSkip rfl ⟨_, rfl, .inl rfl⟩ rfl ?_
    refine opSkip rfl ⟨_, rfl, .inl rfl⟩ rfl ?_
    refine opSkip rfl ⟨_, rfl, .inl rfl⟩ rfl ?_
    refine opSkip rfl ⟨_, rfl, .inl rfl⟩ rfl ?_
    refine opSkip rfl ⟨_, rfl, .inl rfl⟩ rfl ?_
    refine op0 (sp_pickF rfl rfl rfl) rfl trivial rfl rfl ?_
    refine op0 (sp_move rfl rfl) rfl trivial rfl rfl ?_
    refine opSkip rfl ⟨_, rfl, .inl rfl⟩ rfl ?_
    refine opSkip rfl ⟨_, rfl, .inl rfl⟩ rfl ?_
    refine opSkip rfl ⟨_, rfl, .inl rfl⟩ rfl ?_
    refine opSkip rfl ⟨_, rfl, .inl rfl⟩ rfl ?_
    refine opSkip rfl ⟨_, rfl, .inl rfl⟩ rfl ?_
    refine opSkip rfl ⟨_, rfl, .inl rfl⟩ rfl ?_
    refine opSkip rfl ⟨_, rfl, .inl rfl⟩ rfl ?_
    refine op0 (sp_pickF rfl rfl rfl) rfl trivial rfl rfl ?_
    refine op0 (sp_assign rfl rfl) rfl trivial rfl rfl ?_
    refine TL.nil ?_
    cases h
    exact retJ [] (.tmp rfl .nil) rfl trivial rfl rfl
/- law05_night -/
def ev_law05_night (n : Nat) : Option (Bool × Bool × (List (Int × Int))) :=
  some (true, false, ([(22, 38)] : List (Int × Int)))
set_option maxRecDepth 100000 in
set_option maxHeartbeats 2000000 in
theorem fc_law05_night {n : Nat}  {r : Bool × Bool × (List (Int × Int))} (h : ev_law05_night n = some r) : FC Try.prog 39 [] [] (.agg [.val (.bool r.1), .val (.bool r.2.1), .ref 0]) [.row 0 81 2 (List.map en_api_Span r.2.2)] := by
  refine introJ (nz := 4) Try.func39 rfl rfl rfl (fun w0 R0 env0 => ?_)
  rw [ev_law05_night] at h
  refine TC.seq ?_
  refine TC.region ?_
  refine op0 (sp_alloc 0 rfl Try.zeroValue24 rfl) rfl trivial rfl rfl ?_
  refine TL.nil ?_
  refine TC.seq ?_
  refine TC.region ?_
  refine op0 (sp_build (qs := [(0, .val (.int .i64 22)), (1, .val (.int .i64 38))]) rfl bt81 rfl rfl rfl rfl) rfl trivial rfl rfl ?_
  refine op0 (sp_buildSlice (qs := [.agg [.val (.int .i64 22), .val (.int .i64 38)]]) (need := []) (els := List.map en_api_Span ([(22, 38)] : List (Int × Int))) 1 rfl sl22 (by decide) (by decide) rfl rfl rfl (.v (.v (.nil))) (map_len fun _ => rfl) rfl rfl rfl) rfl trivial rfl rfl ?_
  refine op0 (sp_build (qs := [(0, .val (.bool true)), (2, .ref 1)]) rfl bt24 rfl rfl rfl rfl) rfl trivial rfl rfl ?_
  refine stoB 1 (cells' := [.val (.bool true), .val (.bool false), .ref 1]) rfl rfl trivial rfl rfl rfl rfl vt24 rfl rfl rfl ?_
  refine TL.nil ?_
  cases h
  exact retJ [(0, 1)] (.cells rfl (mem_at 1 rfl) isBlk vt24 rfl rfl (.nil)) rfl ⟨mem_at 0 rfl, trivial⟩ rfl rfl
/- law05_known -/
def ev_law05_known_j0 (n : Nat) (r2 : Int × Int) (r4 : Int × Int) (r6 : Int × Int) (r8 : Int × (List Int) × Int) (r12 : (List (Int × Bool)) × Int × Int) (r14 : Int × Int × Int) : Option Bool :=
  cond (r2.1 == 6) (cond (r4.1 == 0) (cond (r6.1 == 121) (cond (r8.1 == 1) ((ev_ref05_Same n r8.2.1 ([5] : List Int)).bind fun r15 => cond r15 ((ev_ref05_Equal n r12.1 ([(1, false)] : List (Int × Bool))).bind fun r16 => cond r16 (cond (r12.2.1 == 1) (cond (r14.1 == 9) (some (r14.2.1 == 0)) (some false)) (some false)) (some false)) (some false)) (some false)) (some false)) (some false)) (some false)
set_option maxRecDepth 100000 in
set_option maxHeartbeats 2000000 in
theorem ok_law05_known_j0 {n : Nat} {w0 : World} {R0 : Nat → Prop} {env0 : Env} {r : Bool} {r2 : Int × Int} {r4 : Int × Int} {r6 : Int × Int} {r8 : Int × (List Int) × Int} {r12 : (List (Int × Bool)) × Int × Int} {r14 : Int × Int × Int} (h : ev_law05_known_j0 n r2 r4 r6 r8 r12 r14 = some r) : TC Try.prog ⟨w0, fun _ => False, R0⟩ 130 (bodyPost Try.prog Try.f12 (Post ⟨w0, fun _ => False, R0⟩ env0 (.val (.bool r)) [])) [.code (sub (bodyOf Try.f12) [1, 1, 1, 1, 1, 1, 1, 1, 0, 1, 1]), .code (sub (bodyOf Try.f12) [1, 1, 1, 1, 1, 1, 1, 1, 1])] ([(1, .val (.int .i64 r2.1)), (3, .val (.int .i64 r4.1)), (5, .val (.int .i64 r6.1)), (7, .val (.int .i64 r8.1)), (8, .ref 5), (13, .ref 10), (14, .val (.int .i64 r12.2.1)), (16, .val (.int .i64 r14.1)), (17, .val (.int .i64 r14.2.1))]) ([.row 5 3 1 (List.map en_int r8.2.1), .row 10 73 2 (List.map en_api_StrikeStep r12.1)]) := by
  rw [ev_law05_known_j0] at h
  refine TC.skip ?_
  refine TC.seq ?_
  refine TC.region ?_
  refine op0 (sp_move rfl rfl) rfl trivial rfl rfl ?_
  refine op0 (sp_eql rfl rfl rfl) rfl trivial rfl rfl ?_
  refine op0 (sp_move rfl rfl) rfl trivial rfl rfl ?_
  rcases cond_cases h with ⟨h22, h⟩ | ⟨h22, h⟩
  · refine (boolLit 95 rfl h22).2 ?_
    refine op0 (sp_move rfl rfl) rfl ⟨_, rfl, rfl⟩ rfl rfl ?_
    refine op0 (sp_eql rfl rfl rfl) rfl ⟨_, rfl, rfl⟩ rfl rfl ?_
    refine op0 (sp_pickT rfl rfl rfl) rfl trivial rfl rfl ?_
    refine op0 (sp_move rfl rfl) rfl trivial rfl rfl ?_
    rcases cond_cases h with ⟨h23, h⟩ | ⟨h23, h⟩
    · refine (boolLit 99 rfl h23).2 ?_
      refine op0 (sp_move rfl rfl) rfl ⟨_, rfl, rfl⟩ rfl rfl ?_
      refine op0 (sp_eql rfl rfl rfl) rfl ⟨_, rfl, rfl⟩ rfl rfl ?_
      refine op0 (sp_pickT rfl rfl rfl) rfl trivial rfl rfl ?_
      refine op0 (sp_move rfl rfl) rfl trivial rfl rfl ?_
      rcases cond_cases h with ⟨h24, h⟩ | ⟨h24, h⟩
      · refine (boolLit 103 rfl h24).2 ?_
        refine op0 (sp_move rfl rfl) rfl ⟨_, rfl, rfl⟩ rfl rfl ?_
        refine op0 (sp_eql rfl rfl rfl) rfl ⟨_, rfl, rfl⟩ rfl rfl ?_
        refine op0 (sp_pickT rfl rfl rfl) rfl trivial rfl rfl ?_
        refine op0 (sp_move rfl rfl) rfl trivial rfl rfl ?_
        rcases cond_cases h with ⟨h25, h⟩ | ⟨h25, h⟩
        · refine (boolLit 107 rfl h25).2 ?_
          refine op0 (sp_move rfl rfl) rfl ⟨_, rfl, rfl⟩ rfl rfl ?_
          refine op0 (sp_buildSlice (qs := [.val (.int .i64 5)]) (need := []) (els := List.map en_int ([5] : List Int)) 13 rfl sl39 (by decide) (by decide) rfl rfl rfl (.v (.nil)) (map_len fun _ => rfl) rfl rfl rfl) rfl ⟨_, rfl, rfl⟩ rfl rfl ?_
          obtain ⟨r15, h26, h⟩ := bind_inv h
          refine opN (need := [.row 5 3 1 (List.map en_int r8.2.1), .row 13 3 1 (List.map en_int ([5] : List Int))]) [1, 0] ⟨rfl, rfl, trivial⟩ (sp_call (avs := [.ref 5, .ref 13]) (need := [.row 5 3 1 (List.map en_int r8.2.1), .row 13 3 1 (List.map en_int ([5] : List Int))]) (v := .val (.bool r15)) (news := []) rfl rfl rfl Try.call26 (atJ [(0, 5), (1, 13)] [] (fc_ref05_Same h26) rfl rfl) (.inr (fun x hx => nomatch hx))) rfl ⟨_, rfl, rfl⟩ rfl rfl ?_
          refine op0 (sp_pickT rfl rfl rfl) rfl trivial rfl rfl ?_
          refine op0 (sp_move rfl rfl) rfl trivial rfl rfl ?_
          rcases cond_cases h with ⟨h27, h⟩ | ⟨h27, h⟩
          · refine (boolLit 112 rfl h27).2 ?_
            refine op0 (sp_move rfl rfl) rfl ⟨_, rfl, rfl⟩ rfl rfl ?_
            refine op0 (sp_build (qs := [(0, .val (.int .i64 1))]) rfl bt73 rfl rfl rfl rfl) rfl ⟨_, rfl, rfl⟩ rfl rfl ?_
            refine op0 (sp_buildSlice (qs := [.agg [.val (.int .i64 1), .val (.bool false)]]) (need := []) (els := List.map en_api_StrikeStep ([(1, false)] : List (Int × Bool))) 14 rfl sl50 (by decide) (by decide) rfl rfl rfl (.v (.v (.nil))) (map_len fun _ => rfl) rfl rfl rfl) rfl ⟨_, rfl, rfl⟩ rfl rfl ?_
            obtain ⟨r16, h28, h⟩ := bind_inv h
            refine opN (need := [.row 10 73 2 (List.map en_api_StrikeStep r12.1), .row 14 73 2 (List.map en_api_StrikeStep ([(1, false)] : List (Int × Bool)))]) [3, 0] ⟨rfl, rfl, trivial⟩ (sp_call (avs := [.ref 10, .ref 14]) (need := [.row 10 73 2 (List.map en_api_StrikeStep r12.1), .row 14 73 2 (List.map en_api_StrikeStep ([(1, false)] : List (Int × Bool)))]) (v := .val (.bool r16)) (news := []) rfl rfl rfl Try.call31 (atJ [(0, 10), (1, 14)] [] (fc_ref05_Equal h28) rfl rfl) (.inr (fun x hx => nomatch hx))) rfl ⟨_, rfl, rfl⟩ rfl rfl ?_
            refine op0 (sp_pickT rfl rfl rfl) rfl trivial rfl rfl ?_
            refine op0 (sp_move rfl rfl) rfl trivial rfl rfl ?_
            rcases cond_cases h with ⟨h29, h⟩ | ⟨h29, h⟩
            · refine (boolLit 118 rfl h29).2 ?_
              refine op0 (sp_move rfl rfl) rfl ⟨_, rfl, rfl⟩ rfl rfl ?_
              refine op0 (sp_eql rfl rfl rfl) rfl ⟨_, rfl, rfl⟩ rfl rfl ?_
              refine op0 (sp_pickT rfl rfl rfl) rfl trivial rfl rfl ?_
              refine op0 (sp_move rfl rfl) rfl trivial rfl rfl ?_
              rcases cond_cases h with ⟨h30, h⟩ | ⟨h30, h⟩
              · refine (boolLit 122 rfl h30).2 ?_
                refine op0 (sp_move rfl rfl) rfl ⟨_, rfl, rfl⟩ rfl rfl ?_
                refine op0 (sp_eql rfl rfl rfl) rfl ⟨_, rfl, rfl⟩ rfl rfl ?_
                refine op0 (sp_pickT rfl rfl rfl) rfl trivial rfl rfl ?_
                refine op0 (sp_move rfl rfl) rfl trivial rfl rfl ?_
                rcases cond_cases h with ⟨h31, h⟩ | ⟨h31, h⟩
                · refine (boolLit 126 rfl h31).2 ?_
                  refine op0 (sp_move rfl rfl) rfl ⟨_, rfl, rfl⟩ rfl rfl ?_
                  refine op0 (sp_eql rfl rfl rfl) rfl ⟨_, rfl, rfl⟩ rfl rfl ?_
                  refine op0 (sp_pickT rfl rfl rfl) rfl trivial rfl rfl ?_
                  refine op0 (sp_assign rfl rfl) rfl trivial rfl rfl ?_
                  refine TL.nil ?_
                  cases h
                  exact retJ [] (.tmp rfl .nil) rfl trivial rfl rfl
                · refine (boolLit 126 rfl h31).2 ?_
                  refine opSkip rfl ⟨_, rfl, .inl rfl⟩ rfl ?_
                  refine opSkip rfl ⟨_, rfl, .inl rfl⟩ rfl ?_
                  refine op0 (sp_pickF rfl rfl rfl) rfl trivial rfl rfl ?_
                  refine op0 (sp_assign rfl rfl) rfl trivial rfl rfl ?_
                  refine TL.nil ?_
                  cases h
                  exact retJ [] (.tmp rfl .nil) rfl trivial rfl rfl
              · refine (boolLit 122 rfl h30).2 ?_
                refine opSkip rfl ⟨_, rfl, .inl rfl⟩ rfl ?_
                refine opSkip rfl ⟨_, rfl, .inl rfl⟩ rfl ?_
                refine op0 (sp_pickF rfl rfl rfl) rfl trivial rfl rfl ?_
                refine op0 (sp_move rfl rfl) rfl trivial rfl rfl ?_
                refine opSkip rfl ⟨_, rfl, .inl rfl⟩ rfl ?_
                refine opSkip rfl ⟨_, rfl, .inl rfl⟩ rfl ?_
                refine op0 (sp_pickF rfl rfl rfl) rfl trivial rfl rfl ?_
                refine op0 (sp_assign rfl rfl) rfl trivial rfl rfl ?_
                refine TL.nil ?_
                cases h
                exact retJ [] (.tmp rfl .nil) rfl trivial rfl rfl
            · refine (boolLit 118 rfl h29).2 ?_
              refine opSkip rfl ⟨_, rfl, .inl rfl⟩ rfl ?_
              refine opSkip rfl ⟨_, rfl, .inl rfl⟩ rfl ?_
              refine op0 (sp_pickF rfl rfl rfl) rfl trivial rfl rfl ?_
              refine op0 (sp_move rfl rfl) rfl trivial rfl rfl ?_
              refine opSkip rfl ⟨_, rfl, .inl rfl⟩ rfl ?_
              refine opSkip rfl ⟨_, rfl, .inl rfl⟩ rfl ?_
              refine op0 (sp_pickF rfl rfl rfl) rfl trivial rfl rfl ?_
              refine op0 (sp_move rfl rfl) rfl trivial rfl rfl ?_
              refine opSkip rfl ⟨_, rfl, .inl rfl⟩ rfl ?_
              refine opSkip rfl ⟨_, rfl, .inl rfl⟩ rfl ?_
              refine op0 (sp_pickF rfl rfl rfl) rfl trivial rfl rfl ?_
              refine op0 (sp_assign rfl rfl) rfl trivial rfl rfl ?_
              refine TL.nil ?_
              cases h
              exact retJ [] (.tmp rfl .nil) rfl trivial rfl rfl
          · refine (boolLit 112 rfl h27).2 ?_
            refine opSkip rfl ⟨_, rfl, .inl rfl⟩ rfl ?_
            refine opSkip rfl ⟨_, rfl, .inl rfl⟩ rfl ?_
            refine opSkip rfl ⟨_, rfl, .inl rfl⟩ rfl ?_
            refine opSkip rfl ⟨_, rfl, .inl rfl⟩ rfl ?_
            refine op0 (sp_pickF rfl rfl rfl) rfl trivial rfl rfl ?_
            refine op0 (sp_move rfl rfl) rfl trivial rfl rfl ?_
            refine opSkip rfl ⟨_, rfl, .inl rfl⟩ rfl ?_
            refine opSkip rfl ⟨_, rfl, .inl rfl⟩ rfl ?_
            refine op0 (sp_pickF rfl rfl rfl) rfl trivial rfl rfl ?_
            refine op0 (sp_move rfl rfl) rfl trivial rfl rfl ?_
            refine opSkip rfl ⟨_, rfl, .inl rfl⟩ rfl ?_
            refine opSkip rfl ⟨_, rfl, .inl rfl⟩ rfl ?_
            refine op0 (sp_pickF rfl rfl rfl) rfl trivial rfl rfl ?_
            refine op0 (sp_move rfl rfl) rfl trivial rfl rfl ?_
            refine opSkip rfl ⟨_, rfl, .inl rfl⟩ rfl ?_
            refine opSkip rfl ⟨_, rfl, .inl rfl⟩ rfl ?_
            refine op0 (sp_pickF rfl rfl rfl) rfl trivial rfl rfl ?_
            refine op0 (sp_assign rfl rfl) rfl trivial rfl rfl ?_
            refine TL.nil ?_
            cases h
            exact retJ [] (.tmp rfl .nil) rfl trivial rfl rfl
        · refine (boolLit 107 rfl h25).2 ?_
          refine opSkip rfl ⟨_, rfl, .inl rfl⟩ rfl ?_
          refine opSkip rfl ⟨_, rfl, .inl rfl⟩ rfl ?_
          refine opSkip rfl ⟨_, rfl, .inl rfl⟩ rfl ?_
          refine op0 (sp_pickF rfl rfl rfl) rfl trivial rfl rfl ?_
          refine op0 (sp_move rfl rfl) rfl trivial rfl rfl ?_
          refine opSkip rfl ⟨_, rfl, .inl rfl⟩ rfl ?_
          refine opSkip rfl ⟨_, rfl, .inl rfl⟩ rfl ?_
          refine opSkip rfl ⟨_, rfl, .inl rfl⟩ rfl ?_
          refine opSkip rfl ⟨_, rfl, .inl rfl⟩ rfl ?_
          refine op0 (sp_pickF rfl rfl rfl) rfl trivial rfl rfl ?_
          refine op0 (sp_move rfl rfl) rfl trivial rfl rfl ?_
          refine opSkip rfl ⟨_, rfl, .inl rfl⟩ rfl ?_
          refine opSkip rfl ⟨_, rfl, .inl rfl⟩ rfl ?_
          refine op0 (sp_pickF rfl rfl rfl) rfl trivial rfl rfl ?_
          refine op0 (sp_move rfl rfl) rfl trivial rfl rfl ?_
          refine opSkip rfl ⟨_, rfl, .inl rfl⟩ rfl ?_
          refine opSkip rfl ⟨_, rfl, .inl rfl⟩ rfl ?_
          refine op0 (sp_pickF rfl rfl rfl) rfl trivial rfl rfl ?_
          refine op0 (sp_move rfl rfl) rfl trivial rfl rfl ?_
          refine opSkip rfl ⟨_, rfl, .inl rfl⟩ rfl ?_
          refine opSkip rfl ⟨_, rfl, .inl rfl⟩ rfl ?_
          refine op0 (sp_pickF rfl rfl rfl) rfl trivial rfl rfl ?_
          refine op0 (sp_assign rfl rfl) rfl trivial rfl rfl ?_
          refine TL.nil ?_
          cases h
          exact retJ [] (.tmp rfl .nil) rfl trivial rfl rfl
      · refine (boolLit 103 rfl h24).2 ?_
        refine opSkip rfl ⟨_, rfl, .inl rfl⟩ rfl ?_
        refine opSkip rfl ⟨_, rfl, .inl rfl⟩ rfl ?_
        refine op0 (sp_pickF rfl rfl rfl) rfl trivial rfl rfl ?_
        refine op0 (sp_move rfl rfl) rfl trivial rfl rfl ?_
        refine opSkip rfl ⟨_, rfl, .inl rfl⟩ rfl ?_
        refine opSkip rfl ⟨_, rfl, .inl rfl⟩ rfl ?_
        refine opSkip rfl ⟨_, rfl, .inl rfl⟩ rfl ?_
        refine op0 (sp_pickF rfl rfl rfl) rfl trivial rfl rfl ?_
        refine op0 (sp_move rfl rfl) rfl trivial rfl rfl ?_
        refine opSkip rfl ⟨_, rfl, .inl rfl⟩ rfl ?_
        refine opSkip rfl ⟨_, rfl, .inl rfl⟩ rfl ?_
        refine opSkip rfl ⟨_, rfl, .inl rfl⟩ rfl ?_
        refine opSkip rfl ⟨_, rfl, .inl rfl⟩ rfl ?_
        refine op0 (sp_pickF rfl rfl rfl) rfl trivial rfl rfl ?_
        refine op0 (sp_move rfl rfl) rfl trivial rfl rfl ?_
        refine opSkip rfl ⟨_, rfl, .inl rfl⟩ rfl ?_
        refine opSkip rfl ⟨_, rfl, .inl rfl⟩ rfl ?_
        refine op0 (sp_pickF rfl rfl rfl) rfl trivial rfl rfl ?_
        refine op0 (sp_move rfl rfl) rfl trivial rfl rfl ?_
        refine opSkip rfl ⟨_, rfl, .inl rfl⟩ rfl ?_
        refine opSkip rfl ⟨_, rfl, .inl rfl⟩ rfl ?_
        refine op0 (sp_pickF rfl rfl rfl) rfl trivial rfl rfl ?_
        refine op0 (sp_move rfl rfl) rfl trivial rfl rfl ?_
        refine opSkip rfl ⟨_, rfl, .inl rfl⟩ rfl ?_
        refine opSkip rfl ⟨_, rfl, .inl rfl⟩ rfl ?_
        refine op0 (sp_pickF rfl rfl rfl) rfl trivial rfl rfl ?_
        refine op0 (sp_assign rfl rfl) rfl trivial rfl rfl ?_
        refine TL.nil ?_
        cases h
        exact retJ [] (.tmp rfl .nil) rfl trivial rfl rfl
    · refine (boolLit 99 rfl h23).2 ?_
      refine opSkip rfl ⟨_, rfl, .inl rfl⟩ rfl ?_
      refine opSkip rfl ⟨_, rfl, .inl rfl⟩ rfl ?_
      refine op0 (sp_pickF rfl rfl rfl) rfl trivial rfl rfl ?_
      refine op0 (sp_move rfl rfl) rfl trivial rfl rfl ?_
      refine opSkip rfl ⟨_, rfl, .inl rfl⟩ rfl ?_
      refine opSkip rfl ⟨_, rfl, .inl rfl⟩ rfl ?_
      refine op0 (sp_pickF rfl rfl rfl) rfl trivial rfl rfl ?_
      refine op0 (sp_move rfl rfl) rfl trivial rfl rfl ?_
      refine opSkip rfl ⟨_, rfl, .inl rfl⟩ rfl ?_
      refine opSkip rfl ⟨_, rfl, .inl rfl⟩ rfl ?_
      refine opSkip rfl ⟨_, rfl, .inl rfl⟩ rfl ?_
      refine op0 (sp_pickF rfl rfl rfl) rfl trivial rfl rfl ?_
      refine op0 (sp_move rfl rfl) rfl trivial rfl rfl ?_
      refine opSkip rfl ⟨_, rfl, .inl rfl⟩ rfl ?_
      refine opSkip rfl ⟨_, rfl, .inl rfl⟩ rfl ?_
      refine opSkip rfl ⟨_, rfl, .inl rfl⟩ rfl ?_
      refine opSkip rfl ⟨_, rfl, .inl rfl⟩ rfl ?_
      refine op0 (sp_pickF rfl rfl rfl) rfl trivial rfl rfl ?_
      refine op0 (sp_move rfl rfl) rfl trivial rfl rfl ?_
      refine opSkip rfl ⟨_, rfl, .inl rfl⟩ rfl ?_
      refine opSkip rfl ⟨_, rfl, .inl rfl⟩ rfl ?_
      refine op0 (sp_pickF rfl rfl rfl) rfl trivial rfl rfl ?_
      refine op0 (sp_move rfl rfl) rfl trivial rfl rfl ?_
      refine opSkip rfl ⟨_, rfl, .inl rfl⟩ rfl ?_
      refine opSkip rfl ⟨_, rfl, .inl rfl⟩ rfl ?_
      refine op0 (sp_pickF rfl rfl rfl) rfl trivial rfl rfl ?_
      refine op0 (sp_move rfl rfl) rfl trivial rfl rfl ?_
      refine opSkip rfl ⟨_, rfl, .inl rfl⟩ rfl ?_
      refine opSkip rfl ⟨_, rfl, .inl rfl⟩ rfl ?_
      refine op0 (sp_pickF rfl rfl rfl) rfl trivial rfl rfl ?_
      refine op0 (sp_assign rfl rfl) rfl trivial rfl rfl ?_
      refine TL.nil ?_
      cases h
      exact retJ [] (.tmp rfl .nil) rfl trivial rfl rfl
  · refine (boolLit 95 rfl h22).2 ?_
    refine opSkip rfl ⟨_, rfl, .inl rfl⟩ rfl ?_
    refine opSkip rfl ⟨_, rfl, .inl rfl⟩ rfl ?_
    refine op0 (sp_pickF rfl rfl rfl) rfl trivial rfl rfl ?_
    refine op0 (sp_move rfl rfl) rfl trivial rfl rfl ?_
    refine opSkip rfl ⟨_, rfl, .inl rfl⟩ rfl ?_
    refine opSkip rfl ⟨_, rfl, .inl rfl⟩ rfl ?_
    refine op0 (sp_pickF rfl rfl rfl) rfl trivial rfl rfl ?_
    refine op0 (sp_move rfl rfl) rfl trivial rfl rfl ?_
    refine opSkip rfl ⟨_, rfl, .inl rfl⟩ rfl ?_
    refine opSkip rfl ⟨_, rfl, .inl rfl⟩ rfl ?_
    refine op0 (sp_pickF rfl rfl rfl) rfl trivial rfl rfl ?_
    refine op0 (sp_move rfl rfl) rfl trivial rfl rfl ?_
    refine opSkip rfl ⟨_, rfl, .inl rfl⟩ rfl ?_
    refine opSkip rfl ⟨_, rfl, .inl rfl⟩ rfl ?_
    refine opSkip rfl ⟨_, rfl, .inl rfl⟩ rfl ?_
    refine op0 (sp_pickF rfl rfl rfl) rfl trivial rfl rfl ?_
    refine op0 (sp_move rfl rfl) rfl trivial rfl rfl ?_
    refine opSkip rfl ⟨_, rfl, .inl rfl⟩ rfl ?_
    refine opSkip rfl ⟨_, rfl, .inl rfl⟩ rfl ?_
    refine opSkip rfl ⟨_, rfl, .inl rfl⟩ rfl ?_
    refine opSkip rfl ⟨_, rfl, .inl rfl⟩ rfl ?_
    refine op0 (sp_pickF rfl rfl rfl) rfl trivial rfl rfl ?_
    refine op0 (sp_move rfl rfl) rfl trivial rfl rfl ?_
    refine opSkip rfl ⟨_, rfl, .inl rfl⟩ rfl ?_
    refine opSkip rfl ⟨_, rfl, .inl rfl⟩ rfl ?_
    refine op0 (sp_pickF rfl rfl rfl) rfl trivial rfl rfl ?_
    refine op0 (sp_move rfl rfl) rfl trivial rfl rfl ?_
    refine opSkip rfl ⟨_, rfl, .inl rfl⟩ rfl ?_
    refine opSkip rfl ⟨_, rfl, .inl rfl⟩ rfl ?_
    refine op0 (sp_pickF rfl rfl rfl) rfl trivial rfl rfl ?_
    refine op0 (sp_move rfl rfl) rfl trivial rfl rfl ?_
    refine opSkip rfl ⟨_, rfl, .inl rfl⟩ rfl ?_
    refine opSkip rfl ⟨_, rfl, .inl rfl⟩ rfl ?_
    refine op0 (sp_pickF rfl rfl rfl) rfl trivial rfl rfl ?_
    refine op0 (sp_assign rfl rfl) rfl trivial rfl rfl ?_
    refine TL.nil ?_
    cases h
    exact retJ [] (.tmp rfl .nil) rfl trivial rfl rfl
def ev_law05_known (n : Nat) : Option Bool :=
  (ev_law05_night n).bind fun r1 => (ev_strike_Blows n r1.1 r1.2.1 r1.2.2 12).bind fun r2 => (ev_law05_night n).bind fun r3 => (ev_strike_Blows n r3.1 r3.2.1 r3.2.2 24).bind fun r4 => (ev_law05_night n).bind fun r5 => (ev_strike_Day n r5.1 r5.2.1 r5.2.2).bind fun r6 => (ev_law05_night n).bind fun r7 => (ev_strike_Misses n r7.1 r7.2.1 r7.2.2 ([(1, 1), (5, 2)] : List (Int × Int))).bind fun r8 => (ev_law05_night n).bind fun r9 => (ev_strike_Misses n r9.1 r9.2.1 r9.2.2 ([(6, 4), (10, 3)] : List (Int × Int))).bind fun r10 => (ev_law05_night n).bind fun r11 => (ev_strike_Bring n r11.1 r11.2.1 r11.2.2 6 5 7).bind fun r12 => (ev_law05_night n).bind fun r13 => (ev_strike_Play n r13.1 r13.2.1 r13.2.2 7 9 ([(0, true), (0, true)] : List (Int × Bool))).bind fun r14 => cond (r2.2 != 0) (some false) (cond (r4.2 != 0) (some false) (cond (r6.2 != 0) (some false) (cond (r8.2.2 != 0) (some false) (cond (r10.2.2 != 9) (some false) (cond (r12.2.2 != 0) (some false) (cond (r14.2.2 != 0) (some false) (ev_law05_known_j0 n r2 r4 r6 r8 r12 r14)))))))
set_option maxRecDepth 100000 in
set_option maxHeartbeats 2000000 in
theorem fc_law05_known {n : Nat}  {r : Bool} (h : ev_law05_known n = some r) : FC Try.prog 12 [] [] (.val (.bool r)) [] := by
  refine introJ (nz := 130) Try.func12 rfl rfl rfl (fun w0 R0 env0 => ?_)
  rw [ev_law05_known] at h
  refine TC.seq ?_
  refine TC.region ?_
  refine op0 (sp_assign rfl rfl) rfl trivial rfl rfl ?_
  refine TL.nil ?_
  refine TC.seq ?_
  refine TC.region ?_
  obtain ⟨r1, h1, h⟩ := bind_inv h
  refine op0 (sp_call (avs := []) (need := []) (v := .agg [.val (.bool r1.1), .val (.bool r1.2.1), .ref 0]) (news := [.row 0 81 2 (List.map en_api_Span r1.2.2)]) rfl rfl rfl Try.call39 (atJ [] [] (fc_law05_night h1) rfl rfl) (.inl (roAll rfl))) rfl trivial rfl rfl ?_
  obtain ⟨r2, h2, h⟩ := bind_inv h
  refine op1 0 rfl (sp_call (avs := [.agg [.val (.bool r1.1), .val (.bool r1.2.1), .ref 0], .val (.int .i64 12)]) (need := [.row 0 81 2 (List.map en_api_Span r1.2.2)]) (v := .tup [.val (.int .i64 r2.1), .val (.int .i64 r2.2)]) (news := []) rfl rfl rfl Try.call15 (atJ [] [] (fc_strike_Blows h2) rfl rfl) (.inr (fun x hx => nomatch hx))) rfl trivial rfl rfl ?_
  refine op0 (sp_move rfl rfl) rfl trivial rfl rfl ?_
  refine op0 (sp_extract rfl rfl rfl) rfl trivial rfl rfl ?_
  refine op0 (sp_extract rfl rfl rfl) rfl trivial rfl rfl ?_
  refine op0 (sp_assign rfl rfl) rfl trivial rfl rfl ?_
  refine op0 (sp_assign rfl rfl) rfl trivial rfl rfl ?_
  refine TL.nil ?_
  refine TC.seq ?_
  refine TC.region ?_
  obtain ⟨r3, h3, h⟩ := bind_inv h
  refine op0 (sp_call (avs := []) (need := []) (v := .agg [.val (.bool r3.1), .val (.bool r3.2.1), .ref 1]) (news := [.row 1 81 2 (List.map en_api_Span r3.2.2)]) rfl rfl rfl Try.call39 (atJ [] [(0, 1)] (fc_law05_night h3) rfl rfl) (.inl (roAll rfl))) rfl trivial rfl rfl ?_
  obtain ⟨r4, h4, h⟩ := bind_inv h
  refine op1 0 rfl (sp_call (avs := [.agg [.val (.bool r3.1), .val (.bool r3.2.1), .ref 1], .val (.int .i64 24)]) (need := [.row 1 81 2 (List.map en_api_Span r3.2.2)]) (v := .tup [.val (.int .i64 r4.1), .val (.int .i64 r4.2)]) (news := []) rfl rfl rfl Try.call15 (atJ [(0, 1)] [] (fc_strike_Blows h4) rfl rfl) (.inr (fun x hx => nomatch hx))) rfl trivial rfl rfl ?_
  refine op0 (sp_move rfl rfl) rfl trivial rfl rfl ?_
  refine op0 (sp_extract rfl rfl rfl) rfl trivial rfl rfl ?_
  refine op0 (sp_extract rfl rfl rfl) rfl trivial rfl rfl ?_
  refine op0 (sp_assign rfl rfl) rfl trivial rfl rfl ?_
  refine op0 (sp_assign rfl rfl) rfl trivial rfl rfl ?_
  refine TL.nil ?_
  refine TC.seq ?_
  refine TC.region ?_
  obtain ⟨r5, h5, h⟩ := bind_inv h
  refine op0 (sp_call (avs := []) (need := []) (v := .agg [.val (.bool r5.1), .val (.bool r5.2.1), .ref 2]) (news := [.row 2 81 2 (List.map en_api_Span r5.2.2)]) rfl rfl rfl Try.call39 (atJ [] [(0, 2)] (fc_law05_night h5) rfl rfl) (.inl (roAll rfl))) rfl trivial rfl rfl ?_
  obtain ⟨r6, h6, h⟩ := bind_inv h
  refine op1 0 rfl (sp_call (avs := [.agg [.val (.bool r5.1), .val (.bool r5.2.1), .ref 2]]) (need := [.row 2 81 2 (List.map en_api_Span r5.2.2)]) (v := .tup [.val (.int .i64 r6.1), .val (.int .i64 r6.2)]) (news := []) rfl rfl rfl Try.call16 (atJ [(0, 2)] [] (fc_strike_Day h6) rfl rfl) (.inr (fun x hx => nomatch hx))) rfl trivial rfl rfl ?_
  refine op0 (sp_move rfl rfl) rfl trivial rfl rfl ?_
  refine op0 (sp_extract rfl rfl rfl) rfl trivial rfl rfl ?_
  refine op0 (sp_extract rfl rfl rfl) rfl trivial rfl rfl ?_
  refine op0 (sp_assign rfl rfl) rfl trivial rfl rfl ?_
  refine op0 (sp_assign rfl rfl) rfl trivial rfl rfl ?_
  refine TL.nil ?_
  refine TC.seq ?_
  refine TC.region ?_
  obtain ⟨r7, h7, h⟩ := bind_inv h
  refine op0 (sp_call (avs := []) (need := []) (v := .agg [.val (.bool r7.1), .val (.bool r7.2.1), .ref 3]) (news := [.row 3 81 2 (List.map en_api_Span r7.2.2)]) rfl rfl rfl Try.call39 (atJ [] [(0, 3)] (fc_law05_night h7) rfl rfl) (.inl (roAll rfl))) rfl trivial rfl rfl ?_
  refine op0 (sp_build (qs := [(0, .val (.int .i64 1)), (1, .val (.int .i64 1))]) rfl bt43 rfl rfl rfl rfl) rfl trivial rfl rfl ?_
  refine op0 (sp_build (qs := [(0, .val (.int .i64 5)), (1, .val (.int .i64 2))]) rfl bt43 rfl rfl rfl rfl) rfl trivial rfl rfl ?_
  refine op0 (sp_buildSlice (qs := [.agg [.val (.int .i64 1), .val (.int .i64 1)], .agg [.val (.int .i64 5), .val (.int .i64 2)]]) (need := []) (els := List.map en_api_StrikeHeard ([(1, 1), (5, 2)] : List (Int × Int))) 4 rfl sl37 (by decide) (by decide) rfl rfl rfl (.v (.v (.v (.v (.nil))))) (map_len fun _ => rfl) rfl rfl rfl) rfl trivial rfl rfl ?_
  obtain ⟨r8, h8, h⟩ := bind_inv h
  refine opN (need := [.row 3 81 2 (List.map en_api_Span r7.2.2), .row 4 43 2 (List.map en_api_StrikeHeard ([(1, 1), (5, 2)] : List (Int × Int)))]) [1, 0] ⟨rfl, rfl, trivial⟩ (sp_call (avs := [.agg [.val (.bool r7.1), .val (.bool r7.2.1), .ref 3], .ref 4]) (need := [.row 3 81 2 (List.map en_api_Span r7.2.2), .row 4 43 2 (List.map en_api_StrikeHeard ([(1, 1), (5, 2)] : List (Int × Int)))]) (v := .tup [.val (.int .i64 r8.1), .ref 5, .val (.int .i64 r8.2.2)]) (news := [.row 5 3 1 (List.map en_int r8.2.1)]) rfl rfl rfl Try.call23 (atJ [(0, 3), (1, 4)] [(0, 5)] (fc_strike_Misses h8) rfl rfl) (.inr (List.forall_mem_cons.2 ⟨indep_map en_int_flat, (by simp)⟩))) rfl trivial rfl rfl ?_
  refine op0 (sp_move rfl rfl) rfl trivial rfl rfl ?_
  refine op0 (sp_extract rfl rfl rfl) rfl trivial rfl rfl ?_
  refine op0 (sp_extract rfl rfl rfl) rfl trivial rfl rfl ?_
  refine op0 (sp_extract rfl rfl rfl) rfl trivial rfl rfl ?_
  refine op0 (sp_assign rfl rfl) rfl trivial rfl rfl ?_
  refine op0 (sp_assign rfl rfl) rfl trivial rfl rfl ?_
  refine op0 (sp_assign rfl rfl) rfl trivial rfl rfl ?_
  refine TL.nil ?_
  refine TC.seq ?_
  refine TC.region ?_
  obtain ⟨r9, h9, h⟩ := bind_inv h
  refine op0 (sp_call (avs := []) (need := []) (v := .agg [.val (.bool r9.1), .val (.bool r9.2.1), .ref 6]) (news := [.row 6 81 2 (List.map en_api_Span r9.2.2)]) rfl rfl rfl Try.call39 (atJ [] [(0, 6)] (fc_law05_night h9) rfl rfl) (.inl (roAll rfl))) rfl trivial rfl rfl ?_
  refine op0 (sp_build (qs := [(0, .val (.int .i64 6)), (1, .val (.int .i64 4))]) rfl bt43 rfl rfl rfl rfl) rfl trivial rfl rfl ?_
  refine op0 (sp_build (qs := [(0, .val (.int .i64 10)), (1, .val (.int .i64 3))]) rfl bt43 rfl rfl rfl rfl) rfl trivial rfl rfl ?_
  refine op0 (sp_buildSlice (qs := [.agg [.val (.int .i64 6), .val (.int .i64 4)], .agg [.val (.int .i64 10), .val (.int .i64 3)]]) (need := []) (els := List.map en_api_StrikeHeard ([(6, 4), (10, 3)] : List (Int × Int))) 7 rfl sl37 (by decide) (by decide) rfl rfl rfl (.v (.v (.v (.v (.nil))))) (map_len fun _ => rfl) rfl rfl rfl) rfl trivial rfl rfl ?_
  obtain ⟨r10, h10, h⟩ := bind_inv h
  refine opN (need := [.row 6 81 2 (List.map en_api_Span r9.2.2), .row 7 43 2 (List.map en_api_StrikeHeard ([(6, 4), (10, 3)] : List (Int × Int)))]) [1, 0] ⟨rfl, rfl, trivial⟩ (sp_call (avs := [.agg [.val (.bool r9.1), .val (.bool r9.2.1), .ref 6], .ref 7]) (need := [.row 6 81 2 (List.map en_api_Span r9.2.2), .row 7 43 2 (List.map en_api_StrikeHeard ([(6, 4), (10, 3)] : List (Int × Int)))]) (v := .tup [.val (.int .i64 r10.1), .ref 8, .val (.int .i64 r10.2.2)]) (news := [.row 8 3 1 (List.map en_int r10.2.1)]) rfl rfl rfl Try.call23 (atJ [(0, 6), (1, 7)] [(0, 8)] (fc_strike_Misses h10) rfl rfl) (.inr (List.forall_mem_cons.2 ⟨indep_map en_int_flat, (by simp)⟩))) rfl trivial rfl rfl ?_
  refine op0 (sp_move rfl rfl) rfl trivial rfl rfl ?_
  refine op0 (sp_extract rfl rfl rfl) rfl trivial rfl rfl ?_
  refine op0 (sp_extract rfl rfl rfl) rfl trivial rfl rfl ?_
  refine op0 (sp_extract rfl rfl rfl) rfl trivial rfl rfl ?_
  refine op0 (sp_assign rfl rfl) rfl trivial rfl rfl ?_
  refine op0 (sp_assign rfl rfl) rfl trivial rfl rfl ?_
  refine op0 (sp_assign rfl rfl) rfl trivial rfl rfl ?_
  refine TL.nil ?_
  refine TC.seq ?_
  refine TC.region ?_
  obtain ⟨r11, h11, h⟩ := bind_inv h
  refine op0 (sp_call (avs := []) (need := []) (v := .agg [.val (.bool r11.1), .val (.bool r11.2.1), .ref 9]) (news := [.row 9 81 2 (List.map en_api_Span r11.2.2)]) rfl rfl rfl Try.call39 (atJ [] [(0, 9)] (fc_law05_night h11) rfl rfl) (.inl (roAll rfl))) rfl trivial rfl rfl ?_
  obtain ⟨r12, h12, h⟩ := bind_inv h
  refine op1 0 rfl (sp_call (avs := [.agg [.val (.bool r11.1), .val (.bool r11.2.1), .ref 9], .val (.int .i64 6), .val (.int .i64 5), .val (.int .i64 7)]) (need := [.row 9 81 2 (List.map en_api_Span r11.2.2)]) (v := .tup [.ref 10, .val (.int .i64 r12.2.1), .val (.int .i64 r12.2.2)]) (news := [.row 10 73 2 (List.map en_api_StrikeStep r12.1)]) rfl rfl rfl Try.call32 (atJ [(0, 9)] [(0, 10)] (fc_strike_Bring h12) rfl rfl) (.inr (List.forall_mem_cons.2 ⟨indep_map en_api_StrikeStep_flat, (by simp)⟩))) rfl trivial rfl rfl ?_
  refine op0 (sp_move rfl rfl) rfl trivial rfl rfl ?_
  refine op0 (sp_extract rfl rfl rfl) rfl trivial rfl rfl ?_
  refine op0 (sp_extract rfl rfl rfl) rfl trivial rfl rfl ?_
  refine op0 (sp_extract rfl rfl rfl) rfl trivial rfl rfl ?_
  refine op0 (sp_assign rfl rfl) rfl trivial rfl rfl ?_
  refine op0 (sp_assign rfl rfl) rfl trivial rfl rfl ?_
  refine op0 (sp_assign rfl rfl) rfl trivial rfl rfl ?_
  refine TL.nil ?_
  refine TC.seq ?_
  refine TC.region ?_
  obtain ⟨r13, h13, h⟩ := bind_inv h
  refine op0 (sp_call (avs := []) (need := []) (v := .agg [.val (.bool r13.1), .val (.bool r13.2.1), .ref 11]) (news := [.row 11 81 2 (List.map en_api_Span r13.2.2)]) rfl rfl rfl Try.call39 (atJ [] [(0, 11)] (fc_law05_night h13) rfl rfl) (.inl (roAll rfl))) rfl trivial rfl rfl ?_
  refine op0 (sp_build (qs := [(1, .val (.bool true))]) rfl bt73 rfl rfl rfl rfl) rfl trivial rfl rfl ?_
  refine op0 (sp_build (qs := [(1, .val (.bool true))]) rfl bt73 rfl rfl rfl rfl) rfl trivial rfl rfl ?_
  refine op0 (sp_buildSlice (qs := [.agg [.val (.int .i64 0), .val (.bool true)], .agg [.val (.int .i64 0), .val (.bool true)]]) (need := []) (els := List.map en_api_StrikeStep ([(0, true), (0, true)] : List (Int × Bool))) 12 rfl sl50 (by decide) (by decide) rfl rfl rfl (.v (.v (.v (.v (.nil))))) (map_len fun _ => rfl) rfl rfl rfl) rfl trivial rfl rfl ?_
  obtain ⟨r14, h14, h⟩ := bind_inv h
  refine opN (need := [.row 11 81 2 (List.map en_api_Span r13.2.2), .row 12 73 2 (List.map en_api_StrikeStep ([(0, true), (0, true)] : List (Int × Bool)))]) [1, 0] ⟨rfl, rfl, trivial⟩ (sp_call (avs := [.agg [.val (.bool r13.1), .val (.bool r13.2.1), .ref 11], .val (.int .i64 7), .val (.int .i64 9), .ref 12]) (need := [.row 11 81 2 (List.map en_api_Span r13.2.2), .row 12 73 2 (List.map en_api_StrikeStep ([(0, true), (0, true)] : List (Int × Bool)))]) (v := .tup [.val (.int .i64 r14.1), .val (.int .i64 r14.2.1), .val (.int .i64 r14.2.2)]) (news := []) rfl rfl rfl Try.call28 (atJ [(0, 11), (1, 12)] [] (fc_strike_Play h14) rfl rfl) (.inr (fun x hx => nomatch hx))) rfl trivial rfl rfl ?_
  refine op0 (sp_move rfl rfl) rfl trivial rfl rfl ?_
  refine op0 (sp_extract rfl rfl rfl) rfl trivial rfl rfl ?_
  refine op0 (sp_extract rfl rfl rfl) rfl trivial rfl rfl ?_
  refine op0 (sp_extract rfl rfl rfl) rfl trivial rfl rfl ?_
  refine op0 (sp_assign rfl rfl) rfl trivial rfl rfl ?_
  refine op0 (sp_assign rfl rfl) rfl trivial rfl rfl ?_
  refine op0 (sp_assign rfl rfl) rfl trivial rfl rfl ?_
  refine TL.nil ?_
  refine TC.seq ?_
  refine TC.seq ?_
  refine TC.region ?_
  refine op0 (sp_move rfl rfl) rfl trivial rfl rfl ?_
  refine op0 (sp_neq rfl rfl rfl) rfl trivial rfl rfl ?_
  refine op0 (sp_move rfl rfl) rfl trivial rfl rfl ?_
  rcases cond_cases h with ⟨h15, h⟩ | ⟨h15, h⟩
  · refine (boolLit 69 rfl h15).2 ?_
    refine opSkip rfl ⟨_, rfl, .inl rfl⟩ rfl ?_
    refine opSkip rfl ⟨_, rfl, .inl rfl⟩ rfl ?_
    refine op0 (sp_pickT rfl rfl rfl) rfl trivial rfl rfl ?_
    refine op0 (sp_move rfl rfl) rfl trivial rfl rfl ?_
    refine opSkip rfl ⟨_, rfl, .inl rfl⟩ rfl ?_
    refine opSkip rfl ⟨_, rfl, .inl rfl⟩ rfl ?_
    refine op0 (sp_pickT rfl rfl rfl) rfl trivial rfl rfl ?_
    refine op0 (sp_move rfl rfl) rfl trivial rfl rfl ?_
    refine opSkip rfl ⟨_, rfl, .inl rfl⟩ rfl ?_
    refine opSkip rfl ⟨_, rfl, .inl rfl⟩ rfl ?_
    refine op0 (sp_pickT rfl rfl rfl) rfl trivial rfl rfl ?_
    refine op0 (sp_move rfl rfl) rfl trivial rfl rfl ?_
    refine opSkip rfl ⟨_, rfl, .inl rfl⟩ rfl ?_
    refine opSkip rfl ⟨_, rfl, .inl rfl⟩ rfl ?_
    refine op0 (sp_pickT rfl rfl rfl) rfl trivial rfl rfl ?_
    refine op0 (sp_move rfl rfl) rfl trivial rfl rfl ?_
    refine opSkip rfl ⟨_, rfl, .inl rfl⟩ rfl ?_
    refine opSkip rfl ⟨_, rfl, .inl rfl⟩ rfl ?_
    refine op0 (sp_pickT rfl rfl rfl) rfl trivial rfl rfl ?_
    refine op0 (sp_move rfl rfl) rfl trivial rfl rfl ?_
    refine opSkip rfl ⟨_, rfl, .inl rfl⟩ rfl ?_
    refine opSkip rfl ⟨_, rfl, .inl rfl⟩ rfl ?_
    refine op0 (sp_pickT rfl rfl rfl) rfl trivial rfl rfl ?_
    refine TL.nil ?_
    refine TC.condT rfl ?_
    refine TC.seq ?_
    refine TC.region ?_
    refine op0 (sp_assign rfl rfl) rfl trivial rfl rfl ?_
    refine TL.nil ?_
    cases h
    exact retJ [] (.tmp rfl .nil) rfl trivial rfl rfl
  · refine (boolLit 69 rfl h15).2 ?_
    refine op0 (sp_move rfl rfl) rfl ⟨_, rfl, rfl⟩ rfl rfl ?_
    refine op0 (sp_neq rfl rfl rfl) rfl ⟨_, rfl, rfl⟩ rfl rfl ?_
    refine op0 (sp_pickF rfl rfl rfl) rfl trivial rfl rfl ?_
    refine op0 (sp_move rfl rfl) rfl trivial rfl rfl ?_
    rcases cond_cases h with ⟨h16, h⟩ | ⟨h16, h⟩
    · refine (boolLit 73 rfl h16).2 ?_
      refine opSkip rfl ⟨_, rfl, .inl rfl⟩ rfl ?_
      refine opSkip rfl ⟨_, rfl, .inl rfl⟩ rfl ?_
      refine op0 (sp_pickT rfl rfl rfl) rfl trivial rfl rfl ?_
      refine op0 (sp_move rfl rfl) rfl trivial rfl rfl ?_
      refine opSkip rfl ⟨_, rfl, .inl rfl⟩ rfl ?_
      refine opSkip rfl ⟨_, rfl, .inl rfl⟩ rfl ?_
      refine op0 (sp_pickT rfl rfl rfl) rfl trivial rfl rfl ?_
      refine op0 (sp_move rfl rfl) rfl trivial rfl rfl ?_
      refine opSkip rfl ⟨_, rfl, .inl rfl⟩ rfl ?_
      refine opSkip rfl ⟨_, rfl, .inl rfl⟩ rfl ?_
      refine op0 (sp_pickT rfl rfl rfl) rfl trivial rfl rfl ?_
      refine op0 (sp_move rfl rfl) rfl trivial rfl rfl ?_
      refine opSkip rfl ⟨_, rfl, .inl rfl⟩ rfl ?_
      refine opSkip rfl ⟨_, rfl, .inl rfl⟩ rfl ?_
      refine op0 (sp_pickT rfl rfl rfl) rfl trivial rfl rfl ?_
      refine op0 (sp_move rfl rfl) rfl trivial rfl rfl ?_
      refine opSkip rfl ⟨_, rfl, .inl rfl⟩ rfl ?_
      refine opSkip rfl ⟨_, rfl, .inl rfl⟩ rfl ?_
      refine op0 (sp_pickT rfl rfl rfl) rfl trivial rfl rfl ?_
      refine TL.nil ?_
      refine TC.condT rfl ?_
      refine TC.seq ?_
      refine TC.region ?_
      refine op0 (sp_assign rfl rfl) rfl trivial rfl rfl ?_
      refine TL.nil ?_
      cases h
      exact retJ [] (.tmp rfl .nil) rfl trivial rfl rfl
    · refine (boolLit 73 rfl h16).2 ?_
      refine op0 (sp_move rfl rfl) rfl ⟨_, rfl, rfl⟩ rfl rfl ?_
      refine op0 (sp_neq rfl rfl rfl) rfl ⟨_, rfl, rfl⟩ rfl rfl ?_
      refine op0 (sp_pickF rfl rfl rfl) rfl trivial rfl rfl ?_
      refine op0 (sp_move rfl rfl) rfl trivial rfl rfl ?_
      rcases cond_cases h with ⟨h17, h⟩ | ⟨h17, h⟩
      · refine (boolLit 77 rfl h17).2 ?_
        refine opSkip rfl ⟨_, rfl, .inl rfl⟩ rfl ?_
        refine opSkip rfl ⟨_, rfl, .inl rfl⟩ rfl ?_
        refine op0 (sp_pickT rfl rfl rfl) rfl trivial rfl rfl ?_
        refine op0 (sp_move rfl rfl) rfl trivial rfl rfl ?_
        refine opSkip rfl ⟨_, rfl, .inl rfl⟩ rfl ?_
        refine opSkip rfl ⟨_, rfl, .inl rfl⟩ rfl ?_
        refine op0 (sp_pickT rfl rfl rfl) rfl trivial rfl rfl ?_
        refine op0 (sp_move rfl rfl) rfl trivial rfl rfl ?_
        refine opSkip rfl ⟨_, rfl, .inl rfl⟩ rfl ?_
        refine opSkip rfl ⟨_, rfl, .inl rfl⟩ rfl ?_
        refine op0 (sp_pickT rfl rfl rfl) rfl trivial rfl rfl ?_
        refine op0 (sp_move rfl rfl) rfl trivial rfl rfl ?_
        refine opSkip rfl ⟨_, rfl, .inl rfl⟩ rfl ?_
        refine opSkip rfl ⟨_, rfl, .inl rfl⟩ rfl ?_
        refine op0 (sp_pickT rfl rfl rfl) rfl trivial rfl rfl ?_
        refine TL.nil ?_
        refine TC.condT rfl ?_
        refine TC.seq ?_
        refine TC.region ?_
        refine op0 (sp_assign rfl rfl) rfl trivial rfl rfl ?_
        refine TL.nil ?_
        cases h
        exact retJ [] (.tmp rfl .nil) rfl trivial rfl rfl
      · refine (boolLit 77 rfl h17).2 ?_
        refine op0 (sp_move rfl rfl) rfl ⟨_, rfl, rfl⟩ rfl rfl ?_
        refine op0 (sp_neq rfl rfl rfl) rfl ⟨_, rfl, rfl⟩ rfl rfl ?_
        refine op0 (sp_pickF rfl rfl rfl) rfl trivial rfl rfl ?_
        refine op0 (sp_move rfl rfl) rfl trivial rfl rfl ?_
        rcases cond_cases h with ⟨h18, h⟩ | ⟨h18, h⟩
        · refine (boolLit 81 rfl h18).2 ?_
          refine opSkip rfl ⟨_, rfl, .inl rfl⟩ rfl ?_
          refine opSkip rfl ⟨_, rfl, .inl rfl⟩ rfl ?_
          refine op0 (sp_pickT rfl rfl rfl) rfl trivial rfl rfl ?_
          refine op0 (sp_move rfl rfl) rfl trivial rfl rfl ?_
          refine opSkip rfl ⟨_, rfl, .inl rfl⟩ rfl ?_
          refine opSkip rfl ⟨_, rfl, .inl rfl⟩ rfl ?_
          refine op0 (sp_pickT rfl rfl rfl) rfl trivial rfl rfl ?_
          refine op0 (sp_move rfl rfl) rfl trivial rfl rfl ?_
          refine opSkip rfl ⟨_, rfl, .inl rfl⟩ rfl ?_
          refine opSkip rfl ⟨_, rfl, .inl rfl⟩ rfl ?_
          refine op0 (sp_pickT rfl rfl rfl) rfl trivial rfl rfl ?_
          refine TL.nil ?_
          refine TC.condT rfl ?_
          refine TC.seq ?_
          refine TC.region ?_
          refine op0 (sp_assign rfl rfl) rfl trivial rfl rfl ?_
          refine TL.nil ?_
          cases h
          exact retJ [] (.tmp rfl .nil) rfl trivial rfl rfl
        · refine (boolLit 81 rfl h18).2 ?_
          refine op0 (sp_move rfl rfl) rfl ⟨_, rfl, rfl⟩ rfl rfl ?_
          refine op0 (sp_neq rfl rfl rfl) rfl ⟨_, rfl, rfl⟩ rfl rfl ?_
          refine op0 (sp_pickF rfl rfl rfl) rfl trivial rfl rfl ?_
          refine op0 (sp_move rfl rfl) rfl trivial rfl rfl ?_
          rcases cond_cases h with ⟨h19, h⟩ | ⟨h19, h⟩
          · refine (boolLit 85 rfl h19).2 ?_
            refine opSkip rfl ⟨_, rfl, .inl rfl⟩ rfl ?_
            refine opSkip rfl ⟨_, rfl, .inl rfl⟩ rfl ?_
            refine op0 (sp_pickT rfl rfl rfl) rfl trivial rfl rfl ?_
            refine op0 (sp_move rfl rfl) rfl trivial rfl rfl ?_
            refine opSkip rfl ⟨_, rfl, .inl rfl⟩ rfl ?_
            refine opSkip rfl ⟨_, rfl, .inl rfl⟩ rfl ?_
            refine op0 (sp_pickT rfl rfl rfl) rfl trivial rfl rfl ?_
            refine TL.nil ?_
            refine TC.condT rfl ?_
            refine TC.seq ?_
            refine TC.region ?_
            refine op0 (sp_assign rfl rfl) rfl trivial rfl rfl ?_
            refine TL.nil ?_
            cases h
            exact retJ [] (.tmp rfl .nil) rfl trivial rfl rfl
          · refine (boolLit 85 rfl h19).2 ?_
            refine op0 (sp_move rfl rfl) rfl ⟨_, rfl, rfl⟩ rfl rfl ?_
            refine op0 (sp_neq rfl rfl rfl) rfl ⟨_, rfl, rfl⟩ rfl rfl ?_
            refine op0 (sp_pickF rfl rfl rfl) rfl trivial rfl rfl ?_
            refine op0 (sp_move rfl rfl) rfl trivial rfl rfl ?_
            rcases cond_cases h with ⟨h20, h⟩ | ⟨h20, h⟩
            · refine (boolLit 89 rfl h20).2 ?_
              refine opSkip rfl ⟨_, rfl, .inl rfl⟩ rfl ?_
              refine opSkip rfl ⟨_, rfl, .inl rfl⟩ rfl ?_
              refine op0 (sp_pickT rfl rfl rfl) rfl trivial rfl rfl ?_
              refine TL.nil ?_
              refine TC.condT rfl ?_
              refine TC.seq ?_
              refine TC.region ?_
              refine op0 (sp_assign rfl rfl) rfl trivial rfl rfl ?_
              refine TL.nil ?_
              cases h
              exact retJ [] (.tmp rfl .nil) rfl trivial rfl rfl
            · refine (boolLit 89 rfl h20).2 ?_
              refine op0 (sp_move rfl rfl) rfl ⟨_, rfl, rfl⟩ rfl rfl ?_
              refine op0 (sp_neq rfl rfl rfl) rfl ⟨_, rfl, rfl⟩ rfl rfl ?_
              refine op0 (sp_pickF rfl rfl rfl) rfl trivial rfl rfl ?_
              refine TL.nil ?_
              refine TC.cond (b := (r14.2.2 != 0)) rfl (fun h21 => ?_) (fun h21 => ?_)
              · have h := cond_t h h21
                refine TC.seq ?_
                refine TC.region ?_
                refine op0 (sp_assign rfl rfl) rfl trivial rfl rfl ?_
                refine TL.nil ?_
                cases h
                exact retJ [] (.tmp rfl .nil) rfl trivial rfl rfl
              · have h := cond_f h h21
                refine subJ [] (ok_law05_known_j0 h) ?_ ?_ ?_
                · exact ⟨rfl, rfl, rfl, rfl, rfl, rfl, rfl, rfl, rfl, trivial⟩
                · exact ⟨mem_at 7 rfl, mem_at 2 rfl, trivial⟩
                · rfl
/- law05_quiet -/
def ev_law05_quiet_l0 (n : Nat) (a1 : List (Int × Int)) (b2 : List (Int × Int)) : Nat → Int → Option Bool
  | 0, _ => none
  | m + 1, i3 => cond (decide (i3 < (a1.length : Int))) (idx a1 i3 fun x4 => idx b2 i3 fun x5 => cond (!((x4.1 == x5.1) && (x4.2 == x5.2))) (some false) (chk (in64 (i3 + 1)) <| ev_law05_quiet_l0 n a1 b2 m (i3 + 1))) (some true)
set_option maxRecDepth 100000 in
set_option maxHeartbeats 2000000 in
theorem ok_law05_quiet_l0 {n : Nat} {w0 : World} {R0 : Nat → Prop} {env0 : Env} {r : Bool} {a1 : List (Int × Int)} {b2 : List (Int × Int)} : ∀ (m : Nat) (i3 : Int), ev_law05_quiet_l0 n a1 b2 m i3 = some r → TC Try.prog ⟨w0, fun _ => False, R0⟩ 26 (bodyPost Try.prog Try.f18 (Post ⟨w0, fun _ => False, R0⟩ env0 (.val (.bool r)) [])) [.code (sub (bodyOf Try.f18) [1, 1, 0, 1, 0, 0, 0, 0]), .code (sub (bodyOf Try.f18) [1, 1, 0, 1, 0, 0, 0, 1]), .code (sub (bodyOf Try.f18) [1, 1, 0, 1, 0, 0, 1]), .inLoop (sub (bodyOf Try.f18) [1, 1, 0, 1, 0, 0]), .inBlock 0, .code (sub (bodyOf Try.f18) [1, 1, 1])] ([(0, .ref 0), (1, .ref 1), (5, .val (.int .i64 i3))]) ([.ro 0 2 (List.map en_api_Span a1), .ro 1 2 (List.map en_api_Span b2)]) := by
  intro m
  induction m with
  | zero => intro i3 h; exact none_no h
  | succ m ih =>
    intro i3 h
    rw [ev_law05_quiet_l0] at h
    refine TC.region ?_
    refine op0 (sp_move rfl rfl) rfl trivial rfl rfl ?_
    refine op0 (sp_move rfl rfl) rfl trivial rfl rfl ?_
    refine op1 0 rfl (sp_lenM (N := a1.length) (len_map _ _) rfl rfl isRo Try.underlying22) rfl trivial rfl rfl ?_
    refine op0 (sp_lss rfl rfl rfl) rfl trivial rfl rfl ?_
    refine TL.nil ?_
    refine TC.cond (b := (decide (i3 < (a1.length : Int)))) rfl (fun h2 => ?_) (fun h2 => ?_)
    · have h := cond_t h h2
      refine TC.skip ?_
      refine TC.seq ?_
      refine TC.block ?_
      refine TC.seq ?_
      obtain ⟨x4, h3, h4, h⟩ := idx_inv h
      obtain ⟨x5, h5, h6, h⟩ := idx_inv h
      refine drawJ 8 [⟨.ref 0, [], [], []⟩, ⟨.val (.int .i64 i3), [], [], []⟩, ⟨.cell 0 ((i3 : Int).toNat * 2), [], [.ro 0 2 (List.map en_api_Span a1)], []⟩, ⟨.agg [.val (.int .i64 x4.1), .val (.int .i64 x4.2)], [], [.ro 0 2 (List.map en_api_Span a1)], []⟩, ⟨.ref 1, [], [], []⟩, ⟨.val (.int .i64 i3), [], [], []⟩, ⟨.cell 1 ((i3 : Int).toNat * 2), [], [.ro 1 2 (List.map en_api_Span b2)], []⟩, ⟨.agg [.val (.int .i64 x5.1), .val (.int .i64 x5.2)], [], [.ro 1 2 (List.map en_api_Span b2)], []⟩] rfl ?_ rfl ?_ rfl ?_ ?_
      · kernel_rfl
      · kernel_rfl
      · exact DAll.op' (sp_move rfl rfl) trivial rfl (From.ok (ps := []) trivial) (DAll.op' (sp_move rfl rfl) trivial rfl (From.ok (ps := []) trivial) (DAll.op' (sp_indexS rfl rfl rfl isRo sl22 h3 (map_get _ h4)) trivial rfl (From.ok (ps := [(none, 0)]) ⟨⟨rfl, rfl⟩, trivial⟩) (DAll.op' (sp_loadRA (i := (i3 : Int).toNat) (j := 0) (as_ := [.val (.int .i64 x4.1), .val (.int .i64 x4.2)]) (ns := []) rfl rfl isRo vt81 rfl (map_get _ h4) rfl rfl (by decide) (.v (.v (.nil))) (nodup_of_B rfl)) trivial rfl (From.ok (ps := [(none, 0)]) ⟨⟨rfl, rfl⟩, trivial⟩) (DAll.op' (sp_move rfl rfl) trivial rfl (From.ok (ps := []) trivial) (DAll.op' (sp_move rfl rfl) trivial rfl (From.ok (ps := []) trivial) (DAll.op' (sp_indexS rfl rfl rfl isRo sl22 h5 (map_get _ h6)) trivial rfl (From.ok (ps := [(none, 1)]) ⟨⟨rfl, rfl⟩, trivial⟩) (DAll.op' (sp_loadRA (i := (i3 : Int).toNat) (j := 0) (as_ := [.val (.int .i64 x5.1), .val (.int .i64 x5.2)]) (ns := []) rfl rfl isRo vt81 rfl (map_get _ h6) rfl rfl (by decide) (.v (.v (.nil))) (nodup_of_B rfl)) trivial rfl (From.ok (ps := [(none, 1)]) ⟨⟨rfl, rfl⟩, trivial⟩) (.nil))))))))
      refine op0 (sp_neqS rfl rfl rfl rfl rfl (eq81 _ _ _ _)) rfl trivial rfl rfl ?_
      refine TL.nil ?_
      refine TC.cond (b := (!((x4.1 == x5.1) && (x4.2 == x5.2)))) rfl (fun h7 => ?_) (fun h7 => ?_)
      · have h := cond_t h h7
        refine TC.seq ?_
        refine TC.region ?_
        refine op0 (sp_assign rfl rfl) rfl trivial rfl rfl ?_
        refine TL.nil ?_
        cases h
        exact retJ [] (.tmp rfl .nil) rfl trivial rfl rfl
      · have h := cond_f h h7
        refine TC.skip ?_
        refine TC.inBlock ?_
        refine TC.region ?_
        refine op0 (sp_move rfl rfl) rfl trivial rfl rfl ?_
        obtain ⟨h8, h⟩ := chk_inv h
        refine op0 (sp_add rfl rfl rfl h8) rfl trivial rfl rfl ?_
        refine op0 (sp_assign rfl rfl) rfl trivial rfl rfl ?_
        refine TL.nil ?_
        refine TC.inLoop ?_
        refine TC.seq ?_
        refine TC.seq ?_
        refine subJ [] (ih _ h) ?_ ?_ ?_
        · exact ⟨rfl, rfl, rfl, trivial⟩
        · exact ⟨mem_at 0 rfl, mem_at 1 rfl, trivial⟩
        · rfl
    · have h := cond_f h h2
      refine TC.exit rfl ?_
      refine TC.seq ?_
      refine TC.region ?_
      refine op0 (sp_assign rfl rfl) rfl trivial rfl rfl ?_
      refine TL.nil ?_
      cases h
      exact retJ [] (.tmp rfl .nil) rfl trivial rfl rfl
def ev_law05_quiet (n : Nat) (a1 : List (Int × Int)) (b2 : List (Int × Int)) : Option Bool :=
  cond ((a1.length : Int) != (b2.length : Int)) (some false) (ev_law05_quiet_l0 n a1 b2 n 0)
set_option maxRecDepth 100000 in
set_option maxHeartbeats 2000000 in
theorem fc_law05_quiet {n : Nat} {a1 : List (Int × Int)} {b2 : List (Int × Int)} {r : Bool} (h : ev_law05_quiet n a1 b2 = some r) : FC Try.prog 18 [.ref 0, .ref 1] [.ro 0 2 (List.map en_api_Span a1), .ro 1 2 (List.map en_api_Span b2)] (.val (.bool r)) [] := by
  refine introJ (nz := 26) Try.func18 rfl rfl rfl (fun w0 R0 env0 => ?_)
  rw [ev_law05_quiet] at h
  refine TC.seq ?_
  refine TC.region ?_
  refine op0 (sp_assign rfl rfl) rfl trivial rfl rfl ?_
  refine TL.nil ?_
  refine TC.seq ?_
  refine TC.seq ?_
  refine TC.region ?_
  refine op0 (sp_move rfl rfl) rfl trivial rfl rfl ?_
  refine op1 0 rfl (sp_lenM (N := a1.length) (len_map _ _) rfl rfl isRo Try.underlying22) rfl trivial rfl rfl ?_
  refine op0 (sp_move rfl rfl) rfl trivial rfl rfl ?_
  refine op1 1 rfl (sp_lenM (N := b2.length) (len_map _ _) rfl rfl isRo Try.underlying22) rfl trivial rfl rfl ?_
  refine op0 (sp_neq rfl rfl rfl) rfl trivial rfl rfl ?_
  refine TL.nil ?_
  refine TC.cond (b := ((a1.length : Int) != (b2.length : Int))) rfl (fun h1 => ?_) (fun h1 => ?_)
  · have h := cond_t h h1
    refine TC.seq ?_
    refine TC.region ?_
    refine op0 (sp_assign rfl rfl) rfl trivial rfl rfl ?_
    refine TL.nil ?_
    cases h
    exact retJ [] (.tmp rfl .nil) rfl trivial rfl rfl
  · have h := cond_f h h1
    refine TC.skip ?_
    refine TC.seq ?_
    refine TC.seq ?_
    refine TC.region ?_
    refine op0 (sp_assign rfl rfl) rfl trivial rfl rfl ?_
    refine TL.nil ?_
    refine TC.block ?_
    refine TC.loop ?_
    refine TC.seq ?_
    refine TC.seq ?_
    refine subJ [] (ok_law05_quiet_l0 _ _ h) ?_ ?_ ?_
    · exact ⟨rfl, rfl, rfl, trivial⟩
    · exact ⟨mem_at 0 rfl, mem_at 1 rfl, trivial⟩
    · rfl
/- law05_steps -/
def ev_law05_steps (n : Nat) (l1 : List (Int × Bool)) : Option ((List (Int × Bool))) :=
  chk (room 16 (([] : List (Int × Bool)).length + l1.length)) <| some (([] : List (Int × Bool)) ++ l1)
set_option maxRecDepth 100000 in
set_option maxHeartbeats 2000000 in
theorem fc_law05_steps {n : Nat} {l1 : List (Int × Bool)} {r : (List (Int × Bool))} (h : ev_law05_steps n l1 = some r) : FC Try.prog 27 [.ref 0] [.ro 0 2 (List.map en_api_StrikeStep l1)] (.ref 0) [.row 0 73 2 (List.map en_api_StrikeStep r)] := by
  refine introJ (nz := 6) Try.func27 rfl rfl rfl (fun w0 R0 env0 => ?_)
  rw [ev_law05_steps] at h
  refine TC.seq ?_
  refine TC.region ?_
  refine op0 (sp_assign rfl rfl) rfl trivial rfl rfl ?_
  refine TL.nil ?_
  refine TC.seq ?_
  refine TC.region ?_
  refine op0 (sp_emptyM 1 (List.map en_api_StrikeStep []) rfl rfl sl50) rfl trivial rfl rfl ?_
  refine op0 (sp_move rfl rfl) rfl trivial rfl rfl ?_
  obtain ⟨h1, h⟩ := chk_inv h
  refine appM 0 1 (N := ([] : List (Int × Bool)).length) (N2 := l1.length) 2 rfl rfl trivial rfl rfl rfl rfl rfl isRo rfl sl50 (len_map _ _) (len_map _ _) h1 (map_app _ _ _) rfl ?_
  refine op0 (sp_assign rfl rfl) rfl trivial rfl rfl ?_
  refine TL.nil ?_
  cases h
  exact retJ [(0, 2)] (.tmp rfl .nil) rfl ⟨mem_at 0 rfl, trivial⟩ rfl rfl
/- law05_byteOf -/
def ev_law05_byteOf (n : Nat) (l1 : List Int) (i2 : Int) : Option Int :=
  cond ((l1.length : Int) == 0) (some 0) (chk ((l1.length : Int) != 0) <| idx l1 (Int.tmod i2 (l1.length : Int)) fun x3 => chk (in64 x3) <| some x3)
set_option maxRecDepth 100000 in
set_option maxHeartbeats 2000000 in
theorem fc_law05_byteOf {n : Nat} {l1 : List Int} {i2 : Int} {r : Int} (h : ev_law05_byteOf n l1 i2 = some r) : FC Try.prog 35 [.ref 0, .val (.int .i64 i2)] [.ro 0 1 (List.map en_uint8 l1)] (.val (.int .i64 r)) [] := by
  refine introJ (nz := 16) Try.func35 rfl rfl rfl (fun w0 R0 env0 => ?_)
  rw [ev_law05_byteOf] at h
  refine TC.seq ?_
  refine TC.region ?_
  refine op0 (sp_assign rfl rfl) rfl trivial rfl rfl ?_
  refine TL.nil ?_
  refine TC.seq ?_
  refine TC.seq ?_
  refine TC.region ?_
  refine op0 (sp_move rfl rfl) rfl trivial rfl rfl ?_
  refine op1 0 rfl (sp_lenM (N := l1.length) (len_map _ _) rfl rfl isRo Try.underlying65) rfl trivial rfl rfl ?_
  refine op0 (sp_eql rfl rfl rfl) rfl trivial rfl rfl ?_
  refine TL.nil ?_
  refine TC.cond (b := ((l1.length : Int) == 0)) rfl (fun h1 => ?_) (fun h1 => ?_)
  · have h := cond_t h h1
    refine TC.seq ?_
    refine TC.region ?_
    refine op0 (sp_assign rfl rfl) rfl trivial rfl rfl ?_
    refine TL.nil ?_
    cases h
    exact retJ [] (.tmp rfl .nil) rfl trivial rfl rfl
  · have h := cond_f h h1
    refine TC.skip ?_
    refine TC.seq ?_
    refine TC.region ?_
    refine op0 (sp_move rfl rfl) rfl trivial rfl rfl ?_
    refine op0 (sp_move rfl rfl) rfl trivial rfl rfl ?_
    refine op0 (sp_move rfl rfl) rfl trivial rfl rfl ?_
    refine op1 0 rfl (sp_lenM (N := l1.length) (len_map _ _) rfl rfl isRo Try.underlying65) rfl trivial rfl rfl ?_
    obtain ⟨h2, h⟩ := chk_inv h
    refine op0 (sp_rem rfl rfl rfl h2) rfl trivial rfl rfl ?_
    obtain ⟨x3, h3, h4, h⟩ := idx_inv h
    refine op1 0 rfl (sp_indexS rfl rfl rfl isRo sl65 h3 (map_get _ h4)) rfl trivial rfl rfl ?_
    refine op1 0 rfl (sp_loadR (i := ((Int.tmod i2 (l1.length : Int)) : Int).toNat) (j := 0) rfl rfl isRo vt5 rfl (map_get _ h4) rfl (.v (.nil)) (nodup_of_B rfl)) rfl trivial rfl rfl ?_
    obtain ⟨h5, h⟩ := chk_inv h
    refine op0 (sp_conv rfl Try.underlying5 Try.underlying3 rfl h5) rfl trivial rfl rfl ?_
    refine op0 (sp_assign rfl rfl) rfl trivial rfl rfl ?_
    refine TL.nil ?_
    cases h
    exact retJ [] (.tmp rfl .nil) rfl trivial rfl rfl
/- law05_Wheel_blows -/
def ev_law05_Wheel_blows (n : Nat) (w1 : Bool) (w2 : Int) (w3 : Int) (place4 : Int) : Option Int :=
  cond w1 (cond ((Int.tmod place4 2) == 1) (some 1) (chk (in64 (Int.tdiv place4 2)) <| cond ((Int.tdiv place4 2) == 0) (some 12) (some (Int.tdiv place4 2)))) (cond (place4 == 0) (some 12) (some place4))
set_option maxRecDepth 100000 in
set_option maxHeartbeats 2000000 in
theorem fc_law05_Wheel_blows {n : Nat} {w1 : Bool} {w2 : Int} {w3 : Int} {place4 : Int} {r : Int} (h : ev_law05_Wheel_blows n w1 w2 w3 place4 = some r) : FC Try.prog 36 [.agg [.val (.bool w1), .val (.int .u8 w2), .val (.int .u8 w3)], .val (.int .i64 place4)] [] (.val (.int .i64 r)) [] := by
  refine introJ (nz := 15) Try.func36 rfl rfl rfl (fun w0 R0 env0 => ?_)
  rw [ev_law05_Wheel_blows] at h
  refine TC.seq ?_
  refine TC.region ?_
  refine op0 (sp_box 0 rfl rfl rfl rfl rfl) rfl trivial rfl rfl ?_
  refine op0 (sp_assign rfl rfl) rfl trivial rfl rfl ?_
  refine TL.nil ?_
  refine TC.seq ?_
  refine TC.seq ?_
  refine TC.region ?_
  refine op1 0 rfl (sp_fieldAddrB rfl isBlk rfl ft64_0 vt4 (by decide)) rfl trivial rfl rfl ?_
  refine op1 0 rfl (sp_loadB rfl isBlk rfl vt4 rfl) rfl trivial rfl rfl ?_
  refine TL.nil ?_
  refine TC.cond (b := w1) rfl (fun h1 => ?_) (fun h1 => ?_)
  · have h := cond_t h h1
    refine TC.seq ?_
    refine TC.seq ?_
    refine TC.region ?_
    refine op0 (sp_move rfl rfl) rfl trivial rfl rfl ?_
    refine op0 (sp_rem rfl rfl rfl (by decide)) rfl trivial rfl rfl ?_
    refine op0 (sp_eql rfl rfl rfl) rfl trivial rfl rfl ?_
    refine TL.nil ?_
    refine TC.cond (b := ((Int.tmod place4 2) == 1)) rfl (fun h2 => ?_) (fun h2 => ?_)
    · have h := cond_t h h2
      refine TC.seq ?_
      refine TC.region ?_
      refine op0 (sp_assign rfl rfl) rfl trivial rfl rfl ?_
      refine TL.nil ?_
      cases h
      exact retJ [] (.tmp rfl .nil) rfl trivial rfl rfl
    · have h := cond_f h h2
      refine TC.skip ?_
      refine TC.region ?_
      refine op0 (sp_move rfl rfl) rfl trivial rfl rfl ?_
      obtain ⟨h3, h⟩ := chk_inv h
      refine op0 (sp_quo rfl rfl rfl (by decide) h3) rfl trivial rfl rfl ?_
      refine op0 (sp_assign rfl rfl) rfl trivial rfl rfl ?_
      refine TL.nil ?_
      refine TC.seq ?_
      refine TC.seq ?_
      refine TC.region ?_
      refine op0 (sp_move rfl rfl) rfl trivial rfl rfl ?_
      refine op0 (sp_eql rfl rfl rfl) rfl trivial rfl rfl ?_
      refine TL.nil ?_
      refine TC.cond (b := ((Int.tdiv place4 2) == 0)) rfl (fun h4 => ?_) (fun h4 => ?_)
      · have h := cond_t h h4
        refine TC.seq ?_
        refine TC.region ?_
        refine op0 (sp_assign rfl rfl) rfl trivial rfl rfl ?_
        refine TL.nil ?_
        cases h
        exact retJ [] (.tmp rfl .nil) rfl trivial rfl rfl
      · have h := cond_f h h4
        refine TC.skip ?_
        refine TC.seq ?_
        refine TC.region ?_
        refine op0 (sp_move rfl rfl) rfl trivial rfl rfl ?_
        refine op0 (sp_assign rfl rfl) rfl trivial rfl rfl ?_
        refine TL.nil ?_
        cases h
        exact retJ [] (.tmp rfl .nil) rfl trivial rfl rfl
  · have h := cond_f h h1
    refine TC.skip ?_
    refine TC.seq ?_
    refine TC.seq ?_
    refine TC.region ?_
    refine op0 (sp_move rfl rfl) rfl trivial rfl rfl ?_
    refine op0 (sp_eql rfl rfl rfl) rfl trivial rfl rfl ?_
    refine TL.nil ?_
    refine TC.cond (b := (place4 == 0)) rfl (fun h5 => ?_) (fun h5 => ?_)
    · have h := cond_t h h5
      refine TC.seq ?_
      refine TC.region ?_
      refine op0 (sp_assign rfl rfl) rfl trivial rfl rfl ?_
      refine TL.nil ?_
      cases h
      exact retJ [] (.tmp rfl .nil) rfl trivial rfl rfl
    · have h := cond_f h h5
      refine TC.skip ?_
      refine TC.seq ?_
      refine TC.region ?_
      refine op0 (sp_move rfl rfl) rfl trivial rfl rfl ?_
      refine op0 (sp_assign rfl rfl) rfl trivial rfl rfl ?_
      refine TL.nil ?_
      cases h
      exact retJ [] (.tmp rfl .nil) rfl trivial rfl rfl
/- law05_heard -/
def ev_law05_heard (n : Nat) (l1 : List (Int × Int)) : Option ((List (Int × Int))) :=
  chk (room 16 (([] : List (Int × Int)).length + l1.length)) <| some (([] : List (Int × Int)) ++ l1)
set_option maxRecDepth 100000 in
set_option maxHeartbeats 2000000 in
theorem fc_law05_heard {n : Nat} {l1 : List (Int × Int)} {r : (List (Int × Int))} (h : ev_law05_heard n l1 = some r) : FC Try.prog 22 [.ref 0] [.ro 0 2 (List.map en_api_StrikeHeard l1)] (.ref 0) [.row 0 43 2 (List.map en_api_StrikeHeard r)] := by
  refine introJ (nz := 6) Try.func22 rfl rfl rfl (fun w0 R0 env0 => ?_)
  rw [ev_law05_heard] at h
  refine TC.seq ?_
  refine TC.region ?_
  refine op0 (sp_assign rfl rfl) rfl trivial rfl rfl ?_
  refine TL.nil ?_
  refine TC.seq ?_
  refine TC.region ?_
  refine op0 (sp_emptyM 1 (List.map en_api_StrikeHeard []) rfl rfl sl37) rfl trivial rfl rfl ?_
  refine op0 (sp_move rfl rfl) rfl trivial rfl rfl ?_
  obtain ⟨h1, h⟩ := chk_inv h
  refine appM 0 1 (N := ([] : List (Int × Int)).length) (N2 := l1.length) 2 rfl rfl trivial rfl rfl rfl rfl rfl isRo rfl sl37 (len_map _ _) (len_map _ _) h1 (map_app _ _ _) rfl ?_
  refine op0 (sp_assign rfl rfl) rfl trivial rfl rfl ?_
  refine TL.nil ?_
  cases h
  exact retJ [(0, 2)] (.tmp rfl .nil) rfl ⟨mem_at 0 rfl, trivial⟩ rfl rfl
end
end Go.Proofs.Ytglgkcfgjaoabaa.Sy
