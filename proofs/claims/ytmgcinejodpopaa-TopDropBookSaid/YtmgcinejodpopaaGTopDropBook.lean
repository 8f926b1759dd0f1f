/- What functions of the program compute, and that they do: printed by symgen.py. -/
import Derived.Test.YtmgcinejodpopaaGLib
import Derived.Test.YtmgcinejodpopaaGBook
import Derived.Test.YtmgcinejodpopaaGDrop
set_option linter.unusedSimpArgs false
set_option linter.unusedVariables false
namespace Go.Proofs.Ytmgcinejodpopaa.Sy
open Go.RowKit
noncomputable section

/- top_TopDropBook -/
def ev_top_TopDropBook_l2 (n : Nat) (r5 : Int × Int × Int) (r6 : (List Int) × Int) : Nat → Int → Option Bool
  | 0, _ => none
  | m + 1, i7 => cond (decide (i7 < 150)) (chk (in64 ((24 : Int) * i7)) <| cond (decide (r5.1 < ((24 : Int) * i7))) (chk (in64 ((Int.tmod r5.1 12) * 1000)) <| chk (in64 (((Int.tmod r5.1 12) * 1000) * 3600)) <| idx r6.1 i7 fun x8 => cond (x8 != (((Int.tmod r5.1 12) * 1000) * 3600)) (some false) (chk (in64 (i7 + 1)) <| ev_top_TopDropBook_l2 n r5 r6 m (i7 + 1))) (idx r6.1 i7 fun x9 => cond (x9 != 0) (some false) (chk (in64 (i7 + 1)) <| ev_top_TopDropBook_l2 n r5 r6 m (i7 + 1)))) ((ev_top_pubDrop n).bind fun r10 => cond r10 ((ev_top_pubBook n).bind fun r11 => some r11) (some false))
set_option maxRecDepth 100000 in
set_option maxHeartbeats 2000000 in
theorem ok_top_TopDropBook_l2 {n : Nat} {w0 : World} {R0 : Nat → Prop} {env0 : Env} {r : Bool} {r5 : Int × Int × Int} {r6 : (List Int) × Int} : ∀ (m : Nat) (i7 : Int), ev_top_TopDropBook_l2 n r5 r6 m i7 = some r → TC Try.prog ⟨w0, fun _ => False, R0⟩ 94 (bodyPost Try.prog Try.f3 (Post ⟨w0, fun _ => False, R0⟩ env0 (.val (.bool r)) [])) [.code (sub (bodyOf Try.f3) [1, 1, 1, 1, 1, 1, 1, 1, 0, 1, 0, 0, 0, 0]), .code (sub (bodyOf Try.f3) [1, 1, 1, 1, 1, 1, 1, 1, 0, 1, 0, 0, 0, 1]), .code (sub (bodyOf Try.f3) [1, 1, 1, 1, 1, 1, 1, 1, 0, 1, 0, 0, 1]), .inLoop (sub (bodyOf Try.f3) [1, 1, 1, 1, 1, 1, 1, 1, 0, 1, 0, 0]), .inBlock 0, .code (sub (bodyOf Try.f3) [1, 1, 1, 1, 1, 1, 1, 1, 1])] ([(7, .ptr 2 0), (10, .ref 4), (12, .val (.int .i64 i7))]) ([.blk 2 [.val (.int .i64 r5.1), .val (.int .i64 r5.2.1)] 26, .row 4 3 1 (List.map en_int r6.1)]) := by
  intro m
  induction m with
  | zero => intro i7 h; exact none_no h
  | succ m ih =>
    intro i7 h
    rw [ev_top_TopDropBook_l2] at h
    refine TC.region ?_
    refine op0 (sp_move rfl rfl) rfl trivial rfl rfl ?_
    refine op0 (sp_lss rfl rfl rfl) rfl trivial rfl rfl ?_
    refine TL.nil ?_
    refine TC.cond (b := (decide (i7 < 150))) rfl (fun h17 => ?_) (fun h17 => ?_)
    · have h := cond_t h h17
      refine TC.skip ?_
      refine TC.seq ?_
      refine TC.block ?_
      refine TC.seq ?_
      refine TC.region ?_
      refine op0 (sp_assign rfl rfl) rfl trivial rfl rfl ?_
      refine TL.nil ?_
      refine TC.seq ?_
      refine TC.seq ?_
      refine TC.region ?_
      refine op0 (sp_move rfl rfl) rfl trivial rfl rfl ?_
      obtain ⟨h18, h⟩ := chk_inv h
      refine op0 (sp_mul rfl rfl rfl h18) rfl trivial rfl rfl ?_
      refine op1 0 rfl (sp_fieldAddrB rfl isBlk rfl ft26_0 vt3 (by decide)) rfl trivial rfl rfl ?_
      refine op1 0 rfl (sp_loadB rfl isBlk rfl vt3 rfl) rfl trivial rfl rfl ?_
      refine op0 (sp_gtr rfl rfl rfl) rfl trivial rfl rfl ?_
      refine TL.nil ?_
      refine TC.cond (b := (decide (r5.1 < ((24 : Int) * i7)))) rfl (fun h19 => ?_) (fun h19 => ?_)
      · have h := cond_t h h19
        refine TC.region ?_
        refine op1 0 rfl (sp_fieldAddrB rfl isBlk rfl ft26_0 vt3 (by decide)) rfl trivial rfl rfl ?_
        refine op1 0 rfl (sp_loadB rfl isBlk rfl vt3 rfl) rfl trivial rfl rfl ?_
        refine op0 (sp_rem rfl rfl rfl (by decide)) rfl trivial rfl rfl ?_
        obtain ⟨h20, h⟩ := chk_inv h
        refine op0 (sp_mul rfl rfl rfl h20) rfl trivial rfl rfl ?_
        obtain ⟨h21, h⟩ := chk_inv h
        refine op0 (sp_mul rfl rfl rfl h21) rfl trivial rfl rfl ?_
        refine op0 (sp_assign rfl rfl) rfl trivial rfl rfl ?_
        refine TL.nil ?_
        refine TC.seq ?_
        refine TC.region ?_
        refine op0 (sp_move rfl rfl) rfl trivial rfl rfl ?_
        refine op0 (sp_move rfl rfl) rfl trivial rfl rfl ?_
        obtain ⟨x8, h22, h23, h⟩ := idx_inv h
        refine op1 1 rfl (sp_indexS rfl rfl rfl isOwn sl37 h22 (map_get _ h23)) rfl trivial rfl rfl ?_
        refine op1 1 rfl (sp_loadR (i := (i7 : Int).toNat) (j := 0) rfl rfl isOwn vt3 rfl (map_get _ h23) rfl (.v (.nil)) (nodup_of_B rfl)) rfl trivial rfl rfl ?_
        refine op0 (sp_move rfl rfl) rfl trivial rfl rfl ?_
        refine op0 (sp_neq rfl rfl rfl) rfl trivial rfl rfl ?_
        refine TL.nil ?_
        refine TC.cond (b := (x8 != (((Int.tmod r5.1 12) * 1000) * 3600))) rfl (fun h24 => ?_) (fun h24 => ?_)
        · have h := cond_t h h24
          refine TC.seq ?_
          refine TC.region ?_
          refine op0 (sp_assign rfl rfl) rfl trivial rfl rfl ?_
          refine TL.nil ?_
          cases h
          exact retJ [] (.tmp rfl .nil) rfl trivial rfl rfl
        · have h := cond_f h h24
          refine TC.skip ?_
          refine TC.inBlock ?_
          refine TC.region ?_
          refine op0 (sp_move rfl rfl) rfl trivial rfl rfl ?_
          obtain ⟨h25, h⟩ := chk_inv h
          refine op0 (sp_add rfl rfl rfl h25) rfl trivial rfl rfl ?_
          refine op0 (sp_assign rfl rfl) rfl trivial rfl rfl ?_
          refine TL.nil ?_
          refine TC.inLoop ?_
          refine TC.seq ?_
          refine TC.seq ?_
          refine subJ [] (ih _ h) ?_ ?_ ?_
          · exact ⟨rfl, rfl, rfl, trivial⟩
          · exact ⟨mem_at 0 rfl, mem_at 1 rfl, trivial⟩
          · rfl
      · have h := cond_f h h19
        refine TC.skip ?_
        refine TC.seq ?_
        refine TC.region ?_
        refine op0 (sp_move rfl rfl) rfl trivial rfl rfl ?_
        refine op0 (sp_move rfl rfl) rfl trivial rfl rfl ?_
        obtain ⟨x9, h26, h27, h⟩ := idx_inv h
        refine op1 1 rfl (sp_indexS rfl rfl rfl isOwn sl37 h26 (map_get _ h27)) rfl trivial rfl rfl ?_
        refine op1 1 rfl (sp_loadR (i := (i7 : Int).toNat) (j := 0) rfl rfl isOwn vt3 rfl (map_get _ h27) rfl (.v (.nil)) (nodup_of_B rfl)) rfl trivial rfl rfl ?_
        refine op0 (sp_move rfl rfl) rfl trivial rfl rfl ?_
        refine op0 (sp_neq rfl rfl rfl) rfl trivial rfl rfl ?_
        refine TL.nil ?_
        refine TC.cond (b := (x9 != 0)) rfl (fun h28 => ?_) (fun h28 => ?_)
        · have h := cond_t h h28
          refine TC.seq ?_
          refine TC.region ?_
          refine op0 (sp_assign rfl rfl) rfl trivial rfl rfl ?_
          refine TL.nil ?_
          cases h
          exact retJ [] (.tmp rfl .nil) rfl trivial rfl rfl
        · have h := cond_f h h28
          refine TC.skip ?_
          refine TC.inBlock ?_
          refine TC.region ?_
          refine op0 (sp_move rfl rfl) rfl trivial rfl rfl ?_
          obtain ⟨h29, h⟩ := chk_inv h
          refine op0 (sp_add rfl rfl rfl h29) rfl trivial rfl rfl ?_
          refine op0 (sp_assign rfl rfl) rfl trivial rfl rfl ?_
          refine TL.nil ?_
          refine TC.inLoop ?_
          refine TC.seq ?_
          refine TC.seq ?_
          refine subJ [] (ih _ h) ?_ ?_ ?_
          · exact ⟨rfl, rfl, rfl, trivial⟩
          · exact ⟨mem_at 0 rfl, mem_at 1 rfl, trivial⟩
          · rfl
    · have h := cond_f h h17
      refine TC.exit rfl ?_
      refine TC.seq ?_
      refine TC.region ?_
      obtain ⟨r10, h30, h⟩ := bind_inv h
      refine op0 (sp_call (avs := []) (need := []) (v := .val (.bool r10)) (news := []) rfl rfl rfl Try.call17 (atJ [] [] (fc_top_pubDrop h30) rfl rfl) (.inl (roAll rfl))) rfl trivial rfl rfl ?_
      refine op0 (sp_move rfl rfl) rfl trivial rfl rfl ?_
      rcases cond_cases h with ⟨h31, h⟩ | ⟨h31, h⟩
      · refine (boolLit 91 rfl h31).2 ?_
        obtain ⟨r11, h32, h⟩ := bind_inv h
        refine op0 (sp_call (avs := []) (need := []) (v := .val (.bool r11)) (news := []) rfl rfl rfl Try.call18 (atJ [] [] (fc_top_pubBook h32) rfl rfl) (.inl (roAll rfl))) rfl ⟨_, rfl, rfl⟩ rfl rfl ?_
        refine op0 (sp_pickT rfl rfl rfl) rfl trivial rfl rfl ?_
        refine op0 (sp_assign rfl rfl) rfl trivial rfl rfl ?_
        refine TL.nil ?_
        cases h
        exact retJ [] (.tmp rfl .nil) rfl trivial rfl rfl
      · refine (boolLit 91 rfl h31).2 ?_
        refine opSkip rfl ⟨_, rfl, .inl rfl⟩ rfl ?_
        refine op0 (sp_pickF rfl rfl rfl) rfl trivial rfl rfl ?_
        refine op0 (sp_assign rfl rfl) rfl trivial rfl rfl ?_
        refine TL.nil ?_
        cases h
        exact retJ [] (.tmp rfl .nil) rfl trivial rfl rfl
def ev_top_TopDropBook_j1 (n : Nat) (r5 : Int × Int × Int) (r6 : (List Int) × Int) : Option Bool :=
  ev_top_TopDropBook_l2 n r5 r6 n 0
set_option maxRecDepth 100000 in
set_option maxHeartbeats 2000000 in
theorem ok_top_TopDropBook_j1 {n : Nat} {w0 : World} {R0 : Nat → Prop} {env0 : Env} {r : Bool} {r5 : Int × Int × Int} {r6 : (List Int) × Int} (h : ev_top_TopDropBook_j1 n r5 r6 = some r) : TC Try.prog ⟨w0, fun _ => False, R0⟩ 94 (bodyPost Try.prog Try.f3 (Post ⟨w0, fun _ => False, R0⟩ env0 (.val (.bool r)) [])) [.code (sub (bodyOf Try.f3) [1, 1, 1, 1, 1, 1, 1, 0, 1, 1]), .code (sub (bodyOf Try.f3) [1, 1, 1, 1, 1, 1, 1, 1])] ([(7, .ptr 2 0), (10, .ref 4)]) ([.blk 2 [.val (.int .i64 r5.1), .val (.int .i64 r5.2.1)] 26, .row 4 3 1 (List.map en_int r6.1)]) := by
  rw [ev_top_TopDropBook_j1] at h
  refine TC.skip ?_
  refine TC.seq ?_
  refine TC.seq ?_
  refine TC.region ?_
  refine op0 (sp_assign rfl rfl) rfl trivial rfl rfl ?_
  refine TL.nil ?_
  refine TC.block ?_
  refine TC.loop ?_
  refine TC.seq ?_
  refine TC.seq ?_
  refine subJ [] (ok_top_TopDropBook_l2 _ _ h) ?_ ?_ ?_
  · exact ⟨rfl, rfl, rfl, trivial⟩
  · exact ⟨mem_at 0 rfl, mem_at 1 rfl, trivial⟩
  · rfl
def ev_top_TopDropBook_j0 (n : Nat) (r5 : Int × Int × Int) : Option Bool :=
  chk (in64 (r5.1 * 3600)) <| (ev_book_Noons n ([((r5.1 * 3600), 3, 0)] : List (Int × Int × Int)) 0 150).bind fun r6 => cond (r6.2 != 0) (some false) (cond ((r6.1.length : Int) != 150) (some false) (ev_top_TopDropBook_j1 n r5 r6))
set_option maxRecDepth 100000 in
set_option maxHeartbeats 2000000 in
theorem ok_top_TopDropBook_j0 {n : Nat} {w0 : World} {R0 : Nat → Prop} {env0 : Env} {r : Bool} {r5 : Int × Int × Int} (h : ev_top_TopDropBook_j0 n r5 = some r) : TC Try.prog ⟨w0, fun _ => False, R0⟩ 94 (bodyPost Try.prog Try.f3 (Post ⟨w0, fun _ => False, R0⟩ env0 (.val (.bool r)) [])) [.code (sub (bodyOf Try.f3) [1, 1, 1, 1, 0, 1, 1]), .code (sub (bodyOf Try.f3) [1, 1, 1, 1, 1])] ([(7, .ptr 2 0)]) ([.blk 2 [.val (.int .i64 r5.1), .val (.int .i64 r5.2.1)] 26]) := by
  rw [ev_top_TopDropBook_j0] at h
  refine TC.skip ?_
  refine TC.seq ?_
  refine TC.region ?_
  refine op1 0 rfl (sp_fieldAddrB rfl isBlk rfl ft26_0 vt3 (by decide)) rfl trivial rfl rfl ?_
  refine op1 0 rfl (sp_loadB rfl isBlk rfl vt3 rfl) rfl trivial rfl rfl ?_
  obtain ⟨h13, h⟩ := chk_inv h
  refine op0 (sp_mul rfl rfl rfl h13) rfl trivial rfl rfl ?_
  refine op0 (sp_build (qs := [(0, .val (.int .i64 (r5.1 * 3600))), (1, .val (.int .i64 3))]) rfl bt35 rfl rfl rfl rfl) rfl trivial rfl rfl ?_
  refine op0 (sp_buildSlice (qs := [.agg [.val (.int .i64 (r5.1 * 3600)), .val (.int .i64 3), .val (.int .i64 0)]]) (need := []) (els := List.map en_api_BookEntry ([((r5.1 * 3600), 3, 0)] : List (Int × Int × Int))) 3 rfl sl36 (by decide) (by decide) rfl rfl rfl (.v (.v (.v (.nil)))) (map_len fun _ => rfl) rfl rfl rfl) rfl trivial rfl rfl ?_
  refine op0 (sp_assign rfl rfl) rfl trivial rfl rfl ?_
  refine TL.nil ?_
  refine TC.seq ?_
  refine TC.region ?_
  refine op0 (sp_move rfl rfl) rfl trivial rfl rfl ?_
  obtain ⟨r6, h14, h⟩ := bind_inv h
  refine op1 0 rfl (sp_call (avs := [.ref 3, .val (.int .i64 0), .val (.int .i64 150)]) (need := [.row 3 35 3 (List.map en_api_BookEntry ([((r5.1 * 3600), 3, 0)] : List (Int × Int × Int)))]) (v := .tup [.ref 4, .val (.int .i64 r6.2)]) (news := [.row 4 3 1 (List.map en_int r6.1)]) rfl rfl rfl Try.call16 (atJ [(0, 3)] [(500, 4)] (fc_book_Noons h14) rfl rfl) (.inr (List.forall_mem_cons.2 ⟨indep_map en_int_flat, (by simp)⟩))) rfl trivial rfl rfl ?_
  refine op0 (sp_move rfl rfl) rfl trivial rfl rfl ?_
  refine op0 (sp_extract rfl rfl rfl) rfl trivial rfl rfl ?_
  refine op0 (sp_extract rfl rfl rfl) rfl trivial rfl rfl ?_
  refine op0 (sp_assign rfl rfl) rfl trivial rfl rfl ?_
  refine op0 (sp_assign rfl rfl) rfl trivial rfl rfl ?_
  refine TL.nil ?_
  refine TC.seq ?_
  refine TC.seq ?_
  refine TC.region ?_
  refine op0 (sp_move rfl rfl) rfl trivial rfl rfl ?_
  refine op0 (sp_neq rfl rfl rfl) rfl trivial rfl rfl ?_
  refine op0 (sp_move rfl rfl) rfl trivial rfl rfl ?_
  rcases cond_cases h with ⟨h15, h⟩ | ⟨h15, h⟩
  · refine (boolLit 65 rfl h15).2 ?_
    refine opSkip rfl ⟨_, rfl, .inl rfl⟩ rfl ?_
    refine opSkip rfl ⟨_, rfl, .inl rfl⟩ rfl ?_
    refine opSkip rfl ⟨_, rfl, .inl rfl⟩ rfl ?_
    refine op0 (sp_pickT rfl rfl rfl) rfl trivial rfl rfl ?_
    refine TL.nil ?_
    refine TC.condT rfl ?_
    refine TC.seq ?_
    refine TC.region ?_
    refine op0 (sp_assign rfl rfl) rfl trivial rfl rfl ?_
    refine TL.nil ?_
    cases h
    exact retJ [] (.tmp rfl .nil) rfl trivial rfl rfl
  · refine (boolLit 65 rfl h15).2 ?_
    refine op0 (sp_move rfl rfl) rfl ⟨_, rfl, rfl⟩ rfl rfl ?_
    refine op1 0 rfl (sp_lenM (N := r6.1.length) (len_map _ _) rfl rfl isOwn Try.underlying37) rfl ⟨_, rfl, rfl⟩ rfl rfl ?_
    refine op0 (sp_neq rfl rfl rfl) rfl ⟨_, rfl, rfl⟩ rfl rfl ?_
    refine op0 (sp_pickF rfl rfl rfl) rfl trivial rfl rfl ?_
    refine TL.nil ?_
    refine TC.cond (b := ((r6.1.length : Int) != 150)) rfl (fun h16 => ?_) (fun h16 => ?_)
    · have h := cond_t h h16
      refine TC.seq ?_
      refine TC.region ?_
      refine op0 (sp_assign rfl rfl) rfl trivial rfl rfl ?_
      refine TL.nil ?_
      cases h
      exact retJ [] (.tmp rfl .nil) rfl trivial rfl rfl
    · have h := cond_f h h16
      refine subJ [] (ok_top_TopDropBook_j1 h) ?_ ?_ ?_
      · exact ⟨rfl, rfl, trivial⟩
      · exact ⟨mem_at 2 rfl, mem_at 0 rfl, trivial⟩
      · rfl
def ev_top_TopDropBook (n : Nat) (line1 : Int) (use2 : Int) : Option Bool :=
  chk (in64 use2) <| chk (in64 ((1 : Int) + (Int.tmod use2 9))) <| chk (in64 line1) <| chk (in64 ((1 : Int) + (Int.tmod line1 3000))) <| (ev_top_pubSpan n ((1 : Int) + (Int.tmod use2 9)) ((1 : Int) + (Int.tmod use2 9))).bind fun r3 => (ev_top_pubHours n r3.1 r3.2).bind fun r4 => (ev_drop_Goes n ((1 : Int) + (Int.tmod line1 3000)) r4 ((1 : Int) + (Int.tmod line1 3000)) 0).bind fun r5 => cond (r5.2.2 != 0) (some false) (cond (r5.1 != r5.2.1) (some false) (chk (((1 : Int) + (Int.tmod use2 9)) != 0) <| chk (in64 (Int.tdiv ((1 : Int) + (Int.tmod line1 3000)) ((1 : Int) + (Int.tmod use2 9)))) <| cond (r5.1 != (min (Int.tdiv ((1 : Int) + (Int.tmod line1 3000)) ((1 : Int) + (Int.tmod use2 9))) 2000)) (some false) (ev_top_TopDropBook_j0 n r5)))
set_option maxRecDepth 100000 in
set_option maxHeartbeats 2000000 in
theorem fc_top_TopDropBook {n : Nat} {line1 : Int} {use2 : Int} {r : Bool} (h : ev_top_TopDropBook n line1 use2 = some r) : FC Try.prog 3 [.val (.int .u16 line1), .val (.int .u8 use2)] [] (.val (.bool r)) [] := by
  refine introJ (nz := 94) Try.func3 rfl rfl rfl (fun w0 R0 env0 => ?_)
  rw [ev_top_TopDropBook] at h
  refine TC.seq ?_
  refine TC.region ?_
  refine op0 (sp_assign rfl rfl) rfl trivial rfl rfl ?_
  refine TL.nil ?_
  refine TC.seq ?_
  refine TC.region ?_
  refine op0 (sp_move rfl rfl) rfl trivial rfl rfl ?_
  obtain ⟨h1, h⟩ := chk_inv h
  refine op0 (sp_conv rfl Try.underlying5 Try.underlying3 rfl h1) rfl trivial rfl rfl ?_
  refine op0 (sp_rem rfl rfl rfl (by decide)) rfl trivial rfl rfl ?_
  obtain ⟨h2, h⟩ := chk_inv h
  refine op0 (sp_add rfl rfl rfl h2) rfl trivial rfl rfl ?_
  refine op0 (sp_assign rfl rfl) rfl trivial rfl rfl ?_
  refine TL.nil ?_
  refine TC.seq ?_
  refine TC.region ?_
  refine op0 (sp_move rfl rfl) rfl trivial rfl rfl ?_
  obtain ⟨h3, h⟩ := chk_inv h
  refine op0 (sp_conv rfl Try.underlying22 Try.underlying3 rfl h3) rfl trivial rfl rfl ?_
  refine op0 (sp_rem rfl rfl rfl (by decide)) rfl trivial rfl rfl ?_
  obtain ⟨h4, h⟩ := chk_inv h
  refine op0 (sp_add rfl rfl rfl h4) rfl trivial rfl rfl ?_
  refine op0 (sp_move rfl rfl) rfl trivial rfl rfl ?_
  refine op0 (sp_move rfl rfl) rfl trivial rfl rfl ?_
  obtain ⟨r3, h5, h⟩ := bind_inv h
  refine op0 (sp_call (avs := [.val (.int .i64 ((1 : Int) + (Int.tmod use2 9))), .val (.int .i64 ((1 : Int) + (Int.tmod use2 9)))]) (need := []) (v := .agg [.val (.int .i64 r3.1), .val (.int .i64 r3.2)]) (news := []) rfl rfl rfl Try.call14 (atJ [] [] (fc_top_pubSpan h5) rfl rfl) (.inl (roAll rfl))) rfl trivial rfl rfl ?_
  obtain ⟨r4, h6, h⟩ := bind_inv h
  refine op0 (sp_call (avs := [.agg [.val (.int .i64 r3.1), .val (.int .i64 r3.2)]]) (need := []) (v := .ref 0) (news := [.row 0 26 2 (List.map en_api_Span r4)]) rfl rfl rfl Try.call13 (atJ [] [] (fc_top_pubHours h6) rfl rfl) (.inl (roAll rfl))) rfl trivial rfl rfl ?_
  refine op0 (sp_build (qs := [(0, .val (.int .i64 ((1 : Int) + (Int.tmod line1 3000)))), (1, .ref 0)]) rfl bt29 rfl rfl rfl rfl) rfl trivial rfl rfl ?_
  refine op0 (sp_alloc 1 rfl Try.zeroValue29 rfl) rfl trivial rfl rfl ?_
  refine stoB 0 (cells' := [.val (.int .i64 ((1 : Int) + (Int.tmod line1 3000))), .ref 0]) rfl rfl trivial rfl rfl rfl rfl vt29 rfl rfl rfl ?_
  refine TL.nil ?_
  refine TC.seq ?_
  refine TC.region ?_
  refine op1 0 rfl (sp_loadBA rfl isBlk rfl vt29 rfl rfl) rfl trivial rfl rfl ?_
  refine op1 0 rfl (sp_fieldAddrB rfl isBlk rfl ft29_0 vt3 (by decide)) rfl trivial rfl rfl ?_
  refine op1 0 rfl (sp_loadB rfl isBlk rfl vt3 rfl) rfl trivial rfl rfl ?_
  obtain ⟨r5, h7, h⟩ := bind_inv h
  refine op1 1 rfl (sp_call (avs := [.agg [.val (.int .i64 ((1 : Int) + (Int.tmod line1 3000))), .ref 0], .val (.int .i64 ((1 : Int) + (Int.tmod line1 3000))), .val (.int .i64 0)]) (need := [.row 0 26 2 (List.map en_api_Span r4)]) (v := .tup [.agg [.val (.int .i64 r5.1), .val (.int .i64 r5.2.1)], .val (.int .i64 r5.2.2)]) (news := []) rfl rfl rfl Try.call15 (atJ [] [] (fc_drop_Goes h7) rfl rfl) (.inr (fun x hx => nomatch hx))) rfl trivial rfl rfl ?_
  refine op0 (sp_move rfl rfl) rfl trivial rfl rfl ?_
  refine op0 (sp_extract rfl rfl rfl) rfl trivial rfl rfl ?_
  refine op0 (sp_extract rfl rfl rfl) rfl trivial rfl rfl ?_
  refine op0 (sp_alloc 2 rfl Try.zeroValue26 rfl) rfl trivial rfl rfl ?_
  refine stoB 0 (cells' := [.val (.int .i64 r5.1), .val (.int .i64 r5.2.1)]) rfl rfl trivial rfl rfl rfl rfl vt26 rfl rfl rfl ?_
  refine op0 (sp_assign rfl rfl) rfl trivial rfl rfl ?_
  refine TL.nil ?_
  refine TC.seq ?_
  refine TC.seq ?_
  rcases cond_cases h with ⟨h8, h⟩ | ⟨h8, h⟩
  · refine drawJ 17 [⟨.val (.int .i64 r5.2.2), [], [], []⟩, ⟨.val (.bool (r5.2.2 != 0)), [], [], []⟩, ⟨.val (.bool true), [], [], []⟩, ⟨.val (undef), [], [], []⟩, ⟨.val (undef), [], [], []⟩, ⟨.val (undef), [], [], []⟩, ⟨.val (undef), [], [], []⟩, ⟨.val (undef), [], [], []⟩, ⟨.val (.bool true), [], [], []⟩, ⟨.val (.bool true), [], [], []⟩, ⟨.val (undef), [], [], []⟩, ⟨.val (undef), [], [], []⟩, ⟨.val (undef), [], [], []⟩, ⟨.val (undef), [], [], []⟩, ⟨.val (undef), [], [], []⟩, ⟨.val (undef), [], [], []⟩, ⟨.val (undef), [], [], []⟩] rfl ?_ rfl ?_ rfl ?_ ?_
    · kernel_rfl
    · kernel_rfl
    · exact DAll.op' (sp_move rfl rfl) trivial rfl (From.ok (ps := []) trivial) (DAll.op' (sp_neq rfl rfl rfl) trivial rfl (From.ok (ps := []) trivial) (DAll.op' (sp_castB h8 (sp_move rfl rfl)) trivial rfl (From.ok (ps := []) trivial) (.skip ⟨_, rfl, .inl rfl⟩ rfl rfl rfl (.skip ⟨_, rfl, .inl rfl⟩ rfl rfl rfl (.skip ⟨_, rfl, .inl rfl⟩ rfl rfl rfl (.skip ⟨_, rfl, .inl rfl⟩ rfl rfl rfl (.skip ⟨_, rfl, .inl rfl⟩ rfl rfl rfl (DAll.op' (sp_pickT rfl rfl rfl) trivial rfl (From.ok (ps := []) trivial) (DAll.op' (sp_move rfl rfl) trivial rfl (From.ok (ps := []) trivial) (.skip ⟨_, rfl, .inl rfl⟩ rfl rfl rfl (.skip ⟨_, rfl, .inl rfl⟩ rfl rfl rfl (.skip ⟨_, rfl, .inl rfl⟩ rfl rfl rfl (.skip ⟨_, rfl, .inl rfl⟩ rfl rfl rfl (.skip ⟨_, rfl, .inl rfl⟩ rfl rfl rfl (.skip ⟨_, rfl, .inl rfl⟩ rfl rfl rfl (.skip ⟨_, rfl, .inl rfl⟩ rfl rfl rfl (.nil)))))))))))))))))
    refine opSkip rfl ⟨_, rfl, .inl rfl⟩ rfl ?_
    refine op0 (sp_pickT rfl rfl rfl) rfl trivial rfl rfl ?_
    refine TL.nil ?_
    refine TC.condT rfl ?_
    refine TC.seq ?_
    refine TC.region ?_
    refine op0 (sp_assign rfl rfl) rfl trivial rfl rfl ?_
    refine TL.nil ?_
    cases h
    exact retJ [] (.tmp rfl .nil) rfl trivial rfl rfl
  · rcases cond_cases h with ⟨h9, h⟩ | ⟨h9, h⟩
    · refine drawJ 17 [⟨.val (.int .i64 r5.2.2), [], [], []⟩, ⟨.val (.bool (r5.2.2 != 0)), [], [], []⟩, ⟨.val (.bool false), [], [], []⟩, ⟨.ptr 2 0, [], [.blk 2 [.val (.int .i64 r5.1), .val (.int .i64 r5.2.1)] 26], []⟩, ⟨.val (.int .i64 r5.1), [], [.blk 2 [.val (.int .i64 r5.1), .val (.int .i64 r5.2.1)] 26], []⟩, ⟨.ptr 2 1, [], [.blk 2 [.val (.int .i64 r5.1), .val (.int .i64 r5.2.1)] 26], []⟩, ⟨.val (.int .i64 r5.2.1), [], [.blk 2 [.val (.int .i64 r5.1), .val (.int .i64 r5.2.1)] 26], []⟩, ⟨.val (.bool (r5.1 != r5.2.1)), [], [], []⟩, ⟨.val (.bool (r5.1 != r5.2.1)), [], [], []⟩, ⟨.val (.bool true), [], [], []⟩, ⟨.val (undef), [], [], []⟩, ⟨.val (undef), [], [], []⟩, ⟨.val (undef), [], [], []⟩, ⟨.val (undef), [], [], []⟩, ⟨.val (undef), [], [], []⟩, ⟨.val (undef), [], [], []⟩, ⟨.val (undef), [], [], []⟩] rfl ?_ rfl ?_ rfl ?_ ?_
      · kernel_rfl
      · kernel_rfl
      · exact DAll.op' (sp_move rfl rfl) trivial rfl (From.ok (ps := []) trivial) (DAll.op' (sp_neq rfl rfl rfl) trivial rfl (From.ok (ps := []) trivial) (DAll.op' (sp_castB h8 (sp_move rfl rfl)) trivial rfl (From.ok (ps := []) trivial) (DAll.op' (sp_fieldAddrB rfl isBlk rfl ft26_0 vt3 (by decide)) ⟨_, rfl, rfl⟩ rfl (From.ok (ps := [(none, 0)]) ⟨⟨rfl, rfl⟩, trivial⟩) (DAll.op' (sp_loadB rfl isBlk rfl vt3 rfl) ⟨_, rfl, rfl⟩ rfl (From.ok (ps := [(none, 0)]) ⟨⟨rfl, rfl⟩, trivial⟩) (DAll.op' (sp_fieldAddrB rfl isBlk rfl ft26_1 vt3 (by decide)) ⟨_, rfl, rfl⟩ rfl (From.ok (ps := [(none, 0)]) ⟨⟨rfl, rfl⟩, trivial⟩) (DAll.op' (sp_loadB rfl isBlk rfl vt3 rfl) ⟨_, rfl, rfl⟩ rfl (From.ok (ps := [(none, 0)]) ⟨⟨rfl, rfl⟩, trivial⟩) (DAll.op' (sp_neq rfl rfl rfl) ⟨_, rfl, rfl⟩ rfl (From.ok (ps := []) trivial) (DAll.op' (sp_pickF rfl rfl rfl) trivial rfl (From.ok (ps := []) trivial) (DAll.op' (sp_castB h9 (sp_move rfl rfl)) trivial rfl (From.ok (ps := []) trivial) (.skip ⟨_, rfl, .inl rfl⟩ rfl rfl rfl (.skip ⟨_, rfl, .inl rfl⟩ rfl rfl rfl (.skip ⟨_, rfl, .inl rfl⟩ rfl rfl rfl (.skip ⟨_, rfl, .inl rfl⟩ rfl rfl rfl (.skip ⟨_, rfl, .inl rfl⟩ rfl rfl rfl (.skip ⟨_, rfl, .inl rfl⟩ rfl rfl rfl (.skip ⟨_, rfl, .inl rfl⟩ rfl rfl rfl (.nil)))))))))))))))))
      refine opSkip rfl ⟨_, rfl, .inl rfl⟩ rfl ?_
      refine op0 (sp_pickT rfl rfl rfl) rfl trivial rfl rfl ?_
      refine TL.nil ?_
      refine TC.condT rfl ?_
      refine TC.seq ?_
      refine TC.region ?_
      refine op0 (sp_assign rfl rfl) rfl trivial rfl rfl ?_
      refine TL.nil ?_
      cases h
      exact retJ [] (.tmp rfl .nil) rfl trivial rfl rfl
    · obtain ⟨h10, h⟩ := chk_inv h
      obtain ⟨h11, h⟩ := chk_inv h
      refine drawJ 17 [⟨.val (.int .i64 r5.2.2), [], [], []⟩, ⟨.val (.bool (r5.2.2 != 0)), [], [], []⟩, ⟨.val (.bool false), [], [], []⟩, ⟨.ptr 2 0, [], [.blk 2 [.val (.int .i64 r5.1), .val (.int .i64 r5.2.1)] 26], []⟩, ⟨.val (.int .i64 r5.1), [], [.blk 2 [.val (.int .i64 r5.1), .val (.int .i64 r5.2.1)] 26], []⟩, ⟨.ptr 2 1, [], [.blk 2 [.val (.int .i64 r5.1), .val (.int .i64 r5.2.1)] 26], []⟩, ⟨.val (.int .i64 r5.2.1), [], [.blk 2 [.val (.int .i64 r5.1), .val (.int .i64 r5.2.1)] 26], []⟩, ⟨.val (.bool (r5.1 != r5.2.1)), [], [], []⟩, ⟨.val (.bool (r5.1 != r5.2.1)), [], [], []⟩, ⟨.val (.bool false), [], [], []⟩, ⟨.ptr 2 0, [], [.blk 2 [.val (.int .i64 r5.1), .val (.int .i64 r5.2.1)] 26], []⟩, ⟨.val (.int .i64 r5.1), [], [.blk 2 [.val (.int .i64 r5.1), .val (.int .i64 r5.2.1)] 26], []⟩, ⟨.ptr 1 0, [], [.blk 1 [.val (.int .i64 ((1 : Int) + (Int.tmod line1 3000))), .ref 0] 29], []⟩, ⟨.val (.int .i64 ((1 : Int) + (Int.tmod line1 3000))), [], [.blk 1 [.val (.int .i64 ((1 : Int) + (Int.tmod line1 3000))), .ref 0] 29], []⟩, ⟨.val (.int .i64 ((1 : Int) + (Int.tmod use2 9))), [], [], []⟩, ⟨.val (.int .i64 (Int.tdiv ((1 : Int) + (Int.tmod line1 3000)) ((1 : Int) + (Int.tmod use2 9)))), [], [], []⟩, ⟨.val (.int .i64 (min (Int.tdiv ((1 : Int) + (Int.tmod line1 3000)) ((1 : Int) + (Int.tmod use2 9))) 2000)), [], [], []⟩] rfl ?_ rfl ?_ rfl ?_ ?_
      · kernel_rfl
      · kernel_rfl
      · exact DAll.op' (sp_move rfl rfl) trivial rfl (From.ok (ps := []) trivial) (DAll.op' (sp_neq rfl rfl rfl) trivial rfl (From.ok (ps := []) trivial) (DAll.op' (sp_castB h8 (sp_move rfl rfl)) trivial rfl (From.ok (ps := []) trivial) (DAll.op' (sp_fieldAddrB rfl isBlk rfl ft26_0 vt3 (by decide)) ⟨_, rfl, rfl⟩ rfl (From.ok (ps := [(none, 0)]) ⟨⟨rfl, rfl⟩, trivial⟩) (DAll.op' (sp_loadB rfl isBlk rfl vt3 rfl) ⟨_, rfl, rfl⟩ rfl (From.ok (ps := [(none, 0)]) ⟨⟨rfl, rfl⟩, trivial⟩) (DAll.op' (sp_fieldAddrB rfl isBlk rfl ft26_1 vt3 (by decide)) ⟨_, rfl, rfl⟩ rfl (From.ok (ps := [(none, 0)]) ⟨⟨rfl, rfl⟩, trivial⟩) (DAll.op' (sp_loadB rfl isBlk rfl vt3 rfl) ⟨_, rfl, rfl⟩ rfl (From.ok (ps := [(none, 0)]) ⟨⟨rfl, rfl⟩, trivial⟩) (DAll.op' (sp_neq rfl rfl rfl) ⟨_, rfl, rfl⟩ rfl (From.ok (ps := []) trivial) (DAll.op' (sp_pickF rfl rfl rfl) trivial rfl (From.ok (ps := []) trivial) (DAll.op' (sp_castB h9 (sp_move rfl rfl)) trivial rfl (From.ok (ps := []) trivial) (DAll.op' (sp_fieldAddrB rfl isBlk rfl ft26_0 vt3 (by decide)) ⟨_, rfl, rfl⟩ rfl (From.ok (ps := [(none, 0)]) ⟨⟨rfl, rfl⟩, trivial⟩) (DAll.op' (sp_loadB rfl isBlk rfl vt3 rfl) ⟨_, rfl, rfl⟩ rfl (From.ok (ps := [(none, 0)]) ⟨⟨rfl, rfl⟩, trivial⟩) (DAll.op' (sp_fieldAddrB rfl isBlk rfl ft29_0 vt3 (by decide)) ⟨_, rfl, rfl⟩ rfl (From.ok (ps := [(none, 1)]) ⟨⟨rfl, rfl⟩, trivial⟩) (DAll.op' (sp_loadB rfl isBlk rfl vt3 rfl) ⟨_, rfl, rfl⟩ rfl (From.ok (ps := [(none, 1)]) ⟨⟨rfl, rfl⟩, trivial⟩) (DAll.op' (sp_move rfl rfl) ⟨_, rfl, rfl⟩ rfl (From.ok (ps := []) trivial) (DAll.op' (sp_quo rfl rfl rfl h10 h11) ⟨_, rfl, rfl⟩ rfl (From.ok (ps := []) trivial) (DAll.op' (sp_min rfl rfl rfl) ⟨_, rfl, rfl⟩ rfl (From.ok (ps := []) trivial) (.nil)))))))))))))))))
      refine op0 (sp_neq rfl rfl rfl) rfl ⟨_, rfl, rfl⟩ rfl rfl ?_
      refine op0 (sp_pickF rfl rfl rfl) rfl trivial rfl rfl ?_
      refine TL.nil ?_
      refine TC.cond (b := (r5.1 != (min (Int.tdiv ((1 : Int) + (Int.tmod line1 3000)) ((1 : Int) + (Int.tmod use2 9))) 2000))) rfl (fun h12 => ?_) (fun h12 => ?_)
      · have h := cond_t h h12
        refine TC.seq ?_
        refine TC.region ?_
        refine op0 (sp_assign rfl rfl) rfl trivial rfl rfl ?_
        refine TL.nil ?_
        cases h
        exact retJ [] (.tmp rfl .nil) rfl trivial rfl rfl
      · have h := cond_f h h12
        refine subJ [] (ok_top_TopDropBook_j0 h) ?_ ?_ ?_
        · exact ⟨rfl, trivial⟩
        · exact ⟨mem_at 0 rfl, trivial⟩
        · rfl
end
end Go.Proofs.Ytmgcinejodpopaa.Sy
