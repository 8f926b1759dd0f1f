/- What functions of the program compute, and that they do: printed by symgen.py. -/
import Derived.Test.YtgkoldcmbcbbpaaGLib
import Derived.Test.YtgkoldcmbcbbpaaGStrike
import Derived.Test.YtgkoldcmbcbbpaaGZone
set_option linter.unusedSimpArgs false
set_option linter.unusedVariables false
namespace Go.Proofs.Ytgkoldcmbcbbpaa.Sy
open Go.RowKit
noncomputable section

/- top_TopStrikeZone -/
def ev_top_TopStrikeZone_l2 (n : Nat) (r7 : (List (Int × Bool)) × Int × Int) (hour1 : Int) (offset2 : Int) (by_3 : Int) : Nat → Int → Int → Option Bool
  | 0, _, _ => none
  | m + 1, i8, i9 => cond (decide (i9 < (r7.1.length : Int))) (idx r7.1 i9 fun x10 => cond (x10.1 != 0) (some false) (cond x10.2 (chk (in64 (i8 + 1)) <| chk (in64 (i9 + 1)) <| ev_top_TopStrikeZone_l2 n r7 hour1 offset2 by_3 m (i8 + 1) (i9 + 1)) (chk (in64 (i9 + 1)) <| ev_top_TopStrikeZone_l2 n r7 hour1 offset2 by_3 m i8 (i9 + 1)))) ((ev_strike_Play n false false ([]) ((((24 : Int) + (Int.tmod hour1 2400)) + (Int.tmod offset2 6)) + (Int.tmod by_3 6)) (Int.tmod (((24 : Int) + (Int.tmod hour1 2400)) + (Int.tmod offset2 6)) 12) r7.1).bind fun r11 => cond (r11.2.2 == 0) (chk (in64 (0 - (Int.tmod by_3 6))) <| (ev_top_pubRest n (0 - (Int.tmod by_3 6)) 12).bind fun r12 => cond (i8 == r12) (cond (r11.1 == (Int.tmod ((((24 : Int) + (Int.tmod hour1 2400)) + (Int.tmod offset2 6)) + (Int.tmod by_3 6)) 12)) ((ev_top_pubStrike n).bind fun r13 => cond r13 ((ev_top_pubTowns n).bind fun r14 => some r14) (some false)) (some false)) (some false)) (some false))
set_option maxRecDepth 100000 in
set_option maxHeartbeats 2000000 in
theorem ok_top_TopStrikeZone_l2 {n : Nat} {w0 : World} {R0 : Nat → Prop} {env0 : Env} {r : Bool} {by_3 : Int} {hour1 : Int} {offset2 : Int} {r7 : (List (Int × Bool)) × Int × Int} : ∀ (m : Nat) (i8 : Int) (i9 : Int), ev_top_TopStrikeZone_l2 n r7 hour1 offset2 by_3 m i8 i9 = some r → TC Try.prog ⟨w0, fun _ => False, R0⟩ 175 (bodyPost Try.prog Try.f14 (Post ⟨w0, fun _ => False, R0⟩ env0 (.val (.bool r)) [])) [.code (sub (bodyOf Try.f14) [1, 1, 1, 1, 1, 1, 1, 1, 1, 1, 0, 1, 0, 0, 0, 0]), .code (sub (bodyOf Try.f14) [1, 1, 1, 1, 1, 1, 1, 1, 1, 1, 0, 1, 0, 0, 0, 1]), .code (sub (bodyOf Try.f14) [1, 1, 1, 1, 1, 1, 1, 1, 1, 1, 0, 1, 0, 0, 1]), .inLoop (sub (bodyOf Try.f14) [1, 1, 1, 1, 1, 1, 1, 1, 1, 1, 0, 1, 0, 0]), .inBlock 0, .code (sub (bodyOf Try.f14) [1, 1, 1, 1, 1, 1, 1, 1, 1, 1, 1])] ([(9, .val (.int .i64 (Int.tmod by_3 6))), (17, .ptr 2 0), (18, .val (.int .i64 (Int.tmod (((24 : Int) + (Int.tmod hour1 2400)) + (Int.tmod offset2 6)) 12))), (19, .val (.int .i64 ((((24 : Int) + (Int.tmod hour1 2400)) + (Int.tmod offset2 6)) + (Int.tmod by_3 6)))), (20, .ref 4), (23, .val (.int .i64 i8)), (24, .val (.int .i64 i9))]) ([.blk 2 [.val (.bool false), .val (.bool false), .val (.slice none 0 0)] 48, .row 4 175 2 (List.map en_api_StrikeStep r7.1)]) := by
  intro m
  induction m with
  | zero => intro i8 i9 h; exact none_no h
  | succ m ih =>
    intro i8 i9 h
    rw [ev_top_TopStrikeZone_l2] at h
    refine TC.region ?_
    refine op0 (sp_move rfl rfl) rfl trivial rfl rfl ?_
    refine op0 (sp_move rfl rfl) rfl trivial rfl rfl ?_
    refine op1 1 rfl (sp_lenM (N := r7.1.length) (len_map _ _) rfl rfl isOwn Try.underlying171) rfl trivial rfl rfl ?_
    refine op0 (sp_lss rfl rfl rfl) rfl trivial rfl rfl ?_
    refine TL.nil ?_
    refine TC.cond (b := (decide (i9 < (r7.1.length : Int)))) rfl (fun h37 => ?_) (fun h37 => ?_)
    · have h := cond_t h h37
      refine TC.skip ?_
      refine TC.seq ?_
      refine TC.block ?_
      refine TC.seq ?_
      refine TC.seq ?_
      refine TC.region ?_
      refine op0 (sp_move rfl rfl) rfl trivial rfl rfl ?_
      refine op0 (sp_move rfl rfl) rfl trivial rfl rfl ?_
      obtain ⟨x10, h38, h39, h⟩ := idx_inv h
      refine op1 1 rfl (sp_indexS rfl rfl rfl isOwn sl171 h38 (map_get _ h39)) rfl trivial rfl rfl ?_
      refine op1 1 rfl (sp_fieldAddrR (i := (i9 : Int).toNat) rfl rfl isOwn ft175_0 vt3 (by decide) (map_get _ h39) (fun h => nomatch h)) rfl trivial rfl rfl ?_
      refine op1 1 rfl (sp_loadR (i := (i9 : Int).toNat) (j := 0) rfl rfl isOwn vt3 rfl (map_get _ h39) rfl (.v (.nil)) (nodup_of_B rfl)) rfl trivial rfl rfl ?_
      refine op0 (sp_neq rfl rfl rfl) rfl trivial rfl rfl ?_
      refine TL.nil ?_
      refine TC.cond (b := (x10.1 != 0)) rfl (fun h40 => ?_) (fun h40 => ?_)
      · have h := cond_t h h40
        refine TC.seq ?_
        refine TC.region ?_
        refine op0 (sp_assign rfl rfl) rfl trivial rfl rfl ?_
        refine TL.nil ?_
        cases h
        exact retJ [] (.tmp rfl .nil) rfl trivial rfl rfl
      · have h := cond_f h h40
        refine TC.skip ?_
        refine TC.seq ?_
        refine TC.region ?_
        refine op0 (sp_move rfl rfl) rfl trivial rfl rfl ?_
        refine op0 (sp_move rfl rfl) rfl trivial rfl rfl ?_
        refine op1 1 rfl (sp_indexS rfl rfl rfl isOwn sl171 h38 (map_get _ h39)) rfl trivial rfl rfl ?_
        refine op1 1 rfl (sp_fieldAddrR (i := (i9 : Int).toNat) rfl rfl isOwn ft175_1 vt4 (by decide) (map_get _ h39) (fun h => nomatch h)) rfl trivial rfl rfl ?_
        refine op1 1 rfl (sp_loadR (i := (i9 : Int).toNat) (j := 1) rfl rfl isOwn vt4 rfl (map_get _ h39) rfl (.v (.nil)) (nodup_of_B rfl)) rfl trivial rfl rfl ?_
        refine TL.nil ?_
        refine TC.cond (b := x10.2) rfl (fun h41 => ?_) (fun h41 => ?_)
        · have h := cond_t h h41
          refine TC.region ?_
          refine op0 (sp_move rfl rfl) rfl trivial rfl rfl ?_
          obtain ⟨h42, h⟩ := chk_inv h
          refine op0 (sp_add rfl rfl rfl h42) rfl trivial rfl rfl ?_
          refine op0 (sp_assign rfl rfl) rfl trivial rfl rfl ?_
          refine TL.nil ?_
          refine TC.inBlock ?_
          refine TC.region ?_
          refine op0 (sp_move rfl rfl) rfl trivial rfl rfl ?_
          obtain ⟨h43, h⟩ := chk_inv h
          refine op0 (sp_add rfl rfl rfl h43) rfl trivial rfl rfl ?_
          refine op0 (sp_assign rfl rfl) rfl trivial rfl rfl ?_
          refine TL.nil ?_
          refine TC.inLoop ?_
          refine TC.seq ?_
          refine TC.seq ?_
          refine subJ [] (ih _ _ h) ?_ ?_ ?_
          · exact ⟨rfl, rfl, rfl, rfl, rfl, rfl, rfl, trivial⟩
          · exact ⟨mem_at 0 rfl, mem_at 1 rfl, trivial⟩
          · rfl
        · have h := cond_f h h41
          refine TC.skip ?_
          refine TC.inBlock ?_
          refine TC.region ?_
          refine op0 (sp_move rfl rfl) rfl trivial rfl rfl ?_
          obtain ⟨h44, h⟩ := chk_inv h
          refine op0 (sp_add rfl rfl rfl h44) rfl trivial rfl rfl ?_
          refine op0 (sp_assign rfl rfl) rfl trivial rfl rfl ?_
          refine TL.nil ?_
          refine TC.inLoop ?_
          refine TC.seq ?_
          refine TC.seq ?_
          refine subJ [] (ih _ _ h) ?_ ?_ ?_
          · exact ⟨rfl, rfl, rfl, rfl, rfl, rfl, rfl, trivial⟩
          · exact ⟨mem_at 0 rfl, mem_at 1 rfl, trivial⟩
          · rfl
    · have h := cond_f h h37
      refine TC.exit rfl ?_
      refine TC.seq ?_
      refine TC.region ?_
      refine op1 0 rfl (sp_loadBA rfl isBlk rfl vt48 rfl rfl) rfl trivial rfl rfl ?_
      refine op0 (sp_move rfl rfl) rfl trivial rfl rfl ?_
      refine op0 (sp_move rfl rfl) rfl trivial rfl rfl ?_
      refine op0 (sp_move rfl rfl) rfl trivial rfl rfl ?_
      obtain ⟨r11, h45, h⟩ := bind_inv h
      refine op1 1 rfl (sp_call (avs := [.agg [.val (.bool false), .val (.bool false), .val (.slice none 0 0)], .val (.int .i64 ((((24 : Int) + (Int.tmod hour1 2400)) + (Int.tmod offset2 6)) + (Int.tmod by_3 6))), .val (.int .i64 (Int.tmod (((24 : Int) + (Int.tmod hour1 2400)) + (Int.tmod offset2 6)) 12)), .ref 4]) (need := [.row 4 175 2 (List.map en_api_StrikeStep r7.1)]) (v := .tup [.val (.int .i64 r11.1), .val (.int .i64 r11.2.1), .val (.int .i64 r11.2.2)]) (news := []) rfl rfl rfl Try.call60 (FC.nil (args := [.agg [.val (.bool false), .val (.bool false), .ref 5], .val (.int .i64 ((((24 : Int) + (Int.tmod hour1 2400)) + (Int.tmod offset2 6)) + (Int.tmod by_3 6))), .val (.int .i64 (Int.tmod (((24 : Int) + (Int.tmod hour1 2400)) + (Int.tmod offset2 6)) 12)), .ref 4]) 5 2 (atJ [(0, 5), (1, 4)] [] (fc_strike_Play h45) rfl rfl) rfl rfl rfl) (.inr (fun x hx => nomatch hx))) rfl trivial rfl rfl ?_
      refine op0 (sp_move rfl rfl) rfl trivial rfl rfl ?_
      refine op0 (sp_extract rfl rfl rfl) rfl trivial rfl rfl ?_
      refine op0 (sp_extract rfl rfl rfl) rfl trivial rfl rfl ?_
      refine op0 (sp_extract rfl rfl rfl) rfl trivial rfl rfl ?_
      refine op0 (sp_assign rfl rfl) rfl trivial rfl rfl ?_
      refine op0 (sp_assign rfl rfl) rfl trivial rfl rfl ?_
      refine op0 (sp_assign rfl rfl) rfl trivial rfl rfl ?_
      refine TL.nil ?_
      refine TC.seq ?_
      refine TC.region ?_
      refine op0 (sp_move rfl rfl) rfl trivial rfl rfl ?_
      refine op0 (sp_eql rfl rfl rfl) rfl trivial rfl rfl ?_
      refine op0 (sp_move rfl rfl) rfl trivial rfl rfl ?_
      rcases cond_cases h with ⟨h46, h⟩ | ⟨h46, h⟩
      · refine (boolLit 156 rfl h46).2 ?_
        refine op0 (sp_move rfl rfl) rfl ⟨_, rfl, rfl⟩ rfl rfl ?_
        refine op0 (sp_move rfl rfl) rfl ⟨_, rfl, rfl⟩ rfl rfl ?_
        obtain ⟨h47, h⟩ := chk_inv h
        refine op0 (sp_neg rfl rfl h47) rfl ⟨_, rfl, rfl⟩ rfl rfl ?_
        obtain ⟨r12, h48, h⟩ := bind_inv h
        refine op0 (sp_call (avs := [.val (.int .i64 (0 - (Int.tmod by_3 6))), .val (.int .i64 12)]) (need := []) (v := .val (.int .i64 r12)) (news := []) rfl rfl rfl Try.call54 (atJ [] [] (fc_top_pubRest h48) rfl rfl) (.inl (roAll rfl))) rfl ⟨_, rfl, rfl⟩ rfl rfl ?_
        refine op0 (sp_eql rfl rfl rfl) rfl ⟨_, rfl, rfl⟩ rfl rfl ?_
        refine op0 (sp_pickT rfl rfl rfl) rfl trivial rfl rfl ?_
        refine op0 (sp_move rfl rfl) rfl trivial rfl rfl ?_
        rcases cond_cases h with ⟨h49, h⟩ | ⟨h49, h⟩
        · refine (boolLit 163 rfl h49).2 ?_
          refine op0 (sp_move rfl rfl) rfl ⟨_, rfl, rfl⟩ rfl rfl ?_
          refine op0 (sp_move rfl rfl) rfl ⟨_, rfl, rfl⟩ rfl rfl ?_
          refine op0 (sp_rem rfl rfl rfl (by decide)) rfl ⟨_, rfl, rfl⟩ rfl rfl ?_
          refine op0 (sp_eql rfl rfl rfl) rfl ⟨_, rfl, rfl⟩ rfl rfl ?_
          refine op0 (sp_pickT rfl rfl rfl) rfl trivial rfl rfl ?_
          refine op0 (sp_move rfl rfl) rfl trivial rfl rfl ?_
          rcases cond_cases h with ⟨h50, h⟩ | ⟨h50, h⟩
          · refine (boolLit 169 rfl h50).2 ?_
            obtain ⟨r13, h51, h⟩ := bind_inv h
            refine op0 (sp_call (avs := []) (need := []) (v := .val (.bool r13)) (news := []) rfl rfl rfl Try.call31 (atJ [] [] (fc_top_pubStrike h51) rfl rfl) (.inl (roAll rfl))) rfl ⟨_, rfl, rfl⟩ rfl rfl ?_
            refine op0 (sp_pickT rfl rfl rfl) rfl trivial rfl rfl ?_
            refine op0 (sp_move rfl rfl) rfl trivial rfl rfl ?_
            rcases cond_cases h with ⟨h52, h⟩ | ⟨h52, h⟩
            · refine (boolLit 172 rfl h52).2 ?_
              obtain ⟨r14, h53, h⟩ := bind_inv h
              refine op0 (sp_call (avs := []) (need := []) (v := .val (.bool r14)) (news := []) rfl rfl rfl Try.call57 (atJ [] [] (fc_top_pubTowns h53) rfl rfl) (.inl (roAll rfl))) rfl ⟨_, rfl, rfl⟩ rfl rfl ?_
              refine op0 (sp_pickT rfl rfl rfl) rfl trivial rfl rfl ?_
              refine op0 (sp_assign rfl rfl) rfl trivial rfl rfl ?_
              refine TL.nil ?_
              cases h
              exact retJ [] (.tmp rfl .nil) rfl trivial rfl rfl
            · refine (boolLit 172 rfl h52).2 ?_
              refine opSkip rfl ⟨_, rfl, .inl rfl⟩ rfl ?_
              refine op0 (sp_pickF rfl rfl rfl) rfl trivial rfl rfl ?_
              refine op0 (sp_assign rfl rfl) rfl trivial rfl rfl ?_
              refine TL.nil ?_
              cases h
              exact retJ [] (.tmp rfl .nil) rfl trivial rfl rfl
          · refine (boolLit 169 rfl h50).2 ?_
            refine opSkip rfl ⟨_, rfl, .inl rfl⟩ rfl ?_
            refine op0 (sp_pickF rfl rfl rfl) rfl trivial rfl rfl ?_
            refine op0 (sp_move rfl rfl) rfl trivial rfl rfl ?_
            refine opSkip rfl ⟨_, rfl, .inl rfl⟩ rfl ?_
            refine op0 (sp_pickF rfl rfl rfl) rfl trivial rfl rfl ?_
            refine op0 (sp_assign rfl rfl) rfl trivial rfl rfl ?_
            refine TL.nil ?_
            cases h
            exact retJ [] (.tmp rfl .nil) rfl trivial rfl rfl
        · refine (boolLit 163 rfl h49).2 ?_
          refine opSkip rfl ⟨_, rfl, .inl rfl⟩ rfl ?_
          refine opSkip rfl ⟨_, rfl, .inl rfl⟩ rfl ?_
          refine opSkip rfl ⟨_, rfl, .inl rfl⟩ rfl ?_
          refine opSkip rfl ⟨_, rfl, .inl rfl⟩ rfl ?_
          refine op0 (sp_pickF rfl rfl rfl) rfl trivial rfl rfl ?_
          refine op0 (sp_move rfl rfl) rfl trivial rfl rfl ?_
          refine opSkip rfl ⟨_, rfl, .inl rfl⟩ rfl ?_
          refine op0 (sp_pickF rfl rfl rfl) rfl trivial rfl rfl ?_
          refine op0 (sp_move rfl rfl) rfl trivial rfl rfl ?_
          refine opSkip rfl ⟨_, rfl, .inl rfl⟩ rfl ?_
          refine op0 (sp_pickF rfl rfl rfl) rfl trivial rfl rfl ?_
          refine op0 (sp_assign rfl rfl) rfl trivial rfl rfl ?_
          refine TL.nil ?_
          cases h
          exact retJ [] (.tmp rfl .nil) rfl trivial rfl rfl
      · refine (boolLit 156 rfl h46).2 ?_
        refine opSkip rfl ⟨_, rfl, .inl rfl⟩ rfl ?_
        refine opSkip rfl ⟨_, rfl, .inl rfl⟩ rfl ?_
        refine opSkip rfl ⟨_, rfl, .inl rfl⟩ rfl ?_
        refine opSkip rfl ⟨_, rfl, .inl rfl⟩ rfl ?_
        refine opSkip rfl ⟨_, rfl, .inl rfl⟩ rfl ?_
        refine op0 (sp_pickF rfl rfl rfl) rfl trivial rfl rfl ?_
        refine op0 (sp_move rfl rfl) rfl trivial rfl rfl ?_
        refine opSkip rfl ⟨_, rfl, .inl rfl⟩ rfl ?_
        refine opSkip rfl ⟨_, rfl, .inl rfl⟩ rfl ?_
        refine opSkip rfl ⟨_, rfl, .inl rfl⟩ rfl ?_
        refine opSkip rfl ⟨_, rfl, .inl rfl⟩ rfl ?_
        refine op0 (sp_pickF rfl rfl rfl) rfl trivial rfl rfl ?_
        refine op0 (sp_move rfl rfl) rfl trivial rfl rfl ?_
        refine opSkip rfl ⟨_, rfl, .inl rfl⟩ rfl ?_
        refine op0 (sp_pickF rfl rfl rfl) rfl trivial rfl rfl ?_
        refine op0 (sp_move rfl rfl) rfl trivial rfl rfl ?_
        refine opSkip rfl ⟨_, rfl, .inl rfl⟩ rfl ?_
        refine op0 (sp_pickF rfl rfl rfl) rfl trivial rfl rfl ?_
        refine op0 (sp_assign rfl rfl) rfl trivial rfl rfl ?_
        refine TL.nil ?_
        cases h
        exact retJ [] (.tmp rfl .nil) rfl trivial rfl rfl
def ev_top_TopStrikeZone_j1 (n : Nat) (r7 : (List (Int × Bool)) × Int × Int) (hour1 : Int) (offset2 : Int) (by_3 : Int) : Option Bool :=
  ev_top_TopStrikeZone_l2 n r7 hour1 offset2 by_3 n 0 0
set_option maxRecDepth 100000 in
set_option maxHeartbeats 2000000 in
theorem ok_top_TopStrikeZone_j1 {n : Nat} {w0 : World} {R0 : Nat → Prop} {env0 : Env} {r : Bool} {by_3 : Int} {hour1 : Int} {offset2 : Int} {r7 : (List (Int × Bool)) × Int × Int} (h : ev_top_TopStrikeZone_j1 n r7 hour1 offset2 by_3 = some r) : TC Try.prog ⟨w0, fun _ => False, R0⟩ 175 (bodyPost Try.prog Try.f14 (Post ⟨w0, fun _ => False, R0⟩ env0 (.val (.bool r)) [])) [.code (sub (bodyOf Try.f14) [1, 1, 1, 1, 1, 1, 1, 1, 0, 1, 1]), .code (sub (bodyOf Try.f14) [1, 1, 1, 1, 1, 1, 1, 1, 1])] ([(9, .val (.int .i64 (Int.tmod by_3 6))), (17, .ptr 2 0), (18, .val (.int .i64 (Int.tmod (((24 : Int) + (Int.tmod hour1 2400)) + (Int.tmod offset2 6)) 12))), (19, .val (.int .i64 ((((24 : Int) + (Int.tmod hour1 2400)) + (Int.tmod offset2 6)) + (Int.tmod by_3 6)))), (20, .ref 4)]) ([.blk 2 [.val (.bool false), .val (.bool false), .val (.slice none 0 0)] 48, .row 4 175 2 (List.map en_api_StrikeStep r7.1)]) := by
  rw [ev_top_TopStrikeZone_j1] at h
  refine TC.skip ?_
  refine TC.seq ?_
  refine TC.region ?_
  refine op0 (sp_assign rfl rfl) rfl trivial rfl rfl ?_
  refine TL.nil ?_
  refine TC.seq ?_
  refine TC.seq ?_
  refine TC.region ?_
  refine op0 (sp_assign rfl rfl) rfl trivial rfl rfl ?_
  refine TL.nil ?_
  refine TC.block ?_
  refine TC.loop ?_
  refine TC.seq ?_
  refine TC.seq ?_
  refine subJ [] (ok_top_TopStrikeZone_l2 _ _ _ h) ?_ ?_ ?_
  · exact ⟨rfl, rfl, rfl, rfl, rfl, rfl, rfl, trivial⟩
  · exact ⟨mem_at 0 rfl, mem_at 1 rfl, trivial⟩
  · rfl
def ev_top_TopStrikeZone_j0 (n : Nat) (hour1 : Int) (offset2 : Int) (by_3 : Int) : Option Bool :=
  chk (in64 (((24 : Int) + (Int.tmod hour1 2400)) + (Int.tmod offset2 6))) <| chk (in64 (((24 : Int) + (Int.tmod hour1 2400)) + (Int.tmod offset2 6))) <| chk (in64 ((((24 : Int) + (Int.tmod hour1 2400)) + (Int.tmod offset2 6)) + (Int.tmod by_3 6))) <| chk (in64 (((((24 : Int) + (Int.tmod hour1 2400)) + (Int.tmod offset2 6)) + (Int.tmod by_3 6)) + 12)) <| (ev_strike_Bring n false false ([]) ((((24 : Int) + (Int.tmod hour1 2400)) + (Int.tmod offset2 6)) + (Int.tmod by_3 6)) (Int.tmod (((24 : Int) + (Int.tmod hour1 2400)) + (Int.tmod offset2 6)) 12) (((((24 : Int) + (Int.tmod hour1 2400)) + (Int.tmod offset2 6)) + (Int.tmod by_3 6)) + 12)).bind fun r7 => cond (r7.2.2 != 0) (some false) (cond (r7.2.1 != 0) (some false) (cond ((r7.1.length : Int) != 12) (some false) (ev_top_TopStrikeZone_j1 n r7 hour1 offset2 by_3)))
set_option maxRecDepth 100000 in
set_option maxHeartbeats 2000000 in
theorem ok_top_TopStrikeZone_j0 {n : Nat} {w0 : World} {R0 : Nat → Prop} {env0 : Env} {r : Bool} {hour1 : Int} {offset2 : Int} {by_3 : Int} (h : ev_top_TopStrikeZone_j0 n hour1 offset2 by_3 = some r) : TC Try.prog ⟨w0, fun _ => False, R0⟩ 175 (bodyPost Try.prog Try.f14 (Post ⟨w0, fun _ => False, R0⟩ env0 (.val (.bool r)) [])) [.code (sub (bodyOf Try.f14) [1, 1, 1, 1, 1, 0, 1, 1]), .code (sub (bodyOf Try.f14) [1, 1, 1, 1, 1, 1])] ([(7, .val (.int .i64 ((24 : Int) + (Int.tmod hour1 2400)))), (8, .val (.int .i64 (Int.tmod offset2 6))), (9, .val (.int .i64 (Int.tmod by_3 6)))]) ([]) := by
  rw [ev_top_TopStrikeZone_j0] at h
  refine TC.skip ?_
  refine TC.seq ?_
  refine TC.region ?_
  refine op0 (sp_build (qs := []) rfl bt48 rfl rfl rfl rfl) rfl trivial rfl rfl ?_
  refine op0 (sp_move rfl rfl) rfl trivial rfl rfl ?_
  refine op0 (sp_move rfl rfl) rfl trivial rfl rfl ?_
  obtain ⟨h29, h⟩ := chk_inv h
  refine op0 (sp_add rfl rfl rfl h29) rfl trivial rfl rfl ?_
  refine op0 (sp_rem rfl rfl rfl (by decide)) rfl trivial rfl rfl ?_
  refine op0 (sp_move rfl rfl) rfl trivial rfl rfl ?_
  refine op0 (sp_move rfl rfl) rfl trivial rfl rfl ?_
  obtain ⟨h30, h⟩ := chk_inv h
  refine op0 (sp_add rfl rfl rfl h30) rfl trivial rfl rfl ?_
  refine op0 (sp_move rfl rfl) rfl trivial rfl rfl ?_
  obtain ⟨h31, h⟩ := chk_inv h
  refine op0 (sp_add rfl rfl rfl h31) rfl trivial rfl rfl ?_
  refine op0 (sp_alloc 2 rfl Try.zeroValue48 rfl) rfl trivial rfl rfl ?_
  refine stoB 0 (cells' := [.val (.bool false), .val (.bool false), .val (.slice none 0 0)]) rfl rfl trivial rfl rfl rfl rfl vt48 rfl rfl rfl ?_
  refine op0 (sp_assign rfl rfl) rfl trivial rfl rfl ?_
  refine op0 (sp_assign rfl rfl) rfl trivial rfl rfl ?_
  refine TL.nil ?_
  refine TC.seq ?_
  refine TC.region ?_
  refine op1 0 rfl (sp_loadBA rfl isBlk rfl vt48 rfl rfl) rfl trivial rfl rfl ?_
  refine op0 (sp_move rfl rfl) rfl trivial rfl rfl ?_
  refine op0 (sp_move rfl rfl) rfl trivial rfl rfl ?_
  refine op0 (sp_move rfl rfl) rfl trivial rfl rfl ?_
  obtain ⟨h32, h⟩ := chk_inv h
  refine op0 (sp_add rfl rfl rfl h32) rfl trivial rfl rfl ?_
  obtain ⟨r7, h33, h⟩ := bind_inv h
  refine op0 (sp_call (avs := [.agg [.val (.bool false), .val (.bool false), .val (.slice none 0 0)], .val (.int .i64 ((((24 : Int) + (Int.tmod hour1 2400)) + (Int.tmod offset2 6)) + (Int.tmod by_3 6))), .val (.int .i64 (Int.tmod (((24 : Int) + (Int.tmod hour1 2400)) + (Int.tmod offset2 6)) 12)), .val (.int .i64 (((((24 : Int) + (Int.tmod hour1 2400)) + (Int.tmod offset2 6)) + (Int.tmod by_3 6)) + 12))]) (need := []) (v := .tup [.ref 4, .val (.int .i64 r7.2.1), .val (.int .i64 r7.2.2)]) (news := [.row 4 175 2 (List.map en_api_StrikeStep r7.1)]) rfl rfl rfl Try.call59 (FC.nil (args := [.agg [.val (.bool false), .val (.bool false), .ref 3], .val (.int .i64 ((((24 : Int) + (Int.tmod hour1 2400)) + (Int.tmod offset2 6)) + (Int.tmod by_3 6))), .val (.int .i64 (Int.tmod (((24 : Int) + (Int.tmod hour1 2400)) + (Int.tmod offset2 6)) 12)), .val (.int .i64 (((((24 : Int) + (Int.tmod hour1 2400)) + (Int.tmod offset2 6)) + (Int.tmod by_3 6)) + 12))]) 3 2 (atJ [(0, 3)] [(0, 4)] (fc_strike_Bring h33) rfl rfl) rfl rfl rfl) (.inl (roAll rfl))) rfl trivial rfl rfl ?_
  refine op0 (sp_move rfl rfl) rfl trivial rfl rfl ?_
  refine op0 (sp_extract rfl rfl rfl) rfl trivial rfl rfl ?_
  refine op0 (sp_extract rfl rfl rfl) rfl trivial rfl rfl ?_
  refine op0 (sp_extract rfl rfl rfl) rfl trivial rfl rfl ?_
  refine op0 (sp_assign rfl rfl) rfl trivial rfl rfl ?_
  refine op0 (sp_assign rfl rfl) rfl trivial rfl rfl ?_
  refine op0 (sp_assign rfl rfl) rfl trivial rfl rfl ?_
  refine TL.nil ?_
  refine TC.seq ?_
  refine TC.seq ?_
  refine TC.region ?_
  refine op0 (sp_move rfl rfl) rfl trivial rfl rfl ?_
  refine op0 (sp_neq rfl rfl rfl) rfl trivial rfl rfl ?_
  refine op0 (sp_move rfl rfl) rfl trivial rfl rfl ?_
  rcases cond_cases h with ⟨h34, h⟩ | ⟨h34, h⟩
  · refine (boolLit 117 rfl h34).2 ?_
    refine opSkip rfl ⟨_, rfl, .inl rfl⟩ rfl ?_
    refine opSkip rfl ⟨_, rfl, .inl rfl⟩ rfl ?_
    refine op0 (sp_pickT rfl rfl rfl) rfl trivial rfl rfl ?_
    refine op0 (sp_move rfl rfl) rfl trivial rfl rfl ?_
    refine opSkip rfl ⟨_, rfl, .inl rfl⟩ rfl ?_
    refine opSkip rfl ⟨_, rfl, .inl rfl⟩ rfl ?_
    refine opSkip rfl ⟨_, rfl, .inl rfl⟩ rfl ?_
    refine op0 (sp_pickT rfl rfl rfl) rfl trivial rfl rfl ?_
    refine TL.nil ?_
    refine TC.condT rfl ?_
    refine TC.seq ?_
    refine TC.region ?_
    refine op0 (sp_assign rfl rfl) rfl trivial rfl rfl ?_
    refine TL.nil ?_
    cases h
    exact retJ [] (.tmp rfl .nil) rfl trivial rfl rfl
  · refine (boolLit 117 rfl h34).2 ?_
    refine op0 (sp_move rfl rfl) rfl ⟨_, rfl, rfl⟩ rfl rfl ?_
    refine op0 (sp_neq rfl rfl rfl) rfl ⟨_, rfl, rfl⟩ rfl rfl ?_
    refine op0 (sp_pickF rfl rfl rfl) rfl trivial rfl rfl ?_
    refine op0 (sp_move rfl rfl) rfl trivial rfl rfl ?_
    rcases cond_cases h with ⟨h35, h⟩ | ⟨h35, h⟩
    · refine (boolLit 121 rfl h35).2 ?_
      refine opSkip rfl ⟨_, rfl, .inl rfl⟩ rfl ?_
      refine opSkip rfl ⟨_, rfl, .inl rfl⟩ rfl ?_
      refine opSkip rfl ⟨_, rfl, .inl rfl⟩ rfl ?_
      refine op0 (sp_pickT rfl rfl rfl) rfl trivial rfl rfl ?_
      refine TL.nil ?_
      refine TC.condT rfl ?_
      refine TC.seq ?_
      refine TC.region ?_
      refine op0 (sp_assign rfl rfl) rfl trivial rfl rfl ?_
      refine TL.nil ?_
      cases h
      exact retJ [] (.tmp rfl .nil) rfl trivial rfl rfl
    · refine (boolLit 121 rfl h35).2 ?_
      refine op0 (sp_move rfl rfl) rfl ⟨_, rfl, rfl⟩ rfl rfl ?_
      refine op1 0 rfl (sp_lenM (N := r7.1.length) (len_map _ _) rfl rfl isOwn Try.underlying171) rfl ⟨_, rfl, rfl⟩ rfl rfl ?_
      refine op0 (sp_neq rfl rfl rfl) rfl ⟨_, rfl, rfl⟩ rfl rfl ?_
      refine op0 (sp_pickF rfl rfl rfl) rfl trivial rfl rfl ?_
      refine TL.nil ?_
      refine TC.cond (b := ((r7.1.length : Int) != 12)) rfl (fun h36 => ?_) (fun h36 => ?_)
      · have h := cond_t h h36
        refine TC.seq ?_
        refine TC.region ?_
        refine op0 (sp_assign rfl rfl) rfl trivial rfl rfl ?_
        refine TL.nil ?_
        cases h
        exact retJ [] (.tmp rfl .nil) rfl trivial rfl rfl
      · have h := cond_f h h36
        refine subJ [] (ok_top_TopStrikeZone_j1 h) ?_ ?_ ?_
        · exact ⟨rfl, rfl, rfl, rfl, rfl, trivial⟩
        · exact ⟨mem_at 1 rfl, mem_at 0 rfl, trivial⟩
        · rfl
def ev_top_TopStrikeZone (n : Nat) (hour1 : Int) (offset2 : Int) (by_3 : Int) : Option Bool :=
  chk (in64 hour1) <| chk (in64 ((24 : Int) + (Int.tmod hour1 2400))) <| chk (in64 offset2) <| chk (in64 by_3) <| chk (in64 ((3600 : Int) * (Int.tmod offset2 6))) <| chk (in64 ((3600 : Int) * ((24 : Int) + (Int.tmod hour1 2400)))) <| chk (in64 ((Int.tmod offset2 6) + (Int.tmod by_3 6))) <| chk (in64 ((3600 : Int) * ((Int.tmod offset2 6) + (Int.tmod by_3 6)))) <| (ev_top_armTown n ((3600 : Int) * (Int.tmod offset2 6)) ((3600 : Int) * ((24 : Int) + (Int.tmod hour1 2400))) ((3600 : Int) * ((Int.tmod offset2 6) + (Int.tmod by_3 6)))).bind fun r4 => chk (in64 ((3600 : Int) * ((24 : Int) + (Int.tmod hour1 2400)))) <| chk (in64 (((3600 : Int) * ((24 : Int) + (Int.tmod hour1 2400))) - 1)) <| (ev_zone_Says n r4.1 r4.2 (((3600 : Int) * ((24 : Int) + (Int.tmod hour1 2400))) - 1)).bind fun r5 => chk (in64 ((3600 : Int) * ((24 : Int) + (Int.tmod hour1 2400)))) <| (ev_zone_Says n r4.1 r4.2 ((3600 : Int) * ((24 : Int) + (Int.tmod hour1 2400)))).bind fun r6 => cond (r5.2.2 != 0) (some false) (cond (r6.2.2 != 0) (some false) (chk (in64 (r5.1 * 86400)) <| chk (in64 ((r5.1 * 86400) + r5.2.1)) <| chk (in64 (((24 : Int) + (Int.tmod hour1 2400)) + (Int.tmod offset2 6))) <| chk (in64 ((3600 : Int) * (((24 : Int) + (Int.tmod hour1 2400)) + (Int.tmod offset2 6)))) <| chk (in64 (((3600 : Int) * (((24 : Int) + (Int.tmod hour1 2400)) + (Int.tmod offset2 6))) - 1)) <| cond (((r5.1 * 86400) + r5.2.1) != (((3600 : Int) * (((24 : Int) + (Int.tmod hour1 2400)) + (Int.tmod offset2 6))) - 1)) (some false) (chk (in64 (r6.1 * 86400)) <| chk (in64 ((r6.1 * 86400) + r6.2.1)) <| chk (in64 (((24 : Int) + (Int.tmod hour1 2400)) + (Int.tmod offset2 6))) <| chk (in64 ((((24 : Int) + (Int.tmod hour1 2400)) + (Int.tmod offset2 6)) + (Int.tmod by_3 6))) <| chk (in64 ((3600 : Int) * ((((24 : Int) + (Int.tmod hour1 2400)) + (Int.tmod offset2 6)) + (Int.tmod by_3 6)))) <| cond (((r6.1 * 86400) + r6.2.1) != ((3600 : Int) * ((((24 : Int) + (Int.tmod hour1 2400)) + (Int.tmod offset2 6)) + (Int.tmod by_3 6)))) (some false) (ev_top_TopStrikeZone_j0 n hour1 offset2 by_3))))
set_option maxRecDepth 100000 in
set_option maxHeartbeats 2000000 in
theorem fc_top_TopStrikeZone {n : Nat} {hour1 : Int} {offset2 : Int} {by_3 : Int} {r : Bool} (h : ev_top_TopStrikeZone n hour1 offset2 by_3 = some r) : FC Try.prog 14 [.val (.int .u16 hour1), .val (.int .i8 offset2), .val (.int .i8 by_3)] [] (.val (.bool r)) [] := by
  refine introJ (nz := 175) Try.func14 rfl rfl rfl (fun w0 R0 env0 => ?_)
  rw [ev_top_TopStrikeZone] at h
  refine TC.seq ?_
  refine TC.region ?_
  refine op0 (sp_assign rfl rfl) rfl trivial rfl rfl ?_
  refine TL.nil ?_
  refine TC.seq ?_
  refine TC.region ?_
  refine op0 (sp_move rfl rfl) rfl trivial rfl rfl ?_
  obtain ⟨h1, h⟩ := chk_inv h
  refine op0 (sp_conv rfl Try.underlying46 Try.underlying3 rfl h1) rfl trivial rfl rfl ?_
  refine op0 (sp_rem rfl rfl rfl (by decide)) rfl trivial rfl rfl ?_
  obtain ⟨h2, h⟩ := chk_inv h
  refine op0 (sp_add rfl rfl rfl h2) rfl trivial rfl rfl ?_
  refine op0 (sp_move rfl rfl) rfl trivial rfl rfl ?_
  obtain ⟨h3, h⟩ := chk_inv h
  refine op0 (sp_conv rfl Try.underlying77 Try.underlying3 rfl h3) rfl trivial rfl rfl ?_
  refine op0 (sp_rem rfl rfl rfl (by decide)) rfl trivial rfl rfl ?_
  refine op0 (sp_move rfl rfl) rfl trivial rfl rfl ?_
  obtain ⟨h4, h⟩ := chk_inv h
  refine op0 (sp_conv rfl Try.underlying77 Try.underlying3 rfl h4) rfl trivial rfl rfl ?_
  refine op0 (sp_rem rfl rfl rfl (by decide)) rfl trivial rfl rfl ?_
  refine op0 (sp_assign rfl rfl) rfl trivial rfl rfl ?_
  refine op0 (sp_assign rfl rfl) rfl trivial rfl rfl ?_
  refine op0 (sp_assign rfl rfl) rfl trivial rfl rfl ?_
  refine TL.nil ?_
  refine TC.seq ?_
  refine TC.region ?_
  refine op0 (sp_move rfl rfl) rfl trivial rfl rfl ?_
  obtain ⟨h5, h⟩ := chk_inv h
  refine op0 (sp_mul rfl rfl rfl h5) rfl trivial rfl rfl ?_
  refine op0 (sp_move rfl rfl) rfl trivial rfl rfl ?_
  obtain ⟨h6, h⟩ := chk_inv h
  refine op0 (sp_mul rfl rfl rfl h6) rfl trivial rfl rfl ?_
  refine op0 (sp_move rfl rfl) rfl trivial rfl rfl ?_
  refine op0 (sp_move rfl rfl) rfl trivial rfl rfl ?_
  obtain ⟨h7, h⟩ := chk_inv h
  refine op0 (sp_add rfl rfl rfl h7) rfl trivial rfl rfl ?_
  obtain ⟨h8, h⟩ := chk_inv h
  refine op0 (sp_mul rfl rfl rfl h8) rfl trivial rfl rfl ?_
  obtain ⟨r4, h9, h⟩ := bind_inv h
  refine op0 (sp_call (avs := [.val (.int .i64 ((3600 : Int) * (Int.tmod offset2 6))), .val (.int .i64 ((3600 : Int) * ((24 : Int) + (Int.tmod hour1 2400)))), .val (.int .i64 ((3600 : Int) * ((Int.tmod offset2 6) + (Int.tmod by_3 6))))]) (need := []) (v := .agg [.val (.int .i64 r4.1), .ref 0]) (news := [.row 0 162 2 (List.map en_api_ZoneChange r4.2)]) rfl rfl rfl Try.call58 (atJ [] [] (fc_top_armTown h9) rfl rfl) (.inl (roAll rfl))) rfl trivial rfl rfl ?_
  refine op0 (sp_alloc 1 rfl Try.zeroValue165 rfl) rfl trivial rfl rfl ?_
  refine stoB 0 (cells' := [.val (.int .i64 r4.1), .ref 0]) rfl rfl trivial rfl rfl rfl rfl vt165 rfl rfl rfl ?_
  refine TL.nil ?_
  refine TC.seq ?_
  refine TC.region ?_
  refine op1 0 rfl (sp_loadBA rfl isBlk rfl vt165 rfl rfl) rfl trivial rfl rfl ?_
  refine op0 (sp_move rfl rfl) rfl trivial rfl rfl ?_
  obtain ⟨h10, h⟩ := chk_inv h
  refine op0 (sp_mul rfl rfl rfl h10) rfl trivial rfl rfl ?_
  obtain ⟨h11, h⟩ := chk_inv h
  refine op0 (sp_sub rfl rfl rfl h11) rfl trivial rfl rfl ?_
  obtain ⟨r5, h12, h⟩ := bind_inv h
  refine op1 1 rfl (sp_call (avs := [.agg [.val (.int .i64 r4.1), .ref 0], .val (.int .i64 (((3600 : Int) * ((24 : Int) + (Int.tmod hour1 2400))) - 1))]) (need := [.row 0 162 2 (List.map en_api_ZoneChange r4.2)]) (v := .tup [.val (.int .i64 r5.1), .val (.int .i64 r5.2.1), .val (.int .i64 r5.2.2)]) (news := []) rfl rfl rfl Try.call55 (atJ [] [] (fc_zone_Says h12) rfl rfl) (.inr (fun x hx => nomatch hx))) rfl trivial rfl rfl ?_
  refine op0 (sp_move rfl rfl) rfl trivial rfl rfl ?_
  refine op0 (sp_extract rfl rfl rfl) rfl trivial rfl rfl ?_
  refine op0 (sp_extract rfl rfl rfl) rfl trivial rfl rfl ?_
  refine op0 (sp_extract rfl rfl rfl) rfl trivial rfl rfl ?_
  refine op0 (sp_assign rfl rfl) rfl trivial rfl rfl ?_
  refine op0 (sp_assign rfl rfl) rfl trivial rfl rfl ?_
  refine op0 (sp_assign rfl rfl) rfl trivial rfl rfl ?_
  refine TL.nil ?_
  refine TC.seq ?_
  refine TC.region ?_
  refine op1 0 rfl (sp_loadBA rfl isBlk rfl vt165 rfl rfl) rfl trivial rfl rfl ?_
  refine op0 (sp_move rfl rfl) rfl trivial rfl rfl ?_
  obtain ⟨h13, h⟩ := chk_inv h
  refine op0 (sp_mul rfl rfl rfl h13) rfl trivial rfl rfl ?_
  obtain ⟨r6, h14, h⟩ := bind_inv h
  refine op1 1 rfl (sp_call (avs := [.agg [.val (.int .i64 r4.1), .ref 0], .val (.int .i64 ((3600 : Int) * ((24 : Int) + (Int.tmod hour1 2400))))]) (need := [.row 0 162 2 (List.map en_api_ZoneChange r4.2)]) (v := .tup [.val (.int .i64 r6.1), .val (.int .i64 r6.2.1), .val (.int .i64 r6.2.2)]) (news := []) rfl rfl rfl Try.call55 (atJ [] [] (fc_zone_Says h14) rfl rfl) (.inr (fun x hx => nomatch hx))) rfl trivial rfl rfl ?_
  refine op0 (sp_move rfl rfl) rfl trivial rfl rfl ?_
  refine op0 (sp_extract rfl rfl rfl) rfl trivial rfl rfl ?_
  refine op0 (sp_extract rfl rfl rfl) rfl trivial rfl rfl ?_
  refine op0 (sp_extract rfl rfl rfl) rfl trivial rfl rfl ?_
  refine op0 (sp_assign rfl rfl) rfl trivial rfl rfl ?_
  refine op0 (sp_assign rfl rfl) rfl trivial rfl rfl ?_
  refine op0 (sp_assign rfl rfl) rfl trivial rfl rfl ?_
  refine TL.nil ?_
  refine TC.seq ?_
  refine TC.seq ?_
  refine TC.region ?_
  refine op0 (sp_move rfl rfl) rfl trivial rfl rfl ?_
  refine op0 (sp_neq rfl rfl rfl) rfl trivial rfl rfl ?_
  refine op0 (sp_move rfl rfl) rfl trivial rfl rfl ?_
  rcases cond_cases h with ⟨h15, h⟩ | ⟨h15, h⟩
  · refine (boolLit 66 rfl h15).2 ?_
    refine opSkip rfl ⟨_, rfl, .inl rfl⟩ rfl ?_
    refine opSkip rfl ⟨_, rfl, .inl rfl⟩ rfl ?_
    refine op0 (sp_pickT rfl rfl rfl) rfl trivial rfl rfl ?_
    refine op0 (sp_move rfl rfl) rfl trivial rfl rfl ?_
    refine opSkip rfl ⟨_, rfl, .inl rfl⟩ rfl ?_
    refine opSkip rfl ⟨_, rfl, .inl rfl⟩ rfl ?_
    refine opSkip rfl ⟨_, rfl, .inl rfl⟩ rfl ?_
    refine opSkip rfl ⟨_, rfl, .inl rfl⟩ rfl ?_
    refine opSkip rfl ⟨_, rfl, .inl rfl⟩ rfl ?_
    refine opSkip rfl ⟨_, rfl, .inl rfl⟩ rfl ?_
    refine opSkip rfl ⟨_, rfl, .inl rfl⟩ rfl ?_
    refine opSkip rfl ⟨_, rfl, .inl rfl⟩ rfl ?_
    refine opSkip rfl ⟨_, rfl, .inl rfl⟩ rfl ?_
    refine opSkip rfl ⟨_, rfl, .inl rfl⟩ rfl ?_
    refine op0 (sp_pickT rfl rfl rfl) rfl trivial rfl rfl ?_
    refine op0 (sp_move rfl rfl) rfl trivial rfl rfl ?_
    refine opSkip rfl ⟨_, rfl, .inl rfl⟩ rfl ?_
    refine opSkip rfl ⟨_, rfl, .inl rfl⟩ rfl ?_
    refine opSkip rfl ⟨_, rfl, .inl rfl⟩ rfl ?_
    refine opSkip rfl ⟨_, rfl, .inl rfl⟩ rfl ?_
    refine opSkip rfl ⟨_, rfl, .inl rfl⟩ rfl ?_
    refine opSkip rfl ⟨_, rfl, .inl rfl⟩ rfl ?_
    refine opSkip rfl ⟨_, rfl, .inl rfl⟩ rfl ?_
    refine opSkip rfl ⟨_, rfl, .inl rfl⟩ rfl ?_
    refine opSkip rfl ⟨_, rfl, .inl rfl⟩ rfl ?_
    refine opSkip rfl ⟨_, rfl, .inl rfl⟩ rfl ?_
    refine opSkip rfl ⟨_, rfl, .inl rfl⟩ rfl ?_
    refine op0 (sp_pickT rfl rfl rfl) rfl trivial rfl rfl ?_
    refine TL.nil ?_
    refine TC.condT rfl ?_
    refine TC.seq ?_
    refine TC.region ?_
    refine op0 (sp_assign rfl rfl) rfl trivial rfl rfl ?_
    refine TL.nil ?_
    cases h
    exact retJ [] (.tmp rfl .nil) rfl trivial rfl rfl
  · refine (boolLit 66 rfl h15).2 ?_
    refine op0 (sp_move rfl rfl) rfl ⟨_, rfl, rfl⟩ rfl rfl ?_
    refine op0 (sp_neq rfl rfl rfl) rfl ⟨_, rfl, rfl⟩ rfl rfl ?_
    refine op0 (sp_pickF rfl rfl rfl) rfl trivial rfl rfl ?_
    refine op0 (sp_move rfl rfl) rfl trivial rfl rfl ?_
    rcases cond_cases h with ⟨h16, h⟩ | ⟨h16, h⟩
    · refine (boolLit 70 rfl h16).2 ?_
      refine opSkip rfl ⟨_, rfl, .inl rfl⟩ rfl ?_
      refine opSkip rfl ⟨_, rfl, .inl rfl⟩ rfl ?_
      refine opSkip rfl ⟨_, rfl, .inl rfl⟩ rfl ?_
      refine opSkip rfl ⟨_, rfl, .inl rfl⟩ rfl ?_
      refine opSkip rfl ⟨_, rfl, .inl rfl⟩ rfl ?_
      refine opSkip rfl ⟨_, rfl, .inl rfl⟩ rfl ?_
      refine opSkip rfl ⟨_, rfl, .inl rfl⟩ rfl ?_
      refine opSkip rfl ⟨_, rfl, .inl rfl⟩ rfl ?_
      refine opSkip rfl ⟨_, rfl, .inl rfl⟩ rfl ?_
      refine opSkip rfl ⟨_, rfl, .inl rfl⟩ rfl ?_
      refine op0 (sp_pickT rfl rfl rfl) rfl trivial rfl rfl ?_
      refine op0 (sp_move rfl rfl) rfl trivial rfl rfl ?_
      refine opSkip rfl ⟨_, rfl, .inl rfl⟩ rfl ?_
      refine opSkip rfl ⟨_, rfl, .inl rfl⟩ rfl ?_
      refine opSkip rfl ⟨_, rfl, .inl rfl⟩ rfl ?_
      refine opSkip rfl ⟨_, rfl, .inl rfl⟩ rfl ?_
      refine opSkip rfl ⟨_, rfl, .inl rfl⟩ rfl ?_
      refine opSkip rfl ⟨_, rfl, .inl rfl⟩ rfl ?_
      refine opSkip rfl ⟨_, rfl, .inl rfl⟩ rfl ?_
      refine opSkip rfl ⟨_, rfl, .inl rfl⟩ rfl ?_
      refine opSkip rfl ⟨_, rfl, .inl rfl⟩ rfl ?_
      refine opSkip rfl ⟨_, rfl, .inl rfl⟩ rfl ?_
      refine opSkip rfl ⟨_, rfl, .inl rfl⟩ rfl ?_
      refine op0 (sp_pickT rfl rfl rfl) rfl trivial rfl rfl ?_
      refine TL.nil ?_
      refine TC.condT rfl ?_
      refine TC.seq ?_
      refine TC.region ?_
      refine op0 (sp_assign rfl rfl) rfl trivial rfl rfl ?_
      refine TL.nil ?_
      cases h
      exact retJ [] (.tmp rfl .nil) rfl trivial rfl rfl
    · refine (boolLit 70 rfl h16).2 ?_
      refine op0 (sp_move rfl rfl) rfl ⟨_, rfl, rfl⟩ rfl rfl ?_
      obtain ⟨h17, h⟩ := chk_inv h
      refine op0 (sp_mul rfl rfl rfl h17) rfl ⟨_, rfl, rfl⟩ rfl rfl ?_
      refine op0 (sp_move rfl rfl) rfl ⟨_, rfl, rfl⟩ rfl rfl ?_
      obtain ⟨h18, h⟩ := chk_inv h
      refine op0 (sp_add rfl rfl rfl h18) rfl ⟨_, rfl, rfl⟩ rfl rfl ?_
      refine op0 (sp_move rfl rfl) rfl ⟨_, rfl, rfl⟩ rfl rfl ?_
      refine op0 (sp_move rfl rfl) rfl ⟨_, rfl, rfl⟩ rfl rfl ?_
      obtain ⟨h19, h⟩ := chk_inv h
      refine op0 (sp_add rfl rfl rfl h19) rfl ⟨_, rfl, rfl⟩ rfl rfl ?_
      obtain ⟨h20, h⟩ := chk_inv h
      refine op0 (sp_mul rfl rfl rfl h20) rfl ⟨_, rfl, rfl⟩ rfl rfl ?_
      obtain ⟨h21, h⟩ := chk_inv h
      refine op0 (sp_sub rfl rfl rfl h21) rfl ⟨_, rfl, rfl⟩ rfl rfl ?_
      refine op0 (sp_neq rfl rfl rfl) rfl ⟨_, rfl, rfl⟩ rfl rfl ?_
      refine op0 (sp_pickF rfl rfl rfl) rfl trivial rfl rfl ?_
      refine op0 (sp_move rfl rfl) rfl trivial rfl rfl ?_
      rcases cond_cases h with ⟨h22, h⟩ | ⟨h22, h⟩
      · refine (boolLit 82 rfl h22).2 ?_
        refine opSkip rfl ⟨_, rfl, .inl rfl⟩ rfl ?_
        refine opSkip rfl ⟨_, rfl, .inl rfl⟩ rfl ?_
        refine opSkip rfl ⟨_, rfl, .inl rfl⟩ rfl ?_
        refine opSkip rfl ⟨_, rfl, .inl rfl⟩ rfl ?_
        refine opSkip rfl ⟨_, rfl, .inl rfl⟩ rfl ?_
        refine opSkip rfl ⟨_, rfl, .inl rfl⟩ rfl ?_
        refine opSkip rfl ⟨_, rfl, .inl rfl⟩ rfl ?_
        refine opSkip rfl ⟨_, rfl, .inl rfl⟩ rfl ?_
        refine opSkip rfl ⟨_, rfl, .inl rfl⟩ rfl ?_
        refine opSkip rfl ⟨_, rfl, .inl rfl⟩ rfl ?_
        refine opSkip rfl ⟨_, rfl, .inl rfl⟩ rfl ?_
        refine op0 (sp_pickT rfl rfl rfl) rfl trivial rfl rfl ?_
        refine TL.nil ?_
        refine TC.condT rfl ?_
        refine TC.seq ?_
        refine TC.region ?_
        refine op0 (sp_assign rfl rfl) rfl trivial rfl rfl ?_
        refine TL.nil ?_
        cases h
        exact retJ [] (.tmp rfl .nil) rfl trivial rfl rfl
      · refine (boolLit 82 rfl h22).2 ?_
        refine op0 (sp_move rfl rfl) rfl ⟨_, rfl, rfl⟩ rfl rfl ?_
        obtain ⟨h23, h⟩ := chk_inv h
        refine op0 (sp_mul rfl rfl rfl h23) rfl ⟨_, rfl, rfl⟩ rfl rfl ?_
        refine op0 (sp_move rfl rfl) rfl ⟨_, rfl, rfl⟩ rfl rfl ?_
        obtain ⟨h24, h⟩ := chk_inv h
        refine op0 (sp_add rfl rfl rfl h24) rfl ⟨_, rfl, rfl⟩ rfl rfl ?_
        refine op0 (sp_move rfl rfl) rfl ⟨_, rfl, rfl⟩ rfl rfl ?_
        refine op0 (sp_move rfl rfl) rfl ⟨_, rfl, rfl⟩ rfl rfl ?_
        obtain ⟨h25, h⟩ := chk_inv h
        refine op0 (sp_add rfl rfl rfl h25) rfl ⟨_, rfl, rfl⟩ rfl rfl ?_
        refine op0 (sp_move rfl rfl) rfl ⟨_, rfl, rfl⟩ rfl rfl ?_
        obtain ⟨h26, h⟩ := chk_inv h
        refine op0 (sp_add rfl rfl rfl h26) rfl ⟨_, rfl, rfl⟩ rfl rfl ?_
        obtain ⟨h27, h⟩ := chk_inv h
        refine op0 (sp_mul rfl rfl rfl h27) rfl ⟨_, rfl, rfl⟩ rfl rfl ?_
        refine op0 (sp_neq rfl rfl rfl) rfl ⟨_, rfl, rfl⟩ rfl rfl ?_
        refine op0 (sp_pickF rfl rfl rfl) rfl trivial rfl rfl ?_
        refine TL.nil ?_
        refine TC.cond (b := (((r6.1 * 86400) + r6.2.1) != ((3600 : Int) * ((((24 : Int) + (Int.tmod hour1 2400)) + (Int.tmod offset2 6)) + (Int.tmod by_3 6))))) rfl (fun h28 => ?_) (fun h28 => ?_)
        · have h := cond_t h h28
          refine TC.seq ?_
          refine TC.region ?_
          refine op0 (sp_assign rfl rfl) rfl trivial rfl rfl ?_
          refine TL.nil ?_
          cases h
          exact retJ [] (.tmp rfl .nil) rfl trivial rfl rfl
        · have h := cond_f h h28
          refine subJ [] (ok_top_TopStrikeZone_j0 h) ?_ ?_ ?_
          · exact ⟨rfl, rfl, rfl, trivial⟩
          · exact trivial
          · rfl
end
end Go.Proofs.Ytgkoldcmbcbbpaa.Sy
