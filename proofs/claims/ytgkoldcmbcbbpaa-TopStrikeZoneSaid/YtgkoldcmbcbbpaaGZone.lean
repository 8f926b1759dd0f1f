/- What functions of the program compute, and that they do: printed by symgen.py. -/
import Derived.Test.YtgkoldcmbcbbpaaGLib
set_option linter.unusedSimpArgs false
set_option linter.unusedVariables false
namespace Go.Proofs.Ytgkoldcmbcbbpaa.Sy
open Go.RowKit
noncomputable section

/- zone_within_1 -/
def ev_zone_within_1 (n : Nat) (nn1 : Int) (c2 : Int) (c3 : Int) : Option Bool :=
  cond (decide (nn1 < c2)) (some true) (some (decide (c3 < nn1)))
set_option maxRecDepth 100000 in
set_option maxHeartbeats 2000000 in
theorem fc_zone_within_1 {n : Nat} {nn1 : Int} {c2 : Int} {c3 : Int} {r : Bool} (h : ev_zone_within_1 n nn1 c2 c3 = some r) : FC Try.prog 227 [.val (.int .i64 nn1), .ptr 0 0, .ptr 1 0] [.rob 0 [.val (.int .i64 c2)] 3, .rob 1 [.val (.int .i64 c3)] 3] (.val (.bool r)) [] := by
  refine introJ (nz := 13) Try.func227 rfl rfl rfl (fun w0 R0 env0 => ?_)
  rw [ev_zone_within_1] at h
  refine TC.seq ?_
  refine TC.region ?_
  refine op0 (sp_assign rfl rfl) rfl trivial rfl rfl ?_
  refine TL.nil ?_
  refine TC.seq ?_
  refine TC.region ?_
  refine op0 (sp_move rfl rfl) rfl trivial rfl rfl ?_
  refine op1 0 rfl (sp_loadB rfl isRob rfl vt3 rfl) rfl trivial rfl rfl ?_
  refine op0 (sp_lss rfl rfl rfl) rfl trivial rfl rfl ?_
  refine op0 (sp_move rfl rfl) rfl trivial rfl rfl ?_
  rcases cond_cases h with ⟨h1, h⟩ | ⟨h1, h⟩
  · refine (boolLit 8 rfl h1).2 ?_
    refine opSkip rfl ⟨_, rfl, .inl rfl⟩ rfl ?_
    refine opSkip rfl ⟨_, rfl, .inl rfl⟩ rfl ?_
    refine opSkip rfl ⟨_, rfl, .inl rfl⟩ rfl ?_
    refine op0 (sp_pickT rfl rfl rfl) rfl trivial rfl rfl ?_
    refine op0 (sp_assign rfl rfl) rfl trivial rfl rfl ?_
    refine TL.nil ?_
    cases h
    exact retJ [] (.tmp rfl .nil) rfl trivial rfl rfl
  · refine (boolLit 8 rfl h1).2 ?_
    refine op0 (sp_move rfl rfl) rfl ⟨_, rfl, rfl⟩ rfl rfl ?_
    refine op1 1 rfl (sp_loadB rfl isRob rfl vt3 rfl) rfl ⟨_, rfl, rfl⟩ rfl rfl ?_
    refine op0 (sp_gtr rfl rfl rfl) rfl ⟨_, rfl, rfl⟩ rfl rfl ?_
    refine op0 (sp_pickF rfl rfl rfl) rfl trivial rfl rfl ?_
    refine op0 (sp_assign rfl rfl) rfl trivial rfl rfl ?_
    refine TL.nil ?_
    cases h
    exact retJ [] (.tmp rfl .nil) rfl trivial rfl rfl
/- zone_within -/
def ev_zone_within (n : Nat) (least1 : Int) (most2 : Int) (l3 : List Int) : Option Bool :=
  (ev_slices_ContainsFunc_Lint_int n l3 (fun a => ev_zone_within_1 n a least1 most2)).bind fun r4 => some (!r4)
set_option maxRecDepth 100000 in
set_option maxHeartbeats 2000000 in
theorem fc_zone_within {n : Nat} {least1 : Int} {most2 : Int} {l3 : List Int} {r : Bool} (h : ev_zone_within n least1 most2 l3 = some r) : FC Try.prog 124 [.val (.int .i64 least1), .val (.int .i64 most2), .ref 0] [.ro 0 1 (List.map en_int l3)] (.val (.bool r)) [] := by
  refine introJ (nz := 11) Try.func124 rfl rfl rfl (fun w0 R0 env0 => ?_)
  rw [ev_zone_within] at h
  refine TC.seq ?_
  refine TC.region ?_
  refine op0 (sp_box 1 rfl rfl rfl rfl rfl) rfl trivial rfl rfl ?_
  refine op0 (sp_box 2 rfl rfl rfl rfl rfl) rfl trivial rfl rfl ?_
  refine op0 (sp_assign rfl rfl) rfl trivial rfl rfl ?_
  refine TL.nil ?_
  refine TC.seq ?_
  refine TC.region ?_
  refine op0 (sp_move rfl rfl) rfl trivial rfl rfl ?_
  refine op0 (sp_makeFunc (fi := []) (ca := [.tmp 3, .tmp 4]) (fa := []) (cb := [.ptr 1 0, .ptr 2 0]) rfl rfl rfl) rfl trivial rfl rfl ?_
  obtain ⟨r4, h1, h⟩ := bind_inv h
  refine opN (need := [.ro 0 1 (List.map en_int l3), .blk 1 [.val (.int .i64 least1)] 3, .blk 2 [.val (.int .i64 most2)] 3]) [2, 1, 0] ⟨rfl, rfl, rfl, trivial⟩ (sp_call (avs := [.ref 0, .fn 227 [] [.ptr 1 0, .ptr 2 0]]) (need := [.ro 0 1 (List.map en_int l3), .blk 1 [.val (.int .i64 least1)] 3, .blk 2 [.val (.int .i64 most2)] 3]) (v := .val (.bool r4)) (news := []) rfl rfl rfl Try.call142 (FC.needJ (need := [.ro 0 1 (List.map en_int l3), .rob 1 [.val (.int .i64 least1)] 3, .rob 2 [.val (.int .i64 most2)] 3]) (need' := [.rob 1 [.val (.int .i64 least1)] 3, .rob 2 [.val (.int .i64 most2)] 3, .ro 0 1 (List.map en_int l3)]) [1, 2, 0] ⟨rfl, rfl, rfl, trivial⟩ (FC.fnArg (args := [.ref 0, .ref 3]) (needC := [.rob 1 [.val (.int .i64 least1)] 3, .rob 2 [.val (.int .i64 most2)] 3]) (need := [.ro 0 1 (List.map en_int l3)]) 1 (first := []) (caps := [.ptr 1 0, .ptr 2 0]) (FC.needJ (need := [.any 3 (D.fn Try.prog fe_funcint_bool fd_funcint_bool (fun a => ev_zone_within_1 n a least1 most2)), .ro 0 1 (List.map en_int l3)]) (need' := [.ro 0 1 (List.map en_int l3), .any 3 (D.fn Try.prog fe_funcint_bool fd_funcint_bool (fun a => ev_zone_within_1 n a least1 most2))]) [1, 0] ⟨rfl, rfl, trivial⟩ (atJ [(1, 3)] [] (fc_slices_ContainsFunc_Lint_int h1) rfl rfl)) rfl Try.call227 (fun a b hab => atJ [(0, 1), (1, 2)] [] (fc_zone_within_1 hab) rfl rfl) rfl (fun _ => rfl) (fun _ => rfl) rfl rfl rfl rfl rfl rfl rfl)) (.inr (fun x hx => nomatch hx))) rfl trivial rfl rfl ?_
  refine op0 (sp_not rfl rfl) rfl trivial rfl rfl ?_
  refine op0 (sp_assign rfl rfl) rfl trivial rfl rfl ?_
  refine TL.nil ?_
  cases h
  exact retJ [] (.tmp rfl .nil) rfl trivial rfl rfl
/- zone_isOffset -/
def ev_zone_isOffset (n : Nat) (nn1 : Int) : Option Bool :=
  (ev_zone_within n (-43200) 43200 ([nn1] : List Int)).bind fun r2 => some r2
set_option maxRecDepth 100000 in
set_option maxHeartbeats 2000000 in
theorem fc_zone_isOffset {n : Nat} {nn1 : Int} {r : Bool} (h : ev_zone_isOffset n nn1 = some r) : FC Try.prog 226 [.val (.int .i64 nn1)] [] (.val (.bool r)) [] := by
  refine introJ (nz := 6) Try.func226 rfl rfl rfl (fun w0 R0 env0 => ?_)
  rw [ev_zone_isOffset] at h
  refine TC.seq ?_
  refine TC.region ?_
  refine op0 (sp_assign rfl rfl) rfl trivial rfl rfl ?_
  refine TL.nil ?_
  refine TC.seq ?_
  refine TC.region ?_
  refine op0 (sp_move rfl rfl) rfl trivial rfl rfl ?_
  refine op0 (sp_buildSlice (qs := [.val (.int .i64 nn1)]) (need := []) (els := List.map en_int ([nn1] : List Int)) 0 rfl sl50 (by decide) (by decide) rfl rfl rfl (.v (.nil)) (map_len fun _ => rfl) rfl rfl rfl) rfl trivial rfl rfl ?_
  obtain ⟨r2, h1, h⟩ := bind_inv h
  refine op1 0 rfl (sp_call (avs := [.val (.int .i64 (-43200)), .val (.int .i64 43200), .ref 0]) (need := [.row 0 3 1 (List.map en_int ([nn1] : List Int))]) (v := .val (.bool r2)) (news := []) rfl rfl rfl Try.call124 (atJ [] [] (fc_zone_within h1) rfl rfl) (.inr (fun x hx => nomatch hx))) rfl trivial rfl rfl ?_
  refine op0 (sp_assign rfl rfl) rfl trivial rfl rfl ?_
  refine TL.nil ?_
  cases h
  exact retJ [] (.tmp rfl .nil) rfl trivial rfl rfl
/- zone_Check -/
def ev_zone_Check_l0 (n : Nat) (z2 : List (Int × Int)) : Nat → Int → Int → Int → (List (Int × Int)) → Option Int
  | 0, _, _, _, _ => none
  | m + 1, i3, i4, i5, l6 => cond (decide (i4 < (z2.length : Int))) (idx l6 i4 fun x7 => chk (in64 (i3 + 1)) <| (ev_zone_within n (i3 + 1) 3155760000 ([x7.1] : List Int)).bind fun r8 => cond (!r8) (some 2) ((ev_zone_isOffset n x7.2).bind fun r9 => cond (!r9) (some 2) (chk (in64 (i4 + 1)) <| ev_zone_Check_l0 n z2 m x7.1 (i4 + 1) i5 l6))) ((ev_zone_isOffset n i5).bind fun r10 => cond (!r10) (some 2) (cond (decide ((12 : Int) < (l6.length : Int))) (some 2) (some 0)))
set_option maxRecDepth 100000 in
set_option maxHeartbeats 2000000 in
theorem ok_zone_Check_l0 {n : Nat} {w0 : World} {R0 : Nat → Prop} {env0 : Env} {r : Int} {z2 : List (Int × Int)} : ∀ (m : Nat) (i3 : Int) (i4 : Int) (i5 : Int) (l6 : List (Int × Int)), ev_zone_Check_l0 n z2 m i3 i4 i5 l6 = some r → TC Try.prog ⟨w0, fun _ => False, R0⟩ 39 (bodyPost Try.prog Try.f123 (Post ⟨w0, fun _ => False, R0⟩ env0 (.val (.int .i64 r)) [])) [.code (sub (bodyOf Try.f123) [1, 1, 0, 1, 0, 0, 0]), .code (sub (bodyOf Try.f123) [1, 1, 0, 1, 0, 0, 1]), .inLoop (sub (bodyOf Try.f123) [1, 1, 0, 1, 0, 0]), .inBlock 0, .code (sub (bodyOf Try.f123) [1, 1, 1])] ([(1, .ptr 1 0), (3, .val (.int .i64 i3)), (7, .ref 0), (8, .val (.int .i64 (z2.length : Int))), (9, .val (.int .i64 i4))]) ([.blk 1 [.val (.int .i64 i5), .ref 0] 165, .ro 0 2 (List.map en_api_ZoneChange l6)]) := by
  intro m
  induction m with
  | zero => intro i3 i4 i5 l6 h; exact none_no h
  | succ m ih =>
    intro i3 i4 i5 l6 h
    rw [ev_zone_Check_l0] at h
    refine TC.region ?_
    refine op0 (sp_lss rfl rfl rfl) rfl trivial rfl rfl ?_
    refine TL.nil ?_
    refine TC.seq ?_
    refine TC.cond (b := (decide (i4 < (z2.length : Int)))) rfl (fun h1 => ?_) (fun h1 => ?_)
    · have h := cond_t h h1
      refine TC.skip ?_
      refine TC.seq ?_
      refine TC.block ?_
      refine TC.seq ?_
      refine TC.region ?_
      obtain ⟨x7, h2, h3, h⟩ := idx_inv h
      refine op1 1 rfl (sp_indexS rfl rfl rfl isRo sl163 h2 (map_get _ h3)) rfl trivial rfl rfl ?_
      refine op1 1 rfl (sp_loadRA (i := (i4 : Int).toNat) (j := 0) (as_ := [.val (.int .i64 x7.1), .val (.int .i64 x7.2)]) (ns := []) rfl rfl isRo vt162 rfl (map_get _ h3) rfl rfl (by decide) (.v (.v (.nil))) (nodup_of_B rfl)) rfl trivial rfl rfl ?_
      refine op0 (sp_alloc 2 rfl Try.zeroValue162 rfl) rfl trivial rfl rfl ?_
      refine stoB 0 (cells' := [.val (.int .i64 x7.1), .val (.int .i64 x7.2)]) rfl rfl trivial rfl rfl rfl rfl vt162 rfl rfl rfl ?_
      refine TL.nil ?_
      refine TC.seq ?_
      refine TC.seq ?_
      refine TC.region ?_
      refine op0 (sp_move rfl rfl) rfl trivial rfl rfl ?_
      obtain ⟨h4, h⟩ := chk_inv h
      refine op0 (sp_add rfl rfl rfl h4) rfl trivial rfl rfl ?_
      refine op1 0 rfl (sp_fieldAddrB rfl isBlk rfl ft162_0 vt3 (by decide)) rfl trivial rfl rfl ?_
      refine op1 0 rfl (sp_loadB rfl isBlk rfl vt3 rfl) rfl trivial rfl rfl ?_
      refine op0 (sp_buildSlice (qs := [.val (.int .i64 x7.1)]) (need := []) (els := List.map en_int ([x7.1] : List Int)) 3 rfl sl50 (by decide) (by decide) rfl rfl rfl (.v (.nil)) (map_len fun _ => rfl) rfl rfl rfl) rfl trivial rfl rfl ?_
      obtain ⟨r8, h5, h⟩ := bind_inv h
      refine op1 0 rfl (sp_call (avs := [.val (.int .i64 (i3 + 1)), .val (.int .i64 3155760000), .ref 3]) (need := [.row 3 3 1 (List.map en_int ([x7.1] : List Int))]) (v := .val (.bool r8)) (news := []) rfl rfl rfl Try.call124 (atJ [(0, 3)] [] (fc_zone_within h5) rfl rfl) (.inr (fun x hx => nomatch hx))) rfl trivial rfl rfl ?_
      refine op0 (sp_not rfl rfl) rfl trivial rfl rfl ?_
      refine op0 (sp_move rfl rfl) rfl trivial rfl rfl ?_
      rcases cond_cases h with ⟨h6, h⟩ | ⟨h6, h⟩
      · refine (boolLit 20 rfl h6).2 ?_
        refine opSkip rfl ⟨_, rfl, .inl rfl⟩ rfl ?_
        refine opSkip rfl ⟨_, rfl, .inl rfl⟩ rfl ?_
        refine opSkip rfl ⟨_, rfl, .inl rfl⟩ rfl ?_
        refine opSkip rfl ⟨_, rfl, .inl rfl⟩ rfl ?_
        refine op0 (sp_pickT rfl rfl rfl) rfl trivial rfl rfl ?_
        refine TL.nil ?_
        refine TC.condT rfl ?_
        refine TC.seq ?_
        refine TC.region ?_
        refine op0 (sp_assign rfl rfl) rfl trivial rfl rfl ?_
        refine TL.nil ?_
        cases h
        exact retJ [] (.tmp rfl .nil) rfl trivial rfl rfl
      · refine (boolLit 20 rfl h6).2 ?_
        refine op1 1 rfl (sp_fieldAddrB rfl isBlk rfl ft162_1 vt3 (by decide)) rfl ⟨_, rfl, rfl⟩ rfl rfl ?_
        refine op1 1 rfl (sp_loadB rfl isBlk rfl vt3 rfl) rfl ⟨_, rfl, rfl⟩ rfl rfl ?_
        obtain ⟨r9, h7, h⟩ := bind_inv h
        refine op0 (sp_call (avs := [.val (.int .i64 x7.2)]) (need := []) (v := .val (.bool r9)) (news := []) rfl rfl rfl Try.call226 (atJ [] [] (fc_zone_isOffset h7) rfl rfl) (.inl (roAll rfl))) rfl ⟨_, rfl, rfl⟩ rfl rfl ?_
        refine op0 (sp_not rfl rfl) rfl ⟨_, rfl, rfl⟩ rfl rfl ?_
        refine op0 (sp_pickF rfl rfl rfl) rfl trivial rfl rfl ?_
        refine TL.nil ?_
        refine TC.cond (b := (!r9)) rfl (fun h8 => ?_) (fun h8 => ?_)
        · have h := cond_t h h8
          refine TC.seq ?_
          refine TC.region ?_
          refine op0 (sp_assign rfl rfl) rfl trivial rfl rfl ?_
          refine TL.nil ?_
          cases h
          exact retJ [] (.tmp rfl .nil) rfl trivial rfl rfl
        · have h := cond_f h h8
          refine TC.skip ?_
          refine TC.region ?_
          refine op1 1 rfl (sp_fieldAddrB rfl isBlk rfl ft162_0 vt3 (by decide)) rfl trivial rfl rfl ?_
          refine op1 1 rfl (sp_loadB rfl isBlk rfl vt3 rfl) rfl trivial rfl rfl ?_
          refine op0 (sp_assign rfl rfl) rfl trivial rfl rfl ?_
          refine TL.nil ?_
          refine TC.inBlock ?_
          refine TC.region ?_
          obtain ⟨h9, h⟩ := chk_inv h
          refine op0 (sp_add rfl rfl rfl h9) rfl trivial rfl rfl ?_
          refine op0 (sp_move rfl rfl) rfl trivial rfl rfl ?_
          refine TL.nil ?_
          refine TC.inLoop ?_
          refine TC.seq ?_
          refine subJ [] (ih _ _ _ _ h) ?_ ?_ ?_
          · exact ⟨rfl, rfl, rfl, rfl, rfl, trivial⟩
          · exact ⟨mem_at 2 rfl, mem_at 3 rfl, trivial⟩
          · rfl
    · have h := cond_f h h1
      refine TC.exit rfl ?_
      refine TC.seq ?_
      refine TC.seq ?_
      refine TC.region ?_
      refine op1 0 rfl (sp_fieldAddrB rfl isBlk rfl ft165_0 vt3 (by decide)) rfl trivial rfl rfl ?_
      refine op1 0 rfl (sp_loadB rfl isBlk rfl vt3 rfl) rfl trivial rfl rfl ?_
      obtain ⟨r10, h10, h⟩ := bind_inv h
      refine op0 (sp_call (avs := [.val (.int .i64 i5)]) (need := []) (v := .val (.bool r10)) (news := []) rfl rfl rfl Try.call226 (atJ [] [] (fc_zone_isOffset h10) rfl rfl) (.inl (roAll rfl))) rfl trivial rfl rfl ?_
      refine op0 (sp_not rfl rfl) rfl trivial rfl rfl ?_
      refine op0 (sp_move rfl rfl) rfl trivial rfl rfl ?_
      rcases cond_cases h with ⟨h11, h⟩ | ⟨h11, h⟩
      · refine (boolLit 33 rfl h11).2 ?_
        refine opSkip rfl ⟨_, rfl, .inl rfl⟩ rfl ?_
        refine opSkip rfl ⟨_, rfl, .inl rfl⟩ rfl ?_
        refine opSkip rfl ⟨_, rfl, .inl rfl⟩ rfl ?_
        refine opSkip rfl ⟨_, rfl, .inl rfl⟩ rfl ?_
        refine op0 (sp_pickT rfl rfl rfl) rfl trivial rfl rfl ?_
        refine TL.nil ?_
        refine TC.condT rfl ?_
        refine TC.seq ?_
        refine TC.region ?_
        refine op0 (sp_assign rfl rfl) rfl trivial rfl rfl ?_
        refine TL.nil ?_
        cases h
        exact retJ [] (.tmp rfl .nil) rfl trivial rfl rfl
      · refine (boolLit 33 rfl h11).2 ?_
        refine op1 0 rfl (sp_fieldAddrB rfl isBlk rfl ft165_1 vt163 (by decide)) rfl ⟨_, rfl, rfl⟩ rfl rfl ?_
        refine op1 0 rfl (sp_loadB rfl isBlk rfl vt163 rfl) rfl ⟨_, rfl, rfl⟩ rfl rfl ?_
        refine op1 1 rfl (sp_lenM (N := l6.length) (len_map _ _) rfl rfl isRo Try.underlying163) rfl ⟨_, rfl, rfl⟩ rfl rfl ?_
        refine op0 (sp_gtr rfl rfl rfl) rfl ⟨_, rfl, rfl⟩ rfl rfl ?_
        refine op0 (sp_pickF rfl rfl rfl) rfl trivial rfl rfl ?_
        refine TL.nil ?_
        refine TC.cond (b := (decide ((12 : Int) < (l6.length : Int)))) rfl (fun h12 => ?_) (fun h12 => ?_)
        · have h := cond_t h h12
          refine TC.seq ?_
          refine TC.region ?_
          refine op0 (sp_assign rfl rfl) rfl trivial rfl rfl ?_
          refine TL.nil ?_
          cases h
          exact retJ [] (.tmp rfl .nil) rfl trivial rfl rfl
        · have h := cond_f h h12
          refine TC.skip ?_
          refine TC.seq ?_
          refine TC.region ?_
          refine op0 (sp_assign rfl rfl) rfl trivial rfl rfl ?_
          refine TL.nil ?_
          cases h
          exact retJ [] (.tmp rfl .nil) rfl trivial rfl rfl
def ev_zone_Check (n : Nat) (z1 : Int) (z2 : List (Int × Int)) : Option Int :=
  ev_zone_Check_l0 n z2 n 0 0 z1 z2
set_option maxRecDepth 100000 in
set_option maxHeartbeats 2000000 in
theorem fc_zone_Check {n : Nat} {z1 : Int} {z2 : List (Int × Int)} {r : Int} (h : ev_zone_Check n z1 z2 = some r) : FC Try.prog 123 [.agg [.val (.int .i64 z1), .ref 0]] [.ro 0 2 (List.map en_api_ZoneChange z2)] (.val (.int .i64 r)) [] := by
  refine introJ (nz := 39) Try.func123 rfl rfl rfl (fun w0 R0 env0 => ?_)
  rw [ev_zone_Check] at h
  refine TC.seq ?_
  refine TC.region ?_
  refine op0 (sp_box 1 rfl rfl rfl rfl rfl) rfl trivial rfl rfl ?_
  refine op0 (sp_assign rfl rfl) rfl trivial rfl rfl ?_
  refine TL.nil ?_
  refine TC.seq ?_
  refine TC.region ?_
  refine op0 (sp_assign rfl rfl) rfl trivial rfl rfl ?_
  refine TL.nil ?_
  refine TC.seq ?_
  refine TC.seq ?_
  refine TC.region ?_
  refine op1 0 rfl (sp_fieldAddrB rfl isBlk rfl ft165_1 vt163 (by decide)) rfl trivial rfl rfl ?_
  refine op1 0 rfl (sp_loadB rfl isBlk rfl vt163 rfl) rfl trivial rfl rfl ?_
  refine op1 1 rfl (sp_lenM (N := z2.length) (len_map _ _) rfl rfl isRo Try.underlying163) rfl trivial rfl rfl ?_
  refine op0 (sp_move rfl rfl) rfl trivial rfl rfl ?_
  refine TL.nil ?_
  refine TC.block ?_
  refine TC.loop ?_
  refine TC.seq ?_
  refine subJ [] (ok_zone_Check_l0 _ _ _ _ _ h) ?_ ?_ ?_
  · exact ⟨rfl, rfl, rfl, rfl, rfl, trivial⟩
  · exact ⟨mem_at 0 rfl, mem_at 1 rfl, trivial⟩
  · rfl
/- zone_town_eras -/
def ev_zone_town_eras_l0 {σ1 : Type} (yb1 : (Int × Int × Int) → σ1 → Option (Bool × σ1)) (n : Nat) (z2 : List (Int × Int)) : Nat → Int → Int → Int → Int → (List (Int × Int)) → σ1 → Option σ1
  | 0, _, _, _, _, _, _ => none
  | m + 1, i4, i5, i6, i7, l8, y9 => cond (decide (i4 < (z2.length : Int))) (idx l8 i4 fun x10 => chk (in64 (x10.1 - 1)) <| (yb1 (i5, (x10.1 - 1), i7) y9).bind fun r11 => cond (!r11.1) (some r11.2) (chk (in64 (i4 + 1)) <| ev_zone_town_eras_l0 yb1 n z2 m (i4 + 1) x10.1 0 x10.2 l8 r11.2)) ((yb1 (i5, 3155760000, i7) y9).bind fun r12 => some r12.2)
set_option maxRecDepth 100000 in
set_option maxHeartbeats 2000000 in
theorem ok_zone_town_eras_l0 {σ1 : Type} {yb1 : (Int × Int × Int) → σ1 → Option (Bool × σ1)} {I1 : σ1 → Inv} (hI1 : Yields Try.prog ye_funczone_era_bool yn_funczone_era_bool yb1 I1) {n : Nat} {w0 : World} {M0 R0 : Nat → Prop} {env0 : Env} {df : List Deferred} {r : σ1} {z2 : List (Int × Int)} : ∀ (m : Nat) (i4 : Int) (i5 : Int) (i6 : Int) (i7 : Int) (l8 : List (Int × Int)) (y9 : σ1), ev_zone_town_eras_l0 yb1 n z2 m i4 i5 i6 i7 l8 y9 = some r → TC Try.prog ⟨w0, M0, R0⟩ ⟨40, none, df⟩ (bodyPostM Fence.wide 0 Try.prog Try.f129 (PostT ⟨w0, M0, R0⟩ env0 [1] (.tup []) [.inv 1 (I1 r)])) [.code (sub (bodyOf Try.f129) [1, 1, 0, 1, 0, 0, 0]), .code (sub (bodyOf Try.f129) [1, 1, 0, 1, 0, 0, 1]), .inLoop (sub (bodyOf Try.f129) [1, 1, 0, 1, 0, 0]), .inBlock 0, .code (sub (bodyOf Try.f129) [1, 1, 1])] ([(1, .ref 1), (4, .ptr 5 0), (13, .ref 0), (14, .val (.int .i64 (z2.length : Int))), (15, .val (.int .i64 i4))]) ([.blk 5 [.val (.int .i64 i5), .val (.int .i64 i6), .val (.int .i64 i7)] 295, .ro 0 2 (List.map en_api_ZoneChange l8), .inv 2 (marksI df), .pin 3 1 (env0 1), .inv 1 (I1 y9)]) := by
  intro m
  induction m with
  | zero => intro i4 i5 i6 i7 l8 y9 h; exact none_no h
  | succ m ih =>
    intro i4 i5 i6 i7 l8 y9 h
    rw [ev_zone_town_eras_l0] at h
    refine TC.region ?_
    refine op0 (sp_lss rfl rfl rfl) rfl trivial rfl rfl ?_
    refine TL.nil ?_
    refine TC.seq ?_
    refine TC.cond (b := (decide (i4 < (z2.length : Int)))) rfl (fun h1 => ?_) (fun h1 => ?_)
    · have h := cond_t h h1
      refine TC.skip ?_
      refine TC.seq ?_
      refine TC.block ?_
      refine TC.seq ?_
      refine TC.region ?_
      obtain ⟨x10, h2, h3, h⟩ := idx_inv h
      refine op1 1 rfl (sp_indexS rfl rfl rfl isRo sl163 h2 (map_get _ h3)) rfl trivial rfl rfl ?_
      refine op1 1 rfl (sp_loadRA (i := (i4 : Int).toNat) (j := 0) (as_ := [.val (.int .i64 x10.1), .val (.int .i64 x10.2)]) (ns := []) rfl rfl isRo vt162 rfl (map_get _ h3) rfl rfl (by decide) (.v (.v (.nil))) (nodup_of_B rfl)) rfl trivial rfl rfl ?_
      refine op0 (sp_alloc 6 rfl Try.zeroValue162 rfl) rfl trivial rfl rfl ?_
      refine stoB 0 (cells' := [.val (.int .i64 x10.1), .val (.int .i64 x10.2)]) rfl rfl trivial rfl rfl rfl rfl vt162 rfl rfl rfl ?_
      refine TL.nil ?_
      refine TC.seq ?_
      refine TC.region ?_
      refine op1 0 rfl (sp_fieldAddrB rfl isBlk rfl ft162_0 vt3 (by decide)) rfl trivial rfl rfl ?_
      refine op1 0 rfl (sp_loadB rfl isBlk rfl vt3 rfl) rfl trivial rfl rfl ?_
      obtain ⟨h4, h⟩ := chk_inv h
      refine op0 (sp_sub rfl rfl rfl h4) rfl trivial rfl rfl ?_
      refine op1 1 rfl (sp_fieldAddrB rfl isBlk rfl ft295_0 vt34 (by decide)) rfl trivial rfl rfl ?_
      refine op1 1 rfl (sp_fieldAddrB rfl isBlk rfl ft34_1 vt3 (by decide)) rfl trivial rfl rfl ?_
      refine stoB 1 (cells' := [.val (.int .i64 i5), .val (.int .i64 (x10.1 - 1)), .val (.int .i64 i7)]) rfl rfl trivial rfl rfl rfl rfl vt3 rfl rfl rfl ?_
      refine TL.nil ?_
      refine TC.seq ?_
      refine TC.seq ?_
      refine TC.region ?_
      refine op0 (sp_move rfl rfl) rfl trivial rfl rfl ?_
      refine op1 1 rfl (sp_loadBA rfl isBlk rfl vt295 rfl rfl) rfl trivial rfl rfl ?_
      obtain ⟨r11, h5, h⟩ := bind_inv h
      refine opT (take := [.inv 1 (I1 y9)]) (need := []) (V' := [.inv 1 (I1 r11.2), .blk 6 [.val (.int .i64 x10.1), .val (.int .i64 x10.2)] 162, .blk 5 [.val (.int .i64 i5), .val (.int .i64 (x10.1 - 1)), .val (.int .i64 i7)] 295, .ro 0 2 (List.map en_api_ZoneChange l8), .inv 2 (marksI df), .pin 3 1 (env0 1)]) [5] [] (ts_yield hI1 (x := (i5, (x10.1 - 1), i7)) (b := r11.1) (avs := [.agg [.val (.int .i64 i5), .val (.int .i64 (x10.1 - 1)), .val (.int .i64 i7)]]) (need := []) [] h5 rfl rfl rfl rfl rfl rfl) trivial rfl ⟨rfl, trivial⟩ trivial rfl rfl ?_
      refine op0 (sp_not rfl rfl) rfl trivial rfl rfl ?_
      refine TL.nil ?_
      refine TC.cond (b := (!r11.1)) rfl (fun h6 => ?_) (fun h6 => ?_)
      · have h := cond_t h h6
        cases h
        exact retM [] 4 2 [1] rfl (.nil) rfl ⟨mem_at 0 rfl, trivial⟩ rfl rfl ⟨⟨_, mem_at 4 rfl⟩, trivial⟩ rfl
      · have h := cond_f h h6
        refine TC.skip ?_
        refine TC.region ?_
        refine op1 1 rfl (sp_fieldAddrB rfl isBlk rfl ft162_0 vt3 (by decide)) rfl trivial rfl rfl ?_
        refine op1 1 rfl (sp_loadB rfl isBlk rfl vt3 rfl) rfl trivial rfl rfl ?_
        refine op0 (sp_build (qs := [(0, .val (.int .i64 x10.1))]) rfl bt34 rfl rfl rfl rfl) rfl trivial rfl rfl ?_
        refine op1 1 rfl (sp_fieldAddrB rfl isBlk rfl ft162_1 vt3 (by decide)) rfl trivial rfl rfl ?_
        refine op1 1 rfl (sp_loadB rfl isBlk rfl vt3 rfl) rfl trivial rfl rfl ?_
        refine op0 (sp_build (qs := [(0, .agg [.val (.int .i64 x10.1), .val (.int .i64 0)]), (1, .val (.int .i64 x10.2))]) rfl bt295 rfl rfl rfl rfl) rfl trivial rfl rfl ?_
        refine stoB 2 (cells' := [.val (.int .i64 x10.1), .val (.int .i64 0), .val (.int .i64 x10.2)]) rfl rfl trivial rfl rfl rfl rfl vt295 rfl rfl rfl ?_
        refine TL.nil ?_
        refine TC.inBlock ?_
        refine TC.region ?_
        obtain ⟨h7, h⟩ := chk_inv h
        refine op0 (sp_add rfl rfl rfl h7) rfl trivial rfl rfl ?_
        refine op0 (sp_move rfl rfl) rfl trivial rfl rfl ?_
        refine TL.nil ?_
        refine TC.inLoop ?_
        refine TC.seq ?_
        refine subJ [] (ih _ _ _ _ _ _ h) ?_ ?_ ?_
        · exact ⟨rfl, rfl, rfl, rfl, rfl, trivial⟩
        · exact ⟨mem_at 2 rfl, mem_at 3 rfl, mem_at 4 rfl, mem_at 5 rfl, mem_at 0 rfl, trivial⟩
        · rfl
    · have h := cond_f h h1
      refine TC.exit rfl ?_
      refine TC.seq ?_
      refine TC.region ?_
      refine op1 0 rfl (sp_fieldAddrB rfl isBlk rfl ft295_0 vt34 (by decide)) rfl trivial rfl rfl ?_
      refine op1 0 rfl (sp_fieldAddrB rfl isBlk rfl ft34_1 vt3 (by decide)) rfl trivial rfl rfl ?_
      refine stoB 0 (cells' := [.val (.int .i64 i5), .val (.int .i64 3155760000), .val (.int .i64 i7)]) rfl rfl trivial rfl rfl rfl rfl vt3 rfl rfl rfl ?_
      refine TL.nil ?_
      refine TC.region ?_
      refine op0 (sp_move rfl rfl) rfl trivial rfl rfl ?_
      refine op1 0 rfl (sp_loadBA rfl isBlk rfl vt295 rfl rfl) rfl trivial rfl rfl ?_
      obtain ⟨r12, h8, h⟩ := bind_inv h
      refine opT (take := [.inv 1 (I1 y9)]) (need := []) (V' := [.inv 1 (I1 r12.2), .blk 5 [.val (.int .i64 i5), .val (.int .i64 3155760000), .val (.int .i64 i7)] 295, .ro 0 2 (List.map en_api_ZoneChange l8), .inv 2 (marksI df), .pin 3 1 (env0 1)]) [4] [] (ts_yield hI1 (x := (i5, 3155760000, i7)) (b := r12.1) (avs := [.agg [.val (.int .i64 i5), .val (.int .i64 3155760000), .val (.int .i64 i7)]]) (need := []) [] h8 rfl rfl rfl rfl rfl rfl) trivial rfl ⟨rfl, trivial⟩ trivial rfl rfl ?_
      refine TL.nil ?_
      cases h
      exact endM [] 3 2 [1] rfl (.nil) rfl ⟨mem_at 0 rfl, trivial⟩ rfl rfl ⟨⟨_, mem_at 3 rfl⟩, trivial⟩ rfl
def ev_zone_town_eras {σ1 : Type} (yb1 : (Int × Int × Int) → σ1 → Option (Bool × σ1)) (n : Nat) (z1 : Int) (z2 : List (Int × Int)) (y3 : σ1) : Option σ1 :=
  ev_zone_town_eras_l0 yb1 n z2 n 0 0 0 z1 z2 y3
set_option maxRecDepth 100000 in
set_option maxHeartbeats 2000000 in
theorem ft_zone_town_eras {σ1 : Type} {yb1 : (Int × Int × Int) → σ1 → Option (Bool × σ1)} {I1 : σ1 → Inv} (hI1 : Yields Try.prog ye_funczone_era_bool yn_funczone_era_bool yb1 I1) {n : Nat} {z1 : Int} {z2 : List (Int × Int)} {y3 : σ1} {r : σ1} (h : ev_zone_town_eras yb1 n z1 z2 y3 = some r) : FT Try.prog 129 [.agg [.val (.int .i64 z1), .ref 0], .ref 1] [.inv 1 (I1 y3)] [.ro 0 2 (List.map en_api_ZoneChange z2)] (.tup []) [.inv 1 (I1 r)] := by
  refine introM (nz := 40) 2 [(3, 1)] Try.func129 rfl rfl rfl rfl (fun w0 M0 R0 env0 => ?_)
  rw [ev_zone_town_eras] at h
  refine TC.seq ?_
  refine TC.region ?_
  refine op0 (sp_box 4 rfl rfl rfl rfl rfl) rfl trivial rfl rfl ?_
  refine TL.nil ?_
  refine TC.seq ?_
  refine TC.region ?_
  refine op1 0 rfl (sp_fieldAddrB rfl isBlk rfl ft297_0 vt165 (by decide)) rfl trivial rfl rfl ?_
  refine op1 0 rfl (sp_fieldAddrB rfl isBlk rfl ft165_0 vt3 (by decide)) rfl trivial rfl rfl ?_
  refine op1 0 rfl (sp_loadB rfl isBlk rfl vt3 rfl) rfl trivial rfl rfl ?_
  refine op0 (sp_build (qs := [(1, .val (.int .i64 z1))]) rfl bt295 rfl rfl rfl rfl) rfl trivial rfl rfl ?_
  refine op0 (sp_alloc 5 rfl Try.zeroValue295 rfl) rfl trivial rfl rfl ?_
  refine stoB 0 (cells' := [.val (.int .i64 0), .val (.int .i64 0), .val (.int .i64 z1)]) rfl rfl trivial rfl rfl rfl rfl vt295 rfl rfl rfl ?_
  refine TL.nil ?_
  refine TC.seq ?_
  refine TC.seq ?_
  refine TC.region ?_
  refine op1 1 rfl (sp_fieldAddrB rfl isBlk rfl ft297_0 vt165 (by decide)) rfl trivial rfl rfl ?_
  refine op1 1 rfl (sp_fieldAddrB rfl isBlk rfl ft165_1 vt163 (by decide)) rfl trivial rfl rfl ?_
  refine op1 1 rfl (sp_loadB rfl isBlk rfl vt163 rfl) rfl trivial rfl rfl ?_
  refine op1 5 rfl (sp_lenM (N := z2.length) (len_map _ _) rfl rfl isRo Try.underlying163) rfl trivial rfl rfl ?_
  refine op0 (sp_move rfl rfl) rfl trivial rfl rfl ?_
  refine TL.nil ?_
  refine TC.block ?_
  refine TC.loop ?_
  refine TC.seq ?_
  refine subJ [] (ok_zone_town_eras_l0 hI1 _ _ _ _ _ _ _ h) ?_ ?_ ?_
  · exact ⟨rfl, rfl, rfl, rfl, rfl, trivial⟩
  · exact ⟨mem_at 0 rfl, mem_at 5 rfl, mem_at 2 rfl, mem_at 3 rfl, mem_at 4 rfl, trivial⟩
  · rfl
/- zone_town_at -/
def ev_zone_town_at_r0 (n : Nat) (instant3 : Int) (x6 : Int × Int × Int) (y7 : Int × Int × Int) : Option (Nat × (Int × Int × Int)) :=
  (ev_zone_within n x6.1 x6.2.1 ([instant3] : List Int)).bind fun r8 => cond r8 (some (0, (x6.1, x6.2.1, x6.2.2))) (some (0, (y7.1, y7.2.1, y7.2.2)))
set_option maxRecDepth 100000 in
set_option maxHeartbeats 2000000 in
theorem ok_zone_town_at_r0 {n : Nat} {u5 : Value} {u4 : Value} {instant3 : Int} {x6 : Int × Int × Int} {y7 : Int × Int × Int} {r : Nat × (Int × Int × Int)} (h : ev_zone_town_at_r0 n instant3 x6 y7 = some r) (l0 : Nat) (rec : Loop) (hrd : rec.state = .ready) (w0 : World) (M0 R0 : Nat → Prop) : TC Try.prog ⟨w0, M0, R0⟩ ⟨20, some l0, []⟩ (RoundQ ⟨w0, M0, R0⟩ (.inv 8 (recI l0 (busyR rec)) :: [.pin 7 4 u5, .pin 6 3 u4, .blk 4 [.val (.int .i64 r.2.1), .val (.int .i64 r.2.2.1), .val (.int .i64 r.2.2.2)] 295, .blk 3 [.val (.int .i64 instant3)] 3]) [] r.1) [.code (sub (bodyOf Try.f125) [1, 0, 1, 0, 0]), .beginRound, .code (sub (bodyOf Try.f125) [1, 0, 1, 0, 1])] (pSlots [8] (ye_funczone_era_bool x6) [(3, .ptr 3 0), (4, .ptr 4 0)]) (.inv 8 (recI l0 rec) :: yn_funczone_era_bool x6 ++ (fun y7 : Int × Int × Int => [.pin 7 4 u5, .pin 6 3 u4, .blk 4 [.val (.int .i64 y7.1), .val (.int .i64 y7.2.1), .val (.int .i64 y7.2.2)] 295, .blk 3 [.val (.int .i64 instant3)] 3]) y7) := by
  rw [ev_zone_town_at_r0] at h
  refine subJ (s' := [(3, .ptr 3 0), (4, .ptr 4 0), (8, .agg [.val (.int .i64 x6.1), .val (.int .i64 x6.2.1), .val (.int .i64 x6.2.2)])]) (V' := [.inv 8 (recI l0 rec), .pin 7 4 u5, .pin 6 3 u4, .blk 4 [.val (.int .i64 y7.1), .val (.int .i64 y7.2.1), .val (.int .i64 y7.2.2)] 295, .blk 3 [.val (.int .i64 instant3)] 3]) [] ?_ ⟨rfl, rfl, rfl, trivial⟩ ⟨mem_at 0 rfl, mem_at 1 rfl, mem_at 2 rfl, mem_at 3 rfl, mem_at 4 rfl, trivial⟩ rfl
  refine TC.region ?_
  refine op0 (sp_alloc 9 rfl Try.zeroValue295 rfl) rfl trivial rfl rfl ?_
  refine stoB 0 (cells' := [.val (.int .i64 x6.1), .val (.int .i64 x6.2.1), .val (.int .i64 x6.2.2)]) rfl rfl trivial rfl rfl rfl rfl vt295 rfl rfl rfl ?_
  refine TL.nil ?_
  refine TC.beginRound 1 rfl hrd ?_
  refine TC.block ?_
  refine TC.seq ?_
  refine TC.region ?_
  refine op1 0 rfl (sp_fieldAddrB rfl isBlk rfl ft295_0 vt34 (by decide)) rfl trivial rfl rfl ?_
  refine op1 0 rfl (sp_fieldAddrB rfl isBlk rfl ft34_0 vt3 (by decide)) rfl trivial rfl rfl ?_
  refine op1 0 rfl (sp_loadB rfl isBlk rfl vt3 rfl) rfl trivial rfl rfl ?_
  refine op1 0 rfl (sp_fieldAddrB rfl isBlk rfl ft295_0 vt34 (by decide)) rfl trivial rfl rfl ?_
  refine op1 0 rfl (sp_fieldAddrB rfl isBlk rfl ft34_1 vt3 (by decide)) rfl trivial rfl rfl ?_
  refine op1 0 rfl (sp_loadB rfl isBlk rfl vt3 rfl) rfl trivial rfl rfl ?_
  refine op1 5 rfl (sp_loadB rfl isBlk rfl vt3 rfl) rfl trivial rfl rfl ?_
  refine op0 (sp_buildSlice (qs := [.val (.int .i64 instant3)]) (need := []) (els := List.map en_int ([instant3] : List Int)) 10 rfl sl50 (by decide) (by decide) rfl rfl rfl (.v (.nil)) (map_len fun _ => rfl) rfl rfl rfl) rfl trivial rfl rfl ?_
  obtain ⟨r8, h1, h⟩ := bind_inv h
  refine op1 0 rfl (sp_call (avs := [.val (.int .i64 x6.1), .val (.int .i64 x6.2.1), .ref 10]) (need := [.row 10 3 1 (List.map en_int ([instant3] : List Int))]) (v := .val (.bool r8)) (news := []) rfl rfl rfl Try.call124 (atJ [(0, 10)] [] (fc_zone_within h1) rfl rfl) (.inr (fun x hx => nomatch hx))) rfl trivial rfl rfl ?_
  refine TL.nil ?_
  refine TC.cond (b := r8) rfl (fun h2 => ?_) (fun h2 => ?_)
  · have h := cond_t h h2
    refine TC.region ?_
    refine op1 1 rfl (sp_loadBA rfl isBlk rfl vt295 rfl rfl) rfl trivial rfl rfl ?_
    refine stoB 5 (cells' := [.val (.int .i64 x6.1), .val (.int .i64 x6.2.1), .val (.int .i64 x6.2.2)]) rfl rfl trivial rfl rfl rfl rfl vt295 rfl rfl rfl ?_
    refine TL.nil ?_
    refine TC.inBlock ?_
    cases h
    exact bodyEnd [] ⟨mem_at 2 rfl, mem_at 3 rfl, mem_at 4 rfl, mem_at 5 rfl, mem_at 6 rfl, trivial⟩ rfl
  · have h := cond_f h h2
    refine TC.skip ?_
    refine TC.inBlock ?_
    cases h
    exact bodyEnd [] ⟨mem_at 2 rfl, mem_at 3 rfl, mem_at 4 rfl, mem_at 5 rfl, mem_at 6 rfl, trivial⟩ rfl
def ev_zone_town_at (n : Nat) (z1 : Int) (z2 : List (Int × Int)) (instant3 : Int) : Option (Int × Int × Int) :=
  (ev_zone_town_eras (loopStep (ev_zone_town_at_r0 n instant3)) n z1 z2 ((0, 0, 0), 0)).bind fun q9 => cond (q9.2 == 0) (some (q9.1.1, q9.1.2.1, q9.1.2.2)) (none)
set_option maxRecDepth 100000 in
set_option maxHeartbeats 2000000 in
theorem ft_zone_town_at {n : Nat} {z1 : Int} {z2 : List (Int × Int)} {instant3 : Int} {r : Int × Int × Int} (h : ev_zone_town_at n z1 z2 instant3 = some r) : FT Try.prog 125 [.agg [.val (.int .i64 z1), .ref 0], .val (.int .i64 instant3)] [] [.ro 0 2 (List.map en_api_ZoneChange z2)] (.agg [.val (.int .i64 r.1), .val (.int .i64 r.2.1), .val (.int .i64 r.2.2)]) [] := by
  refine introM (nz := 20) 1 [] Try.func125 rfl rfl rfl rfl (fun w0 M0 R0 env0 => ?_)
  rw [ev_zone_town_at] at h
  refine TC.seq ?_
  refine TC.region ?_
  refine op0 (sp_box 2 rfl rfl rfl rfl rfl) rfl trivial rfl rfl ?_
  refine op0 (sp_box 3 rfl rfl rfl rfl rfl) rfl trivial rfl rfl ?_
  refine op0 (sp_alloc 4 rfl Try.zeroValue295 rfl) rfl trivial rfl rfl ?_
  refine TL.nil ?_
  refine TC.seq ?_
  refine TC.seq ?_
  refine TC.region ?_
  refine op1 2 rfl (sp_loadBA rfl isBlk rfl vt297 rfl rfl) rfl trivial rfl rfl ?_
  refine op0 (sp_makeFunc (fi := [.tmp 6]) (ca := []) (fa := [.agg [.val (.int .i64 z1), .ref 0]]) (cb := []) rfl rfl rfl) rfl trivial rfl rfl ?_
  refine TL.nil ?_
  refine TC.block ?_
  refine TC.pin 6 3 rfl rfl fun u4 => ?_
  refine TC.pin 7 4 rfl rfl fun u5 => ?_
  obtain ⟨q9, h3, h⟩ := bind_inv h
  refine rangeO (T := []) (T' := []) (k := 5) (gm := 1) (grec := 8) (S := [(3, .ptr 3 0), (4, .ptr 4 0)]) (V0 := (fun y7 : Int × Int × Int => [.pin 7 4 u5, .pin 6 3 u4, .blk 4 [.val (.int .i64 y7.1), .val (.int .i64 y7.2.1), .val (.int .i64 y7.2.2)] 295, .blk 3 [.val (.int .i64 instant3)] 3])) (needI := [.ro 0 2 (List.map en_api_ZoneChange z2)]) (ps := [8]) (jl := []) (ea := ye_funczone_era_bool) (en := yn_funczone_era_bool) (f := (ev_zone_town_at_r0 n instant3)) (s0 := ((0, 0, 0), 0)) (yf := q9) (v := .tup []) (fi := [.agg [.val (.int .i64 z1), .ref 0]]) (caps := [])
    ⟨fun x y r hr l rec hrd w0 M0 R0 => ok_zone_town_at_r0 (u5 := u5) (u4 := u4) hr l rec hrd w0 M0 R0, ⟨rfl, rfl, trivial⟩, At.mem (is := [0, 1, 2, 3]) ⟨rfl, rfl, rfl, rfl, trivial⟩, At.mem (is := [6]) ⟨rfl, trivial⟩, rfl, pinsIn [3, 4] [1, 0] ⟨⟨_, _, fun _ => rfl⟩, ⟨_, _, fun _ => rfl⟩, trivial⟩ rfl, rfl, fun _ => rfl, fun _ _ => rfl, fun _ => rfl, fun _ _ => rfl, fun _ => rfl, fun _ => rfl, fun _ => rfl, rfl, rfl, fun _ => rfl, rfl⟩
    rfl rfl Try.call129 (takesNil rfl) 5 rfl (fun I hI => atT [(1, 5)] [(1, 5)] (ft_zone_town_eras hI h3) rfl rfl rfl) (fun d => ?_)
  rcases cond_cases h with ⟨h4, h⟩ | ⟨h4, h⟩
  · refine done0 h4 ?_
    refine TC.inBlock ?_
    refine TC.seq ?_
    refine TC.region ?_
    refine op1 3 rfl (sp_loadBA rfl isBlk rfl vt295 rfl rfl) rfl trivial rfl rfl ?_
    refine stoB 3 (cells' := [.val (.int .i64 q9.1.1), .val (.int .i64 q9.1.2.1), .val (.int .i64 q9.1.2.2)]) rfl rfl trivial rfl rfl rfl rfl vt295 rfl rfl rfl ?_
    refine TL.nil ?_
    cases h
    exact retM [] 0 1 [] rfl (.cells rfl (mem_at 2 rfl) isBlk vt295 rfl rfl (.nil)) rfl trivial rfl rfl trivial rfl
  · exact none_no h
theorem fc_zone_town_at {n : Nat} {z1 : Int} {z2 : List (Int × Int)} {instant3 : Int} {r : Int × Int × Int} (h : ev_zone_town_at n z1 z2 instant3 = some r) : FC Try.prog 125 [.agg [.val (.int .i64 z1), .ref 0], .val (.int .i64 instant3)] [.ro 0 2 (List.map en_api_ZoneChange z2)] (.agg [.val (.int .i64 r.1), .val (.int .i64 r.2.1), .val (.int .i64 r.2.2)]) [] := (ft_zone_town_at h).toFC rfl
/- zone_era_says -/
def ev_zone_era_says (n : Nat) (x1 : Int) (x2 : Int) (x3 : Int) (at_4 : Int) : Option Int :=
  chk (in64 (at_4 + x3)) <| some (at_4 + x3)
set_option maxRecDepth 100000 in
set_option maxHeartbeats 2000000 in
theorem fc_zone_era_says {n : Nat} {x1 : Int} {x2 : Int} {x3 : Int} {at_4 : Int} {r : Int} (h : ev_zone_era_says n x1 x2 x3 at_4 = some r) : FC Try.prog 126 [.agg [.val (.int .i64 x1), .val (.int .i64 x2), .val (.int .i64 x3)], .val (.int .i64 at_4)] [] (.val (.int .i64 r)) [] := by
  refine introJ (nz := 9) Try.func126 rfl rfl rfl (fun w0 R0 env0 => ?_)
  rw [ev_zone_era_says] at h
  refine TC.seq ?_
  refine TC.region ?_
  refine op0 (sp_box 0 rfl rfl rfl rfl rfl) rfl trivial rfl rfl ?_
  refine op0 (sp_assign rfl rfl) rfl trivial rfl rfl ?_
  refine TL.nil ?_
  refine TC.seq ?_
  refine TC.region ?_
  refine op0 (sp_move rfl rfl) rfl trivial rfl rfl ?_
  refine op1 0 rfl (sp_fieldAddrB rfl isBlk rfl ft295_1 vt3 (by decide)) rfl trivial rfl rfl ?_
  refine op1 0 rfl (sp_loadB rfl isBlk rfl vt3 rfl) rfl trivial rfl rfl ?_
  obtain ⟨h1, h⟩ := chk_inv h
  refine op0 (sp_add rfl rfl rfl h1) rfl trivial rfl rfl ?_
  refine op0 (sp_assign rfl rfl) rfl trivial rfl rfl ?_
  refine TL.nil ?_
  cases h
  exact retJ [] (.tmp rfl .nil) rfl trivial rfl rfl
/- zone_modulo -/
def ev_zone_modulo (n : Nat) (nn1 : Int) (by_2 : Int) : Option Int :=
  chk (by_2 != 0) <| chk (in64 ((Int.tmod nn1 by_2) + by_2)) <| chk (by_2 != 0) <| some (Int.tmod ((Int.tmod nn1 by_2) + by_2) by_2)
set_option maxRecDepth 100000 in
set_option maxHeartbeats 2000000 in
theorem fc_zone_modulo {n : Nat} {nn1 : Int} {by_2 : Int} {r : Int} (h : ev_zone_modulo n nn1 by_2 = some r) : FC Try.prog 128 [.val (.int .i64 nn1), .val (.int .i64 by_2)] [] (.val (.int .i64 r)) [] := by
  refine introJ (nz := 12) Try.func128 rfl rfl rfl (fun w0 R0 env0 => ?_)
  rw [ev_zone_modulo] at h
  refine TC.seq ?_
  refine TC.region ?_
  refine op0 (sp_assign rfl rfl) rfl trivial rfl rfl ?_
  refine TL.nil ?_
  refine TC.seq ?_
  refine TC.region ?_
  refine op0 (sp_move rfl rfl) rfl trivial rfl rfl ?_
  refine op0 (sp_move rfl rfl) rfl trivial rfl rfl ?_
  obtain ⟨h1, h⟩ := chk_inv h
  refine op0 (sp_rem rfl rfl rfl h1) rfl trivial rfl rfl ?_
  refine op0 (sp_move rfl rfl) rfl trivial rfl rfl ?_
  obtain ⟨h2, h⟩ := chk_inv h
  refine op0 (sp_add rfl rfl rfl h2) rfl trivial rfl rfl ?_
  refine op0 (sp_move rfl rfl) rfl trivial rfl rfl ?_
  obtain ⟨h3, h⟩ := chk_inv h
  refine op0 (sp_rem rfl rfl rfl h3) rfl trivial rfl rfl ?_
  refine op0 (sp_assign rfl rfl) rfl trivial rfl rfl ?_
  refine TL.nil ?_
  cases h
  exact retJ [] (.tmp rfl .nil) rfl trivial rfl rfl
/- zone_down -/
def ev_zone_down (n : Nat) (nn1 : Int) (by_2 : Int) : Option Int :=
  (ev_zone_modulo n nn1 by_2).bind fun r3 => chk (in64 (nn1 - r3)) <| chk (by_2 != 0) <| chk (in64 (Int.tdiv (nn1 - r3) by_2)) <| some (Int.tdiv (nn1 - r3) by_2)
set_option maxRecDepth 100000 in
set_option maxHeartbeats 2000000 in
theorem fc_zone_down {n : Nat} {nn1 : Int} {by_2 : Int} {r : Int} (h : ev_zone_down n nn1 by_2 = some r) : FC Try.prog 127 [.val (.int .i64 nn1), .val (.int .i64 by_2)] [] (.val (.int .i64 r)) [] := by
  refine introJ (nz := 12) Try.func127 rfl rfl rfl (fun w0 R0 env0 => ?_)
  rw [ev_zone_down] at h
  refine TC.seq ?_
  refine TC.region ?_
  refine op0 (sp_assign rfl rfl) rfl trivial rfl rfl ?_
  refine TL.nil ?_
  refine TC.seq ?_
  refine TC.region ?_
  refine op0 (sp_move rfl rfl) rfl trivial rfl rfl ?_
  refine op0 (sp_move rfl rfl) rfl trivial rfl rfl ?_
  refine op0 (sp_move rfl rfl) rfl trivial rfl rfl ?_
  obtain ⟨r3, h1, h⟩ := bind_inv h
  refine op0 (sp_call (avs := [.val (.int .i64 nn1), .val (.int .i64 by_2)]) (need := []) (v := .val (.int .i64 r3)) (news := []) rfl rfl rfl Try.call128 (atJ [] [] (fc_zone_modulo h1) rfl rfl) (.inl (roAll rfl))) rfl trivial rfl rfl ?_
  obtain ⟨h2, h⟩ := chk_inv h
  refine op0 (sp_sub rfl rfl rfl h2) rfl trivial rfl rfl ?_
  refine op0 (sp_move rfl rfl) rfl trivial rfl rfl ?_
  obtain ⟨h3, h⟩ := chk_inv h
  obtain ⟨h4, h⟩ := chk_inv h
  refine op0 (sp_quo rfl rfl rfl h3 h4) rfl trivial rfl rfl ?_
  refine op0 (sp_assign rfl rfl) rfl trivial rfl rfl ?_
  refine TL.nil ?_
  cases h
  exact retJ [] (.tmp rfl .nil) rfl trivial rfl rfl
/- zone_Says -/
def ev_zone_Says (n : Nat) (z1 : Int) (z2 : List (Int × Int)) (at_3 : Int) : Option (Int × Int × Int) :=
  (ev_zone_Check n z1 z2).bind fun r4 => cond (r4 != 0) (some (0, 0, 2)) ((ev_zone_within n 0 3155760000 ([at_3] : List Int)).bind fun r5 => cond (!r5) (some (0, 0, 3)) ((ev_zone_town_at n z1 z2 at_3).bind fun r6 => (ev_zone_era_says n r6.1 r6.2.1 r6.2.2 at_3).bind fun r7 => (ev_zone_down n r7 86400).bind fun r8 => (ev_zone_modulo n r7 86400).bind fun r9 => some (r8, r9, 0)))
set_option maxRecDepth 100000 in
set_option maxHeartbeats 2000000 in
theorem fc_zone_Says {n : Nat} {z1 : Int} {z2 : List (Int × Int)} {at_3 : Int} {r : Int × Int × Int} (h : ev_zone_Says n z1 z2 at_3 = some r) : FC Try.prog 55 [.agg [.val (.int .i64 z1), .ref 0], .val (.int .i64 at_3)] [.ro 0 2 (List.map en_api_ZoneChange z2)] (.tup [.val (.int .i64 r.1), .val (.int .i64 r.2.1), .val (.int .i64 r.2.2)]) [] := by
  refine introJ (nz := 27) Try.func55 rfl rfl rfl (fun w0 R0 env0 => ?_)
  rw [ev_zone_Says] at h
  refine TC.seq ?_
  refine TC.region ?_
  refine op0 (sp_box 1 rfl rfl rfl rfl rfl) rfl trivial rfl rfl ?_
  refine op0 (sp_assign rfl rfl) rfl trivial rfl rfl ?_
  refine op0 (sp_assign rfl rfl) rfl trivial rfl rfl ?_
  refine op0 (sp_assign rfl rfl) rfl trivial rfl rfl ?_
  refine TL.nil ?_
  refine TC.seq ?_
  refine TC.block ?_
  refine TC.seq ?_
  refine TC.region ?_
  refine op1 0 rfl (sp_loadBA rfl isBlk rfl vt165 rfl rfl) rfl trivial rfl rfl ?_
  obtain ⟨r4, h1, h⟩ := bind_inv h
  refine op1 1 rfl (sp_call (avs := [.agg [.val (.int .i64 z1), .ref 0]]) (need := [.ro 0 2 (List.map en_api_ZoneChange z2)]) (v := .val (.int .i64 r4)) (news := []) rfl rfl rfl Try.call123 (atJ [] [] (fc_zone_Check h1) rfl rfl) (.inl (roAll rfl))) rfl trivial rfl rfl ?_
  refine op0 (sp_neq rfl rfl rfl) rfl trivial rfl rfl ?_
  refine op0 (sp_assign rfl rfl) rfl trivial rfl rfl ?_
  refine TL.nil ?_
  refine TC.cond (b := (r4 != 0)) rfl (fun h2 => ?_) (fun h2 => ?_)
  · have h := cond_t h h2
    refine TC.seq ?_
    refine TC.region ?_
    refine op0 (sp_assign rfl rfl) rfl trivial rfl rfl ?_
    refine op0 (sp_assign rfl rfl) rfl trivial rfl rfl ?_
    refine op0 (sp_assign rfl rfl) rfl trivial rfl rfl ?_
    refine TL.nil ?_
    cases h
    exact retJ [] (.tmp rfl (.tmp rfl (.tmp rfl .nil))) rfl trivial rfl rfl
  · have h := cond_f h h2
    refine TC.seq ?_
    refine TC.region ?_
    refine op0 (sp_move rfl rfl) rfl trivial rfl rfl ?_
    refine op0 (sp_buildSlice (qs := [.val (.int .i64 at_3)]) (need := []) (els := List.map en_int ([at_3] : List Int)) 2 rfl sl50 (by decide) (by decide) rfl rfl rfl (.v (.nil)) (map_len fun _ => rfl) rfl rfl rfl) rfl trivial rfl rfl ?_
    obtain ⟨r5, h3, h⟩ := bind_inv h
    refine op1 0 rfl (sp_call (avs := [.val (.int .i64 0), .val (.int .i64 3155760000), .ref 2]) (need := [.row 2 3 1 (List.map en_int ([at_3] : List Int))]) (v := .val (.bool r5)) (news := []) rfl rfl rfl Try.call124 (atJ [(0, 2)] [] (fc_zone_within h3) rfl rfl) (.inr (fun x hx => nomatch hx))) rfl trivial rfl rfl ?_
    refine op0 (sp_not rfl rfl) rfl trivial rfl rfl ?_
    refine op0 (sp_assign rfl rfl) rfl trivial rfl rfl ?_
    refine TL.nil ?_
    refine TC.cond (b := (!r5)) rfl (fun h4 => ?_) (fun h4 => ?_)
    · have h := cond_t h h4
      refine TC.seq ?_
      refine TC.region ?_
      refine op0 (sp_assign rfl rfl) rfl trivial rfl rfl ?_
      refine op0 (sp_assign rfl rfl) rfl trivial rfl rfl ?_
      refine op0 (sp_assign rfl rfl) rfl trivial rfl rfl ?_
      refine TL.nil ?_
      cases h
      exact retJ [] (.tmp rfl (.tmp rfl (.tmp rfl .nil))) rfl trivial rfl rfl
    · have h := cond_f h h4
      refine TC.skip ?_
      refine TC.inBlock ?_
      refine TC.seq ?_
      refine TC.region ?_
      refine op1 1 rfl (sp_loadBA rfl isBlk rfl vt165 rfl rfl) rfl trivial rfl rfl ?_
      refine op0 (sp_build (qs := [(0, .agg [.val (.int .i64 z1), .ref 0])]) rfl bt297 rfl rfl rfl rfl) rfl trivial rfl rfl ?_
      refine op0 (sp_move rfl rfl) rfl trivial rfl rfl ?_
      obtain ⟨r6, h5, h⟩ := bind_inv h
      refine op1 2 rfl (sp_call (avs := [.agg [.val (.int .i64 z1), .ref 0], .val (.int .i64 at_3)]) (need := [.ro 0 2 (List.map en_api_ZoneChange z2)]) (v := .agg [.val (.int .i64 r6.1), .val (.int .i64 r6.2.1), .val (.int .i64 r6.2.2)]) (news := []) rfl rfl rfl Try.call125 (atJ [] [] (fc_zone_town_at h5) rfl rfl) (.inl (roAll rfl))) rfl trivial rfl rfl ?_
      refine op0 (sp_move rfl rfl) rfl trivial rfl rfl ?_
      obtain ⟨r7, h6, h⟩ := bind_inv h
      refine op0 (sp_call (avs := [.agg [.val (.int .i64 r6.1), .val (.int .i64 r6.2.1), .val (.int .i64 r6.2.2)], .val (.int .i64 at_3)]) (need := []) (v := .val (.int .i64 r7)) (news := []) rfl rfl rfl Try.call126 (atJ [] [] (fc_zone_era_says h6) rfl rfl) (.inl (roAll rfl))) rfl trivial rfl rfl ?_
      refine op0 (sp_assign rfl rfl) rfl trivial rfl rfl ?_
      refine TL.nil ?_
      refine TC.seq ?_
      refine TC.region ?_
      refine op0 (sp_move rfl rfl) rfl trivial rfl rfl ?_
      obtain ⟨r8, h7, h⟩ := bind_inv h
      refine op0 (sp_call (avs := [.val (.int .i64 r7), .val (.int .i64 86400)]) (need := []) (v := .val (.int .i64 r8)) (news := []) rfl rfl rfl Try.call127 (atJ [] [] (fc_zone_down h7) rfl rfl) (.inl (roAll rfl))) rfl trivial rfl rfl ?_
      refine op0 (sp_move rfl rfl) rfl trivial rfl rfl ?_
      obtain ⟨r9, h8, h⟩ := bind_inv h
      refine op0 (sp_call (avs := [.val (.int .i64 r7), .val (.int .i64 86400)]) (need := []) (v := .val (.int .i64 r9)) (news := []) rfl rfl rfl Try.call128 (atJ [] [] (fc_zone_modulo h8) rfl rfl) (.inl (roAll rfl))) rfl trivial rfl rfl ?_
      refine op0 (sp_assign rfl rfl) rfl trivial rfl rfl ?_
      refine op0 (sp_assign rfl rfl) rfl trivial rfl rfl ?_
      refine op0 (sp_assign rfl rfl) rfl trivial rfl rfl ?_
      refine TL.nil ?_
      cases h
      exact retJ [] (.tmp rfl (.tmp rfl (.tmp rfl .nil))) rfl trivial rfl rfl
/- zone_era_minute -/
def ev_zone_era_minute (n : Nat) (x1 : Int) (x2 : Int) (x3 : Int) (at_4 : Int) : Option Int :=
  (ev_zone_era_says n x1 x2 x3 at_4).bind fun r5 => (ev_zone_down n r5 60).bind fun r6 => some r6
set_option maxRecDepth 100000 in
set_option maxHeartbeats 2000000 in
theorem fc_zone_era_minute {n : Nat} {x1 : Int} {x2 : Int} {x3 : Int} {at_4 : Int} {r : Int} (h : ev_zone_era_minute n x1 x2 x3 at_4 = some r) : FC Try.prog 228 [.agg [.val (.int .i64 x1), .val (.int .i64 x2), .val (.int .i64 x3)], .val (.int .i64 at_4)] [] (.val (.int .i64 r)) [] := by
  refine introJ (nz := 9) Try.func228 rfl rfl rfl (fun w0 R0 env0 => ?_)
  rw [ev_zone_era_minute] at h
  refine TC.seq ?_
  refine TC.region ?_
  refine op0 (sp_box 0 rfl rfl rfl rfl rfl) rfl trivial rfl rfl ?_
  refine op0 (sp_assign rfl rfl) rfl trivial rfl rfl ?_
  refine TL.nil ?_
  refine TC.seq ?_
  refine TC.region ?_
  refine op1 0 rfl (sp_loadBA rfl isBlk rfl vt295 rfl rfl) rfl trivial rfl rfl ?_
  refine op0 (sp_move rfl rfl) rfl trivial rfl rfl ?_
  obtain ⟨r5, h1, h⟩ := bind_inv h
  refine op0 (sp_call (avs := [.agg [.val (.int .i64 x1), .val (.int .i64 x2), .val (.int .i64 x3)], .val (.int .i64 at_4)]) (need := []) (v := .val (.int .i64 r5)) (news := []) rfl rfl rfl Try.call126 (atJ [] [] (fc_zone_era_says h1) rfl rfl) (.inl (roAll rfl))) rfl trivial rfl rfl ?_
  obtain ⟨r6, h2, h⟩ := bind_inv h
  refine op0 (sp_call (avs := [.val (.int .i64 r5), .val (.int .i64 60)]) (need := []) (v := .val (.int .i64 r6)) (news := []) rfl rfl rfl Try.call127 (atJ [] [] (fc_zone_down h2) rfl rfl) (.inl (roAll rfl))) rfl trivial rfl rfl ?_
  refine op0 (sp_assign rfl rfl) rfl trivial rfl rfl ?_
  refine TL.nil ?_
  cases h
  exact retJ [] (.tmp rfl .nil) rfl trivial rfl rfl
/- zone_era_minutes -/
def ev_zone_era_minutes (n : Nat) (x1 : Int) (x2 : Int) (x3 : Int) : Option (Int × Int) :=
  (ev_zone_era_minute n x1 x2 x3 x1).bind fun r4 => (ev_zone_era_minute n x1 x2 x3 x2).bind fun r5 => some (r4, r5)
set_option maxRecDepth 100000 in
set_option maxHeartbeats 2000000 in
theorem fc_zone_era_minutes {n : Nat} {x1 : Int} {x2 : Int} {x3 : Int} {r : Int × Int} (h : ev_zone_era_minutes n x1 x2 x3 = some r) : FC Try.prog 130 [.agg [.val (.int .i64 x1), .val (.int .i64 x2), .val (.int .i64 x3)]] [] (.agg [.val (.int .i64 r.1), .val (.int .i64 r.2)]) [] := by
  refine introJ (nz := 14) Try.func130 rfl rfl rfl (fun w0 R0 env0 => ?_)
  rw [ev_zone_era_minutes] at h
  refine TC.seq ?_
  refine TC.region ?_
  refine op0 (sp_box 0 rfl rfl rfl rfl rfl) rfl trivial rfl rfl ?_
  refine op0 (sp_alloc 1 rfl Try.zeroValue34 rfl) rfl trivial rfl rfl ?_
  refine TL.nil ?_
  refine TC.seq ?_
  obtain ⟨r4, h1, h⟩ := bind_inv h
  refine drawJ 9 [⟨.agg [.val (.int .i64 x1), .val (.int .i64 x2), .val (.int .i64 x3)], [], [.blk 0 [.val (.int .i64 x1), .val (.int .i64 x2), .val (.int .i64 x3)] 295], []⟩, ⟨.ptr 0 0, [], [.blk 0 [.val (.int .i64 x1), .val (.int .i64 x2), .val (.int .i64 x3)] 295], []⟩, ⟨.ptr 0 0, [], [.blk 0 [.val (.int .i64 x1), .val (.int .i64 x2), .val (.int .i64 x3)] 295], []⟩, ⟨.val (.int .i64 x1), [], [.blk 0 [.val (.int .i64 x1), .val (.int .i64 x2), .val (.int .i64 x3)] 295], []⟩, ⟨.val (.int .i64 r4), [], [], []⟩, ⟨.agg [.val (.int .i64 x1), .val (.int .i64 x2), .val (.int .i64 x3)], [], [.blk 0 [.val (.int .i64 x1), .val (.int .i64 x2), .val (.int .i64 x3)] 295], []⟩, ⟨.ptr 0 0, [], [.blk 0 [.val (.int .i64 x1), .val (.int .i64 x2), .val (.int .i64 x3)] 295], []⟩, ⟨.ptr 0 1, [], [.blk 0 [.val (.int .i64 x1), .val (.int .i64 x2), .val (.int .i64 x3)] 295], []⟩, ⟨.val (.int .i64 x2), [], [.blk 0 [.val (.int .i64 x1), .val (.int .i64 x2), .val (.int .i64 x3)] 295], []⟩] rfl ?_ rfl ?_ rfl ?_ ?_
  · kernel_rfl
  · kernel_rfl
  · exact DAll.op' (sp_loadBA rfl isBlk rfl vt295 rfl rfl) trivial rfl (From.ok (ps := [(none, 1)]) ⟨⟨rfl, rfl⟩, trivial⟩) (DAll.op' (sp_fieldAddrB rfl isBlk rfl ft295_0 vt34 (by decide)) trivial rfl (From.ok (ps := [(none, 1)]) ⟨⟨rfl, rfl⟩, trivial⟩) (DAll.op' (sp_fieldAddrB rfl isBlk rfl ft34_0 vt3 (by decide)) trivial rfl (From.ok (ps := [(none, 1)]) ⟨⟨rfl, rfl⟩, trivial⟩) (DAll.op' (sp_loadB rfl isBlk rfl vt3 rfl) trivial rfl (From.ok (ps := [(none, 1)]) ⟨⟨rfl, rfl⟩, trivial⟩) (DAll.op' (sp_call (avs := [.agg [.val (.int .i64 x1), .val (.int .i64 x2), .val (.int .i64 x3)], .val (.int .i64 x1)]) (need := []) (v := .val (.int .i64 r4)) (news := []) rfl rfl rfl Try.call228 (atJ [] [] (fc_zone_era_minute h1) rfl rfl) (.inl (roAll rfl))) trivial rfl (From.ok (ps := []) trivial) (DAll.op' (sp_loadBA rfl isBlk rfl vt295 rfl rfl) trivial rfl (From.ok (ps := [(none, 1)]) ⟨⟨rfl, rfl⟩, trivial⟩) (DAll.op' (sp_fieldAddrB rfl isBlk rfl ft295_0 vt34 (by decide)) trivial rfl (From.ok (ps := [(none, 1)]) ⟨⟨rfl, rfl⟩, trivial⟩) (DAll.op' (sp_fieldAddrB rfl isBlk rfl ft34_1 vt3 (by decide)) trivial rfl (From.ok (ps := [(none, 1)]) ⟨⟨rfl, rfl⟩, trivial⟩) (DAll.op' (sp_loadB rfl isBlk rfl vt3 rfl) trivial rfl (From.ok (ps := [(none, 1)]) ⟨⟨rfl, rfl⟩, trivial⟩) (.nil)))))))))
  obtain ⟨r5, h2, h⟩ := bind_inv h
  refine op0 (sp_call (avs := [.agg [.val (.int .i64 x1), .val (.int .i64 x2), .val (.int .i64 x3)], .val (.int .i64 x2)]) (need := []) (v := .val (.int .i64 r5)) (news := []) rfl rfl rfl Try.call228 (atJ [] [] (fc_zone_era_minute h2) rfl rfl) (.inl (roAll rfl))) rfl trivial rfl rfl ?_
  refine op0 (sp_build (qs := [(0, .val (.int .i64 r4)), (1, .val (.int .i64 r5))]) rfl bt34 rfl rfl rfl rfl) rfl trivial rfl rfl ?_
  refine stoB 0 (cells' := [.val (.int .i64 r4), .val (.int .i64 r5)]) rfl rfl trivial rfl rfl rfl rfl vt34 rfl rfl rfl ?_
  refine TL.nil ?_
  cases h
  exact retJ [] (.cells rfl (mem_at 0 rfl) isBlk vt34 rfl rfl (.nil)) rfl trivial rfl rfl
/- zone_era_instants -/
def ev_zone_era_instants (n : Nat) (x1 : Int) (x2 : Int) (x3 : Int) (minute4 : Int) : Option (Int × Int) :=
  chk (in64 (minute4 * 60)) <| chk (in64 ((minute4 * 60) - x3)) <| chk (in64 (((minute4 * 60) - x3) + 60)) <| chk (in64 ((((minute4 * 60) - x3) + 60) - 1)) <| some ((max x1 ((minute4 * 60) - x3)), (min x2 ((((minute4 * 60) - x3) + 60) - 1)))
set_option maxRecDepth 100000 in
set_option maxHeartbeats 2000000 in
theorem fc_zone_era_instants {n : Nat} {x1 : Int} {x2 : Int} {x3 : Int} {minute4 : Int} {r : Int × Int} (h : ev_zone_era_instants n x1 x2 x3 minute4 = some r) : FC Try.prog 229 [.agg [.val (.int .i64 x1), .val (.int .i64 x2), .val (.int .i64 x3)], .val (.int .i64 minute4)] [] (.agg [.val (.int .i64 r.1), .val (.int .i64 r.2)]) [] := by
  refine introJ (nz := 24) Try.func229 rfl rfl rfl (fun w0 R0 env0 => ?_)
  rw [ev_zone_era_instants] at h
  refine TC.seq ?_
  refine TC.region ?_
  refine op0 (sp_box 0 rfl rfl rfl rfl rfl) rfl trivial rfl rfl ?_
  refine op0 (sp_alloc 1 rfl Try.zeroValue34 rfl) rfl trivial rfl rfl ?_
  refine TL.nil ?_
  refine TC.seq ?_
  refine TC.region ?_
  refine op0 (sp_move rfl rfl) rfl trivial rfl rfl ?_
  obtain ⟨h1, h⟩ := chk_inv h
  refine op0 (sp_mul rfl rfl rfl h1) rfl trivial rfl rfl ?_
  refine op1 1 rfl (sp_fieldAddrB rfl isBlk rfl ft295_1 vt3 (by decide)) rfl trivial rfl rfl ?_
  refine op1 1 rfl (sp_loadB rfl isBlk rfl vt3 rfl) rfl trivial rfl rfl ?_
  obtain ⟨h2, h⟩ := chk_inv h
  refine op0 (sp_sub rfl rfl rfl h2) rfl trivial rfl rfl ?_
  refine op0 (sp_assign rfl rfl) rfl trivial rfl rfl ?_
  refine TL.nil ?_
  refine TC.seq ?_
  refine TC.region ?_
  refine op1 1 rfl (sp_fieldAddrB rfl isBlk rfl ft295_0 vt34 (by decide)) rfl trivial rfl rfl ?_
  refine op1 1 rfl (sp_fieldAddrB rfl isBlk rfl ft34_0 vt3 (by decide)) rfl trivial rfl rfl ?_
  refine op1 1 rfl (sp_loadB rfl isBlk rfl vt3 rfl) rfl trivial rfl rfl ?_
  refine op0 (sp_move rfl rfl) rfl trivial rfl rfl ?_
  refine op0 (sp_max rfl rfl rfl) rfl trivial rfl rfl ?_
  refine op1 1 rfl (sp_fieldAddrB rfl isBlk rfl ft295_0 vt34 (by decide)) rfl trivial rfl rfl ?_
  refine op1 1 rfl (sp_fieldAddrB rfl isBlk rfl ft34_1 vt3 (by decide)) rfl trivial rfl rfl ?_
  refine op1 1 rfl (sp_loadB rfl isBlk rfl vt3 rfl) rfl trivial rfl rfl ?_
  refine op0 (sp_move rfl rfl) rfl trivial rfl rfl ?_
  obtain ⟨h3, h⟩ := chk_inv h
  refine op0 (sp_add rfl rfl rfl h3) rfl trivial rfl rfl ?_
  obtain ⟨h4, h⟩ := chk_inv h
  refine op0 (sp_sub rfl rfl rfl h4) rfl trivial rfl rfl ?_
  refine op0 (sp_min rfl rfl rfl) rfl trivial rfl rfl ?_
  refine op0 (sp_build (qs := [(0, .val (.int .i64 (max x1 ((minute4 * 60) - x3)))), (1, .val (.int .i64 (min x2 ((((minute4 * 60) - x3) + 60) - 1))))]) rfl bt34 rfl rfl rfl rfl) rfl trivial rfl rfl ?_
  refine stoB 0 (cells' := [.val (.int .i64 (max x1 ((minute4 * 60) - x3))), .val (.int .i64 (min x2 ((((minute4 * 60) - x3) + 60) - 1)))]) rfl rfl trivial rfl rfl rfl rfl vt34 rfl rfl rfl ?_
  refine TL.nil ?_
  cases h
  exact retJ [] (.cells rfl (mem_at 0 rfl) isBlk vt34 rfl rfl (.nil)) rfl trivial rfl rfl
/- zone_spans_joined_1 -/
def ev_zone_spans_joined_1 (n : Nat) (a1 : Int) (a2 : Int) (b3 : Int) (b4 : Int) : Option Int :=
  (ev_cmp_Compare_int n a1 b3).bind fun r5 => (ev_cmp_Compare_int n a2 b4).bind fun r6 => (ev_cmp_Or_int n ([r5, r6] : List Int)).bind fun r7 => some r7
set_option maxRecDepth 100000 in
set_option maxHeartbeats 2000000 in
theorem fc_zone_spans_joined_1 {n : Nat} {a1 : Int} {a2 : Int} {b3 : Int} {b4 : Int} {r : Int} (h : ev_zone_spans_joined_1 n a1 a2 b3 b4 = some r) : FC Try.prog 231 [.agg [.val (.int .i64 a1), .val (.int .i64 a2)], .agg [.val (.int .i64 b3), .val (.int .i64 b4)]] [] (.val (.int .i64 r)) [] := by
  refine introJ (nz := 17) Try.func231 rfl rfl rfl (fun w0 R0 env0 => ?_)
  rw [ev_zone_spans_joined_1] at h
  refine TC.seq ?_
  refine TC.region ?_
  refine op0 (sp_box 0 rfl rfl rfl rfl rfl) rfl trivial rfl rfl ?_
  refine op0 (sp_box 1 rfl rfl rfl rfl rfl) rfl trivial rfl rfl ?_
  refine op0 (sp_assign rfl rfl) rfl trivial rfl rfl ?_
  refine TL.nil ?_
  refine TC.seq ?_
  obtain ⟨r5, h1, h⟩ := bind_inv h
  refine drawJ 9 [⟨.ptr 0 0, [], [.blk 0 [.val (.int .i64 a1), .val (.int .i64 a2)] 34], []⟩, ⟨.val (.int .i64 a1), [], [.blk 0 [.val (.int .i64 a1), .val (.int .i64 a2)] 34], []⟩, ⟨.ptr 1 0, [], [.blk 1 [.val (.int .i64 b3), .val (.int .i64 b4)] 34], []⟩, ⟨.val (.int .i64 b3), [], [.blk 1 [.val (.int .i64 b3), .val (.int .i64 b4)] 34], []⟩, ⟨.val (.int .i64 r5), [], [], []⟩, ⟨.ptr 0 1, [], [.blk 0 [.val (.int .i64 a1), .val (.int .i64 a2)] 34], []⟩, ⟨.val (.int .i64 a2), [], [.blk 0 [.val (.int .i64 a1), .val (.int .i64 a2)] 34], []⟩, ⟨.ptr 1 1, [], [.blk 1 [.val (.int .i64 b3), .val (.int .i64 b4)] 34], []⟩, ⟨.val (.int .i64 b4), [], [.blk 1 [.val (.int .i64 b3), .val (.int .i64 b4)] 34], []⟩] rfl ?_ rfl ?_ rfl ?_ ?_
  · kernel_rfl
  · kernel_rfl
  · exact DAll.op' (sp_fieldAddrB rfl isBlk rfl ft34_0 vt3 (by decide)) trivial rfl (From.ok (ps := [(none, 1)]) ⟨⟨rfl, rfl⟩, trivial⟩) (DAll.op' (sp_loadB rfl isBlk rfl vt3 rfl) trivial rfl (From.ok (ps := [(none, 1)]) ⟨⟨rfl, rfl⟩, trivial⟩) (DAll.op' (sp_fieldAddrB rfl isBlk rfl ft34_0 vt3 (by decide)) trivial rfl (From.ok (ps := [(none, 0)]) ⟨⟨rfl, rfl⟩, trivial⟩) (DAll.op' (sp_loadB rfl isBlk rfl vt3 rfl) trivial rfl (From.ok (ps := [(none, 0)]) ⟨⟨rfl, rfl⟩, trivial⟩) (DAll.op' (sp_call (avs := [.val (.int .i64 a1), .val (.int .i64 b3)]) (need := []) (v := .val (.int .i64 r5)) (news := []) rfl rfl rfl Try.call213 (atJ [] [] (fc_cmp_Compare_int h1) rfl rfl) (.inl (roAll rfl))) trivial rfl (From.ok (ps := []) trivial) (DAll.op' (sp_fieldAddrB rfl isBlk rfl ft34_1 vt3 (by decide)) trivial rfl (From.ok (ps := [(none, 1)]) ⟨⟨rfl, rfl⟩, trivial⟩) (DAll.op' (sp_loadB rfl isBlk rfl vt3 rfl) trivial rfl (From.ok (ps := [(none, 1)]) ⟨⟨rfl, rfl⟩, trivial⟩) (DAll.op' (sp_fieldAddrB rfl isBlk rfl ft34_1 vt3 (by decide)) trivial rfl (From.ok (ps := [(none, 0)]) ⟨⟨rfl, rfl⟩, trivial⟩) (DAll.op' (sp_loadB rfl isBlk rfl vt3 rfl) trivial rfl (From.ok (ps := [(none, 0)]) ⟨⟨rfl, rfl⟩, trivial⟩) (.nil)))))))))
  obtain ⟨r6, h2, h⟩ := bind_inv h
  refine op0 (sp_call (avs := [.val (.int .i64 a2), .val (.int .i64 b4)]) (need := []) (v := .val (.int .i64 r6)) (news := []) rfl rfl rfl Try.call213 (atJ [] [] (fc_cmp_Compare_int h2) rfl rfl) (.inl (roAll rfl))) rfl trivial rfl rfl ?_
  refine op0 (sp_buildSlice (qs := [.val (.int .i64 r5), .val (.int .i64 r6)]) (need := []) (els := List.map en_int ([r5, r6] : List Int)) 2 rfl sl50 (by decide) (by decide) rfl rfl rfl (.v (.v (.nil))) (map_len fun _ => rfl) rfl rfl rfl) rfl trivial rfl rfl ?_
  obtain ⟨r7, h3, h⟩ := bind_inv h
  refine op1 0 rfl (sp_call (avs := [.ref 2]) (need := [.row 2 3 1 (List.map en_int ([r5, r6] : List Int))]) (v := .val (.int .i64 r7)) (news := []) rfl rfl rfl Try.call212 (atJ [(0, 2)] [] (fc_cmp_Or_int h3) rfl rfl) (.inr (fun x hx => nomatch hx))) rfl trivial rfl rfl ?_
  refine op0 (sp_assign rfl rfl) rfl trivial rfl rfl ?_
  refine TL.nil ?_
  cases h
  exact retJ [] (.tmp rfl .nil) rfl trivial rfl rfl
/- zone_spans_joined -/
def ev_zone_spans_joined_l0 (n : Nat) (r2 : (List (Int × Int))) : Nat → (List (Int × Int)) → Int → (List (Int × Int)) → Option ((List (Int × Int)) × (List (Int × Int)))
  | 0, _, _, _ => none
  | m + 1, l3, i4, l5 => cond (decide (i4 < (r2.length : Int))) (idx l5 i4 fun x6 => chk (in64 ((l3.length : Int) - 1)) <| cond (decide ((0 : Int) ≤ ((l3.length : Int) - 1))) (idx l3 ((l3.length : Int) - 1) fun x7 => chk (in64 (x7.2 + 1)) <| cond (decide (x6.1 ≤ (x7.2 + 1))) (chk (in64 (i4 + 1)) <| ev_zone_spans_joined_l0 n r2 m (List.set l3 (((l3.length : Int) - 1) : Int).toNat (x7.1, (max x7.2 x6.2))) (i4 + 1) l5) (chk (room 16 (l3.length + ([(x6.1, x6.2)] : List (Int × Int)).length)) <| chk (in64 (i4 + 1)) <| ev_zone_spans_joined_l0 n r2 m (l3 ++ ([(x6.1, x6.2)] : List (Int × Int))) (i4 + 1) l5)) (chk (room 16 (l3.length + ([(x6.1, x6.2)] : List (Int × Int)).length)) <| chk (in64 (i4 + 1)) <| ev_zone_spans_joined_l0 n r2 m (l3 ++ ([(x6.1, x6.2)] : List (Int × Int))) (i4 + 1) l5)) (some (l3, l5))
set_option maxRecDepth 100000 in
set_option maxHeartbeats 2000000 in
theorem ok_zone_spans_joined_l0 {n : Nat} {w0 : World} {M0 R0 : Nat → Prop} {env0 : Env} {df : List Deferred} {r : (List (Int × Int)) × (List (Int × Int))} {r2 : (List (Int × Int))} : ∀ (m : Nat) (l3 : List (Int × Int)) (i4 : Int) (l5 : List (Int × Int)), ev_zone_spans_joined_l0 n r2 m l3 i4 l5 = some r → TC Try.prog ⟨w0, M0, R0⟩ ⟨48, none, df⟩ (bodyPostM Fence.wide 0 Try.prog Try.f133 (PostT ⟨w0, M0, R0⟩ env0 [0] (.ref 500) [.row 500 34 2 (List.map en_api_Span r.1), .row 0 34 2 (List.map en_api_Span r.2)])) [.code (sub (bodyOf Try.f133) [1, 1, 0, 1, 0, 0, 0]), .code (sub (bodyOf Try.f133) [1, 1, 0, 1, 0, 0, 1]), .inLoop (sub (bodyOf Try.f133) [1, 1, 0, 1, 0, 0]), .inBlock 0, .code (sub (bodyOf Try.f133) [1, 1, 1])] ([(2, .ref 4), (8, .ref 0), (9, .val (.int .i64 (r2.length : Int))), (10, .val (.int .i64 i4))]) ([.row 4 34 2 (List.map en_api_Span l3), .row 0 34 2 (List.map en_api_Span l5), .inv 1 (marksI df), .pin 2 0 (env0 0)]) := by
  intro m
  induction m with
  | zero => intro l3 i4 l5 h; exact none_no h
  | succ m ih =>
    intro l3 i4 l5 h
    rw [ev_zone_spans_joined_l0] at h
    refine TC.region ?_
    refine op0 (sp_lss rfl rfl rfl) rfl trivial rfl rfl ?_
    refine TL.nil ?_
    refine TC.seq ?_
    refine TC.cond (b := (decide (i4 < (r2.length : Int)))) rfl (fun h2 => ?_) (fun h2 => ?_)
    · have h := cond_t h h2
      refine TC.skip ?_
      refine TC.seq ?_
      refine TC.block ?_
      refine TC.seq ?_
      refine TC.region ?_
      obtain ⟨x6, h3, h4, h⟩ := idx_inv h
      refine op1 1 rfl (sp_indexS rfl rfl rfl isOwn sl302 h3 (map_get _ h4)) rfl trivial rfl rfl ?_
      refine op1 1 rfl (sp_loadRA (i := (i4 : Int).toNat) (j := 0) (as_ := [.val (.int .i64 x6.1), .val (.int .i64 x6.2)]) (ns := []) rfl rfl isOwn vt34 rfl (map_get _ h4) rfl rfl (by decide) (.v (.v (.nil))) (nodup_of_B rfl)) rfl trivial rfl rfl ?_
      refine op0 (sp_alloc 5 rfl Try.zeroValue34 rfl) rfl trivial rfl rfl ?_
      refine stoB 0 (cells' := [.val (.int .i64 x6.1), .val (.int .i64 x6.2)]) rfl rfl trivial rfl rfl rfl rfl vt34 rfl rfl rfl ?_
      refine TL.nil ?_
      refine TC.seq ?_
      refine TC.region ?_
      refine op0 (sp_move rfl rfl) rfl trivial rfl rfl ?_
      refine op1 1 rfl (sp_lenM (N := l3.length) (len_map _ _) rfl rfl isOwn Try.underlying302) rfl trivial rfl rfl ?_
      obtain ⟨h5, h⟩ := chk_inv h
      refine op0 (sp_sub rfl rfl rfl h5) rfl trivial rfl rfl ?_
      refine op0 (sp_assign rfl rfl) rfl trivial rfl rfl ?_
      refine TL.nil ?_
      refine TC.seq ?_
      rcases cond_cases h with ⟨h6, h⟩ | ⟨h6, h⟩
      · obtain ⟨x7, h7, h8, h⟩ := idx_inv h
        obtain ⟨h9, h⟩ := chk_inv h
        refine drawJ 11 [⟨.val (.int .i64 ((l3.length : Int) - 1)), [], [], []⟩, ⟨.val (.bool (decide ((0 : Int) ≤ ((l3.length : Int) - 1)))), [], [], []⟩, ⟨.val (.bool true), [], [], []⟩, ⟨.ptr 5 0, [], [.blk 5 [.val (.int .i64 x6.1), .val (.int .i64 x6.2)] 34], []⟩, ⟨.val (.int .i64 x6.1), [], [.blk 5 [.val (.int .i64 x6.1), .val (.int .i64 x6.2)] 34], []⟩, ⟨.ref 4, [], [], []⟩, ⟨.val (.int .i64 ((l3.length : Int) - 1)), [], [], []⟩, ⟨.cell 4 ((((l3.length : Int) - 1) : Int).toNat * 2), [], [.row 4 34 2 (List.map en_api_Span l3)], []⟩, ⟨.cell 4 ((((l3.length : Int) - 1) : Int).toNat * 2 + 1), [], [.row 4 34 2 (List.map en_api_Span l3)], []⟩, ⟨.val (.int .i64 x7.2), [], [.row 4 34 2 (List.map en_api_Span l3)], []⟩, ⟨.val (.int .i64 (x7.2 + 1)), [], [], []⟩] rfl ?_ rfl ?_ rfl ?_ ?_
        · kernel_rfl
        · kernel_rfl
        · exact DAll.op' (sp_move rfl rfl) trivial rfl (From.ok (ps := []) trivial) (DAll.op' (sp_geq rfl rfl rfl) trivial rfl (From.ok (ps := []) trivial) (DAll.op' (sp_castB h6 (sp_move rfl rfl)) trivial rfl (From.ok (ps := []) trivial) (DAll.op' (sp_fieldAddrB rfl isBlk rfl ft34_0 vt3 (by decide)) ⟨_, rfl, rfl⟩ rfl (From.ok (ps := [(none, 0)]) ⟨⟨rfl, rfl⟩, trivial⟩) (DAll.op' (sp_loadB rfl isBlk rfl vt3 rfl) ⟨_, rfl, rfl⟩ rfl (From.ok (ps := [(none, 0)]) ⟨⟨rfl, rfl⟩, trivial⟩) (DAll.op' (sp_move rfl rfl) ⟨_, rfl, rfl⟩ rfl (From.ok (ps := []) trivial) (DAll.op' (sp_move rfl rfl) ⟨_, rfl, rfl⟩ rfl (From.ok (ps := []) trivial) (DAll.op' (sp_indexS rfl rfl rfl isOwn sl302 h7 (map_get _ h8)) ⟨_, rfl, rfl⟩ rfl (From.ok (ps := [(none, 1)]) ⟨⟨rfl, rfl⟩, trivial⟩) (DAll.op' (sp_fieldAddrR (i := (((l3.length : Int) - 1) : Int).toNat) rfl rfl isOwn ft34_1 vt3 (by decide) (map_get _ h8) (fun h => nomatch h)) ⟨_, rfl, rfl⟩ rfl (From.ok (ps := [(none, 1)]) ⟨⟨rfl, rfl⟩, trivial⟩) (DAll.op' (sp_loadR (i := (((l3.length : Int) - 1) : Int).toNat) (j := 1) rfl rfl isOwn vt3 rfl (map_get _ h8) rfl (.v (.nil)) (nodup_of_B rfl)) ⟨_, rfl, rfl⟩ rfl (From.ok (ps := [(none, 1)]) ⟨⟨rfl, rfl⟩, trivial⟩) (DAll.op' (sp_add rfl rfl rfl h9) ⟨_, rfl, rfl⟩ rfl (From.ok (ps := []) trivial) (.nil)))))))))))
        refine op0 (sp_leq rfl rfl rfl) rfl ⟨_, rfl, rfl⟩ rfl rfl ?_
        refine op0 (sp_pickT rfl rfl rfl) rfl trivial rfl rfl ?_
        refine TL.nil ?_
        refine TC.cond (b := (decide (x6.1 ≤ (x7.2 + 1)))) rfl (fun h10 => ?_) (fun h10 => ?_)
        · have h := cond_t h h10
          refine drawJ 10 [⟨.ref 4, [], [], []⟩, ⟨.val (.int .i64 ((l3.length : Int) - 1)), [], [], []⟩, ⟨.ref 4, [], [], []⟩, ⟨.val (.int .i64 ((l3.length : Int) - 1)), [], [], []⟩, ⟨.cell 4 ((((l3.length : Int) - 1) : Int).toNat * 2), [], [.row 4 34 2 (List.map en_api_Span l3)], []⟩, ⟨.cell 4 ((((l3.length : Int) - 1) : Int).toNat * 2 + 1), [], [.row 4 34 2 (List.map en_api_Span l3)], []⟩, ⟨.val (.int .i64 x7.2), [], [.row 4 34 2 (List.map en_api_Span l3)], []⟩, ⟨.ptr 5 1, [], [.blk 5 [.val (.int .i64 x6.1), .val (.int .i64 x6.2)] 34], []⟩, ⟨.val (.int .i64 x6.2), [], [.blk 5 [.val (.int .i64 x6.1), .val (.int .i64 x6.2)] 34], []⟩, ⟨.val (.int .i64 (max x7.2 x6.2)), [], [], []⟩] rfl ?_ rfl ?_ rfl ?_ ?_
          · kernel_rfl
          · kernel_rfl
          · exact DAll.op' (sp_move rfl rfl) trivial rfl (From.ok (ps := []) trivial) (DAll.op' (sp_move rfl rfl) trivial rfl (From.ok (ps := []) trivial) (DAll.op' (sp_move rfl rfl) trivial rfl (From.ok (ps := []) trivial) (DAll.op' (sp_move rfl rfl) trivial rfl (From.ok (ps := []) trivial) (DAll.op' (sp_indexS rfl rfl rfl isOwn sl302 h7 (map_get _ h8)) trivial rfl (From.ok (ps := [(none, 1)]) ⟨⟨rfl, rfl⟩, trivial⟩) (DAll.op' (sp_fieldAddrR (i := (((l3.length : Int) - 1) : Int).toNat) rfl rfl isOwn ft34_1 vt3 (by decide) (map_get _ h8) (fun h => nomatch h)) trivial rfl (From.ok (ps := [(none, 1)]) ⟨⟨rfl, rfl⟩, trivial⟩) (DAll.op' (sp_loadR (i := (((l3.length : Int) - 1) : Int).toNat) (j := 1) rfl rfl isOwn vt3 rfl (map_get _ h8) rfl (.v (.nil)) (nodup_of_B rfl)) trivial rfl (From.ok (ps := [(none, 1)]) ⟨⟨rfl, rfl⟩, trivial⟩) (DAll.op' (sp_fieldAddrB rfl isBlk rfl ft34_1 vt3 (by decide)) trivial rfl (From.ok (ps := [(none, 0)]) ⟨⟨rfl, rfl⟩, trivial⟩) (DAll.op' (sp_loadB rfl isBlk rfl vt3 rfl) trivial rfl (From.ok (ps := [(none, 0)]) ⟨⟨rfl, rfl⟩, trivial⟩) (DAll.op' (sp_max rfl rfl rfl) trivial rfl (From.ok (ps := []) trivial) (.nil))))))))))
          refine op1 1 rfl (sp_indexS rfl rfl rfl isOwn sl302 h7 (map_get _ h8)) rfl trivial rfl rfl ?_
          refine op1 1 rfl (sp_fieldAddrR (i := (((l3.length : Int) - 1) : Int).toNat) rfl rfl isOwn ft34_1 vt3 (by decide) (map_get _ h8) (fun h => nomatch h)) rfl trivial rfl rfl ?_
          refine stoR 1 ((((l3.length : Int) - 1) : Int).toNat) 1 (need := []) [] rfl rfl trivial rfl rfl rfl rfl vt3 rfl rfl (map_get _ h8) rfl rfl trivial (.v (.nil)) (map_set l3 en_api_Span ((((l3.length : Int) - 1) : Int).toNat) (x7.1, (max x7.2 x6.2))) ?_
          refine TL.nil ?_
          refine TC.inBlock ?_
          refine TC.region ?_
          obtain ⟨h11, h⟩ := chk_inv h
          refine op0 (sp_add rfl rfl rfl h11) rfl trivial rfl rfl ?_
          refine op0 (sp_move rfl rfl) rfl trivial rfl rfl ?_
          refine TL.nil ?_
          refine TC.inLoop ?_
          refine TC.seq ?_
          refine subJ [] (ih _ _ _ h) ?_ ?_ ?_
          · exact ⟨rfl, rfl, rfl, rfl, trivial⟩
          · exact ⟨mem_at 1 rfl, mem_at 2 rfl, mem_at 3 rfl, mem_at 4 rfl, trivial⟩
          · rfl
        · have h := cond_f h h10
          refine TC.region ?_
          refine op0 (sp_move rfl rfl) rfl trivial rfl rfl ?_
          refine op1 0 rfl (sp_loadBA rfl isBlk rfl vt34 rfl rfl) rfl trivial rfl rfl ?_
          refine op0 (sp_buildSlice (qs := [.agg [.val (.int .i64 x6.1), .val (.int .i64 x6.2)]]) (need := []) (els := List.map en_api_Span ([(x6.1, x6.2)] : List (Int × Int))) 6 rfl sl302 (by decide) (by decide) rfl rfl rfl (.v (.v (.nil))) (map_len fun _ => rfl) rfl rfl rfl) rfl trivial rfl rfl ?_
          obtain ⟨h12, h⟩ := chk_inv h
          refine appM 2 0 (N := l3.length) (N2 := ([(x6.1, x6.2)] : List (Int × Int)).length) 7 rfl rfl trivial rfl rfl rfl rfl rfl isOwn rfl sl302 (len_map _ _) (len_map _ _) h12 (map_app _ _ _) rfl ?_
          refine op0 (sp_assign rfl rfl) rfl trivial rfl rfl ?_
          refine TL.nil ?_
          refine TC.inBlock ?_
          refine TC.region ?_
          obtain ⟨h13, h⟩ := chk_inv h
          refine op0 (sp_add rfl rfl rfl h13) rfl trivial rfl rfl ?_
          refine op0 (sp_move rfl rfl) rfl trivial rfl rfl ?_
          refine TL.nil ?_
          refine TC.inLoop ?_
          refine TC.seq ?_
          refine subJ [(4, 7)] (ih _ _ _ h) ?_ ?_ ?_
          · exact ⟨rfl, rfl, rfl, rfl, trivial⟩
          · exact ⟨mem_at 0 rfl, mem_at 3 rfl, mem_at 4 rfl, mem_at 5 rfl, trivial⟩
          · rfl
      · refine drawJ 11 [⟨.val (.int .i64 ((l3.length : Int) - 1)), [], [], []⟩, ⟨.val (.bool (decide ((0 : Int) ≤ ((l3.length : Int) - 1)))), [], [], []⟩, ⟨.val (.bool false), [], [], []⟩, ⟨.val (undef), [], [], []⟩, ⟨.val (undef), [], [], []⟩, ⟨.val (undef), [], [], []⟩, ⟨.val (undef), [], [], []⟩, ⟨.val (undef), [], [], []⟩, ⟨.val (undef), [], [], []⟩, ⟨.val (undef), [], [], []⟩, ⟨.val (undef), [], [], []⟩] rfl ?_ rfl ?_ rfl ?_ ?_
        · kernel_rfl
        · kernel_rfl
        · exact DAll.op' (sp_move rfl rfl) trivial rfl (From.ok (ps := []) trivial) (DAll.op' (sp_geq rfl rfl rfl) trivial rfl (From.ok (ps := []) trivial) (DAll.op' (sp_castB h6 (sp_move rfl rfl)) trivial rfl (From.ok (ps := []) trivial) (.skip ⟨_, rfl, .inl rfl⟩ rfl rfl rfl (.skip ⟨_, rfl, .inl rfl⟩ rfl rfl rfl (.skip ⟨_, rfl, .inl rfl⟩ rfl rfl rfl (.skip ⟨_, rfl, .inl rfl⟩ rfl rfl rfl (.skip ⟨_, rfl, .inl rfl⟩ rfl rfl rfl (.skip ⟨_, rfl, .inl rfl⟩ rfl rfl rfl (.skip ⟨_, rfl, .inl rfl⟩ rfl rfl rfl (.skip ⟨_, rfl, .inl rfl⟩ rfl rfl rfl (.nil)))))))))))
        refine opSkip rfl ⟨_, rfl, .inl rfl⟩ rfl ?_
        refine op0 (sp_pickF rfl rfl rfl) rfl trivial rfl rfl ?_
        refine TL.nil ?_
        refine TC.condF rfl ?_
        refine TC.region ?_
        refine op0 (sp_move rfl rfl) rfl trivial rfl rfl ?_
        refine op1 0 rfl (sp_loadBA rfl isBlk rfl vt34 rfl rfl) rfl trivial rfl rfl ?_
        refine op0 (sp_buildSlice (qs := [.agg [.val (.int .i64 x6.1), .val (.int .i64 x6.2)]]) (need := []) (els := List.map en_api_Span ([(x6.1, x6.2)] : List (Int × Int))) 8 rfl sl302 (by decide) (by decide) rfl rfl rfl (.v (.v (.nil))) (map_len fun _ => rfl) rfl rfl rfl) rfl trivial rfl rfl ?_
        obtain ⟨h14, h⟩ := chk_inv h
        refine appM 2 0 (N := l3.length) (N2 := ([(x6.1, x6.2)] : List (Int × Int)).length) 9 rfl rfl trivial rfl rfl rfl rfl rfl isOwn rfl sl302 (len_map _ _) (len_map _ _) h14 (map_app _ _ _) rfl ?_
        refine op0 (sp_assign rfl rfl) rfl trivial rfl rfl ?_
        refine TL.nil ?_
        refine TC.inBlock ?_
        refine TC.region ?_
        obtain ⟨h15, h⟩ := chk_inv h
        refine op0 (sp_add rfl rfl rfl h15) rfl trivial rfl rfl ?_
        refine op0 (sp_move rfl rfl) rfl trivial rfl rfl ?_
        refine TL.nil ?_
        refine TC.inLoop ?_
        refine TC.seq ?_
        refine subJ [(4, 9)] (ih _ _ _ h) ?_ ?_ ?_
        · exact ⟨rfl, rfl, rfl, rfl, trivial⟩
        · exact ⟨mem_at 0 rfl, mem_at 3 rfl, mem_at 4 rfl, mem_at 5 rfl, trivial⟩
        · rfl
    · have h := cond_f h h2
      refine TC.exit rfl ?_
      refine TC.seq ?_
      refine TC.region ?_
      refine op0 (sp_move rfl rfl) rfl trivial rfl rfl ?_
      refine op0 (sp_assign rfl rfl) rfl trivial rfl rfl ?_
      refine TL.nil ?_
      cases h
      exact retM [(500, 4)] 2 1 [0] rfl (.tmp rfl .nil) rfl ⟨mem_at 0 rfl, mem_at 1 rfl, trivial⟩ rfl rfl ⟨⟨_, mem_at 2 rfl⟩, trivial⟩ rfl
def ev_zone_spans_joined (n : Nat) (l1 : List (Int × Int)) : Option ((List (Int × Int)) × (List (Int × Int))) :=
  (ev_slices_SortFunc_zone_spans_api_Span n l1 (fun a => ev_zone_spans_joined_1 n a.1 a.2.1 a.2.2.1 a.2.2.2)).bind fun r2 => ev_zone_spans_joined_l0 n r2 n ([] : List (Int × Int)) 0 r2
set_option maxRecDepth 100000 in
set_option maxHeartbeats 2000000 in
theorem ft_zone_spans_joined {n : Nat} {l1 : List (Int × Int)} {r : (List (Int × Int)) × (List (Int × Int))} (h : ev_zone_spans_joined n l1 = some r) : FT Try.prog 133 [.ref 0] [.row 0 34 2 (List.map en_api_Span l1)] [] (.ref 500) [.row 500 34 2 (List.map en_api_Span r.1), .row 0 34 2 (List.map en_api_Span r.2)] := by
  refine introM (nz := 48) 1 [(2, 0)] Try.func133 rfl rfl rfl rfl (fun w0 M0 R0 env0 => ?_)
  rw [ev_zone_spans_joined] at h
  refine TC.seq ?_
  refine TC.region ?_
  refine op0 (sp_assign rfl rfl) rfl trivial rfl rfl ?_
  refine TL.nil ?_
  refine TC.seq ?_
  refine TC.region ?_
  refine op0 (sp_move rfl rfl) rfl trivial rfl rfl ?_
  obtain ⟨r2, h1, h⟩ := bind_inv h
  refine opT (take := [.row 0 34 2 (List.map en_api_Span l1)]) (need := []) (V' := [.row 0 34 2 (List.map en_api_Span r2), .inv 1 (marksI []), .pin 2 0 (env0 0)]) [2] [] (ts_call (avs := [.ref 0, .fn 231 [] []]) (take := [.row 0 34 2 (List.map en_api_Span l1)]) (need := []) (v := .tup []) (news := [.row 0 34 2 (List.map en_api_Span r2)]) rfl rfl rfl Try.call230 (FT.fnArg (args := [.ref 0, .ref 3]) (needC := []) (need := []) 1 (first := []) (caps := []) (atT [(1, 3)] [] (ft_slices_SortFunc_zone_spans_api_Span h1) rfl rfl rfl) rfl Try.call231 (fun a b hab => atJ [] [] (fc_zone_spans_joined_1 hab) rfl rfl) rfl (fun _ => rfl) (fun _ => rfl) rfl rfl rfl rfl rfl rfl rfl rfl) rfl rfl) trivial rfl ⟨rfl, trivial⟩ trivial rfl rfl ?_
  refine TL.nil ?_
  refine TC.seq ?_
  refine TC.seq ?_
  refine TC.region ?_
  refine op0 (sp_move rfl rfl) rfl trivial rfl rfl ?_
  refine op1 0 rfl (sp_lenM (N := r2.length) (len_map _ _) rfl rfl isOwn Try.underlying302) rfl trivial rfl rfl ?_
  refine op0 (sp_move rfl rfl) rfl trivial rfl rfl ?_
  refine TL.nil ?_
  refine TC.block ?_
  refine TC.loop ?_
  refine TC.seq ?_
  refine nilRowC 2 10 34 2 (List.map en_api_Span []) rfl rfl rfl ?_
  refine subJ [(4, 10)] (ok_zone_spans_joined_l0 _ _ _ _ h) ?_ ?_ ?_
  · exact ⟨rfl, rfl, rfl, rfl, trivial⟩
  · exact ⟨mem_at 0 rfl, mem_at 1 rfl, mem_at 2 rfl, mem_at 3 rfl, trivial⟩
  · rfl
/- zone_town_means -/
def ev_zone_town_means_r0 (n : Nat) (minute3 : Int) (x6 : Int × Int × Int) (y7 : (List (Int × Int))) : Option (Nat × ((List (Int × Int)))) :=
  (ev_zone_era_minutes n x6.1 x6.2.1 x6.2.2).bind fun r8 => (ev_zone_within n r8.1 r8.2 ([minute3] : List Int)).bind fun r9 => cond r9 ((ev_zone_era_instants n x6.1 x6.2.1 x6.2.2 minute3).bind fun r10 => chk (room 16 (y7.length + ([(r10.1, r10.2)] : List (Int × Int)).length)) <| some (0, (y7 ++ ([(r10.1, r10.2)] : List (Int × Int))))) (some (0, y7))
set_option maxRecDepth 100000 in
set_option maxHeartbeats 2000000 in
theorem ok_zone_town_means_r0 {n : Nat} {u5 : Value} {u4 : Value} {minute3 : Int} {x6 : Int × Int × Int} {y7 : (List (Int × Int))} {r : Nat × ((List (Int × Int)))} (h : ev_zone_town_means_r0 n minute3 x6 y7 = some r) (l0 : Nat) (rec : Loop) (hrd : rec.state = .ready) (w0 : World) (M0 R0 : Nat → Prop) : TC Try.prog ⟨w0, M0, R0⟩ ⟨27, some l0, []⟩ (RoundQ ⟨w0, M0, R0⟩ (.inv 9 (recI l0 (busyR rec)) :: [.pin 8 4 u5, .pin 7 3 u4, .row 5 34 2 (List.map en_api_Span r.2), .blk 4 [.ref 5] 302, .blk 3 [.val (.int .i64 minute3)] 3]) [] r.1) [.code (sub (bodyOf Try.f132) [1, 0, 1, 0, 0]), .beginRound, .code (sub (bodyOf Try.f132) [1, 0, 1, 0, 1])] (pSlots [9] (ye_funczone_era_bool x6) [(3, .ptr 3 0), (4, .ptr 4 0)]) (.inv 9 (recI l0 rec) :: yn_funczone_era_bool x6 ++ (fun y7 : (List (Int × Int)) => [.pin 8 4 u5, .pin 7 3 u4, .row 5 34 2 (List.map en_api_Span y7), .blk 4 [.ref 5] 302, .blk 3 [.val (.int .i64 minute3)] 3]) y7) := by
  rw [ev_zone_town_means_r0] at h
  refine subJ (s' := [(3, .ptr 3 0), (4, .ptr 4 0), (9, .agg [.val (.int .i64 x6.1), .val (.int .i64 x6.2.1), .val (.int .i64 x6.2.2)])]) (V' := [.inv 9 (recI l0 rec), .pin 8 4 u5, .pin 7 3 u4, .row 5 34 2 (List.map en_api_Span y7), .blk 4 [.ref 5] 302, .blk 3 [.val (.int .i64 minute3)] 3]) [] ?_ ⟨rfl, rfl, rfl, trivial⟩ ⟨mem_at 0 rfl, mem_at 1 rfl, mem_at 2 rfl, mem_at 3 rfl, mem_at 4 rfl, mem_at 5 rfl, trivial⟩ rfl
  refine TC.region ?_
  refine op0 (sp_alloc 10 rfl Try.zeroValue295 rfl) rfl trivial rfl rfl ?_
  refine stoB 0 (cells' := [.val (.int .i64 x6.1), .val (.int .i64 x6.2.1), .val (.int .i64 x6.2.2)]) rfl rfl trivial rfl rfl rfl rfl vt295 rfl rfl rfl ?_
  refine TL.nil ?_
  refine TC.beginRound 1 rfl hrd ?_
  refine TC.block ?_
  refine TC.seq ?_
  refine TC.region ?_
  refine op1 0 rfl (sp_loadBA rfl isBlk rfl vt295 rfl rfl) rfl trivial rfl rfl ?_
  obtain ⟨r8, h1, h⟩ := bind_inv h
  refine op0 (sp_call (avs := [.agg [.val (.int .i64 x6.1), .val (.int .i64 x6.2.1), .val (.int .i64 x6.2.2)]]) (need := []) (v := .agg [.val (.int .i64 r8.1), .val (.int .i64 r8.2)]) (news := []) rfl rfl rfl Try.call130 (atJ [] [] (fc_zone_era_minutes h1) rfl rfl) (.inl (roAll rfl))) rfl trivial rfl rfl ?_
  refine op0 (sp_alloc 11 rfl Try.zeroValue34 rfl) rfl trivial rfl rfl ?_
  refine stoB 0 (cells' := [.val (.int .i64 r8.1), .val (.int .i64 r8.2)]) rfl rfl trivial rfl rfl rfl rfl vt34 rfl rfl rfl ?_
  refine TL.nil ?_
  refine TC.seq ?_
  refine TC.region ?_
  refine op1 0 rfl (sp_fieldAddrB rfl isBlk rfl ft34_0 vt3 (by decide)) rfl trivial rfl rfl ?_
  refine op1 0 rfl (sp_loadB rfl isBlk rfl vt3 rfl) rfl trivial rfl rfl ?_
  refine op1 0 rfl (sp_fieldAddrB rfl isBlk rfl ft34_1 vt3 (by decide)) rfl trivial rfl rfl ?_
  refine op1 0 rfl (sp_loadB rfl isBlk rfl vt3 rfl) rfl trivial rfl rfl ?_
  refine op1 7 rfl (sp_loadB rfl isBlk rfl vt3 rfl) rfl trivial rfl rfl ?_
  refine op0 (sp_buildSlice (qs := [.val (.int .i64 minute3)]) (need := []) (els := List.map en_int ([minute3] : List Int)) 12 rfl sl50 (by decide) (by decide) rfl rfl rfl (.v (.nil)) (map_len fun _ => rfl) rfl rfl rfl) rfl trivial rfl rfl ?_
  obtain ⟨r9, h2, h⟩ := bind_inv h
  refine op1 0 rfl (sp_call (avs := [.val (.int .i64 r8.1), .val (.int .i64 r8.2), .ref 12]) (need := [.row 12 3 1 (List.map en_int ([minute3] : List Int))]) (v := .val (.bool r9)) (news := []) rfl rfl rfl Try.call124 (atJ [(0, 12)] [] (fc_zone_within h2) rfl rfl) (.inr (fun x hx => nomatch hx))) rfl trivial rfl rfl ?_
  refine TL.nil ?_
  refine TC.cond (b := r9) rfl (fun h3 => ?_) (fun h3 => ?_)
  · have h := cond_t h h3
    obtain ⟨r10, h4, h⟩ := bind_inv h
    refine drawJ 5 [⟨.ref 5, [], [.blk 4 [.ref 5] 302], []⟩, ⟨.agg [.val (.int .i64 x6.1), .val (.int .i64 x6.2.1), .val (.int .i64 x6.2.2)], [], [.blk 10 [.val (.int .i64 x6.1), .val (.int .i64 x6.2.1), .val (.int .i64 x6.2.2)] 295], []⟩, ⟨.val (.int .i64 minute3), [], [.blk 3 [.val (.int .i64 minute3)] 3], []⟩, ⟨.agg [.val (.int .i64 r10.1), .val (.int .i64 r10.2)], [], [], []⟩, ⟨.ref 13, [.row 13 34 2 (List.map en_api_Span ([(r10.1, r10.2)] : List (Int × Int)))], [], []⟩] rfl ?_ rfl ?_ rfl ?_ ?_
    · kernel_rfl
    · kernel_rfl
    · exact DAll.op' (sp_loadB rfl isBlk rfl vt302 rfl) trivial rfl (From.ok (ps := [(none, 7)]) ⟨⟨rfl, rfl⟩, trivial⟩) (DAll.op' (sp_loadBA rfl isBlk rfl vt295 rfl rfl) trivial rfl (From.ok (ps := [(none, 2)]) ⟨⟨rfl, rfl⟩, trivial⟩) (DAll.op' (sp_loadB rfl isBlk rfl vt3 rfl) trivial rfl (From.ok (ps := [(none, 8)]) ⟨⟨rfl, rfl⟩, trivial⟩) (DAll.op' (sp_call (avs := [.agg [.val (.int .i64 x6.1), .val (.int .i64 x6.2.1), .val (.int .i64 x6.2.2)], .val (.int .i64 minute3)]) (need := []) (v := .agg [.val (.int .i64 r10.1), .val (.int .i64 r10.2)]) (news := []) rfl rfl rfl Try.call229 (atJ [] [] (fc_zone_era_instants h4) rfl rfl) (.inl (roAll rfl))) trivial rfl (From.ok (ps := []) trivial) (DAll.op' (sp_buildSlice (qs := [.agg [.val (.int .i64 r10.1), .val (.int .i64 r10.2)]]) (need := []) (els := List.map en_api_Span ([(r10.1, r10.2)] : List (Int × Int))) 13 rfl sl302 (by decide) (by decide) rfl rfl rfl (.v (.v (.nil))) (map_len fun _ => rfl) rfl rfl rfl) trivial rfl (From.ok (ps := []) trivial) (.nil)))))
    obtain ⟨h5, h⟩ := chk_inv h
    refine appM 7 0 (N := y7.length) (N2 := ([(r10.1, r10.2)] : List (Int × Int)).length) 14 rfl rfl trivial rfl rfl rfl rfl rfl isOwn rfl sl302 (len_map _ _) (len_map _ _) h5 (map_app _ _ _) rfl ?_
    refine stoB 8 (cells' := [.ref 14]) rfl rfl trivial rfl rfl rfl rfl vt302 rfl rfl rfl ?_
    refine TL.nil ?_
    refine TC.inBlock ?_
    cases h
    exact bodyEnd [(5, 14)] ⟨mem_at 5 rfl, mem_at 6 rfl, mem_at 7 rfl, mem_at 0 rfl, mem_at 8 rfl, mem_at 9 rfl, trivial⟩ rfl
  · have h := cond_f h h3
    refine TC.skip ?_
    refine TC.inBlock ?_
    cases h
    exact bodyEnd [] ⟨mem_at 3 rfl, mem_at 4 rfl, mem_at 5 rfl, mem_at 6 rfl, mem_at 7 rfl, mem_at 8 rfl, trivial⟩ rfl
def ev_zone_town_means (n : Nat) (z1 : Int) (z2 : List (Int × Int)) (minute3 : Int) : Option ((List (Int × Int))) :=
  (ev_zone_town_eras (loopStep (ev_zone_town_means_r0 n minute3)) n z1 z2 (([] : List (Int × Int)), 0)).bind fun q11 => cond (q11.2 == 0) ((ev_zone_spans_joined n q11.1).bind fun r12 => some r12.1) (none)
set_option maxRecDepth 100000 in
set_option maxHeartbeats 2000000 in
theorem ft_zone_town_means {n : Nat} {z1 : Int} {z2 : List (Int × Int)} {minute3 : Int} {r : (List (Int × Int))} (h : ev_zone_town_means n z1 z2 minute3 = some r) : FT Try.prog 132 [.agg [.val (.int .i64 z1), .ref 0], .val (.int .i64 minute3)] [] [.ro 0 2 (List.map en_api_ZoneChange z2)] (.ref 500) [.row 500 34 2 (List.map en_api_Span r)] := by
  refine introM (nz := 27) 1 [] Try.func132 rfl rfl rfl rfl (fun w0 M0 R0 env0 => ?_)
  rw [ev_zone_town_means] at h
  refine TC.seq ?_
  refine TC.region ?_
  refine op0 (sp_box 2 rfl rfl rfl rfl rfl) rfl trivial rfl rfl ?_
  refine op0 (sp_box 3 rfl rfl rfl rfl rfl) rfl trivial rfl rfl ?_
  refine op0 (sp_alloc 4 rfl Try.zeroValue302 rfl) rfl trivial rfl rfl ?_
  refine TL.nil ?_
  refine TC.seq ?_
  refine TC.seq ?_
  refine TC.region ?_
  refine op1 2 rfl (sp_loadBA rfl isBlk rfl vt297 rfl rfl) rfl trivial rfl rfl ?_
  refine op0 (sp_makeFunc (fi := [.tmp 7]) (ca := []) (fa := [.agg [.val (.int .i64 z1), .ref 0]]) (cb := []) rfl rfl rfl) rfl trivial rfl rfl ?_
  refine TL.nil ?_
  refine TC.block ?_
  refine nilCellC 0 5 34 2 4 (List.map en_api_Span []) [.ref 5] rfl rfl rfl ?_
  refine TC.pin 7 3 rfl rfl fun u4 => ?_
  refine TC.pin 8 4 rfl rfl fun u5 => ?_
  obtain ⟨q11, h6, h⟩ := bind_inv h
  refine rangeO (T := []) (T' := []) (k := 6) (gm := 1) (grec := 9) (S := [(3, .ptr 3 0), (4, .ptr 4 0)]) (V0 := (fun y7 : (List (Int × Int)) => [.pin 8 4 u5, .pin 7 3 u4, .row 5 34 2 (List.map en_api_Span y7), .blk 4 [.ref 5] 302, .blk 3 [.val (.int .i64 minute3)] 3])) (needI := [.ro 0 2 (List.map en_api_ZoneChange z2)]) (ps := [9]) (jl := []) (ea := ye_funczone_era_bool) (en := yn_funczone_era_bool) (f := (ev_zone_town_means_r0 n minute3)) (s0 := (([] : List (Int × Int)), 0)) (yf := q11) (v := .tup []) (fi := [.agg [.val (.int .i64 z1), .ref 0]]) (caps := [])
    ⟨fun x y r hr l rec hrd w0 M0 R0 => ok_zone_town_means_r0 (u5 := u5) (u4 := u4) hr l rec hrd w0 M0 R0, ⟨rfl, rfl, trivial⟩, At.mem (is := [0, 1, 2, 3, 4]) ⟨rfl, rfl, rfl, rfl, rfl, trivial⟩, At.mem (is := [7]) ⟨rfl, trivial⟩, rfl, pinsIn [3, 4] [1, 0] ⟨⟨_, _, fun _ => rfl⟩, ⟨_, _, fun _ => rfl⟩, trivial⟩ rfl, rfl, fun _ => rfl, fun _ _ => rfl, fun _ => rfl, fun _ _ => rfl, fun _ => rfl, fun _ => rfl, fun _ => rfl, rfl, rfl, fun _ => rfl, rfl⟩
    rfl rfl Try.call129 (takesNil rfl) 6 rfl (fun I hI => atT [(1, 6)] [(1, 6)] (ft_zone_town_eras hI h6) rfl rfl rfl) (fun d => ?_)
  rcases cond_cases h with ⟨h7, h⟩ | ⟨h7, h⟩
  · refine done0 h7 ?_
    refine TC.inBlock ?_
    refine TC.seq ?_
    refine TC.region ?_
    refine op1 4 rfl (sp_loadB rfl isBlk rfl vt302 rfl) rfl trivial rfl rfl ?_
    obtain ⟨r12, h8, h⟩ := bind_inv h
    refine opT (take := [.row 5 34 2 (List.map en_api_Span q11.1)]) (need := []) (V' := [.row 15 34 2 (List.map en_api_Span r12.1), .row 5 34 2 (List.map en_api_Span r12.2), .inv 1 (marksI (d :: [])), .pin 8 4 u5, .pin 7 3 u4, .blk 4 [.ref 5] 302, .blk 3 [.val (.int .i64 minute3)] 3]) [3] [] (ts_call (avs := [.ref 5]) (take := [.row 5 34 2 (List.map en_api_Span q11.1)]) (need := []) (v := .ref 15) (news := [.row 15 34 2 (List.map en_api_Span r12.1), .row 5 34 2 (List.map en_api_Span r12.2)]) rfl rfl rfl Try.call133 (atT [(0, 5)] [(500, 15), (0, 5)] (ft_zone_spans_joined h8) rfl rfl rfl) rfl rfl) trivial rfl ⟨rfl, trivial⟩ trivial rfl rfl ?_
    refine stoB 5 (cells' := [.ref 15]) rfl rfl trivial rfl rfl rfl rfl vt302 rfl rfl rfl ?_
    refine TL.nil ?_
    cases h
    exact retM [(500, 15)] 2 1 [] rfl (.cell rfl (mem_at 4 rfl) isBlk vt302 rfl (.nil)) rfl ⟨mem_at 0 rfl, trivial⟩ rfl rfl trivial rfl
  · exact none_no h
theorem fc_zone_town_means {n : Nat} {z1 : Int} {z2 : List (Int × Int)} {minute3 : Int} {r : (List (Int × Int))} (h : ev_zone_town_means n z1 z2 minute3 = some r) : FC Try.prog 132 [.agg [.val (.int .i64 z1), .ref 0], .val (.int .i64 minute3)] [.ro 0 2 (List.map en_api_ZoneChange z2)] (.ref 500) [.row 500 34 2 (List.map en_api_Span r)] := (ft_zone_town_means h).toFC rfl
/- zone_Odd -/
def ev_zone_Odd_r0 (n : Nat) (x6 : Int × Int × Int) (y7 : (List Int)) : Option (Nat × ((List Int))) :=
  (ev_zone_era_minutes n x6.1 x6.2.1 x6.2.2).bind fun r8 => chk (in64 (r8.1 + 1)) <| chk (in64 (r8.2 + 1)) <| chk (room 8 (y7.length + ([r8.1, (r8.1 + 1), r8.2, (r8.2 + 1)] : List Int).length)) <| some (0, (y7 ++ ([r8.1, (r8.1 + 1), r8.2, (r8.2 + 1)] : List Int)))
set_option maxRecDepth 100000 in
set_option maxHeartbeats 2000000 in
theorem ok_zone_Odd_r0 {n : Nat} {u5 : Value} {u4 : Value} {z1 : Int} {z2 : List (Int × Int)} {x6 : Int × Int × Int} {y7 : (List Int)} {r : Nat × ((List Int))} (h : ev_zone_Odd_r0 n x6 y7 = some r) (l0 : Nat) (rec : Loop) (hrd : rec.state = .ready) (w0 : World) (M0 R0 : Nat → Prop) : TC Try.prog ⟨w0, M0, R0⟩ ⟨87, some l0, []⟩ (RoundQ ⟨w0, M0, R0⟩ (.inv 11 (recI l0 (busyR rec)) :: [.pin 10 6 u5, .pin 9 5 u4, .row 7 3 1 (List.map en_int r.2), .blk 6 [.ref 7] 50, .blk 5 [.val (.int .i64 z1), .ref 0] 297, .ro 0 2 (List.map en_api_ZoneChange z2)]) [] r.1) [.code (sub (bodyOf Try.f56) [1, 1, 1, 1, 0, 1, 0, 0]), .beginRound, .code (sub (bodyOf Try.f56) [1, 1, 1, 1, 0, 1, 0, 1])] (pSlots [25] (ye_funczone_era_bool x6) [(6, .ptr 5 0), (7, .ptr 6 0)]) (.inv 11 (recI l0 rec) :: yn_funczone_era_bool x6 ++ (fun y7 : (List Int) => [.pin 10 6 u5, .pin 9 5 u4, .row 7 3 1 (List.map en_int y7), .blk 6 [.ref 7] 50, .blk 5 [.val (.int .i64 z1), .ref 0] 297, .ro 0 2 (List.map en_api_ZoneChange z2)]) y7) := by
  rw [ev_zone_Odd_r0] at h
  refine subJ (s' := [(6, .ptr 5 0), (7, .ptr 6 0), (25, .agg [.val (.int .i64 x6.1), .val (.int .i64 x6.2.1), .val (.int .i64 x6.2.2)])]) (V' := [.inv 11 (recI l0 rec), .pin 10 6 u5, .pin 9 5 u4, .row 7 3 1 (List.map en_int y7), .blk 6 [.ref 7] 50, .blk 5 [.val (.int .i64 z1), .ref 0] 297, .ro 0 2 (List.map en_api_ZoneChange z2)]) [] ?_ ⟨rfl, rfl, rfl, trivial⟩ ⟨mem_at 0 rfl, mem_at 1 rfl, mem_at 2 rfl, mem_at 3 rfl, mem_at 4 rfl, mem_at 5 rfl, mem_at 6 rfl, trivial⟩ rfl
  refine TC.region ?_
  refine op0 (sp_alloc 12 rfl Try.zeroValue295 rfl) rfl trivial rfl rfl ?_
  refine stoB 0 (cells' := [.val (.int .i64 x6.1), .val (.int .i64 x6.2.1), .val (.int .i64 x6.2.2)]) rfl rfl trivial rfl rfl rfl rfl vt295 rfl rfl rfl ?_
  refine TL.nil ?_
  refine TC.beginRound 1 rfl hrd ?_
  refine TC.block ?_
  refine TC.seq ?_
  refine TC.region ?_
  refine op1 0 rfl (sp_loadBA rfl isBlk rfl vt295 rfl rfl) rfl trivial rfl rfl ?_
  obtain ⟨r8, h3, h⟩ := bind_inv h
  refine op0 (sp_call (avs := [.agg [.val (.int .i64 x6.1), .val (.int .i64 x6.2.1), .val (.int .i64 x6.2.2)]]) (need := []) (v := .agg [.val (.int .i64 r8.1), .val (.int .i64 r8.2)]) (news := []) rfl rfl rfl Try.call130 (atJ [] [] (fc_zone_era_minutes h3) rfl rfl) (.inl (roAll rfl))) rfl trivial rfl rfl ?_
  refine op0 (sp_alloc 13 rfl Try.zeroValue34 rfl) rfl trivial rfl rfl ?_
  refine stoB 0 (cells' := [.val (.int .i64 r8.1), .val (.int .i64 r8.2)]) rfl rfl trivial rfl rfl rfl rfl vt34 rfl rfl rfl ?_
  refine TL.nil ?_
  refine TC.region ?_
  refine op1 6 rfl (sp_loadB rfl isBlk rfl vt50 rfl) rfl trivial rfl rfl ?_
  refine op1 0 rfl (sp_fieldAddrB rfl isBlk rfl ft34_0 vt3 (by decide)) rfl trivial rfl rfl ?_
  refine op1 0 rfl (sp_loadB rfl isBlk rfl vt3 rfl) rfl trivial rfl rfl ?_
  refine op1 0 rfl (sp_fieldAddrB rfl isBlk rfl ft34_0 vt3 (by decide)) rfl trivial rfl rfl ?_
  refine op1 0 rfl (sp_loadB rfl isBlk rfl vt3 rfl) rfl trivial rfl rfl ?_
  obtain ⟨h4, h⟩ := chk_inv h
  refine op0 (sp_add rfl rfl rfl h4) rfl trivial rfl rfl ?_
  refine op1 0 rfl (sp_fieldAddrB rfl isBlk rfl ft34_1 vt3 (by decide)) rfl trivial rfl rfl ?_
  refine op1 0 rfl (sp_loadB rfl isBlk rfl vt3 rfl) rfl trivial rfl rfl ?_
  refine op1 0 rfl (sp_fieldAddrB rfl isBlk rfl ft34_1 vt3 (by decide)) rfl trivial rfl rfl ?_
  refine op1 0 rfl (sp_loadB rfl isBlk rfl vt3 rfl) rfl trivial rfl rfl ?_
  obtain ⟨h5, h⟩ := chk_inv h
  refine op0 (sp_add rfl rfl rfl h5) rfl trivial rfl rfl ?_
  refine op0 (sp_buildSlice (qs := [.val (.int .i64 r8.1), .val (.int .i64 (r8.1 + 1)), .val (.int .i64 r8.2), .val (.int .i64 (r8.2 + 1))]) (need := []) (els := List.map en_int ([r8.1, (r8.1 + 1), r8.2, (r8.2 + 1)] : List Int)) 14 rfl sl50 (by decide) (by decide) rfl rfl rfl (.v (.v (.v (.v (.nil))))) (map_len fun _ => rfl) rfl rfl rfl) rfl trivial rfl rfl ?_
  obtain ⟨h6, h⟩ := chk_inv h
  refine appM 6 0 (N := y7.length) (N2 := ([r8.1, (r8.1 + 1), r8.2, (r8.2 + 1)] : List Int).length) 15 rfl rfl trivial rfl rfl rfl rfl rfl isOwn rfl sl50 (len_map _ _) (len_map _ _) h6 (map_app _ _ _) rfl ?_
  refine stoB 7 (cells' := [.ref 15]) rfl rfl trivial rfl rfl rfl rfl vt50 rfl rfl rfl ?_
  refine TL.nil ?_
  refine TC.inBlock ?_
  cases h
  exact bodyEnd [(7, 15)] ⟨mem_at 4 rfl, mem_at 5 rfl, mem_at 6 rfl, mem_at 0 rfl, mem_at 7 rfl, mem_at 8 rfl, mem_at 9 rfl, trivial⟩ rfl
def ev_zone_Odd_l1 (n : Nat) (r11 : (List Int)) : Nat → (List (Int × Int)) → (List (Int × Int)) → Int → Int → (List Int) → (List (Int × Int)) → (List Int) → Option ((List (Int × Int)) × (List (Int × Int)) × Int)
  | 0, _, _, _, _, _, _, _ => none
  | m + 1, l12, l13, i14, i15, l16, l17, l18 => cond (decide (i14 < ((List.drop (0 : Int).toNat (List.take (((r11.length : Int) - 1) : Int).toNat r11)).length : Int))) (idx l16 i14 fun x19 => chk (in64 (i14 + 1)) <| idx l18 (i14 + 1) fun x20 => chk (in64 (x20 - 1)) <| (ev_zone_town_means n i15 l17 x19).bind fun r21 => cond (decide ((1 : Int) < (r21.length : Int))) (chk (room 16 (l12.length + ([(x19, (x20 - 1))] : List (Int × Int)).length)) <| chk (in64 (i14 + 1)) <| ev_zone_Odd_l1 n r11 m (l12 ++ ([(x19, (x20 - 1))] : List (Int × Int))) l13 (i14 + 1) i15 l16 l17 l18) (cond ((r21.length : Int) == 0) (chk (room 16 (l13.length + ([(x19, (x20 - 1))] : List (Int × Int)).length)) <| chk (in64 (i14 + 1)) <| ev_zone_Odd_l1 n r11 m l12 (l13 ++ ([(x19, (x20 - 1))] : List (Int × Int))) (i14 + 1) i15 l16 l17 l18) (chk (in64 (i14 + 1)) <| ev_zone_Odd_l1 n r11 m l12 l13 (i14 + 1) i15 l16 l17 l18))) ((ev_zone_spans_joined n l12).bind fun r22 => (ev_zone_spans_joined n l13).bind fun r23 => some (r22.1, r23.1, 0))
set_option maxRecDepth 100000 in
set_option maxHeartbeats 2000000 in
theorem ok_zone_Odd_l1 {n : Nat} {w0 : World} {M0 R0 : Nat → Prop} {env0 : Env} {df : List Deferred} {r : (List (Int × Int)) × (List (Int × Int)) × Int} {r11 : (List Int)} : ∀ (m : Nat) (l12 : List (Int × Int)) (l13 : List (Int × Int)) (i14 : Int) (i15 : Int) (l16 : List Int) (l17 : List (Int × Int)) (l18 : List Int), ev_zone_Odd_l1 n r11 m l12 l13 i14 i15 l16 l17 l18 = some r → TC Try.prog ⟨w0, M0, R0⟩ ⟨87, none, df⟩ (bodyPostM Fence.wide 0 Try.prog Try.f56 (PostT ⟨w0, M0, R0⟩ env0 [] (.tup [.ref 500, .ref 501, .val (.int .i64 r.2.2)]) [.row 500 34 2 (List.map en_api_Span r.1), .row 501 34 2 (List.map en_api_Span r.2.1)])) [.code (sub (bodyOf Try.f56) [1, 1, 1, 1, 1, 1, 1, 1, 0, 1, 0, 0, 0]), .code (sub (bodyOf Try.f56) [1, 1, 1, 1, 1, 1, 1, 1, 0, 1, 0, 0, 1]), .inLoop (sub (bodyOf Try.f56) [1, 1, 1, 1, 1, 1, 1, 1, 0, 1, 0, 0]), .inBlock 2, .code (sub (bodyOf Try.f56) [1, 1, 1, 1, 1, 1, 1, 1, 1])] ([(6, .ptr 5 0), (7, .ptr 6 0), (10, .ref 18), (11, .ref 19), (49, .ref 17), (50, .val (.int .i64 ((List.drop (0 : Int).toNat (List.take (((r11.length : Int) - 1) : Int).toNat r11)).length : Int))), (51, .val (.int .i64 i14))]) ([.row 18 34 2 (List.map en_api_Span l12), .row 19 34 2 (List.map en_api_Span l13), .blk 5 [.val (.int .i64 i15), .ref 0] 297, .blk 6 [.ref 16] 50, .ro 17 1 (List.map en_int l16), .ro 0 2 (List.map en_api_ZoneChange l17), .ro 16 1 (List.map en_int l18), .inv 1 (marksI df)]) := by
  intro m
  induction m with
  | zero => intro l12 l13 i14 i15 l16 l17 l18 h; exact none_no h
  | succ m ih =>
    intro l12 l13 i14 i15 l16 l17 l18 h
    rw [ev_zone_Odd_l1] at h
    refine TC.region ?_
    refine op0 (sp_lss rfl rfl rfl) rfl trivial rfl rfl ?_
    refine TL.nil ?_
    refine TC.seq ?_
    refine TC.cond (b := (decide (i14 < ((List.drop (0 : Int).toNat (List.take (((r11.length : Int) - 1) : Int).toNat r11)).length : Int)))) rfl (fun h13 => ?_) (fun h13 => ?_)
    · have h := cond_t h h13
      refine TC.skip ?_
      refine TC.seq ?_
      refine TC.block ?_
      refine TC.seq ?_
      refine TC.region ?_
      refine op0 (sp_move rfl rfl) rfl trivial rfl rfl ?_
      obtain ⟨x19, h14, h15, h⟩ := idx_inv h
      refine op1 4 rfl (sp_indexS rfl rfl rfl isRo sl50 h14 (map_get _ h15)) rfl trivial rfl rfl ?_
      refine op1 4 rfl (sp_loadR (i := (i14 : Int).toNat) (j := 0) rfl rfl isRo vt3 rfl (map_get _ h15) rfl (.v (.nil)) (nodup_of_B rfl)) rfl trivial rfl rfl ?_
      refine op0 (sp_assign rfl rfl) rfl trivial rfl rfl ?_
      refine op0 (sp_assign rfl rfl) rfl trivial rfl rfl ?_
      refine TL.nil ?_
      refine TC.seq ?_
      refine TC.region ?_
      refine op0 (sp_move rfl rfl) rfl trivial rfl rfl ?_
      refine op1 3 rfl (sp_loadB rfl isBlk rfl vt50 rfl) rfl trivial rfl rfl ?_
      refine op0 (sp_move rfl rfl) rfl trivial rfl rfl ?_
      obtain ⟨h16, h⟩ := chk_inv h
      refine op0 (sp_add rfl rfl rfl h16) rfl trivial rfl rfl ?_
      obtain ⟨x20, h17, h18, h⟩ := idx_inv h
      refine op1 6 rfl (sp_indexS rfl rfl rfl isRo sl50 h17 (map_get _ h18)) rfl trivial rfl rfl ?_
      refine op1 6 rfl (sp_loadR (i := ((i14 + 1) : Int).toNat) (j := 0) rfl rfl isRo vt3 rfl (map_get _ h18) rfl (.v (.nil)) (nodup_of_B rfl)) rfl trivial rfl rfl ?_
      obtain ⟨h19, h⟩ := chk_inv h
      refine op0 (sp_sub rfl rfl rfl h19) rfl trivial rfl rfl ?_
      refine op0 (sp_build (qs := [(0, .val (.int .i64 x19)), (1, .val (.int .i64 (x20 - 1)))]) rfl bt34 rfl rfl rfl rfl) rfl trivial rfl rfl ?_
      refine op0 (sp_alloc 20 rfl Try.zeroValue34 rfl) rfl trivial rfl rfl ?_
      refine stoB 0 (cells' := [.val (.int .i64 x19), .val (.int .i64 (x20 - 1))]) rfl rfl trivial rfl rfl rfl rfl vt34 rfl rfl rfl ?_
      refine TL.nil ?_
      refine TC.seq ?_
      refine TC.region ?_
      refine op1 3 rfl (sp_loadBA rfl isBlk rfl vt297 rfl rfl) rfl trivial rfl rfl ?_
      refine op0 (sp_move rfl rfl) rfl trivial rfl rfl ?_
      obtain ⟨r21, h20, h⟩ := bind_inv h
      refine op1 6 rfl (sp_call (avs := [.agg [.val (.int .i64 i15), .ref 0], .val (.int .i64 x19)]) (need := [.ro 0 2 (List.map en_api_ZoneChange l17)]) (v := .ref 21) (news := [.row 21 34 2 (List.map en_api_Span r21)]) rfl rfl rfl Try.call132 (atJ [] [(500, 21)] (fc_zone_town_means h20) rfl rfl) (.inl (roAll rfl))) rfl trivial rfl rfl ?_
      refine op1 0 rfl (sp_lenM (N := r21.length) (len_map _ _) rfl rfl isOwn Try.underlying302) rfl trivial rfl rfl ?_
      refine op0 (sp_assign rfl rfl) rfl trivial rfl rfl ?_
      refine TL.nil ?_
      refine TC.block ?_
      refine TC.seq ?_
      refine TC.region ?_
      refine op0 (sp_move rfl rfl) rfl trivial rfl rfl ?_
      refine op0 (sp_gtr rfl rfl rfl) rfl trivial rfl rfl ?_
      refine op0 (sp_assign rfl rfl) rfl trivial rfl rfl ?_
      refine TL.nil ?_
      refine TC.cond (b := (decide ((1 : Int) < (r21.length : Int)))) rfl (fun h21 => ?_) (fun h21 => ?_)
      · have h := cond_t h h21
        refine TC.region ?_
        refine op0 (sp_move rfl rfl) rfl trivial rfl rfl ?_
        refine op1 1 rfl (sp_loadBA rfl isBlk rfl vt34 rfl rfl) rfl trivial rfl rfl ?_
        refine op0 (sp_buildSlice (qs := [.agg [.val (.int .i64 x19), .val (.int .i64 (x20 - 1))]]) (need := []) (els := List.map en_api_Span ([(x19, (x20 - 1))] : List (Int × Int))) 22 rfl sl302 (by decide) (by decide) rfl rfl rfl (.v (.v (.nil))) (map_len fun _ => rfl) rfl rfl rfl) rfl trivial rfl rfl ?_
        obtain ⟨h22, h⟩ := chk_inv h
        refine appM 3 0 (N := l12.length) (N2 := ([(x19, (x20 - 1))] : List (Int × Int)).length) 23 rfl rfl trivial rfl rfl rfl rfl rfl isOwn rfl sl302 (len_map _ _) (len_map _ _) h22 (map_app _ _ _) rfl ?_
        refine op0 (sp_assign rfl rfl) rfl trivial rfl rfl ?_
        refine TL.nil ?_
        refine TC.inBlock ?_
        refine TC.inBlock ?_
        refine TC.region ?_
        obtain ⟨h23, h⟩ := chk_inv h
        refine op0 (sp_add rfl rfl rfl h23) rfl trivial rfl rfl ?_
        refine op0 (sp_move rfl rfl) rfl trivial rfl rfl ?_
        refine TL.nil ?_
        refine TC.inLoop ?_
        refine TC.seq ?_
        refine subJ [(18, 23)] (ih _ _ _ _ _ _ _ h) ?_ ?_ ?_
        · exact ⟨rfl, rfl, rfl, rfl, rfl, rfl, rfl, trivial⟩
        · exact ⟨mem_at 0 rfl, mem_at 4 rfl, mem_at 5 rfl, mem_at 6 rfl, mem_at 7 rfl, mem_at 8 rfl, mem_at 9 rfl, mem_at 10 rfl, trivial⟩
        · rfl
      · have h := cond_f h h21
        refine TC.seq ?_
        refine TC.region ?_
        refine op0 (sp_move rfl rfl) rfl trivial rfl rfl ?_
        refine op0 (sp_eql rfl rfl rfl) rfl trivial rfl rfl ?_
        refine op0 (sp_assign rfl rfl) rfl trivial rfl rfl ?_
        refine TL.nil ?_
        refine TC.cond (b := ((r21.length : Int) == 0)) rfl (fun h24 => ?_) (fun h24 => ?_)
        · have h := cond_t h h24
          refine TC.region ?_
          refine op0 (sp_move rfl rfl) rfl trivial rfl rfl ?_
          refine op1 1 rfl (sp_loadBA rfl isBlk rfl vt34 rfl rfl) rfl trivial rfl rfl ?_
          refine op0 (sp_buildSlice (qs := [.agg [.val (.int .i64 x19), .val (.int .i64 (x20 - 1))]]) (need := []) (els := List.map en_api_Span ([(x19, (x20 - 1))] : List (Int × Int))) 24 rfl sl302 (by decide) (by decide) rfl rfl rfl (.v (.v (.nil))) (map_len fun _ => rfl) rfl rfl rfl) rfl trivial rfl rfl ?_
          obtain ⟨h25, h⟩ := chk_inv h
          refine appM 4 0 (N := l13.length) (N2 := ([(x19, (x20 - 1))] : List (Int × Int)).length) 25 rfl rfl trivial rfl rfl rfl rfl rfl isOwn rfl sl302 (len_map _ _) (len_map _ _) h25 (map_app _ _ _) rfl ?_
          refine op0 (sp_assign rfl rfl) rfl trivial rfl rfl ?_
          refine TL.nil ?_
          refine TC.inBlock ?_
          refine TC.inBlock ?_
          refine TC.region ?_
          obtain ⟨h26, h⟩ := chk_inv h
          refine op0 (sp_add rfl rfl rfl h26) rfl trivial rfl rfl ?_
          refine op0 (sp_move rfl rfl) rfl trivial rfl rfl ?_
          refine TL.nil ?_
          refine TC.inLoop ?_
          refine TC.seq ?_
          refine subJ [(19, 25)] (ih _ _ _ _ _ _ _ h) ?_ ?_ ?_
          · exact ⟨rfl, rfl, rfl, rfl, rfl, rfl, rfl, trivial⟩
          · exact ⟨mem_at 4 rfl, mem_at 0 rfl, mem_at 5 rfl, mem_at 6 rfl, mem_at 7 rfl, mem_at 8 rfl, mem_at 9 rfl, mem_at 10 rfl, trivial⟩
          · rfl
        · have h := cond_f h h24
          refine TC.skip ?_
          refine TC.inBlock ?_
          refine TC.inBlock ?_
          refine TC.region ?_
          obtain ⟨h27, h⟩ := chk_inv h
          refine op0 (sp_add rfl rfl rfl h27) rfl trivial rfl rfl ?_
          refine op0 (sp_move rfl rfl) rfl trivial rfl rfl ?_
          refine TL.nil ?_
          refine TC.inLoop ?_
          refine TC.seq ?_
          refine subJ [] (ih _ _ _ _ _ _ _ h) ?_ ?_ ?_
          · exact ⟨rfl, rfl, rfl, rfl, rfl, rfl, rfl, trivial⟩
          · exact ⟨mem_at 2 rfl, mem_at 3 rfl, mem_at 4 rfl, mem_at 5 rfl, mem_at 6 rfl, mem_at 7 rfl, mem_at 8 rfl, mem_at 9 rfl, trivial⟩
          · rfl
    · have h := cond_f h h13
      refine TC.exit rfl ?_
      refine TC.seq ?_
      refine TC.region ?_
      refine op0 (sp_move rfl rfl) rfl trivial rfl rfl ?_
      obtain ⟨r22, h28, h⟩ := bind_inv h
      refine opT (take := [.row 18 34 2 (List.map en_api_Span l12)]) (need := []) (V' := [.row 26 34 2 (List.map en_api_Span r22.1), .row 18 34 2 (List.map en_api_Span r22.2), .row 19 34 2 (List.map en_api_Span l13), .blk 5 [.val (.int .i64 i15), .ref 0] 297, .blk 6 [.ref 16] 50, .ro 17 1 (List.map en_int l16), .ro 0 2 (List.map en_api_ZoneChange l17), .ro 16 1 (List.map en_int l18), .inv 1 (marksI df)]) [0] [] (ts_call (avs := [.ref 18]) (take := [.row 18 34 2 (List.map en_api_Span l12)]) (need := []) (v := .ref 26) (news := [.row 26 34 2 (List.map en_api_Span r22.1), .row 18 34 2 (List.map en_api_Span r22.2)]) rfl rfl rfl Try.call133 (atT [(0, 18)] [(500, 26), (0, 18)] (ft_zone_spans_joined h28) rfl rfl rfl) rfl rfl) trivial rfl ⟨rfl, trivial⟩ trivial rfl rfl ?_
      refine op0 (sp_move rfl rfl) rfl trivial rfl rfl ?_
      obtain ⟨r23, h29, h⟩ := bind_inv h
      refine opT (take := [.row 19 34 2 (List.map en_api_Span l13)]) (need := []) (V' := [.row 27 34 2 (List.map en_api_Span r23.1), .row 19 34 2 (List.map en_api_Span r23.2), .row 26 34 2 (List.map en_api_Span r22.1), .row 18 34 2 (List.map en_api_Span r22.2), .blk 5 [.val (.int .i64 i15), .ref 0] 297, .blk 6 [.ref 16] 50, .ro 17 1 (List.map en_int l16), .ro 0 2 (List.map en_api_ZoneChange l17), .ro 16 1 (List.map en_int l18), .inv 1 (marksI df)]) [2] [] (ts_call (avs := [.ref 19]) (take := [.row 19 34 2 (List.map en_api_Span l13)]) (need := []) (v := .ref 27) (news := [.row 27 34 2 (List.map en_api_Span r23.1), .row 19 34 2 (List.map en_api_Span r23.2)]) rfl rfl rfl Try.call133 (atT [(0, 19)] [(500, 27), (0, 19)] (ft_zone_spans_joined h29) rfl rfl rfl) rfl rfl) trivial rfl ⟨rfl, trivial⟩ trivial rfl rfl ?_
      refine op0 (sp_assign rfl rfl) rfl trivial rfl rfl ?_
      refine op0 (sp_assign rfl rfl) rfl trivial rfl rfl ?_
      refine op0 (sp_assign rfl rfl) rfl trivial rfl rfl ?_
      refine TL.nil ?_
      cases h
      exact retM [(500, 26), (501, 27)] 9 1 [] rfl (.tmp rfl (.tmp rfl (.tmp rfl .nil))) rfl ⟨mem_at 2 rfl, mem_at 0 rfl, trivial⟩ rfl rfl trivial rfl
def ev_zone_Odd (n : Nat) (z1 : Int) (z2 : List (Int × Int)) : Option ((List (Int × Int)) × (List (Int × Int)) × Int) :=
  (ev_zone_Check n z1 z2).bind fun r3 => cond (r3 != 0) (some (([] : List (Int × Int)), ([] : List (Int × Int)), r3)) ((ev_zone_town_eras (loopStep (ev_zone_Odd_r0 n)) n z1 z2 (([] : List Int), 0)).bind fun q9 => cond (q9.2 == 0) ((ev_slices_Sort_Lint_int n q9.1).bind fun r10 => (ev_slices_Compact_Lint_int n r10).bind fun r11 => chk (in64 ((r11.length : Int) - 1)) <| chk (decide (0 ≤ (0 : Int)) && (decide ((0 : Int) ≤ ((r11.length : Int) - 1)) && decide (((r11.length : Int) - 1) ≤ (r11.length : Int)))) <| ev_zone_Odd_l1 n r11 n ([] : List (Int × Int)) ([] : List (Int × Int)) 0 z1 (List.drop (0 : Int).toNat (List.take (((r11.length : Int) - 1) : Int).toNat r11)) z2 r11) (none))
set_option maxRecDepth 100000 in
set_option maxHeartbeats 2000000 in
theorem ft_zone_Odd {n : Nat} {z1 : Int} {z2 : List (Int × Int)} {r : (List (Int × Int)) × (List (Int × Int)) × Int} (h : ev_zone_Odd n z1 z2 = some r) : FT Try.prog 56 [.agg [.val (.int .i64 z1), .ref 0]] [] [.ro 0 2 (List.map en_api_ZoneChange z2)] (.tup [.ref 500, .ref 501, .val (.int .i64 r.2.2)]) [.row 500 34 2 (List.map en_api_Span r.1), .row 501 34 2 (List.map en_api_Span r.2.1)] := by
  refine introM (nz := 87) 1 [] Try.func56 rfl rfl rfl rfl (fun w0 M0 R0 env0 => ?_)
  rw [ev_zone_Odd] at h
  refine TC.seq ?_
  refine TC.region ?_
  refine op0 (sp_box 2 rfl rfl rfl rfl rfl) rfl trivial rfl rfl ?_
  refine op0 (sp_assign rfl rfl) rfl trivial rfl rfl ?_
  refine op0 (sp_assign rfl rfl) rfl trivial rfl rfl ?_
  refine op0 (sp_assign rfl rfl) rfl trivial rfl rfl ?_
  refine TL.nil ?_
  refine TC.seq ?_
  refine TC.seq ?_
  refine TC.region ?_
  refine op1 0 rfl (sp_loadBA rfl isBlk rfl vt165 rfl rfl) rfl trivial rfl rfl ?_
  obtain ⟨r3, h1, h⟩ := bind_inv h
  refine op1 2 rfl (sp_call (avs := [.agg [.val (.int .i64 z1), .ref 0]]) (need := [.ro 0 2 (List.map en_api_ZoneChange z2)]) (v := .val (.int .i64 r3)) (news := []) rfl rfl rfl Try.call123 (atJ [] [] (fc_zone_Check h1) rfl rfl) (.inl (roAll rfl))) rfl trivial rfl rfl ?_
  refine op0 (sp_assign rfl rfl) rfl trivial rfl rfl ?_
  refine TL.nil ?_
  refine TC.seq ?_
  refine TC.region ?_
  refine op0 (sp_move rfl rfl) rfl trivial rfl rfl ?_
  refine op0 (sp_neq rfl rfl rfl) rfl trivial rfl rfl ?_
  refine TL.nil ?_
  refine TC.cond (b := (r3 != 0)) rfl (fun h2 => ?_) (fun h2 => ?_)
  · have h := cond_t h h2
    refine TC.seq ?_
    refine TC.region ?_
    refine op0 (sp_move rfl rfl) rfl trivial rfl rfl ?_
    refine op0 (sp_assign rfl rfl) rfl trivial rfl rfl ?_
    refine op0 (sp_assign rfl rfl) rfl trivial rfl rfl ?_
    refine op0 (sp_assign rfl rfl) rfl trivial rfl rfl ?_
    refine TL.nil ?_
    refine nilRowC 2 3 34 2 (List.map en_api_Span []) rfl rfl rfl ?_
    refine nilRowC 3 4 34 2 (List.map en_api_Span []) rfl rfl rfl ?_
    cases h
    exact retM [(500, 3), (501, 4)] 3 1 [] rfl (.tmp rfl (.tmp rfl (.tmp rfl .nil))) rfl ⟨mem_at 1 rfl, mem_at 0 rfl, trivial⟩ rfl rfl trivial rfl
  · have h := cond_f h h2
    refine TC.skip ?_
    refine TC.seq ?_
    refine TC.region ?_
    refine op1 0 rfl (sp_loadBA rfl isBlk rfl vt165 rfl rfl) rfl trivial rfl rfl ?_
    refine op0 (sp_build (qs := [(0, .agg [.val (.int .i64 z1), .ref 0])]) rfl bt297 rfl rfl rfl rfl) rfl trivial rfl rfl ?_
    refine op0 (sp_alloc 5 rfl Try.zeroValue297 rfl) rfl trivial rfl rfl ?_
    refine stoB 0 (cells' := [.val (.int .i64 z1), .ref 0]) rfl rfl trivial rfl rfl rfl rfl vt297 rfl rfl rfl ?_
    refine TL.nil ?_
    refine TC.seq ?_
    refine TC.region ?_
    refine op0 (sp_alloc 6 rfl Try.zeroValue50 rfl) rfl trivial rfl rfl ?_
    refine TL.nil ?_
    refine TC.seq ?_
    refine TC.seq ?_
    refine TC.region ?_
    refine op1 1 rfl (sp_loadBA rfl isBlk rfl vt297 rfl rfl) rfl trivial rfl rfl ?_
    refine op0 (sp_makeFunc (fi := [.tmp 23]) (ca := []) (fa := [.agg [.val (.int .i64 z1), .ref 0]]) (cb := []) rfl rfl rfl) rfl trivial rfl rfl ?_
    refine TL.nil ?_
    refine TC.block ?_
    refine nilCellC 0 7 3 1 6 (List.map en_int []) [.ref 7] rfl rfl rfl ?_
    refine TC.pin 9 5 rfl rfl fun u4 => ?_
    refine TC.pin 10 6 rfl rfl fun u5 => ?_
    obtain ⟨q9, h7, h⟩ := bind_inv h
    refine rangeO (T := []) (T' := []) (k := 8) (gm := 1) (grec := 11) (S := [(6, .ptr 5 0), (7, .ptr 6 0)]) (V0 := (fun y7 : (List Int) => [.pin 10 6 u5, .pin 9 5 u4, .row 7 3 1 (List.map en_int y7), .blk 6 [.ref 7] 50, .blk 5 [.val (.int .i64 z1), .ref 0] 297, .ro 0 2 (List.map en_api_ZoneChange z2)])) (needI := [.ro 0 2 (List.map en_api_ZoneChange z2)]) (ps := [25]) (jl := []) (ea := ye_funczone_era_bool) (en := yn_funczone_era_bool) (f := (ev_zone_Odd_r0 n)) (s0 := (([] : List Int), 0)) (yf := q9) (v := .tup []) (fi := [.agg [.val (.int .i64 z1), .ref 0]]) (caps := [])
      ⟨fun x y r hr l rec hrd w0 M0 R0 => ok_zone_Odd_r0 (u5 := u5) (u4 := u4) (z1 := z1) (z2 := z2) hr l rec hrd w0 M0 R0, ⟨rfl, rfl, trivial⟩, At.mem (is := [0, 1, 2, 3, 4, 7]) ⟨rfl, rfl, rfl, rfl, rfl, rfl, trivial⟩, At.mem (is := [7]) ⟨rfl, trivial⟩, rfl, pinsIn [5, 6] [1, 0] ⟨⟨_, _, fun _ => rfl⟩, ⟨_, _, fun _ => rfl⟩, trivial⟩ rfl, rfl, fun _ => rfl, fun _ _ => rfl, fun _ => rfl, fun _ _ => rfl, fun _ => rfl, fun _ => rfl, fun _ => rfl, rfl, rfl, fun _ => rfl, rfl⟩
      rfl rfl Try.call129 (takesNil rfl) 6 rfl (fun I hI => atT [(1, 8)] [(1, 8)] (ft_zone_town_eras hI h7) rfl rfl rfl) (fun d => ?_)
    rcases cond_cases h with ⟨h8, h⟩ | ⟨h8, h⟩
    · refine done0 h8 ?_
      refine TC.inBlock ?_
      refine TC.seq ?_
      refine TC.region ?_
      refine op1 4 rfl (sp_loadB rfl isBlk rfl vt50 rfl) rfl trivial rfl rfl ?_
      obtain ⟨r10, h9, h⟩ := bind_inv h
      refine opT (take := [.row 7 3 1 (List.map en_int q9.1)]) (need := []) (V' := [.row 7 3 1 (List.map en_int r10), .inv 1 (marksI (d :: [])), .pin 10 6 u5, .pin 9 5 u4, .blk 6 [.ref 7] 50, .blk 5 [.val (.int .i64 z1), .ref 0] 297, .ro 0 2 (List.map en_api_ZoneChange z2)]) [3] [] (ts_call (avs := [.ref 7]) (take := [.row 7 3 1 (List.map en_int q9.1)]) (need := []) (v := .tup []) (news := [.row 7 3 1 (List.map en_int r10)]) rfl rfl rfl Try.call122 (atT [(0, 7)] [(0, 7)] (ft_slices_Sort_Lint_int h9) rfl rfl rfl) rfl rfl) trivial rfl ⟨rfl, trivial⟩ trivial rfl rfl ?_
      refine TL.nil ?_
      refine TC.seq ?_
      refine TC.region ?_
      refine op1 4 rfl (sp_loadB rfl isBlk rfl vt50 rfl) rfl trivial rfl rfl ?_
      obtain ⟨r11, h10, h⟩ := bind_inv h
      refine opT (take := [.row 7 3 1 (List.map en_int r10)]) (need := []) (V' := [.row 16 3 1 (List.map en_int r11), .inv 1 (marksI (d :: [])), .pin 10 6 u5, .pin 9 5 u4, .blk 6 [.ref 7] 50, .blk 5 [.val (.int .i64 z1), .ref 0] 297, .ro 0 2 (List.map en_api_ZoneChange z2)]) [0] [] (ts_call (avs := [.ref 7]) (take := [.row 7 3 1 (List.map en_int r10)]) (need := []) (v := .ref 16) (news := [.row 16 3 1 (List.map en_int r11)]) rfl rfl rfl Try.call131 (atT [(0, 7)] [(500, 16)] (ft_slices_Compact_Lint_int h10) rfl rfl rfl) rfl rfl) trivial rfl ⟨rfl, trivial⟩ trivial rfl rfl ?_
      refine stoB 4 (cells' := [.ref 16]) rfl rfl trivial rfl rfl rfl rfl vt50 rfl rfl rfl ?_
      refine TL.nil ?_
      refine TC.seq ?_
      refine TC.region ?_
      refine op0 (sp_assign rfl rfl) rfl trivial rfl rfl ?_
      refine op0 (sp_assign rfl rfl) rfl trivial rfl rfl ?_
      refine TL.nil ?_
      refine TC.seq ?_
      refine TC.seq ?_
      refine TC.region ?_
      refine op1 4 rfl (sp_loadB rfl isBlk rfl vt50 rfl) rfl trivial rfl rfl ?_
      refine op1 4 rfl (sp_loadB rfl isBlk rfl vt50 rfl) rfl trivial rfl rfl ?_
      refine op1 0 rfl (sp_lenM (N := r11.length) (len_map _ _) rfl rfl isOwn Try.underlying50) rfl trivial rfl rfl ?_
      obtain ⟨h11, h⟩ := chk_inv h
      refine op0 (sp_sub rfl rfl rfl h11) rfl trivial rfl rfl ?_
      refine TL.freeze 0 rfl ?_
      obtain ⟨h12, h⟩ := chk_inv h
      refine op1 0 rfl (sp_sliceM (l := 0) (h := ((r11.length : Int) - 1)) 17 (len_map _ _) rfl rfl sl50 cut_none (cut_some rfl) h12 (map_cut _ _ _ _)) rfl trivial rfl rfl ?_
      refine op1 0 rfl (sp_lenM (N := (List.drop (0 : Int).toNat (List.take (((r11.length : Int) - 1) : Int).toNat r11)).length) (len_map _ _) rfl rfl isRo Try.underlying50) rfl trivial rfl rfl ?_
      refine op0 (sp_move rfl rfl) rfl trivial rfl rfl ?_
      refine TL.nil ?_
      refine TC.block ?_
      refine TC.loop ?_
      refine TC.seq ?_
      refine nilRowC 10 28 34 2 (List.map en_api_Span []) rfl rfl rfl ?_
      refine nilRowC 11 29 34 2 (List.map en_api_Span []) rfl rfl rfl ?_
      refine subJ [(18, 28), (19, 29)] (ok_zone_Odd_l1 _ _ _ _ _ _ _ _ h) ?_ ?_ ?_
      · exact ⟨rfl, rfl, rfl, rfl, rfl, rfl, rfl, trivial⟩
      · exact ⟨mem_at 1 rfl, mem_at 0 rfl, mem_at 8 rfl, mem_at 7 rfl, mem_at 2 rfl, mem_at 9 rfl, mem_at 3 rfl, mem_at 4 rfl, trivial⟩
      · rfl
    · exact none_no h
theorem fc_zone_Odd {n : Nat} {z1 : Int} {z2 : List (Int × Int)} {r : (List (Int × Int)) × (List (Int × Int)) × Int} (h : ev_zone_Odd n z1 z2 = some r) : FC Try.prog 56 [.agg [.val (.int .i64 z1), .ref 0]] [.ro 0 2 (List.map en_api_ZoneChange z2)] (.tup [.ref 500, .ref 501, .val (.int .i64 r.2.2)]) [.row 500 34 2 (List.map en_api_Span r.1), .row 501 34 2 (List.map en_api_Span r.2.1)] := (ft_zone_Odd h).toFC rfl
/- top_pubTowns -/
def ev_top_pubTowns (n : Nat) : Option Bool :=
  (ev_zone_Says n (-300) ([(36000, 0)] : List (Int × Int)) 35999).bind fun r1 => (ev_zone_Odd n (-300) ([(36000, 0)] : List (Int × Int))).bind fun r2 => cond (r1.2.2 == 0) (cond (r2.2.2 == 0) (cond (r1.1 == 0) (cond (r1.2.1 == 35699) (cond ((r2.1.length : Int) == 0) (cond ((r2.2.1.length : Int) == 1) (idx r2.2.1 0 fun x3 => (ev_top_pubSpan n 595 599).bind fun r4 => some ((x3.1 == r4.1) && (x3.2 == r4.2))) (some false)) (some false)) (some false)) (some false)) (some false)) (some false)
set_option maxRecDepth 100000 in
set_option maxHeartbeats 2000000 in
theorem fc_top_pubTowns {n : Nat}  {r : Bool} (h : ev_top_pubTowns n = some r) : FC Try.prog 57 [] [] (.val (.bool r)) [] := by
  refine introJ (nz := 54) Try.func57 rfl rfl rfl (fun w0 R0 env0 => ?_)
  rw [ev_top_pubTowns] at h
  refine TC.seq ?_
  refine TC.region ?_
  refine op0 (sp_assign rfl rfl) rfl trivial rfl rfl ?_
  refine TL.nil ?_
  refine TC.seq ?_
  refine TC.region ?_
  refine op0 (sp_build (qs := [(0, .val (.int .i64 36000))]) rfl bt162 rfl rfl rfl rfl) rfl trivial rfl rfl ?_
  refine op0 (sp_buildSlice (qs := [.agg [.val (.int .i64 36000), .val (.int .i64 0)]]) (need := []) (els := List.map en_api_ZoneChange ([(36000, 0)] : List (Int × Int))) 0 rfl sl163 (by decide) (by decide) rfl rfl rfl (.v (.v (.nil))) (map_len fun _ => rfl) rfl rfl rfl) rfl trivial rfl rfl ?_
  refine op0 (sp_build (qs := [(0, .val (.int .i64 (-300))), (1, .ref 0)]) rfl bt165 rfl rfl rfl rfl) rfl trivial rfl rfl ?_
  refine op0 (sp_alloc 1 rfl Try.zeroValue165 rfl) rfl trivial rfl rfl ?_
  refine stoB 0 (cells' := [.val (.int .i64 (-300)), .ref 0]) rfl rfl trivial rfl rfl rfl rfl vt165 rfl rfl rfl ?_
  refine TL.nil ?_
  refine TC.seq ?_
  refine TC.region ?_
  refine op1 0 rfl (sp_loadBA rfl isBlk rfl vt165 rfl rfl) rfl trivial rfl rfl ?_
  obtain ⟨r1, h1, h⟩ := bind_inv h
  refine op1 1 rfl (sp_call (avs := [.agg [.val (.int .i64 (-300)), .ref 0], .val (.int .i64 35999)]) (need := [.row 0 162 2 (List.map en_api_ZoneChange ([(36000, 0)] : List (Int × Int)))]) (v := .tup [.val (.int .i64 r1.1), .val (.int .i64 r1.2.1), .val (.int .i64 r1.2.2)]) (news := []) rfl rfl rfl Try.call55 (atJ [] [] (fc_zone_Says h1) rfl rfl) (.inr (fun x hx => nomatch hx))) rfl trivial rfl rfl ?_
  refine op0 (sp_move rfl rfl) rfl trivial rfl rfl ?_
  refine op0 (sp_extract rfl rfl rfl) rfl trivial rfl rfl ?_
  refine op0 (sp_extract rfl rfl rfl) rfl trivial rfl rfl ?_
  refine op0 (sp_extract rfl rfl rfl) rfl trivial rfl rfl ?_
  refine op0 (sp_assign rfl rfl) rfl trivial rfl rfl ?_
  refine op0 (sp_assign rfl rfl) rfl trivial rfl rfl ?_
  refine op0 (sp_assign rfl rfl) rfl trivial rfl rfl ?_
  refine TL.nil ?_
  refine TC.seq ?_
  refine TC.region ?_
  refine op1 0 rfl (sp_loadBA rfl isBlk rfl vt165 rfl rfl) rfl trivial rfl rfl ?_
  obtain ⟨r2, h2, h⟩ := bind_inv h
  refine op1 1 rfl (sp_call (avs := [.agg [.val (.int .i64 (-300)), .ref 0]]) (need := [.row 0 162 2 (List.map en_api_ZoneChange ([(36000, 0)] : List (Int × Int)))]) (v := .tup [.ref 2, .ref 3, .val (.int .i64 r2.2.2)]) (news := [.row 2 34 2 (List.map en_api_Span r2.1), .row 3 34 2 (List.map en_api_Span r2.2.1)]) rfl rfl rfl Try.call56 (atJ [] [(500, 2), (501, 3)] (fc_zone_Odd h2) rfl rfl) (.inr (List.forall_mem_cons.2 ⟨indep_map en_api_Span_flat, List.forall_mem_cons.2 ⟨indep_map en_api_Span_flat, (by simp)⟩⟩))) rfl trivial rfl rfl ?_
  refine op0 (sp_move rfl rfl) rfl trivial rfl rfl ?_
  refine op0 (sp_extract rfl rfl rfl) rfl trivial rfl rfl ?_
  refine op0 (sp_extract rfl rfl rfl) rfl trivial rfl rfl ?_
  refine op0 (sp_extract rfl rfl rfl) rfl trivial rfl rfl ?_
  refine op0 (sp_assign rfl rfl) rfl trivial rfl rfl ?_
  refine op0 (sp_assign rfl rfl) rfl trivial rfl rfl ?_
  refine op0 (sp_assign rfl rfl) rfl trivial rfl rfl ?_
  refine TL.nil ?_
  refine TC.seq ?_
  rcases cond_cases h with ⟨h3, h⟩ | ⟨h3, h⟩
  · rcases cond_cases h with ⟨h4, h⟩ | ⟨h4, h⟩
    · rcases cond_cases h with ⟨h5, h⟩ | ⟨h5, h⟩
      · rcases cond_cases h with ⟨h6, h⟩ | ⟨h6, h⟩
        · rcases cond_cases h with ⟨h7, h⟩ | ⟨h7, h⟩
          · rcases cond_cases h with ⟨h8, h⟩ | ⟨h8, h⟩
            · obtain ⟨x3, h9, h10, h⟩ := idx_inv h
              obtain ⟨r4, h11, h⟩ := bind_inv h
              refine drawJ 29 [⟨.val (.int .i64 r1.2.2), [], [], []⟩, ⟨.val (.bool (r1.2.2 == 0)), [], [], []⟩, ⟨.val (.bool true), [], [], []⟩, ⟨.val (.int .i64 r2.2.2), [], [], []⟩, ⟨.val (.bool (r2.2.2 == 0)), [], [], []⟩, ⟨.val (.bool (r2.2.2 == 0)), [], [], []⟩, ⟨.val (.bool true), [], [], []⟩, ⟨.val (.int .i64 r1.1), [], [], []⟩, ⟨.val (.bool (r1.1 == 0)), [], [], []⟩, ⟨.val (.bool (r1.1 == 0)), [], [], []⟩, ⟨.val (.bool true), [], [], []⟩, ⟨.val (.int .i64 r1.2.1), [], [], []⟩, ⟨.val (.bool (r1.2.1 == 35699)), [], [], []⟩, ⟨.val (.bool (r1.2.1 == 35699)), [], [], []⟩, ⟨.val (.bool true), [], [], []⟩, ⟨.ref 2, [], [], []⟩, ⟨.val (.int .i64 (r2.1.length : Int)), [], [.row 2 34 2 (List.map en_api_Span r2.1)], []⟩, ⟨.val (.bool ((r2.1.length : Int) == 0)), [], [], []⟩, ⟨.val (.bool ((r2.1.length : Int) == 0)), [], [], []⟩, ⟨.val (.bool true), [], [], []⟩, ⟨.ref 3, [], [], []⟩, ⟨.val (.int .i64 (r2.2.1.length : Int)), [], [.row 3 34 2 (List.map en_api_Span r2.2.1)], []⟩, ⟨.val (.bool ((r2.2.1.length : Int) == 1)), [], [], []⟩, ⟨.val (.bool ((r2.2.1.length : Int) == 1)), [], [], []⟩, ⟨.val (.bool true), [], [], []⟩, ⟨.ref 3, [], [], []⟩, ⟨.cell 3 ((0 : Int).toNat * 2), [], [.row 3 34 2 (List.map en_api_Span r2.2.1)], []⟩, ⟨.agg [.val (.int .i64 x3.1), .val (.int .i64 x3.2)], [], [.row 3 34 2 (List.map en_api_Span r2.2.1)], []⟩, ⟨.agg [.val (.int .i64 r4.1), .val (.int .i64 r4.2)], [], [], []⟩] rfl ?_ rfl ?_ rfl ?_ ?_
              · kernel_rfl
              · kernel_rfl
              · exact DAll.op' (sp_move rfl rfl) trivial rfl (From.ok (ps := []) trivial) (DAll.op' (sp_eql rfl rfl rfl) trivial rfl (From.ok (ps := []) trivial) (DAll.op' (sp_castB h3 (sp_move rfl rfl)) trivial rfl (From.ok (ps := []) trivial) (DAll.op' (sp_move rfl rfl) ⟨_, rfl, rfl⟩ rfl (From.ok (ps := []) trivial) (DAll.op' (sp_eql rfl rfl rfl) ⟨_, rfl, rfl⟩ rfl (From.ok (ps := []) trivial) (DAll.op' (sp_pickT rfl rfl rfl) trivial rfl (From.ok (ps := []) trivial) (DAll.op' (sp_castB h4 (sp_move rfl rfl)) trivial rfl (From.ok (ps := []) trivial) (DAll.op' (sp_move rfl rfl) ⟨_, rfl, rfl⟩ rfl (From.ok (ps := []) trivial) (DAll.op' (sp_eql rfl rfl rfl) ⟨_, rfl, rfl⟩ rfl (From.ok (ps := []) trivial) (DAll.op' (sp_pickT rfl rfl rfl) trivial rfl (From.ok (ps := []) trivial) (DAll.op' (sp_castB h5 (sp_move rfl rfl)) trivial rfl (From.ok (ps := []) trivial) (DAll.op' (sp_move rfl rfl) ⟨_, rfl, rfl⟩ rfl (From.ok (ps := []) trivial) (DAll.op' (sp_eql rfl rfl rfl) ⟨_, rfl, rfl⟩ rfl (From.ok (ps := []) trivial) (DAll.op' (sp_pickT rfl rfl rfl) trivial rfl (From.ok (ps := []) trivial) (DAll.op' (sp_castB h6 (sp_move rfl rfl)) trivial rfl (From.ok (ps := []) trivial) (DAll.op' (sp_move rfl rfl) ⟨_, rfl, rfl⟩ rfl (From.ok (ps := []) trivial) (DAll.op' (sp_lenM (N := r2.1.length) (len_map _ _) rfl rfl isOwn Try.underlying39) ⟨_, rfl, rfl⟩ rfl (From.ok (ps := [(none, 0)]) ⟨⟨rfl, rfl⟩, trivial⟩) (DAll.op' (sp_eql rfl rfl rfl) ⟨_, rfl, rfl⟩ rfl (From.ok (ps := []) trivial) (DAll.op' (sp_pickT rfl rfl rfl) trivial rfl (From.ok (ps := []) trivial) (DAll.op' (sp_castB h7 (sp_move rfl rfl)) trivial rfl (From.ok (ps := []) trivial) (DAll.op' (sp_move rfl rfl) ⟨_, rfl, rfl⟩ rfl (From.ok (ps := []) trivial) (DAll.op' (sp_lenM (N := r2.2.1.length) (len_map _ _) rfl rfl isOwn Try.underlying39) ⟨_, rfl, rfl⟩ rfl (From.ok (ps := [(none, 1)]) ⟨⟨rfl, rfl⟩, trivial⟩) (DAll.op' (sp_eql rfl rfl rfl) ⟨_, rfl, rfl⟩ rfl (From.ok (ps := []) trivial) (DAll.op' (sp_pickT rfl rfl rfl) trivial rfl (From.ok (ps := []) trivial) (DAll.op' (sp_castB h8 (sp_move rfl rfl)) trivial rfl (From.ok (ps := []) trivial) (DAll.op' (sp_move rfl rfl) ⟨_, rfl, rfl⟩ rfl (From.ok (ps := []) trivial) (DAll.op' (sp_indexS rfl rfl rfl isOwn sl39 h9 (map_get _ h10)) ⟨_, rfl, rfl⟩ rfl (From.ok (ps := [(none, 1)]) ⟨⟨rfl, rfl⟩, trivial⟩) (DAll.op' (sp_loadRA (i := (0 : Int).toNat) (j := 0) (as_ := [.val (.int .i64 x3.1), .val (.int .i64 x3.2)]) (ns := []) rfl rfl isOwn vt34 rfl (map_get _ h10) rfl rfl (by decide) (.v (.v (.nil))) (nodup_of_B rfl)) ⟨_, rfl, rfl⟩ rfl (From.ok (ps := [(none, 1)]) ⟨⟨rfl, rfl⟩, trivial⟩) (DAll.op' (sp_call (avs := [.val (.int .i64 595), .val (.int .i64 599)]) (need := []) (v := .agg [.val (.int .i64 r4.1), .val (.int .i64 r4.2)]) (news := []) rfl rfl rfl Try.call20 (atJ [] [] (fc_top_pubSpan h11) rfl rfl) (.inl (roAll rfl))) ⟨_, rfl, rfl⟩ rfl (From.ok (ps := []) trivial) (.nil)))))))))))))))))))))))))))))
              refine op0 (sp_eqlS rfl rfl rfl rfl rfl (eq34 _ _ _ _)) rfl ⟨_, rfl, rfl⟩ rfl rfl ?_
              refine op0 (sp_pickT rfl rfl rfl) rfl trivial rfl rfl ?_
              refine op0 (sp_assign rfl rfl) rfl trivial rfl rfl ?_
              refine TL.nil ?_
              cases h
              exact retJ [] (.tmp rfl .nil) rfl trivial rfl rfl
            · refine drawJ 29 [⟨.val (.int .i64 r1.2.2), [], [], []⟩, ⟨.val (.bool (r1.2.2 == 0)), [], [], []⟩, ⟨.val (.bool true), [], [], []⟩, ⟨.val (.int .i64 r2.2.2), [], [], []⟩, ⟨.val (.bool (r2.2.2 == 0)), [], [], []⟩, ⟨.val (.bool (r2.2.2 == 0)), [], [], []⟩, ⟨.val (.bool true), [], [], []⟩, ⟨.val (.int .i64 r1.1), [], [], []⟩, ⟨.val (.bool (r1.1 == 0)), [], [], []⟩, ⟨.val (.bool (r1.1 == 0)), [], [], []⟩, ⟨.val (.bool true), [], [], []⟩, ⟨.val (.int .i64 r1.2.1), [], [], []⟩, ⟨.val (.bool (r1.2.1 == 35699)), [], [], []⟩, ⟨.val (.bool (r1.2.1 == 35699)), [], [], []⟩, ⟨.val (.bool true), [], [], []⟩, ⟨.ref 2, [], [], []⟩, ⟨.val (.int .i64 (r2.1.length : Int)), [], [.row 2 34 2 (List.map en_api_Span r2.1)], []⟩, ⟨.val (.bool ((r2.1.length : Int) == 0)), [], [], []⟩, ⟨.val (.bool ((r2.1.length : Int) == 0)), [], [], []⟩, ⟨.val (.bool true), [], [], []⟩, ⟨.ref 3, [], [], []⟩, ⟨.val (.int .i64 (r2.2.1.length : Int)), [], [.row 3 34 2 (List.map en_api_Span r2.2.1)], []⟩, ⟨.val (.bool ((r2.2.1.length : Int) == 1)), [], [], []⟩, ⟨.val (.bool ((r2.2.1.length : Int) == 1)), [], [], []⟩, ⟨.val (.bool false), [], [], []⟩, ⟨.val (undef), [], [], []⟩, ⟨.val (undef), [], [], []⟩, ⟨.val (undef), [], [], []⟩, ⟨.val (undef), [], [], []⟩] rfl ?_ rfl ?_ rfl ?_ ?_
              · kernel_rfl
              · kernel_rfl
              · exact DAll.op' (sp_move rfl rfl) trivial rfl (From.ok (ps := []) trivial) (DAll.op' (sp_eql rfl rfl rfl) trivial rfl (From.ok (ps := []) trivial) (DAll.op' (sp_castB h3 (sp_move rfl rfl)) trivial rfl (From.ok (ps := []) trivial) (DAll.op' (sp_move rfl rfl) ⟨_, rfl, rfl⟩ rfl (From.ok (ps := []) trivial) (DAll.op' (sp_eql rfl rfl rfl) ⟨_, rfl, rfl⟩ rfl (From.ok (ps := []) trivial) (DAll.op' (sp_pickT rfl rfl rfl) trivial rfl (From.ok (ps := []) trivial) (DAll.op' (sp_castB h4 (sp_move rfl rfl)) trivial rfl (From.ok (ps := []) trivial) (DAll.op' (sp_move rfl rfl) ⟨_, rfl, rfl⟩ rfl (From.ok (ps := []) trivial) (DAll.op' (sp_eql rfl rfl rfl) ⟨_, rfl, rfl⟩ rfl (From.ok (ps := []) trivial) (DAll.op' (sp_pickT rfl rfl rfl) trivial rfl (From.ok (ps := []) trivial) (DAll.op' (sp_castB h5 (sp_move rfl rfl)) trivial rfl (From.ok (ps := []) trivial) (DAll.op' (sp_move rfl rfl) ⟨_, rfl, rfl⟩ rfl (From.ok (ps := []) trivial) (DAll.op' (sp_eql rfl rfl rfl) ⟨_, rfl, rfl⟩ rfl (From.ok (ps := []) trivial) (DAll.op' (sp_pickT rfl rfl rfl) trivial rfl (From.ok (ps := []) trivial) (DAll.op' (sp_castB h6 (sp_move rfl rfl)) trivial rfl (From.ok (ps := []) trivial) (DAll.op' (sp_move rfl rfl) ⟨_, rfl, rfl⟩ rfl (From.ok (ps := []) trivial) (DAll.op' (sp_lenM (N := r2.1.length) (len_map _ _) rfl rfl isOwn Try.underlying39) ⟨_, rfl, rfl⟩ rfl (From.ok (ps := [(none, 0)]) ⟨⟨rfl, rfl⟩, trivial⟩) (DAll.op' (sp_eql rfl rfl rfl) ⟨_, rfl, rfl⟩ rfl (From.ok (ps := []) trivial) (DAll.op' (sp_pickT rfl rfl rfl) trivial rfl (From.ok (ps := []) trivial) (DAll.op' (sp_castB h7 (sp_move rfl rfl)) trivial rfl (From.ok (ps := []) trivial) (DAll.op' (sp_move rfl rfl) ⟨_, rfl, rfl⟩ rfl (From.ok (ps := []) trivial) (DAll.op' (sp_lenM (N := r2.2.1.length) (len_map _ _) rfl rfl isOwn Try.underlying39) ⟨_, rfl, rfl⟩ rfl (From.ok (ps := [(none, 1)]) ⟨⟨rfl, rfl⟩, trivial⟩) (DAll.op' (sp_eql rfl rfl rfl) ⟨_, rfl, rfl⟩ rfl (From.ok (ps := []) trivial) (DAll.op' (sp_pickT rfl rfl rfl) trivial rfl (From.ok (ps := []) trivial) (DAll.op' (sp_castB h8 (sp_move rfl rfl)) trivial rfl (From.ok (ps := []) trivial) (.skip ⟨_, rfl, .inl rfl⟩ rfl rfl rfl (.skip ⟨_, rfl, .inl rfl⟩ rfl rfl rfl (.skip ⟨_, rfl, .inl rfl⟩ rfl rfl rfl (.skip ⟨_, rfl, .inl rfl⟩ rfl rfl rfl (.nil)))))))))))))))))))))))))))))
              refine opSkip rfl ⟨_, rfl, .inl rfl⟩ rfl ?_
              refine op0 (sp_pickF rfl rfl rfl) rfl trivial rfl rfl ?_
              refine op0 (sp_assign rfl rfl) rfl trivial rfl rfl ?_
              refine TL.nil ?_
              cases h
              exact retJ [] (.tmp rfl .nil) rfl trivial rfl rfl
          · refine drawJ 29 [⟨.val (.int .i64 r1.2.2), [], [], []⟩, ⟨.val (.bool (r1.2.2 == 0)), [], [], []⟩, ⟨.val (.bool true), [], [], []⟩, ⟨.val (.int .i64 r2.2.2), [], [], []⟩, ⟨.val (.bool (r2.2.2 == 0)), [], [], []⟩, ⟨.val (.bool (r2.2.2 == 0)), [], [], []⟩, ⟨.val (.bool true), [], [], []⟩, ⟨.val (.int .i64 r1.1), [], [], []⟩, ⟨.val (.bool (r1.1 == 0)), [], [], []⟩, ⟨.val (.bool (r1.1 == 0)), [], [], []⟩, ⟨.val (.bool true), [], [], []⟩, ⟨.val (.int .i64 r1.2.1), [], [], []⟩, ⟨.val (.bool (r1.2.1 == 35699)), [], [], []⟩, ⟨.val (.bool (r1.2.1 == 35699)), [], [], []⟩, ⟨.val (.bool true), [], [], []⟩, ⟨.ref 2, [], [], []⟩, ⟨.val (.int .i64 (r2.1.length : Int)), [], [.row 2 34 2 (List.map en_api_Span r2.1)], []⟩, ⟨.val (.bool ((r2.1.length : Int) == 0)), [], [], []⟩, ⟨.val (.bool ((r2.1.length : Int) == 0)), [], [], []⟩, ⟨.val (.bool false), [], [], []⟩, ⟨.val (undef), [], [], []⟩, ⟨.val (undef), [], [], []⟩, ⟨.val (undef), [], [], []⟩, ⟨.val (.bool false), [], [], []⟩, ⟨.val (.bool false), [], [], []⟩, ⟨.val (undef), [], [], []⟩, ⟨.val (undef), [], [], []⟩, ⟨.val (undef), [], [], []⟩, ⟨.val (undef), [], [], []⟩] rfl ?_ rfl ?_ rfl ?_ ?_
            · kernel_rfl
            · kernel_rfl
            · exact DAll.op' (sp_move rfl rfl) trivial rfl (From.ok (ps := []) trivial) (DAll.op' (sp_eql rfl rfl rfl) trivial rfl (From.ok (ps := []) trivial) (DAll.op' (sp_castB h3 (sp_move rfl rfl)) trivial rfl (From.ok (ps := []) trivial) (DAll.op' (sp_move rfl rfl) ⟨_, rfl, rfl⟩ rfl (From.ok (ps := []) trivial) (DAll.op' (sp_eql rfl rfl rfl) ⟨_, rfl, rfl⟩ rfl (From.ok (ps := []) trivial) (DAll.op' (sp_pickT rfl rfl rfl) trivial rfl (From.ok (ps := []) trivial) (DAll.op' (sp_castB h4 (sp_move rfl rfl)) trivial rfl (From.ok (ps := []) trivial) (DAll.op' (sp_move rfl rfl) ⟨_, rfl, rfl⟩ rfl (From.ok (ps := []) trivial) (DAll.op' (sp_eql rfl rfl rfl) ⟨_, rfl, rfl⟩ rfl (From.ok (ps := []) trivial) (DAll.op' (sp_pickT rfl rfl rfl) trivial rfl (From.ok (ps := []) trivial) (DAll.op' (sp_castB h5 (sp_move rfl rfl)) trivial rfl (From.ok (ps := []) trivial) (DAll.op' (sp_move rfl rfl) ⟨_, rfl, rfl⟩ rfl (From.ok (ps := []) trivial) (DAll.op' (sp_eql rfl rfl rfl) ⟨_, rfl, rfl⟩ rfl (From.ok (ps := []) trivial) (DAll.op' (sp_pickT rfl rfl rfl) trivial rfl (From.ok (ps := []) trivial) (DAll.op' (sp_castB h6 (sp_move rfl rfl)) trivial rfl (From.ok (ps := []) trivial) (DAll.op' (sp_move rfl rfl) ⟨_, rfl, rfl⟩ rfl (From.ok (ps := []) trivial) (DAll.op' (sp_lenM (N := r2.1.length) (len_map _ _) rfl rfl isOwn Try.underlying39) ⟨_, rfl, rfl⟩ rfl (From.ok (ps := [(none, 0)]) ⟨⟨rfl, rfl⟩, trivial⟩) (DAll.op' (sp_eql rfl rfl rfl) ⟨_, rfl, rfl⟩ rfl (From.ok (ps := []) trivial) (DAll.op' (sp_pickT rfl rfl rfl) trivial rfl (From.ok (ps := []) trivial) (DAll.op' (sp_castB h7 (sp_move rfl rfl)) trivial rfl (From.ok (ps := []) trivial) (.skip ⟨_, rfl, .inl rfl⟩ rfl rfl rfl (.skip ⟨_, rfl, .inl rfl⟩ rfl rfl rfl (.skip ⟨_, rfl, .inl rfl⟩ rfl rfl rfl (DAll.op' (sp_pickF rfl rfl rfl) trivial rfl (From.ok (ps := []) trivial) (DAll.op' (sp_move rfl rfl) trivial rfl (From.ok (ps := []) trivial) (.skip ⟨_, rfl, .inl rfl⟩ rfl rfl rfl (.skip ⟨_, rfl, .inl rfl⟩ rfl rfl rfl (.skip ⟨_, rfl, .inl rfl⟩ rfl rfl rfl (.skip ⟨_, rfl, .inl rfl⟩ rfl rfl rfl (.nil)))))))))))))))))))))))))))))
            refine opSkip rfl ⟨_, rfl, .inl rfl⟩ rfl ?_
            refine op0 (sp_pickF rfl rfl rfl) rfl trivial rfl rfl ?_
            refine op0 (sp_assign rfl rfl) rfl trivial rfl rfl ?_
            refine TL.nil ?_
            cases h
            exact retJ [] (.tmp rfl .nil) rfl trivial rfl rfl
        · refine drawJ 29 [⟨.val (.int .i64 r1.2.2), [], [], []⟩, ⟨.val (.bool (r1.2.2 == 0)), [], [], []⟩, ⟨.val (.bool true), [], [], []⟩, ⟨.val (.int .i64 r2.2.2), [], [], []⟩, ⟨.val (.bool (r2.2.2 == 0)), [], [], []⟩, ⟨.val (.bool (r2.2.2 == 0)), [], [], []⟩, ⟨.val (.bool true), [], [], []⟩, ⟨.val (.int .i64 r1.1), [], [], []⟩, ⟨.val (.bool (r1.1 == 0)), [], [], []⟩, ⟨.val (.bool (r1.1 == 0)), [], [], []⟩, ⟨.val (.bool true), [], [], []⟩, ⟨.val (.int .i64 r1.2.1), [], [], []⟩, ⟨.val (.bool (r1.2.1 == 35699)), [], [], []⟩, ⟨.val (.bool (r1.2.1 == 35699)), [], [], []⟩, ⟨.val (.bool false), [], [], []⟩, ⟨.val (undef), [], [], []⟩, ⟨.val (undef), [], [], []⟩, ⟨.val (undef), [], [], []⟩, ⟨.val (.bool false), [], [], []⟩, ⟨.val (.bool false), [], [], []⟩, ⟨.val (undef), [], [], []⟩, ⟨.val (undef), [], [], []⟩, ⟨.val (undef), [], [], []⟩, ⟨.val (.bool false), [], [], []⟩, ⟨.val (.bool false), [], [], []⟩, ⟨.val (undef), [], [], []⟩, ⟨.val (undef), [], [], []⟩, ⟨.val (undef), [], [], []⟩, ⟨.val (undef), [], [], []⟩] rfl ?_ rfl ?_ rfl ?_ ?_
          · kernel_rfl
          · kernel_rfl
          · exact DAll.op' (sp_move rfl rfl) trivial rfl (From.ok (ps := []) trivial) (DAll.op' (sp_eql rfl rfl rfl) trivial rfl (From.ok (ps := []) trivial) (DAll.op' (sp_castB h3 (sp_move rfl rfl)) trivial rfl (From.ok (ps := []) trivial) (DAll.op' (sp_move rfl rfl) ⟨_, rfl, rfl⟩ rfl (From.ok (ps := []) trivial) (DAll.op' (sp_eql rfl rfl rfl) ⟨_, rfl, rfl⟩ rfl (From.ok (ps := []) trivial) (DAll.op' (sp_pickT rfl rfl rfl) trivial rfl (From.ok (ps := []) trivial) (DAll.op' (sp_castB h4 (sp_move rfl rfl)) trivial rfl (From.ok (ps := []) trivial) (DAll.op' (sp_move rfl rfl) ⟨_, rfl, rfl⟩ rfl (From.ok (ps := []) trivial) (DAll.op' (sp_eql rfl rfl rfl) ⟨_, rfl, rfl⟩ rfl (From.ok (ps := []) trivial) (DAll.op' (sp_pickT rfl rfl rfl) trivial rfl (From.ok (ps := []) trivial) (DAll.op' (sp_castB h5 (sp_move rfl rfl)) trivial rfl (From.ok (ps := []) trivial) (DAll.op' (sp_move rfl rfl) ⟨_, rfl, rfl⟩ rfl (From.ok (ps := []) trivial) (DAll.op' (sp_eql rfl rfl rfl) ⟨_, rfl, rfl⟩ rfl (From.ok (ps := []) trivial) (DAll.op' (sp_pickT rfl rfl rfl) trivial rfl (From.ok (ps := []) trivial) (DAll.op' (sp_castB h6 (sp_move rfl rfl)) trivial rfl (From.ok (ps := []) trivial) (.skip ⟨_, rfl, .inl rfl⟩ rfl rfl rfl (.skip ⟨_, rfl, .inl rfl⟩ rfl rfl rfl (.skip ⟨_, rfl, .inl rfl⟩ rfl rfl rfl (DAll.op' (sp_pickF rfl rfl rfl) trivial rfl (From.ok (ps := []) trivial) (DAll.op' (sp_move rfl rfl) trivial rfl (From.ok (ps := []) trivial) (.skip ⟨_, rfl, .inl rfl⟩ rfl rfl rfl (.skip ⟨_, rfl, .inl rfl⟩ rfl rfl rfl (.skip ⟨_, rfl, .inl rfl⟩ rfl rfl rfl (DAll.op' (sp_pickF rfl rfl rfl) trivial rfl (From.ok (ps := []) trivial) (DAll.op' (sp_move rfl rfl) trivial rfl (From.ok (ps := []) trivial) (.skip ⟨_, rfl, .inl rfl⟩ rfl rfl rfl (.skip ⟨_, rfl, .inl rfl⟩ rfl rfl rfl (.skip ⟨_, rfl, .inl rfl⟩ rfl rfl rfl (.skip ⟨_, rfl, .inl rfl⟩ rfl rfl rfl (.nil)))))))))))))))))))))))))))))
          refine opSkip rfl ⟨_, rfl, .inl rfl⟩ rfl ?_
          refine op0 (sp_pickF rfl rfl rfl) rfl trivial rfl rfl ?_
          refine op0 (sp_assign rfl rfl) rfl trivial rfl rfl ?_
          refine TL.nil ?_
          cases h
          exact retJ [] (.tmp rfl .nil) rfl trivial rfl rfl
      · refine drawJ 29 [⟨.val (.int .i64 r1.2.2), [], [], []⟩, ⟨.val (.bool (r1.2.2 == 0)), [], [], []⟩, ⟨.val (.bool true), [], [], []⟩, ⟨.val (.int .i64 r2.2.2), [], [], []⟩, ⟨.val (.bool (r2.2.2 == 0)), [], [], []⟩, ⟨.val (.bool (r2.2.2 == 0)), [], [], []⟩, ⟨.val (.bool true), [], [], []⟩, ⟨.val (.int .i64 r1.1), [], [], []⟩, ⟨.val (.bool (r1.1 == 0)), [], [], []⟩, ⟨.val (.bool (r1.1 == 0)), [], [], []⟩, ⟨.val (.bool false), [], [], []⟩, ⟨.val (undef), [], [], []⟩, ⟨.val (undef), [], [], []⟩, ⟨.val (.bool false), [], [], []⟩, ⟨.val (.bool false), [], [], []⟩, ⟨.val (undef), [], [], []⟩, ⟨.val (undef), [], [], []⟩, ⟨.val (undef), [], [], []⟩, ⟨.val (.bool false), [], [], []⟩, ⟨.val (.bool false), [], [], []⟩, ⟨.val (undef), [], [], []⟩, ⟨.val (undef), [], [], []⟩, ⟨.val (undef), [], [], []⟩, ⟨.val (.bool false), [], [], []⟩, ⟨.val (.bool false), [], [], []⟩, ⟨.val (undef), [], [], []⟩, ⟨.val (undef), [], [], []⟩, ⟨.val (undef), [], [], []⟩, ⟨.val (undef), [], [], []⟩] rfl ?_ rfl ?_ rfl ?_ ?_
        · kernel_rfl
        · kernel_rfl
        · exact DAll.op' (sp_move rfl rfl) trivial rfl (From.ok (ps := []) trivial) (DAll.op' (sp_eql rfl rfl rfl) trivial rfl (From.ok (ps := []) trivial) (DAll.op' (sp_castB h3 (sp_move rfl rfl)) trivial rfl (From.ok (ps := []) trivial) (DAll.op' (sp_move rfl rfl) ⟨_, rfl, rfl⟩ rfl (From.ok (ps := []) trivial) (DAll.op' (sp_eql rfl rfl rfl) ⟨_, rfl, rfl⟩ rfl (From.ok (ps := []) trivial) (DAll.op' (sp_pickT rfl rfl rfl) trivial rfl (From.ok (ps := []) trivial) (DAll.op' (sp_castB h4 (sp_move rfl rfl)) trivial rfl (From.ok (ps := []) trivial) (DAll.op' (sp_move rfl rfl) ⟨_, rfl, rfl⟩ rfl (From.ok (ps := []) trivial) (DAll.op' (sp_eql rfl rfl rfl) ⟨_, rfl, rfl⟩ rfl (From.ok (ps := []) trivial) (DAll.op' (sp_pickT rfl rfl rfl) trivial rfl (From.ok (ps := []) trivial) (DAll.op' (sp_castB h5 (sp_move rfl rfl)) trivial rfl (From.ok (ps := []) trivial) (.skip ⟨_, rfl, .inl rfl⟩ rfl rfl rfl (.skip ⟨_, rfl, .inl rfl⟩ rfl rfl rfl (DAll.op' (sp_pickF rfl rfl rfl) trivial rfl (From.ok (ps := []) trivial) (DAll.op' (sp_move rfl rfl) trivial rfl (From.ok (ps := []) trivial) (.skip ⟨_, rfl, .inl rfl⟩ rfl rfl rfl (.skip ⟨_, rfl, .inl rfl⟩ rfl rfl rfl (.skip ⟨_, rfl, .inl rfl⟩ rfl rfl rfl (DAll.op' (sp_pickF rfl rfl rfl) trivial rfl (From.ok (ps := []) trivial) (DAll.op' (sp_move rfl rfl) trivial rfl (From.ok (ps := []) trivial) (.skip ⟨_, rfl, .inl rfl⟩ rfl rfl rfl (.skip ⟨_, rfl, .inl rfl⟩ rfl rfl rfl (.skip ⟨_, rfl, .inl rfl⟩ rfl rfl rfl (DAll.op' (sp_pickF rfl rfl rfl) trivial rfl (From.ok (ps := []) trivial) (DAll.op' (sp_move rfl rfl) trivial rfl (From.ok (ps := []) trivial) (.skip ⟨_, rfl, .inl rfl⟩ rfl rfl rfl (.skip ⟨_, rfl, .inl rfl⟩ rfl rfl rfl (.skip ⟨_, rfl, .inl rfl⟩ rfl rfl rfl (.skip ⟨_, rfl, .inl rfl⟩ rfl rfl rfl (.nil)))))))))))))))))))))))))))))
        refine opSkip rfl ⟨_, rfl, .inl rfl⟩ rfl ?_
        refine op0 (sp_pickF rfl rfl rfl) rfl trivial rfl rfl ?_
        refine op0 (sp_assign rfl rfl) rfl trivial rfl rfl ?_
        refine TL.nil ?_
        cases h
        exact retJ [] (.tmp rfl .nil) rfl trivial rfl rfl
    · refine drawJ 29 [⟨.val (.int .i64 r1.2.2), [], [], []⟩, ⟨.val (.bool (r1.2.2 == 0)), [], [], []⟩, ⟨.val (.bool true), [], [], []⟩, ⟨.val (.int .i64 r2.2.2), [], [], []⟩, ⟨.val (.bool (r2.2.2 == 0)), [], [], []⟩, ⟨.val (.bool (r2.2.2 == 0)), [], [], []⟩, ⟨.val (.bool false), [], [], []⟩, ⟨.val (undef), [], [], []⟩, ⟨.val (undef), [], [], []⟩, ⟨.val (.bool false), [], [], []⟩, ⟨.val (.bool false), [], [], []⟩, ⟨.val (undef), [], [], []⟩, ⟨.val (undef), [], [], []⟩, ⟨.val (.bool false), [], [], []⟩, ⟨.val (.bool false), [], [], []⟩, ⟨.val (undef), [], [], []⟩, ⟨.val (undef), [], [], []⟩, ⟨.val (undef), [], [], []⟩, ⟨.val (.bool false), [], [], []⟩, ⟨.val (.bool false), [], [], []⟩, ⟨.val (undef), [], [], []⟩, ⟨.val (undef), [], [], []⟩, ⟨.val (undef), [], [], []⟩, ⟨.val (.bool false), [], [], []⟩, ⟨.val (.bool false), [], [], []⟩, ⟨.val (undef), [], [], []⟩, ⟨.val (undef), [], [], []⟩, ⟨.val (undef), [], [], []⟩, ⟨.val (undef), [], [], []⟩] rfl ?_ rfl ?_ rfl ?_ ?_
      · kernel_rfl
      · kernel_rfl
      · exact DAll.op' (sp_move rfl rfl) trivial rfl (From.ok (ps := []) trivial) (DAll.op' (sp_eql rfl rfl rfl) trivial rfl (From.ok (ps := []) trivial) (DAll.op' (sp_castB h3 (sp_move rfl rfl)) trivial rfl (From.ok (ps := []) trivial) (DAll.op' (sp_move rfl rfl) ⟨_, rfl, rfl⟩ rfl (From.ok (ps := []) trivial) (DAll.op' (sp_eql rfl rfl rfl) ⟨_, rfl, rfl⟩ rfl (From.ok (ps := []) trivial) (DAll.op' (sp_pickT rfl rfl rfl) trivial rfl (From.ok (ps := []) trivial) (DAll.op' (sp_castB h4 (sp_move rfl rfl)) trivial rfl (From.ok (ps := []) trivial) (.skip ⟨_, rfl, .inl rfl⟩ rfl rfl rfl (.skip ⟨_, rfl, .inl rfl⟩ rfl rfl rfl (DAll.op' (sp_pickF rfl rfl rfl) trivial rfl (From.ok (ps := []) trivial) (DAll.op' (sp_move rfl rfl) trivial rfl (From.ok (ps := []) trivial) (.skip ⟨_, rfl, .inl rfl⟩ rfl rfl rfl (.skip ⟨_, rfl, .inl rfl⟩ rfl rfl rfl (DAll.op' (sp_pickF rfl rfl rfl) trivial rfl (From.ok (ps := []) trivial) (DAll.op' (sp_move rfl rfl) trivial rfl (From.ok (ps := []) trivial) (.skip ⟨_, rfl, .inl rfl⟩ rfl rfl rfl (.skip ⟨_, rfl, .inl rfl⟩ rfl rfl rfl (.skip ⟨_, rfl, .inl rfl⟩ rfl rfl rfl (DAll.op' (sp_pickF rfl rfl rfl) trivial rfl (From.ok (ps := []) trivial) (DAll.op' (sp_move rfl rfl) trivial rfl (From.ok (ps := []) trivial) (.skip ⟨_, rfl, .inl rfl⟩ rfl rfl rfl (.skip ⟨_, rfl, .inl rfl⟩ rfl rfl rfl (.skip ⟨_, rfl, .inl rfl⟩ rfl rfl rfl (DAll.op' (sp_pickF rfl rfl rfl) trivial rfl (From.ok (ps := []) trivial) (DAll.op' (sp_move rfl rfl) trivial rfl (From.ok (ps := []) trivial) (.skip ⟨_, rfl, .inl rfl⟩ rfl rfl rfl (.skip ⟨_, rfl, .inl rfl⟩ rfl rfl rfl (.skip ⟨_, rfl, .inl rfl⟩ rfl rfl rfl (.skip ⟨_, rfl, .inl rfl⟩ rfl rfl rfl (.nil)))))))))))))))))))))))))))))
      refine opSkip rfl ⟨_, rfl, .inl rfl⟩ rfl ?_
      refine op0 (sp_pickF rfl rfl rfl) rfl trivial rfl rfl ?_
      refine op0 (sp_assign rfl rfl) rfl trivial rfl rfl ?_
      refine TL.nil ?_
      cases h
      exact retJ [] (.tmp rfl .nil) rfl trivial rfl rfl
  · refine drawJ 29 [⟨.val (.int .i64 r1.2.2), [], [], []⟩, ⟨.val (.bool (r1.2.2 == 0)), [], [], []⟩, ⟨.val (.bool false), [], [], []⟩, ⟨.val (undef), [], [], []⟩, ⟨.val (undef), [], [], []⟩, ⟨.val (.bool false), [], [], []⟩, ⟨.val (.bool false), [], [], []⟩, ⟨.val (undef), [], [], []⟩, ⟨.val (undef), [], [], []⟩, ⟨.val (.bool false), [], [], []⟩, ⟨.val (.bool false), [], [], []⟩, ⟨.val (undef), [], [], []⟩, ⟨.val (undef), [], [], []⟩, ⟨.val (.bool false), [], [], []⟩, ⟨.val (.bool false), [], [], []⟩, ⟨.val (undef), [], [], []⟩, ⟨.val (undef), [], [], []⟩, ⟨.val (undef), [], [], []⟩, ⟨.val (.bool false), [], [], []⟩, ⟨.val (.bool false), [], [], []⟩, ⟨.val (undef), [], [], []⟩, ⟨.val (undef), [], [], []⟩, ⟨.val (undef), [], [], []⟩, ⟨.val (.bool false), [], [], []⟩, ⟨.val (.bool false), [], [], []⟩, ⟨.val (undef), [], [], []⟩, ⟨.val (undef), [], [], []⟩, ⟨.val (undef), [], [], []⟩, ⟨.val (undef), [], [], []⟩] rfl ?_ rfl ?_ rfl ?_ ?_
    · kernel_rfl
    · kernel_rfl
    · exact DAll.op' (sp_move rfl rfl) trivial rfl (From.ok (ps := []) trivial) (DAll.op' (sp_eql rfl rfl rfl) trivial rfl (From.ok (ps := []) trivial) (DAll.op' (sp_castB h3 (sp_move rfl rfl)) trivial rfl (From.ok (ps := []) trivial) (.skip ⟨_, rfl, .inl rfl⟩ rfl rfl rfl (.skip ⟨_, rfl, .inl rfl⟩ rfl rfl rfl (DAll.op' (sp_pickF rfl rfl rfl) trivial rfl (From.ok (ps := []) trivial) (DAll.op' (sp_move rfl rfl) trivial rfl (From.ok (ps := []) trivial) (.skip ⟨_, rfl, .inl rfl⟩ rfl rfl rfl (.skip ⟨_, rfl, .inl rfl⟩ rfl rfl rfl (DAll.op' (sp_pickF rfl rfl rfl) trivial rfl (From.ok (ps := []) trivial) (DAll.op' (sp_move rfl rfl) trivial rfl (From.ok (ps := []) trivial) (.skip ⟨_, rfl, .inl rfl⟩ rfl rfl rfl (.skip ⟨_, rfl, .inl rfl⟩ rfl rfl rfl (DAll.op' (sp_pickF rfl rfl rfl) trivial rfl (From.ok (ps := []) trivial) (DAll.op' (sp_move rfl rfl) trivial rfl (From.ok (ps := []) trivial) (.skip ⟨_, rfl, .inl rfl⟩ rfl rfl rfl (.skip ⟨_, rfl, .inl rfl⟩ rfl rfl rfl (.skip ⟨_, rfl, .inl rfl⟩ rfl rfl rfl (DAll.op' (sp_pickF rfl rfl rfl) trivial rfl (From.ok (ps := []) trivial) (DAll.op' (sp_move rfl rfl) trivial rfl (From.ok (ps := []) trivial) (.skip ⟨_, rfl, .inl rfl⟩ rfl rfl rfl (.skip ⟨_, rfl, .inl rfl⟩ rfl rfl rfl (.skip ⟨_, rfl, .inl rfl⟩ rfl rfl rfl (DAll.op' (sp_pickF rfl rfl rfl) trivial rfl (From.ok (ps := []) trivial) (DAll.op' (sp_move rfl rfl) trivial rfl (From.ok (ps := []) trivial) (.skip ⟨_, rfl, .inl rfl⟩ rfl rfl rfl (.skip ⟨_, rfl, .inl rfl⟩ rfl rfl rfl (.skip ⟨_, rfl, .inl rfl⟩ rfl rfl rfl (.skip ⟨_, rfl, .inl rfl⟩ rfl rfl rfl (.nil)))))))))))))))))))))))))))))
    refine opSkip rfl ⟨_, rfl, .inl rfl⟩ rfl ?_
    refine op0 (sp_pickF rfl rfl rfl) rfl trivial rfl rfl ?_
    refine op0 (sp_assign rfl rfl) rfl trivial rfl rfl ?_
    refine TL.nil ?_
    cases h
    exact retJ [] (.tmp rfl .nil) rfl trivial rfl rfl
end
end Go.Proofs.Ytgkoldcmbcbbpaa.Sy
