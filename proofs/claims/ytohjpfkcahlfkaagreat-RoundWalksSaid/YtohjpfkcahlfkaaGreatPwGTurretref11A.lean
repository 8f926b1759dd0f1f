/- What functions of the program compute, and that they do: printed by symgen.py. -/
import Derived.Test.YtohjpfkcahlfkaaGreatPwGLib
set_option linter.unusedSimpArgs false
set_option linter.unusedVariables false
namespace Go.Proofs.YtohjpfkcahlfkaaGreat.Sy
open Go.RowKit
noncomputable section
set_option maxRecDepth 100000
set_option maxHeartbeats 2000000
def ev_ref11_Smaller_l0 (n : Nat) (a1 : List Int) (b2 : List Int) : Nat → Int → Option Bool
  | 0, _ => none
  | m + 1, i3 => cond (decide (i3 < (a1.length : Int))) (cond (decide (i3 < (b2.length : Int))) (idx a1 i3 fun x4 => idx b2 i3 fun x5 => cond (x4 != x5) (some (decide (x4 < x5))) (chk (in64 (i3 + 1)) <| ev_ref11_Smaller_l0 n a1 b2 m (i3 + 1))) (some (decide ((a1.length : Int) < (b2.length : Int))))) (some (decide ((a1.length : Int) < (b2.length : Int))))
theorem ok_ref11_Smaller_l0 {n : Nat} {w0 : World} {R0 : Nat → Prop} {env0 : Env} {r : Bool} {a1 : List Int} {b2 : List Int} : ∀ (m : Nat) (i3 : Int), ev_ref11_Smaller_l0 n a1 b2 m i3 = some r → TC Tryz.prog ⟨w0, fun _ => False, R0⟩ 41 (bodyPost Tryz.prog Tryz.f38 (Post ⟨w0, fun _ => False, R0⟩ env0 (.val (.bool r)) [])) [.code (sub (bodyOf Tryz.f38) [1, 0, 1, 0, 0, 0, 0]), .code (sub (bodyOf Tryz.f38) [1, 0, 1, 0, 0, 0, 1]), .code (sub (bodyOf Tryz.f38) [1, 0, 1, 0, 0, 1]), .inLoop (sub (bodyOf Tryz.f38) [1, 0, 1, 0, 0]), .inBlock 0, .code (sub (bodyOf Tryz.f38) [1, 1])] ([(0, .ref 0), (1, .ref 1), (5, vi i3)]) ([.ro 0 1 (List.map en_int a1), .ro 1 1 (List.map en_int b2)]) := by
  intro m
  induction m with
  | zero => intro i3 h; exact none_no h
  | succ m ih =>
    intro i3 h
    rw [ev_ref11_Smaller_l0] at h
    refine TC.region ?_
    refine op0 (sp_move rfl rfl) rfl trivial rfl rfl ?_
    refine op0 (sp_move rfl rfl) rfl trivial rfl rfl ?_
    refine op1 0 rfl (sp_lenM (N := a1.length) (len_map _ _) rfl rfl isRo Tryz.underlying27) rfl trivial rfl rfl ?_
    refine op0 (sp_lss rfl rfl rfl) rfl trivial rfl rfl ?_
    refine op0 (sp_move rfl rfl) rfl trivial rfl rfl ?_
    rcases cond_cases h with ⟨h1, h⟩ | ⟨h1, h⟩
    · refine (boolLit 10 rfl h1).2 ?_
      refine op0 (sp_move rfl rfl) rfl ⟨_, rfl, rfl⟩ rfl rfl ?_
      refine op0 (sp_move rfl rfl) rfl ⟨_, rfl, rfl⟩ rfl rfl ?_
      refine op1 1 rfl (sp_lenM (N := b2.length) (len_map _ _) rfl rfl isRo Tryz.underlying27) rfl ⟨_, rfl, rfl⟩ rfl rfl ?_
      refine op0 (sp_lss rfl rfl rfl) rfl ⟨_, rfl, rfl⟩ rfl rfl ?_
      refine op0 (sp_pickT rfl rfl rfl) rfl trivial rfl rfl ?_
      refine TL.nil ?_
      refine TC.cond (b := (decide (i3 < (b2.length : Int)))) rfl (fun h2 => ?_) (fun h2 => ?_)
      · have h := cond_t h h2
        refine TC.skip ?_
        refine TC.seq ?_
        refine TC.block ?_
        refine TC.seq ?_
        obtain ⟨x4, h3, h4, h⟩ := idx_inv h
        obtain ⟨x5, h5, h6, h⟩ := idx_inv h
        refine drawJ 8 [⟨.ref 0, [], [], []⟩, ⟨vi i3, [], [], []⟩, ⟨.cell 0 ((i3 : Int).toNat * 1), [], [.ro 0 1 (List.map en_int a1)], []⟩, ⟨vi x4, [], [.ro 0 1 (List.map en_int a1)], []⟩, ⟨.ref 1, [], [], []⟩, ⟨vi i3, [], [], []⟩, ⟨.cell 1 ((i3 : Int).toNat * 1), [], [.ro 1 1 (List.map en_int b2)], []⟩, ⟨vi x5, [], [.ro 1 1 (List.map en_int b2)], []⟩] rfl ?_ rfl ?_ rfl ?_ ?_
        · kernel_rfl
        · kernel_rfl
        · exact DAll.op' (sp_move rfl rfl) trivial rfl (From.ok (ps := []) trivial) (DAll.op' (sp_move rfl rfl) trivial rfl (From.ok (ps := []) trivial) (DAll.op' (sp_indexS rfl rfl rfl isRo sl27 h3 (map_get _ h4)) trivial rfl (From.ok (ps := [(none, 0)]) ⟨⟨rfl, rfl⟩, trivial⟩) (DAll.op' (sp_loadR (i := (i3 : Int).toNat) (j := 0) rfl rfl isRo vt3 rfl (map_get _ h4) rfl (.v (.nil)) (nodup_of_B rfl)) trivial rfl (From.ok (ps := [(none, 0)]) ⟨⟨rfl, rfl⟩, trivial⟩) (DAll.op' (sp_move rfl rfl) trivial rfl (From.ok (ps := []) trivial) (DAll.op' (sp_move rfl rfl) trivial rfl (From.ok (ps := []) trivial) (DAll.op' (sp_indexS rfl rfl rfl isRo sl27 h5 (map_get _ h6)) trivial rfl (From.ok (ps := [(none, 1)]) ⟨⟨rfl, rfl⟩, trivial⟩) (DAll.op' (sp_loadR (i := (i3 : Int).toNat) (j := 0) rfl rfl isRo vt3 rfl (map_get _ h6) rfl (.v (.nil)) (nodup_of_B rfl)) trivial rfl (From.ok (ps := [(none, 1)]) ⟨⟨rfl, rfl⟩, trivial⟩) (.nil))))))))
        refine op0 (sp_neq rfl rfl rfl) rfl trivial rfl rfl ?_
        refine TL.nil ?_
        refine TC.cond (b := (x4 != x5)) rfl (fun h7 => ?_) (fun h7 => ?_)
        · have h := cond_t h h7
          refine TC.seq ?_
          refine drawJ 8 [⟨.ref 0, [], [], []⟩, ⟨vi i3, [], [], []⟩, ⟨.cell 0 ((i3 : Int).toNat * 1), [], [.ro 0 1 (List.map en_int a1)], []⟩, ⟨vi x4, [], [.ro 0 1 (List.map en_int a1)], []⟩, ⟨.ref 1, [], [], []⟩, ⟨vi i3, [], [], []⟩, ⟨.cell 1 ((i3 : Int).toNat * 1), [], [.ro 1 1 (List.map en_int b2)], []⟩, ⟨vi x5, [], [.ro 1 1 (List.map en_int b2)], []⟩] rfl ?_ rfl ?_ rfl ?_ ?_
          · kernel_rfl
          · kernel_rfl
          · exact DAll.op' (sp_move rfl rfl) trivial rfl (From.ok (ps := []) trivial) (DAll.op' (sp_move rfl rfl) trivial rfl (From.ok (ps := []) trivial) (DAll.op' (sp_indexS rfl rfl rfl isRo sl27 h3 (map_get _ h4)) trivial rfl (From.ok (ps := [(none, 0)]) ⟨⟨rfl, rfl⟩, trivial⟩) (DAll.op' (sp_loadR (i := (i3 : Int).toNat) (j := 0) rfl rfl isRo vt3 rfl (map_get _ h4) rfl (.v (.nil)) (nodup_of_B rfl)) trivial rfl (From.ok (ps := [(none, 0)]) ⟨⟨rfl, rfl⟩, trivial⟩) (DAll.op' (sp_move rfl rfl) trivial rfl (From.ok (ps := []) trivial) (DAll.op' (sp_move rfl rfl) trivial rfl (From.ok (ps := []) trivial) (DAll.op' (sp_indexS rfl rfl rfl isRo sl27 h5 (map_get _ h6)) trivial rfl (From.ok (ps := [(none, 1)]) ⟨⟨rfl, rfl⟩, trivial⟩) (DAll.op' (sp_loadR (i := (i3 : Int).toNat) (j := 0) rfl rfl isRo vt3 rfl (map_get _ h6) rfl (.v (.nil)) (nodup_of_B rfl)) trivial rfl (From.ok (ps := [(none, 1)]) ⟨⟨rfl, rfl⟩, trivial⟩) (.nil))))))))
          refine op0 (sp_lss rfl rfl rfl) rfl trivial rfl rfl ?_
          refine op0 (sp_assign rfl rfl) rfl trivial rfl rfl ?_
          refine TL.nil ?_
          cases h
          exact retJ [] (.tmp rfl .nil) rfl trivial rfl rfl
        · have h := cond_f h h7
          refine TC.skip ?_
          refine TC.inBlock ?_
          refine TC.region ?_
          refine op0 (sp_move rfl rfl) rfl trivial rfl rfl ?_
          obtain ⟨h8, h⟩ := chk_inv h
          refine op0 (sp_add rfl rfl rfl h8) rfl trivial rfl rfl ?_
          refine op0 (sp_assign rfl rfl) rfl trivial rfl rfl ?_
          refine TL.nil ?_
          refine TC.inLoop ?_
          refine TC.seq ?_
          refine TC.seq ?_
          refine subJ [] (ih _ h) ?_ ?_ ?_
          · exact ⟨rfl, rfl, rfl, trivial⟩
          · exact ⟨mem_at 0 rfl, mem_at 1 rfl, trivial⟩
          · rfl
      · have h := cond_f h h2
        refine TC.exit rfl ?_
        refine TC.seq ?_
        refine TC.region ?_
        refine op0 (sp_move rfl rfl) rfl trivial rfl rfl ?_
        refine op1 0 rfl (sp_lenM (N := a1.length) (len_map _ _) rfl rfl isRo Tryz.underlying27) rfl trivial rfl rfl ?_
        refine op0 (sp_move rfl rfl) rfl trivial rfl rfl ?_
        refine op1 1 rfl (sp_lenM (N := b2.length) (len_map _ _) rfl rfl isRo Tryz.underlying27) rfl trivial rfl rfl ?_
        refine op0 (sp_lss rfl rfl rfl) rfl trivial rfl rfl ?_
        refine op0 (sp_assign rfl rfl) rfl trivial rfl rfl ?_
        refine TL.nil ?_
        cases h
        exact retJ [] (.tmp rfl .nil) rfl trivial rfl rfl
    · refine (boolLit 10 rfl h1).2 ?_
      refine opSkip rfl ⟨_, rfl, .inl rfl⟩ rfl ?_
      refine opSkip rfl ⟨_, rfl, .inl rfl⟩ rfl ?_
      refine opSkip rfl ⟨_, rfl, .inl rfl⟩ rfl ?_
      refine opSkip rfl ⟨_, rfl, .inl rfl⟩ rfl ?_
      refine op0 (sp_pickF rfl rfl rfl) rfl trivial rfl rfl ?_
      refine TL.nil ?_
      refine TC.condF rfl ?_
      refine TC.exit rfl ?_
      refine TC.seq ?_
      refine TC.region ?_
      refine op0 (sp_move rfl rfl) rfl trivial rfl rfl ?_
      refine op1 0 rfl (sp_lenM (N := a1.length) (len_map _ _) rfl rfl isRo Tryz.underlying27) rfl trivial rfl rfl ?_
      refine op0 (sp_move rfl rfl) rfl trivial rfl rfl ?_
      refine op1 1 rfl (sp_lenM (N := b2.length) (len_map _ _) rfl rfl isRo Tryz.underlying27) rfl trivial rfl rfl ?_
      refine op0 (sp_lss rfl rfl rfl) rfl trivial rfl rfl ?_
      refine op0 (sp_assign rfl rfl) rfl trivial rfl rfl ?_
      refine TL.nil ?_
      cases h
      exact retJ [] (.tmp rfl .nil) rfl trivial rfl rfl
def ev_ref11_Smaller (n : Nat) (a1 : List Int) (b2 : List Int) : Option Bool :=
  ev_ref11_Smaller_l0 n a1 b2 n 0
theorem fc_ref11_Smaller {n : Nat} {a1 : List Int} {b2 : List Int} {r : Bool} (h : ev_ref11_Smaller n a1 b2 = some r) : FC Tryz.prog 38 [.ref 0, .ref 1] [.ro 0 1 (List.map en_int a1), .ro 1 1 (List.map en_int b2)] (.val (.bool r)) [] := by
  refine introJ (nz := 41) Tryz.func38 rfl rfl rfl (fun w0 R0 env0 => ?_)
  rw [ev_ref11_Smaller] at h
  refine TC.seq ?_
  refine TC.region ?_
  refine op0 (sp_assign rfl rfl) rfl trivial rfl rfl ?_
  refine TL.nil ?_
  refine TC.seq ?_
  refine TC.seq ?_
  refine TC.region ?_
  refine op0 (sp_assign rfl rfl) rfl trivial rfl rfl ?_
  refine TL.nil ?_
  refine TC.block ?_
  refine TC.loop ?_
  refine TC.seq ?_
  refine TC.seq ?_
  refine subJ [] (ok_ref11_Smaller_l0 _ _ h) ?_ ?_ ?_
  · exact ⟨rfl, rfl, rfl, trivial⟩
  · exact ⟨mem_at 0 rfl, mem_at 1 rfl, trivial⟩
  · rfl
def ev_ref11_Same (n : Nat) (a1 : List Int) (b2 : List Int) : Option Bool :=
  (ev_ref11_Smaller n a1 b2).bind fun r3 => cond (!r3) ((ev_ref11_Smaller n b2 a1).bind fun r4 => some (!r4)) (some false)
theorem fc_ref11_Same {n : Nat} {a1 : List Int} {b2 : List Int} {r : Bool} (h : ev_ref11_Same n a1 b2 = some r) : FC Tryz.prog 14 [.ref 0, .ref 1] [.ro 0 1 (List.map en_int a1), .ro 1 1 (List.map en_int b2)] (.val (.bool r)) [] := by
  refine introJ (nz := 15) Tryz.func14 rfl rfl rfl (fun w0 R0 env0 => ?_)
  rw [ev_ref11_Same] at h
  refine TC.seq ?_
  refine TC.region ?_
  refine op0 (sp_assign rfl rfl) rfl trivial rfl rfl ?_
  refine TL.nil ?_
  refine TC.seq ?_
  refine TC.region ?_
  refine op0 (sp_move rfl rfl) rfl trivial rfl rfl ?_
  refine op0 (sp_move rfl rfl) rfl trivial rfl rfl ?_
  obtain ⟨r3, h1, h⟩ := bind_inv h
  refine opN (need := [.ro 0 1 (List.map en_int a1), .ro 1 1 (List.map en_int b2)]) [0, 1] ⟨rfl, rfl, trivial⟩ (sp_call (avs := [.ref 0, .ref 1]) (need := [.ro 0 1 (List.map en_int a1), .ro 1 1 (List.map en_int b2)]) (v := .val (.bool r3)) (news := []) rfl rfl rfl Tryz.call38 (atJ [] [] (fc_ref11_Smaller h1) rfl rfl) (.inl (roAll rfl))) rfl trivial rfl rfl ?_
  refine op0 (sp_not rfl rfl) rfl trivial rfl rfl ?_
  refine op0 (sp_move rfl rfl) rfl trivial rfl rfl ?_
  rcases cond_cases h with ⟨h2, h⟩ | ⟨h2, h⟩
  · refine (boolLit 9 rfl h2).2 ?_
    refine op0 (sp_move rfl rfl) rfl ⟨_, rfl, rfl⟩ rfl rfl ?_
    refine op0 (sp_move rfl rfl) rfl ⟨_, rfl, rfl⟩ rfl rfl ?_
    obtain ⟨r4, h3, h⟩ := bind_inv h
    refine opN (need := [.ro 1 1 (List.map en_int b2), .ro 0 1 (List.map en_int a1)]) [1, 0] ⟨rfl, rfl, trivial⟩ (sp_call (avs := [.ref 1, .ref 0]) (need := [.ro 1 1 (List.map en_int b2), .ro 0 1 (List.map en_int a1)]) (v := .val (.bool r4)) (news := []) rfl rfl rfl Tryz.call38 (atJ [(0, 1), (1, 0)] [] (fc_ref11_Smaller h3) rfl rfl) (.inl (roAll rfl))) rfl ⟨_, rfl, rfl⟩ rfl rfl ?_
    refine op0 (sp_not rfl rfl) rfl ⟨_, rfl, rfl⟩ rfl rfl ?_
    refine op0 (sp_pickT rfl rfl rfl) rfl trivial rfl rfl ?_
    refine op0 (sp_assign rfl rfl) rfl trivial rfl rfl ?_
    refine TL.nil ?_
    cases h
    exact retJ [] (.tmp rfl .nil) rfl trivial rfl rfl
  · refine (boolLit 9 rfl h2).2 ?_
    refine opSkip rfl ⟨_, rfl, .inl rfl⟩ rfl ?_
    refine opSkip rfl ⟨_, rfl, .inl rfl⟩ rfl ?_
    refine opSkip rfl ⟨_, rfl, .inl rfl⟩ rfl ?_
    refine opSkip rfl ⟨_, rfl, .inl rfl⟩ rfl ?_
    refine op0 (sp_pickF rfl rfl rfl) rfl trivial rfl rfl ?_
    refine op0 (sp_assign rfl rfl) rfl trivial rfl rfl ?_
    refine TL.nil ?_
    cases h
    exact retJ [] (.tmp rfl .nil) rfl trivial rfl rfl
def ev_ref11_Equal_l0 (n : Nat) (a1 : List (Int × (List Int))) (b2 : List (Int × (List Int))) : Nat → Int → Option Bool
  | 0, _ => none
  | m + 1, i3 => cond (decide (i3 < (a1.length : Int))) (idx a1 i3 fun x4 => idx b2 i3 fun x5 => cond (x4.1 != x5.1) (some false) ((ev_ref11_Same n x4.2 x5.2).bind fun r6 => cond (!r6) (some false) (chk (in64 (i3 + 1)) <| ev_ref11_Equal_l0 n a1 b2 m (i3 + 1)))) (some true)
theorem ok_ref11_Equal_l0 {n : Nat} {w0 : World} {R0 : Nat → Prop} {env0 : Env} {r : Bool} {a1 : List (Int × (List Int))} {b2 : List (Int × (List Int))} : ∀ (m : Nat) (i3 : Int), ev_ref11_Equal_l0 n a1 b2 m i3 = some r → TC Tryz.prog ⟨w0, fun _ => False, R0⟩ 42 (bodyPost Tryz.prog Tryz.f21 (Post ⟨w0, fun _ => False, R0⟩ env0 (.val (.bool r)) [])) [.code (sub (bodyOf Tryz.f21) [1, 1, 0, 1, 0, 0, 0, 0]), .code (sub (bodyOf Tryz.f21) [1, 1, 0, 1, 0, 0, 0, 1]), .code (sub (bodyOf Tryz.f21) [1, 1, 0, 1, 0, 0, 1]), .inLoop (sub (bodyOf Tryz.f21) [1, 1, 0, 1, 0, 0]), .inBlock 0, .code (sub (bodyOf Tryz.f21) [1, 1, 1])] ([(0, .ref 0), (1, .ref 1), (5, vi i3)]) ([.ro 0 2 (List.map en_api_RoundTrip a1), .ro 1 2 (List.map en_api_RoundTrip b2)]) := by
  intro m
  induction m with
  | zero => intro i3 h; exact none_no h
  | succ m ih =>
    intro i3 h
    rw [ev_ref11_Equal_l0] at h
    refine TC.region ?_
    refine op0 (sp_move rfl rfl) rfl trivial rfl rfl ?_
    refine op0 (sp_move rfl rfl) rfl trivial rfl rfl ?_
    refine op1 0 rfl (sp_lenM (N := a1.length) (len_map _ _) rfl rfl isRo Tryz.underlying52) rfl trivial rfl rfl ?_
    refine op0 (sp_lss rfl rfl rfl) rfl trivial rfl rfl ?_
    refine TL.nil ?_
    refine TC.cond (b := (decide (i3 < (a1.length : Int)))) rfl (fun h2 => ?_) (fun h2 => ?_)
    · have h := cond_t h h2
      refine TC.skip ?_
      refine TC.seq ?_
      refine TC.block ?_
      refine TC.seq ?_
      obtain ⟨x4, h3, h4, h⟩ := idx_inv h
      obtain ⟨x5, h5, h6, h⟩ := idx_inv h
      rcases cond_cases h with ⟨h7, h⟩ | ⟨h7, h⟩
      · refine drawJ 22 [⟨.ref 0, [], [], []⟩, ⟨vi i3, [], [], []⟩, ⟨.cell 0 ((i3 : Int).toNat * 2), [], [.ro 0 2 (List.map en_api_RoundTrip a1)], []⟩, ⟨.cell 0 ((i3 : Int).toNat * 2 + 0), [], [.ro 0 2 (List.map en_api_RoundTrip a1)], []⟩, ⟨vi x4.1, [], [.ro 0 2 (List.map en_api_RoundTrip a1)], []⟩, ⟨.ref 1, [], [], []⟩, ⟨vi i3, [], [], []⟩, ⟨.cell 1 ((i3 : Int).toNat * 2), [], [.ro 1 2 (List.map en_api_RoundTrip b2)], []⟩, ⟨.cell 1 ((i3 : Int).toNat * 2 + 0), [], [.ro 1 2 (List.map en_api_RoundTrip b2)], []⟩, ⟨vi x5.1, [], [.ro 1 2 (List.map en_api_RoundTrip b2)], []⟩, ⟨.val (.bool (x4.1 != x5.1)), [], [], []⟩, ⟨.val (.bool true), [], [], []⟩, ⟨.val (undef), [], [], []⟩, ⟨.val (undef), [], [], []⟩, ⟨.val (undef), [], [], []⟩, ⟨.val (undef), [], [], []⟩, ⟨.val (undef), [], [], []⟩, ⟨.val (undef), [], [], []⟩, ⟨.val (undef), [], [], []⟩, ⟨.val (undef), [], [], []⟩, ⟨.val (undef), [], [], []⟩, ⟨.val (undef), [], [], []⟩] rfl ?_ rfl ?_ rfl ?_ ?_
        · kernel_rfl
        · kernel_rfl
        · exact DAll.op' (sp_move rfl rfl) trivial rfl (From.ok (ps := []) trivial) (DAll.op' (sp_move rfl rfl) trivial rfl (From.ok (ps := []) trivial) (DAll.op' (sp_indexS rfl rfl rfl isRo sl52 h3 (map_get _ h4)) trivial rfl (From.ok (ps := [(none, 0)]) ⟨⟨rfl, by kernel_rfl⟩, trivial⟩) (DAll.op' (sp_fieldAddrR (i := (i3 : Int).toNat) rfl rfl isRo ft29_0 vt3 (by decide) (map_get _ h4) (fun h => nomatch h)) trivial rfl (From.ok (ps := [(none, 0)]) ⟨⟨rfl, by kernel_rfl⟩, trivial⟩) (DAll.op' (sp_loadR (i := (i3 : Int).toNat) (j := 0) rfl rfl isRo vt3 rfl (map_get _ h4) rfl (.v (.nil)) (nodup_of_B rfl)) trivial rfl (From.ok (ps := [(none, 0)]) ⟨⟨rfl, by kernel_rfl⟩, trivial⟩) (DAll.op' (sp_move rfl rfl) trivial rfl (From.ok (ps := []) trivial) (DAll.op' (sp_move rfl rfl) trivial rfl (From.ok (ps := []) trivial) (DAll.op' (sp_indexS rfl rfl rfl isRo sl52 h5 (map_get _ h6)) trivial rfl (From.ok (ps := [(none, 1)]) ⟨⟨rfl, by kernel_rfl⟩, trivial⟩) (DAll.op' (sp_fieldAddrR (i := (i3 : Int).toNat) rfl rfl isRo ft29_0 vt3 (by decide) (map_get _ h6) (fun h => nomatch h)) trivial rfl (From.ok (ps := [(none, 1)]) ⟨⟨rfl, by kernel_rfl⟩, trivial⟩) (DAll.op' (sp_loadR (i := (i3 : Int).toNat) (j := 0) rfl rfl isRo vt3 rfl (map_get _ h6) rfl (.v (.nil)) (nodup_of_B rfl)) trivial rfl (From.ok (ps := [(none, 1)]) ⟨⟨rfl, by kernel_rfl⟩, trivial⟩) (DAll.op' (sp_neq rfl rfl rfl) trivial rfl (From.ok (ps := []) trivial) (DAll.op' (sp_castB h7 (sp_move rfl rfl)) trivial rfl (From.ok (ps := []) trivial) (.skip ⟨_, rfl, .inl rfl⟩ rfl rfl rfl (.skip ⟨_, rfl, .inl rfl⟩ rfl rfl rfl (.skip ⟨_, rfl, .inl rfl⟩ rfl rfl rfl (.skip ⟨_, rfl, .inl rfl⟩ rfl rfl rfl (.skip ⟨_, rfl, .inl rfl⟩ rfl rfl rfl (.skip ⟨_, rfl, .inl rfl⟩ rfl rfl rfl (.skip ⟨_, rfl, .inl rfl⟩ rfl rfl rfl (.skip ⟨_, rfl, .inl rfl⟩ rfl rfl rfl (.skip ⟨_, rfl, .inl rfl⟩ rfl rfl rfl (.skip ⟨_, rfl, .inl rfl⟩ rfl rfl rfl (.nil))))))))))))))))))))))
        refine opSkip rfl ⟨_, rfl, .inl rfl⟩ rfl ?_
        refine opSkip rfl ⟨_, rfl, .inl rfl⟩ rfl ?_
        refine op0 (sp_pickT rfl rfl rfl) rfl trivial rfl rfl ?_
        refine TL.nil ?_
        refine TC.condT rfl ?_
        refine TC.seq ?_
        refine TC.region ?_
        refine op0 (sp_assign rfl rfl) rfl trivial rfl rfl ?_
        refine TL.nil ?_
        cases h
        exact retJ [] (.tmp rfl .nil) rfl trivial rfl rfl
      · refine drawJ 22 [⟨.ref 0, [], [], []⟩, ⟨vi i3, [], [], []⟩, ⟨.cell 0 ((i3 : Int).toNat * 2), [], [.ro 0 2 (List.map en_api_RoundTrip a1)], []⟩, ⟨.cell 0 ((i3 : Int).toNat * 2 + 0), [], [.ro 0 2 (List.map en_api_RoundTrip a1)], []⟩, ⟨vi x4.1, [], [.ro 0 2 (List.map en_api_RoundTrip a1)], []⟩, ⟨.ref 1, [], [], []⟩, ⟨vi i3, [], [], []⟩, ⟨.cell 1 ((i3 : Int).toNat * 2), [], [.ro 1 2 (List.map en_api_RoundTrip b2)], []⟩, ⟨.cell 1 ((i3 : Int).toNat * 2 + 0), [], [.ro 1 2 (List.map en_api_RoundTrip b2)], []⟩, ⟨vi x5.1, [], [.ro 1 2 (List.map en_api_RoundTrip b2)], []⟩, ⟨.val (.bool (x4.1 != x5.1)), [], [], []⟩, ⟨.val (.bool false), [], [], []⟩, ⟨.ref 0, [], [], []⟩, ⟨vi i3, [], [], []⟩, ⟨.cell 0 ((i3 : Int).toNat * 2), [], [.ro 0 2 (List.map en_api_RoundTrip a1)], []⟩, ⟨.cell 0 ((i3 : Int).toNat * 2 + 1), [], [.ro 0 2 (List.map en_api_RoundTrip a1)], []⟩, ⟨.ref 2, [.ro 2 1 (List.map en_int x4.2)], [.ro 0 2 (List.map en_api_RoundTrip a1)], []⟩, ⟨.ref 1, [], [], []⟩, ⟨vi i3, [], [], []⟩, ⟨.cell 1 ((i3 : Int).toNat * 2), [], [.ro 1 2 (List.map en_api_RoundTrip b2)], []⟩, ⟨.cell 1 ((i3 : Int).toNat * 2 + 1), [], [.ro 1 2 (List.map en_api_RoundTrip b2)], []⟩, ⟨.ref 3, [.ro 3 1 (List.map en_int x5.2)], [.ro 1 2 (List.map en_api_RoundTrip b2)], []⟩] rfl ?_ rfl ?_ rfl ?_ ?_
        · kernel_rfl
        · kernel_rfl
        · exact DAll.op' (sp_move rfl rfl) trivial rfl (From.ok (ps := []) trivial) (DAll.op' (sp_move rfl rfl) trivial rfl (From.ok (ps := []) trivial) (DAll.op' (sp_indexS rfl rfl rfl isRo sl52 h3 (map_get _ h4)) trivial rfl (From.ok (ps := [(none, 0)]) ⟨⟨rfl, by kernel_rfl⟩, trivial⟩) (DAll.op' (sp_fieldAddrR (i := (i3 : Int).toNat) rfl rfl isRo ft29_0 vt3 (by decide) (map_get _ h4) (fun h => nomatch h)) trivial rfl (From.ok (ps := [(none, 0)]) ⟨⟨rfl, by kernel_rfl⟩, trivial⟩) (DAll.op' (sp_loadR (i := (i3 : Int).toNat) (j := 0) rfl rfl isRo vt3 rfl (map_get _ h4) rfl (.v (.nil)) (nodup_of_B rfl)) trivial rfl (From.ok (ps := [(none, 0)]) ⟨⟨rfl, by kernel_rfl⟩, trivial⟩) (DAll.op' (sp_move rfl rfl) trivial rfl (From.ok (ps := []) trivial) (DAll.op' (sp_move rfl rfl) trivial rfl (From.ok (ps := []) trivial) (DAll.op' (sp_indexS rfl rfl rfl isRo sl52 h5 (map_get _ h6)) trivial rfl (From.ok (ps := [(none, 1)]) ⟨⟨rfl, by kernel_rfl⟩, trivial⟩) (DAll.op' (sp_fieldAddrR (i := (i3 : Int).toNat) rfl rfl isRo ft29_0 vt3 (by decide) (map_get _ h6) (fun h => nomatch h)) trivial rfl (From.ok (ps := [(none, 1)]) ⟨⟨rfl, by kernel_rfl⟩, trivial⟩) (DAll.op' (sp_loadR (i := (i3 : Int).toNat) (j := 0) rfl rfl isRo vt3 rfl (map_get _ h6) rfl (.v (.nil)) (nodup_of_B rfl)) trivial rfl (From.ok (ps := [(none, 1)]) ⟨⟨rfl, by kernel_rfl⟩, trivial⟩) (DAll.op' (sp_neq rfl rfl rfl) trivial rfl (From.ok (ps := []) trivial) (DAll.op' (sp_castB h7 (sp_move rfl rfl)) trivial rfl (From.ok (ps := []) trivial) (DAll.op' (sp_move rfl rfl) ⟨_, rfl, rfl⟩ rfl (From.ok (ps := []) trivial) (DAll.op' (sp_move rfl rfl) ⟨_, rfl, rfl⟩ rfl (From.ok (ps := []) trivial) (DAll.op' (sp_indexS rfl rfl rfl isRo sl52 h3 (map_get _ h4)) ⟨_, rfl, rfl⟩ rfl (From.ok (ps := [(none, 0)]) ⟨⟨rfl, by kernel_rfl⟩, trivial⟩) (DAll.op' (sp_fieldAddrR (i := (i3 : Int).toNat) rfl rfl isRo ft29_1 vt27 (by decide) (map_get _ h4) (fun h => nomatch h)) ⟨_, rfl, rfl⟩ rfl (From.ok (ps := [(none, 0)]) ⟨⟨rfl, by kernel_rfl⟩, trivial⟩) (DAll.op' (sp_loadR (i := (i3 : Int).toNat) (j := 1) (ns := [.ro 2 1 (List.map en_int x4.2)]) rfl rfl isRo vt27 rfl (map_get _ h4) rfl (.s (.nil)) (nodup_of_B rfl)) ⟨_, rfl, rfl⟩ rfl (From.ok (ps := [(none, 0)]) ⟨⟨rfl, by kernel_rfl⟩, trivial⟩) (DAll.op' (sp_move rfl rfl) ⟨_, rfl, rfl⟩ rfl (From.ok (ps := []) trivial) (DAll.op' (sp_move rfl rfl) ⟨_, rfl, rfl⟩ rfl (From.ok (ps := []) trivial) (DAll.op' (sp_indexS rfl rfl rfl isRo sl52 h5 (map_get _ h6)) ⟨_, rfl, rfl⟩ rfl (From.ok (ps := [(none, 1)]) ⟨⟨rfl, by kernel_rfl⟩, trivial⟩) (DAll.op' (sp_fieldAddrR (i := (i3 : Int).toNat) rfl rfl isRo ft29_1 vt27 (by decide) (map_get _ h6) (fun h => nomatch h)) ⟨_, rfl, rfl⟩ rfl (From.ok (ps := [(none, 1)]) ⟨⟨rfl, by kernel_rfl⟩, trivial⟩) (DAll.op' (sp_loadR (i := (i3 : Int).toNat) (j := 1) (ns := [.ro 3 1 (List.map en_int x5.2)]) rfl rfl isRo vt27 rfl (map_get _ h6) rfl (.s (.nil)) (nodup_of_B rfl)) ⟨_, rfl, rfl⟩ rfl (From.ok (ps := [(none, 1)]) ⟨⟨rfl, by kernel_rfl⟩, trivial⟩) (.nil))))))))))))))))))))))
        obtain ⟨r6, h8, h⟩ := bind_inv h
        refine opN (need := [.ro 2 1 (List.map en_int x4.2), .ro 3 1 (List.map en_int x5.2)]) [1, 0] ⟨rfl, rfl, trivial⟩ (sp_call (avs := [.ref 2, .ref 3]) (need := [.ro 2 1 (List.map en_int x4.2), .ro 3 1 (List.map en_int x5.2)]) (v := .val (.bool r6)) (news := []) rfl rfl rfl Tryz.call14 (atJ [(0, 2), (1, 3)] [] (fc_ref11_Same h8) rfl rfl) (.inl (roAll rfl))) rfl ⟨_, rfl, rfl⟩ rfl rfl ?_
        refine op0 (sp_not rfl rfl) rfl ⟨_, rfl, rfl⟩ rfl rfl ?_
        refine op0 (sp_pickF rfl rfl rfl) rfl trivial rfl rfl ?_
        refine TL.nil ?_
        refine TC.cond (b := (!r6)) rfl (fun h9 => ?_) (fun h9 => ?_)
        · have h := cond_t h h9
          refine TC.seq ?_
          refine TC.region ?_
          refine op0 (sp_assign rfl rfl) rfl trivial rfl rfl ?_
          refine TL.nil ?_
          cases h
          exact retJ [] (.tmp rfl .nil) rfl trivial rfl rfl
        · have h := cond_f h h9
          refine TC.skip ?_
          refine TC.inBlock ?_
          refine TC.region ?_
          refine op0 (sp_move rfl rfl) rfl trivial rfl rfl ?_
          obtain ⟨h10, h⟩ := chk_inv h
          refine op0 (sp_add rfl rfl rfl h10) rfl trivial rfl rfl ?_
          refine op0 (sp_assign rfl rfl) rfl trivial rfl rfl ?_
          refine TL.nil ?_
          refine TC.inLoop ?_
          refine TC.seq ?_
          refine TC.seq ?_
          refine subJ [] (ih _ h) ?_ ?_ ?_
          · exact ⟨rfl, rfl, rfl, trivial⟩
          · exact ⟨mem_at 2 rfl, mem_at 3 rfl, trivial⟩
          · rfl
    · have h := cond_f h h2
      refine TC.exit rfl ?_
      refine TC.seq ?_
      refine TC.region ?_
      refine op0 (sp_assign rfl rfl) rfl trivial rfl rfl ?_
      refine TL.nil ?_
      cases h
      exact retJ [] (.tmp rfl .nil) rfl trivial rfl rfl
def ev_ref11_Equal (n : Nat) (a1 : List (Int × (List Int))) (b2 : List (Int × (List Int))) : Option Bool :=
  cond ((a1.length : Int) != (b2.length : Int)) (some false) (ev_ref11_Equal_l0 n a1 b2 n 0)
theorem fc_ref11_Equal {n : Nat} {a1 : List (Int × (List Int))} {b2 : List (Int × (List Int))} {r : Bool} (h : ev_ref11_Equal n a1 b2 = some r) : FC Tryz.prog 21 [.ref 0, .ref 1] [.ro 0 2 (List.map en_api_RoundTrip a1), .ro 1 2 (List.map en_api_RoundTrip b2)] (.val (.bool r)) [] := by
  refine introJ (nz := 42) Tryz.func21 rfl rfl rfl (fun w0 R0 env0 => ?_)
  rw [ev_ref11_Equal] at h
  refine TC.seq ?_
  refine TC.region ?_
  refine op0 (sp_assign rfl rfl) rfl trivial rfl rfl ?_
  refine TL.nil ?_
  refine TC.seq ?_
  refine TC.seq ?_
  refine TC.region ?_
  refine op0 (sp_move rfl rfl) rfl trivial rfl rfl ?_
  refine op1 0 rfl (sp_lenM (N := a1.length) (len_map _ _) rfl rfl isRo Tryz.underlying52) rfl trivial rfl rfl ?_
  refine op0 (sp_move rfl rfl) rfl trivial rfl rfl ?_
  refine op1 1 rfl (sp_lenM (N := b2.length) (len_map _ _) rfl rfl isRo Tryz.underlying52) rfl trivial rfl rfl ?_
  refine op0 (sp_neq rfl rfl rfl) rfl trivial rfl rfl ?_
  refine TL.nil ?_
  refine TC.cond (b := ((a1.length : Int) != (b2.length : Int))) rfl (fun h1 => ?_) (fun h1 => ?_)
  · have h := cond_t h h1
    refine TC.seq ?_
    refine TC.region ?_
    refine op0 (sp_assign rfl rfl) rfl trivial rfl rfl ?_
    refine TL.nil ?_
    cases h
    exact retJ [] (.tmp rfl .nil) rfl trivial rfl rfl
  · have h := cond_f h h1
    refine TC.skip ?_
    refine TC.seq ?_
    refine TC.seq ?_
    refine TC.region ?_
    refine op0 (sp_assign rfl rfl) rfl trivial rfl rfl ?_
    refine TL.nil ?_
    refine TC.block ?_
    refine TC.loop ?_
    refine TC.seq ?_
    refine TC.seq ?_
    refine subJ [] (ok_ref11_Equal_l0 _ _ h) ?_ ?_ ?_
    · exact ⟨rfl, rfl, rfl, trivial⟩
    · exact ⟨mem_at 0 rfl, mem_at 1 rfl, trivial⟩
    · rfl
def ev_ref11_in (n : Nat) (nn1 : Int) (least2 : Int) (most3 : Int) : Option Bool :=
  cond (decide (least2 ≤ nn1)) (some (decide (nn1 ≤ most3))) (some false)
theorem fc_ref11_in {n : Nat} {nn1 : Int} {least2 : Int} {most3 : Int} {r : Bool} (h : ev_ref11_in n nn1 least2 most3 = some r) : FC Tryz.prog 37 [vi nn1, vi least2, vi most3] [] (.val (.bool r)) [] := by
  refine introJ (nz := 15) Tryz.func37 rfl rfl rfl (fun w0 R0 env0 => ?_)
  rw [ev_ref11_in] at h
  refine TC.seq ?_
  refine TC.region ?_
  refine op0 (sp_assign rfl rfl) rfl trivial rfl rfl ?_
  refine TL.nil ?_
  refine TC.seq ?_
  refine TC.region ?_
  refine op0 (sp_move rfl rfl) rfl trivial rfl rfl ?_
  refine op0 (sp_move rfl rfl) rfl trivial rfl rfl ?_
  refine op0 (sp_geq rfl rfl rfl) rfl trivial rfl rfl ?_
  refine op0 (sp_move rfl rfl) rfl trivial rfl rfl ?_
  rcases cond_cases h with ⟨h1, h⟩ | ⟨h1, h⟩
  · refine (boolLit 10 rfl h1).2 ?_
    refine op0 (sp_move rfl rfl) rfl ⟨_, rfl, rfl⟩ rfl rfl ?_
    refine op0 (sp_move rfl rfl) rfl ⟨_, rfl, rfl⟩ rfl rfl ?_
    refine op0 (sp_leq rfl rfl rfl) rfl ⟨_, rfl, rfl⟩ rfl rfl ?_
    refine op0 (sp_pickT rfl rfl rfl) rfl trivial rfl rfl ?_
    refine op0 (sp_assign rfl rfl) rfl trivial rfl rfl ?_
    refine TL.nil ?_
    cases h
    exact retJ [] (.tmp rfl .nil) rfl trivial rfl rfl
  · refine (boolLit 10 rfl h1).2 ?_
    refine opSkip rfl ⟨_, rfl, .inl rfl⟩ rfl ?_
    refine opSkip rfl ⟨_, rfl, .inl rfl⟩ rfl ?_
    refine opSkip rfl ⟨_, rfl, .inl rfl⟩ rfl ?_
    refine op0 (sp_pickF rfl rfl rfl) rfl trivial rfl rfl ?_
    refine op0 (sp_assign rfl rfl) rfl trivial rfl rfl ?_
    refine TL.nil ?_
    cases h
    exact retJ [] (.tmp rfl .nil) rfl trivial rfl rfl
def ev_ref11_Check_l3 (n : Nat) (rr1 : List (Int × Int × Int × Int × Int)) (rr2 : List ((List Int))) (i9 : Int) (k_ref11_Check_l2 : Int → Option Int) : Nat → Int → Option Int
  | 0, _ => none
  | m + 1, i10 => cond (decide (i10 ≤ (rr1.length : Int))) (idx rr2 i9 fun x11 => idx x11 i10 fun x12 => (ev_ref11_in n x12 0 1440).bind fun r13 => cond (!r13) (some 2) (cond (i9 == i10) (cond (x12 != 0) (some 2) (chk (in64 (i10 + 1)) <| ev_ref11_Check_l3 n rr1 rr2 i9 k_ref11_Check_l2 m (i10 + 1))) (chk (in64 (i10 + 1)) <| ev_ref11_Check_l3 n rr1 rr2 i9 k_ref11_Check_l2 m (i10 + 1)))) (chk (in64 (i9 + 1)) <| k_ref11_Check_l2 (i9 + 1))
theorem ok_ref11_Check_l3 {n : Nat} {w0 : World} {R0 : Nat → Prop} {env0 : Env} {r : Int} {rr1 : List (Int × Int × Int × Int × Int)} {rr4 : Int} {rr5 : Int} {rr2 : List ((List Int))} {rr3 : List (Int × Int × Int × Int)} {i9 : Int} {k_ref11_Check_l2 : Int → Option Int} (hk_ref11_Check_l2 : ∀ (i9 : Int), k_ref11_Check_l2 i9 = some r → TC Tryz.prog ⟨w0, fun _ => False, R0⟩ 158 (bodyPost Tryz.prog Tryz.f12 (Post ⟨w0, fun _ => False, R0⟩ env0 (vi r) [])) [.code (sub (bodyOf Tryz.f12) [1, 1, 1, 1, 1, 0, 1, 0, 0, 0, 0]), .code (sub (bodyOf Tryz.f12) [1, 1, 1, 1, 1, 0, 1, 0, 0, 0, 1]), .code (sub (bodyOf Tryz.f12) [1, 1, 1, 1, 1, 0, 1, 0, 0, 1]), .inLoop (sub (bodyOf Tryz.f12) [1, 1, 1, 1, 1, 0, 1, 0, 0]), .inBlock 2, .code (sub (bodyOf Tryz.f12) [1, 1, 1, 1, 1, 1])] ([(1, .ptr 3 0), (3, vi (rr1.length : Int)), (5, vi i9)]) ([.blk 3 [.ref 0, .ref 1, .ref 2, vi rr4, vi rr5] 26, .ro 0 5 (List.map en_api_RoundTower rr1), .ro 1 1 (List.map en_Lint rr2), .ro 2 4 (List.map en_api_RoundWinder rr3)])) : ∀ (m : Nat) (i10 : Int), ev_ref11_Check_l3 n rr1 rr2 i9 k_ref11_Check_l2 m i10 = some r → TC Tryz.prog ⟨w0, fun _ => False, R0⟩ 158 (bodyPost Tryz.prog Tryz.f12 (Post ⟨w0, fun _ => False, R0⟩ env0 (vi r) [])) [.code (sub (bodyOf Tryz.f12) [1, 1, 1, 1, 1, 0, 1, 0, 0, 1, 0, 0, 1, 0, 0, 0, 0]), .code (sub (bodyOf Tryz.f12) [1, 1, 1, 1, 1, 0, 1, 0, 0, 1, 0, 0, 1, 0, 0, 0, 1]), .code (sub (bodyOf Tryz.f12) [1, 1, 1, 1, 1, 0, 1, 0, 0, 1, 0, 0, 1, 0, 0, 1]), .inLoop (sub (bodyOf Tryz.f12) [1, 1, 1, 1, 1, 0, 1, 0, 0, 1, 0, 0, 1, 0, 0]), .inBlock 4, .inBlock 3, .code (sub (bodyOf Tryz.f12) [1, 1, 1, 1, 1, 0, 1, 0, 0, 1, 1]), .inLoop (sub (bodyOf Tryz.f12) [1, 1, 1, 1, 1, 0, 1, 0, 0]), .inBlock 2, .code (sub (bodyOf Tryz.f12) [1, 1, 1, 1, 1, 1])] ([(1, .ptr 3 0), (3, vi (rr1.length : Int)), (5, vi i9), (6, vi i10)]) ([.blk 3 [.ref 0, .ref 1, .ref 2, vi rr4, vi rr5] 26, .ro 0 5 (List.map en_api_RoundTower rr1), .ro 1 1 (List.map en_Lint rr2), .ro 2 4 (List.map en_api_RoundWinder rr3)]) := by
  intro m
  induction m with
  | zero => intro i10 h; exact none_no h
  | succ m ih =>
    intro i10 h
    rw [ev_ref11_Check_l3] at h
    refine TC.region ?_
    refine op0 (sp_move rfl rfl) rfl trivial rfl rfl ?_
    refine op0 (sp_move rfl rfl) rfl trivial rfl rfl ?_
    refine op0 (sp_leq rfl rfl rfl) rfl trivial rfl rfl ?_
    refine TL.nil ?_
    refine TC.cond (b := (decide (i10 ≤ (rr1.length : Int)))) rfl (fun h12 => ?_) (fun h12 => ?_)
    · have h := cond_t h h12
      refine TC.skip ?_
      refine TC.seq ?_
      refine TC.block ?_
      refine TC.seq ?_
      refine TC.region ?_
      refine op1 0 rfl (sp_fieldAddrB rfl isBlk rfl ft26_1 vt23 (by decide)) rfl trivial rfl rfl ?_
      refine op1 0 rfl (sp_loadB rfl isBlk rfl vt23 rfl) rfl trivial rfl rfl ?_
      refine op0 (sp_move rfl rfl) rfl trivial rfl rfl ?_
      obtain ⟨x11, h13, h14, h⟩ := idx_inv h
      refine op1 2 rfl (sp_indexS rfl rfl rfl isRo sl23 h13 (map_get _ h14)) rfl trivial rfl rfl ?_
      refine op1 2 rfl (sp_loadR (i := (i9 : Int).toNat) (j := 0) (ns := [.ro 5 1 (List.map en_int x11)]) rfl rfl isRo vt27 rfl (map_get _ h14) rfl (.s (.nil)) (nodup_of_B rfl)) rfl trivial rfl rfl ?_
      refine op0 (sp_move rfl rfl) rfl trivial rfl rfl ?_
      obtain ⟨x12, h15, h16, h⟩ := idx_inv h
      refine op1 0 rfl (sp_indexS rfl rfl rfl isRo sl27 h15 (map_get _ h16)) rfl trivial rfl rfl ?_
      refine op1 0 rfl (sp_loadR (i := (i10 : Int).toNat) (j := 0) rfl rfl isRo vt3 rfl (map_get _ h16) rfl (.v (.nil)) (nodup_of_B rfl)) rfl trivial rfl rfl ?_
      obtain ⟨r13, h17, h⟩ := bind_inv h
      refine op0 (sp_call (avs := [vi x12, vi 0, vi 1440]) (need := []) (v := .val (.bool r13)) (news := []) rfl rfl rfl Tryz.call37 (atJ [] [] (fc_ref11_in h17) rfl rfl) (.inl (roAll rfl))) rfl trivial rfl rfl ?_
      refine op0 (sp_not rfl rfl) rfl trivial rfl rfl ?_
      refine op0 (sp_move rfl rfl) rfl trivial rfl rfl ?_
      rcases cond_cases h with ⟨h18, h⟩ | ⟨h18, h⟩
      · refine (boolLit 62 rfl h18).2 ?_
        refine opSkip rfl ⟨_, rfl, .inl rfl⟩ rfl ?_
        refine opSkip rfl ⟨_, rfl, .inl rfl⟩ rfl ?_
        refine opSkip rfl ⟨_, rfl, .inl rfl⟩ rfl ?_
        refine opSkip rfl ⟨_, rfl, .inl rfl⟩ rfl ?_
        refine opSkip rfl ⟨_, rfl, .inr rfl⟩ rfl ?_
        refine opSkip rfl ⟨_, rfl, .inr rfl⟩ rfl ?_
        refine opSkip rfl ⟨_, rfl, .inr rfl⟩ rfl ?_
        refine opSkip rfl ⟨_, rfl, .inr rfl⟩ rfl ?_
        refine opSkip rfl ⟨_, rfl, .inr rfl⟩ rfl ?_
        refine opSkip rfl ⟨_, rfl, .inr rfl⟩ rfl ?_
        refine opSkip rfl ⟨_, rfl, .inr rfl⟩ rfl ?_
        refine opSkip rfl ⟨_, rfl, .inr rfl⟩ rfl ?_
        refine opSkip rfl ⟨_, rfl, .inr rfl⟩ rfl ?_
        refine opSkip rfl ⟨_, rfl, .inl rfl⟩ rfl ?_
        refine op0 (sp_pickT rfl rfl rfl) rfl trivial rfl rfl ?_
        refine TL.nil ?_
        refine TC.condT rfl ?_
        refine TC.seq ?_
        refine TC.region ?_
        refine op0 (sp_assign rfl rfl) rfl trivial rfl rfl ?_
        refine TL.nil ?_
        cases h
        exact retJ [] (.tmp rfl .nil) rfl trivial rfl rfl
      · refine (boolLit 62 rfl h18).2 ?_
        refine op0 (sp_move rfl rfl) rfl ⟨_, rfl, rfl⟩ rfl rfl ?_
        refine op0 (sp_move rfl rfl) rfl ⟨_, rfl, rfl⟩ rfl rfl ?_
        refine op0 (sp_eql rfl rfl rfl) rfl ⟨_, rfl, rfl⟩ rfl rfl ?_
        refine op0 (sp_move rfl rfl) rfl ⟨_, rfl, rfl⟩ rfl rfl ?_
        rcases cond_cases h with ⟨h19, h⟩ | ⟨h19, h⟩
        · refine (boolLit 66 rfl h19).2 ?_
          refine op1 1 rfl (sp_fieldAddrB rfl isBlk rfl ft26_1 vt23 (by decide)) rfl ⟨_, rfl, rfl⟩ rfl rfl ?_
          refine op1 1 rfl (sp_loadB rfl isBlk rfl vt23 rfl) rfl ⟨_, rfl, rfl⟩ rfl rfl ?_
          refine op0 (sp_move rfl rfl) rfl ⟨_, rfl, rfl⟩ rfl rfl ?_
          refine op1 3 rfl (sp_indexS rfl rfl rfl isRo sl23 h13 (map_get _ h14)) rfl ⟨_, rfl, rfl⟩ rfl rfl ?_
          refine op1 3 rfl (sp_loadR (i := (i9 : Int).toNat) (j := 0) (ns := [.ro 6 1 (List.map en_int x11)]) rfl rfl isRo vt27 rfl (map_get _ h14) rfl (.s (.nil)) (nodup_of_B rfl)) rfl ⟨_, rfl, rfl⟩ rfl rfl ?_
          refine op0 (sp_move rfl rfl) rfl ⟨_, rfl, rfl⟩ rfl rfl ?_
          refine op1 0 rfl (sp_indexS rfl rfl rfl isRo sl27 h15 (map_get _ h16)) rfl ⟨_, rfl, rfl⟩ rfl rfl ?_
          refine op1 0 rfl (sp_loadR (i := (i10 : Int).toNat) (j := 0) rfl rfl isRo vt3 rfl (map_get _ h16) rfl (.v (.nil)) (nodup_of_B rfl)) rfl ⟨_, rfl, rfl⟩ rfl rfl ?_
          refine op0 (sp_neq rfl rfl rfl) rfl ⟨_, rfl, rfl⟩ rfl rfl ?_
          refine op0 (sp_pickT rfl rfl rfl) rfl ⟨_, rfl, rfl⟩ rfl rfl ?_
          refine op0 (sp_pickF rfl rfl rfl) rfl trivial rfl rfl ?_
          refine TL.nil ?_
          refine TC.cond (b := (x12 != 0)) rfl (fun h20 => ?_) (fun h20 => ?_)
          · have h := cond_t h h20
            refine TC.seq ?_
            refine TC.region ?_
            refine op0 (sp_assign rfl rfl) rfl trivial rfl rfl ?_
            refine TL.nil ?_
            cases h
            exact retJ [] (.tmp rfl .nil) rfl trivial rfl rfl
          · have h := cond_f h h20
            refine TC.skip ?_
            refine TC.inBlock ?_
            refine TC.region ?_
            refine op0 (sp_move rfl rfl) rfl trivial rfl rfl ?_
            obtain ⟨h21, h⟩ := chk_inv h
            refine op0 (sp_add rfl rfl rfl h21) rfl trivial rfl rfl ?_
            refine op0 (sp_assign rfl rfl) rfl trivial rfl rfl ?_
            refine TL.nil ?_
            refine TC.inLoop ?_
            refine TC.seq ?_
            refine TC.seq ?_
            refine subJ [] (ih _ h) ?_ ?_ ?_
            · exact ⟨rfl, rfl, rfl, rfl, trivial⟩
            · exact ⟨mem_at 2 rfl, mem_at 3 rfl, mem_at 4 rfl, mem_at 5 rfl, trivial⟩
            · rfl
        · refine (boolLit 66 rfl h19).2 ?_
          refine opSkip rfl ⟨_, rfl, .inl rfl⟩ rfl ?_
          refine opSkip rfl ⟨_, rfl, .inl rfl⟩ rfl ?_
          refine opSkip rfl ⟨_, rfl, .inl rfl⟩ rfl ?_
          refine opSkip rfl ⟨_, rfl, .inl rfl⟩ rfl ?_
          refine opSkip rfl ⟨_, rfl, .inl rfl⟩ rfl ?_
          refine opSkip rfl ⟨_, rfl, .inl rfl⟩ rfl ?_
          refine opSkip rfl ⟨_, rfl, .inl rfl⟩ rfl ?_
          refine opSkip rfl ⟨_, rfl, .inl rfl⟩ rfl ?_
          refine opSkip rfl ⟨_, rfl, .inl rfl⟩ rfl ?_
          refine op0 (sp_pickF rfl rfl rfl) rfl ⟨_, rfl, rfl⟩ rfl rfl ?_
          refine op0 (sp_pickF rfl rfl rfl) rfl trivial rfl rfl ?_
          refine TL.nil ?_
          refine TC.condF rfl ?_
          refine TC.skip ?_
          refine TC.inBlock ?_
          refine TC.region ?_
          refine op0 (sp_move rfl rfl) rfl trivial rfl rfl ?_
          obtain ⟨h22, h⟩ := chk_inv h
          refine op0 (sp_add rfl rfl rfl h22) rfl trivial rfl rfl ?_
          refine op0 (sp_assign rfl rfl) rfl trivial rfl rfl ?_
          refine TL.nil ?_
          refine TC.inLoop ?_
          refine TC.seq ?_
          refine TC.seq ?_
          refine subJ [] (ih _ h) ?_ ?_ ?_
          · exact ⟨rfl, rfl, rfl, rfl, trivial⟩
          · exact ⟨mem_at 1 rfl, mem_at 2 rfl, mem_at 3 rfl, mem_at 4 rfl, trivial⟩
          · rfl
    · have h := cond_f h h12
      refine TC.exit rfl ?_
      refine TC.inBlock ?_
      refine TC.region ?_
      refine op0 (sp_move rfl rfl) rfl trivial rfl rfl ?_
      obtain ⟨h23, h⟩ := chk_inv h
      refine op0 (sp_add rfl rfl rfl h23) rfl trivial rfl rfl ?_
      refine op0 (sp_assign rfl rfl) rfl trivial rfl rfl ?_
      refine TL.nil ?_
      refine TC.inLoop ?_
      refine TC.seq ?_
      refine TC.seq ?_
      refine subJ [] (hk_ref11_Check_l2 _ h) ?_ ?_ ?_
      · exact ⟨rfl, rfl, rfl, trivial⟩
      · exact ⟨mem_at 0 rfl, mem_at 1 rfl, mem_at 2 rfl, mem_at 3 rfl, trivial⟩
      · rfl
def ev_ref11_Check_l5 (n : Nat) (rr1 : List (Int × Int × Int × Int × Int)) : Nat → Int → Int → Int → (List (Int × Int × Int × Int × Int)) → (List ((List Int))) → (List (Int × Int × Int × Int)) → Option Int
  | 0, _, _, _, _, _, _ => none
  | m + 1, i26, i27, i28, l29, l30, l31 => cond (decide (i26 < (l31.length : Int))) (idx l31 i26 fun x32 => (ev_ref11_in n x32.2.1 0 8000).bind fun r33 => cond (!r33) (some 2) ((ev_ref11_in n x32.2.2.1 1 1440).bind fun r34 => cond (!r34) (some 2) ((ev_ref11_in n x32.2.2.2 1 1440).bind fun r35 => cond (!r35) (some 2) (chk (in64 (i26 + 1)) <| ev_ref11_Check_l5 n rr1 m (i26 + 1) i27 i28 l29 l30 l31)))) (cond ((rr1.length : Int) == 0) (some 2) (cond ((l31.length : Int) == 0) (some 2) ((ev_ref11_in n i27 1 1440).bind fun r36 => cond (!r36) (some 2) ((ev_ref11_in n i28 0 1000).bind fun r37 => cond (!r37) (some 2) (some 0)))))
theorem ok_ref11_Check_l5 {n : Nat} {w0 : World} {R0 : Nat → Prop} {env0 : Env} {r : Int} {rr1 : List (Int × Int × Int × Int × Int)} : ∀ (m : Nat) (i26 : Int) (i27 : Int) (i28 : Int) (l29 : List (Int × Int × Int × Int × Int)) (l30 : List ((List Int))) (l31 : List (Int × Int × Int × Int)), ev_ref11_Check_l5 n rr1 m i26 i27 i28 l29 l30 l31 = some r → TC Tryz.prog ⟨w0, fun _ => False, R0⟩ 158 (bodyPost Tryz.prog Tryz.f12 (Post ⟨w0, fun _ => False, R0⟩ env0 (vi r) [])) [.code (sub (bodyOf Tryz.f12) [1, 1, 1, 1, 1, 1, 1, 0, 1, 0, 0, 0, 0]), .code (sub (bodyOf Tryz.f12) [1, 1, 1, 1, 1, 1, 1, 0, 1, 0, 0, 0, 1]), .code (sub (bodyOf Tryz.f12) [1, 1, 1, 1, 1, 1, 1, 0, 1, 0, 0, 1]), .inLoop (sub (bodyOf Tryz.f12) [1, 1, 1, 1, 1, 1, 1, 0, 1, 0, 0]), .inBlock 8, .code (sub (bodyOf Tryz.f12) [1, 1, 1, 1, 1, 1, 1, 1])] ([(1, .ptr 3 0), (3, vi (rr1.length : Int)), (9, vi i26)]) ([.blk 3 [.ref 0, .ref 1, .ref 2, vi i27, vi i28] 26, .ro 0 5 (List.map en_api_RoundTower l29), .ro 1 1 (List.map en_Lint l30), .ro 2 4 (List.map en_api_RoundWinder l31)]) := by
  intro m
  induction m with
  | zero => intro i26 i27 i28 l29 l30 l31 h; exact none_no h
  | succ m ih =>
    intro i26 i27 i28 l29 l30 l31 h
    rw [ev_ref11_Check_l5] at h
    refine TC.region ?_
    refine op0 (sp_move rfl rfl) rfl trivial rfl rfl ?_
    refine op1 0 rfl (sp_fieldAddrB rfl isBlk rfl ft26_2 vt24 (by decide)) rfl trivial rfl rfl ?_
    refine op1 0 rfl (sp_loadB rfl isBlk rfl vt24 rfl) rfl trivial rfl rfl ?_
    refine op1 3 rfl (sp_lenM (N := l31.length) (len_map _ _) rfl rfl isRo Tryz.underlying24) rfl trivial rfl rfl ?_
    refine op0 (sp_lss rfl rfl rfl) rfl trivial rfl rfl ?_
    refine TL.nil ?_
    refine TC.cond (b := (decide (i26 < (l31.length : Int)))) rfl (fun h36 => ?_) (fun h36 => ?_)
    · have h := cond_t h h36
      refine TC.skip ?_
      refine TC.seq ?_
      refine TC.block ?_
      refine TC.seq ?_
      refine TC.region ?_
      refine op1 0 rfl (sp_fieldAddrB rfl isBlk rfl ft26_2 vt24 (by decide)) rfl trivial rfl rfl ?_
      refine op1 0 rfl (sp_loadB rfl isBlk rfl vt24 rfl) rfl trivial rfl rfl ?_
      refine op0 (sp_move rfl rfl) rfl trivial rfl rfl ?_
      obtain ⟨x32, h37, h38, h⟩ := idx_inv h
      refine op1 3 rfl (sp_indexS rfl rfl rfl isRo sl24 h37 (map_get _ h38)) rfl trivial rfl rfl ?_
      refine op1 3 rfl (sp_loadRA (i := (i26 : Int).toNat) (j := 0) (as_ := [.val (.int .u16 x32.1), vi x32.2.1, vi x32.2.2.1, vi x32.2.2.2]) (ns := []) rfl rfl isRo vt50 rfl (map_get _ h38) rfl rfl (by decide) (.v (.v (.v (.v (.nil))))) (nodup_of_B rfl)) rfl trivial rfl rfl ?_
      refine op0 (sp_alloc 8 rfl Tryz.zeroValue50 rfl) rfl trivial rfl rfl ?_
      refine stoB 0 (cells' := [.val (.int .u16 x32.1), vi x32.2.1, vi x32.2.2.1, vi x32.2.2.2]) rfl rfl trivial rfl rfl rfl rfl vt50 rfl rfl rfl ?_
      refine TL.nil ?_
      refine TC.seq ?_
      refine TC.region ?_
      refine op1 0 rfl (sp_fieldAddrB rfl isBlk rfl ft50_1 vt3 (by decide)) rfl trivial rfl rfl ?_
      refine op1 0 rfl (sp_loadB rfl isBlk rfl vt3 rfl) rfl trivial rfl rfl ?_
      obtain ⟨r33, h39, h⟩ := bind_inv h
      refine op0 (sp_call (avs := [vi x32.2.1, vi 0, vi 8000]) (need := []) (v := .val (.bool r33)) (news := []) rfl rfl rfl Tryz.call37 (atJ [] [] (fc_ref11_in h39) rfl rfl) (.inl (roAll rfl))) rfl trivial rfl rfl ?_
      refine op0 (sp_not rfl rfl) rfl trivial rfl rfl ?_
      refine op0 (sp_move rfl rfl) rfl trivial rfl rfl ?_
      rcases cond_cases h with ⟨h40, h⟩ | ⟨h40, h⟩
      · refine (boolLit 126 rfl h40).2 ?_
        refine opSkip rfl ⟨_, rfl, .inl rfl⟩ rfl ?_
        refine opSkip rfl ⟨_, rfl, .inl rfl⟩ rfl ?_
        refine opSkip rfl ⟨_, rfl, .inl rfl⟩ rfl ?_
        refine opSkip rfl ⟨_, rfl, .inl rfl⟩ rfl ?_
        refine op0 (sp_pickT rfl rfl rfl) rfl trivial rfl rfl ?_
        refine op0 (sp_move rfl rfl) rfl trivial rfl rfl ?_
        refine opSkip rfl ⟨_, rfl, .inl rfl⟩ rfl ?_
        refine opSkip rfl ⟨_, rfl, .inl rfl⟩ rfl ?_
        refine opSkip rfl ⟨_, rfl, .inl rfl⟩ rfl ?_
        refine opSkip rfl ⟨_, rfl, .inl rfl⟩ rfl ?_
        refine op0 (sp_pickT rfl rfl rfl) rfl trivial rfl rfl ?_
        refine TL.nil ?_
        refine TC.condT rfl ?_
        refine TC.seq ?_
        refine TC.region ?_
        refine op0 (sp_assign rfl rfl) rfl trivial rfl rfl ?_
        refine TL.nil ?_
        cases h
        exact retJ [] (.tmp rfl .nil) rfl trivial rfl rfl
      · refine (boolLit 126 rfl h40).2 ?_
        refine op1 0 rfl (sp_fieldAddrB rfl isBlk rfl ft50_2 vt3 (by decide)) rfl ⟨_, rfl, rfl⟩ rfl rfl ?_
        refine op1 0 rfl (sp_loadB rfl isBlk rfl vt3 rfl) rfl ⟨_, rfl, rfl⟩ rfl rfl ?_
        obtain ⟨r34, h41, h⟩ := bind_inv h
        refine op0 (sp_call (avs := [vi x32.2.2.1, vi 1, vi 1440]) (need := []) (v := .val (.bool r34)) (news := []) rfl rfl rfl Tryz.call37 (atJ [] [] (fc_ref11_in h41) rfl rfl) (.inl (roAll rfl))) rfl ⟨_, rfl, rfl⟩ rfl rfl ?_
        refine op0 (sp_not rfl rfl) rfl ⟨_, rfl, rfl⟩ rfl rfl ?_
        refine op0 (sp_pickF rfl rfl rfl) rfl trivial rfl rfl ?_
        refine op0 (sp_move rfl rfl) rfl trivial rfl rfl ?_
        rcases cond_cases h with ⟨h42, h⟩ | ⟨h42, h⟩
        · refine (boolLit 132 rfl h42).2 ?_
          refine opSkip rfl ⟨_, rfl, .inl rfl⟩ rfl ?_
          refine opSkip rfl ⟨_, rfl, .inl rfl⟩ rfl ?_
          refine opSkip rfl ⟨_, rfl, .inl rfl⟩ rfl ?_
          refine opSkip rfl ⟨_, rfl, .inl rfl⟩ rfl ?_
          refine op0 (sp_pickT rfl rfl rfl) rfl trivial rfl rfl ?_
          refine TL.nil ?_
          refine TC.condT rfl ?_
          refine TC.seq ?_
          refine TC.region ?_
          refine op0 (sp_assign rfl rfl) rfl trivial rfl rfl ?_
          refine TL.nil ?_
          cases h
          exact retJ [] (.tmp rfl .nil) rfl trivial rfl rfl
        · refine (boolLit 132 rfl h42).2 ?_
          refine op1 0 rfl (sp_fieldAddrB rfl isBlk rfl ft50_3 vt3 (by decide)) rfl ⟨_, rfl, rfl⟩ rfl rfl ?_
          refine op1 0 rfl (sp_loadB rfl isBlk rfl vt3 rfl) rfl ⟨_, rfl, rfl⟩ rfl rfl ?_
          obtain ⟨r35, h43, h⟩ := bind_inv h
          refine op0 (sp_call (avs := [vi x32.2.2.2, vi 1, vi 1440]) (need := []) (v := .val (.bool r35)) (news := []) rfl rfl rfl Tryz.call37 (atJ [] [] (fc_ref11_in h43) rfl rfl) (.inl (roAll rfl))) rfl ⟨_, rfl, rfl⟩ rfl rfl ?_
          refine op0 (sp_not rfl rfl) rfl ⟨_, rfl, rfl⟩ rfl rfl ?_
          refine op0 (sp_pickF rfl rfl rfl) rfl trivial rfl rfl ?_
          refine TL.nil ?_
          refine TC.cond (b := (!r35)) rfl (fun h44 => ?_) (fun h44 => ?_)
          · have h := cond_t h h44
            refine TC.seq ?_
            refine TC.region ?_
            refine op0 (sp_assign rfl rfl) rfl trivial rfl rfl ?_
            refine TL.nil ?_
            cases h
            exact retJ [] (.tmp rfl .nil) rfl trivial rfl rfl
          · have h := cond_f h h44
            refine TC.skip ?_
            refine TC.inBlock ?_
            refine TC.region ?_
            refine op0 (sp_move rfl rfl) rfl trivial rfl rfl ?_
            obtain ⟨h45, h⟩ := chk_inv h
            refine op0 (sp_add rfl rfl rfl h45) rfl trivial rfl rfl ?_
            refine op0 (sp_assign rfl rfl) rfl trivial rfl rfl ?_
            refine TL.nil ?_
            refine TC.inLoop ?_
            refine TC.seq ?_
            refine TC.seq ?_
            refine subJ [] (ih _ _ _ _ _ _ h) ?_ ?_ ?_
            · exact ⟨rfl, rfl, rfl, trivial⟩
            · exact ⟨mem_at 1 rfl, mem_at 2 rfl, mem_at 3 rfl, mem_at 4 rfl, trivial⟩
            · rfl
    · have h := cond_f h h36
      refine TC.exit rfl ?_
      refine TC.seq ?_
      refine TC.seq ?_
      refine TC.region ?_
      refine op0 (sp_move rfl rfl) rfl trivial rfl rfl ?_
      refine op0 (sp_eql rfl rfl rfl) rfl trivial rfl rfl ?_
      refine op0 (sp_move rfl rfl) rfl trivial rfl rfl ?_
      rcases cond_cases h with ⟨h46, h⟩ | ⟨h46, h⟩
      · refine (boolLit 140 rfl h46).2 ?_
        refine opSkip rfl ⟨_, rfl, .inl rfl⟩ rfl ?_
        refine opSkip rfl ⟨_, rfl, .inl rfl⟩ rfl ?_
        refine opSkip rfl ⟨_, rfl, .inl rfl⟩ rfl ?_
        refine opSkip rfl ⟨_, rfl, .inl rfl⟩ rfl ?_
        refine op0 (sp_pickT rfl rfl rfl) rfl trivial rfl rfl ?_
        refine op0 (sp_move rfl rfl) rfl trivial rfl rfl ?_
        refine opSkip rfl ⟨_, rfl, .inl rfl⟩ rfl ?_
        refine opSkip rfl ⟨_, rfl, .inl rfl⟩ rfl ?_
        refine opSkip rfl ⟨_, rfl, .inl rfl⟩ rfl ?_
        refine opSkip rfl ⟨_, rfl, .inl rfl⟩ rfl ?_
        refine op0 (sp_pickT rfl rfl rfl) rfl trivial rfl rfl ?_
        refine op0 (sp_move rfl rfl) rfl trivial rfl rfl ?_
        refine opSkip rfl ⟨_, rfl, .inl rfl⟩ rfl ?_
        refine opSkip rfl ⟨_, rfl, .inl rfl⟩ rfl ?_
        refine opSkip rfl ⟨_, rfl, .inl rfl⟩ rfl ?_
        refine opSkip rfl ⟨_, rfl, .inl rfl⟩ rfl ?_
        refine op0 (sp_pickT rfl rfl rfl) rfl trivial rfl rfl ?_
        refine TL.nil ?_
        refine TC.condT rfl ?_
        refine TC.seq ?_
        refine TC.region ?_
        refine op0 (sp_assign rfl rfl) rfl trivial rfl rfl ?_
        refine TL.nil ?_
        cases h
        exact retJ [] (.tmp rfl .nil) rfl trivial rfl rfl
      · refine (boolLit 140 rfl h46).2 ?_
        refine op1 0 rfl (sp_fieldAddrB rfl isBlk rfl ft26_2 vt24 (by decide)) rfl ⟨_, rfl, rfl⟩ rfl rfl ?_
        refine op1 0 rfl (sp_loadB rfl isBlk rfl vt24 rfl) rfl ⟨_, rfl, rfl⟩ rfl rfl ?_
        refine op1 3 rfl (sp_lenM (N := l31.length) (len_map _ _) rfl rfl isRo Tryz.underlying24) rfl ⟨_, rfl, rfl⟩ rfl rfl ?_
        refine op0 (sp_eql rfl rfl rfl) rfl ⟨_, rfl, rfl⟩ rfl rfl ?_
        refine op0 (sp_pickF rfl rfl rfl) rfl trivial rfl rfl ?_
        refine op0 (sp_move rfl rfl) rfl trivial rfl rfl ?_
        rcases cond_cases h with ⟨h47, h⟩ | ⟨h47, h⟩
        · refine (boolLit 146 rfl h47).2 ?_
          refine opSkip rfl ⟨_, rfl, .inl rfl⟩ rfl ?_
          refine opSkip rfl ⟨_, rfl, .inl rfl⟩ rfl ?_
          refine opSkip rfl ⟨_, rfl, .inl rfl⟩ rfl ?_
          refine opSkip rfl ⟨_, rfl, .inl rfl⟩ rfl ?_
          refine op0 (sp_pickT rfl rfl rfl) rfl trivial rfl rfl ?_
          refine op0 (sp_move rfl rfl) rfl trivial rfl rfl ?_
          refine opSkip rfl ⟨_, rfl, .inl rfl⟩ rfl ?_
          refine opSkip rfl ⟨_, rfl, .inl rfl⟩ rfl ?_
          refine opSkip rfl ⟨_, rfl, .inl rfl⟩ rfl ?_
          refine opSkip rfl ⟨_, rfl, .inl rfl⟩ rfl ?_
          refine op0 (sp_pickT rfl rfl rfl) rfl trivial rfl rfl ?_
          refine TL.nil ?_
          refine TC.condT rfl ?_
          refine TC.seq ?_
          refine TC.region ?_
          refine op0 (sp_assign rfl rfl) rfl trivial rfl rfl ?_
          refine TL.nil ?_
          cases h
          exact retJ [] (.tmp rfl .nil) rfl trivial rfl rfl
        · refine (boolLit 146 rfl h47).2 ?_
          refine op1 0 rfl (sp_fieldAddrB rfl isBlk rfl ft26_3 vt3 (by decide)) rfl ⟨_, rfl, rfl⟩ rfl rfl ?_
          refine op1 0 rfl (sp_loadB rfl isBlk rfl vt3 rfl) rfl ⟨_, rfl, rfl⟩ rfl rfl ?_
          obtain ⟨r36, h48, h⟩ := bind_inv h
          refine op0 (sp_call (avs := [vi i27, vi 1, vi 1440]) (need := []) (v := .val (.bool r36)) (news := []) rfl rfl rfl Tryz.call37 (atJ [] [] (fc_ref11_in h48) rfl rfl) (.inl (roAll rfl))) rfl ⟨_, rfl, rfl⟩ rfl rfl ?_
          refine op0 (sp_not rfl rfl) rfl ⟨_, rfl, rfl⟩ rfl rfl ?_
          refine op0 (sp_pickF rfl rfl rfl) rfl trivial rfl rfl ?_
          refine op0 (sp_move rfl rfl) rfl trivial rfl rfl ?_
          rcases cond_cases h with ⟨h49, h⟩ | ⟨h49, h⟩
          · refine (boolLit 152 rfl h49).2 ?_
            refine opSkip rfl ⟨_, rfl, .inl rfl⟩ rfl ?_
            refine opSkip rfl ⟨_, rfl, .inl rfl⟩ rfl ?_
            refine opSkip rfl ⟨_, rfl, .inl rfl⟩ rfl ?_
            refine opSkip rfl ⟨_, rfl, .inl rfl⟩ rfl ?_
            refine op0 (sp_pickT rfl rfl rfl) rfl trivial rfl rfl ?_
            refine TL.nil ?_
            refine TC.condT rfl ?_
            refine TC.seq ?_
            refine TC.region ?_
            refine op0 (sp_assign rfl rfl) rfl trivial rfl rfl ?_
            refine TL.nil ?_
            cases h
            exact retJ [] (.tmp rfl .nil) rfl trivial rfl rfl
          · refine (boolLit 152 rfl h49).2 ?_
            refine op1 0 rfl (sp_fieldAddrB rfl isBlk rfl ft26_4 vt3 (by decide)) rfl ⟨_, rfl, rfl⟩ rfl rfl ?_
            refine op1 0 rfl (sp_loadB rfl isBlk rfl vt3 rfl) rfl ⟨_, rfl, rfl⟩ rfl rfl ?_
            obtain ⟨r37, h50, h⟩ := bind_inv h
            refine op0 (sp_call (avs := [vi i28, vi 0, vi 1000]) (need := []) (v := .val (.bool r37)) (news := []) rfl rfl rfl Tryz.call37 (atJ [] [] (fc_ref11_in h50) rfl rfl) (.inl (roAll rfl))) rfl ⟨_, rfl, rfl⟩ rfl rfl ?_
            refine op0 (sp_not rfl rfl) rfl ⟨_, rfl, rfl⟩ rfl rfl ?_
            refine op0 (sp_pickF rfl rfl rfl) rfl trivial rfl rfl ?_
            refine TL.nil ?_
            refine TC.cond (b := (!r37)) rfl (fun h51 => ?_) (fun h51 => ?_)
            · have h := cond_t h h51
              refine TC.seq ?_
              refine TC.region ?_
              refine op0 (sp_assign rfl rfl) rfl trivial rfl rfl ?_
              refine TL.nil ?_
              cases h
              exact retJ [] (.tmp rfl .nil) rfl trivial rfl rfl
            · have h := cond_f h h51
              refine TC.skip ?_
              refine TC.seq ?_
              refine TC.region ?_
              refine op0 (sp_assign rfl rfl) rfl trivial rfl rfl ?_
              refine TL.nil ?_
              cases h
              exact retJ [] (.tmp rfl .nil) rfl trivial rfl rfl
def ev_ref11_Check_l4 (n : Nat) (rr1 : List (Int × Int × Int × Int × Int)) : Nat → Int → Int → Int → (List (Int × Int × Int × Int × Int)) → (List ((List Int))) → (List (Int × Int × Int × Int)) → Option Int
  | 0, _, _, _, _, _, _ => none
  | m + 1, i14, i15, i17, l18, l19, l20 => cond (decide (i14 < (rr1.length : Int))) (idx l18 i14 fun x21 => (ev_ref11_in n x21.1 0 120).bind fun r22 => cond (!r22) (some 2) ((ev_ref11_in n x21.2.1 0 120).bind fun r23 => cond (!r23) (some 2) ((ev_ref11_in n x21.2.2.2.1 0 1000).bind fun r24 => cond (!r24) (some 2) ((ev_ref11_in n x21.2.2.2.2 1 30).bind fun r25 => cond (!r25) (some 2) (chk (in64 (i14 + 1)) <| ev_ref11_Check_l4 n rr1 m (i14 + 1) i15 i17 l18 l19 l20))))) (ev_ref11_Check_l5 n rr1 n 0 i15 i17 l18 l19 l20)
theorem ok_ref11_Check_l4 {n : Nat} {w0 : World} {R0 : Nat → Prop} {env0 : Env} {r : Int} {rr1 : List (Int × Int × Int × Int × Int)} : ∀ (m : Nat) (i14 : Int) (i15 : Int) (i17 : Int) (l18 : List (Int × Int × Int × Int × Int)) (l19 : List ((List Int))) (l20 : List (Int × Int × Int × Int)), ev_ref11_Check_l4 n rr1 m i14 i15 i17 l18 l19 l20 = some r → TC Tryz.prog ⟨w0, fun _ => False, R0⟩ 158 (bodyPost Tryz.prog Tryz.f12 (Post ⟨w0, fun _ => False, R0⟩ env0 (vi r) [])) [.code (sub (bodyOf Tryz.f12) [1, 1, 1, 1, 1, 1, 0, 1, 0, 0, 0, 0]), .code (sub (bodyOf Tryz.f12) [1, 1, 1, 1, 1, 1, 0, 1, 0, 0, 0, 1]), .code (sub (bodyOf Tryz.f12) [1, 1, 1, 1, 1, 1, 0, 1, 0, 0, 1]), .inLoop (sub (bodyOf Tryz.f12) [1, 1, 1, 1, 1, 1, 0, 1, 0, 0]), .inBlock 6, .code (sub (bodyOf Tryz.f12) [1, 1, 1, 1, 1, 1, 1])] ([(1, .ptr 3 0), (3, vi (rr1.length : Int)), (7, vi i14)]) ([.blk 3 [.ref 0, .ref 1, .ref 2, vi i15, vi i17] 26, .ro 0 5 (List.map en_api_RoundTower l18), .ro 1 1 (List.map en_Lint l19), .ro 2 4 (List.map en_api_RoundWinder l20)]) := by
  intro m
  induction m with
  | zero => intro i14 i15 i17 l18 l19 l20 h; exact none_no h
  | succ m ih =>
    intro i14 i15 i17 l18 l19 l20 h
    rw [ev_ref11_Check_l4] at h
    refine TC.region ?_
    refine op0 (sp_move rfl rfl) rfl trivial rfl rfl ?_
    refine op0 (sp_move rfl rfl) rfl trivial rfl rfl ?_
    refine op0 (sp_lss rfl rfl rfl) rfl trivial rfl rfl ?_
    refine TL.nil ?_
    refine TC.cond (b := (decide (i14 < (rr1.length : Int)))) rfl (fun h24 => ?_) (fun h24 => ?_)
    · have h := cond_t h h24
      refine TC.skip ?_
      refine TC.seq ?_
      refine TC.block ?_
      refine TC.seq ?_
      refine TC.region ?_
      refine op1 0 rfl (sp_fieldAddrB rfl isBlk rfl ft26_0 vt22 (by decide)) rfl trivial rfl rfl ?_
      refine op1 0 rfl (sp_loadB rfl isBlk rfl vt22 rfl) rfl trivial rfl rfl ?_
      refine op0 (sp_move rfl rfl) rfl trivial rfl rfl ?_
      obtain ⟨x21, h25, h26, h⟩ := idx_inv h
      refine op1 1 rfl (sp_indexS rfl rfl rfl isRo sl22 h25 (map_get _ h26)) rfl trivial rfl rfl ?_
      refine op1 1 rfl (sp_loadRA (i := (i14 : Int).toNat) (j := 0) (as_ := [vi x21.1, vi x21.2.1, .val (.int .u16 x21.2.2.1), vi x21.2.2.2.1, vi x21.2.2.2.2]) (ns := []) rfl rfl isRo vt71 rfl (map_get _ h26) rfl rfl (by decide) (.v (.v (.v (.v (.v (.nil)))))) (nodup_of_B rfl)) rfl trivial rfl rfl ?_
      refine op0 (sp_alloc 7 rfl Tryz.zeroValue71 rfl) rfl trivial rfl rfl ?_
      refine stoB 0 (cells' := [vi x21.1, vi x21.2.1, .val (.int .u16 x21.2.2.1), vi x21.2.2.2.1, vi x21.2.2.2.2]) rfl rfl trivial rfl rfl rfl rfl vt71 rfl rfl rfl ?_
      refine TL.nil ?_
      refine TC.seq ?_
      refine TC.region ?_
      refine op1 0 rfl (sp_fieldAddrB rfl isBlk rfl ft71_0 vt3 (by decide)) rfl trivial rfl rfl ?_
      refine op1 0 rfl (sp_loadB rfl isBlk rfl vt3 rfl) rfl trivial rfl rfl ?_
      obtain ⟨r22, h27, h⟩ := bind_inv h
      refine op0 (sp_call (avs := [vi x21.1, vi 0, vi 120]) (need := []) (v := .val (.bool r22)) (news := []) rfl rfl rfl Tryz.call37 (atJ [] [] (fc_ref11_in h27) rfl rfl) (.inl (roAll rfl))) rfl trivial rfl rfl ?_
      refine op0 (sp_not rfl rfl) rfl trivial rfl rfl ?_
      refine op0 (sp_move rfl rfl) rfl trivial rfl rfl ?_
      rcases cond_cases h with ⟨h28, h⟩ | ⟨h28, h⟩
      · refine (boolLit 92 rfl h28).2 ?_
        refine opSkip rfl ⟨_, rfl, .inl rfl⟩ rfl ?_
        refine opSkip rfl ⟨_, rfl, .inl rfl⟩ rfl ?_
        refine opSkip rfl ⟨_, rfl, .inl rfl⟩ rfl ?_
        refine opSkip rfl ⟨_, rfl, .inl rfl⟩ rfl ?_
        refine op0 (sp_pickT rfl rfl rfl) rfl trivial rfl rfl ?_
        refine op0 (sp_move rfl rfl) rfl trivial rfl rfl ?_
        refine opSkip rfl ⟨_, rfl, .inl rfl⟩ rfl ?_
        refine opSkip rfl ⟨_, rfl, .inl rfl⟩ rfl ?_
        refine opSkip rfl ⟨_, rfl, .inl rfl⟩ rfl ?_
        refine opSkip rfl ⟨_, rfl, .inl rfl⟩ rfl ?_
        refine op0 (sp_pickT rfl rfl rfl) rfl trivial rfl rfl ?_
        refine op0 (sp_move rfl rfl) rfl trivial rfl rfl ?_
        refine opSkip rfl ⟨_, rfl, .inl rfl⟩ rfl ?_
        refine opSkip rfl ⟨_, rfl, .inl rfl⟩ rfl ?_
        refine opSkip rfl ⟨_, rfl, .inl rfl⟩ rfl ?_
        refine opSkip rfl ⟨_, rfl, .inl rfl⟩ rfl ?_
        refine op0 (sp_pickT rfl rfl rfl) rfl trivial rfl rfl ?_
        refine TL.nil ?_
        refine TC.condT rfl ?_
        refine TC.seq ?_
        refine TC.region ?_
        refine op0 (sp_assign rfl rfl) rfl trivial rfl rfl ?_
        refine TL.nil ?_
        cases h
        exact retJ [] (.tmp rfl .nil) rfl trivial rfl rfl
      · refine (boolLit 92 rfl h28).2 ?_
        refine op1 0 rfl (sp_fieldAddrB rfl isBlk rfl ft71_1 vt3 (by decide)) rfl ⟨_, rfl, rfl⟩ rfl rfl ?_
        refine op1 0 rfl (sp_loadB rfl isBlk rfl vt3 rfl) rfl ⟨_, rfl, rfl⟩ rfl rfl ?_
        obtain ⟨r23, h29, h⟩ := bind_inv h
        refine op0 (sp_call (avs := [vi x21.2.1, vi 0, vi 120]) (need := []) (v := .val (.bool r23)) (news := []) rfl rfl rfl Tryz.call37 (atJ [] [] (fc_ref11_in h29) rfl rfl) (.inl (roAll rfl))) rfl ⟨_, rfl, rfl⟩ rfl rfl ?_
        refine op0 (sp_not rfl rfl) rfl ⟨_, rfl, rfl⟩ rfl rfl ?_
        refine op0 (sp_pickF rfl rfl rfl) rfl trivial rfl rfl ?_
        refine op0 (sp_move rfl rfl) rfl trivial rfl rfl ?_
        rcases cond_cases h with ⟨h30, h⟩ | ⟨h30, h⟩
        · refine (boolLit 98 rfl h30).2 ?_
          refine opSkip rfl ⟨_, rfl, .inl rfl⟩ rfl ?_
          refine opSkip rfl ⟨_, rfl, .inl rfl⟩ rfl ?_
          refine opSkip rfl ⟨_, rfl, .inl rfl⟩ rfl ?_
          refine opSkip rfl ⟨_, rfl, .inl rfl⟩ rfl ?_
          refine op0 (sp_pickT rfl rfl rfl) rfl trivial rfl rfl ?_
          refine op0 (sp_move rfl rfl) rfl trivial rfl rfl ?_
          refine opSkip rfl ⟨_, rfl, .inl rfl⟩ rfl ?_
          refine opSkip rfl ⟨_, rfl, .inl rfl⟩ rfl ?_
          refine opSkip rfl ⟨_, rfl, .inl rfl⟩ rfl ?_
          refine opSkip rfl ⟨_, rfl, .inl rfl⟩ rfl ?_
          refine op0 (sp_pickT rfl rfl rfl) rfl trivial rfl rfl ?_
          refine TL.nil ?_
          refine TC.condT rfl ?_
          refine TC.seq ?_
          refine TC.region ?_
          refine op0 (sp_assign rfl rfl) rfl trivial rfl rfl ?_
          refine TL.nil ?_
          cases h
          exact retJ [] (.tmp rfl .nil) rfl trivial rfl rfl
        · refine (boolLit 98 rfl h30).2 ?_
          refine op1 0 rfl (sp_fieldAddrB rfl isBlk rfl ft71_3 vt3 (by decide)) rfl ⟨_, rfl, rfl⟩ rfl rfl ?_
          refine op1 0 rfl (sp_loadB rfl isBlk rfl vt3 rfl) rfl ⟨_, rfl, rfl⟩ rfl rfl ?_
          obtain ⟨r24, h31, h⟩ := bind_inv h
          refine op0 (sp_call (avs := [vi x21.2.2.2.1, vi 0, vi 1000]) (need := []) (v := .val (.bool r24)) (news := []) rfl rfl rfl Tryz.call37 (atJ [] [] (fc_ref11_in h31) rfl rfl) (.inl (roAll rfl))) rfl ⟨_, rfl, rfl⟩ rfl rfl ?_
          refine op0 (sp_not rfl rfl) rfl ⟨_, rfl, rfl⟩ rfl rfl ?_
          refine op0 (sp_pickF rfl rfl rfl) rfl trivial rfl rfl ?_
          refine op0 (sp_move rfl rfl) rfl trivial rfl rfl ?_
          rcases cond_cases h with ⟨h32, h⟩ | ⟨h32, h⟩
          · refine (boolLit 104 rfl h32).2 ?_
            refine opSkip rfl ⟨_, rfl, .inl rfl⟩ rfl ?_
            refine opSkip rfl ⟨_, rfl, .inl rfl⟩ rfl ?_
            refine opSkip rfl ⟨_, rfl, .inl rfl⟩ rfl ?_
            refine opSkip rfl ⟨_, rfl, .inl rfl⟩ rfl ?_
            refine op0 (sp_pickT rfl rfl rfl) rfl trivial rfl rfl ?_
            refine TL.nil ?_
            refine TC.condT rfl ?_
            refine TC.seq ?_
            refine TC.region ?_
            refine op0 (sp_assign rfl rfl) rfl trivial rfl rfl ?_
            refine TL.nil ?_
            cases h
            exact retJ [] (.tmp rfl .nil) rfl trivial rfl rfl
          · refine (boolLit 104 rfl h32).2 ?_
            refine op1 0 rfl (sp_fieldAddrB rfl isBlk rfl ft71_4 vt3 (by decide)) rfl ⟨_, rfl, rfl⟩ rfl rfl ?_
            refine op1 0 rfl (sp_loadB rfl isBlk rfl vt3 rfl) rfl ⟨_, rfl, rfl⟩ rfl rfl ?_
            obtain ⟨r25, h33, h⟩ := bind_inv h
            refine op0 (sp_call (avs := [vi x21.2.2.2.2, vi 1, vi 30]) (need := []) (v := .val (.bool r25)) (news := []) rfl rfl rfl Tryz.call37 (atJ [] [] (fc_ref11_in h33) rfl rfl) (.inl (roAll rfl))) rfl ⟨_, rfl, rfl⟩ rfl rfl ?_
            refine op0 (sp_not rfl rfl) rfl ⟨_, rfl, rfl⟩ rfl rfl ?_
            refine op0 (sp_pickF rfl rfl rfl) rfl trivial rfl rfl ?_
            refine TL.nil ?_
            refine TC.cond (b := (!r25)) rfl (fun h34 => ?_) (fun h34 => ?_)
            · have h := cond_t h h34
              refine TC.seq ?_
              refine TC.region ?_
              refine op0 (sp_assign rfl rfl) rfl trivial rfl rfl ?_
              refine TL.nil ?_
              cases h
              exact retJ [] (.tmp rfl .nil) rfl trivial rfl rfl
            · have h := cond_f h h34
              refine TC.skip ?_
              refine TC.inBlock ?_
              refine TC.region ?_
              refine op0 (sp_move rfl rfl) rfl trivial rfl rfl ?_
              obtain ⟨h35, h⟩ := chk_inv h
              refine op0 (sp_add rfl rfl rfl h35) rfl trivial rfl rfl ?_
              refine op0 (sp_assign rfl rfl) rfl trivial rfl rfl ?_
              refine TL.nil ?_
              refine TC.inLoop ?_
              refine TC.seq ?_
              refine TC.seq ?_
              refine subJ [] (ih _ _ _ _ _ _ h) ?_ ?_ ?_
              · exact ⟨rfl, rfl, rfl, trivial⟩
              · exact ⟨mem_at 1 rfl, mem_at 2 rfl, mem_at 3 rfl, mem_at 4 rfl, trivial⟩
              · rfl
    · have h := cond_f h h24
      refine TC.exit rfl ?_
      refine TC.seq ?_
      refine TC.seq ?_
      refine TC.region ?_
      refine op0 (sp_assign rfl rfl) rfl trivial rfl rfl ?_
      refine TL.nil ?_
      refine TC.block ?_
      refine TC.loop ?_
      refine TC.seq ?_
      refine TC.seq ?_
      refine subJ [] (ok_ref11_Check_l5 _ _ _ _ _ _ _ h) ?_ ?_ ?_
      · exact ⟨rfl, rfl, rfl, trivial⟩
      · exact ⟨mem_at 0 rfl, mem_at 1 rfl, mem_at 2 rfl, mem_at 3 rfl, trivial⟩
      · rfl
def ev_ref11_Check_l2 (n : Nat) (rr1 : List (Int × Int × Int × Int × Int)) (rr2 : List ((List Int))) (rr4 : Int) (rr5 : Int) (rr3 : List (Int × Int × Int × Int)) : Nat → Int → Option Int
  | 0, _ => none
  | m + 1, i9 => cond (decide (i9 ≤ (rr1.length : Int))) (ev_ref11_Check_l3 n rr1 rr2 i9 (fun i9q => ev_ref11_Check_l2 n rr1 rr2 rr4 rr5 rr3 m i9q) n 0) (ev_ref11_Check_l4 n rr1 n 0 rr4 rr5 rr1 rr2 rr3)
theorem ok_ref11_Check_l2 {n : Nat} {w0 : World} {R0 : Nat → Prop} {env0 : Env} {r : Int} {rr1 : List (Int × Int × Int × Int × Int)} {rr4 : Int} {rr5 : Int} {rr2 : List ((List Int))} {rr3 : List (Int × Int × Int × Int)} : ∀ (m : Nat) (i9 : Int), ev_ref11_Check_l2 n rr1 rr2 rr4 rr5 rr3 m i9 = some r → TC Tryz.prog ⟨w0, fun _ => False, R0⟩ 158 (bodyPost Tryz.prog Tryz.f12 (Post ⟨w0, fun _ => False, R0⟩ env0 (vi r) [])) [.code (sub (bodyOf Tryz.f12) [1, 1, 1, 1, 1, 0, 1, 0, 0, 0, 0]), .code (sub (bodyOf Tryz.f12) [1, 1, 1, 1, 1, 0, 1, 0, 0, 0, 1]), .code (sub (bodyOf Tryz.f12) [1, 1, 1, 1, 1, 0, 1, 0, 0, 1]), .inLoop (sub (bodyOf Tryz.f12) [1, 1, 1, 1, 1, 0, 1, 0, 0]), .inBlock 2, .code (sub (bodyOf Tryz.f12) [1, 1, 1, 1, 1, 1])] ([(1, .ptr 3 0), (3, vi (rr1.length : Int)), (5, vi i9)]) ([.blk 3 [.ref 0, .ref 1, .ref 2, vi rr4, vi rr5] 26, .ro 0 5 (List.map en_api_RoundTower rr1), .ro 1 1 (List.map en_Lint rr2), .ro 2 4 (List.map en_api_RoundWinder rr3)]) := by
  intro m
  induction m with
  | zero => intro i9 h; exact none_no h
  | succ m ih =>
    intro i9 h
    rw [ev_ref11_Check_l2] at h
    refine TC.region ?_
    refine op0 (sp_move rfl rfl) rfl trivial rfl rfl ?_
    refine op0 (sp_move rfl rfl) rfl trivial rfl rfl ?_
    refine op0 (sp_leq rfl rfl rfl) rfl trivial rfl rfl ?_
    refine TL.nil ?_
    refine TC.cond (b := (decide (i9 ≤ (rr1.length : Int)))) rfl (fun h11 => ?_) (fun h11 => ?_)
    · have h := cond_t h h11
      refine TC.skip ?_
      refine TC.seq ?_
      refine TC.block ?_
      refine TC.seq ?_
      refine TC.region ?_
      refine op0 (sp_assign rfl rfl) rfl trivial rfl rfl ?_
      refine TL.nil ?_
      refine TC.block ?_
      refine TC.loop ?_
      refine TC.seq ?_
      refine TC.seq ?_
      refine subJ [] (ok_ref11_Check_l3 (rr4 := rr4) (rr5 := rr5) (rr3 := rr3) ih _ _ h) ?_ ?_ ?_
      · exact ⟨rfl, rfl, rfl, rfl, trivial⟩
      · exact ⟨mem_at 0 rfl, mem_at 1 rfl, mem_at 2 rfl, mem_at 3 rfl, trivial⟩
      · rfl
    · have h := cond_f h h11
      refine TC.exit rfl ?_
      refine TC.seq ?_
      refine TC.seq ?_
      refine TC.region ?_
      refine op0 (sp_assign rfl rfl) rfl trivial rfl rfl ?_
      refine TL.nil ?_
      refine TC.block ?_
      refine TC.loop ?_
      refine TC.seq ?_
      refine TC.seq ?_
      refine subJ [] (ok_ref11_Check_l4 _ _ _ _ _ _ _ h) ?_ ?_ ?_
      · exact ⟨rfl, rfl, rfl, trivial⟩
      · exact ⟨mem_at 0 rfl, mem_at 1 rfl, mem_at 2 rfl, mem_at 3 rfl, trivial⟩
      · rfl
def ev_ref11_Check_l1 (n : Nat) (rr1 : List (Int × Int × Int × Int × Int)) (rr2 : List ((List Int))) (rr4 : Int) (rr5 : Int) (rr3 : List (Int × Int × Int × Int)) : Nat → Int → Option Int
  | 0, _ => none
  | m + 1, i6 => cond (decide (i6 ≤ (rr1.length : Int))) (idx rr2 i6 fun x7 => chk (in64 ((rr1.length : Int) + 1)) <| cond ((x7.length : Int) != ((rr1.length : Int) + 1)) (some 4) (chk (in64 (i6 + 1)) <| ev_ref11_Check_l1 n rr1 rr2 rr4 rr5 rr3 m (i6 + 1))) (ev_ref11_Check_l2 n rr1 rr2 rr4 rr5 rr3 n 0)
theorem ok_ref11_Check_l1 {n : Nat} {w0 : World} {R0 : Nat → Prop} {env0 : Env} {r : Int} {rr1 : List (Int × Int × Int × Int × Int)} {rr4 : Int} {rr5 : Int} {rr2 : List ((List Int))} {rr3 : List (Int × Int × Int × Int)} : ∀ (m : Nat) (i6 : Int), ev_ref11_Check_l1 n rr1 rr2 rr4 rr5 rr3 m i6 = some r → TC Tryz.prog ⟨w0, fun _ => False, R0⟩ 158 (bodyPost Tryz.prog Tryz.f12 (Post ⟨w0, fun _ => False, R0⟩ env0 (vi r) [])) [.code (sub (bodyOf Tryz.f12) [1, 1, 1, 1, 0, 1, 0, 0, 0, 0]), .code (sub (bodyOf Tryz.f12) [1, 1, 1, 1, 0, 1, 0, 0, 0, 1]), .code (sub (bodyOf Tryz.f12) [1, 1, 1, 1, 0, 1, 0, 0, 1]), .inLoop (sub (bodyOf Tryz.f12) [1, 1, 1, 1, 0, 1, 0, 0]), .inBlock 0, .code (sub (bodyOf Tryz.f12) [1, 1, 1, 1, 1])] ([(1, .ptr 3 0), (3, vi (rr1.length : Int)), (4, vi i6)]) ([.blk 3 [.ref 0, .ref 1, .ref 2, vi rr4, vi rr5] 26, .ro 0 5 (List.map en_api_RoundTower rr1), .ro 1 1 (List.map en_Lint rr2), .ro 2 4 (List.map en_api_RoundWinder rr3)]) := by
  intro m
  induction m with
  | zero => intro i6 h; exact none_no h
  | succ m ih =>
    intro i6 h
    rw [ev_ref11_Check_l1] at h
    refine TC.region ?_
    refine op0 (sp_move rfl rfl) rfl trivial rfl rfl ?_
    refine op0 (sp_move rfl rfl) rfl trivial rfl rfl ?_
    refine op0 (sp_leq rfl rfl rfl) rfl trivial rfl rfl ?_
    refine TL.nil ?_
    refine TC.cond (b := (decide (i6 ≤ (rr1.length : Int)))) rfl (fun h5 => ?_) (fun h5 => ?_)
    · have h := cond_t h h5
      refine TC.skip ?_
      refine TC.seq ?_
      refine TC.block ?_
      refine TC.seq ?_
      refine TC.region ?_
      refine op1 0 rfl (sp_fieldAddrB rfl isBlk rfl ft26_1 vt23 (by decide)) rfl trivial rfl rfl ?_
      refine op1 0 rfl (sp_loadB rfl isBlk rfl vt23 rfl) rfl trivial rfl rfl ?_
      refine op0 (sp_move rfl rfl) rfl trivial rfl rfl ?_
      obtain ⟨x7, h6, h7, h⟩ := idx_inv h
      refine op1 2 rfl (sp_indexS rfl rfl rfl isRo sl23 h6 (map_get _ h7)) rfl trivial rfl rfl ?_
      refine op1 2 rfl (sp_loadR (i := (i6 : Int).toNat) (j := 0) (ns := [.ro 4 1 (List.map en_int x7)]) rfl rfl isRo vt27 rfl (map_get _ h7) rfl (.s (.nil)) (nodup_of_B rfl)) rfl trivial rfl rfl ?_
      refine op1 0 rfl (sp_lenM (N := x7.length) (len_map _ _) rfl rfl isRo Tryz.underlying27) rfl trivial rfl rfl ?_
      refine op0 (sp_move rfl rfl) rfl trivial rfl rfl ?_
      obtain ⟨h8, h⟩ := chk_inv h
      refine op0 (sp_add rfl rfl rfl h8) rfl trivial rfl rfl ?_
      refine op0 (sp_neq rfl rfl rfl) rfl trivial rfl rfl ?_
      refine TL.nil ?_
      refine TC.cond (b := ((x7.length : Int) != ((rr1.length : Int) + 1))) rfl (fun h9 => ?_) (fun h9 => ?_)
      · have h := cond_t h h9
        refine TC.seq ?_
        refine TC.region ?_
        refine op0 (sp_assign rfl rfl) rfl trivial rfl rfl ?_
        refine TL.nil ?_
        cases h
        exact retJ [] (.tmp rfl .nil) rfl trivial rfl rfl
      · have h := cond_f h h9
        refine TC.skip ?_
        refine TC.inBlock ?_
        refine TC.region ?_
        refine op0 (sp_move rfl rfl) rfl trivial rfl rfl ?_
        obtain ⟨h10, h⟩ := chk_inv h
        refine op0 (sp_add rfl rfl rfl h10) rfl trivial rfl rfl ?_
        refine op0 (sp_assign rfl rfl) rfl trivial rfl rfl ?_
        refine TL.nil ?_
        refine TC.inLoop ?_
        refine TC.seq ?_
        refine TC.seq ?_
        refine subJ [] (ih _ h) ?_ ?_ ?_
        · exact ⟨rfl, rfl, rfl, trivial⟩
        · exact ⟨mem_at 1 rfl, mem_at 2 rfl, mem_at 3 rfl, mem_at 4 rfl, trivial⟩
        · rfl
    · have h := cond_f h h5
      refine TC.exit rfl ?_
      refine TC.seq ?_
      refine TC.seq ?_
      refine TC.region ?_
      refine op0 (sp_assign rfl rfl) rfl trivial rfl rfl ?_
      refine TL.nil ?_
      refine TC.block ?_
      refine TC.loop ?_
      refine TC.seq ?_
      refine TC.seq ?_
      refine subJ [] (ok_ref11_Check_l2 _ _ h) ?_ ?_ ?_
      · exact ⟨rfl, rfl, rfl, trivial⟩
      · exact ⟨mem_at 0 rfl, mem_at 1 rfl, mem_at 2 rfl, mem_at 3 rfl, trivial⟩
      · rfl
def ev_ref11_Check_j0 (n : Nat) (rr1 : List (Int × Int × Int × Int × Int)) (rr2 : List ((List Int))) (rr4 : Int) (rr5 : Int) (rr3 : List (Int × Int × Int × Int)) : Option Int :=
  chk (in64 ((rr1.length : Int) + 1)) <| cond ((rr2.length : Int) != ((rr1.length : Int) + 1)) (some 4) (ev_ref11_Check_l1 n rr1 rr2 rr4 rr5 rr3 n 0)
theorem ok_ref11_Check_j0 {n : Nat} {w0 : World} {R0 : Nat → Prop} {env0 : Env} {r : Int} {rr1 : List (Int × Int × Int × Int × Int)} {rr4 : Int} {rr5 : Int} {rr2 : List ((List Int))} {rr3 : List (Int × Int × Int × Int)} (h : ev_ref11_Check_j0 n rr1 rr2 rr4 rr5 rr3 = some r) : TC Tryz.prog ⟨w0, fun _ => False, R0⟩ 158 (bodyPost Tryz.prog Tryz.f12 (Post ⟨w0, fun _ => False, R0⟩ env0 (vi r) [])) [.code (sub (bodyOf Tryz.f12) [1, 1, 0, 1, 1]), .code (sub (bodyOf Tryz.f12) [1, 1, 1])] ([(1, .ptr 3 0), (3, vi (rr1.length : Int))]) ([.blk 3 [.ref 0, .ref 1, .ref 2, vi rr4, vi rr5] 26, .ro 0 5 (List.map en_api_RoundTower rr1), .ro 1 1 (List.map en_Lint rr2), .ro 2 4 (List.map en_api_RoundWinder rr3)]) := by
  rw [ev_ref11_Check_j0] at h
  refine TC.skip ?_
  refine TC.seq ?_
  refine TC.seq ?_
  refine TC.region ?_
  refine op1 0 rfl (sp_fieldAddrB rfl isBlk rfl ft26_1 vt23 (by decide)) rfl trivial rfl rfl ?_
  refine op1 0 rfl (sp_loadB rfl isBlk rfl vt23 rfl) rfl trivial rfl rfl ?_
  refine op1 2 rfl (sp_lenM (N := rr2.length) (len_map _ _) rfl rfl isRo Tryz.underlying23) rfl trivial rfl rfl ?_
  refine op0 (sp_move rfl rfl) rfl trivial rfl rfl ?_
  obtain ⟨h3, h⟩ := chk_inv h
  refine op0 (sp_add rfl rfl rfl h3) rfl trivial rfl rfl ?_
  refine op0 (sp_neq rfl rfl rfl) rfl trivial rfl rfl ?_
  refine TL.nil ?_
  refine TC.cond (b := ((rr2.length : Int) != ((rr1.length : Int) + 1))) rfl (fun h4 => ?_) (fun h4 => ?_)
  · have h := cond_t h h4
    refine TC.seq ?_
    refine TC.region ?_
    refine op0 (sp_assign rfl rfl) rfl trivial rfl rfl ?_
    refine TL.nil ?_
    cases h
    exact retJ [] (.tmp rfl .nil) rfl trivial rfl rfl
  · have h := cond_f h h4
    refine TC.skip ?_
    refine TC.seq ?_
    refine TC.seq ?_
    refine TC.region ?_
    refine op0 (sp_assign rfl rfl) rfl trivial rfl rfl ?_
    refine TL.nil ?_
    refine TC.block ?_
    refine TC.loop ?_
    refine TC.seq ?_
    refine TC.seq ?_
    refine subJ [] (ok_ref11_Check_l1 _ _ h) ?_ ?_ ?_
    · exact ⟨rfl, rfl, rfl, trivial⟩
    · exact ⟨mem_at 0 rfl, mem_at 1 rfl, mem_at 2 rfl, mem_at 3 rfl, trivial⟩
    · rfl
def ev_ref11_Check (n : Nat) (rr1 : List (Int × Int × Int × Int × Int)) (rr2 : List ((List Int))) (rr3 : List (Int × Int × Int × Int)) (rr4 : Int) (rr5 : Int) : Option Int :=
  cond (decide ((8 : Int) < (rr1.length : Int))) (some 5) (cond (decide ((4 : Int) < (rr3.length : Int))) (some 5) (ev_ref11_Check_j0 n rr1 rr2 rr4 rr5 rr3))
theorem fc_ref11_Check {n : Nat} {rr1 : List (Int × Int × Int × Int × Int)} {rr2 : List ((List Int))} {rr3 : List (Int × Int × Int × Int)} {rr4 : Int} {rr5 : Int} {r : Int} (h : ev_ref11_Check n rr1 rr2 rr3 rr4 rr5 = some r) : FC Tryz.prog 12 [.agg [.ref 0, .ref 1, .ref 2, vi rr4, vi rr5]] [.ro 0 5 (List.map en_api_RoundTower rr1), .ro 1 1 (List.map en_Lint rr2), .ro 2 4 (List.map en_api_RoundWinder rr3)] (vi r) [] := by
  refine introJ (nz := 158) Tryz.func12 rfl rfl rfl (fun w0 R0 env0 => ?_)
  rw [ev_ref11_Check] at h
  refine TC.seq ?_
  refine TC.region ?_
  refine op0 (sp_box 3 rfl rfl rfl rfl rfl) rfl trivial rfl rfl ?_
  refine op0 (sp_assign rfl rfl) rfl trivial rfl rfl ?_
  refine TL.nil ?_
  refine TC.seq ?_
  refine TC.region ?_
  refine op1 0 rfl (sp_fieldAddrB rfl isBlk rfl ft26_0 vt22 (by decide)) rfl trivial rfl rfl ?_
  refine op1 0 rfl (sp_loadB rfl isBlk rfl vt22 rfl) rfl trivial rfl rfl ?_
  refine op1 1 rfl (sp_lenM (N := rr1.length) (len_map _ _) rfl rfl isRo Tryz.underlying22) rfl trivial rfl rfl ?_
  refine op0 (sp_assign rfl rfl) rfl trivial rfl rfl ?_
  refine TL.nil ?_
  refine TC.seq ?_
  refine TC.seq ?_
  refine TC.region ?_
  refine op0 (sp_move rfl rfl) rfl trivial rfl rfl ?_
  refine op0 (sp_gtr rfl rfl rfl) rfl trivial rfl rfl ?_
  refine op0 (sp_move rfl rfl) rfl trivial rfl rfl ?_
  rcases cond_cases h with ⟨h1, h⟩ | ⟨h1, h⟩
  · refine (boolLit 16 rfl h1).2 ?_
    refine opSkip rfl ⟨_, rfl, .inl rfl⟩ rfl ?_
    refine opSkip rfl ⟨_, rfl, .inl rfl⟩ rfl ?_
    refine opSkip rfl ⟨_, rfl, .inl rfl⟩ rfl ?_
    refine opSkip rfl ⟨_, rfl, .inl rfl⟩ rfl ?_
    refine op0 (sp_pickT rfl rfl rfl) rfl trivial rfl rfl ?_
    refine TL.nil ?_
    refine TC.condT rfl ?_
    refine TC.seq ?_
    refine TC.region ?_
    refine op0 (sp_assign rfl rfl) rfl trivial rfl rfl ?_
    refine TL.nil ?_
    cases h
    exact retJ [] (.tmp rfl .nil) rfl trivial rfl rfl
  · refine (boolLit 16 rfl h1).2 ?_
    refine op1 0 rfl (sp_fieldAddrB rfl isBlk rfl ft26_2 vt24 (by decide)) rfl ⟨_, rfl, rfl⟩ rfl rfl ?_
    refine op1 0 rfl (sp_loadB rfl isBlk rfl vt24 rfl) rfl ⟨_, rfl, rfl⟩ rfl rfl ?_
    refine op1 3 rfl (sp_lenM (N := rr3.length) (len_map _ _) rfl rfl isRo Tryz.underlying24) rfl ⟨_, rfl, rfl⟩ rfl rfl ?_
    refine op0 (sp_gtr rfl rfl rfl) rfl ⟨_, rfl, rfl⟩ rfl rfl ?_
    refine op0 (sp_pickF rfl rfl rfl) rfl trivial rfl rfl ?_
    refine TL.nil ?_
    refine TC.cond (b := (decide ((4 : Int) < (rr3.length : Int)))) rfl (fun h2 => ?_) (fun h2 => ?_)
    · have h := cond_t h h2
      refine TC.seq ?_
      refine TC.region ?_
      refine op0 (sp_assign rfl rfl) rfl trivial rfl rfl ?_
      refine TL.nil ?_
      cases h
      exact retJ [] (.tmp rfl .nil) rfl trivial rfl rfl
    · have h := cond_f h h2
      refine subJ [] (ok_ref11_Check_j0 h) ?_ ?_ ?_
      · exact ⟨rfl, rfl, trivial⟩
      · exact ⟨mem_at 0 rfl, mem_at 1 rfl, mem_at 2 rfl, mem_at 3 rfl, trivial⟩
      · rfl
def ev_ref11_Begin (n : Nat) (rr1 : List (Int × Int × Int × Int × Int)) (rr2 : List ((List Int))) (rr3 : List (Int × Int × Int × Int)) (rr4 : Int) (rr5 : Int) : Option (Int × Bool × Bool × Bool × Bool × Bool × Bool × Bool × Bool × Int × Int × Int) :=
  some ((rr1.length : Int), false, false, false, false, false, false, false, false, 0, 0, 0)
theorem fc_ref11_Begin {n : Nat} {rr1 : List (Int × Int × Int × Int × Int)} {rr2 : List ((List Int))} {rr3 : List (Int × Int × Int × Int)} {rr4 : Int} {rr5 : Int} {r : Int × Bool × Bool × Bool × Bool × Bool × Bool × Bool × Bool × Int × Int × Int} (h : ev_ref11_Begin n rr1 rr2 rr3 rr4 rr5 = some r) : FC Tryz.prog 39 [.agg [.ref 0, .ref 1, .ref 2, vi rr4, vi rr5]] [.ro 0 5 (List.map en_api_RoundTower rr1), .ro 1 1 (List.map en_Lint rr2), .ro 2 4 (List.map en_api_RoundWinder rr3)] (.agg [vi r.1, .val (.bool r.2.1), .val (.bool r.2.2.1), .val (.bool r.2.2.2.1), .val (.bool r.2.2.2.2.1), .val (.bool r.2.2.2.2.2.1), .val (.bool r.2.2.2.2.2.2.1), .val (.bool r.2.2.2.2.2.2.2.1), .val (.bool r.2.2.2.2.2.2.2.2.1), vi r.2.2.2.2.2.2.2.2.2.1, vi r.2.2.2.2.2.2.2.2.2.2.1, vi r.2.2.2.2.2.2.2.2.2.2.2]) [] := by
  refine introJ (nz := 7) Tryz.func39 rfl rfl rfl (fun w0 R0 env0 => ?_)
  rw [ev_ref11_Begin] at h
  refine TC.seq ?_
  refine TC.region ?_
  refine op0 (sp_box 3 rfl rfl rfl rfl rfl) rfl trivial rfl rfl ?_
  refine op0 (sp_alloc 4 rfl Tryz.zeroValue87 rfl) rfl trivial rfl rfl ?_
  refine TL.nil ?_
  refine TC.seq ?_
  refine TC.region ?_
  refine op1 1 rfl (sp_fieldAddrB rfl isBlk rfl ft26_0 vt22 (by decide)) rfl trivial rfl rfl ?_
  refine op1 1 rfl (sp_loadB rfl isBlk rfl vt22 rfl) rfl trivial rfl rfl ?_
  refine op1 2 rfl (sp_lenM (N := rr1.length) (len_map _ _) rfl rfl isRo Tryz.underlying22) rfl trivial rfl rfl ?_
  refine op0 (sp_build (qs := [(0, vi (rr1.length : Int))]) rfl bt87 rfl rfl rfl rfl) rfl trivial rfl rfl ?_
  refine stoB 0 (cells' := [vi (rr1.length : Int), .val (.bool false), .val (.bool false), .val (.bool false), .val (.bool false), .val (.bool false), .val (.bool false), .val (.bool false), .val (.bool false), vi 0, vi 0, vi 0]) rfl rfl trivial rfl rfl rfl rfl vt87 rfl rfl rfl ?_
  refine TL.nil ?_
  cases h
  exact retJ [] (.cells rfl (mem_at 0 rfl) isBlk vt87 rfl rfl (.nil)) rfl trivial rfl rfl
def ev_ref11_On_work (n : Nat) (o1 : Int) (o2 : Bool) (o3 : Bool) (o4 : Bool) (o5 : Bool) (o6 : Bool) (o7 : Bool) (o8 : Bool) (o9 : Bool) (o10 : Int) (o11 : Int) (o12 : Int) (w13 : Int) (w14 : Int) (w15 : Int) (w16 : Int) (minutes17 : Int) : Option (Int × Bool × Bool × Bool × Bool × Bool × Bool × Bool × Bool × Int × Int × Int × Int) :=
  chk (in64 (o11 + minutes17)) <| chk (in64 (o12 + minutes17)) <| cond (decide (w16 < (o11 + minutes17))) (some (o1, o2, o3, o4, o5, o6, o7, o8, o9, o10, (o11 + minutes17), (o12 + minutes17), 111)) (cond (decide (w15 < (o12 + minutes17))) (some (o1, o2, o3, o4, o5, o6, o7, o8, o9, o10, (o11 + minutes17), (o12 + minutes17), 110)) (some (o1, o2, o3, o4, o5, o6, o7, o8, o9, o10, (o11 + minutes17), (o12 + minutes17), 0)))
theorem fc_ref11_On_work {n : Nat} {o1 : Int} {o2 : Bool} {o3 : Bool} {o4 : Bool} {o5 : Bool} {o6 : Bool} {o7 : Bool} {o8 : Bool} {o9 : Bool} {o10 : Int} {o11 : Int} {o12 : Int} {w13 : Int} {w14 : Int} {w15 : Int} {w16 : Int} {minutes17 : Int} {r : Int × Bool × Bool × Bool × Bool × Bool × Bool × Bool × Bool × Int × Int × Int × Int} (h : ev_ref11_On_work n o1 o2 o3 o4 o5 o6 o7 o8 o9 o10 o11 o12 w13 w14 w15 w16 minutes17 = some r) : FC Tryz.prog 64 [.agg [vi o1, .val (.bool o2), .val (.bool o3), .val (.bool o4), .val (.bool o5), .val (.bool o6), .val (.bool o7), .val (.bool o8), .val (.bool o9), vi o10, vi o11, vi o12], .agg [.val (.int .u16 w13), vi w14, vi w15, vi w16], vi minutes17] [] (.tup [.agg [vi r.1, .val (.bool r.2.1), .val (.bool r.2.2.1), .val (.bool r.2.2.2.1), .val (.bool r.2.2.2.2.1), .val (.bool r.2.2.2.2.2.1), .val (.bool r.2.2.2.2.2.2.1), .val (.bool r.2.2.2.2.2.2.2.1), .val (.bool r.2.2.2.2.2.2.2.2.1), vi r.2.2.2.2.2.2.2.2.2.1, vi r.2.2.2.2.2.2.2.2.2.2.1, vi r.2.2.2.2.2.2.2.2.2.2.2.1], vi r.2.2.2.2.2.2.2.2.2.2.2.2]) [] := by
  refine introJ (nz := 31) Tryz.func64 rfl rfl rfl (fun w0 R0 env0 => ?_)
  rw [ev_ref11_On_work] at h
  refine TC.seq ?_
  refine TC.region ?_
  refine op0 (sp_box 0 rfl rfl rfl rfl rfl) rfl trivial rfl rfl ?_
  refine op0 (sp_box 1 rfl rfl rfl rfl rfl) rfl trivial rfl rfl ?_
  refine op0 (sp_alloc 2 rfl Tryz.zeroValue87 rfl) rfl trivial rfl rfl ?_
  refine op0 (sp_assign rfl rfl) rfl trivial rfl rfl ?_
  refine TL.nil ?_
  refine TC.seq ?_
  refine TC.region ?_
  refine op1 2 rfl (sp_fieldAddrB rfl isBlk rfl ft87_3 vt3 (by decide)) rfl trivial rfl rfl ?_
  refine op1 2 rfl (sp_loadB rfl isBlk rfl vt3 rfl) rfl trivial rfl rfl ?_
  refine op0 (sp_move rfl rfl) rfl trivial rfl rfl ?_
  obtain ⟨h1, h⟩ := chk_inv h
  refine op0 (sp_add rfl rfl rfl h1) rfl trivial rfl rfl ?_
  refine op1 2 rfl (sp_fieldAddrB rfl isBlk rfl ft87_4 vt3 (by decide)) rfl trivial rfl rfl ?_
  refine op1 2 rfl (sp_loadB rfl isBlk rfl vt3 rfl) rfl trivial rfl rfl ?_
  refine op0 (sp_move rfl rfl) rfl trivial rfl rfl ?_
  obtain ⟨h2, h⟩ := chk_inv h
  refine op0 (sp_add rfl rfl rfl h2) rfl trivial rfl rfl ?_
  refine op1 2 rfl (sp_fieldAddrB rfl isBlk rfl ft87_3 vt3 (by decide)) rfl trivial rfl rfl ?_
  refine stoB 2 (cells' := [vi o1, .val (.bool o2), .val (.bool o3), .val (.bool o4), .val (.bool o5), .val (.bool o6), .val (.bool o7), .val (.bool o8), .val (.bool o9), vi o10, vi (o11 + minutes17), vi o12]) rfl rfl trivial rfl rfl rfl rfl vt3 rfl rfl rfl ?_
  refine op1 2 rfl (sp_fieldAddrB rfl isBlk rfl ft87_4 vt3 (by decide)) rfl trivial rfl rfl ?_
  refine stoB 2 (cells' := [vi o1, .val (.bool o2), .val (.bool o3), .val (.bool o4), .val (.bool o5), .val (.bool o6), .val (.bool o7), .val (.bool o8), .val (.bool o9), vi o10, vi (o11 + minutes17), vi (o12 + minutes17)]) rfl rfl trivial rfl rfl rfl rfl vt3 rfl rfl rfl ?_
  refine TL.nil ?_
  refine TC.seq ?_
  refine TC.seq ?_
  refine TC.region ?_
  refine op1 2 rfl (sp_fieldAddrB rfl isBlk rfl ft87_3 vt3 (by decide)) rfl trivial rfl rfl ?_
  refine op1 2 rfl (sp_loadB rfl isBlk rfl vt3 rfl) rfl trivial rfl rfl ?_
  refine op1 1 rfl (sp_fieldAddrB rfl isBlk rfl ft50_3 vt3 (by decide)) rfl trivial rfl rfl ?_
  refine op1 1 rfl (sp_loadB rfl isBlk rfl vt3 rfl) rfl trivial rfl rfl ?_
  refine op0 (sp_gtr rfl rfl rfl) rfl trivial rfl rfl ?_
  refine TL.nil ?_
  refine TC.cond (b := (decide (w16 < (o11 + minutes17)))) rfl (fun h3 => ?_) (fun h3 => ?_)
  · have h := cond_t h h3
    refine TC.seq ?_
    refine TC.region ?_
    refine op1 2 rfl (sp_loadBA rfl isBlk rfl vt87 rfl rfl) rfl trivial rfl rfl ?_
    refine stoB 0 (cells' := [vi o1, .val (.bool o2), .val (.bool o3), .val (.bool o4), .val (.bool o5), .val (.bool o6), .val (.bool o7), .val (.bool o8), .val (.bool o9), vi o10, vi (o11 + minutes17), vi (o12 + minutes17)]) rfl rfl trivial rfl rfl rfl rfl vt87 rfl rfl rfl ?_
    refine op0 (sp_assign rfl rfl) rfl trivial rfl rfl ?_
    refine TL.nil ?_
    cases h
    exact retJ [] (.cells rfl (mem_at 0 rfl) isBlk vt87 rfl rfl (.tmp rfl .nil)) rfl trivial rfl rfl
  · have h := cond_f h h3
    refine TC.skip ?_
    refine TC.seq ?_
    refine TC.seq ?_
    refine TC.region ?_
    refine op1 2 rfl (sp_fieldAddrB rfl isBlk rfl ft87_4 vt3 (by decide)) rfl trivial rfl rfl ?_
    refine op1 2 rfl (sp_loadB rfl isBlk rfl vt3 rfl) rfl trivial rfl rfl ?_
    refine op1 1 rfl (sp_fieldAddrB rfl isBlk rfl ft50_2 vt3 (by decide)) rfl trivial rfl rfl ?_
    refine op1 1 rfl (sp_loadB rfl isBlk rfl vt3 rfl) rfl trivial rfl rfl ?_
    refine op0 (sp_gtr rfl rfl rfl) rfl trivial rfl rfl ?_
    refine TL.nil ?_
    refine TC.cond (b := (decide (w15 < (o12 + minutes17)))) rfl (fun h4 => ?_) (fun h4 => ?_)
    · have h := cond_t h h4
      refine TC.seq ?_
      refine TC.region ?_
      refine op1 2 rfl (sp_loadBA rfl isBlk rfl vt87 rfl rfl) rfl trivial rfl rfl ?_
      refine stoB 0 (cells' := [vi o1, .val (.bool o2), .val (.bool o3), .val (.bool o4), .val (.bool o5), .val (.bool o6), .val (.bool o7), .val (.bool o8), .val (.bool o9), vi o10, vi (o11 + minutes17), vi (o12 + minutes17)]) rfl rfl trivial rfl rfl rfl rfl vt87 rfl rfl rfl ?_
      refine op0 (sp_assign rfl rfl) rfl trivial rfl rfl ?_
      refine TL.nil ?_
      cases h
      exact retJ [] (.cells rfl (mem_at 0 rfl) isBlk vt87 rfl rfl (.tmp rfl .nil)) rfl trivial rfl rfl
    · have h := cond_f h h4
      refine TC.skip ?_
      refine TC.seq ?_
      refine TC.region ?_
      refine op1 2 rfl (sp_loadBA rfl isBlk rfl vt87 rfl rfl) rfl trivial rfl rfl ?_
      refine stoB 0 (cells' := [vi o1, .val (.bool o2), .val (.bool o3), .val (.bool o4), .val (.bool o5), .val (.bool o6), .val (.bool o7), .val (.bool o8), .val (.bool o9), vi o10, vi (o11 + minutes17), vi (o12 + minutes17)]) rfl rfl trivial rfl rfl rfl rfl vt87 rfl rfl rfl ?_
      refine op0 (sp_assign rfl rfl) rfl trivial rfl rfl ?_
      refine TL.nil ?_
      cases h
      exact retJ [] (.cells rfl (mem_at 0 rfl) isBlk vt87 rfl rfl (.tmp rfl .nil)) rfl trivial rfl rfl
def ev_ref11_Step (n : Nat) (rr1 : List (Int × Int × Int × Int × Int)) (rr2 : List ((List Int))) (rr3 : List (Int × Int × Int × Int)) (rr4 : Int) (rr5 : Int) (w6 : Int) (w7 : Int) (w8 : Int) (w9 : Int) (o10 : Int) (o11 : Bool) (o12 : Bool) (o13 : Bool) (o14 : Bool) (o15 : Bool) (o16 : Bool) (o17 : Bool) (o18 : Bool) (o19 : Int) (o20 : Int) (o21 : Int) (step22 : Int) : Option (Int × Bool × Bool × Bool × Bool × Bool × Bool × Bool × Bool × Int × Int × Int × Int) :=
  chk (in64 ((rr1.length : Int) - 1)) <| (ev_ref11_in n step22 (-1) ((rr1.length : Int) - 1)).bind fun r23 => cond (!r23) (some (o10, o11, o12, o13, o14, o15, o16, o17, o18, o19, o20, o21, 2)) (cond (step22 == (-1)) (chk (in64 (o21 + rr4)) <| cond (decide (w8 < (o21 + rr4))) (some (o10, o11, o12, o13, o14, o15, o16, o17, o18, o19, 0, (o21 + rr4), 110)) (some (o10, o11, o12, o13, o14, o15, o16, o17, o18, o19, 0, (o21 + rr4), 0))) (idx rr1 step22 fun x24 => chk (decide (0 ≤ step22) && decide (step22 < 8)) <| idx ([o11, o12, o13, o14, o15, o16, o17, o18] : List Bool) step22 fun x25 => cond x25 (some (o10, o11, o12, o13, o14, o15, o16, o17, o18, o19, o20, o21, 6)) (cond ((bitK .u16 .andNot x24.2.2.1 w6) != 0) (some (o10, o11, o12, o13, o14, o15, o16, o17, o18, o19, o20, o21, 112)) (chk (in64 (o19 + x24.2.2.2.1)) <| cond (decide (w7 < (o19 + x24.2.2.2.1))) (some (o10, o11, o12, o13, o14, o15, o16, o17, o18, (o19 + x24.2.2.2.1), o20, o21, 113)) (idx rr2 o10 fun x26 => idx x26 step22 fun x27 => chk (decide (0 ≤ step22) && decide (step22 < 8)) <| idx ([o11, o12, o13, o14, o15, o16, o17, o18] : List Bool) step22 fun x28 => chk (in64 (x27 + x24.1)) <| chk (in64 ((x27 + x24.1) + x24.2.1)) <| (ev_ref11_On_work n step22 (cond ((step22).toNat == 0) true o11) (cond ((step22).toNat == 1) true o12) (cond ((step22).toNat == 2) true o13) (cond ((step22).toNat == 3) true o14) (cond ((step22).toNat == 4) true o15) (cond ((step22).toNat == 5) true o16) (cond ((step22).toNat == 6) true o17) (cond ((step22).toNat == 7) true o18) (o19 + x24.2.2.2.1) o20 o21 w6 w7 w8 w9 ((x27 + x24.1) + x24.2.1)).bind fun r29 => some (r29.1, r29.2.1, r29.2.2.1, r29.2.2.2.1, r29.2.2.2.2.1, r29.2.2.2.2.2.1, r29.2.2.2.2.2.2.1, r29.2.2.2.2.2.2.2.1, r29.2.2.2.2.2.2.2.2.1, r29.2.2.2.2.2.2.2.2.2.1, r29.2.2.2.2.2.2.2.2.2.2.1, r29.2.2.2.2.2.2.2.2.2.2.2.1, r29.2.2.2.2.2.2.2.2.2.2.2.2))))))
theorem fc_ref11_Step {n : Nat} {rr1 : List (Int × Int × Int × Int × Int)} {rr2 : List ((List Int))} {rr3 : List (Int × Int × Int × Int)} {rr4 : Int} {rr5 : Int} {w6 : Int} {w7 : Int} {w8 : Int} {w9 : Int} {o10 : Int} {o11 : Bool} {o12 : Bool} {o13 : Bool} {o14 : Bool} {o15 : Bool} {o16 : Bool} {o17 : Bool} {o18 : Bool} {o19 : Int} {o20 : Int} {o21 : Int} {step22 : Int} {r : Int × Bool × Bool × Bool × Bool × Bool × Bool × Bool × Bool × Int × Int × Int × Int} (h : ev_ref11_Step n rr1 rr2 rr3 rr4 rr5 w6 w7 w8 w9 o10 o11 o12 o13 o14 o15 o16 o17 o18 o19 o20 o21 step22 = some r) : FC Tryz.prog 40 [.agg [.ref 0, .ref 1, .ref 2, vi rr4, vi rr5], .agg [.val (.int .u16 w6), vi w7, vi w8, vi w9], .agg [vi o10, .val (.bool o11), .val (.bool o12), .val (.bool o13), .val (.bool o14), .val (.bool o15), .val (.bool o16), .val (.bool o17), .val (.bool o18), vi o19, vi o20, vi o21], vi step22] [.ro 0 5 (List.map en_api_RoundTower rr1), .ro 1 1 (List.map en_Lint rr2), .ro 2 4 (List.map en_api_RoundWinder rr3)] (.tup [.agg [vi r.1, .val (.bool r.2.1), .val (.bool r.2.2.1), .val (.bool r.2.2.2.1), .val (.bool r.2.2.2.2.1), .val (.bool r.2.2.2.2.2.1), .val (.bool r.2.2.2.2.2.2.1), .val (.bool r.2.2.2.2.2.2.2.1), .val (.bool r.2.2.2.2.2.2.2.2.1), vi r.2.2.2.2.2.2.2.2.2.1, vi r.2.2.2.2.2.2.2.2.2.2.1, vi r.2.2.2.2.2.2.2.2.2.2.2.1], vi r.2.2.2.2.2.2.2.2.2.2.2.2]) [] := by
  refine introJ (nz := 91) Tryz.func40 rfl rfl rfl (fun w0 R0 env0 => ?_)
  rw [ev_ref11_Step] at h
  refine TC.seq ?_
  refine TC.region ?_
  refine op0 (sp_box 3 rfl rfl rfl rfl rfl) rfl trivial rfl rfl ?_
  refine op0 (sp_box 4 rfl rfl rfl rfl rfl) rfl trivial rfl rfl ?_
  refine op0 (sp_box 5 rfl rfl rfl rfl rfl) rfl trivial rfl rfl ?_
  refine op0 (sp_alloc 6 rfl Tryz.zeroValue87 rfl) rfl trivial rfl rfl ?_
  refine op0 (sp_assign rfl rfl) rfl trivial rfl rfl ?_
  refine TL.nil ?_
  refine TC.seq ?_
  refine TC.seq ?_
  refine TC.region ?_
  refine op0 (sp_move rfl rfl) rfl trivial rfl rfl ?_
  refine op1 3 rfl (sp_fieldAddrB rfl isBlk rfl ft26_0 vt22 (by decide)) rfl trivial rfl rfl ?_
  refine op1 3 rfl (sp_loadB rfl isBlk rfl vt22 rfl) rfl trivial rfl rfl ?_
  refine op1 4 rfl (sp_lenM (N := rr1.length) (len_map _ _) rfl rfl isRo Tryz.underlying22) rfl trivial rfl rfl ?_
  obtain ⟨h1, h⟩ := chk_inv h
  refine op0 (sp_sub rfl rfl rfl h1) rfl trivial rfl rfl ?_
  obtain ⟨r23, h2, h⟩ := bind_inv h
  refine op0 (sp_call (avs := [vi step22, vi (-1), vi ((rr1.length : Int) - 1)]) (need := []) (v := .val (.bool r23)) (news := []) rfl rfl rfl Tryz.call37 (atJ [] [] (fc_ref11_in h2) rfl rfl) (.inl (roAll rfl))) rfl trivial rfl rfl ?_
  refine op0 (sp_not rfl rfl) rfl trivial rfl rfl ?_
  refine TL.nil ?_
  refine TC.cond (b := (!r23)) rfl (fun h3 => ?_) (fun h3 => ?_)
  · have h := cond_t h h3
    refine TC.seq ?_
    refine TC.region ?_
    refine op1 1 rfl (sp_loadBA rfl isBlk rfl vt87 rfl rfl) rfl trivial rfl rfl ?_
    refine stoB 0 (cells' := [vi o10, .val (.bool o11), .val (.bool o12), .val (.bool o13), .val (.bool o14), .val (.bool o15), .val (.bool o16), .val (.bool o17), .val (.bool o18), vi o19, vi o20, vi o21]) rfl rfl trivial rfl rfl rfl rfl vt87 rfl rfl rfl ?_
    refine op0 (sp_assign rfl rfl) rfl trivial rfl rfl ?_
    refine TL.nil ?_
    cases h
    exact retJ [] (.cells rfl (mem_at 0 rfl) isBlk vt87 rfl rfl (.tmp rfl .nil)) rfl trivial rfl rfl
  · have h := cond_f h h3
    refine TC.skip ?_
    refine TC.seq ?_
    refine TC.seq ?_
    refine TC.region ?_
    refine op0 (sp_move rfl rfl) rfl trivial rfl rfl ?_
    refine op0 (sp_eql rfl rfl rfl) rfl trivial rfl rfl ?_
    refine TL.nil ?_
    refine TC.cond (b := (step22 == (-1))) rfl (fun h4 => ?_) (fun h4 => ?_)
    · have h := cond_t h h4
      refine TC.seq ?_
      obtain ⟨h5, h⟩ := chk_inv h
      refine drawJ 7 [⟨.ptr 5 11, [], [.blk 5 [vi o10, .val (.bool o11), .val (.bool o12), .val (.bool o13), .val (.bool o14), .val (.bool o15), .val (.bool o16), .val (.bool o17), .val (.bool o18), vi o19, vi o20, vi o21] 87], []⟩, ⟨vi o21, [], [.blk 5 [vi o10, .val (.bool o11), .val (.bool o12), .val (.bool o13), .val (.bool o14), .val (.bool o15), .val (.bool o16), .val (.bool o17), .val (.bool o18), vi o19, vi o20, vi o21] 87], []⟩, ⟨.ptr 3 3, [], [.blk 3 [.ref 0, .ref 1, .ref 2, vi rr4, vi rr5] 26], []⟩, ⟨vi rr4, [], [.blk 3 [.ref 0, .ref 1, .ref 2, vi rr4, vi rr5] 26], []⟩, ⟨vi (o21 + rr4), [], [], []⟩, ⟨.ptr 5 10, [], [.blk 5 [vi o10, .val (.bool o11), .val (.bool o12), .val (.bool o13), .val (.bool o14), .val (.bool o15), .val (.bool o16), .val (.bool o17), .val (.bool o18), vi o19, vi o20, vi o21] 87], []⟩, ⟨.val (undef), [.blk 5 [vi o10, .val (.bool o11), .val (.bool o12), .val (.bool o13), .val (.bool o14), .val (.bool o15), .val (.bool o16), .val (.bool o17), .val (.bool o18), vi o19, vi 0, vi o21] 87], [], [.blk 5 [vi o10, .val (.bool o11), .val (.bool o12), .val (.bool o13), .val (.bool o14), .val (.bool o15), .val (.bool o16), .val (.bool o17), .val (.bool o18), vi o19, vi o20, vi o21] 87]⟩] rfl ?_ rfl ?_ rfl ?_ ?_
      · kernel_rfl
      · kernel_rfl
      · exact DAll.op' (sp_fieldAddrB rfl isBlk rfl ft87_4 vt3 (by decide)) trivial rfl (From.ok (ps := [(none, 1)]) ⟨⟨rfl, by kernel_rfl⟩, trivial⟩) (DAll.op' (sp_loadB rfl isBlk rfl vt3 rfl) trivial rfl (From.ok (ps := [(none, 1)]) ⟨⟨rfl, by kernel_rfl⟩, trivial⟩) (DAll.op' (sp_fieldAddrB rfl isBlk rfl ft26_3 vt3 (by decide)) trivial rfl (From.ok (ps := [(none, 3)]) ⟨⟨rfl, by kernel_rfl⟩, trivial⟩) (DAll.op' (sp_loadB rfl isBlk rfl vt3 rfl) trivial rfl (From.ok (ps := [(none, 3)]) ⟨⟨rfl, by kernel_rfl⟩, trivial⟩) (DAll.op' (sp_add rfl rfl rfl h5) trivial rfl (From.ok (ps := []) trivial) (DAll.op' (sp_fieldAddrB rfl isBlk rfl ft87_3 vt3 (by decide)) trivial rfl (From.ok (ps := [(none, 1)]) ⟨⟨rfl, by kernel_rfl⟩, trivial⟩) (DAll.opT (ts_storeB (off := 10) (cells' := [vi o10, .val (.bool o11), .val (.bool o12), .val (.bool o13), .val (.bool o14), .val (.bool o15), .val (.bool o16), .val (.bool o17), .val (.bool o18), vi o19, vi 0, vi o21]) rfl rfl rfl rfl vt3 rfl rfl rfl) trivial (From.ok (ps := [(none, 1)]) ⟨⟨rfl, by kernel_rfl⟩, trivial⟩) (From.ok (ps := []) trivial) (.nil)))))))
      refine op1 0 rfl (sp_fieldAddrB rfl isBlk rfl ft87_4 vt3 (by decide)) rfl trivial rfl rfl ?_
      refine stoB 0 (cells' := [vi o10, .val (.bool o11), .val (.bool o12), .val (.bool o13), .val (.bool o14), .val (.bool o15), .val (.bool o16), .val (.bool o17), .val (.bool o18), vi o19, vi 0, vi (o21 + rr4)]) rfl rfl trivial rfl rfl rfl rfl vt3 rfl rfl rfl ?_
      refine TL.nil ?_
      refine TC.seq ?_
      refine TC.seq ?_
      refine TC.region ?_
      refine op1 0 rfl (sp_fieldAddrB rfl isBlk rfl ft87_4 vt3 (by decide)) rfl trivial rfl rfl ?_
      refine op1 0 rfl (sp_loadB rfl isBlk rfl vt3 rfl) rfl trivial rfl rfl ?_
      refine op1 2 rfl (sp_fieldAddrB rfl isBlk rfl ft50_2 vt3 (by decide)) rfl trivial rfl rfl ?_
      refine op1 2 rfl (sp_loadB rfl isBlk rfl vt3 rfl) rfl trivial rfl rfl ?_
      refine op0 (sp_gtr rfl rfl rfl) rfl trivial rfl rfl ?_
      refine TL.nil ?_
      refine TC.cond (b := (decide (w8 < (o21 + rr4)))) rfl (fun h6 => ?_) (fun h6 => ?_)
      · have h := cond_t h h6
        refine TC.seq ?_
        refine TC.region ?_
        refine op1 0 rfl (sp_loadBA rfl isBlk rfl vt87 rfl rfl) rfl trivial rfl rfl ?_
        refine stoB 1 (cells' := [vi o10, .val (.bool o11), .val (.bool o12), .val (.bool o13), .val (.bool o14), .val (.bool o15), .val (.bool o16), .val (.bool o17), .val (.bool o18), vi o19, vi 0, vi (o21 + rr4)]) rfl rfl trivial rfl rfl rfl rfl vt87 rfl rfl rfl ?_
        refine op0 (sp_assign rfl rfl) rfl trivial rfl rfl ?_
        refine TL.nil ?_
        cases h
        exact retJ [] (.cells rfl (mem_at 1 rfl) isBlk vt87 rfl rfl (.tmp rfl .nil)) rfl trivial rfl rfl
      · have h := cond_f h h6
        refine TC.skip ?_
        refine TC.seq ?_
        refine TC.region ?_
        refine op1 0 rfl (sp_loadBA rfl isBlk rfl vt87 rfl rfl) rfl trivial rfl rfl ?_
        refine stoB 1 (cells' := [vi o10, .val (.bool o11), .val (.bool o12), .val (.bool o13), .val (.bool o14), .val (.bool o15), .val (.bool o16), .val (.bool o17), .val (.bool o18), vi o19, vi 0, vi (o21 + rr4)]) rfl rfl trivial rfl rfl rfl rfl vt87 rfl rfl rfl ?_
        refine op0 (sp_assign rfl rfl) rfl trivial rfl rfl ?_
        refine TL.nil ?_
        cases h
        exact retJ [] (.cells rfl (mem_at 1 rfl) isBlk vt87 rfl rfl (.tmp rfl .nil)) rfl trivial rfl rfl
    · have h := cond_f h h4
      refine TC.skip ?_
      refine TC.seq ?_
      refine TC.region ?_
      refine op1 3 rfl (sp_fieldAddrB rfl isBlk rfl ft26_0 vt22 (by decide)) rfl trivial rfl rfl ?_
      refine op1 3 rfl (sp_loadB rfl isBlk rfl vt22 rfl) rfl trivial rfl rfl ?_
      refine op0 (sp_move rfl rfl) rfl trivial rfl rfl ?_
      obtain ⟨x24, h7, h8, h⟩ := idx_inv h
      refine op1 4 rfl (sp_indexS rfl rfl rfl isRo sl22 h7 (map_get _ h8)) rfl trivial rfl rfl ?_
      refine op1 4 rfl (sp_loadRA (i := (step22 : Int).toNat) (j := 0) (as_ := [vi x24.1, vi x24.2.1, .val (.int .u16 x24.2.2.1), vi x24.2.2.2.1, vi x24.2.2.2.2]) (ns := []) rfl rfl isRo vt71 rfl (map_get _ h8) rfl rfl (by decide) (.v (.v (.v (.v (.v (.nil)))))) (nodup_of_B rfl)) rfl trivial rfl rfl ?_
      refine op0 (sp_alloc 7 rfl Tryz.zeroValue71 rfl) rfl trivial rfl rfl ?_
      refine stoB 0 (cells' := [vi x24.1, vi x24.2.1, .val (.int .u16 x24.2.2.1), vi x24.2.2.2.1, vi x24.2.2.2.2]) rfl rfl trivial rfl rfl rfl rfl vt71 rfl rfl rfl ?_
      refine TL.nil ?_
      refine TC.seq ?_
      refine TC.seq ?_
      refine TC.region ?_
      refine op0 (sp_move rfl rfl) rfl trivial rfl rfl ?_
      refine op1 2 rfl (sp_fieldAddrB rfl isBlk rfl ft87_1 vt85 (by decide)) rfl trivial rfl rfl ?_
      obtain ⟨h9, h⟩ := chk_inv h
      obtain ⟨x25, h10, h11, h⟩ := idx_inv h
      refine op1 2 rfl (sp_indexA (len := 8) rfl isBlk rfl rfl Tryz.underlying85 vt4 h9) rfl trivial rfl rfl ?_
      refine op1 2 rfl (sp_loadB rfl isBlk rfl vt4 (arr_get (enc := ax_bool) (j := 0) (fun _ => rfl) rfl (pre := [vi o10]) (post := [vi o19, vi o20, vi o21]) (xs := ([o11, o12, o13, o14, o15, o16, o17, o18] : List Bool)) rfl h11 rfl)) rfl trivial rfl rfl ?_
      refine TL.nil ?_
      refine TC.cond (b := x25) rfl (fun h12 => ?_) (fun h12 => ?_)
      · have h := cond_t h h12
        refine TC.seq ?_
        refine TC.region ?_
        refine op1 2 rfl (sp_loadBA rfl isBlk rfl vt87 rfl rfl) rfl trivial rfl rfl ?_
        refine stoB 1 (cells' := [vi o10, .val (.bool o11), .val (.bool o12), .val (.bool o13), .val (.bool o14), .val (.bool o15), .val (.bool o16), .val (.bool o17), .val (.bool o18), vi o19, vi o20, vi o21]) rfl rfl trivial rfl rfl rfl rfl vt87 rfl rfl rfl ?_
        refine op0 (sp_assign rfl rfl) rfl trivial rfl rfl ?_
        refine TL.nil ?_
        cases h
        exact retJ [] (.cells rfl (mem_at 1 rfl) isBlk vt87 rfl rfl (.tmp rfl .nil)) rfl trivial rfl rfl
      · have h := cond_f h h12
        refine TC.skip ?_
        refine TC.seq ?_
        refine TC.seq ?_
        refine TC.region ?_
        refine op1 0 rfl (sp_fieldAddrB rfl isBlk rfl ft71_2 vt48 (by decide)) rfl trivial rfl rfl ?_
        refine op1 0 rfl (sp_loadB rfl isBlk rfl vt48 rfl) rfl trivial rfl rfl ?_
        refine op1 3 rfl (sp_fieldAddrB rfl isBlk rfl ft50_0 vt48 (by decide)) rfl trivial rfl rfl ?_
        refine op1 3 rfl (sp_loadB rfl isBlk rfl vt48 rfl) rfl trivial rfl rfl ?_
        refine op0 (sp_bit .andNot rfl rfl rfl rfl) rfl trivial rfl rfl ?_
        refine op0 (sp_neq rfl rfl rfl) rfl trivial rfl rfl ?_
        refine TL.nil ?_
        refine TC.cond (b := ((bitK .u16 .andNot x24.2.2.1 w6) != 0)) rfl (fun h13 => ?_) (fun h13 => ?_)
        · have h := cond_t h h13
          refine TC.seq ?_
          refine TC.region ?_
          refine op1 2 rfl (sp_loadBA rfl isBlk rfl vt87 rfl rfl) rfl trivial rfl rfl ?_
          refine stoB 1 (cells' := [vi o10, .val (.bool o11), .val (.bool o12), .val (.bool o13), .val (.bool o14), .val (.bool o15), .val (.bool o16), .val (.bool o17), .val (.bool o18), vi o19, vi o20, vi o21]) rfl rfl trivial rfl rfl rfl rfl vt87 rfl rfl rfl ?_
          refine op0 (sp_assign rfl rfl) rfl trivial rfl rfl ?_
          refine TL.nil ?_
          cases h
          exact retJ [] (.cells rfl (mem_at 1 rfl) isBlk vt87 rfl rfl (.tmp rfl .nil)) rfl trivial rfl rfl
        · have h := cond_f h h13
          refine TC.skip ?_
          refine TC.seq ?_
          refine TC.seq ?_
          refine TC.region ?_
          refine op1 2 rfl (sp_fieldAddrB rfl isBlk rfl ft87_2 vt3 (by decide)) rfl trivial rfl rfl ?_
          refine op1 2 rfl (sp_loadB rfl isBlk rfl vt3 rfl) rfl trivial rfl rfl ?_
          refine op1 0 rfl (sp_fieldAddrB rfl isBlk rfl ft71_3 vt3 (by decide)) rfl trivial rfl rfl ?_
          refine op1 0 rfl (sp_loadB rfl isBlk rfl vt3 rfl) rfl trivial rfl rfl ?_
          obtain ⟨h14, h⟩ := chk_inv h
          refine op0 (sp_add rfl rfl rfl h14) rfl trivial rfl rfl ?_
          refine op1 2 rfl (sp_fieldAddrB rfl isBlk rfl ft87_2 vt3 (by decide)) rfl trivial rfl rfl ?_
          refine stoB 2 (cells' := [vi o10, .val (.bool o11), .val (.bool o12), .val (.bool o13), .val (.bool o14), .val (.bool o15), .val (.bool o16), .val (.bool o17), .val (.bool o18), vi (o19 + x24.2.2.2.1), vi o20, vi o21]) rfl rfl trivial rfl rfl rfl rfl vt3 rfl rfl rfl ?_
          refine TL.nil ?_
          refine TC.seq ?_
          refine TC.region ?_
          refine op1 2 rfl (sp_fieldAddrB rfl isBlk rfl ft87_2 vt3 (by decide)) rfl trivial rfl rfl ?_
          refine op1 2 rfl (sp_loadB rfl isBlk rfl vt3 rfl) rfl trivial rfl rfl ?_
          refine op1 3 rfl (sp_fieldAddrB rfl isBlk rfl ft50_1 vt3 (by decide)) rfl trivial rfl rfl ?_
          refine op1 3 rfl (sp_loadB rfl isBlk rfl vt3 rfl) rfl trivial rfl rfl ?_
          refine op0 (sp_gtr rfl rfl rfl) rfl trivial rfl rfl ?_
          refine TL.nil ?_
          refine TC.cond (b := (decide (w7 < (o19 + x24.2.2.2.1)))) rfl (fun h15 => ?_) (fun h15 => ?_)
          · have h := cond_t h h15
            refine TC.seq ?_
            refine TC.region ?_
            refine op1 2 rfl (sp_loadBA rfl isBlk rfl vt87 rfl rfl) rfl trivial rfl rfl ?_
            refine stoB 1 (cells' := [vi o10, .val (.bool o11), .val (.bool o12), .val (.bool o13), .val (.bool o14), .val (.bool o15), .val (.bool o16), .val (.bool o17), .val (.bool o18), vi (o19 + x24.2.2.2.1), vi o20, vi o21]) rfl rfl trivial rfl rfl rfl rfl vt87 rfl rfl rfl ?_
            refine op0 (sp_assign rfl rfl) rfl trivial rfl rfl ?_
            refine TL.nil ?_
            cases h
            exact retJ [] (.cells rfl (mem_at 1 rfl) isBlk vt87 rfl rfl (.tmp rfl .nil)) rfl trivial rfl rfl
          · have h := cond_f h h15
            refine TC.skip ?_
            refine TC.seq ?_
            refine TC.region ?_
            refine op1 4 rfl (sp_fieldAddrB rfl isBlk rfl ft26_1 vt23 (by decide)) rfl trivial rfl rfl ?_
            refine op1 4 rfl (sp_loadB rfl isBlk rfl vt23 rfl) rfl trivial rfl rfl ?_
            refine op1 2 rfl (sp_fieldAddrB rfl isBlk rfl ft87_0 vt3 (by decide)) rfl trivial rfl rfl ?_
            refine op1 2 rfl (sp_loadB rfl isBlk rfl vt3 rfl) rfl trivial rfl rfl ?_
            obtain ⟨x26, h16, h17, h⟩ := idx_inv h
            refine op1 6 rfl (sp_indexS rfl rfl rfl isRo sl23 h16 (map_get _ h17)) rfl trivial rfl rfl ?_
            refine op1 6 rfl (sp_loadR (i := (o10 : Int).toNat) (j := 0) (ns := [.ro 8 1 (List.map en_int x26)]) rfl rfl isRo vt27 rfl (map_get _ h17) rfl (.s (.nil)) (nodup_of_B rfl)) rfl trivial rfl rfl ?_
            refine op0 (sp_move rfl rfl) rfl trivial rfl rfl ?_
            obtain ⟨x27, h18, h19, h⟩ := idx_inv h
            refine op1 0 rfl (sp_indexS rfl rfl rfl isRo sl27 h18 (map_get _ h19)) rfl trivial rfl rfl ?_
            refine op1 0 rfl (sp_loadR (i := (step22 : Int).toNat) (j := 0) rfl rfl isRo vt3 rfl (map_get _ h19) rfl (.v (.nil)) (nodup_of_B rfl)) rfl trivial rfl rfl ?_
            refine op0 (sp_assign rfl rfl) rfl trivial rfl rfl ?_
            refine TL.nil ?_
            refine TC.seq ?_
            refine TC.region ?_
            refine op0 (sp_move rfl rfl) rfl trivial rfl rfl ?_
            refine op0 (sp_move rfl rfl) rfl trivial rfl rfl ?_
            refine op1 3 rfl (sp_fieldAddrB rfl isBlk rfl ft87_0 vt3 (by decide)) rfl trivial rfl rfl ?_
            refine stoB 3 (cells' := [vi step22, .val (.bool o11), .val (.bool o12), .val (.bool o13), .val (.bool o14), .val (.bool o15), .val (.bool o16), .val (.bool o17), .val (.bool o18), vi (o19 + x24.2.2.2.1), vi o20, vi o21]) rfl rfl trivial rfl rfl rfl rfl vt3 rfl rfl rfl ?_
            refine op1 3 rfl (sp_fieldAddrB rfl isBlk rfl ft87_1 vt85 (by decide)) rfl trivial rfl rfl ?_
            obtain ⟨h20, h⟩ := chk_inv h
            obtain ⟨x28, h21, h22, h⟩ := idx_inv h
            refine op1 3 rfl (sp_indexA (len := 8) rfl isBlk rfl rfl Tryz.underlying85 vt4 h20) rfl trivial rfl rfl ?_
            refine stoB 3 (cells' := [vi step22, .val (.bool (cond ((step22).toNat == 0) true o11)), .val (.bool (cond ((step22).toNat == 1) true o12)), .val (.bool (cond ((step22).toNat == 2) true o13)), .val (.bool (cond ((step22).toNat == 3) true o14)), .val (.bool (cond ((step22).toNat == 4) true o15)), .val (.bool (cond ((step22).toNat == 5) true o16)), .val (.bool (cond ((step22).toNat == 6) true o17)), .val (.bool (cond ((step22).toNat == 7) true o18)), vi (o19 + x24.2.2.2.1), vi o20, vi o21]) rfl rfl trivial rfl rfl rfl rfl vt4 rfl (arr_put (lit := fun x => .val (.bool x)) (xs := ([o11, o12, o13, o14, o15, o16, o17, o18] : List Bool)) (xs' := ([(cond ((step22).toNat == 0) true o11), (cond ((step22).toNat == 1) true o12), (cond ((step22).toNat == 2) true o13), (cond ((step22).toNat == 3) true o14), (cond ((step22).toNat == 4) true o15), (cond ((step22).toNat == 5) true o16), (cond ((step22).toNat == 6) true o17), (cond ((step22).toNat == 7) true o18)] : List Bool)) (w := true) [vi step22] [vi (o19 + x24.2.2.2.1), vi o20, vi o21] rfl rfl h22 rfl rfl).1 (arr_put (lit := fun x => .val (.bool x)) (xs := ([o11, o12, o13, o14, o15, o16, o17, o18] : List Bool)) (xs' := ([(cond ((step22).toNat == 0) true o11), (cond ((step22).toNat == 1) true o12), (cond ((step22).toNat == 2) true o13), (cond ((step22).toNat == 3) true o14), (cond ((step22).toNat == 4) true o15), (cond ((step22).toNat == 5) true o16), (cond ((step22).toNat == 6) true o17), (cond ((step22).toNat == 7) true o18)] : List Bool)) (w := true) [vi step22] [vi (o19 + x24.2.2.2.1), vi o20, vi o21] rfl rfl h22 rfl rfl).2 ?_
            refine TL.nil ?_
            refine TC.seq ?_
            refine TC.region ?_
            refine op1 3 rfl (sp_loadBA rfl isBlk rfl vt87 rfl rfl) rfl trivial rfl rfl ?_
            refine op1 4 rfl (sp_loadBA rfl isBlk rfl vt50 rfl rfl) rfl trivial rfl rfl ?_
            refine op0 (sp_move rfl rfl) rfl trivial rfl rfl ?_
            refine op1 1 rfl (sp_fieldAddrB rfl isBlk rfl ft71_0 vt3 (by decide)) rfl trivial rfl rfl ?_
            refine op1 1 rfl (sp_loadB rfl isBlk rfl vt3 rfl) rfl trivial rfl rfl ?_
            obtain ⟨h23, h⟩ := chk_inv h
            refine op0 (sp_add rfl rfl rfl h23) rfl trivial rfl rfl ?_
            refine op1 1 rfl (sp_fieldAddrB rfl isBlk rfl ft71_1 vt3 (by decide)) rfl trivial rfl rfl ?_
            refine op1 1 rfl (sp_loadB rfl isBlk rfl vt3 rfl) rfl trivial rfl rfl ?_
            obtain ⟨h24, h⟩ := chk_inv h
            refine op0 (sp_add rfl rfl rfl h24) rfl trivial rfl rfl ?_
            obtain ⟨r29, h25, h⟩ := bind_inv h
            refine op0 (sp_call (avs := [.agg [vi step22, .val (.bool (cond ((step22).toNat == 0) true o11)), .val (.bool (cond ((step22).toNat == 1) true o12)), .val (.bool (cond ((step22).toNat == 2) true o13)), .val (.bool (cond ((step22).toNat == 3) true o14)), .val (.bool (cond ((step22).toNat == 4) true o15)), .val (.bool (cond ((step22).toNat == 5) true o16)), .val (.bool (cond ((step22).toNat == 6) true o17)), .val (.bool (cond ((step22).toNat == 7) true o18)), vi (o19 + x24.2.2.2.1), vi o20, vi o21], .agg [.val (.int .u16 w6), vi w7, vi w8, vi w9], vi ((x27 + x24.1) + x24.2.1)]) (need := []) (v := .tup [.agg [vi r29.1, .val (.bool r29.2.1), .val (.bool r29.2.2.1), .val (.bool r29.2.2.2.1), .val (.bool r29.2.2.2.2.1), .val (.bool r29.2.2.2.2.2.1), .val (.bool r29.2.2.2.2.2.2.1), .val (.bool r29.2.2.2.2.2.2.2.1), .val (.bool r29.2.2.2.2.2.2.2.2.1), vi r29.2.2.2.2.2.2.2.2.2.1, vi r29.2.2.2.2.2.2.2.2.2.2.1, vi r29.2.2.2.2.2.2.2.2.2.2.2.1], vi r29.2.2.2.2.2.2.2.2.2.2.2.2]) (news := []) rfl rfl rfl Tryz.call64 (atJ [] [] (fc_ref11_On_work h25) rfl rfl) (.inl (roAll rfl))) rfl trivial rfl rfl ?_
            refine op0 (sp_extract rfl rfl rfl) rfl trivial rfl rfl ?_
            refine op0 (sp_extract rfl rfl rfl) rfl trivial rfl rfl ?_
            refine stoB 2 (cells' := [vi r29.1, .val (.bool r29.2.1), .val (.bool r29.2.2.1), .val (.bool r29.2.2.2.1), .val (.bool r29.2.2.2.2.1), .val (.bool r29.2.2.2.2.2.1), .val (.bool r29.2.2.2.2.2.2.1), .val (.bool r29.2.2.2.2.2.2.2.1), .val (.bool r29.2.2.2.2.2.2.2.2.1), vi r29.2.2.2.2.2.2.2.2.2.1, vi r29.2.2.2.2.2.2.2.2.2.2.1, vi r29.2.2.2.2.2.2.2.2.2.2.2.1]) rfl rfl trivial rfl rfl rfl rfl vt87 rfl rfl rfl ?_
            refine op0 (sp_assign rfl rfl) rfl trivial rfl rfl ?_
            refine TL.nil ?_
            cases h
            exact retJ [] (.cells rfl (mem_at 2 rfl) isBlk vt87 rfl rfl (.tmp rfl .nil)) rfl trivial rfl rfl
def ev_ref11_Home (n : Nat) (rr1 : List (Int × Int × Int × Int × Int)) (rr2 : List ((List Int))) (rr3 : List (Int × Int × Int × Int)) (rr4 : Int) (rr5 : Int) (w6 : Int) (w7 : Int) (w8 : Int) (w9 : Int) (o10 : Int) (o11 : Bool) (o12 : Bool) (o13 : Bool) (o14 : Bool) (o15 : Bool) (o16 : Bool) (o17 : Bool) (o18 : Bool) (o19 : Int) (o20 : Int) (o21 : Int) : Option (Int × Bool × Bool × Bool × Bool × Bool × Bool × Bool × Bool × Int × Int × Int × Int) :=
  idx rr2 o10 fun x22 => idx x22 (rr1.length : Int) fun x23 => (ev_ref11_On_work n o10 o11 o12 o13 o14 o15 o16 o17 o18 o19 o20 o21 w6 w7 w8 w9 x23).bind fun r24 => some (r24.1, r24.2.1, r24.2.2.1, r24.2.2.2.1, r24.2.2.2.2.1, r24.2.2.2.2.2.1, r24.2.2.2.2.2.2.1, r24.2.2.2.2.2.2.2.1, r24.2.2.2.2.2.2.2.2.1, r24.2.2.2.2.2.2.2.2.2.1, r24.2.2.2.2.2.2.2.2.2.2.1, r24.2.2.2.2.2.2.2.2.2.2.2.1, r24.2.2.2.2.2.2.2.2.2.2.2.2)
theorem fc_ref11_Home {n : Nat} {rr1 : List (Int × Int × Int × Int × Int)} {rr2 : List ((List Int))} {rr3 : List (Int × Int × Int × Int)} {rr4 : Int} {rr5 : Int} {w6 : Int} {w7 : Int} {w8 : Int} {w9 : Int} {o10 : Int} {o11 : Bool} {o12 : Bool} {o13 : Bool} {o14 : Bool} {o15 : Bool} {o16 : Bool} {o17 : Bool} {o18 : Bool} {o19 : Int} {o20 : Int} {o21 : Int} {r : Int × Bool × Bool × Bool × Bool × Bool × Bool × Bool × Bool × Int × Int × Int × Int} (h : ev_ref11_Home n rr1 rr2 rr3 rr4 rr5 w6 w7 w8 w9 o10 o11 o12 o13 o14 o15 o16 o17 o18 o19 o20 o21 = some r) : FC Tryz.prog 41 [.agg [.ref 0, .ref 1, .ref 2, vi rr4, vi rr5], .agg [.val (.int .u16 w6), vi w7, vi w8, vi w9], .agg [vi o10, .val (.bool o11), .val (.bool o12), .val (.bool o13), .val (.bool o14), .val (.bool o15), .val (.bool o16), .val (.bool o17), .val (.bool o18), vi o19, vi o20, vi o21]] [.ro 0 5 (List.map en_api_RoundTower rr1), .ro 1 1 (List.map en_Lint rr2), .ro 2 4 (List.map en_api_RoundWinder rr3)] (.tup [.agg [vi r.1, .val (.bool r.2.1), .val (.bool r.2.2.1), .val (.bool r.2.2.2.1), .val (.bool r.2.2.2.2.1), .val (.bool r.2.2.2.2.2.1), .val (.bool r.2.2.2.2.2.2.1), .val (.bool r.2.2.2.2.2.2.2.1), .val (.bool r.2.2.2.2.2.2.2.2.1), vi r.2.2.2.2.2.2.2.2.2.1, vi r.2.2.2.2.2.2.2.2.2.2.1, vi r.2.2.2.2.2.2.2.2.2.2.2.1], vi r.2.2.2.2.2.2.2.2.2.2.2.2]) [] := by
  refine introJ (nz := 24) Tryz.func41 rfl rfl rfl (fun w0 R0 env0 => ?_)
  rw [ev_ref11_Home] at h
  refine TC.seq ?_
  refine TC.region ?_
  refine op0 (sp_box 3 rfl rfl rfl rfl rfl) rfl trivial rfl rfl ?_
  refine op0 (sp_box 4 rfl rfl rfl rfl rfl) rfl trivial rfl rfl ?_
  refine op0 (sp_box 5 rfl rfl rfl rfl rfl) rfl trivial rfl rfl ?_
  refine op0 (sp_alloc 6 rfl Tryz.zeroValue87 rfl) rfl trivial rfl rfl ?_
  refine op0 (sp_assign rfl rfl) rfl trivial rfl rfl ?_
  refine TL.nil ?_
  refine TC.seq ?_
  obtain ⟨x22, h1, h2, h⟩ := idx_inv h
  obtain ⟨x23, h3, h4, h⟩ := idx_inv h
  obtain ⟨r24, h5, h⟩ := bind_inv h
  refine drawJ 16 [⟨.agg [vi o10, .val (.bool o11), .val (.bool o12), .val (.bool o13), .val (.bool o14), .val (.bool o15), .val (.bool o16), .val (.bool o17), .val (.bool o18), vi o19, vi o20, vi o21], [], [.blk 5 [vi o10, .val (.bool o11), .val (.bool o12), .val (.bool o13), .val (.bool o14), .val (.bool o15), .val (.bool o16), .val (.bool o17), .val (.bool o18), vi o19, vi o20, vi o21] 87], []⟩, ⟨.agg [.val (.int .u16 w6), vi w7, vi w8, vi w9], [], [.blk 4 [.val (.int .u16 w6), vi w7, vi w8, vi w9] 50], []⟩, ⟨.ptr 3 1, [], [.blk 3 [.ref 0, .ref 1, .ref 2, vi rr4, vi rr5] 26], []⟩, ⟨.ref 1, [], [.blk 3 [.ref 0, .ref 1, .ref 2, vi rr4, vi rr5] 26], []⟩, ⟨.ptr 5 0, [], [.blk 5 [vi o10, .val (.bool o11), .val (.bool o12), .val (.bool o13), .val (.bool o14), .val (.bool o15), .val (.bool o16), .val (.bool o17), .val (.bool o18), vi o19, vi o20, vi o21] 87], []⟩, ⟨vi o10, [], [.blk 5 [vi o10, .val (.bool o11), .val (.bool o12), .val (.bool o13), .val (.bool o14), .val (.bool o15), .val (.bool o16), .val (.bool o17), .val (.bool o18), vi o19, vi o20, vi o21] 87], []⟩, ⟨.cell 1 ((o10 : Int).toNat * 1), [], [.ro 1 1 (List.map en_Lint rr2)], []⟩, ⟨.ref 7, [.ro 7 1 (List.map en_int x22)], [.ro 1 1 (List.map en_Lint rr2)], []⟩, ⟨.ptr 3 0, [], [.blk 3 [.ref 0, .ref 1, .ref 2, vi rr4, vi rr5] 26], []⟩, ⟨.ref 0, [], [.blk 3 [.ref 0, .ref 1, .ref 2, vi rr4, vi rr5] 26], []⟩, ⟨vi (rr1.length : Int), [], [.ro 0 5 (List.map en_api_RoundTower rr1)], []⟩, ⟨.cell 7 (((rr1.length : Int) : Int).toNat * 1), [], [.ro 7 1 (List.map en_int x22)], []⟩, ⟨vi x23, [], [.ro 7 1 (List.map en_int x22)], []⟩, ⟨.tup [.agg [vi r24.1, .val (.bool r24.2.1), .val (.bool r24.2.2.1), .val (.bool r24.2.2.2.1), .val (.bool r24.2.2.2.2.1), .val (.bool r24.2.2.2.2.2.1), .val (.bool r24.2.2.2.2.2.2.1), .val (.bool r24.2.2.2.2.2.2.2.1), .val (.bool r24.2.2.2.2.2.2.2.2.1), vi r24.2.2.2.2.2.2.2.2.2.1, vi r24.2.2.2.2.2.2.2.2.2.2.1, vi r24.2.2.2.2.2.2.2.2.2.2.2.1], vi r24.2.2.2.2.2.2.2.2.2.2.2.2], [], [], []⟩, ⟨.agg [vi r24.1, .val (.bool r24.2.1), .val (.bool r24.2.2.1), .val (.bool r24.2.2.2.1), .val (.bool r24.2.2.2.2.1), .val (.bool r24.2.2.2.2.2.1), .val (.bool r24.2.2.2.2.2.2.1), .val (.bool r24.2.2.2.2.2.2.2.1), .val (.bool r24.2.2.2.2.2.2.2.2.1), vi r24.2.2.2.2.2.2.2.2.2.1, vi r24.2.2.2.2.2.2.2.2.2.2.1, vi r24.2.2.2.2.2.2.2.2.2.2.2.1], [], [], []⟩, ⟨vi r24.2.2.2.2.2.2.2.2.2.2.2.2, [], [], []⟩] rfl ?_ rfl ?_ rfl ?_ ?_
  · kernel_rfl
  · kernel_rfl
  · exact DAll.op' (sp_loadBA rfl isBlk rfl vt87 rfl rfl) trivial rfl (From.ok (ps := [(none, 1)]) ⟨⟨rfl, rfl⟩, trivial⟩) (DAll.op' (sp_loadBA rfl isBlk rfl vt50 rfl rfl) trivial rfl (From.ok (ps := [(none, 2)]) ⟨⟨rfl, rfl⟩, trivial⟩) (DAll.op' (sp_fieldAddrB rfl isBlk rfl ft26_1 vt23 (by decide)) trivial rfl (From.ok (ps := [(none, 3)]) ⟨⟨rfl, rfl⟩, trivial⟩) (DAll.op' (sp_loadB rfl isBlk rfl vt23 rfl) trivial rfl (From.ok (ps := [(none, 3)]) ⟨⟨rfl, rfl⟩, trivial⟩) (DAll.op' (sp_fieldAddrB rfl isBlk rfl ft87_0 vt3 (by decide)) trivial rfl (From.ok (ps := [(none, 1)]) ⟨⟨rfl, rfl⟩, trivial⟩) (DAll.op' (sp_loadB rfl isBlk rfl vt3 rfl) trivial rfl (From.ok (ps := [(none, 1)]) ⟨⟨rfl, rfl⟩, trivial⟩) (DAll.op' (sp_indexS rfl rfl rfl isRo sl23 h1 (map_get _ h2)) trivial rfl (From.ok (ps := [(none, 5)]) ⟨⟨rfl, rfl⟩, trivial⟩) (DAll.op' (sp_loadR (i := (o10 : Int).toNat) (j := 0) (ns := [.ro 7 1 (List.map en_int x22)]) rfl rfl isRo vt27 rfl (map_get _ h2) rfl (.s (.nil)) (nodup_of_B rfl)) trivial rfl (From.ok (ps := [(none, 5)]) ⟨⟨rfl, rfl⟩, trivial⟩) (DAll.op' (sp_fieldAddrB rfl isBlk rfl ft26_0 vt22 (by decide)) trivial rfl (From.ok (ps := [(none, 3)]) ⟨⟨rfl, rfl⟩, trivial⟩) (DAll.op' (sp_loadB rfl isBlk rfl vt22 rfl) trivial rfl (From.ok (ps := [(none, 3)]) ⟨⟨rfl, rfl⟩, trivial⟩) (DAll.op' (sp_lenM (N := rr1.length) (len_map _ _) rfl rfl isRo Tryz.underlying22) trivial rfl (From.ok (ps := [(none, 4)]) ⟨⟨rfl, rfl⟩, trivial⟩) (DAll.op' (sp_indexS rfl rfl rfl isRo sl27 h3 (map_get _ h4)) trivial rfl (From.ok (ps := [(some 7, 0)]) ⟨⟨_, rfl, rfl, rfl, rfl⟩, trivial⟩) (DAll.op' (sp_loadR (i := ((rr1.length : Int) : Int).toNat) (j := 0) rfl rfl isRo vt3 rfl (map_get _ h4) rfl (.v (.nil)) (nodup_of_B rfl)) trivial rfl (From.ok (ps := [(some 7, 0)]) ⟨⟨_, rfl, rfl, rfl, rfl⟩, trivial⟩) (DAll.op' (sp_call (avs := [.agg [vi o10, .val (.bool o11), .val (.bool o12), .val (.bool o13), .val (.bool o14), .val (.bool o15), .val (.bool o16), .val (.bool o17), .val (.bool o18), vi o19, vi o20, vi o21], .agg [.val (.int .u16 w6), vi w7, vi w8, vi w9], vi x23]) (need := []) (v := .tup [.agg [vi r24.1, .val (.bool r24.2.1), .val (.bool r24.2.2.1), .val (.bool r24.2.2.2.1), .val (.bool r24.2.2.2.2.1), .val (.bool r24.2.2.2.2.2.1), .val (.bool r24.2.2.2.2.2.2.1), .val (.bool r24.2.2.2.2.2.2.2.1), .val (.bool r24.2.2.2.2.2.2.2.2.1), vi r24.2.2.2.2.2.2.2.2.2.1, vi r24.2.2.2.2.2.2.2.2.2.2.1, vi r24.2.2.2.2.2.2.2.2.2.2.2.1], vi r24.2.2.2.2.2.2.2.2.2.2.2.2]) (news := []) rfl rfl rfl Tryz.call64 (atJ [] [] (fc_ref11_On_work h5) rfl rfl) (.inl (roAll rfl))) trivial rfl (From.ok (ps := []) trivial) (DAll.op' (sp_extract rfl rfl rfl) trivial rfl (From.ok (ps := []) trivial) (DAll.op' (sp_extract rfl rfl rfl) trivial rfl (From.ok (ps := []) trivial) (.nil))))))))))))))))
  refine stoB 1 (cells' := [vi r24.1, .val (.bool r24.2.1), .val (.bool r24.2.2.1), .val (.bool r24.2.2.2.1), .val (.bool r24.2.2.2.2.1), .val (.bool r24.2.2.2.2.2.1), .val (.bool r24.2.2.2.2.2.2.1), .val (.bool r24.2.2.2.2.2.2.2.1), .val (.bool r24.2.2.2.2.2.2.2.2.1), vi r24.2.2.2.2.2.2.2.2.2.1, vi r24.2.2.2.2.2.2.2.2.2.2.1, vi r24.2.2.2.2.2.2.2.2.2.2.2.1]) rfl rfl trivial rfl rfl rfl rfl vt87 rfl rfl rfl ?_
  refine op0 (sp_assign rfl rfl) rfl trivial rfl rfl ?_
  refine TL.nil ?_
  cases h
  exact retJ [] (.cells rfl (mem_at 1 rfl) isBlk vt87 rfl rfl (.tmp rfl .nil)) rfl trivial rfl rfl
def ev_ref11_Walk_l0 (n : Nat) : Nat → Int → Int → Int → Int → Int → Int → Int → Int → Int → Bool → Bool → Bool → Bool → Bool → Bool → Bool → Bool → Int → Int → Int → (List (Int × Int × Int × Int × Int)) → (List ((List Int))) → (List (Int × Int × Int × Int)) → (List Int) → Option (Int × Int × Int)
  | 0, _, _, _, _, _, _, _, _, _, _, _, _, _, _, _, _, _, _, _, _, _, _, _, _ => none
  | m + 1, i11, i12, i13, i14, i15, i17, i18, i19, i20, b21, b22, b23, b24, b25, b26, b27, b28, i29, i30, i31, l32, l33, l34, l35 => cond (decide (i11 < (l35.length : Int))) (idx l35 i11 fun x36 => (ev_ref11_Step n l32 l33 l34 i12 i13 i15 i17 i18 i19 i20 b21 b22 b23 b24 b25 b26 b27 b28 i29 i30 i31 x36).bind fun r37 => cond (r37.2.2.2.2.2.2.2.2.2.2.2.2 != 0) (some (0, i11, r37.2.2.2.2.2.2.2.2.2.2.2.2)) (chk (in64 (i11 + 1)) <| ev_ref11_Walk_l0 n m (i11 + 1) i12 i13 i14 i15 i17 i18 i19 r37.1 r37.2.1 r37.2.2.1 r37.2.2.2.1 r37.2.2.2.2.1 r37.2.2.2.2.2.1 r37.2.2.2.2.2.2.1 r37.2.2.2.2.2.2.2.1 r37.2.2.2.2.2.2.2.2.1 r37.2.2.2.2.2.2.2.2.2.1 r37.2.2.2.2.2.2.2.2.2.2.1 r37.2.2.2.2.2.2.2.2.2.2.2.1 l32 l33 l34 l35)) ((ev_ref11_Home n l32 l33 l34 i12 i13 i15 i17 i18 i19 i20 b21 b22 b23 b24 b25 b26 b27 b28 i29 i30 i31).bind fun r38 => cond (r38.2.2.2.2.2.2.2.2.2.2.2.2 != 0) (some (0, (l35.length : Int), r38.2.2.2.2.2.2.2.2.2.2.2.2)) (some (r38.2.2.2.2.2.2.2.2.2.2.2.1, 0, 0)))
theorem ok_ref11_Walk_l0 {n : Nat} {w0 : World} {R0 : Nat → Prop} {env0 : Env} {r : Int × Int × Int} : ∀ (m : Nat) (i11 : Int) (i12 : Int) (i13 : Int) (i14 : Int) (i15 : Int) (i17 : Int) (i18 : Int) (i19 : Int) (i20 : Int) (b21 : Bool) (b22 : Bool) (b23 : Bool) (b24 : Bool) (b25 : Bool) (b26 : Bool) (b27 : Bool) (b28 : Bool) (i29 : Int) (i30 : Int) (i31 : Int) (l32 : List (Int × Int × Int × Int × Int)) (l33 : List ((List Int))) (l34 : List (Int × Int × Int × Int)) (l35 : List Int), ev_ref11_Walk_l0 n m i11 i12 i13 i14 i15 i17 i18 i19 i20 b21 b22 b23 b24 b25 b26 b27 b28 i29 i30 i31 l32 l33 l34 l35 = some r → TC Tryz.prog ⟨w0, fun _ => False, R0⟩ 72 (bodyPost Tryz.prog Tryz.f15 (Post ⟨w0, fun _ => False, R0⟩ env0 (.tup [vi r.1, vi r.2.1, vi r.2.2]) [])) [.code (sub (bodyOf Tryz.f15) [1, 1, 1, 1, 0, 1, 0, 0, 0, 0]), .code (sub (bodyOf Tryz.f15) [1, 1, 1, 1, 0, 1, 0, 0, 0, 1]), .code (sub (bodyOf Tryz.f15) [1, 1, 1, 1, 0, 1, 0, 0, 1]), .inLoop (sub (bodyOf Tryz.f15) [1, 1, 1, 1, 0, 1, 0, 0]), .inBlock 0, .code (sub (bodyOf Tryz.f15) [1, 1, 1, 1, 1])] ([(2, .ptr 4 0), (3, .ptr 5 0), (7, .ptr 6 0), (8, .ptr 7 0), (9, vi i11)]) ([.blk 4 [.ref 0, .ref 1, .ref 2, vi i12, vi i13] 26, .blk 5 [vi i14, .ref 3] 29, .blk 6 [.val (.int .u16 i15), vi i17, vi i18, vi i19] 50, .blk 7 [vi i20, .val (.bool b21), .val (.bool b22), .val (.bool b23), .val (.bool b24), .val (.bool b25), .val (.bool b26), .val (.bool b27), .val (.bool b28), vi i29, vi i30, vi i31] 87, .ro 0 5 (List.map en_api_RoundTower l32), .ro 1 1 (List.map en_Lint l33), .ro 2 4 (List.map en_api_RoundWinder l34), .ro 3 1 (List.map en_int l35)]) := by
  intro m
  induction m with
  | zero => intro i11 i12 i13 i14 i15 i17 i18 i19 i20 b21 b22 b23 b24 b25 b26 b27 b28 i29 i30 i31 l32 l33 l34 l35 h; exact none_no h
  | succ m ih =>
    intro i11 i12 i13 i14 i15 i17 i18 i19 i20 b21 b22 b23 b24 b25 b26 b27 b28 i29 i30 i31 l32 l33 l34 l35 h
    rw [ev_ref11_Walk_l0] at h
    refine TC.region ?_
    refine op0 (sp_move rfl rfl) rfl trivial rfl rfl ?_
    refine op1 1 rfl (sp_fieldAddrB rfl isBlk rfl ft29_1 vt27 (by decide)) rfl trivial rfl rfl ?_
    refine op1 1 rfl (sp_loadB rfl isBlk rfl vt27 rfl) rfl trivial rfl rfl ?_
    refine op1 7 rfl (sp_lenM (N := l35.length) (len_map _ _) rfl rfl isRo Tryz.underlying27) rfl trivial rfl rfl ?_
    refine op0 (sp_lss rfl rfl rfl) rfl trivial rfl rfl ?_
    refine TL.nil ?_
    refine TC.cond (b := (decide (i11 < (l35.length : Int)))) rfl (fun h8 => ?_) (fun h8 => ?_)
    · have h := cond_t h h8
      refine TC.skip ?_
      refine TC.seq ?_
      refine TC.block ?_
      refine TC.seq ?_
      obtain ⟨x36, h9, h10, h⟩ := idx_inv h
      obtain ⟨r37, h11, h⟩ := bind_inv h
      refine drawJ 14 [⟨.agg [.ref 0, .ref 1, .ref 2, vi i12, vi i13], [], [.blk 4 [.ref 0, .ref 1, .ref 2, vi i12, vi i13] 26], []⟩, ⟨.agg [.val (.int .u16 i15), vi i17, vi i18, vi i19], [], [.blk 6 [.val (.int .u16 i15), vi i17, vi i18, vi i19] 50], []⟩, ⟨.agg [vi i20, .val (.bool b21), .val (.bool b22), .val (.bool b23), .val (.bool b24), .val (.bool b25), .val (.bool b26), .val (.bool b27), .val (.bool b28), vi i29, vi i30, vi i31], [], [.blk 7 [vi i20, .val (.bool b21), .val (.bool b22), .val (.bool b23), .val (.bool b24), .val (.bool b25), .val (.bool b26), .val (.bool b27), .val (.bool b28), vi i29, vi i30, vi i31] 87], []⟩, ⟨.ptr 5 1, [], [.blk 5 [vi i14, .ref 3] 29], []⟩, ⟨.ref 3, [], [.blk 5 [vi i14, .ref 3] 29], []⟩, ⟨vi i11, [], [], []⟩, ⟨.cell 3 ((i11 : Int).toNat * 1), [], [.ro 3 1 (List.map en_int l35)], []⟩, ⟨vi x36, [], [.ro 3 1 (List.map en_int l35)], []⟩, ⟨.tup [.agg [vi r37.1, .val (.bool r37.2.1), .val (.bool r37.2.2.1), .val (.bool r37.2.2.2.1), .val (.bool r37.2.2.2.2.1), .val (.bool r37.2.2.2.2.2.1), .val (.bool r37.2.2.2.2.2.2.1), .val (.bool r37.2.2.2.2.2.2.2.1), .val (.bool r37.2.2.2.2.2.2.2.2.1), vi r37.2.2.2.2.2.2.2.2.2.1, vi r37.2.2.2.2.2.2.2.2.2.2.1, vi r37.2.2.2.2.2.2.2.2.2.2.2.1], vi r37.2.2.2.2.2.2.2.2.2.2.2.2], [], [.ro 0 5 (List.map en_api_RoundTower l32), .ro 1 1 (List.map en_Lint l33), .ro 2 4 (List.map en_api_RoundWinder l34)], []⟩, ⟨.tup [.agg [vi r37.1, .val (.bool r37.2.1), .val (.bool r37.2.2.1), .val (.bool r37.2.2.2.1), .val (.bool r37.2.2.2.2.1), .val (.bool r37.2.2.2.2.2.1), .val (.bool r37.2.2.2.2.2.2.1), .val (.bool r37.2.2.2.2.2.2.2.1), .val (.bool r37.2.2.2.2.2.2.2.2.1), vi r37.2.2.2.2.2.2.2.2.2.1, vi r37.2.2.2.2.2.2.2.2.2.2.1, vi r37.2.2.2.2.2.2.2.2.2.2.2.1], vi r37.2.2.2.2.2.2.2.2.2.2.2.2], [], [], []⟩, ⟨.agg [vi r37.1, .val (.bool r37.2.1), .val (.bool r37.2.2.1), .val (.bool r37.2.2.2.1), .val (.bool r37.2.2.2.2.1), .val (.bool r37.2.2.2.2.2.1), .val (.bool r37.2.2.2.2.2.2.1), .val (.bool r37.2.2.2.2.2.2.2.1), .val (.bool r37.2.2.2.2.2.2.2.2.1), vi r37.2.2.2.2.2.2.2.2.2.1, vi r37.2.2.2.2.2.2.2.2.2.2.1, vi r37.2.2.2.2.2.2.2.2.2.2.2.1], [], [], []⟩, ⟨vi r37.2.2.2.2.2.2.2.2.2.2.2.2, [], [], []⟩, ⟨.ptr 8 0, [.blk 8 [vi 0, .val (.bool false), .val (.bool false), .val (.bool false), .val (.bool false), .val (.bool false), .val (.bool false), .val (.bool false), .val (.bool false), vi 0, vi 0, vi 0] 87], [], []⟩, ⟨.val (undef), [.blk 8 [vi r37.1, .val (.bool r37.2.1), .val (.bool r37.2.2.1), .val (.bool r37.2.2.2.1), .val (.bool r37.2.2.2.2.1), .val (.bool r37.2.2.2.2.2.1), .val (.bool r37.2.2.2.2.2.2.1), .val (.bool r37.2.2.2.2.2.2.2.1), .val (.bool r37.2.2.2.2.2.2.2.2.1), vi r37.2.2.2.2.2.2.2.2.2.1, vi r37.2.2.2.2.2.2.2.2.2.2.1, vi r37.2.2.2.2.2.2.2.2.2.2.2.1] 87], [], [.blk 8 [vi 0, .val (.bool false), .val (.bool false), .val (.bool false), .val (.bool false), .val (.bool false), .val (.bool false), .val (.bool false), .val (.bool false), vi 0, vi 0, vi 0] 87]⟩] rfl ?_ rfl ?_ rfl ?_ ?_
      · kernel_rfl
      · kernel_rfl
      · exact DAll.op' (sp_loadBA rfl isBlk rfl vt26 rfl rfl) trivial rfl (From.ok (ps := [(none, 0)]) ⟨⟨rfl, by kernel_rfl⟩, trivial⟩) (DAll.op' (sp_loadBA rfl isBlk rfl vt50 rfl rfl) trivial rfl (From.ok (ps := [(none, 2)]) ⟨⟨rfl, by kernel_rfl⟩, trivial⟩) (DAll.op' (sp_loadBA rfl isBlk rfl vt87 rfl rfl) trivial rfl (From.ok (ps := [(none, 3)]) ⟨⟨rfl, by kernel_rfl⟩, trivial⟩) (DAll.op' (sp_fieldAddrB rfl isBlk rfl ft29_1 vt27 (by decide)) trivial rfl (From.ok (ps := [(none, 1)]) ⟨⟨rfl, by kernel_rfl⟩, trivial⟩) (DAll.op' (sp_loadB rfl isBlk rfl vt27 rfl) trivial rfl (From.ok (ps := [(none, 1)]) ⟨⟨rfl, by kernel_rfl⟩, trivial⟩) (DAll.op' (sp_move rfl rfl) trivial rfl (From.ok (ps := []) trivial) (DAll.op' (sp_indexS rfl rfl rfl isRo sl27 h9 (map_get _ h10)) trivial rfl (From.ok (ps := [(none, 7)]) ⟨⟨rfl, by kernel_rfl⟩, trivial⟩) (DAll.op' (sp_loadR (i := (i11 : Int).toNat) (j := 0) rfl rfl isRo vt3 rfl (map_get _ h10) rfl (.v (.nil)) (nodup_of_B rfl)) trivial rfl (From.ok (ps := [(none, 7)]) ⟨⟨rfl, by kernel_rfl⟩, trivial⟩) (DAll.op' (sp_call (avs := [.agg [.ref 0, .ref 1, .ref 2, vi i12, vi i13], .agg [.val (.int .u16 i15), vi i17, vi i18, vi i19], .agg [vi i20, .val (.bool b21), .val (.bool b22), .val (.bool b23), .val (.bool b24), .val (.bool b25), .val (.bool b26), .val (.bool b27), .val (.bool b28), vi i29, vi i30, vi i31], vi x36]) (need := [.ro 0 5 (List.map en_api_RoundTower l32), .ro 1 1 (List.map en_Lint l33), .ro 2 4 (List.map en_api_RoundWinder l34)]) (v := .tup [.agg [vi r37.1, .val (.bool r37.2.1), .val (.bool r37.2.2.1), .val (.bool r37.2.2.2.1), .val (.bool r37.2.2.2.2.1), .val (.bool r37.2.2.2.2.2.1), .val (.bool r37.2.2.2.2.2.2.1), .val (.bool r37.2.2.2.2.2.2.2.1), .val (.bool r37.2.2.2.2.2.2.2.2.1), vi r37.2.2.2.2.2.2.2.2.2.1, vi r37.2.2.2.2.2.2.2.2.2.2.1, vi r37.2.2.2.2.2.2.2.2.2.2.2.1], vi r37.2.2.2.2.2.2.2.2.2.2.2.2]) (news := []) rfl rfl rfl Tryz.call40 (atJ [] [] (fc_ref11_Step h11) rfl rfl) (.inl (roAll rfl))) trivial rfl (From.ok (ps := [(none, 4), (none, 5), (none, 6)]) ⟨⟨rfl, by kernel_rfl⟩, ⟨rfl, by kernel_rfl⟩, ⟨rfl, by kernel_rfl⟩, trivial⟩) (DAll.op' (sp_move rfl rfl) trivial rfl (From.ok (ps := []) trivial) (DAll.op' (sp_extract rfl rfl rfl) trivial rfl (From.ok (ps := []) trivial) (DAll.op' (sp_extract rfl rfl rfl) trivial rfl (From.ok (ps := []) trivial) (DAll.op' (sp_alloc 8 rfl Tryz.zeroValue87 rfl) trivial rfl (From.ok (ps := []) trivial) (DAll.opT (ts_storeB (off := 0) (cells' := [vi r37.1, .val (.bool r37.2.1), .val (.bool r37.2.2.1), .val (.bool r37.2.2.2.1), .val (.bool r37.2.2.2.2.1), .val (.bool r37.2.2.2.2.2.1), .val (.bool r37.2.2.2.2.2.2.1), .val (.bool r37.2.2.2.2.2.2.2.1), .val (.bool r37.2.2.2.2.2.2.2.2.1), vi r37.2.2.2.2.2.2.2.2.2.1, vi r37.2.2.2.2.2.2.2.2.2.2.1, vi r37.2.2.2.2.2.2.2.2.2.2.2.1]) rfl rfl rfl rfl vt87 rfl rfl rfl) trivial (From.ok (ps := [(some 12, 0)]) ⟨⟨_, rfl, by kernel_rfl, rfl, by kernel_rfl⟩, trivial⟩) (From.ok (ps := []) trivial) (.nil))))))))))))))
      refine op0 (sp_assign rfl rfl) rfl trivial rfl rfl ?_
      refine TL.nil ?_
      refine TC.seq ?_
      refine TC.seq ?_
      refine TC.region ?_
      refine op0 (sp_move rfl rfl) rfl trivial rfl rfl ?_
      refine op0 (sp_neq rfl rfl rfl) rfl trivial rfl rfl ?_
      refine TL.nil ?_
      refine TC.cond (b := (r37.2.2.2.2.2.2.2.2.2.2.2.2 != 0)) rfl (fun h12 => ?_) (fun h12 => ?_)
      · have h := cond_t h h12
        refine TC.seq ?_
        refine TC.region ?_
        refine op0 (sp_move rfl rfl) rfl trivial rfl rfl ?_
        refine op0 (sp_move rfl rfl) rfl trivial rfl rfl ?_
        refine op0 (sp_assign rfl rfl) rfl trivial rfl rfl ?_
        refine op0 (sp_assign rfl rfl) rfl trivial rfl rfl ?_
        refine op0 (sp_assign rfl rfl) rfl trivial rfl rfl ?_
        refine TL.nil ?_
        cases h
        exact retJ [] (.tmp rfl (.tmp rfl (.tmp rfl .nil))) rfl trivial rfl rfl
      · have h := cond_f h h12
        refine TC.skip ?_
        refine TC.region ?_
        refine op1 0 rfl (sp_loadBA rfl isBlk rfl vt87 rfl rfl) rfl trivial rfl rfl ?_
        refine stoB 4 (cells' := [vi r37.1, .val (.bool r37.2.1), .val (.bool r37.2.2.1), .val (.bool r37.2.2.2.1), .val (.bool r37.2.2.2.2.1), .val (.bool r37.2.2.2.2.2.1), .val (.bool r37.2.2.2.2.2.2.1), .val (.bool r37.2.2.2.2.2.2.2.1), .val (.bool r37.2.2.2.2.2.2.2.2.1), vi r37.2.2.2.2.2.2.2.2.2.1, vi r37.2.2.2.2.2.2.2.2.2.2.1, vi r37.2.2.2.2.2.2.2.2.2.2.2.1]) rfl rfl trivial rfl rfl rfl rfl vt87 rfl rfl rfl ?_
        refine TL.nil ?_
        refine TC.inBlock ?_
        refine TC.region ?_
        refine op0 (sp_move rfl rfl) rfl trivial rfl rfl ?_
        obtain ⟨h13, h⟩ := chk_inv h
        refine op0 (sp_add rfl rfl rfl h13) rfl trivial rfl rfl ?_
        refine op0 (sp_assign rfl rfl) rfl trivial rfl rfl ?_
        refine TL.nil ?_
        refine TC.inLoop ?_
        refine TC.seq ?_
        refine TC.seq ?_
        refine subJ [] (ih _ _ _ _ _ _ _ _ _ _ _ _ _ _ _ _ _ _ _ _ _ _ _ _ h) ?_ ?_ ?_
        · exact ⟨rfl, rfl, rfl, rfl, rfl, trivial⟩
        · exact ⟨mem_at 1 rfl, mem_at 2 rfl, mem_at 3 rfl, mem_at 4 rfl, mem_at 5 rfl, mem_at 6 rfl, mem_at 7 rfl, mem_at 8 rfl, trivial⟩
        · rfl
    · have h := cond_f h h8
      refine TC.exit rfl ?_
      refine TC.seq ?_
      refine TC.region ?_
      refine op1 0 rfl (sp_loadBA rfl isBlk rfl vt26 rfl rfl) rfl trivial rfl rfl ?_
      refine op1 2 rfl (sp_loadBA rfl isBlk rfl vt50 rfl rfl) rfl trivial rfl rfl ?_
      refine op1 3 rfl (sp_loadBA rfl isBlk rfl vt87 rfl rfl) rfl trivial rfl rfl ?_
      obtain ⟨r38, h14, h⟩ := bind_inv h
      refine opN (need := [.ro 0 5 (List.map en_api_RoundTower l32), .ro 1 1 (List.map en_Lint l33), .ro 2 4 (List.map en_api_RoundWinder l34)]) [4, 5, 6] ⟨rfl, rfl, rfl, trivial⟩ (sp_call (avs := [.agg [.ref 0, .ref 1, .ref 2, vi i12, vi i13], .agg [.val (.int .u16 i15), vi i17, vi i18, vi i19], .agg [vi i20, .val (.bool b21), .val (.bool b22), .val (.bool b23), .val (.bool b24), .val (.bool b25), .val (.bool b26), .val (.bool b27), .val (.bool b28), vi i29, vi i30, vi i31]]) (need := [.ro 0 5 (List.map en_api_RoundTower l32), .ro 1 1 (List.map en_Lint l33), .ro 2 4 (List.map en_api_RoundWinder l34)]) (v := .tup [.agg [vi r38.1, .val (.bool r38.2.1), .val (.bool r38.2.2.1), .val (.bool r38.2.2.2.1), .val (.bool r38.2.2.2.2.1), .val (.bool r38.2.2.2.2.2.1), .val (.bool r38.2.2.2.2.2.2.1), .val (.bool r38.2.2.2.2.2.2.2.1), .val (.bool r38.2.2.2.2.2.2.2.2.1), vi r38.2.2.2.2.2.2.2.2.2.1, vi r38.2.2.2.2.2.2.2.2.2.2.1, vi r38.2.2.2.2.2.2.2.2.2.2.2.1], vi r38.2.2.2.2.2.2.2.2.2.2.2.2]) (news := []) rfl rfl rfl Tryz.call41 (atJ [] [] (fc_ref11_Home h14) rfl rfl) (.inl (roAll rfl))) rfl trivial rfl rfl ?_
      refine op0 (sp_move rfl rfl) rfl trivial rfl rfl ?_
      refine op0 (sp_extract rfl rfl rfl) rfl trivial rfl rfl ?_
      refine op0 (sp_extract rfl rfl rfl) rfl trivial rfl rfl ?_
      refine stoB 3 (cells' := [vi r38.1, .val (.bool r38.2.1), .val (.bool r38.2.2.1), .val (.bool r38.2.2.2.1), .val (.bool r38.2.2.2.2.1), .val (.bool r38.2.2.2.2.2.1), .val (.bool r38.2.2.2.2.2.2.1), .val (.bool r38.2.2.2.2.2.2.2.1), .val (.bool r38.2.2.2.2.2.2.2.2.1), vi r38.2.2.2.2.2.2.2.2.2.1, vi r38.2.2.2.2.2.2.2.2.2.2.1, vi r38.2.2.2.2.2.2.2.2.2.2.2.1]) rfl rfl trivial rfl rfl rfl rfl vt87 rfl rfl rfl ?_
      refine op0 (sp_assign rfl rfl) rfl trivial rfl rfl ?_
      refine TL.nil ?_
      refine TC.seq ?_
      refine TC.seq ?_
      refine TC.region ?_
      refine op0 (sp_move rfl rfl) rfl trivial rfl rfl ?_
      refine op0 (sp_neq rfl rfl rfl) rfl trivial rfl rfl ?_
      refine TL.nil ?_
      refine TC.cond (b := (r38.2.2.2.2.2.2.2.2.2.2.2.2 != 0)) rfl (fun h15 => ?_) (fun h15 => ?_)
      · have h := cond_t h h15
        refine TC.seq ?_
        refine drawJ 6 [⟨.ptr 5 1, [], [.blk 5 [vi i14, .ref 3] 29], []⟩, ⟨.ref 3, [], [.blk 5 [vi i14, .ref 3] 29], []⟩, ⟨vi (l35.length : Int), [], [.ro 3 1 (List.map en_int l35)], []⟩, ⟨vi r38.2.2.2.2.2.2.2.2.2.2.2.2, [], [], []⟩, ⟨vi 0, [], [], []⟩, ⟨vi (l35.length : Int), [], [], []⟩] rfl ?_ rfl ?_ rfl ?_ ?_
        · kernel_rfl
        · kernel_rfl
        · exact DAll.op' (sp_fieldAddrB rfl isBlk rfl ft29_1 vt27 (by decide)) trivial rfl (From.ok (ps := [(none, 1)]) ⟨⟨rfl, rfl⟩, trivial⟩) (DAll.op' (sp_loadB rfl isBlk rfl vt27 rfl) trivial rfl (From.ok (ps := [(none, 1)]) ⟨⟨rfl, rfl⟩, trivial⟩) (DAll.op' (sp_lenM (N := l35.length) (len_map _ _) rfl rfl isRo Tryz.underlying27) trivial rfl (From.ok (ps := [(none, 7)]) ⟨⟨rfl, rfl⟩, trivial⟩) (DAll.op' (sp_move rfl rfl) trivial rfl (From.ok (ps := []) trivial) (DAll.op' (sp_assign rfl rfl) trivial rfl (From.ok (ps := []) trivial) (DAll.op' (sp_assign rfl rfl) trivial rfl (From.ok (ps := []) trivial) (.nil))))))
        refine op0 (sp_assign rfl rfl) rfl trivial rfl rfl ?_
        refine TL.nil ?_
        cases h
        exact retJ [] (.tmp rfl (.tmp rfl (.tmp rfl .nil))) rfl trivial rfl rfl
      · have h := cond_f h h15
        refine TC.skip ?_
        refine TC.seq ?_
        refine TC.region ?_
        refine op1 3 rfl (sp_fieldAddrB rfl isBlk rfl ft87_4 vt3 (by decide)) rfl trivial rfl rfl ?_
        refine op1 3 rfl (sp_loadB rfl isBlk rfl vt3 rfl) rfl trivial rfl rfl ?_
        refine op0 (sp_assign rfl rfl) rfl trivial rfl rfl ?_
        refine op0 (sp_assign rfl rfl) rfl trivial rfl rfl ?_
        refine op0 (sp_assign rfl rfl) rfl trivial rfl rfl ?_
        refine TL.nil ?_
        cases h
        exact retJ [] (.tmp rfl (.tmp rfl (.tmp rfl .nil))) rfl trivial rfl rfl
def ev_ref11_Walk (n : Nat) (rr1 : List (Int × Int × Int × Int × Int)) (rr2 : List ((List Int))) (rr3 : List (Int × Int × Int × Int)) (rr4 : Int) (rr5 : Int) (t6 : Int) (t7 : List Int) : Option (Int × Int × Int) :=
  chk (in64 ((rr3.length : Int) - 1)) <| (ev_ref11_in n t6 0 ((rr3.length : Int) - 1)).bind fun r8 => cond (!r8) (some (0, 0, 7)) (cond (decide ((40 : Int) < (t7.length : Int))) (some (0, 0, 5)) (idx rr3 t6 fun x9 => (ev_ref11_Begin n rr1 rr2 rr3 rr4 rr5).bind fun r10 => ev_ref11_Walk_l0 n n 0 rr4 rr5 t6 x9.1 x9.2.1 x9.2.2.1 x9.2.2.2 r10.1 r10.2.1 r10.2.2.1 r10.2.2.2.1 r10.2.2.2.2.1 r10.2.2.2.2.2.1 r10.2.2.2.2.2.2.1 r10.2.2.2.2.2.2.2.1 r10.2.2.2.2.2.2.2.2.1 r10.2.2.2.2.2.2.2.2.2.1 r10.2.2.2.2.2.2.2.2.2.2.1 r10.2.2.2.2.2.2.2.2.2.2.2 rr1 rr2 rr3 t7))
theorem fc_ref11_Walk {n : Nat} {rr1 : List (Int × Int × Int × Int × Int)} {rr2 : List ((List Int))} {rr3 : List (Int × Int × Int × Int)} {rr4 : Int} {rr5 : Int} {t6 : Int} {t7 : List Int} {r : Int × Int × Int} (h : ev_ref11_Walk n rr1 rr2 rr3 rr4 rr5 t6 t7 = some r) : FC Tryz.prog 15 [.agg [.ref 0, .ref 1, .ref 2, vi rr4, vi rr5], .agg [vi t6, .ref 3]] [.ro 0 5 (List.map en_api_RoundTower rr1), .ro 1 1 (List.map en_Lint rr2), .ro 2 4 (List.map en_api_RoundWinder rr3), .ro 3 1 (List.map en_int t7)] (.tup [vi r.1, vi r.2.1, vi r.2.2]) [] := by
  refine introJ (nz := 72) Tryz.func15 rfl rfl rfl (fun w0 R0 env0 => ?_)
  rw [ev_ref11_Walk] at h
  refine TC.seq ?_
  refine TC.region ?_
  refine op0 (sp_box 4 rfl rfl rfl rfl rfl) rfl trivial rfl rfl ?_
  refine op0 (sp_box 5 rfl rfl rfl rfl rfl) rfl trivial rfl rfl ?_
  refine op0 (sp_assign rfl rfl) rfl trivial rfl rfl ?_
  refine op0 (sp_assign rfl rfl) rfl trivial rfl rfl ?_
  refine op0 (sp_assign rfl rfl) rfl trivial rfl rfl ?_
  refine TL.nil ?_
  refine TC.seq ?_
  refine TC.seq ?_
  refine TC.region ?_
  refine op1 0 rfl (sp_fieldAddrB rfl isBlk rfl ft29_0 vt3 (by decide)) rfl trivial rfl rfl ?_
  refine op1 0 rfl (sp_loadB rfl isBlk rfl vt3 rfl) rfl trivial rfl rfl ?_
  refine op1 1 rfl (sp_fieldAddrB rfl isBlk rfl ft26_2 vt24 (by decide)) rfl trivial rfl rfl ?_
  refine op1 1 rfl (sp_loadB rfl isBlk rfl vt24 rfl) rfl trivial rfl rfl ?_
  refine op1 4 rfl (sp_lenM (N := rr3.length) (len_map _ _) rfl rfl isRo Tryz.underlying24) rfl trivial rfl rfl ?_
  obtain ⟨h1, h⟩ := chk_inv h
  refine op0 (sp_sub rfl rfl rfl h1) rfl trivial rfl rfl ?_
  obtain ⟨r8, h2, h⟩ := bind_inv h
  refine op0 (sp_call (avs := [vi t6, vi 0, vi ((rr3.length : Int) - 1)]) (need := []) (v := .val (.bool r8)) (news := []) rfl rfl rfl Tryz.call37 (atJ [] [] (fc_ref11_in h2) rfl rfl) (.inl (roAll rfl))) rfl trivial rfl rfl ?_
  refine op0 (sp_not rfl rfl) rfl trivial rfl rfl ?_
  refine TL.nil ?_
  refine TC.cond (b := (!r8)) rfl (fun h3 => ?_) (fun h3 => ?_)
  · have h := cond_t h h3
    refine TC.seq ?_
    refine TC.region ?_
    refine op0 (sp_assign rfl rfl) rfl trivial rfl rfl ?_
    refine op0 (sp_assign rfl rfl) rfl trivial rfl rfl ?_
    refine op0 (sp_assign rfl rfl) rfl trivial rfl rfl ?_
    refine TL.nil ?_
    cases h
    exact retJ [] (.tmp rfl (.tmp rfl (.tmp rfl .nil))) rfl trivial rfl rfl
  · have h := cond_f h h3
    refine TC.skip ?_
    refine TC.seq ?_
    refine TC.seq ?_
    refine TC.region ?_
    refine op1 0 rfl (sp_fieldAddrB rfl isBlk rfl ft29_1 vt27 (by decide)) rfl trivial rfl rfl ?_
    refine op1 0 rfl (sp_loadB rfl isBlk rfl vt27 rfl) rfl trivial rfl rfl ?_
    refine op1 5 rfl (sp_lenM (N := t7.length) (len_map _ _) rfl rfl isRo Tryz.underlying27) rfl trivial rfl rfl ?_
    refine op0 (sp_gtr rfl rfl rfl) rfl trivial rfl rfl ?_
    refine TL.nil ?_
    refine TC.cond (b := (decide ((40 : Int) < (t7.length : Int)))) rfl (fun h4 => ?_) (fun h4 => ?_)
    · have h := cond_t h h4
      refine TC.seq ?_
      refine TC.region ?_
      refine op0 (sp_assign rfl rfl) rfl trivial rfl rfl ?_
      refine op0 (sp_assign rfl rfl) rfl trivial rfl rfl ?_
      refine op0 (sp_assign rfl rfl) rfl trivial rfl rfl ?_
      refine TL.nil ?_
      cases h
      exact retJ [] (.tmp rfl (.tmp rfl (.tmp rfl .nil))) rfl trivial rfl rfl
    · have h := cond_f h h4
      refine TC.skip ?_
      refine TC.seq ?_
      obtain ⟨x9, h5, h6, h⟩ := idx_inv h
      obtain ⟨r10, h7, h⟩ := bind_inv h
      refine drawJ 10 [⟨.ptr 4 2, [], [.blk 4 [.ref 0, .ref 1, .ref 2, vi rr4, vi rr5] 26], []⟩, ⟨.ref 2, [], [.blk 4 [.ref 0, .ref 1, .ref 2, vi rr4, vi rr5] 26], []⟩, ⟨.ptr 5 0, [], [.blk 5 [vi t6, .ref 3] 29], []⟩, ⟨vi t6, [], [.blk 5 [vi t6, .ref 3] 29], []⟩, ⟨.cell 2 ((t6 : Int).toNat * 4), [], [.ro 2 4 (List.map en_api_RoundWinder rr3)], []⟩, ⟨.agg [.val (.int .u16 x9.1), vi x9.2.1, vi x9.2.2.1, vi x9.2.2.2], [], [.ro 2 4 (List.map en_api_RoundWinder rr3)], []⟩, ⟨.agg [.ref 0, .ref 1, .ref 2, vi rr4, vi rr5], [], [.blk 4 [.ref 0, .ref 1, .ref 2, vi rr4, vi rr5] 26], []⟩, ⟨.agg [vi r10.1, .val (.bool r10.2.1), .val (.bool r10.2.2.1), .val (.bool r10.2.2.2.1), .val (.bool r10.2.2.2.2.1), .val (.bool r10.2.2.2.2.2.1), .val (.bool r10.2.2.2.2.2.2.1), .val (.bool r10.2.2.2.2.2.2.2.1), .val (.bool r10.2.2.2.2.2.2.2.2.1), vi r10.2.2.2.2.2.2.2.2.2.1, vi r10.2.2.2.2.2.2.2.2.2.2.1, vi r10.2.2.2.2.2.2.2.2.2.2.2], [], [.ro 0 5 (List.map en_api_RoundTower rr1), .ro 1 1 (List.map en_Lint rr2), .ro 2 4 (List.map en_api_RoundWinder rr3)], []⟩, ⟨.ptr 6 0, [.blk 6 [.val (.int .u16 0), vi 0, vi 0, vi 0] 50], [], []⟩, ⟨.ptr 7 0, [.blk 7 [vi 0, .val (.bool false), .val (.bool false), .val (.bool false), .val (.bool false), .val (.bool false), .val (.bool false), .val (.bool false), .val (.bool false), vi 0, vi 0, vi 0] 87], [], []⟩] rfl ?_ rfl ?_ rfl ?_ ?_
      · kernel_rfl
      · kernel_rfl
      · exact DAll.op' (sp_fieldAddrB rfl isBlk rfl ft26_2 vt24 (by decide)) trivial rfl (From.ok (ps := [(none, 1)]) ⟨⟨rfl, rfl⟩, trivial⟩) (DAll.op' (sp_loadB rfl isBlk rfl vt24 rfl) trivial rfl (From.ok (ps := [(none, 1)]) ⟨⟨rfl, rfl⟩, trivial⟩) (DAll.op' (sp_fieldAddrB rfl isBlk rfl ft29_0 vt3 (by decide)) trivial rfl (From.ok (ps := [(none, 0)]) ⟨⟨rfl, rfl⟩, trivial⟩) (DAll.op' (sp_loadB rfl isBlk rfl vt3 rfl) trivial rfl (From.ok (ps := [(none, 0)]) ⟨⟨rfl, rfl⟩, trivial⟩) (DAll.op' (sp_indexS rfl rfl rfl isRo sl24 h5 (map_get _ h6)) trivial rfl (From.ok (ps := [(none, 4)]) ⟨⟨rfl, rfl⟩, trivial⟩) (DAll.op' (sp_loadRA (i := (t6 : Int).toNat) (j := 0) (as_ := [.val (.int .u16 x9.1), vi x9.2.1, vi x9.2.2.1, vi x9.2.2.2]) (ns := []) rfl rfl isRo vt50 rfl (map_get _ h6) rfl rfl (by decide) (.v (.v (.v (.v (.nil))))) (nodup_of_B rfl)) trivial rfl (From.ok (ps := [(none, 4)]) ⟨⟨rfl, rfl⟩, trivial⟩) (DAll.op' (sp_loadBA rfl isBlk rfl vt26 rfl rfl) trivial rfl (From.ok (ps := [(none, 1)]) ⟨⟨rfl, rfl⟩, trivial⟩) (DAll.op' (sp_call (avs := [.agg [.ref 0, .ref 1, .ref 2, vi rr4, vi rr5]]) (need := [.ro 0 5 (List.map en_api_RoundTower rr1), .ro 1 1 (List.map en_Lint rr2), .ro 2 4 (List.map en_api_RoundWinder rr3)]) (v := .agg [vi r10.1, .val (.bool r10.2.1), .val (.bool r10.2.2.1), .val (.bool r10.2.2.2.1), .val (.bool r10.2.2.2.2.1), .val (.bool r10.2.2.2.2.2.1), .val (.bool r10.2.2.2.2.2.2.1), .val (.bool r10.2.2.2.2.2.2.2.1), .val (.bool r10.2.2.2.2.2.2.2.2.1), vi r10.2.2.2.2.2.2.2.2.2.1, vi r10.2.2.2.2.2.2.2.2.2.2.1, vi r10.2.2.2.2.2.2.2.2.2.2.2]) (news := []) rfl rfl rfl Tryz.call39 (atJ [] [] (fc_ref11_Begin h7) rfl rfl) (.inl (roAll rfl))) trivial rfl (From.ok (ps := [(none, 2), (none, 3), (none, 4)]) ⟨⟨rfl, rfl⟩, ⟨rfl, rfl⟩, ⟨rfl, rfl⟩, trivial⟩) (DAll.op' (sp_alloc 6 rfl Tryz.zeroValue50 rfl) trivial rfl (From.ok (ps := []) trivial) (DAll.op' (sp_alloc 7 rfl Tryz.zeroValue87 rfl) trivial rfl (From.ok (ps := []) trivial) (.nil))))))))))
      refine stoB 1 (cells' := [.val (.int .u16 x9.1), vi x9.2.1, vi x9.2.2.1, vi x9.2.2.2]) rfl rfl trivial rfl rfl rfl rfl vt50 rfl rfl rfl ?_
      refine stoB 0 (cells' := [vi r10.1, .val (.bool r10.2.1), .val (.bool r10.2.2.1), .val (.bool r10.2.2.2.1), .val (.bool r10.2.2.2.2.1), .val (.bool r10.2.2.2.2.2.1), .val (.bool r10.2.2.2.2.2.2.1), .val (.bool r10.2.2.2.2.2.2.2.1), .val (.bool r10.2.2.2.2.2.2.2.2.1), vi r10.2.2.2.2.2.2.2.2.2.1, vi r10.2.2.2.2.2.2.2.2.2.2.1, vi r10.2.2.2.2.2.2.2.2.2.2.2]) rfl rfl trivial rfl rfl rfl rfl vt87 rfl rfl rfl ?_
      refine TL.nil ?_
      refine TC.seq ?_
      refine TC.seq ?_
      refine TC.region ?_
      refine op0 (sp_assign rfl rfl) rfl trivial rfl rfl ?_
      refine TL.nil ?_
      refine TC.block ?_
      refine TC.loop ?_
      refine TC.seq ?_
      refine TC.seq ?_
      refine subJ [] (ok_ref11_Walk_l0 _ _ _ _ _ _ _ _ _ _ _ _ _ _ _ _ _ _ _ _ _ _ _ _ _ h) ?_ ?_ ?_
      · exact ⟨rfl, rfl, rfl, rfl, rfl, trivial⟩
      · exact ⟨mem_at 3 rfl, mem_at 2 rfl, mem_at 1 rfl, mem_at 0 rfl, mem_at 4 rfl, mem_at 5 rfl, mem_at 6 rfl, mem_at 7 rfl, trivial⟩
      · rfl
end
end Go.Proofs.YtohjpfkcahlfkaaGreat.Sy
