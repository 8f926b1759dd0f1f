/- What functions of the program compute, and that they do: printed by symgen.py. -/
import Derived.Test.YtohjpfkcahlfkaaPlGLib
set_option linter.unusedSimpArgs false
set_option linter.unusedVariables false
namespace Go.Proofs.Ytohjpfkcahlfkaa.Sy
open Go.RowKit
noncomputable section
set_option maxRecDepth 100000
set_option maxHeartbeats 2000000
def ev_ref11_Smaller_l0 (n : Nat) (a1 : List Int) (b2 : List Int) : Nat → Int → Option Bool
  | 0, _ => none
  | m + 1, i3 => cond (decide (i3 < (a1.length : Int))) (cond (decide (i3 < (b2.length : Int))) (idx a1 i3 fun x4 => idx b2 i3 fun x5 => cond (x4 != x5) (some (decide (x4 < x5))) (chk (in64 (i3 + 1)) <| ev_ref11_Smaller_l0 n a1 b2 m (i3 + 1))) (some (decide ((a1.length : Int) < (b2.length : Int))))) (some (decide ((a1.length : Int) < (b2.length : Int))))
theorem ok_ref11_Smaller_l0 {n : Nat} {w0 : World} {R0 : Nat → Prop} {env0 : Env} {r : Bool} {a1 : List Int} {b2 : List Int} : ∀ (m : Nat) (i3 : Int), ev_ref11_Smaller_l0 n a1 b2 m i3 = some r → TC Try.prog ⟨w0, fun _ => False, R0⟩ 41 (bodyPost Try.prog Try.f31 (Post ⟨w0, fun _ => False, R0⟩ env0 (.val (.bool r)) [])) [.code (sub (bodyOf Try.f31) [1, 0, 1, 0, 0, 0, 0]), .code (sub (bodyOf Try.f31) [1, 0, 1, 0, 0, 0, 1]), .code (sub (bodyOf Try.f31) [1, 0, 1, 0, 0, 1]), .inLoop (sub (bodyOf Try.f31) [1, 0, 1, 0, 0]), .inBlock 0, .code (sub (bodyOf Try.f31) [1, 1])] ([(0, .ref 0), (1, .ref 1), (5, vi i3)]) ([.ro 0 1 (List.map en_int a1), .ro 1 1 (List.map en_int b2)]) := by
  intro m
  induction m with
  | zero => intro i3 h; exact none_no h
  | succ m ih =>
    intro i3 h
    rw [ev_ref11_Smaller_l0] at h
    refine TC.region ?_
    refine op0 (sp_move rfl rfl) rfl trivial rfl rfl ?_
    refine op0 (sp_move rfl rfl) rfl trivial rfl rfl ?_
    refine op1 0 rfl (sp_lenM (N := a1.length) (len_map _ _) rfl rfl isRo Try.underlying30) rfl trivial rfl rfl ?_
    refine op0 (sp_lss rfl rfl rfl) rfl trivial rfl rfl ?_
    refine op0 (sp_move rfl rfl) rfl trivial rfl rfl ?_
    rcases cond_cases h with ⟨h1, h⟩ | ⟨h1, h⟩
    · refine (boolLit 10 rfl h1).2 ?_
      refine op0 (sp_move rfl rfl) rfl ⟨_, rfl, rfl⟩ rfl rfl ?_
      refine op0 (sp_move rfl rfl) rfl ⟨_, rfl, rfl⟩ rfl rfl ?_
      refine op1 1 rfl (sp_lenM (N := b2.length) (len_map _ _) rfl rfl isRo Try.underlying30) rfl ⟨_, rfl, rfl⟩ rfl rfl ?_
      refine op0 (sp_lss rfl rfl rfl) rfl ⟨_, rfl, rfl⟩ rfl rfl ?_
      refine op0 (sp_pickT rfl rfl rfl) rfl trivial rfl rfl ?_
      refine TL.nil ?_
      refine TC.cond (b := (decide (i3 < (b2.length : Int)))) rfl (fun h2 => ?_) (fun h2 => ?_)
      · have h := cond_t h h2
        refine TC.skip ?_
        refine TC.seq ?_
        refine TC.block ?_
        refine TC.seq ?_
        obtain ⟨x4, h3, h4, h⟩ := idx_inv h
        obtain ⟨x5, h5, h6, h⟩ := idx_inv h
        refine drawJ 8 [⟨.ref 0, [], [], []⟩, ⟨vi i3, [], [], []⟩, ⟨.cell 0 ((i3 : Int).toNat * 1), [], [.ro 0 1 (List.map en_int a1)], []⟩, ⟨vi x4, [], [.ro 0 1 (List.map en_int a1)], []⟩, ⟨.ref 1, [], [], []⟩, ⟨vi i3, [], [], []⟩, ⟨.cell 1 ((i3 : Int).toNat * 1), [], [.ro 1 1 (List.map en_int b2)], []⟩, ⟨vi x5, [], [.ro 1 1 (List.map en_int b2)], []⟩] rfl ?_ rfl ?_ rfl ?_ ?_
        · kernel_rfl
        · kernel_rfl
        · exact DAll.op' (sp_move rfl rfl) trivial rfl (From.ok (ps := []) trivial) (DAll.op' (sp_move rfl rfl) trivial rfl (From.ok (ps := []) trivial) (DAll.op' (sp_indexS rfl rfl rfl isRo sl30 h3 (map_get _ h4)) trivial rfl (From.ok (ps := [(none, 0)]) ⟨⟨rfl, rfl⟩, trivial⟩) (DAll.op' (sp_loadR (i := (i3 : Int).toNat) (j := 0) rfl rfl isRo vt3 rfl (map_get _ h4) rfl (.v (.nil)) (nodup_of_B rfl)) trivial rfl (From.ok (ps := [(none, 0)]) ⟨⟨rfl, rfl⟩, trivial⟩) (DAll.op' (sp_move rfl rfl) trivial rfl (From.ok (ps := []) trivial) (DAll.op' (sp_move rfl rfl) trivial rfl (From.ok (ps := []) trivial) (DAll.op' (sp_indexS rfl rfl rfl isRo sl30 h5 (map_get _ h6)) trivial rfl (From.ok (ps := [(none, 1)]) ⟨⟨rfl, rfl⟩, trivial⟩) (DAll.op' (sp_loadR (i := (i3 : Int).toNat) (j := 0) rfl rfl isRo vt3 rfl (map_get _ h6) rfl (.v (.nil)) (nodup_of_B rfl)) trivial rfl (From.ok (ps := [(none, 1)]) ⟨⟨rfl, rfl⟩, trivial⟩) (.nil))))))))
        refine op0 (sp_neq rfl rfl rfl) rfl trivial rfl rfl ?_
        refine TL.nil ?_
        refine TC.cond (b := (x4 != x5)) rfl (fun h7 => ?_) (fun h7 => ?_)
        · have h := cond_t h h7
          refine TC.seq ?_
          refine drawJ 8 [⟨.ref 0, [], [], []⟩, ⟨vi i3, [], [], []⟩, ⟨.cell 0 ((i3 : Int).toNat * 1), [], [.ro 0 1 (List.map en_int a1)], []⟩, ⟨vi x4, [], [.ro 0 1 (List.map en_int a1)], []⟩, ⟨.ref 1, [], [], []⟩, ⟨vi i3, [], [], []⟩, ⟨.cell 1 ((i3 : Int).toNat * 1), [], [.ro 1 1 (List.map en_int b2)], []⟩, ⟨vi x5, [], [.ro 1 1 (List.map en_int b2)], []⟩] rfl ?_ rfl ?_ rfl ?_ ?_
          · kernel_rfl
          · kernel_rfl
          · exact DAll.op' (sp_move rfl rfl) trivial rfl (From.ok (ps := []) trivial) (DAll.op' (sp_move rfl rfl) trivial rfl (From.ok (ps := []) trivial) (DAll.op' (sp_indexS rfl rfl rfl isRo sl30 h3 (map_get _ h4)) trivial rfl (From.ok (ps := [(none, 0)]) ⟨⟨rfl, rfl⟩, trivial⟩) (DAll.op' (sp_loadR (i := (i3 : Int).toNat) (j := 0) rfl rfl isRo vt3 rfl (map_get _ h4) rfl (.v (.nil)) (nodup_of_B rfl)) trivial rfl (From.ok (ps := [(none, 0)]) ⟨⟨rfl, rfl⟩, trivial⟩) (DAll.op' (sp_move rfl rfl) trivial rfl (From.ok (ps := []) trivial) (DAll.op' (sp_move rfl rfl) trivial rfl (From.ok (ps := []) trivial) (DAll.op' (sp_indexS rfl rfl rfl isRo sl30 h5 (map_get _ h6)) trivial rfl (From.ok (ps := [(none, 1)]) ⟨⟨rfl, rfl⟩, trivial⟩) (DAll.op' (sp_loadR (i := (i3 : Int).toNat) (j := 0) rfl rfl isRo vt3 rfl (map_get _ h6) rfl (.v (.nil)) (nodup_of_B rfl)) trivial rfl (From.ok (ps := [(none, 1)]) ⟨⟨rfl, rfl⟩, trivial⟩) (.nil))))))))
          refine op0 (sp_lss rfl rfl rfl) rfl trivial rfl rfl ?_
          refine op0 (sp_assign rfl rfl) rfl trivial rfl rfl ?_
          refine TL.nil ?_
          cases h
          exact retJ [] (.tmp rfl .nil) rfl trivial rfl rfl
        · have h := cond_f h h7
          refine TC.skip ?_
          refine TC.inBlock ?_
          refine TC.region ?_
          refine op0 (sp_move rfl rfl) rfl trivial rfl rfl ?_
          obtain ⟨h8, h⟩ := chk_inv h
          refine op0 (sp_add rfl rfl rfl h8) rfl trivial rfl rfl ?_
          refine op0 (sp_assign rfl rfl) rfl trivial rfl rfl ?_
          refine TL.nil ?_
          refine TC.inLoop ?_
          refine TC.seq ?_
          refine TC.seq ?_
          refine subJ [] (ih _ h) ?_ ?_ ?_
          · exact ⟨rfl, rfl, rfl, trivial⟩
          · exact ⟨mem_at 0 rfl, mem_at 1 rfl, trivial⟩
          · rfl
      · have h := cond_f h h2
        refine TC.exit rfl ?_
        refine TC.seq ?_
        refine TC.region ?_
        refine op0 (sp_move rfl rfl) rfl trivial rfl rfl ?_
        refine op1 0 rfl (sp_lenM (N := a1.length) (len_map _ _) rfl rfl isRo Try.underlying30) rfl trivial rfl rfl ?_
        refine op0 (sp_move rfl rfl) rfl trivial rfl rfl ?_
        refine op1 1 rfl (sp_lenM (N := b2.length) (len_map _ _) rfl rfl isRo Try.underlying30) rfl trivial rfl rfl ?_
        refine op0 (sp_lss rfl rfl rfl) rfl trivial rfl rfl ?_
        refine op0 (sp_assign rfl rfl) rfl trivial rfl rfl ?_
        refine TL.nil ?_
        cases h
        exact retJ [] (.tmp rfl .nil) rfl trivial rfl rfl
    · refine (boolLit 10 rfl h1).2 ?_
      refine opSkip rfl ⟨_, rfl, .inl rfl⟩ rfl ?_
      refine opSkip rfl ⟨_, rfl, .inl rfl⟩ rfl ?_
      refine opSkip rfl ⟨_, rfl, .inl rfl⟩ rfl ?_
      refine opSkip rfl ⟨_, rfl, .inl rfl⟩ rfl ?_
      refine op0 (sp_pickF rfl rfl rfl) rfl trivial rfl rfl ?_
      refine TL.nil ?_
      refine TC.condF rfl ?_
      refine TC.exit rfl ?_
      refine TC.seq ?_
      refine TC.region ?_
      refine op0 (sp_move rfl rfl) rfl trivial rfl rfl ?_
      refine op1 0 rfl (sp_lenM (N := a1.length) (len_map _ _) rfl rfl isRo Try.underlying30) rfl trivial rfl rfl ?_
      refine op0 (sp_move rfl rfl) rfl trivial rfl rfl ?_
      refine op1 1 rfl (sp_lenM (N := b2.length) (len_map _ _) rfl rfl isRo Try.underlying30) rfl trivial rfl rfl ?_
      refine op0 (sp_lss rfl rfl rfl) rfl trivial rfl rfl ?_
      refine op0 (sp_assign rfl rfl) rfl trivial rfl rfl ?_
      refine TL.nil ?_
      cases h
      exact retJ [] (.tmp rfl .nil) rfl trivial rfl rfl
def ev_ref11_Smaller (n : Nat) (a1 : List Int) (b2 : List Int) : Option Bool :=
  ev_ref11_Smaller_l0 n a1 b2 n 0
theorem fc_ref11_Smaller {n : Nat} {a1 : List Int} {b2 : List Int} {r : Bool} (h : ev_ref11_Smaller n a1 b2 = some r) : FC Try.prog 31 [.ref 0, .ref 1] [.ro 0 1 (List.map en_int a1), .ro 1 1 (List.map en_int b2)] (.val (.bool r)) [] := by
  refine introJ (nz := 41) Try.func31 rfl rfl rfl (fun w0 R0 env0 => ?_)
  rw [ev_ref11_Smaller] at h
  refine TC.seq ?_
  refine TC.region ?_
  refine op0 (sp_assign rfl rfl) rfl trivial rfl rfl ?_
  refine TL.nil ?_
  refine TC.seq ?_
  refine TC.seq ?_
  refine TC.region ?_
  refine op0 (sp_assign rfl rfl) rfl trivial rfl rfl ?_
  refine TL.nil ?_
  refine TC.block ?_
  refine TC.loop ?_
  refine TC.seq ?_
  refine TC.seq ?_
  refine subJ [] (ok_ref11_Smaller_l0 _ _ h) ?_ ?_ ?_
  · exact ⟨rfl, rfl, rfl, trivial⟩
  · exact ⟨mem_at 0 rfl, mem_at 1 rfl, trivial⟩
  · rfl
def ev_ref11_Same (n : Nat) (a1 : List Int) (b2 : List Int) : Option Bool :=
  (ev_ref11_Smaller n a1 b2).bind fun r3 => cond (!r3) ((ev_ref11_Smaller n b2 a1).bind fun r4 => some (!r4)) (some false)
theorem fc_ref11_Same {n : Nat} {a1 : List Int} {b2 : List Int} {r : Bool} (h : ev_ref11_Same n a1 b2 = some r) : FC Try.prog 14 [.ref 0, .ref 1] [.ro 0 1 (List.map en_int a1), .ro 1 1 (List.map en_int b2)] (.val (.bool r)) [] := by
  refine introJ (nz := 15) Try.func14 rfl rfl rfl (fun w0 R0 env0 => ?_)
  rw [ev_ref11_Same] at h
  refine TC.seq ?_
  refine TC.region ?_
  refine op0 (sp_assign rfl rfl) rfl trivial rfl rfl ?_
  refine TL.nil ?_
  refine TC.seq ?_
  refine TC.region ?_
  refine op0 (sp_move rfl rfl) rfl trivial rfl rfl ?_
  refine op0 (sp_move rfl rfl) rfl trivial rfl rfl ?_
  obtain ⟨r3, h1, h⟩ := bind_inv h
  refine opN (need := [.ro 0 1 (List.map en_int a1), .ro 1 1 (List.map en_int b2)]) [0, 1] ⟨rfl, rfl, trivial⟩ (sp_call (avs := [.ref 0, .ref 1]) (need := [.ro 0 1 (List.map en_int a1), .ro 1 1 (List.map en_int b2)]) (v := .val (.bool r3)) (news := []) rfl rfl rfl Try.call31 (atJ [] [] (fc_ref11_Smaller h1) rfl rfl) (.inl (roAll rfl))) rfl trivial rfl rfl ?_
  refine op0 (sp_not rfl rfl) rfl trivial rfl rfl ?_
  refine op0 (sp_move rfl rfl) rfl trivial rfl rfl ?_
  rcases cond_cases h with ⟨h2, h⟩ | ⟨h2, h⟩
  · refine (boolLit 9 rfl h2).2 ?_
    refine op0 (sp_move rfl rfl) rfl ⟨_, rfl, rfl⟩ rfl rfl ?_
    refine op0 (sp_move rfl rfl) rfl ⟨_, rfl, rfl⟩ rfl rfl ?_
    obtain ⟨r4, h3, h⟩ := bind_inv h
    refine opN (need := [.ro 1 1 (List.map en_int b2), .ro 0 1 (List.map en_int a1)]) [1, 0] ⟨rfl, rfl, trivial⟩ (sp_call (avs := [.ref 1, .ref 0]) (need := [.ro 1 1 (List.map en_int b2), .ro 0 1 (List.map en_int a1)]) (v := .val (.bool r4)) (news := []) rfl rfl rfl Try.call31 (atJ [(0, 1), (1, 0)] [] (fc_ref11_Smaller h3) rfl rfl) (.inl (roAll rfl))) rfl ⟨_, rfl, rfl⟩ rfl rfl ?_
    refine op0 (sp_not rfl rfl) rfl ⟨_, rfl, rfl⟩ rfl rfl ?_
    refine op0 (sp_pickT rfl rfl rfl) rfl trivial rfl rfl ?_
    refine op0 (sp_assign rfl rfl) rfl trivial rfl rfl ?_
    refine TL.nil ?_
    cases h
    exact retJ [] (.tmp rfl .nil) rfl trivial rfl rfl
  · refine (boolLit 9 rfl h2).2 ?_
    refine opSkip rfl ⟨_, rfl, .inl rfl⟩ rfl ?_
    refine opSkip rfl ⟨_, rfl, .inl rfl⟩ rfl ?_
    refine opSkip rfl ⟨_, rfl, .inl rfl⟩ rfl ?_
    refine opSkip rfl ⟨_, rfl, .inl rfl⟩ rfl ?_
    refine op0 (sp_pickF rfl rfl rfl) rfl trivial rfl rfl ?_
    refine op0 (sp_assign rfl rfl) rfl trivial rfl rfl ?_
    refine TL.nil ?_
    cases h
    exact retJ [] (.tmp rfl .nil) rfl trivial rfl rfl
def ev_ref11_Equal_l0 (n : Nat) (a1 : List (Int × (List Int))) (b2 : List (Int × (List Int))) : Nat → Int → Option Bool
  | 0, _ => none
  | m + 1, i3 => cond (decide (i3 < (a1.length : Int))) (idx a1 i3 fun x4 => idx b2 i3 fun x5 => cond (x4.1 != x5.1) (some false) ((ev_ref11_Same n x4.2 x5.2).bind fun r6 => cond (!r6) (some false) (chk (in64 (i3 + 1)) <| ev_ref11_Equal_l0 n a1 b2 m (i3 + 1)))) (some true)
theorem ok_ref11_Equal_l0 {n : Nat} {w0 : World} {R0 : Nat → Prop} {env0 : Env} {r : Bool} {a1 : List (Int × (List Int))} {b2 : List (Int × (List Int))} : ∀ (m : Nat) (i3 : Int), ev_ref11_Equal_l0 n a1 b2 m i3 = some r → TC Try.prog ⟨w0, fun _ => False, R0⟩ 42 (bodyPost Try.prog Try.f27 (Post ⟨w0, fun _ => False, R0⟩ env0 (.val (.bool r)) [])) [.code (sub (bodyOf Try.f27) [1, 1, 0, 1, 0, 0, 0, 0]), .code (sub (bodyOf Try.f27) [1, 1, 0, 1, 0, 0, 0, 1]), .code (sub (bodyOf Try.f27) [1, 1, 0, 1, 0, 0, 1]), .inLoop (sub (bodyOf Try.f27) [1, 1, 0, 1, 0, 0]), .inBlock 0, .code (sub (bodyOf Try.f27) [1, 1, 1])] ([(0, .ref 0), (1, .ref 1), (5, vi i3)]) ([.ro 0 2 (List.map en_api_RoundTrip a1), .ro 1 2 (List.map en_api_RoundTrip b2)]) := by
  intro m
  induction m with
  | zero => intro i3 h; exact none_no h
  | succ m ih =>
    intro i3 h
    rw [ev_ref11_Equal_l0] at h
    refine TC.region ?_
    refine op0 (sp_move rfl rfl) rfl trivial rfl rfl ?_
    refine op0 (sp_move rfl rfl) rfl trivial rfl rfl ?_
    refine op1 0 rfl (sp_lenM (N := a1.length) (len_map _ _) rfl rfl isRo Try.underlying68) rfl trivial rfl rfl ?_
    refine op0 (sp_lss rfl rfl rfl) rfl trivial rfl rfl ?_
    refine TL.nil ?_
    refine TC.cond (b := (decide (i3 < (a1.length : Int)))) rfl (fun h2 => ?_) (fun h2 => ?_)
    · have h := cond_t h h2
      refine TC.skip ?_
      refine TC.seq ?_
      refine TC.block ?_
      refine TC.seq ?_
      obtain ⟨x4, h3, h4, h⟩ := idx_inv h
      obtain ⟨x5, h5, h6, h⟩ := idx_inv h
      rcases cond_cases h with ⟨h7, h⟩ | ⟨h7, h⟩
      · refine drawJ 22 [⟨.ref 0, [], [], []⟩, ⟨vi i3, [], [], []⟩, ⟨.cell 0 ((i3 : Int).toNat * 2), [], [.ro 0 2 (List.map en_api_RoundTrip a1)], []⟩, ⟨.cell 0 ((i3 : Int).toNat * 2 + 0), [], [.ro 0 2 (List.map en_api_RoundTrip a1)], []⟩, ⟨vi x4.1, [], [.ro 0 2 (List.map en_api_RoundTrip a1)], []⟩, ⟨.ref 1, [], [], []⟩, ⟨vi i3, [], [], []⟩, ⟨.cell 1 ((i3 : Int).toNat * 2), [], [.ro 1 2 (List.map en_api_RoundTrip b2)], []⟩, ⟨.cell 1 ((i3 : Int).toNat * 2 + 0), [], [.ro 1 2 (List.map en_api_RoundTrip b2)], []⟩, ⟨vi x5.1, [], [.ro 1 2 (List.map en_api_RoundTrip b2)], []⟩, ⟨.val (.bool (x4.1 != x5.1)), [], [], []⟩, ⟨.val (.bool true), [], [], []⟩, ⟨.val (undef), [], [], []⟩, ⟨.val (undef), [], [], []⟩, ⟨.val (undef), [], [], []⟩, ⟨.val (undef), [], [], []⟩, ⟨.val (undef), [], [], []⟩, ⟨.val (undef), [], [], []⟩, ⟨.val (undef), [], [], []⟩, ⟨.val (undef), [], [], []⟩, ⟨.val (undef), [], [], []⟩, ⟨.val (undef), [], [], []⟩] rfl ?_ rfl ?_ rfl ?_ ?_
        · kernel_rfl
        · kernel_rfl
        · exact DAll.op' (sp_move rfl rfl) trivial rfl (From.ok (ps := []) trivial) (DAll.op' (sp_move rfl rfl) trivial rfl (From.ok (ps := []) trivial) (DAll.op' (sp_indexS rfl rfl rfl isRo sl68 h3 (map_get _ h4)) trivial rfl (From.ok (ps := [(none, 0)]) ⟨⟨rfl, by kernel_rfl⟩, trivial⟩) (DAll.op' (sp_fieldAddrR (i := (i3 : Int).toNat) rfl rfl isRo ft65_0 vt3 (by decide) (map_get _ h4) (fun h => nomatch h)) trivial rfl (From.ok (ps := [(none, 0)]) ⟨⟨rfl, by kernel_rfl⟩, trivial⟩) (DAll.op' (sp_loadR (i := (i3 : Int).toNat) (j := 0) rfl rfl isRo vt3 rfl (map_get _ h4) rfl (.v (.nil)) (nodup_of_B rfl)) trivial rfl (From.ok (ps := [(none, 0)]) ⟨⟨rfl, by kernel_rfl⟩, trivial⟩) (DAll.op' (sp_move rfl rfl) trivial rfl (From.ok (ps := []) trivial) (DAll.op' (sp_move rfl rfl) trivial rfl (From.ok (ps := []) trivial) (DAll.op' (sp_indexS rfl rfl rfl isRo sl68 h5 (map_get _ h6)) trivial rfl (From.ok (ps := [(none, 1)]) ⟨⟨rfl, by kernel_rfl⟩, trivial⟩) (DAll.op' (sp_fieldAddrR (i := (i3 : Int).toNat) rfl rfl isRo ft65_0 vt3 (by decide) (map_get _ h6) (fun h => nomatch h)) trivial rfl (From.ok (ps := [(none, 1)]) ⟨⟨rfl, by kernel_rfl⟩, trivial⟩) (DAll.op' (sp_loadR (i := (i3 : Int).toNat) (j := 0) rfl rfl isRo vt3 rfl (map_get _ h6) rfl (.v (.nil)) (nodup_of_B rfl)) trivial rfl (From.ok (ps := [(none, 1)]) ⟨⟨rfl, by kernel_rfl⟩, trivial⟩) (DAll.op' (sp_neq rfl rfl rfl) trivial rfl (From.ok (ps := []) trivial) (DAll.op' (sp_castB h7 (sp_move rfl rfl)) trivial rfl (From.ok (ps := []) trivial) (.skip ⟨_, rfl, .inl rfl⟩ rfl rfl rfl (.skip ⟨_, rfl, .inl rfl⟩ rfl rfl rfl (.skip ⟨_, rfl, .inl rfl⟩ rfl rfl rfl (.skip ⟨_, rfl, .inl rfl⟩ rfl rfl rfl (.skip ⟨_, rfl, .inl rfl⟩ rfl rfl rfl (.skip ⟨_, rfl, .inl rfl⟩ rfl rfl rfl (.skip ⟨_, rfl, .inl rfl⟩ rfl rfl rfl (.skip ⟨_, rfl, .inl rfl⟩ rfl rfl rfl (.skip ⟨_, rfl, .inl rfl⟩ rfl rfl rfl (.skip ⟨_, rfl, .inl rfl⟩ rfl rfl rfl (.nil))))))))))))))))))))))
        refine opSkip rfl ⟨_, rfl, .inl rfl⟩ rfl ?_
        refine opSkip rfl ⟨_, rfl, .inl rfl⟩ rfl ?_
        refine op0 (sp_pickT rfl rfl rfl) rfl trivial rfl rfl ?_
        refine TL.nil ?_
        refine TC.condT rfl ?_
        refine TC.seq ?_
        refine TC.region ?_
        refine op0 (sp_assign rfl rfl) rfl trivial rfl rfl ?_
        refine TL.nil ?_
        cases h
        exact retJ [] (.tmp rfl .nil) rfl trivial rfl rfl
      · refine drawJ 22 [⟨.ref 0, [], [], []⟩, ⟨vi i3, [], [], []⟩, ⟨.cell 0 ((i3 : Int).toNat * 2), [], [.ro 0 2 (List.map en_api_RoundTrip a1)], []⟩, ⟨.cell 0 ((i3 : Int).toNat * 2 + 0), [], [.ro 0 2 (List.map en_api_RoundTrip a1)], []⟩, ⟨vi x4.1, [], [.ro 0 2 (List.map en_api_RoundTrip a1)], []⟩, ⟨.ref 1, [], [], []⟩, ⟨vi i3, [], [], []⟩, ⟨.cell 1 ((i3 : Int).toNat * 2), [], [.ro 1 2 (List.map en_api_RoundTrip b2)], []⟩, ⟨.cell 1 ((i3 : Int).toNat * 2 + 0), [], [.ro 1 2 (List.map en_api_RoundTrip b2)], []⟩, ⟨vi x5.1, [], [.ro 1 2 (List.map en_api_RoundTrip b2)], []⟩, ⟨.val (.bool (x4.1 != x5.1)), [], [], []⟩, ⟨.val (.bool false), [], [], []⟩, ⟨.ref 0, [], [], []⟩, ⟨vi i3, [], [], []⟩, ⟨.cell 0 ((i3 : Int).toNat * 2), [], [.ro 0 2 (List.map en_api_RoundTrip a1)], []⟩, ⟨.cell 0 ((i3 : Int).toNat * 2 + 1), [], [.ro 0 2 (List.map en_api_RoundTrip a1)], []⟩, ⟨.ref 2, [.ro 2 1 (List.map en_int x4.2)], [.ro 0 2 (List.map en_api_RoundTrip a1)], []⟩, ⟨.ref 1, [], [], []⟩, ⟨vi i3, [], [], []⟩, ⟨.cell 1 ((i3 : Int).toNat * 2), [], [.ro 1 2 (List.map en_api_RoundTrip b2)], []⟩, ⟨.cell 1 ((i3 : Int).toNat * 2 + 1), [], [.ro 1 2 (List.map en_api_RoundTrip b2)], []⟩, ⟨.ref 3, [.ro 3 1 (List.map en_int x5.2)], [.ro 1 2 (List.map en_api_RoundTrip b2)], []⟩] rfl ?_ rfl ?_ rfl ?_ ?_
        · kernel_rfl
        · kernel_rfl
        · exact DAll.op' (sp_move rfl rfl) trivial rfl (From.ok (ps := []) trivial) (DAll.op' (sp_move rfl rfl) trivial rfl (From.ok (ps := []) trivial) (DAll.op' (sp_indexS rfl rfl rfl isRo sl68 h3 (map_get _ h4)) trivial rfl (From.ok (ps := [(none, 0)]) ⟨⟨rfl, by kernel_rfl⟩, trivial⟩) (DAll.op' (sp_fieldAddrR (i := (i3 : Int).toNat) rfl rfl isRo ft65_0 vt3 (by decide) (map_get _ h4) (fun h => nomatch h)) trivial rfl (From.ok (ps := [(none, 0)]) ⟨⟨rfl, by kernel_rfl⟩, trivial⟩) (DAll.op' (sp_loadR (i := (i3 : Int).toNat) (j := 0) rfl rfl isRo vt3 rfl (map_get _ h4) rfl (.v (.nil)) (nodup_of_B rfl)) trivial rfl (From.ok (ps := [(none, 0)]) ⟨⟨rfl, by kernel_rfl⟩, trivial⟩) (DAll.op' (sp_move rfl rfl) trivial rfl (From.ok (ps := []) trivial) (DAll.op' (sp_move rfl rfl) trivial rfl (From.ok (ps := []) trivial) (DAll.op' (sp_indexS rfl rfl rfl isRo sl68 h5 (map_get _ h6)) trivial rfl (From.ok (ps := [(none, 1)]) ⟨⟨rfl, by kernel_rfl⟩, trivial⟩) (DAll.op' (sp_fieldAddrR (i := (i3 : Int).toNat) rfl rfl isRo ft65_0 vt3 (by decide) (map_get _ h6) (fun h => nomatch h)) trivial rfl (From.ok (ps := [(none, 1)]) ⟨⟨rfl, by kernel_rfl⟩, trivial⟩) (DAll.op' (sp_loadR (i := (i3 : Int).toNat) (j := 0) rfl rfl isRo vt3 rfl (map_get _ h6) rfl (.v (.nil)) (nodup_of_B rfl)) trivial rfl (From.ok (ps := [(none, 1)]) ⟨⟨rfl, by kernel_rfl⟩, trivial⟩) (DAll.op' (sp_neq rfl rfl rfl) trivial rfl (From.ok (ps := []) trivial) (DAll.op' (sp_castB h7 (sp_move rfl rfl)) trivial rfl (From.ok (ps := []) trivial) (DAll.op' (sp_move rfl rfl) ⟨_, rfl, rfl⟩ rfl (From.ok (ps := []) trivial) (DAll.op' (sp_move rfl rfl) ⟨_, rfl, rfl⟩ rfl (From.ok (ps := []) trivial) (DAll.op' (sp_indexS rfl rfl rfl isRo sl68 h3 (map_get _ h4)) ⟨_, rfl, rfl⟩ rfl (From.ok (ps := [(none, 0)]) ⟨⟨rfl, by kernel_rfl⟩, trivial⟩) (DAll.op' (sp_fieldAddrR (i := (i3 : Int).toNat) rfl rfl isRo ft65_1 vt30 (by decide) (map_get _ h4) (fun h => nomatch h)) ⟨_, rfl, rfl⟩ rfl (From.ok (ps := [(none, 0)]) ⟨⟨rfl, by kernel_rfl⟩, trivial⟩) (DAll.op' (sp_loadR (i := (i3 : Int).toNat) (j := 1) (ns := [.ro 2 1 (List.map en_int x4.2)]) rfl rfl isRo vt30 rfl (map_get _ h4) rfl (.s (.nil)) (nodup_of_B rfl)) ⟨_, rfl, rfl⟩ rfl (From.ok (ps := [(none, 0)]) ⟨⟨rfl, by kernel_rfl⟩, trivial⟩) (DAll.op' (sp_move rfl rfl) ⟨_, rfl, rfl⟩ rfl (From.ok (ps := []) trivial) (DAll.op' (sp_move rfl rfl) ⟨_, rfl, rfl⟩ rfl (From.ok (ps := []) trivial) (DAll.op' (sp_indexS rfl rfl rfl isRo sl68 h5 (map_get _ h6)) ⟨_, rfl, rfl⟩ rfl (From.ok (ps := [(none, 1)]) ⟨⟨rfl, by kernel_rfl⟩, trivial⟩) (DAll.op' (sp_fieldAddrR (i := (i3 : Int).toNat) rfl rfl isRo ft65_1 vt30 (by decide) (map_get _ h6) (fun h => nomatch h)) ⟨_, rfl, rfl⟩ rfl (From.ok (ps := [(none, 1)]) ⟨⟨rfl, by kernel_rfl⟩, trivial⟩) (DAll.op' (sp_loadR (i := (i3 : Int).toNat) (j := 1) (ns := [.ro 3 1 (List.map en_int x5.2)]) rfl rfl isRo vt30 rfl (map_get _ h6) rfl (.s (.nil)) (nodup_of_B rfl)) ⟨_, rfl, rfl⟩ rfl (From.ok (ps := [(none, 1)]) ⟨⟨rfl, by kernel_rfl⟩, trivial⟩) (.nil))))))))))))))))))))))
        obtain ⟨r6, h8, h⟩ := bind_inv h
        refine opN (need := [.ro 2 1 (List.map en_int x4.2), .ro 3 1 (List.map en_int x5.2)]) [1, 0] ⟨rfl, rfl, trivial⟩ (sp_call (avs := [.ref 2, .ref 3]) (need := [.ro 2 1 (List.map en_int x4.2), .ro 3 1 (List.map en_int x5.2)]) (v := .val (.bool r6)) (news := []) rfl rfl rfl Try.call14 (atJ [(0, 2), (1, 3)] [] (fc_ref11_Same h8) rfl rfl) (.inl (roAll rfl))) rfl ⟨_, rfl, rfl⟩ rfl rfl ?_
        refine op0 (sp_not rfl rfl) rfl ⟨_, rfl, rfl⟩ rfl rfl ?_
        refine op0 (sp_pickF rfl rfl rfl) rfl trivial rfl rfl ?_
        refine TL.nil ?_
        refine TC.cond (b := (!r6)) rfl (fun h9 => ?_) (fun h9 => ?_)
        · have h := cond_t h h9
          refine TC.seq ?_
          refine TC.region ?_
          refine op0 (sp_assign rfl rfl) rfl trivial rfl rfl ?_
          refine TL.nil ?_
          cases h
          exact retJ [] (.tmp rfl .nil) rfl trivial rfl rfl
        · have h := cond_f h h9
          refine TC.skip ?_
          refine TC.inBlock ?_
          refine TC.region ?_
          refine op0 (sp_move rfl rfl) rfl trivial rfl rfl ?_
          obtain ⟨h10, h⟩ := chk_inv h
          refine op0 (sp_add rfl rfl rfl h10) rfl trivial rfl rfl ?_
          refine op0 (sp_assign rfl rfl) rfl trivial rfl rfl ?_
          refine TL.nil ?_
          refine TC.inLoop ?_
          refine TC.seq ?_
          refine TC.seq ?_
          refine subJ [] (ih _ h) ?_ ?_ ?_
          · exact ⟨rfl, rfl, rfl, trivial⟩
          · exact ⟨mem_at 2 rfl, mem_at 3 rfl, trivial⟩
          · rfl
    · have h := cond_f h h2
      refine TC.exit rfl ?_
      refine TC.seq ?_
      refine TC.region ?_
      refine op0 (sp_assign rfl rfl) rfl trivial rfl rfl ?_
      refine TL.nil ?_
      cases h
      exact retJ [] (.tmp rfl .nil) rfl trivial rfl rfl
def ev_ref11_Equal (n : Nat) (a1 : List (Int × (List Int))) (b2 : List (Int × (List Int))) : Option Bool :=
  cond ((a1.length : Int) != (b2.length : Int)) (some false) (ev_ref11_Equal_l0 n a1 b2 n 0)
theorem fc_ref11_Equal {n : Nat} {a1 : List (Int × (List Int))} {b2 : List (Int × (List Int))} {r : Bool} (h : ev_ref11_Equal n a1 b2 = some r) : FC Try.prog 27 [.ref 0, .ref 1] [.ro 0 2 (List.map en_api_RoundTrip a1), .ro 1 2 (List.map en_api_RoundTrip b2)] (.val (.bool r)) [] := by
  refine introJ (nz := 42) Try.func27 rfl rfl rfl (fun w0 R0 env0 => ?_)
  rw [ev_ref11_Equal] at h
  refine TC.seq ?_
  refine TC.region ?_
  refine op0 (sp_assign rfl rfl) rfl trivial rfl rfl ?_
  refine TL.nil ?_
  refine TC.seq ?_
  refine TC.seq ?_
  refine TC.region ?_
  refine op0 (sp_move rfl rfl) rfl trivial rfl rfl ?_
  refine op1 0 rfl (sp_lenM (N := a1.length) (len_map _ _) rfl rfl isRo Try.underlying68) rfl trivial rfl rfl ?_
  refine op0 (sp_move rfl rfl) rfl trivial rfl rfl ?_
  refine op1 1 rfl (sp_lenM (N := b2.length) (len_map _ _) rfl rfl isRo Try.underlying68) rfl trivial rfl rfl ?_
  refine op0 (sp_neq rfl rfl rfl) rfl trivial rfl rfl ?_
  refine TL.nil ?_
  refine TC.cond (b := ((a1.length : Int) != (b2.length : Int))) rfl (fun h1 => ?_) (fun h1 => ?_)
  · have h := cond_t h h1
    refine TC.seq ?_
    refine TC.region ?_
    refine op0 (sp_assign rfl rfl) rfl trivial rfl rfl ?_
    refine TL.nil ?_
    cases h
    exact retJ [] (.tmp rfl .nil) rfl trivial rfl rfl
  · have h := cond_f h h1
    refine TC.skip ?_
    refine TC.seq ?_
    refine TC.seq ?_
    refine TC.region ?_
    refine op0 (sp_assign rfl rfl) rfl trivial rfl rfl ?_
    refine TL.nil ?_
    refine TC.block ?_
    refine TC.loop ?_
    refine TC.seq ?_
    refine TC.seq ?_
    refine subJ [] (ok_ref11_Equal_l0 _ _ h) ?_ ?_ ?_
    · exact ⟨rfl, rfl, rfl, trivial⟩
    · exact ⟨mem_at 0 rfl, mem_at 1 rfl, trivial⟩
    · rfl
end
end Go.Proofs.Ytohjpfkcahlfkaa.Sy
