/- What functions of the program compute, and that they do: printed by symgen.py. -/
import Derived.Test.YtohjpfkcahlfkaaPdGLib
set_option linter.unusedSimpArgs false
set_option linter.unusedVariables false
namespace Go.Proofs.Ytohjpfkcahlfkaa.Sy
open Go.RowKit
noncomputable section
set_option maxRecDepth 100000
set_option maxHeartbeats 2000000
def ev_ref11_Smaller_l0 (n : Nat) (a1 : List Int) (b2 : List Int) : Nat → Int → Option Bool
  | 0, _ => none
  | m + 1, i3 => cond (decide (i3 < (a1.length : Int))) (cond (decide (i3 < (b2.length : Int))) (idx a1 i3 fun x4 => idx b2 i3 fun x5 => cond (x4 != x5) (some (decide (x4 < x5))) (chk (in64 (i3 + 1)) <| ev_ref11_Smaller_l0 n a1 b2 m (i3 + 1))) (some (decide ((a1.length : Int) < (b2.length : Int))))) (some (decide ((a1.length : Int) < (b2.length : Int))))
theorem ok_ref11_Smaller_l0 {n : Nat} {w0 : World} {R0 : Nat → Prop} {env0 : Env} {r : Bool} {a1 : List Int} {b2 : List Int} : ∀ (m : Nat) (i3 : Int), ev_ref11_Smaller_l0 n a1 b2 m i3 = some r → TC Try.prog ⟨w0, fun _ => False, R0⟩ 41 (bodyPost Try.prog Try.f31 (Post ⟨w0, fun _ => False, R0⟩ env0 (.val (.bool r)) [])) [.code (sub (bodyOf Try.f31) [1, 0, 1, 0, 0, 0, 0]), .code (sub (bodyOf Try.f31) [1, 0, 1, 0, 0, 0, 1]), .code (sub (bodyOf Try.f31) [1, 0, 1, 0, 0, 1]), .inLoop (sub (bodyOf Try.f31) [1, 0, 1, 0, 0]), .inBlock 0, .code (sub (bodyOf Try.f31) [1, 1])] ([(0, .ref 0), (1, .ref 1), (5, vi i3)]) ([.ro 0 1 (List.map en_int a1), .ro 1 1 (List.map en_int b2)]) := by
  intro m
  induction m with
  | zero => intro i3 h; exact none_no h
  | succ m ih =>
    intro i3 h
    rw [ev_ref11_Smaller_l0] at h
    refine TC.region ?_
    refine op0 (sp_move rfl rfl) rfl trivial rfl rfl ?_
    refine op0 (sp_move rfl rfl) rfl trivial rfl rfl ?_
    refine op1 0 rfl (sp_lenM (N := a1.length) (len_map _ _) rfl rfl isRo Try.underlying30) rfl trivial rfl rfl ?_
    refine op0 (sp_lss rfl rfl rfl) rfl trivial rfl rfl ?_
    refine op0 (sp_move rfl rfl) rfl trivial rfl rfl ?_
    rcases cond_cases h with ⟨h1, h⟩ | ⟨h1, h⟩
    · refine (boolLit 10 rfl h1).2 ?_
      refine op0 (sp_move rfl rfl) rfl ⟨_, rfl, rfl⟩ rfl rfl ?_
      refine op0 (sp_move rfl rfl) rfl ⟨_, rfl, rfl⟩ rfl rfl ?_
      refine op1 1 rfl (sp_lenM (N := b2.length) (len_map _ _) rfl rfl isRo Try.underlying30) rfl ⟨_, rfl, rfl⟩ rfl rfl ?_
      refine op0 (sp_lss rfl rfl rfl) rfl ⟨_, rfl, rfl⟩ rfl rfl ?_
      refine op0 (sp_pickT rfl rfl rfl) rfl trivial rfl rfl ?_
      refine TL.nil ?_
      refine TC.cond (b := (decide (i3 < (b2.length : Int)))) rfl (fun h2 => ?_) (fun h2 => ?_)
      · have h := cond_t h h2
        refine TC.skip ?_
        refine TC.seq ?_
        refine TC.block ?_
        refine TC.seq ?_
        obtain ⟨x4, h3, h4, h⟩ := idx_inv h
        obtain ⟨x5, h5, h6, h⟩ := idx_inv h
        refine drawJ 8 [⟨.ref 0, [], [], []⟩, ⟨vi i3, [], [], []⟩, ⟨.cell 0 ((i3 : Int).toNat * 1), [], [.ro 0 1 (List.map en_int a1)], []⟩, ⟨vi x4, [], [.ro 0 1 (List.map en_int a1)], []⟩, ⟨.ref 1, [], [], []⟩, ⟨vi i3, [], [], []⟩, ⟨.cell 1 ((i3 : Int).toNat * 1), [], [.ro 1 1 (List.map en_int b2)], []⟩, ⟨vi x5, [], [.ro 1 1 (List.map en_int b2)], []⟩] rfl ?_ rfl ?_ rfl ?_ ?_
        · kernel_rfl
        · kernel_rfl
        · exact DAll.op' (sp_move rfl rfl) trivial rfl (From.ok (ps := []) trivial) (DAll.op' (sp_move rfl rfl) trivial rfl (From.ok (ps := []) trivial) (DAll.op' (sp_indexS rfl rfl rfl isRo sl30 h3 (map_get _ h4)) trivial rfl (From.ok (ps := [(none, 0)]) ⟨⟨rfl, rfl⟩, trivial⟩) (DAll.op' (sp_loadR (i := (i3 : Int).toNat) (j := 0) rfl rfl isRo vt3 rfl (map_get _ h4) rfl (.v (.nil)) (nodup_of_B rfl)) trivial rfl (From.ok (ps := [(none, 0)]) ⟨⟨rfl, rfl⟩, trivial⟩) (DAll.op' (sp_move rfl rfl) trivial rfl (From.ok (ps := []) trivial) (DAll.op' (sp_move rfl rfl) trivial rfl (From.ok (ps := []) trivial) (DAll.op' (sp_indexS rfl rfl rfl isRo sl30 h5 (map_get _ h6)) trivial rfl (From.ok (ps := [(none, 1)]) ⟨⟨rfl, rfl⟩, trivial⟩) (DAll.op' (sp_loadR (i := (i3 : Int).toNat) (j := 0) rfl rfl isRo vt3 rfl (map_get _ h6) rfl (.v (.nil)) (nodup_of_B rfl)) trivial rfl (From.ok (ps := [(none, 1)]) ⟨⟨rfl, rfl⟩, trivial⟩) (.nil))))))))
        refine op0 (sp_neq rfl rfl rfl) rfl trivial rfl rfl ?_
        refine TL.nil ?_
        refine TC.cond (b := (x4 != x5)) rfl (fun h7 => ?_) (fun h7 => ?_)
        · have h := cond_t h h7
          refine TC.seq ?_
          refine drawJ 8 [⟨.ref 0, [], [], []⟩, ⟨vi i3, [], [], []⟩, ⟨.cell 0 ((i3 : Int).toNat * 1), [], [.ro 0 1 (List.map en_int a1)], []⟩, ⟨vi x4, [], [.ro 0 1 (List.map en_int a1)], []⟩, ⟨.ref 1, [], [], []⟩, ⟨vi i3, [], [], []⟩, ⟨.cell 1 ((i3 : Int).toNat * 1), [], [.ro 1 1 (List.map en_int b2)], []⟩, ⟨vi x5, [], [.ro 1 1 (List.map en_int b2)], []⟩] rfl ?_ rfl ?_ rfl ?_ ?_
          · kernel_rfl
          · kernel_rfl
          · exact DAll.op' (sp_move rfl rfl) trivial rfl (From.ok (ps := []) trivial) (DAll.op' (sp_move rfl rfl) trivial rfl (From.ok (ps := []) trivial) (DAll.op' (sp_indexS rfl rfl rfl isRo sl30 h3 (map_get _ h4)) trivial rfl (From.ok (ps := [(none, 0)]) ⟨⟨rfl, rfl⟩, trivial⟩) (DAll.op' (sp_loadR (i := (i3 : Int).toNat) (j := 0) rfl rfl isRo vt3 rfl (map_get _ h4) rfl (.v (.nil)) (nodup_of_B rfl)) trivial rfl (From.ok (ps := [(none, 0)]) ⟨⟨rfl, rfl⟩, trivial⟩) (DAll.op' (sp_move rfl rfl) trivial rfl (From.ok (ps := []) trivial) (DAll.op' (sp_move rfl rfl) trivial rfl (From.ok (ps := []) trivial) (DAll.op' (sp_indexS rfl rfl rfl isRo sl30 h5 (map_get _ h6)) trivial rfl (From.ok (ps := [(none, 1)]) ⟨⟨rfl, rfl⟩, trivial⟩) (DAll.op' (sp_loadR (i := (i3 : Int).toNat) (j := 0) rfl rfl isRo vt3 rfl (map_get _ h6) rfl (.v (.nil)) (nodup_of_B rfl)) trivial rfl (From.ok (ps := [(none, 1)]) ⟨⟨rfl, rfl⟩, trivial⟩) (.nil))))))))
          refine op0 (sp_lss rfl rfl rfl) rfl trivial rfl rfl ?_
          refine op0 (sp_assign rfl rfl) rfl trivial rfl rfl ?_
          refine TL.nil ?_
          cases h
          exact retJ [] (.tmp rfl .nil) rfl trivial rfl rfl
        · have h := cond_f h h7
          refine TC.skip ?_
          refine TC.inBlock ?_
          refine TC.region ?_
          refine op0 (sp_move rfl rfl) rfl trivial rfl rfl ?_
          obtain ⟨h8, h⟩ := chk_inv h
          refine op0 (sp_add rfl rfl rfl h8) rfl trivial rfl rfl ?_
          refine op0 (sp_assign rfl rfl) rfl trivial rfl rfl ?_
          refine TL.nil ?_
          refine TC.inLoop ?_
          refine TC.seq ?_
          refine TC.seq ?_
          refine subJ [] (ih _ h) ?_ ?_ ?_
          · exact ⟨rfl, rfl, rfl, trivial⟩
          · exact ⟨mem_at 0 rfl, mem_at 1 rfl, trivial⟩
          · rfl
      · have h := cond_f h h2
        refine TC.exit rfl ?_
        refine TC.seq ?_
        refine TC.region ?_
        refine op0 (sp_move rfl rfl) rfl trivial rfl rfl ?_
        refine op1 0 rfl (sp_lenM (N := a1.length) (len_map _ _) rfl rfl isRo Try.underlying30) rfl trivial rfl rfl ?_
        refine op0 (sp_move rfl rfl) rfl trivial rfl rfl ?_
        refine op1 1 rfl (sp_lenM (N := b2.length) (len_map _ _) rfl rfl isRo Try.underlying30) rfl trivial rfl rfl ?_
        refine op0 (sp_lss rfl rfl rfl) rfl trivial rfl rfl ?_
        refine op0 (sp_assign rfl rfl) rfl trivial rfl rfl ?_
        refine TL.nil ?_
        cases h
        exact retJ [] (.tmp rfl .nil) rfl trivial rfl rfl
    · refine (boolLit 10 rfl h1).2 ?_
      refine opSkip rfl ⟨_, rfl, .inl rfl⟩ rfl ?_
      refine opSkip rfl ⟨_, rfl, .inl rfl⟩ rfl ?_
      refine opSkip rfl ⟨_, rfl, .inl rfl⟩ rfl ?_
      refine opSkip rfl ⟨_, rfl, .inl rfl⟩ rfl ?_
      refine op0 (sp_pickF rfl rfl rfl) rfl trivial rfl rfl ?_
      refine TL.nil ?_
      refine TC.condF rfl ?_
      refine TC.exit rfl ?_
      refine TC.seq ?_
      refine TC.region ?_
      refine op0 (sp_move rfl rfl) rfl trivial rfl rfl ?_
      refine op1 0 rfl (sp_lenM (N := a1.length) (len_map _ _) rfl rfl isRo Try.underlying30) rfl trivial rfl rfl ?_
      refine op0 (sp_move rfl rfl) rfl trivial rfl rfl ?_
      refine op1 1 rfl (sp_lenM (N := b2.length) (len_map _ _) rfl rfl isRo Try.underlying30) rfl trivial rfl rfl ?_
      refine op0 (sp_lss rfl rfl rfl) rfl trivial rfl rfl ?_
      refine op0 (sp_assign rfl rfl) rfl trivial rfl rfl ?_
      refine TL.nil ?_
      cases h
      exact retJ [] (.tmp rfl .nil) rfl trivial rfl rfl
def ev_ref11_Smaller (n : Nat) (a1 : List Int) (b2 : List Int) : Option Bool :=
  ev_ref11_Smaller_l0 n a1 b2 n 0
theorem fc_ref11_Smaller {n : Nat} {a1 : List Int} {b2 : List Int} {r : Bool} (h : ev_ref11_Smaller n a1 b2 = some r) : FC Try.prog 31 [.ref 0, .ref 1] [.ro 0 1 (List.map en_int a1), .ro 1 1 (List.map en_int b2)] (.val (.bool r)) [] := by
  refine introJ (nz := 41) Try.func31 rfl rfl rfl (fun w0 R0 env0 => ?_)
  rw [ev_ref11_Smaller] at h
  refine TC.seq ?_
  refine TC.region ?_
  refine op0 (sp_assign rfl rfl) rfl trivial rfl rfl ?_
  refine TL.nil ?_
  refine TC.seq ?_
  refine TC.seq ?_
  refine TC.region ?_
  refine op0 (sp_assign rfl rfl) rfl trivial rfl rfl ?_
  refine TL.nil ?_
  refine TC.block ?_
  refine TC.loop ?_
  refine TC.seq ?_
  refine TC.seq ?_
  refine subJ [] (ok_ref11_Smaller_l0 _ _ h) ?_ ?_ ?_
  · exact ⟨rfl, rfl, rfl, trivial⟩
  · exact ⟨mem_at 0 rfl, mem_at 1 rfl, trivial⟩
  · rfl
def ev_ref11_Same (n : Nat) (a1 : List Int) (b2 : List Int) : Option Bool :=
  (ev_ref11_Smaller n a1 b2).bind fun r3 => cond (!r3) ((ev_ref11_Smaller n b2 a1).bind fun r4 => some (!r4)) (some false)
theorem fc_ref11_Same {n : Nat} {a1 : List Int} {b2 : List Int} {r : Bool} (h : ev_ref11_Same n a1 b2 = some r) : FC Try.prog 14 [.ref 0, .ref 1] [.ro 0 1 (List.map en_int a1), .ro 1 1 (List.map en_int b2)] (.val (.bool r)) [] := by
  refine introJ (nz := 15) Try.func14 rfl rfl rfl (fun w0 R0 env0 => ?_)
  rw [ev_ref11_Same] at h
  refine TC.seq ?_
  refine TC.region ?_
  refine op0 (sp_assign rfl rfl) rfl trivial rfl rfl ?_
  refine TL.nil ?_
  refine TC.seq ?_
  refine TC.region ?_
  refine op0 (sp_move rfl rfl) rfl trivial rfl rfl ?_
  refine op0 (sp_move rfl rfl) rfl trivial rfl rfl ?_
  obtain ⟨r3, h1, h⟩ := bind_inv h
  refine opN (need := [.ro 0 1 (List.map en_int a1), .ro 1 1 (List.map en_int b2)]) [0, 1] ⟨rfl, rfl, trivial⟩ (sp_call (avs := [.ref 0, .ref 1]) (need := [.ro 0 1 (List.map en_int a1), .ro 1 1 (List.map en_int b2)]) (v := .val (.bool r3)) (news := []) rfl rfl rfl Try.call31 (atJ [] [] (fc_ref11_Smaller h1) rfl rfl) (.inl (roAll rfl))) rfl trivial rfl rfl ?_
  refine op0 (sp_not rfl rfl) rfl trivial rfl rfl ?_
  refine op0 (sp_move rfl rfl) rfl trivial rfl rfl ?_
  rcases cond_cases h with ⟨h2, h⟩ | ⟨h2, h⟩
  · refine (boolLit 9 rfl h2).2 ?_
    refine op0 (sp_move rfl rfl) rfl ⟨_, rfl, rfl⟩ rfl rfl ?_
    refine op0 (sp_move rfl rfl) rfl ⟨_, rfl, rfl⟩ rfl rfl ?_
    obtain ⟨r4, h3, h⟩ := bind_inv h
    refine opN (need := [.ro 1 1 (List.map en_int b2), .ro 0 1 (List.map en_int a1)]) [1, 0] ⟨rfl, rfl, trivial⟩ (sp_call (avs := [.ref 1, .ref 0]) (need := [.ro 1 1 (List.map en_int b2), .ro 0 1 (List.map en_int a1)]) (v := .val (.bool r4)) (news := []) rfl rfl rfl Try.call31 (atJ [(0, 1), (1, 0)] [] (fc_ref11_Smaller h3) rfl rfl) (.inl (roAll rfl))) rfl ⟨_, rfl, rfl⟩ rfl rfl ?_
    refine op0 (sp_not rfl rfl) rfl ⟨_, rfl, rfl⟩ rfl rfl ?_
    refine op0 (sp_pickT rfl rfl rfl) rfl trivial rfl rfl ?_
    refine op0 (sp_assign rfl rfl) rfl trivial rfl rfl ?_
    refine TL.nil ?_
    cases h
    exact retJ [] (.tmp rfl .nil) rfl trivial rfl rfl
  · refine (boolLit 9 rfl h2).2 ?_
    refine opSkip rfl ⟨_, rfl, .inl rfl⟩ rfl ?_
    refine opSkip rfl ⟨_, rfl, .inl rfl⟩ rfl ?_
    refine opSkip rfl ⟨_, rfl, .inl rfl⟩ rfl ?_
    refine opSkip rfl ⟨_, rfl, .inl rfl⟩ rfl ?_
    refine op0 (sp_pickF rfl rfl rfl) rfl trivial rfl rfl ?_
    refine op0 (sp_assign rfl rfl) rfl trivial rfl rfl ?_
    refine TL.nil ?_
    cases h
    exact retJ [] (.tmp rfl .nil) rfl trivial rfl rfl
def ev_ref11_Equal_l0 (n : Nat) (a1 : List (Int × (List Int))) (b2 : List (Int × (List Int))) : Nat → Int → Option Bool
  | 0, _ => none
  | m + 1, i3 => cond (decide (i3 < (a1.length : Int))) (idx a1 i3 fun x4 => idx b2 i3 fun x5 => cond (x4.1 != x5.1) (some false) ((ev_ref11_Same n x4.2 x5.2).bind fun r6 => cond (!r6) (some false) (chk (in64 (i3 + 1)) <| ev_ref11_Equal_l0 n a1 b2 m (i3 + 1)))) (some true)
theorem ok_ref11_Equal_l0 {n : Nat} {w0 : World} {R0 : Nat → Prop} {env0 : Env} {r : Bool} {a1 : List (Int × (List Int))} {b2 : List (Int × (List Int))} : ∀ (m : Nat) (i3 : Int), ev_ref11_Equal_l0 n a1 b2 m i3 = some r → TC Try.prog ⟨w0, fun _ => False, R0⟩ 42 (bodyPost Try.prog Try.f27 (Post ⟨w0, fun _ => False, R0⟩ env0 (.val (.bool r)) [])) [.code (sub (bodyOf Try.f27) [1, 1, 0, 1, 0, 0, 0, 0]), .code (sub (bodyOf Try.f27) [1, 1, 0, 1, 0, 0, 0, 1]), .code (sub (bodyOf Try.f27) [1, 1, 0, 1, 0, 0, 1]), .inLoop (sub (bodyOf Try.f27) [1, 1, 0, 1, 0, 0]), .inBlock 0, .code (sub (bodyOf Try.f27) [1, 1, 1])] ([(0, .ref 0), (1, .ref 1), (5, vi i3)]) ([.ro 0 2 (List.map en_api_RoundTrip a1), .ro 1 2 (List.map en_api_RoundTrip b2)]) := by
  intro m
  induction m with
  | zero => intro i3 h; exact none_no h
  | succ m ih =>
    intro i3 h
    rw [ev_ref11_Equal_l0] at h
    refine TC.region ?_
    refine op0 (sp_move rfl rfl) rfl trivial rfl rfl ?_
    refine op0 (sp_move rfl rfl) rfl trivial rfl rfl ?_
    refine op1 0 rfl (sp_lenM (N := a1.length) (len_map _ _) rfl rfl isRo Try.underlying68) rfl trivial rfl rfl ?_
    refine op0 (sp_lss rfl rfl rfl) rfl trivial rfl rfl ?_
    refine TL.nil ?_
    refine TC.cond (b := (decide (i3 < (a1.length : Int)))) rfl (fun h2 => ?_) (fun h2 => ?_)
    · have h := cond_t h h2
      refine TC.skip ?_
      refine TC.seq ?_
      refine TC.block ?_
      refine TC.seq ?_
      obtain ⟨x4, h3, h4, h⟩ := idx_inv h
      obtain ⟨x5, h5, h6, h⟩ := idx_inv h
      rcases cond_cases h with ⟨h7, h⟩ | ⟨h7, h⟩
      · refine drawJ 22 [⟨.ref 0, [], [], []⟩, ⟨vi i3, [], [], []⟩, ⟨.cell 0 ((i3 : Int).toNat * 2), [], [.ro 0 2 (List.map en_api_RoundTrip a1)], []⟩, ⟨.cell 0 ((i3 : Int).toNat * 2 + 0), [], [.ro 0 2 (List.map en_api_RoundTrip a1)], []⟩, ⟨vi x4.1, [], [.ro 0 2 (List.map en_api_RoundTrip a1)], []⟩, ⟨.ref 1, [], [], []⟩, ⟨vi i3, [], [], []⟩, ⟨.cell 1 ((i3 : Int).toNat * 2), [], [.ro 1 2 (List.map en_api_RoundTrip b2)], []⟩, ⟨.cell 1 ((i3 : Int).toNat * 2 + 0), [], [.ro 1 2 (List.map en_api_RoundTrip b2)], []⟩, ⟨vi x5.1, [], [.ro 1 2 (List.map en_api_RoundTrip b2)], []⟩, ⟨.val (.bool (x4.1 != x5.1)), [], [], []⟩, ⟨.val (.bool true), [], [], []⟩, ⟨.val (undef), [], [], []⟩, ⟨.val (undef), [], [], []⟩, ⟨.val (undef), [], [], []⟩, ⟨.val (undef), [], [], []⟩, ⟨.val (undef), [], [], []⟩, ⟨.val (undef), [], [], []⟩, ⟨.val (undef), [], [], []⟩, ⟨.val (undef), [], [], []⟩, ⟨.val (undef), [], [], []⟩, ⟨.val (undef), [], [], []⟩] rfl ?_ rfl ?_ rfl ?_ ?_
        · kernel_rfl
        · kernel_rfl
        · exact DAll.op' (sp_move rfl rfl) trivial rfl (From.ok (ps := []) trivial) (DAll.op' (sp_move rfl rfl) trivial rfl (From.ok (ps := []) trivial) (DAll.op' (sp_indexS rfl rfl rfl isRo sl68 h3 (map_get _ h4)) trivial rfl (From.ok (ps := [(none, 0)]) ⟨⟨rfl, by kernel_rfl⟩, trivial⟩) (DAll.op' (sp_fieldAddrR (i := (i3 : Int).toNat) rfl rfl isRo ft65_0 vt3 (by decide) (map_get _ h4) (fun h => nomatch h)) trivial rfl (From.ok (ps := [(none, 0)]) ⟨⟨rfl, by kernel_rfl⟩, trivial⟩) (DAll.op' (sp_loadR (i := (i3 : Int).toNat) (j := 0) rfl rfl isRo vt3 rfl (map_get _ h4) rfl (.v (.nil)) (nodup_of_B rfl)) trivial rfl (From.ok (ps := [(none, 0)]) ⟨⟨rfl, by kernel_rfl⟩, trivial⟩) (DAll.op' (sp_move rfl rfl) trivial rfl (From.ok (ps := []) trivial) (DAll.op' (sp_move rfl rfl) trivial rfl (From.ok (ps := []) trivial) (DAll.op' (sp_indexS rfl rfl rfl isRo sl68 h5 (map_get _ h6)) trivial rfl (From.ok (ps := [(none, 1)]) ⟨⟨rfl, by kernel_rfl⟩, trivial⟩) (DAll.op' (sp_fieldAddrR (i := (i3 : Int).toNat) rfl rfl isRo ft65_0 vt3 (by decide) (map_get _ h6) (fun h => nomatch h)) trivial rfl (From.ok (ps := [(none, 1)]) ⟨⟨rfl, by kernel_rfl⟩, trivial⟩) (DAll.op' (sp_loadR (i := (i3 : Int).toNat) (j := 0) rfl rfl isRo vt3 rfl (map_get _ h6) rfl (.v (.nil)) (nodup_of_B rfl)) trivial rfl (From.ok (ps := [(none, 1)]) ⟨⟨rfl, by kernel_rfl⟩, trivial⟩) (DAll.op' (sp_neq rfl rfl rfl) trivial rfl (From.ok (ps := []) trivial) (DAll.op' (sp_castB h7 (sp_move rfl rfl)) trivial rfl (From.ok (ps := []) trivial) (.skip ⟨_, rfl, .inl rfl⟩ rfl rfl rfl (.skip ⟨_, rfl, .inl rfl⟩ rfl rfl rfl (.skip ⟨_, rfl, .inl rfl⟩ rfl rfl rfl (.skip ⟨_, rfl, .inl rfl⟩ rfl rfl rfl (.skip ⟨_, rfl, .inl rfl⟩ rfl rfl rfl (.skip ⟨_, rfl, .inl rfl⟩ rfl rfl rfl (.skip ⟨_, rfl, .inl rfl⟩ rfl rfl rfl (.skip ⟨_, rfl, .inl rfl⟩ rfl rfl rfl (.skip ⟨_, rfl, .inl rfl⟩ rfl rfl rfl (.skip ⟨_, rfl, .inl rfl⟩ rfl rfl rfl (.nil))))))))))))))))))))))
        refine opSkip rfl ⟨_, rfl, .inl rfl⟩ rfl ?_
        refine opSkip rfl ⟨_, rfl, .inl rfl⟩ rfl ?_
        refine op0 (sp_pickT rfl rfl rfl) rfl trivial rfl rfl ?_
        refine TL.nil ?_
        refine TC.condT rfl ?_
        refine TC.seq ?_
        refine TC.region ?_
        refine op0 (sp_assign rfl rfl) rfl trivial rfl rfl ?_
        refine TL.nil ?_
        cases h
        exact retJ [] (.tmp rfl .nil) rfl trivial rfl rfl
      · refine drawJ 22 [⟨.ref 0, [], [], []⟩, ⟨vi i3, [], [], []⟩, ⟨.cell 0 ((i3 : Int).toNat * 2), [], [.ro 0 2 (List.map en_api_RoundTrip a1)], []⟩, ⟨.cell 0 ((i3 : Int).toNat * 2 + 0), [], [.ro 0 2 (List.map en_api_RoundTrip a1)], []⟩, ⟨vi x4.1, [], [.ro 0 2 (List.map en_api_RoundTrip a1)], []⟩, ⟨.ref 1, [], [], []⟩, ⟨vi i3, [], [], []⟩, ⟨.cell 1 ((i3 : Int).toNat * 2), [], [.ro 1 2 (List.map en_api_RoundTrip b2)], []⟩, ⟨.cell 1 ((i3 : Int).toNat * 2 + 0), [], [.ro 1 2 (List.map en_api_RoundTrip b2)], []⟩, ⟨vi x5.1, [], [.ro 1 2 (List.map en_api_RoundTrip b2)], []⟩, ⟨.val (.bool (x4.1 != x5.1)), [], [], []⟩, ⟨.val (.bool false), [], [], []⟩, ⟨.ref 0, [], [], []⟩, ⟨vi i3, [], [], []⟩, ⟨.cell 0 ((i3 : Int).toNat * 2), [], [.ro 0 2 (List.map en_api_RoundTrip a1)], []⟩, ⟨.cell 0 ((i3 : Int).toNat * 2 + 1), [], [.ro 0 2 (List.map en_api_RoundTrip a1)], []⟩, ⟨.ref 2, [.ro 2 1 (List.map en_int x4.2)], [.ro 0 2 (List.map en_api_RoundTrip a1)], []⟩, ⟨.ref 1, [], [], []⟩, ⟨vi i3, [], [], []⟩, ⟨.cell 1 ((i3 : Int).toNat * 2), [], [.ro 1 2 (List.map en_api_RoundTrip b2)], []⟩, ⟨.cell 1 ((i3 : Int).toNat * 2 + 1), [], [.ro 1 2 (List.map en_api_RoundTrip b2)], []⟩, ⟨.ref 3, [.ro 3 1 (List.map en_int x5.2)], [.ro 1 2 (List.map en_api_RoundTrip b2)], []⟩] rfl ?_ rfl ?_ rfl ?_ ?_
        · kernel_rfl
        · kernel_rfl
        · exact DAll.op' (sp_move rfl rfl) trivial rfl (From.ok (ps := []) trivial) (DAll.op' (sp_move rfl rfl) trivial rfl (From.ok (ps := []) trivial) (DAll.op' (sp_indexS rfl rfl rfl isRo sl68 h3 (map_get _ h4)) trivial rfl (From.ok (ps := [(none, 0)]) ⟨⟨rfl, by kernel_rfl⟩, trivial⟩) (DAll.op' (sp_fieldAddrR (i := (i3 : Int).toNat) rfl rfl isRo ft65_0 vt3 (by decide) (map_get _ h4) (fun h => nomatch h)) trivial rfl (From.ok (ps := [(none, 0)]) ⟨⟨rfl, by kernel_rfl⟩, trivial⟩) (DAll.op' (sp_loadR (i := (i3 : Int).toNat) (j := 0) rfl rfl isRo vt3 rfl (map_get _ h4) rfl (.v (.nil)) (nodup_of_B rfl)) trivial rfl (From.ok (ps := [(none, 0)]) ⟨⟨rfl, by kernel_rfl⟩, trivial⟩) (DAll.op' (sp_move rfl rfl) trivial rfl (From.ok (ps := []) trivial) (DAll.op' (sp_move rfl rfl) trivial rfl (From.ok (ps := []) trivial) (DAll.op' (sp_indexS rfl rfl rfl isRo sl68 h5 (map_get _ h6)) trivial rfl (From.ok (ps := [(none, 1)]) ⟨⟨rfl, by kernel_rfl⟩, trivial⟩) (DAll.op' (sp_fieldAddrR (i := (i3 : Int).toNat) rfl rfl isRo ft65_0 vt3 (by decide) (map_get _ h6) (fun h => nomatch h)) trivial rfl (From.ok (ps := [(none, 1)]) ⟨⟨rfl, by kernel_rfl⟩, trivial⟩) (DAll.op' (sp_loadR (i := (i3 : Int).toNat) (j := 0) rfl rfl isRo vt3 rfl (map_get _ h6) rfl (.v (.nil)) (nodup_of_B rfl)) trivial rfl (From.ok (ps := [(none, 1)]) ⟨⟨rfl, by kernel_rfl⟩, trivial⟩) (DAll.op' (sp_neq rfl rfl rfl) trivial rfl (From.ok (ps := []) trivial) (DAll.op' (sp_castB h7 (sp_move rfl rfl)) trivial rfl (From.ok (ps := []) trivial) (DAll.op' (sp_move rfl rfl) ⟨_, rfl, rfl⟩ rfl (From.ok (ps := []) trivial) (DAll.op' (sp_move rfl rfl) ⟨_, rfl, rfl⟩ rfl (From.ok (ps := []) trivial) (DAll.op' (sp_indexS rfl rfl rfl isRo sl68 h3 (map_get _ h4)) ⟨_, rfl, rfl⟩ rfl (From.ok (ps := [(none, 0)]) ⟨⟨rfl, by kernel_rfl⟩, trivial⟩) (DAll.op' (sp_fieldAddrR (i := (i3 : Int).toNat) rfl rfl isRo ft65_1 vt30 (by decide) (map_get _ h4) (fun h => nomatch h)) ⟨_, rfl, rfl⟩ rfl (From.ok (ps := [(none, 0)]) ⟨⟨rfl, by kernel_rfl⟩, trivial⟩) (DAll.op' (sp_loadR (i := (i3 : Int).toNat) (j := 1) (ns := [.ro 2 1 (List.map en_int x4.2)]) rfl rfl isRo vt30 rfl (map_get _ h4) rfl (.s (.nil)) (nodup_of_B rfl)) ⟨_, rfl, rfl⟩ rfl (From.ok (ps := [(none, 0)]) ⟨⟨rfl, by kernel_rfl⟩, trivial⟩) (DAll.op' (sp_move rfl rfl) ⟨_, rfl, rfl⟩ rfl (From.ok (ps := []) trivial) (DAll.op' (sp_move rfl rfl) ⟨_, rfl, rfl⟩ rfl (From.ok (ps := []) trivial) (DAll.op' (sp_indexS rfl rfl rfl isRo sl68 h5 (map_get _ h6)) ⟨_, rfl, rfl⟩ rfl (From.ok (ps := [(none, 1)]) ⟨⟨rfl, by kernel_rfl⟩, trivial⟩) (DAll.op' (sp_fieldAddrR (i := (i3 : Int).toNat) rfl rfl isRo ft65_1 vt30 (by decide) (map_get _ h6) (fun h => nomatch h)) ⟨_, rfl, rfl⟩ rfl (From.ok (ps := [(none, 1)]) ⟨⟨rfl, by kernel_rfl⟩, trivial⟩) (DAll.op' (sp_loadR (i := (i3 : Int).toNat) (j := 1) (ns := [.ro 3 1 (List.map en_int x5.2)]) rfl rfl isRo vt30 rfl (map_get _ h6) rfl (.s (.nil)) (nodup_of_B rfl)) ⟨_, rfl, rfl⟩ rfl (From.ok (ps := [(none, 1)]) ⟨⟨rfl, by kernel_rfl⟩, trivial⟩) (.nil))))))))))))))))))))))
        obtain ⟨r6, h8, h⟩ := bind_inv h
        refine opN (need := [.ro 2 1 (List.map en_int x4.2), .ro 3 1 (List.map en_int x5.2)]) [1, 0] ⟨rfl, rfl, trivial⟩ (sp_call (avs := [.ref 2, .ref 3]) (need := [.ro 2 1 (List.map en_int x4.2), .ro 3 1 (List.map en_int x5.2)]) (v := .val (.bool r6)) (news := []) rfl rfl rfl Try.call14 (atJ [(0, 2), (1, 3)] [] (fc_ref11_Same h8) rfl rfl) (.inl (roAll rfl))) rfl ⟨_, rfl, rfl⟩ rfl rfl ?_
        refine op0 (sp_not rfl rfl) rfl ⟨_, rfl, rfl⟩ rfl rfl ?_
        refine op0 (sp_pickF rfl rfl rfl) rfl trivial rfl rfl ?_
        refine TL.nil ?_
        refine TC.cond (b := (!r6)) rfl (fun h9 => ?_) (fun h9 => ?_)
        · have h := cond_t h h9
          refine TC.seq ?_
          refine TC.region ?_
          refine op0 (sp_assign rfl rfl) rfl trivial rfl rfl ?_
          refine TL.nil ?_
          cases h
          exact retJ [] (.tmp rfl .nil) rfl trivial rfl rfl
        · have h := cond_f h h9
          refine TC.skip ?_
          refine TC.inBlock ?_
          refine TC.region ?_
          refine op0 (sp_move rfl rfl) rfl trivial rfl rfl ?_
          obtain ⟨h10, h⟩ := chk_inv h
          refine op0 (sp_add rfl rfl rfl h10) rfl trivial rfl rfl ?_
          refine op0 (sp_assign rfl rfl) rfl trivial rfl rfl ?_
          refine TL.nil ?_
          refine TC.inLoop ?_
          refine TC.seq ?_
          refine TC.seq ?_
          refine subJ [] (ih _ h) ?_ ?_ ?_
          · exact ⟨rfl, rfl, rfl, trivial⟩
          · exact ⟨mem_at 2 rfl, mem_at 3 rfl, trivial⟩
          · rfl
    · have h := cond_f h h2
      refine TC.exit rfl ?_
      refine TC.seq ?_
      refine TC.region ?_
      refine op0 (sp_assign rfl rfl) rfl trivial rfl rfl ?_
      refine TL.nil ?_
      cases h
      exact retJ [] (.tmp rfl .nil) rfl trivial rfl rfl
def ev_ref11_Equal (n : Nat) (a1 : List (Int × (List Int))) (b2 : List (Int × (List Int))) : Option Bool :=
  cond ((a1.length : Int) != (b2.length : Int)) (some false) (ev_ref11_Equal_l0 n a1 b2 n 0)
theorem fc_ref11_Equal {n : Nat} {a1 : List (Int × (List Int))} {b2 : List (Int × (List Int))} {r : Bool} (h : ev_ref11_Equal n a1 b2 = some r) : FC Try.prog 27 [.ref 0, .ref 1] [.ro 0 2 (List.map en_api_RoundTrip a1), .ro 1 2 (List.map en_api_RoundTrip b2)] (.val (.bool r)) [] := by
  refine introJ (nz := 42) Try.func27 rfl rfl rfl (fun w0 R0 env0 => ?_)
  rw [ev_ref11_Equal] at h
  refine TC.seq ?_
  refine TC.region ?_
  refine op0 (sp_assign rfl rfl) rfl trivial rfl rfl ?_
  refine TL.nil ?_
  refine TC.seq ?_
  refine TC.seq ?_
  refine TC.region ?_
  refine op0 (sp_move rfl rfl) rfl trivial rfl rfl ?_
  refine op1 0 rfl (sp_lenM (N := a1.length) (len_map _ _) rfl rfl isRo Try.underlying68) rfl trivial rfl rfl ?_
  refine op0 (sp_move rfl rfl) rfl trivial rfl rfl ?_
  refine op1 1 rfl (sp_lenM (N := b2.length) (len_map _ _) rfl rfl isRo Try.underlying68) rfl trivial rfl rfl ?_
  refine op0 (sp_neq rfl rfl rfl) rfl trivial rfl rfl ?_
  refine TL.nil ?_
  refine TC.cond (b := ((a1.length : Int) != (b2.length : Int))) rfl (fun h1 => ?_) (fun h1 => ?_)
  · have h := cond_t h h1
    refine TC.seq ?_
    refine TC.region ?_
    refine op0 (sp_assign rfl rfl) rfl trivial rfl rfl ?_
    refine TL.nil ?_
    cases h
    exact retJ [] (.tmp rfl .nil) rfl trivial rfl rfl
  · have h := cond_f h h1
    refine TC.skip ?_
    refine TC.seq ?_
    refine TC.seq ?_
    refine TC.region ?_
    refine op0 (sp_assign rfl rfl) rfl trivial rfl rfl ?_
    refine TL.nil ?_
    refine TC.block ?_
    refine TC.loop ?_
    refine TC.seq ?_
    refine TC.seq ?_
    refine subJ [] (ok_ref11_Equal_l0 _ _ h) ?_ ?_ ?_
    · exact ⟨rfl, rfl, rfl, trivial⟩
    · exact ⟨mem_at 0 rfl, mem_at 1 rfl, trivial⟩
    · rfl
def ev_ref11_in (n : Nat) (nn1 : Int) (least2 : Int) (most3 : Int) : Option Bool :=
  cond (decide (least2 ≤ nn1)) (some (decide (nn1 ≤ most3))) (some false)
theorem fc_ref11_in {n : Nat} {nn1 : Int} {least2 : Int} {most3 : Int} {r : Bool} (h : ev_ref11_in n nn1 least2 most3 = some r) : FC Try.prog 32 [vi nn1, vi least2, vi most3] [] (.val (.bool r)) [] := by
  refine introJ (nz := 15) Try.func32 rfl rfl rfl (fun w0 R0 env0 => ?_)
  rw [ev_ref11_in] at h
  refine TC.seq ?_
  refine TC.region ?_
  refine op0 (sp_assign rfl rfl) rfl trivial rfl rfl ?_
  refine TL.nil ?_
  refine TC.seq ?_
  refine TC.region ?_
  refine op0 (sp_move rfl rfl) rfl trivial rfl rfl ?_
  refine op0 (sp_move rfl rfl) rfl trivial rfl rfl ?_
  refine op0 (sp_geq rfl rfl rfl) rfl trivial rfl rfl ?_
  refine op0 (sp_move rfl rfl) rfl trivial rfl rfl ?_
  rcases cond_cases h with ⟨h1, h⟩ | ⟨h1, h⟩
  · refine (boolLit 10 rfl h1).2 ?_
    refine op0 (sp_move rfl rfl) rfl ⟨_, rfl, rfl⟩ rfl rfl ?_
    refine op0 (sp_move rfl rfl) rfl ⟨_, rfl, rfl⟩ rfl rfl ?_
    refine op0 (sp_leq rfl rfl rfl) rfl ⟨_, rfl, rfl⟩ rfl rfl ?_
    refine op0 (sp_pickT rfl rfl rfl) rfl trivial rfl rfl ?_
    refine op0 (sp_assign rfl rfl) rfl trivial rfl rfl ?_
    refine TL.nil ?_
    cases h
    exact retJ [] (.tmp rfl .nil) rfl trivial rfl rfl
  · refine (boolLit 10 rfl h1).2 ?_
    refine opSkip rfl ⟨_, rfl, .inl rfl⟩ rfl ?_
    refine opSkip rfl ⟨_, rfl, .inl rfl⟩ rfl ?_
    refine opSkip rfl ⟨_, rfl, .inl rfl⟩ rfl ?_
    refine op0 (sp_pickF rfl rfl rfl) rfl trivial rfl rfl ?_
    refine op0 (sp_assign rfl rfl) rfl trivial rfl rfl ?_
    refine TL.nil ?_
    cases h
    exact retJ [] (.tmp rfl .nil) rfl trivial rfl rfl
def ev_ref11_Check_l3 (n : Nat) (rr1 : List (Int × Int × Int × Int × Int)) (rr2 : List ((List Int))) (i9 : Int) (k_ref11_Check_l2 : Int → Option Int) : Nat → Int → Option Int
  | 0, _ => none
  | m + 1, i10 => cond (decide (i10 ≤ (rr1.length : Int))) (idx rr2 i9 fun x11 => idx x11 i10 fun x12 => (ev_ref11_in n x12 0 1440).bind fun r13 => cond (!r13) (some 2) (cond (i9 == i10) (cond (x12 != 0) (some 2) (chk (in64 (i10 + 1)) <| ev_ref11_Check_l3 n rr1 rr2 i9 k_ref11_Check_l2 m (i10 + 1))) (chk (in64 (i10 + 1)) <| ev_ref11_Check_l3 n rr1 rr2 i9 k_ref11_Check_l2 m (i10 + 1)))) (chk (in64 (i9 + 1)) <| k_ref11_Check_l2 (i9 + 1))
theorem ok_ref11_Check_l3 {n : Nat} {w0 : World} {R0 : Nat → Prop} {env0 : Env} {r : Int} {rr1 : List (Int × Int × Int × Int × Int)} {rr4 : Int} {rr5 : Int} {rr2 : List ((List Int))} {rr3 : List (Int × Int × Int × Int)} {i9 : Int} {k_ref11_Check_l2 : Int → Option Int} (hk_ref11_Check_l2 : ∀ (i9 : Int), k_ref11_Check_l2 i9 = some r → TC Try.prog ⟨w0, fun _ => False, R0⟩ 158 (bodyPost Try.prog Try.f15 (Post ⟨w0, fun _ => False, R0⟩ env0 (vi r) [])) [.code (sub (bodyOf Try.f15) [1, 1, 1, 1, 1, 0, 1, 0, 0, 0, 0]), .code (sub (bodyOf Try.f15) [1, 1, 1, 1, 1, 0, 1, 0, 0, 0, 1]), .code (sub (bodyOf Try.f15) [1, 1, 1, 1, 1, 0, 1, 0, 0, 1]), .inLoop (sub (bodyOf Try.f15) [1, 1, 1, 1, 1, 0, 1, 0, 0]), .inBlock 2, .code (sub (bodyOf Try.f15) [1, 1, 1, 1, 1, 1])] ([(1, .ptr 3 0), (3, vi (rr1.length : Int)), (5, vi i9)]) ([.blk 3 [.ref 0, .ref 1, .ref 2, vi rr4, vi rr5] 26, .ro 0 5 (List.map en_api_RoundTower rr1), .ro 1 1 (List.map en_Lint rr2), .ro 2 4 (List.map en_api_RoundWinder rr3)])) : ∀ (m : Nat) (i10 : Int), ev_ref11_Check_l3 n rr1 rr2 i9 k_ref11_Check_l2 m i10 = some r → TC Try.prog ⟨w0, fun _ => False, R0⟩ 158 (bodyPost Try.prog Try.f15 (Post ⟨w0, fun _ => False, R0⟩ env0 (vi r) [])) [.code (sub (bodyOf Try.f15) [1, 1, 1, 1, 1, 0, 1, 0, 0, 1, 0, 0, 1, 0, 0, 0, 0]), .code (sub (bodyOf Try.f15) [1, 1, 1, 1, 1, 0, 1, 0, 0, 1, 0, 0, 1, 0, 0, 0, 1]), .code (sub (bodyOf Try.f15) [1, 1, 1, 1, 1, 0, 1, 0, 0, 1, 0, 0, 1, 0, 0, 1]), .inLoop (sub (bodyOf Try.f15) [1, 1, 1, 1, 1, 0, 1, 0, 0, 1, 0, 0, 1, 0, 0]), .inBlock 4, .inBlock 3, .code (sub (bodyOf Try.f15) [1, 1, 1, 1, 1, 0, 1, 0, 0, 1, 1]), .inLoop (sub (bodyOf Try.f15) [1, 1, 1, 1, 1, 0, 1, 0, 0]), .inBlock 2, .code (sub (bodyOf Try.f15) [1, 1, 1, 1, 1, 1])] ([(1, .ptr 3 0), (3, vi (rr1.length : Int)), (5, vi i9), (6, vi i10)]) ([.blk 3 [.ref 0, .ref 1, .ref 2, vi rr4, vi rr5] 26, .ro 0 5 (List.map en_api_RoundTower rr1), .ro 1 1 (List.map en_Lint rr2), .ro 2 4 (List.map en_api_RoundWinder rr3)]) := by
  intro m
  induction m with
  | zero => intro i10 h; exact none_no h
  | succ m ih =>
    intro i10 h
    rw [ev_ref11_Check_l3] at h
    refine TC.region ?_
    refine op0 (sp_move rfl rfl) rfl trivial rfl rfl ?_
    refine op0 (sp_move rfl rfl) rfl trivial rfl rfl ?_
    refine op0 (sp_leq rfl rfl rfl) rfl trivial rfl rfl ?_
    refine TL.nil ?_
    refine TC.cond (b := (decide (i10 ≤ (rr1.length : Int)))) rfl (fun h12 => ?_) (fun h12 => ?_)
    · have h := cond_t h h12
      refine TC.skip ?_
      refine TC.seq ?_
      refine TC.block ?_
      refine TC.seq ?_
      refine TC.region ?_
      refine op1 0 rfl (sp_fieldAddrB rfl isBlk rfl ft26_1 vt23 (by decide)) rfl trivial rfl rfl ?_
      refine op1 0 rfl (sp_loadB rfl isBlk rfl vt23 rfl) rfl trivial rfl rfl ?_
      refine op0 (sp_move rfl rfl) rfl trivial rfl rfl ?_
      obtain ⟨x11, h13, h14, h⟩ := idx_inv h
      refine op1 2 rfl (sp_indexS rfl rfl rfl isRo sl23 h13 (map_get _ h14)) rfl trivial rfl rfl ?_
      refine op1 2 rfl (sp_loadR (i := (i9 : Int).toNat) (j := 0) (ns := [.ro 5 1 (List.map en_int x11)]) rfl rfl isRo vt30 rfl (map_get _ h14) rfl (.s (.nil)) (nodup_of_B rfl)) rfl trivial rfl rfl ?_
      refine op0 (sp_move rfl rfl) rfl trivial rfl rfl ?_
      obtain ⟨x12, h15, h16, h⟩ := idx_inv h
      refine op1 0 rfl (sp_indexS rfl rfl rfl isRo sl30 h15 (map_get _ h16)) rfl trivial rfl rfl ?_
      refine op1 0 rfl (sp_loadR (i := (i10 : Int).toNat) (j := 0) rfl rfl isRo vt3 rfl (map_get _ h16) rfl (.v (.nil)) (nodup_of_B rfl)) rfl trivial rfl rfl ?_
      obtain ⟨r13, h17, h⟩ := bind_inv h
      refine op0 (sp_call (avs := [vi x12, vi 0, vi 1440]) (need := []) (v := .val (.bool r13)) (news := []) rfl rfl rfl Try.call32 (atJ [] [] (fc_ref11_in h17) rfl rfl) (.inl (roAll rfl))) rfl trivial rfl rfl ?_
      refine op0 (sp_not rfl rfl) rfl trivial rfl rfl ?_
      refine op0 (sp_move rfl rfl) rfl trivial rfl rfl ?_
      rcases cond_cases h with ⟨h18, h⟩ | ⟨h18, h⟩
      · refine (boolLit 62 rfl h18).2 ?_
        refine opSkip rfl ⟨_, rfl, .inl rfl⟩ rfl ?_
        refine opSkip rfl ⟨_, rfl, .inl rfl⟩ rfl ?_
        refine opSkip rfl ⟨_, rfl, .inl rfl⟩ rfl ?_
        refine opSkip rfl ⟨_, rfl, .inl rfl⟩ rfl ?_
        refine opSkip rfl ⟨_, rfl, .inr rfl⟩ rfl ?_
        refine opSkip rfl ⟨_, rfl, .inr rfl⟩ rfl ?_
        refine opSkip rfl ⟨_, rfl, .inr rfl⟩ rfl ?_
        refine opSkip rfl ⟨_, rfl, .inr rfl⟩ rfl ?_
        refine opSkip rfl ⟨_, rfl, .inr rfl⟩ rfl ?_
        refine opSkip rfl ⟨_, rfl, .inr rfl⟩ rfl ?_
        refine opSkip rfl ⟨_, rfl, .inr rfl⟩ rfl ?_
        refine opSkip rfl ⟨_, rfl, .inr rfl⟩ rfl ?_
        refine opSkip rfl ⟨_, rfl, .inr rfl⟩ rfl ?_
        refine opSkip rfl ⟨_, rfl, .inl rfl⟩ rfl ?_
        refine op0 (sp_pickT rfl rfl rfl) rfl trivial rfl rfl ?_
        refine TL.nil ?_
        refine TC.condT rfl ?_
        refine TC.seq ?_
        refine TC.region ?_
        refine op0 (sp_assign rfl rfl) rfl trivial rfl rfl ?_
        refine TL.nil ?_
        cases h
        exact retJ [] (.tmp rfl .nil) rfl trivial rfl rfl
      · refine (boolLit 62 rfl h18).2 ?_
        refine op0 (sp_move rfl rfl) rfl ⟨_, rfl, rfl⟩ rfl rfl ?_
        refine op0 (sp_move rfl rfl) rfl ⟨_, rfl, rfl⟩ rfl rfl ?_
        refine op0 (sp_eql rfl rfl rfl) rfl ⟨_, rfl, rfl⟩ rfl rfl ?_
        refine op0 (sp_move rfl rfl) rfl ⟨_, rfl, rfl⟩ rfl rfl ?_
        rcases cond_cases h with ⟨h19, h⟩ | ⟨h19, h⟩
        · refine (boolLit 66 rfl h19).2 ?_
          refine op1 1 rfl (sp_fieldAddrB rfl isBlk rfl ft26_1 vt23 (by decide)) rfl ⟨_, rfl, rfl⟩ rfl rfl ?_
          refine op1 1 rfl (sp_loadB rfl isBlk rfl vt23 rfl) rfl ⟨_, rfl, rfl⟩ rfl rfl ?_
          refine op0 (sp_move rfl rfl) rfl ⟨_, rfl, rfl⟩ rfl rfl ?_
          refine op1 3 rfl (sp_indexS rfl rfl rfl isRo sl23 h13 (map_get _ h14)) rfl ⟨_, rfl, rfl⟩ rfl rfl ?_
          refine op1 3 rfl (sp_loadR (i := (i9 : Int).toNat) (j := 0) (ns := [.ro 6 1 (List.map en_int x11)]) rfl rfl isRo vt30 rfl (map_get _ h14) rfl (.s (.nil)) (nodup_of_B rfl)) rfl ⟨_, rfl, rfl⟩ rfl rfl ?_
          refine op0 (sp_move rfl rfl) rfl ⟨_, rfl, rfl⟩ rfl rfl ?_
          refine op1 0 rfl (sp_indexS rfl rfl rfl isRo sl30 h15 (map_get _ h16)) rfl ⟨_, rfl, rfl⟩ rfl rfl ?_
          refine op1 0 rfl (sp_loadR (i := (i10 : Int).toNat) (j := 0) rfl rfl isRo vt3 rfl (map_get _ h16) rfl (.v (.nil)) (nodup_of_B rfl)) rfl ⟨_, rfl, rfl⟩ rfl rfl ?_
          refine op0 (sp_neq rfl rfl rfl) rfl ⟨_, rfl, rfl⟩ rfl rfl ?_
          refine op0 (sp_pickT rfl rfl rfl) rfl ⟨_, rfl, rfl⟩ rfl rfl ?_
          refine op0 (sp_pickF rfl rfl rfl) rfl trivial rfl rfl ?_
          refine TL.nil ?_
          refine TC.cond (b := (x12 != 0)) rfl (fun h20 => ?_) (fun h20 => ?_)
          · have h := cond_t h h20
            refine TC.seq ?_
            refine TC.region ?_
            refine op0 (sp_assign rfl rfl) rfl trivial rfl rfl ?_
            refine TL.nil ?_
            cases h
            exact retJ [] (.tmp rfl .nil) rfl trivial rfl rfl
          · have h := cond_f h h20
            refine TC.skip ?_
            refine TC.inBlock ?_
            refine TC.region ?_
            refine op0 (sp_move rfl rfl) rfl trivial rfl rfl ?_
            obtain ⟨h21, h⟩ := chk_inv h
            refine op0 (sp_add rfl rfl rfl h21) rfl trivial rfl rfl ?_
            refine op0 (sp_assign rfl rfl) rfl trivial rfl rfl ?_
            refine TL.nil ?_
            refine TC.inLoop ?_
            refine TC.seq ?_
            refine TC.seq ?_
            refine subJ [] (ih _ h) ?_ ?_ ?_
            · exact ⟨rfl, rfl, rfl, rfl, trivial⟩
            · exact ⟨mem_at 2 rfl, mem_at 3 rfl, mem_at 4 rfl, mem_at 5 rfl, trivial⟩
            · rfl
        · refine (boolLit 66 rfl h19).2 ?_
          refine opSkip rfl ⟨_, rfl, .inl rfl⟩ rfl ?_
          refine opSkip rfl ⟨_, rfl, .inl rfl⟩ rfl ?_
          refine opSkip rfl ⟨_, rfl, .inl rfl⟩ rfl ?_
          refine opSkip rfl ⟨_, rfl, .inl rfl⟩ rfl ?_
          refine opSkip rfl ⟨_, rfl, .inl rfl⟩ rfl ?_
          refine opSkip rfl ⟨_, rfl, .inl rfl⟩ rfl ?_
          refine opSkip rfl ⟨_, rfl, .inl rfl⟩ rfl ?_
          refine opSkip rfl ⟨_, rfl, .inl rfl⟩ rfl ?_
          refine opSkip rfl ⟨_, rfl, .inl rfl⟩ rfl ?_
          refine op0 (sp_pickF rfl rfl rfl) rfl ⟨_, rfl, rfl⟩ rfl rfl ?_
          refine op0 (sp_pickF rfl rfl rfl) rfl trivial rfl rfl ?_
          refine TL.nil ?_
          refine TC.condF rfl ?_
          refine TC.skip ?_
          refine TC.inBlock ?_
          refine TC.region ?_
          refine op0 (sp_move rfl rfl) rfl trivial rfl rfl ?_
          obtain ⟨h22, h⟩ := chk_inv h
          refine op0 (sp_add rfl rfl rfl h22) rfl trivial rfl rfl ?_
          refine op0 (sp_assign rfl rfl) rfl trivial rfl rfl ?_
          refine TL.nil ?_
          refine TC.inLoop ?_
          refine TC.seq ?_
          refine TC.seq ?_
          refine subJ [] (ih _ h) ?_ ?_ ?_
          · exact ⟨rfl, rfl, rfl, rfl, trivial⟩
          · exact ⟨mem_at 1 rfl, mem_at 2 rfl, mem_at 3 rfl, mem_at 4 rfl, trivial⟩
          · rfl
    · have h := cond_f h h12
      refine TC.exit rfl ?_
      refine TC.inBlock ?_
      refine TC.region ?_
      refine op0 (sp_move rfl rfl) rfl trivial rfl rfl ?_
      obtain ⟨h23, h⟩ := chk_inv h
      refine op0 (sp_add rfl rfl rfl h23) rfl trivial rfl rfl ?_
      refine op0 (sp_assign rfl rfl) rfl trivial rfl rfl ?_
      refine TL.nil ?_
      refine TC.inLoop ?_
      refine TC.seq ?_
      refine TC.seq ?_
      refine subJ [] (hk_ref11_Check_l2 _ h) ?_ ?_ ?_
      · exact ⟨rfl, rfl, rfl, trivial⟩
      · exact ⟨mem_at 0 rfl, mem_at 1 rfl, mem_at 2 rfl, mem_at 3 rfl, trivial⟩
      · rfl
def ev_ref11_Check_l5 (n : Nat) (rr1 : List (Int × Int × Int × Int × Int)) : Nat → Int → Int → Int → (List (Int × Int × Int × Int × Int)) → (List ((List Int))) → (List (Int × Int × Int × Int)) → Option Int
  | 0, _, _, _, _, _, _ => none
  | m + 1, i26, i27, i28, l29, l30, l31 => cond (decide (i26 < (l31.length : Int))) (idx l31 i26 fun x32 => (ev_ref11_in n x32.2.1 0 8000).bind fun r33 => cond (!r33) (some 2) ((ev_ref11_in n x32.2.2.1 1 1440).bind fun r34 => cond (!r34) (some 2) ((ev_ref11_in n x32.2.2.2 1 1440).bind fun r35 => cond (!r35) (some 2) (chk (in64 (i26 + 1)) <| ev_ref11_Check_l5 n rr1 m (i26 + 1) i27 i28 l29 l30 l31)))) (cond ((rr1.length : Int) == 0) (some 2) (cond ((l31.length : Int) == 0) (some 2) ((ev_ref11_in n i27 1 1440).bind fun r36 => cond (!r36) (some 2) ((ev_ref11_in n i28 0 1000).bind fun r37 => cond (!r37) (some 2) (some 0)))))
theorem ok_ref11_Check_l5 {n : Nat} {w0 : World} {R0 : Nat → Prop} {env0 : Env} {r : Int} {rr1 : List (Int × Int × Int × Int × Int)} : ∀ (m : Nat) (i26 : Int) (i27 : Int) (i28 : Int) (l29 : List (Int × Int × Int × Int × Int)) (l30 : List ((List Int))) (l31 : List (Int × Int × Int × Int)), ev_ref11_Check_l5 n rr1 m i26 i27 i28 l29 l30 l31 = some r → TC Try.prog ⟨w0, fun _ => False, R0⟩ 158 (bodyPost Try.prog Try.f15 (Post ⟨w0, fun _ => False, R0⟩ env0 (vi r) [])) [.code (sub (bodyOf Try.f15) [1, 1, 1, 1, 1, 1, 1, 0, 1, 0, 0, 0, 0]), .code (sub (bodyOf Try.f15) [1, 1, 1, 1, 1, 1, 1, 0, 1, 0, 0, 0, 1]), .code (sub (bodyOf Try.f15) [1, 1, 1, 1, 1, 1, 1, 0, 1, 0, 0, 1]), .inLoop (sub (bodyOf Try.f15) [1, 1, 1, 1, 1, 1, 1, 0, 1, 0, 0]), .inBlock 8, .code (sub (bodyOf Try.f15) [1, 1, 1, 1, 1, 1, 1, 1])] ([(1, .ptr 3 0), (3, vi (rr1.length : Int)), (9, vi i26)]) ([.blk 3 [.ref 0, .ref 1, .ref 2, vi i27, vi i28] 26, .ro 0 5 (List.map en_api_RoundTower l29), .ro 1 1 (List.map en_Lint l30), .ro 2 4 (List.map en_api_RoundWinder l31)]) := by
  intro m
  induction m with
  | zero => intro i26 i27 i28 l29 l30 l31 h; exact none_no h
  | succ m ih =>
    intro i26 i27 i28 l29 l30 l31 h
    rw [ev_ref11_Check_l5] at h
    refine TC.region ?_
    refine op0 (sp_move rfl rfl) rfl trivial rfl rfl ?_
    refine op1 0 rfl (sp_fieldAddrB rfl isBlk rfl ft26_2 vt24 (by decide)) rfl trivial rfl rfl ?_
    refine op1 0 rfl (sp_loadB rfl isBlk rfl vt24 rfl) rfl trivial rfl rfl ?_
    refine op1 3 rfl (sp_lenM (N := l31.length) (len_map _ _) rfl rfl isRo Try.underlying24) rfl trivial rfl rfl ?_
    refine op0 (sp_lss rfl rfl rfl) rfl trivial rfl rfl ?_
    refine TL.nil ?_
    refine TC.cond (b := (decide (i26 < (l31.length : Int)))) rfl (fun h36 => ?_) (fun h36 => ?_)
    · have h := cond_t h h36
      refine TC.skip ?_
      refine TC.seq ?_
      refine TC.block ?_
      refine TC.seq ?_
      refine TC.region ?_
      refine op1 0 rfl (sp_fieldAddrB rfl isBlk rfl ft26_2 vt24 (by decide)) rfl trivial rfl rfl ?_
      refine op1 0 rfl (sp_loadB rfl isBlk rfl vt24 rfl) rfl trivial rfl rfl ?_
      refine op0 (sp_move rfl rfl) rfl trivial rfl rfl ?_
      obtain ⟨x32, h37, h38, h⟩ := idx_inv h
      refine op1 3 rfl (sp_indexS rfl rfl rfl isRo sl24 h37 (map_get _ h38)) rfl trivial rfl rfl ?_
      refine op1 3 rfl (sp_loadRA (i := (i26 : Int).toNat) (j := 0) (as_ := [.val (.int .u16 x32.1), vi x32.2.1, vi x32.2.2.1, vi x32.2.2.2]) (ns := []) rfl rfl isRo vt76 rfl (map_get _ h38) rfl rfl (by decide) (.v (.v (.v (.v (.nil))))) (nodup_of_B rfl)) rfl trivial rfl rfl ?_
      refine op0 (sp_alloc 8 rfl Try.zeroValue76 rfl) rfl trivial rfl rfl ?_
      refine stoB 0 (cells' := [.val (.int .u16 x32.1), vi x32.2.1, vi x32.2.2.1, vi x32.2.2.2]) rfl rfl trivial rfl rfl rfl rfl vt76 rfl rfl rfl ?_
      refine TL.nil ?_
      refine TC.seq ?_
      refine TC.region ?_
      refine op1 0 rfl (sp_fieldAddrB rfl isBlk rfl ft76_1 vt3 (by decide)) rfl trivial rfl rfl ?_
      refine op1 0 rfl (sp_loadB rfl isBlk rfl vt3 rfl) rfl trivial rfl rfl ?_
      obtain ⟨r33, h39, h⟩ := bind_inv h
      refine op0 (sp_call (avs := [vi x32.2.1, vi 0, vi 8000]) (need := []) (v := .val (.bool r33)) (news := []) rfl rfl rfl Try.call32 (atJ [] [] (fc_ref11_in h39) rfl rfl) (.inl (roAll rfl))) rfl trivial rfl rfl ?_
      refine op0 (sp_not rfl rfl) rfl trivial rfl rfl ?_
      refine op0 (sp_move rfl rfl) rfl trivial rfl rfl ?_
      rcases cond_cases h with ⟨h40, h⟩ | ⟨h40, h⟩
      · refine (boolLit 126 rfl h40).2 ?_
        refine opSkip rfl ⟨_, rfl, .inl rfl⟩ rfl ?_
        refine opSkip rfl ⟨_, rfl, .inl rfl⟩ rfl ?_
        refine opSkip rfl ⟨_, rfl, .inl rfl⟩ rfl ?_
        refine opSkip rfl ⟨_, rfl, .inl rfl⟩ rfl ?_
        refine op0 (sp_pickT rfl rfl rfl) rfl trivial rfl rfl ?_
        refine op0 (sp_move rfl rfl) rfl trivial rfl rfl ?_
        refine opSkip rfl ⟨_, rfl, .inl rfl⟩ rfl ?_
        refine opSkip rfl ⟨_, rfl, .inl rfl⟩ rfl ?_
        refine opSkip rfl ⟨_, rfl, .inl rfl⟩ rfl ?_
        refine opSkip rfl ⟨_, rfl, .inl rfl⟩ rfl ?_
        refine op0 (sp_pickT rfl rfl rfl) rfl trivial rfl rfl ?_
        refine TL.nil ?_
        refine TC.condT rfl ?_
        refine TC.seq ?_
        refine TC.region ?_
        refine op0 (sp_assign rfl rfl) rfl trivial rfl rfl ?_
        refine TL.nil ?_
        cases h
        exact retJ [] (.tmp rfl .nil) rfl trivial rfl rfl
      · refine (boolLit 126 rfl h40).2 ?_
        refine op1 0 rfl (sp_fieldAddrB rfl isBlk rfl ft76_2 vt3 (by decide)) rfl ⟨_, rfl, rfl⟩ rfl rfl ?_
        refine op1 0 rfl (sp_loadB rfl isBlk rfl vt3 rfl) rfl ⟨_, rfl, rfl⟩ rfl rfl ?_
        obtain ⟨r34, h41, h⟩ := bind_inv h
        refine op0 (sp_call (avs := [vi x32.2.2.1, vi 1, vi 1440]) (need := []) (v := .val (.bool r34)) (news := []) rfl rfl rfl Try.call32 (atJ [] [] (fc_ref11_in h41) rfl rfl) (.inl (roAll rfl))) rfl ⟨_, rfl, rfl⟩ rfl rfl ?_
        refine op0 (sp_not rfl rfl) rfl ⟨_, rfl, rfl⟩ rfl rfl ?_
        refine op0 (sp_pickF rfl rfl rfl) rfl trivial rfl rfl ?_
        refine op0 (sp_move rfl rfl) rfl trivial rfl rfl ?_
        rcases cond_cases h with ⟨h42, h⟩ | ⟨h42, h⟩
        · refine (boolLit 132 rfl h42).2 ?_
          refine opSkip rfl ⟨_, rfl, .inl rfl⟩ rfl ?_
          refine opSkip rfl ⟨_, rfl, .inl rfl⟩ rfl ?_
          refine opSkip rfl ⟨_, rfl, .inl rfl⟩ rfl ?_
          refine opSkip rfl ⟨_, rfl, .inl rfl⟩ rfl ?_
          refine op0 (sp_pickT rfl rfl rfl) rfl trivial rfl rfl ?_
          refine TL.nil ?_
          refine TC.condT rfl ?_
          refine TC.seq ?_
          refine TC.region ?_
          refine op0 (sp_assign rfl rfl) rfl trivial rfl rfl ?_
          refine TL.nil ?_
          cases h
          exact retJ [] (.tmp rfl .nil) rfl trivial rfl rfl
        · refine (boolLit 132 rfl h42).2 ?_
          refine op1 0 rfl (sp_fieldAddrB rfl isBlk rfl ft76_3 vt3 (by decide)) rfl ⟨_, rfl, rfl⟩ rfl rfl ?_
          refine op1 0 rfl (sp_loadB rfl isBlk rfl vt3 rfl) rfl ⟨_, rfl, rfl⟩ rfl rfl ?_
          obtain ⟨r35, h43, h⟩ := bind_inv h
          refine op0 (sp_call (avs := [vi x32.2.2.2, vi 1, vi 1440]) (need := []) (v := .val (.bool r35)) (news := []) rfl rfl rfl Try.call32 (atJ [] [] (fc_ref11_in h43) rfl rfl) (.inl (roAll rfl))) rfl ⟨_, rfl, rfl⟩ rfl rfl ?_
          refine op0 (sp_not rfl rfl) rfl ⟨_, rfl, rfl⟩ rfl rfl ?_
          refine op0 (sp_pickF rfl rfl rfl) rfl trivial rfl rfl ?_
          refine TL.nil ?_
          refine TC.cond (b := (!r35)) rfl (fun h44 => ?_) (fun h44 => ?_)
          · have h := cond_t h h44
            refine TC.seq ?_
            refine TC.region ?_
            refine op0 (sp_assign rfl rfl) rfl trivial rfl rfl ?_
            refine TL.nil ?_
            cases h
            exact retJ [] (.tmp rfl .nil) rfl trivial rfl rfl
          · have h := cond_f h h44
            refine TC.skip ?_
            refine TC.inBlock ?_
            refine TC.region ?_
            refine op0 (sp_move rfl rfl) rfl trivial rfl rfl ?_
            obtain ⟨h45, h⟩ := chk_inv h
            refine op0 (sp_add rfl rfl rfl h45) rfl trivial rfl rfl ?_
            refine op0 (sp_assign rfl rfl) rfl trivial rfl rfl ?_
            refine TL.nil ?_
            refine TC.inLoop ?_
            refine TC.seq ?_
            refine TC.seq ?_
            refine subJ [] (ih _ _ _ _ _ _ h) ?_ ?_ ?_
            · exact ⟨rfl, rfl, rfl, trivial⟩
            · exact ⟨mem_at 1 rfl, mem_at 2 rfl, mem_at 3 rfl, mem_at 4 rfl, trivial⟩
            · rfl
    · have h := cond_f h h36
      refine TC.exit rfl ?_
      refine TC.seq ?_
      refine TC.seq ?_
      refine TC.region ?_
      refine op0 (sp_move rfl rfl) rfl trivial rfl rfl ?_
      refine op0 (sp_eql rfl rfl rfl) rfl trivial rfl rfl ?_
      refine op0 (sp_move rfl rfl) rfl trivial rfl rfl ?_
      rcases cond_cases h with ⟨h46, h⟩ | ⟨h46, h⟩
      · refine (boolLit 140 rfl h46).2 ?_
        refine opSkip rfl ⟨_, rfl, .inl rfl⟩ rfl ?_
        refine opSkip rfl ⟨_, rfl, .inl rfl⟩ rfl ?_
        refine opSkip rfl ⟨_, rfl, .inl rfl⟩ rfl ?_
        refine opSkip rfl ⟨_, rfl, .inl rfl⟩ rfl ?_
        refine op0 (sp_pickT rfl rfl rfl) rfl trivial rfl rfl ?_
        refine op0 (sp_move rfl rfl) rfl trivial rfl rfl ?_
        refine opSkip rfl ⟨_, rfl, .inl rfl⟩ rfl ?_
        refine opSkip rfl ⟨_, rfl, .inl rfl⟩ rfl ?_
        refine opSkip rfl ⟨_, rfl, .inl rfl⟩ rfl ?_
        refine opSkip rfl ⟨_, rfl, .inl rfl⟩ rfl ?_
        refine op0 (sp_pickT rfl rfl rfl) rfl trivial rfl rfl ?_
        refine op0 (sp_move rfl rfl) rfl trivial rfl rfl ?_
        refine opSkip rfl ⟨_, rfl, .inl rfl⟩ rfl ?_
        refine opSkip rfl ⟨_, rfl, .inl rfl⟩ rfl ?_
        refine opSkip rfl ⟨_, rfl, .inl rfl⟩ rfl ?_
        refine opSkip rfl ⟨_, rfl, .inl rfl⟩ rfl ?_
        refine op0 (sp_pickT rfl rfl rfl) rfl trivial rfl rfl ?_
        refine TL.nil ?_
        refine TC.condT rfl ?_
        refine TC.seq ?_
        refine TC.region ?_
        refine op0 (sp_assign rfl rfl) rfl trivial rfl rfl ?_
        refine TL.nil ?_
        cases h
        exact retJ [] (.tmp rfl .nil) rfl trivial rfl rfl
      · refine (boolLit 140 rfl h46).2 ?_
        refine op1 0 rfl (sp_fieldAddrB rfl isBlk rfl ft26_2 vt24 (by decide)) rfl ⟨_, rfl, rfl⟩ rfl rfl ?_
        refine op1 0 rfl (sp_loadB rfl isBlk rfl vt24 rfl) rfl ⟨_, rfl, rfl⟩ rfl rfl ?_
        refine op1 3 rfl (sp_lenM (N := l31.length) (len_map _ _) rfl rfl isRo Try.underlying24) rfl ⟨_, rfl, rfl⟩ rfl rfl ?_
        refine op0 (sp_eql rfl rfl rfl) rfl ⟨_, rfl, rfl⟩ rfl rfl ?_
        refine op0 (sp_pickF rfl rfl rfl) rfl trivial rfl rfl ?_
        refine op0 (sp_move rfl rfl) rfl trivial rfl rfl ?_
        rcases cond_cases h with ⟨h47, h⟩ | ⟨h47, h⟩
        · refine (boolLit 146 rfl h47).2 ?_
          refine opSkip rfl ⟨_, rfl, .inl rfl⟩ rfl ?_
          refine opSkip rfl ⟨_, rfl, .inl rfl⟩ rfl ?_
          refine opSkip rfl ⟨_, rfl, .inl rfl⟩ rfl ?_
          refine opSkip rfl ⟨_, rfl, .inl rfl⟩ rfl ?_
          refine op0 (sp_pickT rfl rfl rfl) rfl trivial rfl rfl ?_
          refine op0 (sp_move rfl rfl) rfl trivial rfl rfl ?_
          refine opSkip rfl ⟨_, rfl, .inl rfl⟩ rfl ?_
          refine opSkip rfl ⟨_, rfl, .inl rfl⟩ rfl ?_
          refine opSkip rfl ⟨_, rfl, .inl rfl⟩ rfl ?_
          refine opSkip rfl ⟨_, rfl, .inl rfl⟩ rfl ?_
          refine op0 (sp_pickT rfl rfl rfl) rfl trivial rfl rfl ?_
          refine TL.nil ?_
          refine TC.condT rfl ?_
          refine TC.seq ?_
          refine TC.region ?_
          refine op0 (sp_assign rfl rfl) rfl trivial rfl rfl ?_
          refine TL.nil ?_
          cases h
          exact retJ [] (.tmp rfl .nil) rfl trivial rfl rfl
        · refine (boolLit 146 rfl h47).2 ?_
          refine op1 0 rfl (sp_fieldAddrB rfl isBlk rfl ft26_3 vt3 (by decide)) rfl ⟨_, rfl, rfl⟩ rfl rfl ?_
          refine op1 0 rfl (sp_loadB rfl isBlk rfl vt3 rfl) rfl ⟨_, rfl, rfl⟩ rfl rfl ?_
          obtain ⟨r36, h48, h⟩ := bind_inv h
          refine op0 (sp_call (avs := [vi i27, vi 1, vi 1440]) (need := []) (v := .val (.bool r36)) (news := []) rfl rfl rfl Try.call32 (atJ [] [] (fc_ref11_in h48) rfl rfl) (.inl (roAll rfl))) rfl ⟨_, rfl, rfl⟩ rfl rfl ?_
          refine op0 (sp_not rfl rfl) rfl ⟨_, rfl, rfl⟩ rfl rfl ?_
          refine op0 (sp_pickF rfl rfl rfl) rfl trivial rfl rfl ?_
          refine op0 (sp_move rfl rfl) rfl trivial rfl rfl ?_
          rcases cond_cases h with ⟨h49, h⟩ | ⟨h49, h⟩
          · refine (boolLit 152 rfl h49).2 ?_
            refine opSkip rfl ⟨_, rfl, .inl rfl⟩ rfl ?_
            refine opSkip rfl ⟨_, rfl, .inl rfl⟩ rfl ?_
            refine opSkip rfl ⟨_, rfl, .inl rfl⟩ rfl ?_
            refine opSkip rfl ⟨_, rfl, .inl rfl⟩ rfl ?_
            refine op0 (sp_pickT rfl rfl rfl) rfl trivial rfl rfl ?_
            refine TL.nil ?_
            refine TC.condT rfl ?_
            refine TC.seq ?_
            refine TC.region ?_
            refine op0 (sp_assign rfl rfl) rfl trivial rfl rfl ?_
            refine TL.nil ?_
            cases h
            exact retJ [] (.tmp rfl .nil) rfl trivial rfl rfl
          · refine (boolLit 152 rfl h49).2 ?_
            refine op1 0 rfl (sp_fieldAddrB rfl isBlk rfl ft26_4 vt3 (by decide)) rfl ⟨_, rfl, rfl⟩ rfl rfl ?_
            refine op1 0 rfl (sp_loadB rfl isBlk rfl vt3 rfl) rfl ⟨_, rfl, rfl⟩ rfl rfl ?_
            obtain ⟨r37, h50, h⟩ := bind_inv h
            refine op0 (sp_call (avs := [vi i28, vi 0, vi 1000]) (need := []) (v := .val (.bool r37)) (news := []) rfl rfl rfl Try.call32 (atJ [] [] (fc_ref11_in h50) rfl rfl) (.inl (roAll rfl))) rfl ⟨_, rfl, rfl⟩ rfl rfl ?_
            refine op0 (sp_not rfl rfl) rfl ⟨_, rfl, rfl⟩ rfl rfl ?_
            refine op0 (sp_pickF rfl rfl rfl) rfl trivial rfl rfl ?_
            refine TL.nil ?_
            refine TC.cond (b := (!r37)) rfl (fun h51 => ?_) (fun h51 => ?_)
            · have h := cond_t h h51
              refine TC.seq ?_
              refine TC.region ?_
              refine op0 (sp_assign rfl rfl) rfl trivial rfl rfl ?_
              refine TL.nil ?_
              cases h
              exact retJ [] (.tmp rfl .nil) rfl trivial rfl rfl
            · have h := cond_f h h51
              refine TC.skip ?_
              refine TC.seq ?_
              refine TC.region ?_
              refine op0 (sp_assign rfl rfl) rfl trivial rfl rfl ?_
              refine TL.nil ?_
              cases h
              exact retJ [] (.tmp rfl .nil) rfl trivial rfl rfl
def ev_ref11_Check_l4 (n : Nat) (rr1 : List (Int × Int × Int × Int × Int)) : Nat → Int → Int → Int → (List (Int × Int × Int × Int × Int)) → (List ((List Int))) → (List (Int × Int × Int × Int)) → Option Int
  | 0, _, _, _, _, _, _ => none
  | m + 1, i14, i15, i17, l18, l19, l20 => cond (decide (i14 < (rr1.length : Int))) (idx l18 i14 fun x21 => (ev_ref11_in n x21.1 0 120).bind fun r22 => cond (!r22) (some 2) ((ev_ref11_in n x21.2.1 0 120).bind fun r23 => cond (!r23) (some 2) ((ev_ref11_in n x21.2.2.2.1 0 1000).bind fun r24 => cond (!r24) (some 2) ((ev_ref11_in n x21.2.2.2.2 1 30).bind fun r25 => cond (!r25) (some 2) (chk (in64 (i14 + 1)) <| ev_ref11_Check_l4 n rr1 m (i14 + 1) i15 i17 l18 l19 l20))))) (ev_ref11_Check_l5 n rr1 n 0 i15 i17 l18 l19 l20)
theorem ok_ref11_Check_l4 {n : Nat} {w0 : World} {R0 : Nat → Prop} {env0 : Env} {r : Int} {rr1 : List (Int × Int × Int × Int × Int)} : ∀ (m : Nat) (i14 : Int) (i15 : Int) (i17 : Int) (l18 : List (Int × Int × Int × Int × Int)) (l19 : List ((List Int))) (l20 : List (Int × Int × Int × Int)), ev_ref11_Check_l4 n rr1 m i14 i15 i17 l18 l19 l20 = some r → TC Try.prog ⟨w0, fun _ => False, R0⟩ 158 (bodyPost Try.prog Try.f15 (Post ⟨w0, fun _ => False, R0⟩ env0 (vi r) [])) [.code (sub (bodyOf Try.f15) [1, 1, 1, 1, 1, 1, 0, 1, 0, 0, 0, 0]), .code (sub (bodyOf Try.f15) [1, 1, 1, 1, 1, 1, 0, 1, 0, 0, 0, 1]), .code (sub (bodyOf Try.f15) [1, 1, 1, 1, 1, 1, 0, 1, 0, 0, 1]), .inLoop (sub (bodyOf Try.f15) [1, 1, 1, 1, 1, 1, 0, 1, 0, 0]), .inBlock 6, .code (sub (bodyOf Try.f15) [1, 1, 1, 1, 1, 1, 1])] ([(1, .ptr 3 0), (3, vi (rr1.length : Int)), (7, vi i14)]) ([.blk 3 [.ref 0, .ref 1, .ref 2, vi i15, vi i17] 26, .ro 0 5 (List.map en_api_RoundTower l18), .ro 1 1 (List.map en_Lint l19), .ro 2 4 (List.map en_api_RoundWinder l20)]) := by
  intro m
  induction m with
  | zero => intro i14 i15 i17 l18 l19 l20 h; exact none_no h
  | succ m ih =>
    intro i14 i15 i17 l18 l19 l20 h
    rw [ev_ref11_Check_l4] at h
    refine TC.region ?_
    refine op0 (sp_move rfl rfl) rfl trivial rfl rfl ?_
    refine op0 (sp_move rfl rfl) rfl trivial rfl rfl ?_
    refine op0 (sp_lss rfl rfl rfl) rfl trivial rfl rfl ?_
    refine TL.nil ?_
    refine TC.cond (b := (decide (i14 < (rr1.length : Int)))) rfl (fun h24 => ?_) (fun h24 => ?_)
    · have h := cond_t h h24
      refine TC.skip ?_
      refine TC.seq ?_
      refine TC.block ?_
      refine TC.seq ?_
      refine TC.region ?_
      refine op1 0 rfl (sp_fieldAddrB rfl isBlk rfl ft26_0 vt22 (by decide)) rfl trivial rfl rfl ?_
      refine op1 0 rfl (sp_loadB rfl isBlk rfl vt22 rfl) rfl trivial rfl rfl ?_
      refine op0 (sp_move rfl rfl) rfl trivial rfl rfl ?_
      obtain ⟨x21, h25, h26, h⟩ := idx_inv h
      refine op1 1 rfl (sp_indexS rfl rfl rfl isRo sl22 h25 (map_get _ h26)) rfl trivial rfl rfl ?_
      refine op1 1 rfl (sp_loadRA (i := (i14 : Int).toNat) (j := 0) (as_ := [vi x21.1, vi x21.2.1, .val (.int .u16 x21.2.2.1), vi x21.2.2.2.1, vi x21.2.2.2.2]) (ns := []) rfl rfl isRo vt46 rfl (map_get _ h26) rfl rfl (by decide) (.v (.v (.v (.v (.v (.nil)))))) (nodup_of_B rfl)) rfl trivial rfl rfl ?_
      refine op0 (sp_alloc 7 rfl Try.zeroValue46 rfl) rfl trivial rfl rfl ?_
      refine stoB 0 (cells' := [vi x21.1, vi x21.2.1, .val (.int .u16 x21.2.2.1), vi x21.2.2.2.1, vi x21.2.2.2.2]) rfl rfl trivial rfl rfl rfl rfl vt46 rfl rfl rfl ?_
      refine TL.nil ?_
      refine TC.seq ?_
      refine TC.region ?_
      refine op1 0 rfl (sp_fieldAddrB rfl isBlk rfl ft46_0 vt3 (by decide)) rfl trivial rfl rfl ?_
      refine op1 0 rfl (sp_loadB rfl isBlk rfl vt3 rfl) rfl trivial rfl rfl ?_
      obtain ⟨r22, h27, h⟩ := bind_inv h
      refine op0 (sp_call (avs := [vi x21.1, vi 0, vi 120]) (need := []) (v := .val (.bool r22)) (news := []) rfl rfl rfl Try.call32 (atJ [] [] (fc_ref11_in h27) rfl rfl) (.inl (roAll rfl))) rfl trivial rfl rfl ?_
      refine op0 (sp_not rfl rfl) rfl trivial rfl rfl ?_
      refine op0 (sp_move rfl rfl) rfl trivial rfl rfl ?_
      rcases cond_cases h with ⟨h28, h⟩ | ⟨h28, h⟩
      · refine (boolLit 92 rfl h28).2 ?_
        refine opSkip rfl ⟨_, rfl, .inl rfl⟩ rfl ?_
        refine opSkip rfl ⟨_, rfl, .inl rfl⟩ rfl ?_
        refine opSkip rfl ⟨_, rfl, .inl rfl⟩ rfl ?_
        refine opSkip rfl ⟨_, rfl, .inl rfl⟩ rfl ?_
        refine op0 (sp_pickT rfl rfl rfl) rfl trivial rfl rfl ?_
        refine op0 (sp_move rfl rfl) rfl trivial rfl rfl ?_
        refine opSkip rfl ⟨_, rfl, .inl rfl⟩ rfl ?_
        refine opSkip rfl ⟨_, rfl, .inl rfl⟩ rfl ?_
        refine opSkip rfl ⟨_, rfl, .inl rfl⟩ rfl ?_
        refine opSkip rfl ⟨_, rfl, .inl rfl⟩ rfl ?_
        refine op0 (sp_pickT rfl rfl rfl) rfl trivial rfl rfl ?_
        refine op0 (sp_move rfl rfl) rfl trivial rfl rfl ?_
        refine opSkip rfl ⟨_, rfl, .inl rfl⟩ rfl ?_
        refine opSkip rfl ⟨_, rfl, .inl rfl⟩ rfl ?_
        refine opSkip rfl ⟨_, rfl, .inl rfl⟩ rfl ?_
        refine opSkip rfl ⟨_, rfl, .inl rfl⟩ rfl ?_
        refine op0 (sp_pickT rfl rfl rfl) rfl trivial rfl rfl ?_
        refine TL.nil ?_
        refine TC.condT rfl ?_
        refine TC.seq ?_
        refine TC.region ?_
        refine op0 (sp_assign rfl rfl) rfl trivial rfl rfl ?_
        refine TL.nil ?_
        cases h
        exact retJ [] (.tmp rfl .nil) rfl trivial rfl rfl
      · refine (boolLit 92 rfl h28).2 ?_
        refine op1 0 rfl (sp_fieldAddrB rfl isBlk rfl ft46_1 vt3 (by decide)) rfl ⟨_, rfl, rfl⟩ rfl rfl ?_
        refine op1 0 rfl (sp_loadB rfl isBlk rfl vt3 rfl) rfl ⟨_, rfl, rfl⟩ rfl rfl ?_
        obtain ⟨r23, h29, h⟩ := bind_inv h
        refine op0 (sp_call (avs := [vi x21.2.1, vi 0, vi 120]) (need := []) (v := .val (.bool r23)) (news := []) rfl rfl rfl Try.call32 (atJ [] [] (fc_ref11_in h29) rfl rfl) (.inl (roAll rfl))) rfl ⟨_, rfl, rfl⟩ rfl rfl ?_
        refine op0 (sp_not rfl rfl) rfl ⟨_, rfl, rfl⟩ rfl rfl ?_
        refine op0 (sp_pickF rfl rfl rfl) rfl trivial rfl rfl ?_
        refine op0 (sp_move rfl rfl) rfl trivial rfl rfl ?_
        rcases cond_cases h with ⟨h30, h⟩ | ⟨h30, h⟩
        · refine (boolLit 98 rfl h30).2 ?_
          refine opSkip rfl ⟨_, rfl, .inl rfl⟩ rfl ?_
          refine opSkip rfl ⟨_, rfl, .inl rfl⟩ rfl ?_
          refine opSkip rfl ⟨_, rfl, .inl rfl⟩ rfl ?_
          refine opSkip rfl ⟨_, rfl, .inl rfl⟩ rfl ?_
          refine op0 (sp_pickT rfl rfl rfl) rfl trivial rfl rfl ?_
          refine op0 (sp_move rfl rfl) rfl trivial rfl rfl ?_
          refine opSkip rfl ⟨_, rfl, .inl rfl⟩ rfl ?_
          refine opSkip rfl ⟨_, rfl, .inl rfl⟩ rfl ?_
          refine opSkip rfl ⟨_, rfl, .inl rfl⟩ rfl ?_
          refine opSkip rfl ⟨_, rfl, .inl rfl⟩ rfl ?_
          refine op0 (sp_pickT rfl rfl rfl) rfl trivial rfl rfl ?_
          refine TL.nil ?_
          refine TC.condT rfl ?_
          refine TC.seq ?_
          refine TC.region ?_
          refine op0 (sp_assign rfl rfl) rfl trivial rfl rfl ?_
          refine TL.nil ?_
          cases h
          exact retJ [] (.tmp rfl .nil) rfl trivial rfl rfl
        · refine (boolLit 98 rfl h30).2 ?_
          refine op1 0 rfl (sp_fieldAddrB rfl isBlk rfl ft46_3 vt3 (by decide)) rfl ⟨_, rfl, rfl⟩ rfl rfl ?_
          refine op1 0 rfl (sp_loadB rfl isBlk rfl vt3 rfl) rfl ⟨_, rfl, rfl⟩ rfl rfl ?_
          obtain ⟨r24, h31, h⟩ := bind_inv h
          refine op0 (sp_call (avs := [vi x21.2.2.2.1, vi 0, vi 1000]) (need := []) (v := .val (.bool r24)) (news := []) rfl rfl rfl Try.call32 (atJ [] [] (fc_ref11_in h31) rfl rfl) (.inl (roAll rfl))) rfl ⟨_, rfl, rfl⟩ rfl rfl ?_
          refine op0 (sp_not rfl rfl) rfl ⟨_, rfl, rfl⟩ rfl rfl ?_
          refine op0 (sp_pickF rfl rfl rfl) rfl trivial rfl rfl ?_
          refine op0 (sp_move rfl rfl) rfl trivial rfl rfl ?_
          rcases cond_cases h with ⟨h32, h⟩ | ⟨h32, h⟩
          · refine (boolLit 104 rfl h32).2 ?_
            refine opSkip rfl ⟨_, rfl, .inl rfl⟩ rfl ?_
            refine opSkip rfl ⟨_, rfl, .inl rfl⟩ rfl ?_
            refine opSkip rfl ⟨_, rfl, .inl rfl⟩ rfl ?_
            refine opSkip rfl ⟨_, rfl, .inl rfl⟩ rfl ?_
            refine op0 (sp_pickT rfl rfl rfl) rfl trivial rfl rfl ?_
            refine TL.nil ?_
            refine TC.condT rfl ?_
            refine TC.seq ?_
            refine TC.region ?_
            refine op0 (sp_assign rfl rfl) rfl trivial rfl rfl ?_
            refine TL.nil ?_
            cases h
            exact retJ [] (.tmp rfl .nil) rfl trivial rfl rfl
          · refine (boolLit 104 rfl h32).2 ?_
            refine op1 0 rfl (sp_fieldAddrB rfl isBlk rfl ft46_4 vt3 (by decide)) rfl ⟨_, rfl, rfl⟩ rfl rfl ?_
            refine op1 0 rfl (sp_loadB rfl isBlk rfl vt3 rfl) rfl ⟨_, rfl, rfl⟩ rfl rfl ?_
            obtain ⟨r25, h33, h⟩ := bind_inv h
            refine op0 (sp_call (avs := [vi x21.2.2.2.2, vi 1, vi 30]) (need := []) (v := .val (.bool r25)) (news := []) rfl rfl rfl Try.call32 (atJ [] [] (fc_ref11_in h33) rfl rfl) (.inl (roAll rfl))) rfl ⟨_, rfl, rfl⟩ rfl rfl ?_
            refine op0 (sp_not rfl rfl) rfl ⟨_, rfl, rfl⟩ rfl rfl ?_
            refine op0 (sp_pickF rfl rfl rfl) rfl trivial rfl rfl ?_
            refine TL.nil ?_
            refine TC.cond (b := (!r25)) rfl (fun h34 => ?_) (fun h34 => ?_)
            · have h := cond_t h h34
              refine TC.seq ?_
              refine TC.region ?_
              refine op0 (sp_assign rfl rfl) rfl trivial rfl rfl ?_
              refine TL.nil ?_
              cases h
              exact retJ [] (.tmp rfl .nil) rfl trivial rfl rfl
            · have h := cond_f h h34
              refine TC.skip ?_
              refine TC.inBlock ?_
              refine TC.region ?_
              refine op0 (sp_move rfl rfl) rfl trivial rfl rfl ?_
              obtain ⟨h35, h⟩ := chk_inv h
              refine op0 (sp_add rfl rfl rfl h35) rfl trivial rfl rfl ?_
              refine op0 (sp_assign rfl rfl) rfl trivial rfl rfl ?_
              refine TL.nil ?_
              refine TC.inLoop ?_
              refine TC.seq ?_
              refine TC.seq ?_
              refine subJ [] (ih _ _ _ _ _ _ h) ?_ ?_ ?_
              · exact ⟨rfl, rfl, rfl, trivial⟩
              · exact ⟨mem_at 1 rfl, mem_at 2 rfl, mem_at 3 rfl, mem_at 4 rfl, trivial⟩
              · rfl
    · have h := cond_f h h24
      refine TC.exit rfl ?_
      refine TC.seq ?_
      refine TC.seq ?_
      refine TC.region ?_
      refine op0 (sp_assign rfl rfl) rfl trivial rfl rfl ?_
      refine TL.nil ?_
      refine TC.block ?_
      refine TC.loop ?_
      refine TC.seq ?_
      refine TC.seq ?_
      refine subJ [] (ok_ref11_Check_l5 _ _ _ _ _ _ _ h) ?_ ?_ ?_
      · exact ⟨rfl, rfl, rfl, trivial⟩
      · exact ⟨mem_at 0 rfl, mem_at 1 rfl, mem_at 2 rfl, mem_at 3 rfl, trivial⟩
      · rfl
def ev_ref11_Check_l2 (n : Nat) (rr1 : List (Int × Int × Int × Int × Int)) (rr2 : List ((List Int))) (rr4 : Int) (rr5 : Int) (rr3 : List (Int × Int × Int × Int)) : Nat → Int → Option Int
  | 0, _ => none
  | m + 1, i9 => cond (decide (i9 ≤ (rr1.length : Int))) (ev_ref11_Check_l3 n rr1 rr2 i9 (fun i9q => ev_ref11_Check_l2 n rr1 rr2 rr4 rr5 rr3 m i9q) n 0) (ev_ref11_Check_l4 n rr1 n 0 rr4 rr5 rr1 rr2 rr3)
theorem ok_ref11_Check_l2 {n : Nat} {w0 : World} {R0 : Nat → Prop} {env0 : Env} {r : Int} {rr1 : List (Int × Int × Int × Int × Int)} {rr4 : Int} {rr5 : Int} {rr2 : List ((List Int))} {rr3 : List (Int × Int × Int × Int)} : ∀ (m : Nat) (i9 : Int), ev_ref11_Check_l2 n rr1 rr2 rr4 rr5 rr3 m i9 = some r → TC Try.prog ⟨w0, fun _ => False, R0⟩ 158 (bodyPost Try.prog Try.f15 (Post ⟨w0, fun _ => False, R0⟩ env0 (vi r) [])) [.code (sub (bodyOf Try.f15) [1, 1, 1, 1, 1, 0, 1, 0, 0, 0, 0]), .code (sub (bodyOf Try.f15) [1, 1, 1, 1, 1, 0, 1, 0, 0, 0, 1]), .code (sub (bodyOf Try.f15) [1, 1, 1, 1, 1, 0, 1, 0, 0, 1]), .inLoop (sub (bodyOf Try.f15) [1, 1, 1, 1, 1, 0, 1, 0, 0]), .inBlock 2, .code (sub (bodyOf Try.f15) [1, 1, 1, 1, 1, 1])] ([(1, .ptr 3 0), (3, vi (rr1.length : Int)), (5, vi i9)]) ([.blk 3 [.ref 0, .ref 1, .ref 2, vi rr4, vi rr5] 26, .ro 0 5 (List.map en_api_RoundTower rr1), .ro 1 1 (List.map en_Lint rr2), .ro 2 4 (List.map en_api_RoundWinder rr3)]) := by
  intro m
  induction m with
  | zero => intro i9 h; exact none_no h
  | succ m ih =>
    intro i9 h
    rw [ev_ref11_Check_l2] at h
    refine TC.region ?_
    refine op0 (sp_move rfl rfl) rfl trivial rfl rfl ?_
    refine op0 (sp_move rfl rfl) rfl trivial rfl rfl ?_
    refine op0 (sp_leq rfl rfl rfl) rfl trivial rfl rfl ?_
    refine TL.nil ?_
    refine TC.cond (b := (decide (i9 ≤ (rr1.length : Int)))) rfl (fun h11 => ?_) (fun h11 => ?_)
    · have h := cond_t h h11
      refine TC.skip ?_
      refine TC.seq ?_
      refine TC.block ?_
      refine TC.seq ?_
      refine TC.region ?_
      refine op0 (sp_assign rfl rfl) rfl trivial rfl rfl ?_
      refine TL.nil ?_
      refine TC.block ?_
      refine TC.loop ?_
      refine TC.seq ?_
      refine TC.seq ?_
      refine subJ [] (ok_ref11_Check_l3 (rr4 := rr4) (rr5 := rr5) (rr3 := rr3) ih _ _ h) ?_ ?_ ?_
      · exact ⟨rfl, rfl, rfl, rfl, trivial⟩
      · exact ⟨mem_at 0 rfl, mem_at 1 rfl, mem_at 2 rfl, mem_at 3 rfl, trivial⟩
      · rfl
    · have h := cond_f h h11
      refine TC.exit rfl ?_
      refine TC.seq ?_
      refine TC.seq ?_
      refine TC.region ?_
      refine op0 (sp_assign rfl rfl) rfl trivial rfl rfl ?_
      refine TL.nil ?_
      refine TC.block ?_
      refine TC.loop ?_
      refine TC.seq ?_
      refine TC.seq ?_
      refine subJ [] (ok_ref11_Check_l4 _ _ _ _ _ _ _ h) ?_ ?_ ?_
      · exact ⟨rfl, rfl, rfl, trivial⟩
      · exact ⟨mem_at 0 rfl, mem_at 1 rfl, mem_at 2 rfl, mem_at 3 rfl, trivial⟩
      · rfl
def ev_ref11_Check_l1 (n : Nat) (rr1 : List (Int × Int × Int × Int × Int)) (rr2 : List ((List Int))) (rr4 : Int) (rr5 : Int) (rr3 : List (Int × Int × Int × Int)) : Nat → Int → Option Int
  | 0, _ => none
  | m + 1, i6 => cond (decide (i6 ≤ (rr1.length : Int))) (idx rr2 i6 fun x7 => chk (in64 ((rr1.length : Int) + 1)) <| cond ((x7.length : Int) != ((rr1.length : Int) + 1)) (some 4) (chk (in64 (i6 + 1)) <| ev_ref11_Check_l1 n rr1 rr2 rr4 rr5 rr3 m (i6 + 1))) (ev_ref11_Check_l2 n rr1 rr2 rr4 rr5 rr3 n 0)
theorem ok_ref11_Check_l1 {n : Nat} {w0 : World} {R0 : Nat → Prop} {env0 : Env} {r : Int} {rr1 : List (Int × Int × Int × Int × Int)} {rr4 : Int} {rr5 : Int} {rr2 : List ((List Int))} {rr3 : List (Int × Int × Int × Int)} : ∀ (m : Nat) (i6 : Int), ev_ref11_Check_l1 n rr1 rr2 rr4 rr5 rr3 m i6 = some r → TC Try.prog ⟨w0, fun _ => False, R0⟩ 158 (bodyPost Try.prog Try.f15 (Post ⟨w0, fun _ => False, R0⟩ env0 (vi r) [])) [.code (sub (bodyOf Try.f15) [1, 1, 1, 1, 0, 1, 0, 0, 0, 0]), .code (sub (bodyOf Try.f15) [1, 1, 1, 1, 0, 1, 0, 0, 0, 1]), .code (sub (bodyOf Try.f15) [1, 1, 1, 1, 0, 1, 0, 0, 1]), .inLoop (sub (bodyOf Try.f15) [1, 1, 1, 1, 0, 1, 0, 0]), .inBlock 0, .code (sub (bodyOf Try.f15) [1, 1, 1, 1, 1])] ([(1, .ptr 3 0), (3, vi (rr1.length : Int)), (4, vi i6)]) ([.blk 3 [.ref 0, .ref 1, .ref 2, vi rr4, vi rr5] 26, .ro 0 5 (List.map en_api_RoundTower rr1), .ro 1 1 (List.map en_Lint rr2), .ro 2 4 (List.map en_api_RoundWinder rr3)]) := by
  intro m
  induction m with
  | zero => intro i6 h; exact none_no h
  | succ m ih =>
    intro i6 h
    rw [ev_ref11_Check_l1] at h
    refine TC.region ?_
    refine op0 (sp_move rfl rfl) rfl trivial rfl rfl ?_
    refine op0 (sp_move rfl rfl) rfl trivial rfl rfl ?_
    refine op0 (sp_leq rfl rfl rfl) rfl trivial rfl rfl ?_
    refine TL.nil ?_
    refine TC.cond (b := (decide (i6 ≤ (rr1.length : Int)))) rfl (fun h5 => ?_) (fun h5 => ?_)
    · have h := cond_t h h5
      refine TC.skip ?_
      refine TC.seq ?_
      refine TC.block ?_
      refine TC.seq ?_
      refine TC.region ?_
      refine op1 0 rfl (sp_fieldAddrB rfl isBlk rfl ft26_1 vt23 (by decide)) rfl trivial rfl rfl ?_
      refine op1 0 rfl (sp_loadB rfl isBlk rfl vt23 rfl) rfl trivial rfl rfl ?_
      refine op0 (sp_move rfl rfl) rfl trivial rfl rfl ?_
      obtain ⟨x7, h6, h7, h⟩ := idx_inv h
      refine op1 2 rfl (sp_indexS rfl rfl rfl isRo sl23 h6 (map_get _ h7)) rfl trivial rfl rfl ?_
      refine op1 2 rfl (sp_loadR (i := (i6 : Int).toNat) (j := 0) (ns := [.ro 4 1 (List.map en_int x7)]) rfl rfl isRo vt30 rfl (map_get _ h7) rfl (.s (.nil)) (nodup_of_B rfl)) rfl trivial rfl rfl ?_
      refine op1 0 rfl (sp_lenM (N := x7.length) (len_map _ _) rfl rfl isRo Try.underlying30) rfl trivial rfl rfl ?_
      refine op0 (sp_move rfl rfl) rfl trivial rfl rfl ?_
      obtain ⟨h8, h⟩ := chk_inv h
      refine op0 (sp_add rfl rfl rfl h8) rfl trivial rfl rfl ?_
      refine op0 (sp_neq rfl rfl rfl) rfl trivial rfl rfl ?_
      refine TL.nil ?_
      refine TC.cond (b := ((x7.length : Int) != ((rr1.length : Int) + 1))) rfl (fun h9 => ?_) (fun h9 => ?_)
      · have h := cond_t h h9
        refine TC.seq ?_
        refine TC.region ?_
        refine op0 (sp_assign rfl rfl) rfl trivial rfl rfl ?_
        refine TL.nil ?_
        cases h
        exact retJ [] (.tmp rfl .nil) rfl trivial rfl rfl
      · have h := cond_f h h9
        refine TC.skip ?_
        refine TC.inBlock ?_
        refine TC.region ?_
        refine op0 (sp_move rfl rfl) rfl trivial rfl rfl ?_
        obtain ⟨h10, h⟩ := chk_inv h
        refine op0 (sp_add rfl rfl rfl h10) rfl trivial rfl rfl ?_
        refine op0 (sp_assign rfl rfl) rfl trivial rfl rfl ?_
        refine TL.nil ?_
        refine TC.inLoop ?_
        refine TC.seq ?_
        refine TC.seq ?_
        refine subJ [] (ih _ h) ?_ ?_ ?_
        · exact ⟨rfl, rfl, rfl, trivial⟩
        · exact ⟨mem_at 1 rfl, mem_at 2 rfl, mem_at 3 rfl, mem_at 4 rfl, trivial⟩
        · rfl
    · have h := cond_f h h5
      refine TC.exit rfl ?_
      refine TC.seq ?_
      refine TC.seq ?_
      refine TC.region ?_
      refine op0 (sp_assign rfl rfl) rfl trivial rfl rfl ?_
      refine TL.nil ?_
      refine TC.block ?_
      refine TC.loop ?_
      refine TC.seq ?_
      refine TC.seq ?_
      refine subJ [] (ok_ref11_Check_l2 _ _ h) ?_ ?_ ?_
      · exact ⟨rfl, rfl, rfl, trivial⟩
      · exact ⟨mem_at 0 rfl, mem_at 1 rfl, mem_at 2 rfl, mem_at 3 rfl, trivial⟩
      · rfl
def ev_ref11_Check_j0 (n : Nat) (rr1 : List (Int × Int × Int × Int × Int)) (rr2 : List ((List Int))) (rr4 : Int) (rr5 : Int) (rr3 : List (Int × Int × Int × Int)) : Option Int :=
  chk (in64 ((rr1.length : Int) + 1)) <| cond ((rr2.length : Int) != ((rr1.length : Int) + 1)) (some 4) (ev_ref11_Check_l1 n rr1 rr2 rr4 rr5 rr3 n 0)
theorem ok_ref11_Check_j0 {n : Nat} {w0 : World} {R0 : Nat → Prop} {env0 : Env} {r : Int} {rr1 : List (Int × Int × Int × Int × Int)} {rr4 : Int} {rr5 : Int} {rr2 : List ((List Int))} {rr3 : List (Int × Int × Int × Int)} (h : ev_ref11_Check_j0 n rr1 rr2 rr4 rr5 rr3 = some r) : TC Try.prog ⟨w0, fun _ => False, R0⟩ 158 (bodyPost Try.prog Try.f15 (Post ⟨w0, fun _ => False, R0⟩ env0 (vi r) [])) [.code (sub (bodyOf Try.f15) [1, 1, 0, 1, 1]), .code (sub (bodyOf Try.f15) [1, 1, 1])] ([(1, .ptr 3 0), (3, vi (rr1.length : Int))]) ([.blk 3 [.ref 0, .ref 1, .ref 2, vi rr4, vi rr5] 26, .ro 0 5 (List.map en_api_RoundTower rr1), .ro 1 1 (List.map en_Lint rr2), .ro 2 4 (List.map en_api_RoundWinder rr3)]) := by
  rw [ev_ref11_Check_j0] at h
  refine TC.skip ?_
  refine TC.seq ?_
  refine TC.seq ?_
  refine TC.region ?_
  refine op1 0 rfl (sp_fieldAddrB rfl isBlk rfl ft26_1 vt23 (by decide)) rfl trivial rfl rfl ?_
  refine op1 0 rfl (sp_loadB rfl isBlk rfl vt23 rfl) rfl trivial rfl rfl ?_
  refine op1 2 rfl (sp_lenM (N := rr2.length) (len_map _ _) rfl rfl isRo Try.underlying23) rfl trivial rfl rfl ?_
  refine op0 (sp_move rfl rfl) rfl trivial rfl rfl ?_
  obtain ⟨h3, h⟩ := chk_inv h
  refine op0 (sp_add rfl rfl rfl h3) rfl trivial rfl rfl ?_
  refine op0 (sp_neq rfl rfl rfl) rfl trivial rfl rfl ?_
  refine TL.nil ?_
  refine TC.cond (b := ((rr2.length : Int) != ((rr1.length : Int) + 1))) rfl (fun h4 => ?_) (fun h4 => ?_)
  · have h := cond_t h h4
    refine TC.seq ?_
    refine TC.region ?_
    refine op0 (sp_assign rfl rfl) rfl trivial rfl rfl ?_
    refine TL.nil ?_
    cases h
    exact retJ [] (.tmp rfl .nil) rfl trivial rfl rfl
  · have h := cond_f h h4
    refine TC.skip ?_
    refine TC.seq ?_
    refine TC.seq ?_
    refine TC.region ?_
    refine op0 (sp_assign rfl rfl) rfl trivial rfl rfl ?_
    refine TL.nil ?_
    refine TC.block ?_
    refine TC.loop ?_
    refine TC.seq ?_
    refine TC.seq ?_
    refine subJ [] (ok_ref11_Check_l1 _ _ h) ?_ ?_ ?_
    · exact ⟨rfl, rfl, rfl, trivial⟩
    · exact ⟨mem_at 0 rfl, mem_at 1 rfl, mem_at 2 rfl, mem_at 3 rfl, trivial⟩
    · rfl
def ev_ref11_Check (n : Nat) (rr1 : List (Int × Int × Int × Int × Int)) (rr2 : List ((List Int))) (rr3 : List (Int × Int × Int × Int)) (rr4 : Int) (rr5 : Int) : Option Int :=
  cond (decide ((8 : Int) < (rr1.length : Int))) (some 5) (cond (decide ((4 : Int) < (rr3.length : Int))) (some 5) (ev_ref11_Check_j0 n rr1 rr2 rr4 rr5 rr3))
theorem fc_ref11_Check {n : Nat} {rr1 : List (Int × Int × Int × Int × Int)} {rr2 : List ((List Int))} {rr3 : List (Int × Int × Int × Int)} {rr4 : Int} {rr5 : Int} {r : Int} (h : ev_ref11_Check n rr1 rr2 rr3 rr4 rr5 = some r) : FC Try.prog 15 [.agg [.ref 0, .ref 1, .ref 2, vi rr4, vi rr5]] [.ro 0 5 (List.map en_api_RoundTower rr1), .ro 1 1 (List.map en_Lint rr2), .ro 2 4 (List.map en_api_RoundWinder rr3)] (vi r) [] := by
  refine introJ (nz := 158) Try.func15 rfl rfl rfl (fun w0 R0 env0 => ?_)
  rw [ev_ref11_Check] at h
  refine TC.seq ?_
  refine TC.region ?_
  refine op0 (sp_box 3 rfl rfl rfl rfl rfl) rfl trivial rfl rfl ?_
  refine op0 (sp_assign rfl rfl) rfl trivial rfl rfl ?_
  refine TL.nil ?_
  refine TC.seq ?_
  refine TC.region ?_
  refine op1 0 rfl (sp_fieldAddrB rfl isBlk rfl ft26_0 vt22 (by decide)) rfl trivial rfl rfl ?_
  refine op1 0 rfl (sp_loadB rfl isBlk rfl vt22 rfl) rfl trivial rfl rfl ?_
  refine op1 1 rfl (sp_lenM (N := rr1.length) (len_map _ _) rfl rfl isRo Try.underlying22) rfl trivial rfl rfl ?_
  refine op0 (sp_assign rfl rfl) rfl trivial rfl rfl ?_
  refine TL.nil ?_
  refine TC.seq ?_
  refine TC.seq ?_
  refine TC.region ?_
  refine op0 (sp_move rfl rfl) rfl trivial rfl rfl ?_
  refine op0 (sp_gtr rfl rfl rfl) rfl trivial rfl rfl ?_
  refine op0 (sp_move rfl rfl) rfl trivial rfl rfl ?_
  rcases cond_cases h with ⟨h1, h⟩ | ⟨h1, h⟩
  · refine (boolLit 16 rfl h1).2 ?_
    refine opSkip rfl ⟨_, rfl, .inl rfl⟩ rfl ?_
    refine opSkip rfl ⟨_, rfl, .inl rfl⟩ rfl ?_
    refine opSkip rfl ⟨_, rfl, .inl rfl⟩ rfl ?_
    refine opSkip rfl ⟨_, rfl, .inl rfl⟩ rfl ?_
    refine op0 (sp_pickT rfl rfl rfl) rfl trivial rfl rfl ?_
    refine TL.nil ?_
    refine TC.condT rfl ?_
    refine TC.seq ?_
    refine TC.region ?_
    refine op0 (sp_assign rfl rfl) rfl trivial rfl rfl ?_
    refine TL.nil ?_
    cases h
    exact retJ [] (.tmp rfl .nil) rfl trivial rfl rfl
  · refine (boolLit 16 rfl h1).2 ?_
    refine op1 0 rfl (sp_fieldAddrB rfl isBlk rfl ft26_2 vt24 (by decide)) rfl ⟨_, rfl, rfl⟩ rfl rfl ?_
    refine op1 0 rfl (sp_loadB rfl isBlk rfl vt24 rfl) rfl ⟨_, rfl, rfl⟩ rfl rfl ?_
    refine op1 3 rfl (sp_lenM (N := rr3.length) (len_map _ _) rfl rfl isRo Try.underlying24) rfl ⟨_, rfl, rfl⟩ rfl rfl ?_
    refine op0 (sp_gtr rfl rfl rfl) rfl ⟨_, rfl, rfl⟩ rfl rfl ?_
    refine op0 (sp_pickF rfl rfl rfl) rfl trivial rfl rfl ?_
    refine TL.nil ?_
    refine TC.cond (b := (decide ((4 : Int) < (rr3.length : Int)))) rfl (fun h2 => ?_) (fun h2 => ?_)
    · have h := cond_t h h2
      refine TC.seq ?_
      refine TC.region ?_
      refine op0 (sp_assign rfl rfl) rfl trivial rfl rfl ?_
      refine TL.nil ?_
      cases h
      exact retJ [] (.tmp rfl .nil) rfl trivial rfl rfl
    · have h := cond_f h h2
      refine subJ [] (ok_ref11_Check_j0 h) ?_ ?_ ?_
      · exact ⟨rfl, rfl, trivial⟩
      · exact ⟨mem_at 0 rfl, mem_at 1 rfl, mem_at 2 rfl, mem_at 3 rfl, trivial⟩
      · rfl
def ev_ref11_Days_l2 (n : Nat) (i7 : Int) (k_ref11_Days_l0 : Int → (List (Int × (List Int))) → Int → Int → (List (Int × Int × Int × Int × Int)) → (List ((List Int))) → (List (Int × Int × Int × Int)) → Option Int) : Nat → Int → (List (Int × (List Int))) → Int → Int → Int → (List Bool) → (List (Int × Int × Int × Int × Int)) → (List ((List Int))) → (List (Int × Int × Int × Int)) → (List Int) → Option Int
  | 0, _, _, _, _, _, _, _, _, _, _ => none
  | m + 1, i17, l18, i19, i20, i21, l22, l23, l24, l25, l26 => cond (decide (i17 < (l26.length : Int))) (idx l26 i17 fun x27 => chk (in64 ((l23.length : Int) - 1)) <| (ev_ref11_in n x27 0 ((l23.length : Int) - 1)).bind fun r28 => cond (!r28) (some 2) (chk (decide (0 ≤ x27) && decide (x27 < 8)) <| idx l22 x27 fun x29 => cond x29 (some 2) (chk (decide (0 ≤ x27) && decide (x27 < 8)) <| idx l22 x27 fun x30 => chk (in64 (i17 + 1)) <| ev_ref11_Days_l2 n i7 k_ref11_Days_l0 m (i17 + 1) l18 i19 i20 i21 (List.set l22 ((x27 : Int).toNat) true) l23 l24 l25 l26))) (chk (in64 (i7 + 1)) <| k_ref11_Days_l0 (i7 + 1) l18 i19 i20 l23 l24 l25)
theorem ok_ref11_Days_l2 {n : Nat} {w0 : World} {R0 : Nat → Prop} {env0 : Env} {r : Int} {i7 : Int} {k_ref11_Days_l0 : Int → (List (Int × (List Int))) → Int → Int → (List (Int × Int × Int × Int × Int)) → (List ((List Int))) → (List (Int × Int × Int × Int)) → Option Int} (hk_ref11_Days_l0 : ∀ (i7 : Int) (l8 : List (Int × (List Int))) (i9 : Int) (i10 : Int) (l11 : List (Int × Int × Int × Int × Int)) (l12 : List ((List Int))) (l13 : List (Int × Int × Int × Int)), k_ref11_Days_l0 i7 l8 i9 i10 l11 l12 l13 = some r → TC Try.prog ⟨w0, fun _ => False, R0⟩ 75 (bodyPost Try.prog Try.f16 (Post ⟨w0, fun _ => False, R0⟩ env0 (vi r) [])) [.code (sub (bodyOf Try.f16) [1, 1, 0, 1, 0, 0, 0, 0]), .code (sub (bodyOf Try.f16) [1, 1, 0, 1, 0, 0, 0, 1]), .code (sub (bodyOf Try.f16) [1, 1, 0, 1, 0, 0, 1]), .inLoop (sub (bodyOf Try.f16) [1, 1, 0, 1, 0, 0]), .inBlock 0, .code (sub (bodyOf Try.f16) [1, 1, 1])] ([(1, .ref 3), (2, .ptr 4 0), (5, vi i7)]) ([.ro 3 2 (List.map en_api_RoundDay l8), .blk 4 [.ref 0, .ref 1, .ref 2, vi i9, vi i10] 26, .ro 0 5 (List.map en_api_RoundTower l11), .ro 1 1 (List.map en_Lint l12), .ro 2 4 (List.map en_api_RoundWinder l13)])) : ∀ (m : Nat) (i17 : Int) (l18 : List (Int × (List Int))) (i19 : Int) (i20 : Int) (i21 : Int) (l22 : List Bool) (l23 : List (Int × Int × Int × Int × Int)) (l24 : List ((List Int))) (l25 : List (Int × Int × Int × Int)) (l26 : List Int), ev_ref11_Days_l2 n i7 k_ref11_Days_l0 m i17 l18 i19 i20 i21 l22 l23 l24 l25 l26 = some r → TC Try.prog ⟨w0, fun _ => False, R0⟩ 75 (bodyPost Try.prog Try.f16 (Post ⟨w0, fun _ => False, R0⟩ env0 (vi r) [])) [.code (sub (bodyOf Try.f16) [1, 1, 0, 1, 0, 0, 1, 0, 0, 1, 1, 1, 1, 0, 0, 0, 0]), .code (sub (bodyOf Try.f16) [1, 1, 0, 1, 0, 0, 1, 0, 0, 1, 1, 1, 1, 0, 0, 0, 1]), .code (sub (bodyOf Try.f16) [1, 1, 0, 1, 0, 0, 1, 0, 0, 1, 1, 1, 1, 0, 0, 1]), .inLoop (sub (bodyOf Try.f16) [1, 1, 0, 1, 0, 0, 1, 0, 0, 1, 1, 1, 1, 0, 0]), .inBlock 2, .inBlock 1, .code (sub (bodyOf Try.f16) [1, 1, 0, 1, 0, 0, 1, 1]), .inLoop (sub (bodyOf Try.f16) [1, 1, 0, 1, 0, 0]), .inBlock 0, .code (sub (bodyOf Try.f16) [1, 1, 1])] ([(1, .ref 3), (2, .ptr 4 0), (5, vi i7), (6, .ptr 6 0), (7, .ptr 7 0), (8, vi i17)]) ([.ro 3 2 (List.map en_api_RoundDay l18), .blk 4 [.ref 0, .ref 1, .ref 2, vi i19, vi i20] 26, .blk 6 [vi i21, .ref 5] 32, .inv 7 (arrI 66 vx_bool l22), .ro 0 5 (List.map en_api_RoundTower l23), .ro 1 1 (List.map en_Lint l24), .ro 2 4 (List.map en_api_RoundWinder l25), .ro 5 1 (List.map en_int l26)]) := by
  intro m
  induction m with
  | zero => intro i17 l18 i19 i20 i21 l22 l23 l24 l25 l26 h; exact none_no h
  | succ m ih =>
    intro i17 l18 i19 i20 i21 l22 l23 l24 l25 l26 h
    rw [ev_ref11_Days_l2] at h
    refine TC.region ?_
    refine op0 (sp_move rfl rfl) rfl trivial rfl rfl ?_
    refine op1 2 rfl (sp_fieldAddrB rfl isBlk rfl ft32_1 vt30 (by decide)) rfl trivial rfl rfl ?_
    refine op1 2 rfl (sp_loadB rfl isBlk rfl vt30 rfl) rfl trivial rfl rfl ?_
    refine op1 7 rfl (sp_lenM (N := l26.length) (len_map _ _) rfl rfl isRo Try.underlying30) rfl trivial rfl rfl ?_
    refine op0 (sp_lss rfl rfl rfl) rfl trivial rfl rfl ?_
    refine TL.nil ?_
    refine TC.cond (b := (decide (i17 < (l26.length : Int)))) rfl (fun h12 => ?_) (fun h12 => ?_)
    · have h := cond_t h h12
      refine TC.skip ?_
      refine TC.seq ?_
      refine TC.block ?_
      refine TC.seq ?_
      refine TC.seq ?_
      obtain ⟨x27, h13, h14, h⟩ := idx_inv h
      obtain ⟨h15, h⟩ := chk_inv h
      obtain ⟨r28, h16, h⟩ := bind_inv h
      rcases cond_cases h with ⟨h17, h⟩ | ⟨h17, h⟩
      · refine drawJ 15 [⟨.ptr 6 1, [], [.blk 6 [vi i21, .ref 5] 32], []⟩, ⟨.ref 5, [], [.blk 6 [vi i21, .ref 5] 32], []⟩, ⟨vi i17, [], [], []⟩, ⟨.cell 5 ((i17 : Int).toNat * 1), [], [.ro 5 1 (List.map en_int l26)], []⟩, ⟨vi x27, [], [.ro 5 1 (List.map en_int l26)], []⟩, ⟨.ptr 4 0, [], [.blk 4 [.ref 0, .ref 1, .ref 2, vi i19, vi i20] 26], []⟩, ⟨.ref 0, [], [.blk 4 [.ref 0, .ref 1, .ref 2, vi i19, vi i20] 26], []⟩, ⟨vi (l23.length : Int), [], [.ro 0 5 (List.map en_api_RoundTower l23)], []⟩, ⟨vi ((l23.length : Int) - 1), [], [], []⟩, ⟨.val (.bool r28), [], [], []⟩, ⟨.val (.bool (!r28)), [], [], []⟩, ⟨.val (.bool true), [], [], []⟩, ⟨.val (undef), [], [], []⟩, ⟨.val (undef), [], [], []⟩, ⟨.val (undef), [], [], []⟩] rfl ?_ rfl ?_ rfl ?_ ?_
        · kernel_rfl
        · kernel_rfl
        · exact DAll.op' (sp_fieldAddrB rfl isBlk rfl ft32_1 vt30 (by decide)) trivial rfl (From.ok (ps := [(none, 2)]) ⟨⟨rfl, rfl⟩, trivial⟩) (DAll.op' (sp_loadB rfl isBlk rfl vt30 rfl) trivial rfl (From.ok (ps := [(none, 2)]) ⟨⟨rfl, rfl⟩, trivial⟩) (DAll.op' (sp_move rfl rfl) trivial rfl (From.ok (ps := []) trivial) (DAll.op' (sp_indexS rfl rfl rfl isRo sl30 h13 (map_get _ h14)) trivial rfl (From.ok (ps := [(none, 7)]) ⟨⟨rfl, rfl⟩, trivial⟩) (DAll.op' (sp_loadR (i := (i17 : Int).toNat) (j := 0) rfl rfl isRo vt3 rfl (map_get _ h14) rfl (.v (.nil)) (nodup_of_B rfl)) trivial rfl (From.ok (ps := [(none, 7)]) ⟨⟨rfl, rfl⟩, trivial⟩) (DAll.op' (sp_fieldAddrB rfl isBlk rfl ft26_0 vt22 (by decide)) trivial rfl (From.ok (ps := [(none, 1)]) ⟨⟨rfl, rfl⟩, trivial⟩) (DAll.op' (sp_loadB rfl isBlk rfl vt22 rfl) trivial rfl (From.ok (ps := [(none, 1)]) ⟨⟨rfl, rfl⟩, trivial⟩) (DAll.op' (sp_lenM (N := l23.length) (len_map _ _) rfl rfl isRo Try.underlying22) trivial rfl (From.ok (ps := [(none, 4)]) ⟨⟨rfl, rfl⟩, trivial⟩) (DAll.op' (sp_sub rfl rfl rfl h15) trivial rfl (From.ok (ps := []) trivial) (DAll.op' (sp_call (avs := [vi x27, vi 0, vi ((l23.length : Int) - 1)]) (need := []) (v := .val (.bool r28)) (news := []) rfl rfl rfl Try.call32 (atJ [] [] (fc_ref11_in h16) rfl rfl) (.inl (roAll rfl))) trivial rfl (From.ok (ps := []) trivial) (DAll.op' (sp_not rfl rfl) trivial rfl (From.ok (ps := []) trivial) (DAll.op' (sp_castB h17 (sp_move rfl rfl)) trivial rfl (From.ok (ps := []) trivial) (.skip ⟨_, rfl, .inl rfl⟩ rfl rfl rfl (.skip ⟨_, rfl, .inl rfl⟩ rfl rfl rfl (.skip ⟨_, rfl, .inl rfl⟩ rfl rfl rfl (.nil)))))))))))))))
        refine opSkip rfl ⟨_, rfl, .inl rfl⟩ rfl ?_
        refine opSkip rfl ⟨_, rfl, .inl rfl⟩ rfl ?_
        refine opSkip rfl ⟨_, rfl, .inl rfl⟩ rfl ?_
        refine opSkip rfl ⟨_, rfl, .inl rfl⟩ rfl ?_
        refine op0 (sp_pickT rfl rfl rfl) rfl trivial rfl rfl ?_
        refine TL.nil ?_
        refine TC.condT rfl ?_
        refine TC.seq ?_
        refine TC.region ?_
        refine op0 (sp_assign rfl rfl) rfl trivial rfl rfl ?_
        refine TL.nil ?_
        cases h
        exact retJ [] (.tmp rfl .nil) rfl trivial rfl rfl
      · refine drawJ 15 [⟨.ptr 6 1, [], [.blk 6 [vi i21, .ref 5] 32], []⟩, ⟨.ref 5, [], [.blk 6 [vi i21, .ref 5] 32], []⟩, ⟨vi i17, [], [], []⟩, ⟨.cell 5 ((i17 : Int).toNat * 1), [], [.ro 5 1 (List.map en_int l26)], []⟩, ⟨vi x27, [], [.ro 5 1 (List.map en_int l26)], []⟩, ⟨.ptr 4 0, [], [.blk 4 [.ref 0, .ref 1, .ref 2, vi i19, vi i20] 26], []⟩, ⟨.ref 0, [], [.blk 4 [.ref 0, .ref 1, .ref 2, vi i19, vi i20] 26], []⟩, ⟨vi (l23.length : Int), [], [.ro 0 5 (List.map en_api_RoundTower l23)], []⟩, ⟨vi ((l23.length : Int) - 1), [], [], []⟩, ⟨.val (.bool r28), [], [], []⟩, ⟨.val (.bool (!r28)), [], [], []⟩, ⟨.val (.bool false), [], [], []⟩, ⟨.ptr 6 1, [], [.blk 6 [vi i21, .ref 5] 32], []⟩, ⟨.ref 5, [], [.blk 6 [vi i21, .ref 5] 32], []⟩, ⟨vi i17, [], [], []⟩] rfl ?_ rfl ?_ rfl ?_ ?_
        · kernel_rfl
        · kernel_rfl
        · exact DAll.op' (sp_fieldAddrB rfl isBlk rfl ft32_1 vt30 (by decide)) trivial rfl (From.ok (ps := [(none, 2)]) ⟨⟨rfl, rfl⟩, trivial⟩) (DAll.op' (sp_loadB rfl isBlk rfl vt30 rfl) trivial rfl (From.ok (ps := [(none, 2)]) ⟨⟨rfl, rfl⟩, trivial⟩) (DAll.op' (sp_move rfl rfl) trivial rfl (From.ok (ps := []) trivial) (DAll.op' (sp_indexS rfl rfl rfl isRo sl30 h13 (map_get _ h14)) trivial rfl (From.ok (ps := [(none, 7)]) ⟨⟨rfl, rfl⟩, trivial⟩) (DAll.op' (sp_loadR (i := (i17 : Int).toNat) (j := 0) rfl rfl isRo vt3 rfl (map_get _ h14) rfl (.v (.nil)) (nodup_of_B rfl)) trivial rfl (From.ok (ps := [(none, 7)]) ⟨⟨rfl, rfl⟩, trivial⟩) (DAll.op' (sp_fieldAddrB rfl isBlk rfl ft26_0 vt22 (by decide)) trivial rfl (From.ok (ps := [(none, 1)]) ⟨⟨rfl, rfl⟩, trivial⟩) (DAll.op' (sp_loadB rfl isBlk rfl vt22 rfl) trivial rfl (From.ok (ps := [(none, 1)]) ⟨⟨rfl, rfl⟩, trivial⟩) (DAll.op' (sp_lenM (N := l23.length) (len_map _ _) rfl rfl isRo Try.underlying22) trivial rfl (From.ok (ps := [(none, 4)]) ⟨⟨rfl, rfl⟩, trivial⟩) (DAll.op' (sp_sub rfl rfl rfl h15) trivial rfl (From.ok (ps := []) trivial) (DAll.op' (sp_call (avs := [vi x27, vi 0, vi ((l23.length : Int) - 1)]) (need := []) (v := .val (.bool r28)) (news := []) rfl rfl rfl Try.call32 (atJ [] [] (fc_ref11_in h16) rfl rfl) (.inl (roAll rfl))) trivial rfl (From.ok (ps := []) trivial) (DAll.op' (sp_not rfl rfl) trivial rfl (From.ok (ps := []) trivial) (DAll.op' (sp_castB h17 (sp_move rfl rfl)) trivial rfl (From.ok (ps := []) trivial) (DAll.op' (sp_fieldAddrB rfl isBlk rfl ft32_1 vt30 (by decide)) ⟨_, rfl, rfl⟩ rfl (From.ok (ps := [(none, 2)]) ⟨⟨rfl, rfl⟩, trivial⟩) (DAll.op' (sp_loadB rfl isBlk rfl vt30 rfl) ⟨_, rfl, rfl⟩ rfl (From.ok (ps := [(none, 2)]) ⟨⟨rfl, rfl⟩, trivial⟩) (DAll.op' (sp_move rfl rfl) ⟨_, rfl, rfl⟩ rfl (From.ok (ps := []) trivial) (.nil)))))))))))))))
        refine op1 7 rfl (sp_indexS rfl rfl rfl isRo sl30 h13 (map_get _ h14)) rfl ⟨_, rfl, rfl⟩ rfl rfl ?_
        refine op1 7 rfl (sp_loadR (i := (i17 : Int).toNat) (j := 0) rfl rfl isRo vt3 rfl (map_get _ h14) rfl (.v (.nil)) (nodup_of_B rfl)) rfl ⟨_, rfl, rfl⟩ rfl rfl ?_
        obtain ⟨h18, h⟩ := chk_inv h
        obtain ⟨x29, h19, h20, h⟩ := idx_inv h
        refine op1 3 rfl (sp_indexX (len := 8) rfl isArrO rfl rfl Try.underlying66 vt4 h18) rfl ⟨_, rfl, rfl⟩ rfl rfl ?_
        refine op1 3 rfl (sp_loadX (i := (x27 : Int).toNat) (j := 0) rfl isArrO rfl vt4 (fun _ => rfl) rfl h20 rfl) rfl ⟨_, rfl, rfl⟩ rfl rfl ?_
        refine op0 (sp_pickF rfl rfl rfl) rfl trivial rfl rfl ?_
        refine TL.nil ?_
        refine TC.cond (b := x29) rfl (fun h21 => ?_) (fun h21 => ?_)
        · have h := cond_t h h21
          refine TC.seq ?_
          refine TC.region ?_
          refine op0 (sp_assign rfl rfl) rfl trivial rfl rfl ?_
          refine TL.nil ?_
          cases h
          exact retJ [] (.tmp rfl .nil) rfl trivial rfl rfl
        · have h := cond_f h h21
          refine TC.skip ?_
          refine TC.region ?_
          refine op1 2 rfl (sp_fieldAddrB rfl isBlk rfl ft32_1 vt30 (by decide)) rfl trivial rfl rfl ?_
          refine op1 2 rfl (sp_loadB rfl isBlk rfl vt30 rfl) rfl trivial rfl rfl ?_
          refine op0 (sp_move rfl rfl) rfl trivial rfl rfl ?_
          refine op1 7 rfl (sp_indexS rfl rfl rfl isRo sl30 h13 (map_get _ h14)) rfl trivial rfl rfl ?_
          refine op1 7 rfl (sp_loadR (i := (i17 : Int).toNat) (j := 0) rfl rfl isRo vt3 rfl (map_get _ h14) rfl (.v (.nil)) (nodup_of_B rfl)) rfl trivial rfl rfl ?_
          obtain ⟨h22, h⟩ := chk_inv h
          obtain ⟨x30, h23, h24, h⟩ := idx_inv h
          refine op1 3 rfl (sp_indexX (len := 8) rfl isArrO rfl rfl Try.underlying66 vt4 h22) rfl trivial rfl rfl ?_
          refine opT (take := [.inv 7 (arrI 66 vx_bool l22)]) (need := []) (V' := [.inv 7 (arrI 66 vx_bool (List.set l22 ((x27 : Int).toNat) true)), .ro 3 2 (List.map en_api_RoundDay l18), .blk 4 [.ref 0, .ref 1, .ref 2, vi i19, vi i20] 26, .blk 6 [vi i21, .ref 5] 32, .ro 0 5 (List.map en_api_RoundTower l23), .ro 1 1 (List.map en_Lint l24), .ro 2 4 (List.map en_api_RoundWinder l25), .ro 5 1 (List.map en_int l26)]) [3] [] (ts_storeX (i := (x27 : Int).toNat) (j := 0) (z' := true) (vs := [.bool true]) rfl rfl rfl rfl rfl vt4 rfl (fun _ => rfl) rfl h24 rfl rfl) trivial rfl ⟨rfl, trivial⟩ trivial rfl rfl ?_
          refine TL.nil ?_
          refine TC.inBlock ?_
          refine TC.region ?_
          refine op0 (sp_move rfl rfl) rfl trivial rfl rfl ?_
          obtain ⟨h25, h⟩ := chk_inv h
          refine op0 (sp_add rfl rfl rfl h25) rfl trivial rfl rfl ?_
          refine op0 (sp_assign rfl rfl) rfl trivial rfl rfl ?_
          refine TL.nil ?_
          refine TC.inLoop ?_
          refine TC.seq ?_
          refine TC.seq ?_
          refine subJ [] (ih _ _ _ _ _ _ _ _ _ _ h) ?_ ?_ ?_
          · exact ⟨rfl, rfl, rfl, rfl, rfl, rfl, trivial⟩
          · exact ⟨mem_at 1 rfl, mem_at 2 rfl, mem_at 3 rfl, mem_at 0 rfl, mem_at 4 rfl, mem_at 5 rfl, mem_at 6 rfl, mem_at 7 rfl, trivial⟩
          · rfl
    · have h := cond_f h h12
      refine TC.exit rfl ?_
      refine TC.inBlock ?_
      refine TC.region ?_
      refine op0 (sp_move rfl rfl) rfl trivial rfl rfl ?_
      obtain ⟨h26, h⟩ := chk_inv h
      refine op0 (sp_add rfl rfl rfl h26) rfl trivial rfl rfl ?_
      refine op0 (sp_assign rfl rfl) rfl trivial rfl rfl ?_
      refine TL.nil ?_
      refine TC.inLoop ?_
      refine TC.seq ?_
      refine TC.seq ?_
      refine subJ [] (hk_ref11_Days_l0 _ _ _ _ _ _ _ h) ?_ ?_ ?_
      · exact ⟨rfl, rfl, rfl, trivial⟩
      · exact ⟨mem_at 0 rfl, mem_at 1 rfl, mem_at 4 rfl, mem_at 5 rfl, mem_at 6 rfl, trivial⟩
      · rfl
def ev_ref11_Days_j1 (n : Nat) (i7 : Int) (l8 : List (Int × (List Int))) (i9 : Int) (i10 : Int) (x14 : Int × (List Int)) (l11 : List (Int × Int × Int × Int × Int)) (l12 : List ((List Int))) (l13 : List (Int × Int × Int × Int)) (k_ref11_Days_l0 : Int → (List (Int × (List Int))) → Int → Int → (List (Int × Int × Int × Int × Int)) → (List ((List Int))) → (List (Int × Int × Int × Int)) → Option Int) : Option Int :=
  ev_ref11_Days_l2 n i7 k_ref11_Days_l0 n 0 l8 i9 i10 x14.1 ([false, false, false, false, false, false, false, false] : List Bool) l11 l12 l13 x14.2
theorem ok_ref11_Days_j1 {n : Nat} {w0 : World} {R0 : Nat → Prop} {env0 : Env} {r : Int} {x14 : Int × (List Int)} {i7 : Int} {l8 : List (Int × (List Int))} {i9 : Int} {i10 : Int} {l11 : List (Int × Int × Int × Int × Int)} {l12 : List ((List Int))} {l13 : List (Int × Int × Int × Int)} {k_ref11_Days_l0 : Int → (List (Int × (List Int))) → Int → Int → (List (Int × Int × Int × Int × Int)) → (List ((List Int))) → (List (Int × Int × Int × Int)) → Option Int} (hk_ref11_Days_l0 : ∀ (i7 : Int) (l8 : List (Int × (List Int))) (i9 : Int) (i10 : Int) (l11 : List (Int × Int × Int × Int × Int)) (l12 : List ((List Int))) (l13 : List (Int × Int × Int × Int)), k_ref11_Days_l0 i7 l8 i9 i10 l11 l12 l13 = some r → TC Try.prog ⟨w0, fun _ => False, R0⟩ 75 (bodyPost Try.prog Try.f16 (Post ⟨w0, fun _ => False, R0⟩ env0 (vi r) [])) [.code (sub (bodyOf Try.f16) [1, 1, 0, 1, 0, 0, 0, 0]), .code (sub (bodyOf Try.f16) [1, 1, 0, 1, 0, 0, 0, 1]), .code (sub (bodyOf Try.f16) [1, 1, 0, 1, 0, 0, 1]), .inLoop (sub (bodyOf Try.f16) [1, 1, 0, 1, 0, 0]), .inBlock 0, .code (sub (bodyOf Try.f16) [1, 1, 1])] ([(1, .ref 3), (2, .ptr 4 0), (5, vi i7)]) ([.ro 3 2 (List.map en_api_RoundDay l8), .blk 4 [.ref 0, .ref 1, .ref 2, vi i9, vi i10] 26, .ro 0 5 (List.map en_api_RoundTower l11), .ro 1 1 (List.map en_Lint l12), .ro 2 4 (List.map en_api_RoundWinder l13)])) (h : ev_ref11_Days_j1 n i7 l8 i9 i10 x14 l11 l12 l13 k_ref11_Days_l0 = some r) : TC Try.prog ⟨w0, fun _ => False, R0⟩ 75 (bodyPost Try.prog Try.f16 (Post ⟨w0, fun _ => False, R0⟩ env0 (vi r) [])) [.code (sub (bodyOf Try.f16) [1, 1, 0, 1, 0, 0, 1, 0, 0, 1, 0, 1, 1]), .code (sub (bodyOf Try.f16) [1, 1, 0, 1, 0, 0, 1, 0, 0, 1, 1]), .inBlock 1, .code (sub (bodyOf Try.f16) [1, 1, 0, 1, 0, 0, 1, 1]), .inLoop (sub (bodyOf Try.f16) [1, 1, 0, 1, 0, 0]), .inBlock 0, .code (sub (bodyOf Try.f16) [1, 1, 1])] ([(1, .ref 3), (2, .ptr 4 0), (5, vi i7), (6, .ptr 6 0)]) ([.ro 3 2 (List.map en_api_RoundDay l8), .blk 4 [.ref 0, .ref 1, .ref 2, vi i9, vi i10] 26, .blk 6 [vi x14.1, .ref 5] 32, .ro 0 5 (List.map en_api_RoundTower l11), .ro 1 1 (List.map en_Lint l12), .ro 2 4 (List.map en_api_RoundWinder l13), .ro 5 1 (List.map en_int x14.2)]) := by
  rw [ev_ref11_Days_j1] at h
  refine TC.skip ?_
  refine TC.seq ?_
  refine TC.region ?_
  refine op0 (sp_build (qs := []) rfl bt66 rfl rfl rfl rfl) rfl trivial rfl rfl ?_
  refine op0 (sp_alloc 7 rfl Try.zeroValue66 rfl) rfl trivial rfl rfl ?_
  refine stoB 0 (cells' := [.val (.bool false), .val (.bool false), .val (.bool false), .val (.bool false), .val (.bool false), .val (.bool false), .val (.bool false), .val (.bool false)]) rfl rfl trivial rfl rfl rfl rfl vt66 rfl rfl rfl ?_
  refine TL.nil ?_
  refine TC.seq ?_
  refine TC.region ?_
  refine op0 (sp_assign rfl rfl) rfl trivial rfl rfl ?_
  refine TL.nil ?_
  refine TC.block ?_
  refine TC.loop ?_
  refine TC.toArr 0 ([false, false, false, false, false, false, false, false] : List Bool) vx_bool rfl (by kernel_rfl) ?_
  refine TC.seq ?_
  refine TC.seq ?_
  refine subJ [] (ok_ref11_Days_l2 hk_ref11_Days_l0 _ _ _ _ _ _ _ _ _ _ _ h) ?_ ?_ ?_
  · exact ⟨rfl, rfl, rfl, rfl, rfl, rfl, trivial⟩
  · exact ⟨mem_at 1 rfl, mem_at 2 rfl, mem_at 3 rfl, mem_at 0 rfl, mem_at 4 rfl, mem_at 5 rfl, mem_at 6 rfl, mem_at 7 rfl, trivial⟩
  · rfl
def ev_ref11_Days_l0 (n : Nat) : Nat → Int → (List (Int × (List Int))) → Int → Int → (List (Int × Int × Int × Int × Int)) → (List ((List Int))) → (List (Int × Int × Int × Int)) → Option Int
  | 0, _, _, _, _, _, _, _ => none
  | m + 1, i7, l8, i9, i10, l11, l12, l13 => cond (decide (i7 < (l8.length : Int))) (idx l8 i7 fun x14 => (ev_ref11_in n x14.1 1 36524).bind fun r15 => cond (!r15) (some 2) (cond (decide ((0 : Int) < i7)) (chk (in64 (i7 - 1)) <| idx l8 (i7 - 1) fun x16 => cond (decide (x14.1 ≤ x16.1)) (some 2) (ev_ref11_Days_j1 n i7 l8 i9 i10 x14 l11 l12 l13 (fun i7q l8q i9q i10q l11q l12q l13q => ev_ref11_Days_l0 n m i7q l8q i9q i10q l11q l12q l13q))) (ev_ref11_Days_j1 n i7 l8 i9 i10 x14 l11 l12 l13 (fun i7q l8q i9q i10q l11q l12q l13q => ev_ref11_Days_l0 n m i7q l8q i9q i10q l11q l12q l13q)))) (some 0)
theorem ok_ref11_Days_l0 {n : Nat} {w0 : World} {R0 : Nat → Prop} {env0 : Env} {r : Int} : ∀ (m : Nat) (i7 : Int) (l8 : List (Int × (List Int))) (i9 : Int) (i10 : Int) (l11 : List (Int × Int × Int × Int × Int)) (l12 : List ((List Int))) (l13 : List (Int × Int × Int × Int)), ev_ref11_Days_l0 n m i7 l8 i9 i10 l11 l12 l13 = some r → TC Try.prog ⟨w0, fun _ => False, R0⟩ 75 (bodyPost Try.prog Try.f16 (Post ⟨w0, fun _ => False, R0⟩ env0 (vi r) [])) [.code (sub (bodyOf Try.f16) [1, 1, 0, 1, 0, 0, 0, 0]), .code (sub (bodyOf Try.f16) [1, 1, 0, 1, 0, 0, 0, 1]), .code (sub (bodyOf Try.f16) [1, 1, 0, 1, 0, 0, 1]), .inLoop (sub (bodyOf Try.f16) [1, 1, 0, 1, 0, 0]), .inBlock 0, .code (sub (bodyOf Try.f16) [1, 1, 1])] ([(1, .ref 3), (2, .ptr 4 0), (5, vi i7)]) ([.ro 3 2 (List.map en_api_RoundDay l8), .blk 4 [.ref 0, .ref 1, .ref 2, vi i9, vi i10] 26, .ro 0 5 (List.map en_api_RoundTower l11), .ro 1 1 (List.map en_Lint l12), .ro 2 4 (List.map en_api_RoundWinder l13)]) := by
  intro m
  induction m with
  | zero => intro i7 l8 i9 i10 l11 l12 l13 h; exact none_no h
  | succ m ih =>
    intro i7 l8 i9 i10 l11 l12 l13 h
    rw [ev_ref11_Days_l0] at h
    refine TC.region ?_
    refine op0 (sp_move rfl rfl) rfl trivial rfl rfl ?_
    refine op0 (sp_move rfl rfl) rfl trivial rfl rfl ?_
    refine op1 0 rfl (sp_lenM (N := l8.length) (len_map _ _) rfl rfl isRo Try.underlying27) rfl trivial rfl rfl ?_
    refine op0 (sp_lss rfl rfl rfl) rfl trivial rfl rfl ?_
    refine TL.nil ?_
    refine TC.cond (b := (decide (i7 < (l8.length : Int)))) rfl (fun h2 => ?_) (fun h2 => ?_)
    · have h := cond_t h h2
      refine TC.skip ?_
      refine TC.seq ?_
      refine TC.block ?_
      refine TC.seq ?_
      refine TC.region ?_
      refine op0 (sp_move rfl rfl) rfl trivial rfl rfl ?_
      refine op0 (sp_move rfl rfl) rfl trivial rfl rfl ?_
      obtain ⟨x14, h3, h4, h⟩ := idx_inv h
      refine op1 0 rfl (sp_indexS rfl rfl rfl isRo sl27 h3 (map_get _ h4)) rfl trivial rfl rfl ?_
      refine op1 0 rfl (sp_loadRA (i := (i7 : Int).toNat) (j := 0) (as_ := [vi x14.1, .ref 5]) (ns := [.ro 5 1 (List.map en_int x14.2)]) rfl rfl isRo vt32 rfl (map_get _ h4) rfl rfl (by decide) (.v (.s (.nil))) (nodup_of_B rfl)) rfl trivial rfl rfl ?_
      refine op0 (sp_alloc 6 rfl Try.zeroValue32 rfl) rfl trivial rfl rfl ?_
      refine stoB 0 (cells' := [vi x14.1, .ref 5]) rfl rfl trivial rfl rfl rfl rfl vt32 rfl rfl rfl ?_
      refine TL.nil ?_
      refine TC.seq ?_
      refine TC.seq ?_
      obtain ⟨r15, h5, h⟩ := bind_inv h
      rcases cond_cases h with ⟨h6, h⟩ | ⟨h6, h⟩
      · refine drawJ 16 [⟨.ptr 6 0, [], [.blk 6 [vi x14.1, .ref 5] 32], []⟩, ⟨vi x14.1, [], [.blk 6 [vi x14.1, .ref 5] 32], []⟩, ⟨.val (.bool r15), [], [], []⟩, ⟨.val (.bool (!r15)), [], [], []⟩, ⟨.val (.bool true), [], [], []⟩, ⟨.val (undef), [], [], []⟩, ⟨.val (undef), [], [], []⟩, ⟨.val (undef), [], [], []⟩, ⟨.val (undef), [], [], []⟩, ⟨.val (undef), [], [], []⟩, ⟨.val (undef), [], [], []⟩, ⟨.val (undef), [], [], []⟩, ⟨.val (undef), [], [], []⟩, ⟨.val (undef), [], [], []⟩, ⟨.val (undef), [], [], []⟩, ⟨.val (undef), [], [], []⟩] rfl ?_ rfl ?_ rfl ?_ ?_
        · kernel_rfl
        · kernel_rfl
        · exact DAll.op' (sp_fieldAddrB rfl isBlk rfl ft32_0 vt3 (by decide)) trivial rfl (From.ok (ps := [(none, 0)]) ⟨⟨rfl, rfl⟩, trivial⟩) (DAll.op' (sp_loadB rfl isBlk rfl vt3 rfl) trivial rfl (From.ok (ps := [(none, 0)]) ⟨⟨rfl, rfl⟩, trivial⟩) (DAll.op' (sp_call (avs := [vi x14.1, vi 1, vi 36524]) (need := []) (v := .val (.bool r15)) (news := []) rfl rfl rfl Try.call32 (atJ [] [] (fc_ref11_in h5) rfl rfl) (.inl (roAll rfl))) trivial rfl (From.ok (ps := []) trivial) (DAll.op' (sp_not rfl rfl) trivial rfl (From.ok (ps := []) trivial) (DAll.op' (sp_castB h6 (sp_move rfl rfl)) trivial rfl (From.ok (ps := []) trivial) (.skip ⟨_, rfl, .inl rfl⟩ rfl rfl rfl (.skip ⟨_, rfl, .inl rfl⟩ rfl rfl rfl (.skip ⟨_, rfl, .inl rfl⟩ rfl rfl rfl (.skip ⟨_, rfl, .inr rfl⟩ rfl rfl rfl (.skip ⟨_, rfl, .inr rfl⟩ rfl rfl rfl (.skip ⟨_, rfl, .inr rfl⟩ rfl rfl rfl (.skip ⟨_, rfl, .inr rfl⟩ rfl rfl rfl (.skip ⟨_, rfl, .inr rfl⟩ rfl rfl rfl (.skip ⟨_, rfl, .inr rfl⟩ rfl rfl rfl (.skip ⟨_, rfl, .inr rfl⟩ rfl rfl rfl (.skip ⟨_, rfl, .inr rfl⟩ rfl rfl rfl (.nil))))))))))))))))
        refine opSkip rfl ⟨_, rfl, .inr rfl⟩ rfl ?_
        refine opSkip rfl ⟨_, rfl, .inl rfl⟩ rfl ?_
        refine op0 (sp_pickT rfl rfl rfl) rfl trivial rfl rfl ?_
        refine TL.nil ?_
        refine TC.condT rfl ?_
        refine TC.seq ?_
        refine TC.region ?_
        refine op0 (sp_assign rfl rfl) rfl trivial rfl rfl ?_
        refine TL.nil ?_
        cases h
        exact retJ [] (.tmp rfl .nil) rfl trivial rfl rfl
      · rcases cond_cases h with ⟨h7, h⟩ | ⟨h7, h⟩
        · obtain ⟨h8, h⟩ := chk_inv h
          obtain ⟨x16, h9, h10, h⟩ := idx_inv h
          refine drawJ 16 [⟨.ptr 6 0, [], [.blk 6 [vi x14.1, .ref 5] 32], []⟩, ⟨vi x14.1, [], [.blk 6 [vi x14.1, .ref 5] 32], []⟩, ⟨.val (.bool r15), [], [], []⟩, ⟨.val (.bool (!r15)), [], [], []⟩, ⟨.val (.bool false), [], [], []⟩, ⟨vi i7, [], [], []⟩, ⟨.val (.bool (decide ((0 : Int) < i7))), [], [], []⟩, ⟨.val (.bool true), [], [], []⟩, ⟨.ptr 6 0, [], [.blk 6 [vi x14.1, .ref 5] 32], []⟩, ⟨vi x14.1, [], [.blk 6 [vi x14.1, .ref 5] 32], []⟩, ⟨.ref 3, [], [], []⟩, ⟨vi i7, [], [], []⟩, ⟨vi (i7 - 1), [], [], []⟩, ⟨.cell 3 (((i7 - 1) : Int).toNat * 2), [], [.ro 3 2 (List.map en_api_RoundDay l8)], []⟩, ⟨.cell 3 (((i7 - 1) : Int).toNat * 2 + 0), [], [.ro 3 2 (List.map en_api_RoundDay l8)], []⟩, ⟨vi x16.1, [], [.ro 3 2 (List.map en_api_RoundDay l8)], []⟩] rfl ?_ rfl ?_ rfl ?_ ?_
          · kernel_rfl
          · kernel_rfl
          · exact DAll.op' (sp_fieldAddrB rfl isBlk rfl ft32_0 vt3 (by decide)) trivial rfl (From.ok (ps := [(none, 0)]) ⟨⟨rfl, rfl⟩, trivial⟩) (DAll.op' (sp_loadB rfl isBlk rfl vt3 rfl) trivial rfl (From.ok (ps := [(none, 0)]) ⟨⟨rfl, rfl⟩, trivial⟩) (DAll.op' (sp_call (avs := [vi x14.1, vi 1, vi 36524]) (need := []) (v := .val (.bool r15)) (news := []) rfl rfl rfl Try.call32 (atJ [] [] (fc_ref11_in h5) rfl rfl) (.inl (roAll rfl))) trivial rfl (From.ok (ps := []) trivial) (DAll.op' (sp_not rfl rfl) trivial rfl (From.ok (ps := []) trivial) (DAll.op' (sp_castB h6 (sp_move rfl rfl)) trivial rfl (From.ok (ps := []) trivial) (DAll.op' (sp_move rfl rfl) ⟨_, rfl, rfl⟩ rfl (From.ok (ps := []) trivial) (DAll.op' (sp_gtr rfl rfl rfl) ⟨_, rfl, rfl⟩ rfl (From.ok (ps := []) trivial) (DAll.op' (sp_castB h7 (sp_move rfl rfl)) ⟨_, rfl, rfl⟩ rfl (From.ok (ps := []) trivial) (DAll.op' (sp_fieldAddrB rfl isBlk rfl ft32_0 vt3 (by decide)) ⟨_, rfl, rfl⟩ rfl (From.ok (ps := [(none, 0)]) ⟨⟨rfl, rfl⟩, trivial⟩) (DAll.op' (sp_loadB rfl isBlk rfl vt3 rfl) ⟨_, rfl, rfl⟩ rfl (From.ok (ps := [(none, 0)]) ⟨⟨rfl, rfl⟩, trivial⟩) (DAll.op' (sp_move rfl rfl) ⟨_, rfl, rfl⟩ rfl (From.ok (ps := []) trivial) (DAll.op' (sp_move rfl rfl) ⟨_, rfl, rfl⟩ rfl (From.ok (ps := []) trivial) (DAll.op' (sp_sub rfl rfl rfl h8) ⟨_, rfl, rfl⟩ rfl (From.ok (ps := []) trivial) (DAll.op' (sp_indexS rfl rfl rfl isRo sl27 h9 (map_get _ h10)) ⟨_, rfl, rfl⟩ rfl (From.ok (ps := [(none, 2)]) ⟨⟨rfl, rfl⟩, trivial⟩) (DAll.op' (sp_fieldAddrR (i := ((i7 - 1) : Int).toNat) rfl rfl isRo ft32_0 vt3 (by decide) (map_get _ h10) (fun h => nomatch h)) ⟨_, rfl, rfl⟩ rfl (From.ok (ps := [(none, 2)]) ⟨⟨rfl, rfl⟩, trivial⟩) (DAll.op' (sp_loadR (i := ((i7 - 1) : Int).toNat) (j := 0) rfl rfl isRo vt3 rfl (map_get _ h10) rfl (.v (.nil)) (nodup_of_B rfl)) ⟨_, rfl, rfl⟩ rfl (From.ok (ps := [(none, 2)]) ⟨⟨rfl, rfl⟩, trivial⟩) (.nil))))))))))))))))
          refine op0 (sp_leq rfl rfl rfl) rfl ⟨_, rfl, rfl⟩ rfl rfl ?_
          refine op0 (sp_pickT rfl rfl rfl) rfl ⟨_, rfl, rfl⟩ rfl rfl ?_
          refine op0 (sp_pickF rfl rfl rfl) rfl trivial rfl rfl ?_
          refine TL.nil ?_
          refine TC.cond (b := (decide (x14.1 ≤ x16.1))) rfl (fun h11 => ?_) (fun h11 => ?_)
          · have h := cond_t h h11
            refine TC.seq ?_
            refine TC.region ?_
            refine op0 (sp_assign rfl rfl) rfl trivial rfl rfl ?_
            refine TL.nil ?_
            cases h
            exact retJ [] (.tmp rfl .nil) rfl trivial rfl rfl
          · have h := cond_f h h11
            refine subJ [] (ok_ref11_Days_j1 ih h) ?_ ?_ ?_
            · exact ⟨rfl, rfl, rfl, rfl, trivial⟩
            · exact ⟨mem_at 2 rfl, mem_at 3 rfl, mem_at 0 rfl, mem_at 4 rfl, mem_at 5 rfl, mem_at 6 rfl, mem_at 1 rfl, trivial⟩
            · rfl
        · refine drawJ 16 [⟨.ptr 6 0, [], [.blk 6 [vi x14.1, .ref 5] 32], []⟩, ⟨vi x14.1, [], [.blk 6 [vi x14.1, .ref 5] 32], []⟩, ⟨.val (.bool r15), [], [], []⟩, ⟨.val (.bool (!r15)), [], [], []⟩, ⟨.val (.bool false), [], [], []⟩, ⟨vi i7, [], [], []⟩, ⟨.val (.bool (decide ((0 : Int) < i7))), [], [], []⟩, ⟨.val (.bool false), [], [], []⟩, ⟨.val (undef), [], [], []⟩, ⟨.val (undef), [], [], []⟩, ⟨.val (undef), [], [], []⟩, ⟨.val (undef), [], [], []⟩, ⟨.val (undef), [], [], []⟩, ⟨.val (undef), [], [], []⟩, ⟨.val (undef), [], [], []⟩, ⟨.val (undef), [], [], []⟩] rfl ?_ rfl ?_ rfl ?_ ?_
          · kernel_rfl
          · kernel_rfl
          · exact DAll.op' (sp_fieldAddrB rfl isBlk rfl ft32_0 vt3 (by decide)) trivial rfl (From.ok (ps := [(none, 0)]) ⟨⟨rfl, rfl⟩, trivial⟩) (DAll.op' (sp_loadB rfl isBlk rfl vt3 rfl) trivial rfl (From.ok (ps := [(none, 0)]) ⟨⟨rfl, rfl⟩, trivial⟩) (DAll.op' (sp_call (avs := [vi x14.1, vi 1, vi 36524]) (need := []) (v := .val (.bool r15)) (news := []) rfl rfl rfl Try.call32 (atJ [] [] (fc_ref11_in h5) rfl rfl) (.inl (roAll rfl))) trivial rfl (From.ok (ps := []) trivial) (DAll.op' (sp_not rfl rfl) trivial rfl (From.ok (ps := []) trivial) (DAll.op' (sp_castB h6 (sp_move rfl rfl)) trivial rfl (From.ok (ps := []) trivial) (DAll.op' (sp_move rfl rfl) ⟨_, rfl, rfl⟩ rfl (From.ok (ps := []) trivial) (DAll.op' (sp_gtr rfl rfl rfl) ⟨_, rfl, rfl⟩ rfl (From.ok (ps := []) trivial) (DAll.op' (sp_castB h7 (sp_move rfl rfl)) ⟨_, rfl, rfl⟩ rfl (From.ok (ps := []) trivial) (.skip ⟨_, rfl, .inl rfl⟩ rfl rfl rfl (.skip ⟨_, rfl, .inl rfl⟩ rfl rfl rfl (.skip ⟨_, rfl, .inl rfl⟩ rfl rfl rfl (.skip ⟨_, rfl, .inl rfl⟩ rfl rfl rfl (.skip ⟨_, rfl, .inl rfl⟩ rfl rfl rfl (.skip ⟨_, rfl, .inl rfl⟩ rfl rfl rfl (.skip ⟨_, rfl, .inl rfl⟩ rfl rfl rfl (.skip ⟨_, rfl, .inl rfl⟩ rfl rfl rfl (.nil))))))))))))))))
          refine opSkip rfl ⟨_, rfl, .inl rfl⟩ rfl ?_
          refine op0 (sp_pickF rfl rfl rfl) rfl ⟨_, rfl, rfl⟩ rfl rfl ?_
          refine op0 (sp_pickF rfl rfl rfl) rfl trivial rfl rfl ?_
          refine TL.nil ?_
          refine TC.condF rfl ?_
          refine subJ [] (ok_ref11_Days_j1 ih h) ?_ ?_ ?_
          · exact ⟨rfl, rfl, rfl, rfl, trivial⟩
          · exact ⟨mem_at 2 rfl, mem_at 3 rfl, mem_at 0 rfl, mem_at 4 rfl, mem_at 5 rfl, mem_at 6 rfl, mem_at 1 rfl, trivial⟩
          · rfl
    · have h := cond_f h h2
      refine TC.exit rfl ?_
      refine TC.seq ?_
      refine TC.region ?_
      refine op0 (sp_assign rfl rfl) rfl trivial rfl rfl ?_
      refine TL.nil ?_
      cases h
      exact retJ [] (.tmp rfl .nil) rfl trivial rfl rfl
def ev_ref11_Days (n : Nat) (rr1 : List (Int × Int × Int × Int × Int)) (rr2 : List ((List Int))) (rr3 : List (Int × Int × Int × Int)) (rr4 : Int) (rr5 : Int) (l6 : List (Int × (List Int))) : Option Int :=
  cond (decide ((400 : Int) < (l6.length : Int))) (some 5) (ev_ref11_Days_l0 n n 0 l6 rr4 rr5 rr1 rr2 rr3)
theorem fc_ref11_Days {n : Nat} {rr1 : List (Int × Int × Int × Int × Int)} {rr2 : List ((List Int))} {rr3 : List (Int × Int × Int × Int)} {rr4 : Int} {rr5 : Int} {l6 : List (Int × (List Int))} {r : Int} (h : ev_ref11_Days n rr1 rr2 rr3 rr4 rr5 l6 = some r) : FC Try.prog 16 [.agg [.ref 0, .ref 1, .ref 2, vi rr4, vi rr5], .ref 3] [.ro 0 5 (List.map en_api_RoundTower rr1), .ro 1 1 (List.map en_Lint rr2), .ro 2 4 (List.map en_api_RoundWinder rr3), .ro 3 2 (List.map en_api_RoundDay l6)] (vi r) [] := by
  refine introJ (nz := 75) Try.func16 rfl rfl rfl (fun w0 R0 env0 => ?_)
  rw [ev_ref11_Days] at h
  refine TC.seq ?_
  refine TC.region ?_
  refine op0 (sp_box 4 rfl rfl rfl rfl rfl) rfl trivial rfl rfl ?_
  refine op0 (sp_assign rfl rfl) rfl trivial rfl rfl ?_
  refine TL.nil ?_
  refine TC.seq ?_
  refine TC.seq ?_
  refine TC.region ?_
  refine op0 (sp_move rfl rfl) rfl trivial rfl rfl ?_
  refine op1 4 rfl (sp_lenM (N := l6.length) (len_map _ _) rfl rfl isRo Try.underlying27) rfl trivial rfl rfl ?_
  refine op0 (sp_gtr rfl rfl rfl) rfl trivial rfl rfl ?_
  refine TL.nil ?_
  refine TC.cond (b := (decide ((400 : Int) < (l6.length : Int)))) rfl (fun h1 => ?_) (fun h1 => ?_)
  · have h := cond_t h h1
    refine TC.seq ?_
    refine TC.region ?_
    refine op0 (sp_assign rfl rfl) rfl trivial rfl rfl ?_
    refine TL.nil ?_
    cases h
    exact retJ [] (.tmp rfl .nil) rfl trivial rfl rfl
  · have h := cond_f h h1
    refine TC.skip ?_
    refine TC.seq ?_
    refine TC.seq ?_
    refine TC.region ?_
    refine op0 (sp_assign rfl rfl) rfl trivial rfl rfl ?_
    refine TL.nil ?_
    refine TC.block ?_
    refine TC.loop ?_
    refine TC.seq ?_
    refine TC.seq ?_
    refine subJ [] (ok_ref11_Days_l0 _ _ _ _ _ _ _ _ h) ?_ ?_ ?_
    · exact ⟨rfl, rfl, rfl, trivial⟩
    · exact ⟨mem_at 4 rfl, mem_at 0 rfl, mem_at 1 rfl, mem_at 2 rfl, mem_at 3 rfl, trivial⟩
    · rfl
def ev_ref11_Last_l2 (n : Nat) (l1 : List (Int × (List Int))) (i5 : Int) (tower2 : Int) (k_ref11_Last_l0 : Int → Int → Option Int) : Nat → Int → Int → Option Int
  | 0, _, _ => none
  | m + 1, i7, i9 => idx l1 i5 fun x10 => cond (decide (i9 < (x10.2.length : Int))) (idx x10.2 i9 fun x11 => cond (x11 == tower2) (chk (in64 (i9 + 1)) <| ev_ref11_Last_l2 n l1 i5 tower2 k_ref11_Last_l0 m x10.1 (i9 + 1)) (chk (in64 (i9 + 1)) <| ev_ref11_Last_l2 n l1 i5 tower2 k_ref11_Last_l0 m i7 (i9 + 1))) (chk (in64 (i5 + 1)) <| k_ref11_Last_l0 i7 (i5 + 1))
theorem ok_ref11_Last_l2 {n : Nat} {w0 : World} {R0 : Nat → Prop} {env0 : Env} {r : Int} {tower2 : Int} {day3 : Int} {l1 : List (Int × (List Int))} {i5 : Int} {k_ref11_Last_l0 : Int → Int → Option Int} (hk_ref11_Last_l0 : ∀ (i4 : Int) (i5 : Int), k_ref11_Last_l0 i4 i5 = some r → TC Try.prog ⟨w0, fun _ => False, R0⟩ 51 (bodyPost Try.prog Try.f17 (Post ⟨w0, fun _ => False, R0⟩ env0 (vi r) [])) [.code (sub (bodyOf Try.f17) [1, 1, 0, 1, 0, 0, 0, 0]), .code (sub (bodyOf Try.f17) [1, 1, 0, 1, 0, 0, 0, 1]), .code (sub (bodyOf Try.f17) [1, 1, 0, 1, 0, 0, 1]), .inLoop (sub (bodyOf Try.f17) [1, 1, 0, 1, 0, 0]), .inBlock 0, .code (sub (bodyOf Try.f17) [1, 1, 1])] ([(0, .ref 0), (1, vi tower2), (2, vi day3), (7, vi i4), (8, vi i5)]) ([.ro 0 2 (List.map en_api_RoundDay l1)])) : ∀ (m : Nat) (i7 : Int) (i9 : Int), ev_ref11_Last_l2 n l1 i5 tower2 k_ref11_Last_l0 m i7 i9 = some r → TC Try.prog ⟨w0, fun _ => False, R0⟩ 51 (bodyPost Try.prog Try.f17 (Post ⟨w0, fun _ => False, R0⟩ env0 (vi r) [])) [.code (sub (bodyOf Try.f17) [1, 1, 0, 1, 0, 0, 1, 0, 0, 1, 0, 0, 0, 0]), .code (sub (bodyOf Try.f17) [1, 1, 0, 1, 0, 0, 1, 0, 0, 1, 0, 0, 0, 1]), .code (sub (bodyOf Try.f17) [1, 1, 0, 1, 0, 0, 1, 0, 0, 1, 0, 0, 1]), .inLoop (sub (bodyOf Try.f17) [1, 1, 0, 1, 0, 0, 1, 0, 0, 1, 0, 0]), .inBlock 2, .inBlock 1, .code (sub (bodyOf Try.f17) [1, 1, 0, 1, 0, 0, 1, 1]), .inLoop (sub (bodyOf Try.f17) [1, 1, 0, 1, 0, 0]), .inBlock 0, .code (sub (bodyOf Try.f17) [1, 1, 1])] ([(0, .ref 0), (1, vi tower2), (2, vi day3), (7, vi i7), (8, vi i5), (9, vi i9)]) ([.ro 0 2 (List.map en_api_RoundDay l1)]) := by
  intro m
  induction m with
  | zero => intro i7 i9 h; exact none_no h
  | succ m ih =>
    intro i7 i9 h
    rw [ev_ref11_Last_l2] at h
    refine TC.region ?_
    refine op0 (sp_move rfl rfl) rfl trivial rfl rfl ?_
    refine op0 (sp_move rfl rfl) rfl trivial rfl rfl ?_
    refine op0 (sp_move rfl rfl) rfl trivial rfl rfl ?_
    obtain ⟨x10, h5, h6, h⟩ := idx_inv h
    refine op1 0 rfl (sp_indexS rfl rfl rfl isRo sl27 h5 (map_get _ h6)) rfl trivial rfl rfl ?_
    refine op1 0 rfl (sp_fieldAddrR (i := (i5 : Int).toNat) rfl rfl isRo ft32_1 vt30 (by decide) (map_get _ h6) (fun h => nomatch h)) rfl trivial rfl rfl ?_
    refine op1 0 rfl (sp_loadR (i := (i5 : Int).toNat) (j := 1) (ns := [.ro 1 1 (List.map en_int x10.2)]) rfl rfl isRo vt30 rfl (map_get _ h6) rfl (.s (.nil)) (nodup_of_B rfl)) rfl trivial rfl rfl ?_
    refine op1 0 rfl (sp_lenM (N := x10.2.length) (len_map _ _) rfl rfl isRo Try.underlying30) rfl trivial rfl rfl ?_
    refine op0 (sp_lss rfl rfl rfl) rfl trivial rfl rfl ?_
    refine TL.nil ?_
    refine TC.cond (b := (decide (i9 < (x10.2.length : Int)))) rfl (fun h7 => ?_) (fun h7 => ?_)
    · have h := cond_t h h7
      refine TC.skip ?_
      refine TC.seq ?_
      refine TC.block ?_
      refine TC.seq ?_
      refine TC.region ?_
      refine op0 (sp_move rfl rfl) rfl trivial rfl rfl ?_
      refine op0 (sp_move rfl rfl) rfl trivial rfl rfl ?_
      refine op1 1 rfl (sp_indexS rfl rfl rfl isRo sl27 h5 (map_get _ h6)) rfl trivial rfl rfl ?_
      refine op1 1 rfl (sp_fieldAddrR (i := (i5 : Int).toNat) rfl rfl isRo ft32_1 vt30 (by decide) (map_get _ h6) (fun h => nomatch h)) rfl trivial rfl rfl ?_
      refine op1 1 rfl (sp_loadR (i := (i5 : Int).toNat) (j := 1) (ns := [.ro 2 1 (List.map en_int x10.2)]) rfl rfl isRo vt30 rfl (map_get _ h6) rfl (.s (.nil)) (nodup_of_B rfl)) rfl trivial rfl rfl ?_
      refine op0 (sp_move rfl rfl) rfl trivial rfl rfl ?_
      obtain ⟨x11, h8, h9, h⟩ := idx_inv h
      refine op1 0 rfl (sp_indexS rfl rfl rfl isRo sl30 h8 (map_get _ h9)) rfl trivial rfl rfl ?_
      refine op1 0 rfl (sp_loadR (i := (i9 : Int).toNat) (j := 0) rfl rfl isRo vt3 rfl (map_get _ h9) rfl (.v (.nil)) (nodup_of_B rfl)) rfl trivial rfl rfl ?_
      refine op0 (sp_move rfl rfl) rfl trivial rfl rfl ?_
      refine op0 (sp_eql rfl rfl rfl) rfl trivial rfl rfl ?_
      refine TL.nil ?_
      refine TC.cond (b := (x11 == tower2)) rfl (fun h10 => ?_) (fun h10 => ?_)
      · have h := cond_t h h10
        refine TC.region ?_
        refine op0 (sp_move rfl rfl) rfl trivial rfl rfl ?_
        refine op0 (sp_move rfl rfl) rfl trivial rfl rfl ?_
        refine op1 2 rfl (sp_indexS rfl rfl rfl isRo sl27 h5 (map_get _ h6)) rfl trivial rfl rfl ?_
        refine op1 2 rfl (sp_fieldAddrR (i := (i5 : Int).toNat) rfl rfl isRo ft32_0 vt3 (by decide) (map_get _ h6) (fun h => nomatch h)) rfl trivial rfl rfl ?_
        refine op1 2 rfl (sp_loadR (i := (i5 : Int).toNat) (j := 0) rfl rfl isRo vt3 rfl (map_get _ h6) rfl (.v (.nil)) (nodup_of_B rfl)) rfl trivial rfl rfl ?_
        refine op0 (sp_assign rfl rfl) rfl trivial rfl rfl ?_
        refine TL.nil ?_
        refine TC.inBlock ?_
        refine TC.region ?_
        refine op0 (sp_move rfl rfl) rfl trivial rfl rfl ?_
        obtain ⟨h11, h⟩ := chk_inv h
        refine op0 (sp_add rfl rfl rfl h11) rfl trivial rfl rfl ?_
        refine op0 (sp_assign rfl rfl) rfl trivial rfl rfl ?_
        refine TL.nil ?_
        refine TC.inLoop ?_
        refine TC.seq ?_
        refine TC.seq ?_
        refine subJ [] (ih _ _ h) ?_ ?_ ?_
        · exact ⟨rfl, rfl, rfl, rfl, rfl, rfl, trivial⟩
        · exact ⟨mem_at 2 rfl, trivial⟩
        · rfl
      · have h := cond_f h h10
        refine TC.skip ?_
        refine TC.inBlock ?_
        refine TC.region ?_
        refine op0 (sp_move rfl rfl) rfl trivial rfl rfl ?_
        obtain ⟨h12, h⟩ := chk_inv h
        refine op0 (sp_add rfl rfl rfl h12) rfl trivial rfl rfl ?_
        refine op0 (sp_assign rfl rfl) rfl trivial rfl rfl ?_
        refine TL.nil ?_
        refine TC.inLoop ?_
        refine TC.seq ?_
        refine TC.seq ?_
        refine subJ [] (ih _ _ h) ?_ ?_ ?_
        · exact ⟨rfl, rfl, rfl, rfl, rfl, rfl, trivial⟩
        · exact ⟨mem_at 2 rfl, trivial⟩
        · rfl
    · have h := cond_f h h7
      refine TC.exit rfl ?_
      refine TC.inBlock ?_
      refine TC.region ?_
      refine op0 (sp_move rfl rfl) rfl trivial rfl rfl ?_
      obtain ⟨h13, h⟩ := chk_inv h
      refine op0 (sp_add rfl rfl rfl h13) rfl trivial rfl rfl ?_
      refine op0 (sp_assign rfl rfl) rfl trivial rfl rfl ?_
      refine TL.nil ?_
      refine TC.inLoop ?_
      refine TC.seq ?_
      refine TC.seq ?_
      refine subJ [] (hk_ref11_Last_l0 _ _ h) ?_ ?_ ?_
      · exact ⟨rfl, rfl, rfl, rfl, rfl, trivial⟩
      · exact ⟨mem_at 1 rfl, trivial⟩
      · rfl
def ev_ref11_Last_j1 (n : Nat) (l1 : List (Int × (List Int))) (i5 : Int) (tower2 : Int) (i4 : Int) (k_ref11_Last_l0 : Int → Int → Option Int) : Option Int :=
  ev_ref11_Last_l2 n l1 i5 tower2 k_ref11_Last_l0 n i4 0
theorem ok_ref11_Last_j1 {n : Nat} {w0 : World} {R0 : Nat → Prop} {env0 : Env} {r : Int} {tower2 : Int} {day3 : Int} {l1 : List (Int × (List Int))} {i5 : Int} {i4 : Int} {k_ref11_Last_l0 : Int → Int → Option Int} (hk_ref11_Last_l0 : ∀ (i4 : Int) (i5 : Int), k_ref11_Last_l0 i4 i5 = some r → TC Try.prog ⟨w0, fun _ => False, R0⟩ 51 (bodyPost Try.prog Try.f17 (Post ⟨w0, fun _ => False, R0⟩ env0 (vi r) [])) [.code (sub (bodyOf Try.f17) [1, 1, 0, 1, 0, 0, 0, 0]), .code (sub (bodyOf Try.f17) [1, 1, 0, 1, 0, 0, 0, 1]), .code (sub (bodyOf Try.f17) [1, 1, 0, 1, 0, 0, 1]), .inLoop (sub (bodyOf Try.f17) [1, 1, 0, 1, 0, 0]), .inBlock 0, .code (sub (bodyOf Try.f17) [1, 1, 1])] ([(0, .ref 0), (1, vi tower2), (2, vi day3), (7, vi i4), (8, vi i5)]) ([.ro 0 2 (List.map en_api_RoundDay l1)])) (h : ev_ref11_Last_j1 n l1 i5 tower2 i4 k_ref11_Last_l0 = some r) : TC Try.prog ⟨w0, fun _ => False, R0⟩ 51 (bodyPost Try.prog Try.f17 (Post ⟨w0, fun _ => False, R0⟩ env0 (vi r) [])) [.code (sub (bodyOf Try.f17) [1, 1, 0, 1, 0, 0, 0, 1, 0]), .code (sub (bodyOf Try.f17) [1, 1, 0, 1, 0, 0, 1]), .inLoop (sub (bodyOf Try.f17) [1, 1, 0, 1, 0, 0]), .inBlock 0, .code (sub (bodyOf Try.f17) [1, 1, 1])] ([(0, .ref 0), (1, vi tower2), (2, vi day3), (7, vi i4), (8, vi i5)]) ([.ro 0 2 (List.map en_api_RoundDay l1)]) := by
  rw [ev_ref11_Last_j1] at h
  refine TC.skip ?_
  refine TC.seq ?_
  refine TC.block ?_
  refine TC.seq ?_
  refine TC.region ?_
  refine op0 (sp_assign rfl rfl) rfl trivial rfl rfl ?_
  refine TL.nil ?_
  refine TC.block ?_
  refine TC.loop ?_
  refine TC.seq ?_
  refine TC.seq ?_
  refine subJ [] (ok_ref11_Last_l2 (day3 := day3) hk_ref11_Last_l0 _ _ _ h) ?_ ?_ ?_
  · exact ⟨rfl, rfl, rfl, rfl, rfl, rfl, trivial⟩
  · exact ⟨mem_at 0 rfl, trivial⟩
  · rfl
def ev_ref11_Last_l0 (n : Nat) (l1 : List (Int × (List Int))) (day3 : Int) (tower2 : Int) : Nat → Int → Int → Option Int
  | 0, _, _ => none
  | m + 1, i4, i5 => cond (decide (i5 < (l1.length : Int))) (idx l1 i5 fun x6 => cond (decide (x6.1 ≤ day3)) (ev_ref11_Last_j1 n l1 i5 tower2 i4 (fun i4q i5q => ev_ref11_Last_l0 n l1 day3 tower2 m i4q i5q)) (some i4)) (some i4)
theorem ok_ref11_Last_l0 {n : Nat} {w0 : World} {R0 : Nat → Prop} {env0 : Env} {r : Int} {tower2 : Int} {day3 : Int} {l1 : List (Int × (List Int))} : ∀ (m : Nat) (i4 : Int) (i5 : Int), ev_ref11_Last_l0 n l1 day3 tower2 m i4 i5 = some r → TC Try.prog ⟨w0, fun _ => False, R0⟩ 51 (bodyPost Try.prog Try.f17 (Post ⟨w0, fun _ => False, R0⟩ env0 (vi r) [])) [.code (sub (bodyOf Try.f17) [1, 1, 0, 1, 0, 0, 0, 0]), .code (sub (bodyOf Try.f17) [1, 1, 0, 1, 0, 0, 0, 1]), .code (sub (bodyOf Try.f17) [1, 1, 0, 1, 0, 0, 1]), .inLoop (sub (bodyOf Try.f17) [1, 1, 0, 1, 0, 0]), .inBlock 0, .code (sub (bodyOf Try.f17) [1, 1, 1])] ([(0, .ref 0), (1, vi tower2), (2, vi day3), (7, vi i4), (8, vi i5)]) ([.ro 0 2 (List.map en_api_RoundDay l1)]) := by
  intro m
  induction m with
  | zero => intro i4 i5 h; exact none_no h
  | succ m ih =>
    intro i4 i5 h
    rw [ev_ref11_Last_l0] at h
    refine TC.region ?_
    refine op0 (sp_move rfl rfl) rfl trivial rfl rfl ?_
    refine op0 (sp_move rfl rfl) rfl trivial rfl rfl ?_
    refine op1 0 rfl (sp_lenM (N := l1.length) (len_map _ _) rfl rfl isRo Try.underlying27) rfl trivial rfl rfl ?_
    refine op0 (sp_lss rfl rfl rfl) rfl trivial rfl rfl ?_
    refine op0 (sp_move rfl rfl) rfl trivial rfl rfl ?_
    rcases cond_cases h with ⟨h1, h⟩ | ⟨h1, h⟩
    · refine (boolLit 14 rfl h1).2 ?_
      refine op0 (sp_move rfl rfl) rfl ⟨_, rfl, rfl⟩ rfl rfl ?_
      refine op0 (sp_move rfl rfl) rfl ⟨_, rfl, rfl⟩ rfl rfl ?_
      obtain ⟨x6, h2, h3, h⟩ := idx_inv h
      refine op1 0 rfl (sp_indexS rfl rfl rfl isRo sl27 h2 (map_get _ h3)) rfl ⟨_, rfl, rfl⟩ rfl rfl ?_
      refine op1 0 rfl (sp_fieldAddrR (i := (i5 : Int).toNat) rfl rfl isRo ft32_0 vt3 (by decide) (map_get _ h3) (fun h => nomatch h)) rfl ⟨_, rfl, rfl⟩ rfl rfl ?_
      refine op1 0 rfl (sp_loadR (i := (i5 : Int).toNat) (j := 0) rfl rfl isRo vt3 rfl (map_get _ h3) rfl (.v (.nil)) (nodup_of_B rfl)) rfl ⟨_, rfl, rfl⟩ rfl rfl ?_
      refine op0 (sp_move rfl rfl) rfl ⟨_, rfl, rfl⟩ rfl rfl ?_
      refine op0 (sp_leq rfl rfl rfl) rfl ⟨_, rfl, rfl⟩ rfl rfl ?_
      refine op0 (sp_pickT rfl rfl rfl) rfl trivial rfl rfl ?_
      refine TL.nil ?_
      refine TC.cond (b := (decide (x6.1 ≤ day3))) rfl (fun h4 => ?_) (fun h4 => ?_)
      · have h := cond_t h h4
        refine subJ [] (ok_ref11_Last_j1 (day3 := day3) ih h) ?_ ?_ ?_
        · exact ⟨rfl, rfl, rfl, rfl, rfl, trivial⟩
        · exact ⟨mem_at 0 rfl, trivial⟩
        · rfl
      · have h := cond_f h h4
        refine TC.exit rfl ?_
        refine TC.seq ?_
        refine TC.region ?_
        refine op0 (sp_move rfl rfl) rfl trivial rfl rfl ?_
        refine op0 (sp_assign rfl rfl) rfl trivial rfl rfl ?_
        refine TL.nil ?_
        cases h
        exact retJ [] (.tmp rfl .nil) rfl trivial rfl rfl
    · refine (boolLit 14 rfl h1).2 ?_
      refine opSkip rfl ⟨_, rfl, .inl rfl⟩ rfl ?_
      refine opSkip rfl ⟨_, rfl, .inl rfl⟩ rfl ?_
      refine opSkip rfl ⟨_, rfl, .inl rfl⟩ rfl ?_
      refine opSkip rfl ⟨_, rfl, .inl rfl⟩ rfl ?_
      refine opSkip rfl ⟨_, rfl, .inl rfl⟩ rfl ?_
      refine opSkip rfl ⟨_, rfl, .inl rfl⟩ rfl ?_
      refine opSkip rfl ⟨_, rfl, .inl rfl⟩ rfl ?_
      refine op0 (sp_pickF rfl rfl rfl) rfl trivial rfl rfl ?_
      refine TL.nil ?_
      refine TC.condF rfl ?_
      refine TC.exit rfl ?_
      refine TC.seq ?_
      refine TC.region ?_
      refine op0 (sp_move rfl rfl) rfl trivial rfl rfl ?_
      refine op0 (sp_assign rfl rfl) rfl trivial rfl rfl ?_
      refine TL.nil ?_
      cases h
      exact retJ [] (.tmp rfl .nil) rfl trivial rfl rfl
def ev_ref11_Last (n : Nat) (l1 : List (Int × (List Int))) (tower2 : Int) (day3 : Int) : Option Int :=
  ev_ref11_Last_l0 n l1 day3 tower2 n 0 0
theorem fc_ref11_Last {n : Nat} {l1 : List (Int × (List Int))} {tower2 : Int} {day3 : Int} {r : Int} (h : ev_ref11_Last n l1 tower2 day3 = some r) : FC Try.prog 17 [.ref 0, vi tower2, vi day3] [.ro 0 2 (List.map en_api_RoundDay l1)] (vi r) [] := by
  refine introJ (nz := 51) Try.func17 rfl rfl rfl (fun w0 R0 env0 => ?_)
  rw [ev_ref11_Last] at h
  refine TC.seq ?_
  refine TC.region ?_
  refine op0 (sp_assign rfl rfl) rfl trivial rfl rfl ?_
  refine TL.nil ?_
  refine TC.seq ?_
  refine TC.region ?_
  refine op0 (sp_assign rfl rfl) rfl trivial rfl rfl ?_
  refine TL.nil ?_
  refine TC.seq ?_
  refine TC.seq ?_
  refine TC.region ?_
  refine op0 (sp_assign rfl rfl) rfl trivial rfl rfl ?_
  refine TL.nil ?_
  refine TC.block ?_
  refine TC.loop ?_
  refine TC.seq ?_
  refine TC.seq ?_
  refine subJ [] (ok_ref11_Last_l0 _ _ _ h) ?_ ?_ ?_
  · exact ⟨rfl, rfl, rfl, rfl, rfl, trivial⟩
  · exact ⟨mem_at 0 rfl, trivial⟩
  · rfl
def ev_ref11_Stops_l1 (n : Nat) (rr1 : List (Int × Int × Int × Int × Int)) (l6 : List (Int × (List Int))) (i9 : Int) (k_ref11_Stops_l0 : Int → Option (Int × Int)) : Nat → Int → Option (Int × Int)
  | 0, _ => none
  | m + 1, i10 => cond (decide (i10 < (rr1.length : Int))) ((ev_ref11_Last n l6 i10 i9).bind fun r11 => idx rr1 i10 fun x12 => chk (in64 (r11 + x12.2.2.2.2)) <| cond ((r11 + x12.2.2.2.2) == i9) (some (i10, i9)) (chk (in64 (i10 + 1)) <| ev_ref11_Stops_l1 n rr1 l6 i9 k_ref11_Stops_l0 m (i10 + 1))) (chk (in64 (i9 + 1)) <| k_ref11_Stops_l0 (i9 + 1))
theorem ok_ref11_Stops_l1 {n : Nat} {w0 : World} {R0 : Nat → Prop} {env0 : Env} {r : Int × Int} {until7 : Int} {l6 : List (Int × (List Int))} {rr4 : Int} {rr5 : Int} {rr1 : List (Int × Int × Int × Int × Int)} {rr2 : List ((List Int))} {rr3 : List (Int × Int × Int × Int)} {i9 : Int} {k_ref11_Stops_l0 : Int → Option (Int × Int)} (hk_ref11_Stops_l0 : ∀ (i9 : Int), k_ref11_Stops_l0 i9 = some r → TC Try.prog ⟨w0, fun _ => False, R0⟩ 37 (bodyPost Try.prog Try.f18 (Post ⟨w0, fun _ => False, R0⟩ env0 (.tup [vi r.1, vi r.2]) [])) [.code (sub (bodyOf Try.f18) [1, 0, 1, 0, 0, 0, 0]), .code (sub (bodyOf Try.f18) [1, 0, 1, 0, 0, 0, 1]), .code (sub (bodyOf Try.f18) [1, 0, 1, 0, 0, 1]), .inLoop (sub (bodyOf Try.f18) [1, 0, 1, 0, 0]), .inBlock 0, .code (sub (bodyOf Try.f18) [1, 1])] ([(1, .ref 3), (2, vi until7), (3, .ptr 4 0), (8, vi i9)]) ([.ro 3 2 (List.map en_api_RoundDay l6), .blk 4 [.ref 0, .ref 1, .ref 2, vi rr4, vi rr5] 26, .ro 0 5 (List.map en_api_RoundTower rr1), .ro 1 1 (List.map en_Lint rr2), .ro 2 4 (List.map en_api_RoundWinder rr3)])) : ∀ (m : Nat) (i10 : Int), ev_ref11_Stops_l1 n rr1 l6 i9 k_ref11_Stops_l0 m i10 = some r → TC Try.prog ⟨w0, fun _ => False, R0⟩ 37 (bodyPost Try.prog Try.f18 (Post ⟨w0, fun _ => False, R0⟩ env0 (.tup [vi r.1, vi r.2]) [])) [.code (sub (bodyOf Try.f18) [1, 0, 1, 0, 0, 1, 0, 0, 1, 0, 0, 0, 0]), .code (sub (bodyOf Try.f18) [1, 0, 1, 0, 0, 1, 0, 0, 1, 0, 0, 0, 1]), .code (sub (bodyOf Try.f18) [1, 0, 1, 0, 0, 1, 0, 0, 1, 0, 0, 1]), .inLoop (sub (bodyOf Try.f18) [1, 0, 1, 0, 0, 1, 0, 0, 1, 0, 0]), .inBlock 2, .inBlock 1, .code (sub (bodyOf Try.f18) [1, 0, 1, 0, 0, 1, 1]), .inLoop (sub (bodyOf Try.f18) [1, 0, 1, 0, 0]), .inBlock 0, .code (sub (bodyOf Try.f18) [1, 1])] ([(1, .ref 3), (2, vi until7), (3, .ptr 4 0), (8, vi i9), (9, vi i10)]) ([.ro 3 2 (List.map en_api_RoundDay l6), .blk 4 [.ref 0, .ref 1, .ref 2, vi rr4, vi rr5] 26, .ro 0 5 (List.map en_api_RoundTower rr1), .ro 1 1 (List.map en_Lint rr2), .ro 2 4 (List.map en_api_RoundWinder rr3)]) := by
  intro m
  induction m with
  | zero => intro i10 h; exact none_no h
  | succ m ih =>
    intro i10 h
    rw [ev_ref11_Stops_l1] at h
    refine TC.region ?_
    refine op0 (sp_move rfl rfl) rfl trivial rfl rfl ?_
    refine op1 1 rfl (sp_fieldAddrB rfl isBlk rfl ft26_0 vt22 (by decide)) rfl trivial rfl rfl ?_
    refine op1 1 rfl (sp_loadB rfl isBlk rfl vt22 rfl) rfl trivial rfl rfl ?_
    refine op1 2 rfl (sp_lenM (N := rr1.length) (len_map _ _) rfl rfl isRo Try.underlying22) rfl trivial rfl rfl ?_
    refine op0 (sp_lss rfl rfl rfl) rfl trivial rfl rfl ?_
    refine TL.nil ?_
    refine TC.cond (b := (decide (i10 < (rr1.length : Int)))) rfl (fun h2 => ?_) (fun h2 => ?_)
    · have h := cond_t h h2
      refine TC.skip ?_
      refine TC.seq ?_
      refine TC.block ?_
      refine TC.seq ?_
      obtain ⟨r11, h3, h⟩ := bind_inv h
      obtain ⟨x12, h4, h5, h⟩ := idx_inv h
      obtain ⟨h6, h⟩ := chk_inv h
      refine drawJ 12 [⟨.ref 3, [], [], []⟩, ⟨vi i10, [], [], []⟩, ⟨vi i9, [], [], []⟩, ⟨vi r11, [], [.ro 3 2 (List.map en_api_RoundDay l6)], []⟩, ⟨.ptr 4 0, [], [.blk 4 [.ref 0, .ref 1, .ref 2, vi rr4, vi rr5] 26], []⟩, ⟨.ref 0, [], [.blk 4 [.ref 0, .ref 1, .ref 2, vi rr4, vi rr5] 26], []⟩, ⟨vi i10, [], [], []⟩, ⟨.cell 0 ((i10 : Int).toNat * 5), [], [.ro 0 5 (List.map en_api_RoundTower rr1)], []⟩, ⟨.cell 0 ((i10 : Int).toNat * 5 + 4), [], [.ro 0 5 (List.map en_api_RoundTower rr1)], []⟩, ⟨vi x12.2.2.2.2, [], [.ro 0 5 (List.map en_api_RoundTower rr1)], []⟩, ⟨vi (r11 + x12.2.2.2.2), [], [], []⟩, ⟨vi i9, [], [], []⟩] rfl ?_ rfl ?_ rfl ?_ ?_
      · kernel_rfl
      · kernel_rfl
      · exact DAll.op' (sp_move rfl rfl) trivial rfl (From.ok (ps := []) trivial) (DAll.op' (sp_move rfl rfl) trivial rfl (From.ok (ps := []) trivial) (DAll.op' (sp_move rfl rfl) trivial rfl (From.ok (ps := []) trivial) (DAll.op' (sp_call (avs := [.ref 3, vi i10, vi i9]) (need := [.ro 3 2 (List.map en_api_RoundDay l6)]) (v := vi r11) (news := []) rfl rfl rfl Try.call17 (atJ [(0, 3)] [] (fc_ref11_Last h3) rfl rfl) (.inl (roAll rfl))) trivial rfl (From.ok (ps := [(none, 0)]) ⟨⟨rfl, rfl⟩, trivial⟩) (DAll.op' (sp_fieldAddrB rfl isBlk rfl ft26_0 vt22 (by decide)) trivial rfl (From.ok (ps := [(none, 1)]) ⟨⟨rfl, rfl⟩, trivial⟩) (DAll.op' (sp_loadB rfl isBlk rfl vt22 rfl) trivial rfl (From.ok (ps := [(none, 1)]) ⟨⟨rfl, rfl⟩, trivial⟩) (DAll.op' (sp_move rfl rfl) trivial rfl (From.ok (ps := []) trivial) (DAll.op' (sp_indexS rfl rfl rfl isRo sl22 h4 (map_get _ h5)) trivial rfl (From.ok (ps := [(none, 2)]) ⟨⟨rfl, rfl⟩, trivial⟩) (DAll.op' (sp_fieldAddrR (i := (i10 : Int).toNat) rfl rfl isRo ft46_4 vt3 (by decide) (map_get _ h5) (fun h => nomatch h)) trivial rfl (From.ok (ps := [(none, 2)]) ⟨⟨rfl, rfl⟩, trivial⟩) (DAll.op' (sp_loadR (i := (i10 : Int).toNat) (j := 4) rfl rfl isRo vt3 rfl (map_get _ h5) rfl (.v (.nil)) (nodup_of_B rfl)) trivial rfl (From.ok (ps := [(none, 2)]) ⟨⟨rfl, rfl⟩, trivial⟩) (DAll.op' (sp_add rfl rfl rfl h6) trivial rfl (From.ok (ps := []) trivial) (DAll.op' (sp_move rfl rfl) trivial rfl (From.ok (ps := []) trivial) (.nil))))))))))))
      refine op0 (sp_eql rfl rfl rfl) rfl trivial rfl rfl ?_
      refine TL.nil ?_
      refine TC.cond (b := ((r11 + x12.2.2.2.2) == i9)) rfl (fun h7 => ?_) (fun h7 => ?_)
      · have h := cond_t h h7
        refine TC.seq ?_
        refine TC.region ?_
        refine op0 (sp_move rfl rfl) rfl trivial rfl rfl ?_
        refine op0 (sp_move rfl rfl) rfl trivial rfl rfl ?_
        refine op0 (sp_assign rfl rfl) rfl trivial rfl rfl ?_
        refine op0 (sp_assign rfl rfl) rfl trivial rfl rfl ?_
        refine TL.nil ?_
        cases h
        exact retJ [] (.tmp rfl (.tmp rfl .nil)) rfl trivial rfl rfl
      · have h := cond_f h h7
        refine TC.skip ?_
        refine TC.inBlock ?_
        refine TC.region ?_
        refine op0 (sp_move rfl rfl) rfl trivial rfl rfl ?_
        obtain ⟨h8, h⟩ := chk_inv h
        refine op0 (sp_add rfl rfl rfl h8) rfl trivial rfl rfl ?_
        refine op0 (sp_assign rfl rfl) rfl trivial rfl rfl ?_
        refine TL.nil ?_
        refine TC.inLoop ?_
        refine TC.seq ?_
        refine TC.seq ?_
        refine subJ [] (ih _ h) ?_ ?_ ?_
        · exact ⟨rfl, rfl, rfl, rfl, rfl, trivial⟩
        · exact ⟨mem_at 0 rfl, mem_at 1 rfl, mem_at 2 rfl, mem_at 3 rfl, mem_at 4 rfl, trivial⟩
        · rfl
    · have h := cond_f h h2
      refine TC.exit rfl ?_
      refine TC.inBlock ?_
      refine TC.region ?_
      refine op0 (sp_move rfl rfl) rfl trivial rfl rfl ?_
      obtain ⟨h9, h⟩ := chk_inv h
      refine op0 (sp_add rfl rfl rfl h9) rfl trivial rfl rfl ?_
      refine op0 (sp_assign rfl rfl) rfl trivial rfl rfl ?_
      refine TL.nil ?_
      refine TC.inLoop ?_
      refine TC.seq ?_
      refine TC.seq ?_
      refine subJ [] (hk_ref11_Stops_l0 _ h) ?_ ?_ ?_
      · exact ⟨rfl, rfl, rfl, rfl, trivial⟩
      · exact ⟨mem_at 0 rfl, mem_at 1 rfl, mem_at 2 rfl, mem_at 3 rfl, mem_at 4 rfl, trivial⟩
      · rfl
def ev_ref11_Stops_l0 (n : Nat) (until7 : Int) (rr1 : List (Int × Int × Int × Int × Int)) (l6 : List (Int × (List Int))) : Nat → Int → Option (Int × Int)
  | 0, _ => none
  | m + 1, i9 => cond (decide (i9 ≤ until7)) (ev_ref11_Stops_l1 n rr1 l6 i9 (fun i9q => ev_ref11_Stops_l0 n until7 rr1 l6 m i9q) n 0) (some ((-1), 0))
theorem ok_ref11_Stops_l0 {n : Nat} {w0 : World} {R0 : Nat → Prop} {env0 : Env} {r : Int × Int} {until7 : Int} {l6 : List (Int × (List Int))} {rr4 : Int} {rr5 : Int} {rr1 : List (Int × Int × Int × Int × Int)} {rr2 : List ((List Int))} {rr3 : List (Int × Int × Int × Int)} : ∀ (m : Nat) (i9 : Int), ev_ref11_Stops_l0 n until7 rr1 l6 m i9 = some r → TC Try.prog ⟨w0, fun _ => False, R0⟩ 37 (bodyPost Try.prog Try.f18 (Post ⟨w0, fun _ => False, R0⟩ env0 (.tup [vi r.1, vi r.2]) [])) [.code (sub (bodyOf Try.f18) [1, 0, 1, 0, 0, 0, 0]), .code (sub (bodyOf Try.f18) [1, 0, 1, 0, 0, 0, 1]), .code (sub (bodyOf Try.f18) [1, 0, 1, 0, 0, 1]), .inLoop (sub (bodyOf Try.f18) [1, 0, 1, 0, 0]), .inBlock 0, .code (sub (bodyOf Try.f18) [1, 1])] ([(1, .ref 3), (2, vi until7), (3, .ptr 4 0), (8, vi i9)]) ([.ro 3 2 (List.map en_api_RoundDay l6), .blk 4 [.ref 0, .ref 1, .ref 2, vi rr4, vi rr5] 26, .ro 0 5 (List.map en_api_RoundTower rr1), .ro 1 1 (List.map en_Lint rr2), .ro 2 4 (List.map en_api_RoundWinder rr3)]) := by
  intro m
  induction m with
  | zero => intro i9 h; exact none_no h
  | succ m ih =>
    intro i9 h
    rw [ev_ref11_Stops_l0] at h
    refine TC.region ?_
    refine op0 (sp_move rfl rfl) rfl trivial rfl rfl ?_
    refine op0 (sp_move rfl rfl) rfl trivial rfl rfl ?_
    refine op0 (sp_leq rfl rfl rfl) rfl trivial rfl rfl ?_
    refine TL.nil ?_
    refine TC.cond (b := (decide (i9 ≤ until7))) rfl (fun h1 => ?_) (fun h1 => ?_)
    · have h := cond_t h h1
      refine TC.skip ?_
      refine TC.seq ?_
      refine TC.block ?_
      refine TC.seq ?_
      refine TC.region ?_
      refine op0 (sp_assign rfl rfl) rfl trivial rfl rfl ?_
      refine TL.nil ?_
      refine TC.block ?_
      refine TC.loop ?_
      refine TC.seq ?_
      refine TC.seq ?_
      refine subJ [] (ok_ref11_Stops_l1 (until7 := until7) (rr4 := rr4) (rr5 := rr5) (rr2 := rr2) (rr3 := rr3) ih _ _ h) ?_ ?_ ?_
      · exact ⟨rfl, rfl, rfl, rfl, rfl, trivial⟩
      · exact ⟨mem_at 0 rfl, mem_at 1 rfl, mem_at 2 rfl, mem_at 3 rfl, mem_at 4 rfl, trivial⟩
      · rfl
    · have h := cond_f h h1
      refine TC.exit rfl ?_
      refine TC.seq ?_
      refine TC.region ?_
      refine op0 (sp_assign rfl rfl) rfl trivial rfl rfl ?_
      refine op0 (sp_assign rfl rfl) rfl trivial rfl rfl ?_
      refine TL.nil ?_
      cases h
      exact retJ [] (.tmp rfl (.tmp rfl .nil)) rfl trivial rfl rfl
def ev_ref11_Stops (n : Nat) (rr1 : List (Int × Int × Int × Int × Int)) (rr2 : List ((List Int))) (rr3 : List (Int × Int × Int × Int)) (rr4 : Int) (rr5 : Int) (l6 : List (Int × (List Int))) (until7 : Int) : Option (Int × Int) :=
  ev_ref11_Stops_l0 n until7 rr1 l6 n 1
theorem fc_ref11_Stops {n : Nat} {rr1 : List (Int × Int × Int × Int × Int)} {rr2 : List ((List Int))} {rr3 : List (Int × Int × Int × Int)} {rr4 : Int} {rr5 : Int} {l6 : List (Int × (List Int))} {until7 : Int} {r : Int × Int} (h : ev_ref11_Stops n rr1 rr2 rr3 rr4 rr5 l6 until7 = some r) : FC Try.prog 18 [.agg [.ref 0, .ref 1, .ref 2, vi rr4, vi rr5], .ref 3, vi until7] [.ro 0 5 (List.map en_api_RoundTower rr1), .ro 1 1 (List.map en_Lint rr2), .ro 2 4 (List.map en_api_RoundWinder rr3), .ro 3 2 (List.map en_api_RoundDay l6)] (.tup [vi r.1, vi r.2]) [] := by
  refine introJ (nz := 37) Try.func18 rfl rfl rfl (fun w0 R0 env0 => ?_)
  rw [ev_ref11_Stops] at h
  refine TC.seq ?_
  refine TC.region ?_
  refine op0 (sp_box 4 rfl rfl rfl rfl rfl) rfl trivial rfl rfl ?_
  refine op0 (sp_assign rfl rfl) rfl trivial rfl rfl ?_
  refine op0 (sp_assign rfl rfl) rfl trivial rfl rfl ?_
  refine TL.nil ?_
  refine TC.seq ?_
  refine TC.seq ?_
  refine TC.region ?_
  refine op0 (sp_assign rfl rfl) rfl trivial rfl rfl ?_
  refine TL.nil ?_
  refine TC.block ?_
  refine TC.loop ?_
  refine TC.seq ?_
  refine TC.seq ?_
  refine subJ [] (ok_ref11_Stops_l0 (rr4 := rr4) (rr5 := rr5) (rr2 := rr2) (rr3 := rr3) _ _ h) ?_ ?_ ?_
  · exact ⟨rfl, rfl, rfl, rfl, trivial⟩
  · exact ⟨mem_at 4 rfl, mem_at 0 rfl, mem_at 1 rfl, mem_at 2 rfl, mem_at 3 rfl, trivial⟩
  · rfl
end
end Go.Proofs.Ytohjpfkcahlfkaa.Sy
