/- What functions of the program compute, and that they do: printed by symgen.py. -/
import Derived.Test.YtabjhlfgcmmbfaaGLib
set_option linter.unusedSimpArgs false
set_option linter.unusedVariables false
namespace Go.Proofs.Ytabjhlfgcmmbfaa.Sy
open Go.RowKit
noncomputable section

/- ref01_Same -/
def ev_ref01_Same_l0 (n : Nat) (a1 : List Int) (b2 : List Int) : Nat → Int → Option Bool
  | 0, _ => none
  | m + 1, i3 => cond (decide (i3 < (a1.length : Int))) (idx a1 i3 fun x4 => idx b2 i3 fun x5 => cond (x4 != x5) (some false) (chk (in64 (i3 + 1)) <| ev_ref01_Same_l0 n a1 b2 m (i3 + 1))) (some true)
set_option maxRecDepth 100000 in
set_option maxHeartbeats 2000000 in
theorem ok_ref01_Same_l0 {n : Nat} {w0 : World} {R0 : Nat → Prop} {env0 : Env} {r : Bool} {a1 : List Int} {b2 : List Int} : ∀ (m : Nat) (i3 : Int), ev_ref01_Same_l0 n a1 b2 m i3 = some r → TC Try.prog ⟨w0, fun _ => False, R0⟩ 26 (bodyPost Try.prog Try.f27 (Post ⟨w0, fun _ => False, R0⟩ env0 (.val (.bool r)) [])) [.code (sub (bodyOf Try.f27) [1, 1, 0, 1, 0, 0, 0, 0]), .code (sub (bodyOf Try.f27) [1, 1, 0, 1, 0, 0, 0, 1]), .code (sub (bodyOf Try.f27) [1, 1, 0, 1, 0, 0, 1]), .inLoop (sub (bodyOf Try.f27) [1, 1, 0, 1, 0, 0]), .inBlock 0, .code (sub (bodyOf Try.f27) [1, 1, 1])] ([(0, .ref 0), (1, .ref 1), (5, .val (.int .i64 i3))]) ([.ro 0 1 (List.map en_int a1), .ro 1 1 (List.map en_int b2)]) := by
  intro m
  induction m with
  | zero => intro i3 h; exact none_no h
  | succ m ih =>
    intro i3 h
    rw [ev_ref01_Same_l0] at h
    refine TC.region ?_
    refine op0 (sp_move rfl rfl) rfl trivial rfl rfl ?_
    refine op0 (sp_move rfl rfl) rfl trivial rfl rfl ?_
    refine op1 0 rfl (sp_lenM (N := a1.length) (len_map _ _) rfl rfl isRo Try.underlying38) rfl trivial rfl rfl ?_
    refine op0 (sp_lss rfl rfl rfl) rfl trivial rfl rfl ?_
    refine TL.nil ?_
    refine TC.cond (b := (decide (i3 < (a1.length : Int)))) rfl (fun h2 => ?_) (fun h2 => ?_)
    · have h := cond_t h h2
      refine TC.skip ?_
      refine TC.seq ?_
      refine TC.block ?_
      refine TC.seq ?_
      obtain ⟨x4, h3, h4, h⟩ := idx_inv h
      obtain ⟨x5, h5, h6, h⟩ := idx_inv h
      refine drawJ 8 [⟨.ref 0, [], [], []⟩, ⟨.val (.int .i64 i3), [], [], []⟩, ⟨.cell 0 ((i3 : Int).toNat * 1), [], [.ro 0 1 (List.map en_int a1)], []⟩, ⟨.val (.int .i64 x4), [], [.ro 0 1 (List.map en_int a1)], []⟩, ⟨.ref 1, [], [], []⟩, ⟨.val (.int .i64 i3), [], [], []⟩, ⟨.cell 1 ((i3 : Int).toNat * 1), [], [.ro 1 1 (List.map en_int b2)], []⟩, ⟨.val (.int .i64 x5), [], [.ro 1 1 (List.map en_int b2)], []⟩] rfl ?_ rfl ?_ rfl ?_ ?_
      · kernel_rfl
      · kernel_rfl
      · exact DAll.op' (sp_move rfl rfl) trivial rfl (From.ok (ps := []) trivial) (DAll.op' (sp_move rfl rfl) trivial rfl (From.ok (ps := []) trivial) (DAll.op' (sp_indexS rfl rfl rfl isRo sl38 h3 (map_get _ h4)) trivial rfl (From.ok (ps := [(none, 0)]) ⟨⟨rfl, rfl⟩, trivial⟩) (DAll.op' (sp_loadR (i := (i3 : Int).toNat) (j := 0) rfl rfl isRo vt3 rfl (map_get _ h4) rfl (.v (.nil)) (nodup_of_B rfl)) trivial rfl (From.ok (ps := [(none, 0)]) ⟨⟨rfl, rfl⟩, trivial⟩) (DAll.op' (sp_move rfl rfl) trivial rfl (From.ok (ps := []) trivial) (DAll.op' (sp_move rfl rfl) trivial rfl (From.ok (ps := []) trivial) (DAll.op' (sp_indexS rfl rfl rfl isRo sl38 h5 (map_get _ h6)) trivial rfl (From.ok (ps := [(none, 1)]) ⟨⟨rfl, rfl⟩, trivial⟩) (DAll.op' (sp_loadR (i := (i3 : Int).toNat) (j := 0) rfl rfl isRo vt3 rfl (map_get _ h6) rfl (.v (.nil)) (nodup_of_B rfl)) trivial rfl (From.ok (ps := [(none, 1)]) ⟨⟨rfl, rfl⟩, trivial⟩) (.nil))))))))
      refine op0 (sp_neq rfl rfl rfl) rfl trivial rfl rfl ?_
      refine TL.nil ?_
      refine TC.cond (b := (x4 != x5)) rfl (fun h7 => ?_) (fun h7 => ?_)
      · have h := cond_t h h7
        refine TC.seq ?_
        refine TC.region ?_
        refine op0 (sp_assign rfl rfl) rfl trivial rfl rfl ?_
        refine TL.nil ?_
        cases h
        exact retJ [] (.tmp rfl .nil) rfl trivial rfl rfl
      · have h := cond_f h h7
        refine TC.skip ?_
        refine TC.inBlock ?_
        refine TC.region ?_
        refine op0 (sp_move rfl rfl) rfl trivial rfl rfl ?_
        obtain ⟨h8, h⟩ := chk_inv h
        refine op0 (sp_add rfl rfl rfl h8) rfl trivial rfl rfl ?_
        refine op0 (sp_assign rfl rfl) rfl trivial rfl rfl ?_
        refine TL.nil ?_
        refine TC.inLoop ?_
        refine TC.seq ?_
        refine TC.seq ?_
        refine subJ [] (ih _ h) ?_ ?_ ?_
        · exact ⟨rfl, rfl, rfl, trivial⟩
        · exact ⟨mem_at 0 rfl, mem_at 1 rfl, trivial⟩
        · rfl
    · have h := cond_f h h2
      refine TC.exit rfl ?_
      refine TC.seq ?_
      refine TC.region ?_
      refine op0 (sp_assign rfl rfl) rfl trivial rfl rfl ?_
      refine TL.nil ?_
      cases h
      exact retJ [] (.tmp rfl .nil) rfl trivial rfl rfl
def ev_ref01_Same (n : Nat) (a1 : List Int) (b2 : List Int) : Option Bool :=
  cond ((a1.length : Int) != (b2.length : Int)) (some false) (ev_ref01_Same_l0 n a1 b2 n 0)
set_option maxRecDepth 100000 in
set_option maxHeartbeats 2000000 in
theorem fc_ref01_Same {n : Nat} {a1 : List Int} {b2 : List Int} {r : Bool} (h : ev_ref01_Same n a1 b2 = some r) : FC Try.prog 27 [.ref 0, .ref 1] [.ro 0 1 (List.map en_int a1), .ro 1 1 (List.map en_int b2)] (.val (.bool r)) [] := by
  refine introJ (nz := 26) Try.func27 rfl rfl rfl (fun w0 R0 env0 => ?_)
  rw [ev_ref01_Same] at h
  refine TC.seq ?_
  refine TC.region ?_
  refine op0 (sp_assign rfl rfl) rfl trivial rfl rfl ?_
  refine TL.nil ?_
  refine TC.seq ?_
  refine TC.seq ?_
  refine TC.region ?_
  refine op0 (sp_move rfl rfl) rfl trivial rfl rfl ?_
  refine op1 0 rfl (sp_lenM (N := a1.length) (len_map _ _) rfl rfl isRo Try.underlying38) rfl trivial rfl rfl ?_
  refine op0 (sp_move rfl rfl) rfl trivial rfl rfl ?_
  refine op1 1 rfl (sp_lenM (N := b2.length) (len_map _ _) rfl rfl isRo Try.underlying38) rfl trivial rfl rfl ?_
  refine op0 (sp_neq rfl rfl rfl) rfl trivial rfl rfl ?_
  refine TL.nil ?_
  refine TC.cond (b := ((a1.length : Int) != (b2.length : Int))) rfl (fun h1 => ?_) (fun h1 => ?_)
  · have h := cond_t h h1
    refine TC.seq ?_
    refine TC.region ?_
    refine op0 (sp_assign rfl rfl) rfl trivial rfl rfl ?_
    refine TL.nil ?_
    cases h
    exact retJ [] (.tmp rfl .nil) rfl trivial rfl rfl
  · have h := cond_f h h1
    refine TC.skip ?_
    refine TC.seq ?_
    refine TC.seq ?_
    refine TC.region ?_
    refine op0 (sp_assign rfl rfl) rfl trivial rfl rfl ?_
    refine TL.nil ?_
    refine TC.block ?_
    refine TC.loop ?_
    refine TC.seq ?_
    refine TC.seq ?_
    refine subJ [] (ok_ref01_Same_l0 _ _ h) ?_ ?_ ?_
    · exact ⟨rfl, rfl, rfl, trivial⟩
    · exact ⟨mem_at 0 rfl, mem_at 1 rfl, trivial⟩
    · rfl
/- ref01_Equal -/
def ev_ref01_Equal (n : Nat) (a1 : List Int) (a2 : List Int) (b3 : List Int) (b4 : List Int) : Option Bool :=
  (ev_ref01_Same n a1 b3).bind fun r5 => cond r5 ((ev_ref01_Same n a2 b4).bind fun r6 => some r6) (some false)
set_option maxRecDepth 100000 in
set_option maxHeartbeats 2000000 in
theorem fc_ref01_Equal {n : Nat} {a1 : List Int} {a2 : List Int} {b3 : List Int} {b4 : List Int} {r : Bool} (h : ev_ref01_Equal n a1 a2 b3 b4 = some r) : FC Try.prog 31 [.agg [.ref 0, .ref 1], .agg [.ref 2, .ref 3]] [.ro 0 1 (List.map en_int a1), .ro 1 1 (List.map en_int a2), .ro 2 1 (List.map en_int b3), .ro 3 1 (List.map en_int b4)] (.val (.bool r)) [] := by
  refine introJ (nz := 17) Try.func31 rfl rfl rfl (fun w0 R0 env0 => ?_)
  rw [ev_ref01_Equal] at h
  refine TC.seq ?_
  refine TC.region ?_
  refine op0 (sp_box 4 rfl rfl rfl rfl rfl) rfl trivial rfl rfl ?_
  refine op0 (sp_box 5 rfl rfl rfl rfl rfl) rfl trivial rfl rfl ?_
  refine op0 (sp_assign rfl rfl) rfl trivial rfl rfl ?_
  refine TL.nil ?_
  refine TC.seq ?_
  refine TC.region ?_
  refine op1 1 rfl (sp_fieldAddrB rfl isBlk rfl ft57_0 vt38 (by decide)) rfl trivial rfl rfl ?_
  refine op1 1 rfl (sp_loadB rfl isBlk rfl vt38 rfl) rfl trivial rfl rfl ?_
  refine op1 0 rfl (sp_fieldAddrB rfl isBlk rfl ft57_0 vt38 (by decide)) rfl trivial rfl rfl ?_
  refine op1 0 rfl (sp_loadB rfl isBlk rfl vt38 rfl) rfl trivial rfl rfl ?_
  obtain ⟨r5, h1, h⟩ := bind_inv h
  refine opN (need := [.ro 0 1 (List.map en_int a1), .ro 2 1 (List.map en_int b3)]) [2, 4] ⟨rfl, rfl, trivial⟩ (sp_call (avs := [.ref 0, .ref 2]) (need := [.ro 0 1 (List.map en_int a1), .ro 2 1 (List.map en_int b3)]) (v := .val (.bool r5)) (news := []) rfl rfl rfl Try.call27 (atJ [(1, 2)] [] (fc_ref01_Same h1) rfl rfl) (.inl (roAll rfl))) rfl trivial rfl rfl ?_
  refine op0 (sp_move rfl rfl) rfl trivial rfl rfl ?_
  rcases cond_cases h with ⟨h2, h⟩ | ⟨h2, h⟩
  · refine (boolLit 10 rfl h2).2 ?_
    refine op1 1 rfl (sp_fieldAddrB rfl isBlk rfl ft57_1 vt38 (by decide)) rfl ⟨_, rfl, rfl⟩ rfl rfl ?_
    refine op1 1 rfl (sp_loadB rfl isBlk rfl vt38 rfl) rfl ⟨_, rfl, rfl⟩ rfl rfl ?_
    refine op1 0 rfl (sp_fieldAddrB rfl isBlk rfl ft57_1 vt38 (by decide)) rfl ⟨_, rfl, rfl⟩ rfl rfl ?_
    refine op1 0 rfl (sp_loadB rfl isBlk rfl vt38 rfl) rfl ⟨_, rfl, rfl⟩ rfl rfl ?_
    obtain ⟨r6, h3, h⟩ := bind_inv h
    refine opN (need := [.ro 1 1 (List.map en_int a2), .ro 3 1 (List.map en_int b4)]) [3, 5] ⟨rfl, rfl, trivial⟩ (sp_call (avs := [.ref 1, .ref 3]) (need := [.ro 1 1 (List.map en_int a2), .ro 3 1 (List.map en_int b4)]) (v := .val (.bool r6)) (news := []) rfl rfl rfl Try.call27 (atJ [(0, 1), (1, 3)] [] (fc_ref01_Same h3) rfl rfl) (.inl (roAll rfl))) rfl ⟨_, rfl, rfl⟩ rfl rfl ?_
    refine op0 (sp_pickT rfl rfl rfl) rfl trivial rfl rfl ?_
    refine op0 (sp_assign rfl rfl) rfl trivial rfl rfl ?_
    refine TL.nil ?_
    cases h
    exact retJ [] (.tmp rfl .nil) rfl trivial rfl rfl
  · refine (boolLit 10 rfl h2).2 ?_
    refine opSkip rfl ⟨_, rfl, .inl rfl⟩ rfl ?_
    refine opSkip rfl ⟨_, rfl, .inl rfl⟩ rfl ?_
    refine opSkip rfl ⟨_, rfl, .inl rfl⟩ rfl ?_
    refine opSkip rfl ⟨_, rfl, .inl rfl⟩ rfl ?_
    refine opSkip rfl ⟨_, rfl, .inl rfl⟩ rfl ?_
    refine op0 (sp_pickF rfl rfl rfl) rfl trivial rfl rfl ?_
    refine op0 (sp_assign rfl rfl) rfl trivial rfl rfl ?_
    refine TL.nil ?_
    cases h
    exact retJ [] (.tmp rfl .nil) rfl trivial rfl rfl
/- ref01_Teeth -/
def ev_ref01_Teeth (n : Nat) (nn1 : Int) : Option Bool :=
  cond (decide ((6 : Int) ≤ nn1)) (some (decide (nn1 ≤ 400))) (some false)
set_option maxRecDepth 100000 in
set_option maxHeartbeats 2000000 in
theorem fc_ref01_Teeth {n : Nat} {nn1 : Int} {r : Bool} (h : ev_ref01_Teeth n nn1 = some r) : FC Try.prog 47 [.val (.int .i64 nn1)] [] (.val (.bool r)) [] := by
  refine introJ (nz := 9) Try.func47 rfl rfl rfl (fun w0 R0 env0 => ?_)
  rw [ev_ref01_Teeth] at h
  refine TC.seq ?_
  refine TC.region ?_
  refine op0 (sp_assign rfl rfl) rfl trivial rfl rfl ?_
  refine TL.nil ?_
  refine TC.seq ?_
  refine TC.region ?_
  refine op0 (sp_move rfl rfl) rfl trivial rfl rfl ?_
  refine op0 (sp_geq rfl rfl rfl) rfl trivial rfl rfl ?_
  refine op0 (sp_move rfl rfl) rfl trivial rfl rfl ?_
  rcases cond_cases h with ⟨h1, h⟩ | ⟨h1, h⟩
  · refine (boolLit 5 rfl h1).2 ?_
    refine op0 (sp_move rfl rfl) rfl ⟨_, rfl, rfl⟩ rfl rfl ?_
    refine op0 (sp_leq rfl rfl rfl) rfl ⟨_, rfl, rfl⟩ rfl rfl ?_
    refine op0 (sp_pickT rfl rfl rfl) rfl trivial rfl rfl ?_
    refine op0 (sp_assign rfl rfl) rfl trivial rfl rfl ?_
    refine TL.nil ?_
    cases h
    exact retJ [] (.tmp rfl .nil) rfl trivial rfl rfl
  · refine (boolLit 5 rfl h1).2 ?_
    refine opSkip rfl ⟨_, rfl, .inl rfl⟩ rfl ?_
    refine opSkip rfl ⟨_, rfl, .inl rfl⟩ rfl ?_
    refine op0 (sp_pickF rfl rfl rfl) rfl trivial rfl rfl ?_
    refine op0 (sp_assign rfl rfl) rfl trivial rfl rfl ?_
    refine TL.nil ?_
    cases h
    exact retJ [] (.tmp rfl .nil) rfl trivial rfl rfl
/- ref01_Pairs -/
def ev_ref01_Pairs_l0 (n : Nat) (l1 : List (Int × Int)) : Nat → Int → Option Int
  | 0, _ => none
  | m + 1, i2 => cond (decide (i2 < (l1.length : Int))) (idx l1 i2 fun x3 => (ev_ref01_Teeth n x3.1).bind fun r4 => cond (!r4) (some 2) ((ev_ref01_Teeth n x3.2).bind fun r5 => cond (!r5) (some 2) (chk (in64 (i2 + 1)) <| ev_ref01_Pairs_l0 n l1 m (i2 + 1)))) (some 0)
set_option maxRecDepth 100000 in
set_option maxHeartbeats 2000000 in
theorem ok_ref01_Pairs_l0 {n : Nat} {w0 : World} {R0 : Nat → Prop} {env0 : Env} {r : Int} {l1 : List (Int × Int)} : ∀ (m : Nat) (i2 : Int), ev_ref01_Pairs_l0 n l1 m i2 = some r → TC Try.prog ⟨w0, fun _ => False, R0⟩ 29 (bodyPost Try.prog Try.f16 (Post ⟨w0, fun _ => False, R0⟩ env0 (.val (.int .i64 r)) [])) [.code (sub (bodyOf Try.f16) [1, 1, 0, 1, 0, 0, 0, 0]), .code (sub (bodyOf Try.f16) [1, 1, 0, 1, 0, 0, 0, 1]), .code (sub (bodyOf Try.f16) [1, 1, 0, 1, 0, 0, 1]), .inLoop (sub (bodyOf Try.f16) [1, 1, 0, 1, 0, 0]), .inBlock 0, .code (sub (bodyOf Try.f16) [1, 1, 1])] ([(0, .ref 0), (3, .val (.int .i64 i2))]) ([.ro 0 2 (List.map en_api_TrainPair l1)]) := by
  intro m
  induction m with
  | zero => intro i2 h; exact none_no h
  | succ m ih =>
    intro i2 h
    rw [ev_ref01_Pairs_l0] at h
    refine TC.region ?_
    refine op0 (sp_move rfl rfl) rfl trivial rfl rfl ?_
    refine op0 (sp_move rfl rfl) rfl trivial rfl rfl ?_
    refine op1 0 rfl (sp_lenM (N := l1.length) (len_map _ _) rfl rfl isRo Try.underlying22) rfl trivial rfl rfl ?_
    refine op0 (sp_lss rfl rfl rfl) rfl trivial rfl rfl ?_
    refine TL.nil ?_
    refine TC.cond (b := (decide (i2 < (l1.length : Int)))) rfl (fun h2 => ?_) (fun h2 => ?_)
    · have h := cond_t h h2
      refine TC.skip ?_
      refine TC.seq ?_
      refine TC.block ?_
      refine TC.seq ?_
      refine TC.region ?_
      refine op0 (sp_move rfl rfl) rfl trivial rfl rfl ?_
      refine op0 (sp_move rfl rfl) rfl trivial rfl rfl ?_
      obtain ⟨x3, h3, h4, h⟩ := idx_inv h
      refine op1 0 rfl (sp_indexS rfl rfl rfl isRo sl22 h3 (map_get _ h4)) rfl trivial rfl rfl ?_
      refine op1 0 rfl (sp_fieldAddrR (i := (i2 : Int).toNat) rfl rfl isRo ft33_0 vt3 (by decide) (map_get _ h4) (fun h => nomatch h)) rfl trivial rfl rfl ?_
      refine op1 0 rfl (sp_loadR (i := (i2 : Int).toNat) (j := 0) rfl rfl isRo vt3 rfl (map_get _ h4) rfl (.v (.nil)) (nodup_of_B rfl)) rfl trivial rfl rfl ?_
      obtain ⟨r4, h5, h⟩ := bind_inv h
      refine op0 (sp_call (avs := [.val (.int .i64 x3.1)]) (need := []) (v := .val (.bool r4)) (news := []) rfl rfl rfl Try.call47 (atJ [] [] (fc_ref01_Teeth h5) rfl rfl) (.inl (roAll rfl))) rfl trivial rfl rfl ?_
      refine op0 (sp_not rfl rfl) rfl trivial rfl rfl ?_
      refine op0 (sp_move rfl rfl) rfl trivial rfl rfl ?_
      rcases cond_cases h with ⟨h6, h⟩ | ⟨h6, h⟩
      · refine (boolLit 20 rfl h6).2 ?_
        refine opSkip rfl ⟨_, rfl, .inl rfl⟩ rfl ?_
        refine opSkip rfl ⟨_, rfl, .inl rfl⟩ rfl ?_
        refine opSkip rfl ⟨_, rfl, .inl rfl⟩ rfl ?_
        refine opSkip rfl ⟨_, rfl, .inl rfl⟩ rfl ?_
        refine opSkip rfl ⟨_, rfl, .inl rfl⟩ rfl ?_
        refine opSkip rfl ⟨_, rfl, .inl rfl⟩ rfl ?_
        refine opSkip rfl ⟨_, rfl, .inl rfl⟩ rfl ?_
        refine op0 (sp_pickT rfl rfl rfl) rfl trivial rfl rfl ?_
        refine TL.nil ?_
        refine TC.condT rfl ?_
        refine TC.seq ?_
        refine TC.region ?_
        refine op0 (sp_assign rfl rfl) rfl trivial rfl rfl ?_
        refine TL.nil ?_
        cases h
        exact retJ [] (.tmp rfl .nil) rfl trivial rfl rfl
      · refine (boolLit 20 rfl h6).2 ?_
        refine op0 (sp_move rfl rfl) rfl ⟨_, rfl, rfl⟩ rfl rfl ?_
        refine op0 (sp_move rfl rfl) rfl ⟨_, rfl, rfl⟩ rfl rfl ?_
        refine op1 0 rfl (sp_indexS rfl rfl rfl isRo sl22 h3 (map_get _ h4)) rfl ⟨_, rfl, rfl⟩ rfl rfl ?_
        refine op1 0 rfl (sp_fieldAddrR (i := (i2 : Int).toNat) rfl rfl isRo ft33_1 vt3 (by decide) (map_get _ h4) (fun h => nomatch h)) rfl ⟨_, rfl, rfl⟩ rfl rfl ?_
        refine op1 0 rfl (sp_loadR (i := (i2 : Int).toNat) (j := 1) rfl rfl isRo vt3 rfl (map_get _ h4) rfl (.v (.nil)) (nodup_of_B rfl)) rfl ⟨_, rfl, rfl⟩ rfl rfl ?_
        obtain ⟨r5, h7, h⟩ := bind_inv h
        refine op0 (sp_call (avs := [.val (.int .i64 x3.2)]) (need := []) (v := .val (.bool r5)) (news := []) rfl rfl rfl Try.call47 (atJ [] [] (fc_ref01_Teeth h7) rfl rfl) (.inl (roAll rfl))) rfl ⟨_, rfl, rfl⟩ rfl rfl ?_
        refine op0 (sp_not rfl rfl) rfl ⟨_, rfl, rfl⟩ rfl rfl ?_
        refine op0 (sp_pickF rfl rfl rfl) rfl trivial rfl rfl ?_
        refine TL.nil ?_
        refine TC.cond (b := (!r5)) rfl (fun h8 => ?_) (fun h8 => ?_)
        · have h := cond_t h h8
          refine TC.seq ?_
          refine TC.region ?_
          refine op0 (sp_assign rfl rfl) rfl trivial rfl rfl ?_
          refine TL.nil ?_
          cases h
          exact retJ [] (.tmp rfl .nil) rfl trivial rfl rfl
        · have h := cond_f h h8
          refine TC.skip ?_
          refine TC.inBlock ?_
          refine TC.region ?_
          refine op0 (sp_move rfl rfl) rfl trivial rfl rfl ?_
          obtain ⟨h9, h⟩ := chk_inv h
          refine op0 (sp_add rfl rfl rfl h9) rfl trivial rfl rfl ?_
          refine op0 (sp_assign rfl rfl) rfl trivial rfl rfl ?_
          refine TL.nil ?_
          refine TC.inLoop ?_
          refine TC.seq ?_
          refine TC.seq ?_
          refine subJ [] (ih _ h) ?_ ?_ ?_
          · exact ⟨rfl, rfl, trivial⟩
          · exact ⟨mem_at 0 rfl, trivial⟩
          · rfl
    · have h := cond_f h h2
      refine TC.exit rfl ?_
      refine TC.seq ?_
      refine TC.region ?_
      refine op0 (sp_assign rfl rfl) rfl trivial rfl rfl ?_
      refine TL.nil ?_
      cases h
      exact retJ [] (.tmp rfl .nil) rfl trivial rfl rfl
def ev_ref01_Pairs (n : Nat) (l1 : List (Int × Int)) : Option Int :=
  cond (decide ((6 : Int) < (l1.length : Int))) (some 5) (ev_ref01_Pairs_l0 n l1 n 0)
set_option maxRecDepth 100000 in
set_option maxHeartbeats 2000000 in
theorem fc_ref01_Pairs {n : Nat} {l1 : List (Int × Int)} {r : Int} (h : ev_ref01_Pairs n l1 = some r) : FC Try.prog 16 [.ref 0] [.ro 0 2 (List.map en_api_TrainPair l1)] (.val (.int .i64 r)) [] := by
  refine introJ (nz := 29) Try.func16 rfl rfl rfl (fun w0 R0 env0 => ?_)
  rw [ev_ref01_Pairs] at h
  refine TC.seq ?_
  refine TC.region ?_
  refine op0 (sp_assign rfl rfl) rfl trivial rfl rfl ?_
  refine TL.nil ?_
  refine TC.seq ?_
  refine TC.seq ?_
  refine TC.region ?_
  refine op0 (sp_move rfl rfl) rfl trivial rfl rfl ?_
  refine op1 0 rfl (sp_lenM (N := l1.length) (len_map _ _) rfl rfl isRo Try.underlying22) rfl trivial rfl rfl ?_
  refine op0 (sp_gtr rfl rfl rfl) rfl trivial rfl rfl ?_
  refine TL.nil ?_
  refine TC.cond (b := (decide ((6 : Int) < (l1.length : Int)))) rfl (fun h1 => ?_) (fun h1 => ?_)
  · have h := cond_t h h1
    refine TC.seq ?_
    refine TC.region ?_
    refine op0 (sp_assign rfl rfl) rfl trivial rfl rfl ?_
    refine TL.nil ?_
    cases h
    exact retJ [] (.tmp rfl .nil) rfl trivial rfl rfl
  · have h := cond_f h h1
    refine TC.skip ?_
    refine TC.seq ?_
    refine TC.seq ?_
    refine TC.region ?_
    refine op0 (sp_assign rfl rfl) rfl trivial rfl rfl ?_
    refine TL.nil ?_
    refine TC.block ?_
    refine TC.loop ?_
    refine TC.seq ?_
    refine TC.seq ?_
    refine subJ [] (ok_ref01_Pairs_l0 _ _ h) ?_ ?_ ?_
    · exact ⟨rfl, rfl, trivial⟩
    · exact ⟨mem_at 0 rfl, trivial⟩
    · rfl
/- ref01_Gcd -/
def ev_ref01_Gcd_l0 (n : Nat) : Nat → Int → Int → Option Int
  | 0, _, _ => none
  | m + 1, i3, i4 => cond (decide ((0 : Int) < i4)) (chk (i4 != 0) <| ev_ref01_Gcd_l0 n m i4 (Int.tmod i3 i4)) (some i3)
set_option maxRecDepth 100000 in
set_option maxHeartbeats 2000000 in
theorem ok_ref01_Gcd_l0 {n : Nat} {w0 : World} {R0 : Nat → Prop} {env0 : Env} {r : Int} : ∀ (m : Nat) (i3 : Int) (i4 : Int), ev_ref01_Gcd_l0 n m i3 i4 = some r → TC Try.prog ⟨w0, fun _ => False, R0⟩ 12 (bodyPost Try.prog Try.f48 (Post ⟨w0, fun _ => False, R0⟩ env0 (.val (.int .i64 r)) [])) [.code (sub (bodyOf Try.f48) [1, 0, 0, 0, 0, 0]), .code (sub (bodyOf Try.f48) [1, 0, 0, 0, 0, 1]), .code (sub (bodyOf Try.f48) [1, 0, 0, 0, 1]), .inLoop (sub (bodyOf Try.f48) [1, 0, 0, 0]), .inBlock 0, .code (sub (bodyOf Try.f48) [1, 1])] ([(0, .val (.int .i64 i3)), (1, .val (.int .i64 i4))]) ([]) := by
  intro m
  induction m with
  | zero => intro i3 i4 h; exact none_no h
  | succ m ih =>
    intro i3 i4 h
    rw [ev_ref01_Gcd_l0] at h
    refine TC.region ?_
    refine op0 (sp_move rfl rfl) rfl trivial rfl rfl ?_
    refine op0 (sp_gtr rfl rfl rfl) rfl trivial rfl rfl ?_
    refine TL.nil ?_
    refine TC.cond (b := (decide ((0 : Int) < i4))) rfl (fun h1 => ?_) (fun h1 => ?_)
    · have h := cond_t h h1
      refine TC.skip ?_
      refine TC.block ?_
      obtain ⟨h2, h⟩ := chk_inv h
      refine drawJ 5 [⟨.val (.int .i64 i4), [], [], []⟩, ⟨.val (.int .i64 i3), [], [], []⟩, ⟨.val (.int .i64 i4), [], [], []⟩, ⟨.val (.int .i64 (Int.tmod i3 i4)), [], [], []⟩, ⟨.val (.int .i64 i4), [], [], []⟩] rfl ?_ rfl ?_ rfl ?_ ?_
      · kernel_rfl
      · kernel_rfl
      · exact DAll.op' (sp_move rfl rfl) trivial rfl (From.ok (ps := []) trivial) (DAll.op' (sp_move rfl rfl) trivial rfl (From.ok (ps := []) trivial) (DAll.op' (sp_move rfl rfl) trivial rfl (From.ok (ps := []) trivial) (DAll.op' (sp_rem rfl rfl rfl h2) trivial rfl (From.ok (ps := []) trivial) (DAll.op' (sp_assign rfl rfl) trivial rfl (From.ok (ps := []) trivial) (.nil)))))
      refine op0 (sp_assign rfl rfl) rfl trivial rfl rfl ?_
      refine TL.nil ?_
      refine TC.inBlock ?_
      refine TC.inLoop ?_
      refine TC.seq ?_
      refine TC.seq ?_
      refine subJ [] (ih _ _ h) ?_ ?_ ?_
      · exact ⟨rfl, rfl, trivial⟩
      · exact trivial
      · rfl
    · have h := cond_f h h1
      refine TC.exit rfl ?_
      refine TC.seq ?_
      refine TC.region ?_
      refine op0 (sp_move rfl rfl) rfl trivial rfl rfl ?_
      refine op0 (sp_assign rfl rfl) rfl trivial rfl rfl ?_
      refine TL.nil ?_
      cases h
      exact retJ [] (.tmp rfl .nil) rfl trivial rfl rfl
def ev_ref01_Gcd (n : Nat) (a1 : Int) (b2 : Int) : Option Int :=
  ev_ref01_Gcd_l0 n n a1 b2
set_option maxRecDepth 100000 in
set_option maxHeartbeats 2000000 in
theorem fc_ref01_Gcd {n : Nat} {a1 : Int} {b2 : Int} {r : Int} (h : ev_ref01_Gcd n a1 b2 = some r) : FC Try.prog 48 [.val (.int .i64 a1), .val (.int .i64 b2)] [] (.val (.int .i64 r)) [] := by
  refine introJ (nz := 12) Try.func48 rfl rfl rfl (fun w0 R0 env0 => ?_)
  rw [ev_ref01_Gcd] at h
  refine TC.seq ?_
  refine TC.region ?_
  refine op0 (sp_assign rfl rfl) rfl trivial rfl rfl ?_
  refine TL.nil ?_
  refine TC.seq ?_
  refine TC.block ?_
  refine TC.loop ?_
  refine TC.seq ?_
  refine TC.seq ?_
  refine subJ [] (ok_ref01_Gcd_l0 _ _ _ h) ?_ ?_ ?_
  · exact ⟨rfl, rfl, trivial⟩
  · exact trivial
  · rfl
/- ref01_Lowest -/
def ev_ref01_Lowest (n : Nat) (num1 : Int) (den2 : Int) : Option (Int × Int) :=
  (ev_ref01_Gcd n num1 den2).bind fun r3 => chk (r3 != 0) <| chk (in64 (Int.tdiv num1 r3)) <| chk (r3 != 0) <| chk (in64 (Int.tdiv den2 r3)) <| some ((Int.tdiv num1 r3), (Int.tdiv den2 r3))
set_option maxRecDepth 100000 in
set_option maxHeartbeats 2000000 in
theorem fc_ref01_Lowest {n : Nat} {num1 : Int} {den2 : Int} {r : Int × Int} (h : ev_ref01_Lowest n num1 den2 = some r) : FC Try.prog 25 [.val (.int .i64 num1), .val (.int .i64 den2)] [] (.agg [.val (.int .i64 r.1), .val (.int .i64 r.2)]) [] := by
  refine introJ (nz := 16) Try.func25 rfl rfl rfl (fun w0 R0 env0 => ?_)
  rw [ev_ref01_Lowest] at h
  refine TC.seq ?_
  refine TC.region ?_
  refine op0 (sp_alloc 0 rfl Try.zeroValue26 rfl) rfl trivial rfl rfl ?_
  refine TL.nil ?_
  refine TC.seq ?_
  refine TC.region ?_
  refine op0 (sp_move rfl rfl) rfl trivial rfl rfl ?_
  refine op0 (sp_move rfl rfl) rfl trivial rfl rfl ?_
  obtain ⟨r3, h1, h⟩ := bind_inv h
  refine op0 (sp_call (avs := [.val (.int .i64 num1), .val (.int .i64 den2)]) (need := []) (v := .val (.int .i64 r3)) (news := []) rfl rfl rfl Try.call48 (atJ [] [] (fc_ref01_Gcd h1) rfl rfl) (.inl (roAll rfl))) rfl trivial rfl rfl ?_
  refine op0 (sp_assign rfl rfl) rfl trivial rfl rfl ?_
  refine TL.nil ?_
  refine TC.seq ?_
  obtain ⟨h2, h⟩ := chk_inv h
  obtain ⟨h3, h⟩ := chk_inv h
  obtain ⟨h4, h⟩ := chk_inv h
  obtain ⟨h5, h⟩ := chk_inv h
  refine drawJ 6 [⟨.val (.int .i64 num1), [], [], []⟩, ⟨.val (.int .i64 r3), [], [], []⟩, ⟨.val (.int .i64 (Int.tdiv num1 r3)), [], [], []⟩, ⟨.val (.int .i64 den2), [], [], []⟩, ⟨.val (.int .i64 r3), [], [], []⟩, ⟨.val (.int .i64 (Int.tdiv den2 r3)), [], [], []⟩] rfl ?_ rfl ?_ rfl ?_ ?_
  · kernel_rfl
  · kernel_rfl
  · exact DAll.op' (sp_move rfl rfl) trivial rfl (From.ok (ps := []) trivial) (DAll.op' (sp_move rfl rfl) trivial rfl (From.ok (ps := []) trivial) (DAll.op' (sp_quo rfl rfl rfl h2 h3) trivial rfl (From.ok (ps := []) trivial) (DAll.op' (sp_move rfl rfl) trivial rfl (From.ok (ps := []) trivial) (DAll.op' (sp_move rfl rfl) trivial rfl (From.ok (ps := []) trivial) (DAll.op' (sp_quo rfl rfl rfl h4 h5) trivial rfl (From.ok (ps := []) trivial) (.nil))))))
  refine op0 (sp_build (qs := [(0, .val (.int .i64 (Int.tdiv num1 r3))), (1, .val (.int .i64 (Int.tdiv den2 r3)))]) rfl bt26 rfl rfl rfl rfl) rfl trivial rfl rfl ?_
  refine stoB 0 (cells' := [.val (.int .i64 (Int.tdiv num1 r3)), .val (.int .i64 (Int.tdiv den2 r3))]) rfl rfl trivial rfl rfl rfl rfl vt26 rfl rfl rfl ?_
  refine TL.nil ?_
  cases h
  exact retJ [] (.cells rfl (mem_at 0 rfl) isBlk vt26 rfl rfl (.nil)) rfl trivial rfl rfl
/- ref01_Turns -/
def ev_ref01_Turns_l0 (n : Nat) : Nat → Int → (List (Int × Int)) → Int → Int → Int → Int → Option (Int × Int)
  | 0, _, _, _, _, _, _ => none
  | m + 1, i2, l3, i4, i5, i6, i7 => cond (decide (i2 < (l3.length : Int))) (idx l3 i2 fun x8 => chk (in64 (i6 * x8.1)) <| chk (in64 (i7 * x8.2)) <| (ev_ref01_Lowest n (i6 * x8.1) (i7 * x8.2)).bind fun r9 => chk (in64 (i2 + 1)) <| ev_ref01_Turns_l0 n m (i2 + 1) l3 i4 i5 r9.1 r9.2) (some (i6, i7))
set_option maxRecDepth 100000 in
set_option maxHeartbeats 2000000 in
theorem ok_ref01_Turns_l0 {n : Nat} {w0 : World} {R0 : Nat → Prop} {env0 : Env} {r : Int × Int} : ∀ (m : Nat) (i2 : Int) (l3 : List (Int × Int)) (i4 : Int) (i5 : Int) (i6 : Int) (i7 : Int), ev_ref01_Turns_l0 n m i2 l3 i4 i5 i6 i7 = some r → TC Try.prog ⟨w0, fun _ => False, R0⟩ 30 (bodyPost Try.prog Try.f17 (Post ⟨w0, fun _ => False, R0⟩ env0 (.agg [.val (.int .i64 r.1), .val (.int .i64 r.2)]) [])) [.code (sub (bodyOf Try.f17) [1, 1, 0, 1, 0, 0, 0, 0]), .code (sub (bodyOf Try.f17) [1, 1, 0, 1, 0, 0, 0, 1]), .code (sub (bodyOf Try.f17) [1, 1, 0, 1, 0, 0, 1]), .inLoop (sub (bodyOf Try.f17) [1, 1, 0, 1, 0, 0]), .inBlock 0, .code (sub (bodyOf Try.f17) [1, 1, 1])] ([(0, .ref 0), (2, .ptr 1 0), (3, .ptr 2 0), (4, .val (.int .i64 i2))]) ([.ro 0 2 (List.map en_api_TrainPair l3), .blk 1 [.val (.int .i64 i4), .val (.int .i64 i5)] 26, .blk 2 [.val (.int .i64 i6), .val (.int .i64 i7)] 26]) := by
  intro m
  induction m with
  | zero => intro i2 l3 i4 i5 i6 i7 h; exact none_no h
  | succ m ih =>
    intro i2 l3 i4 i5 i6 i7 h
    rw [ev_ref01_Turns_l0] at h
    refine TC.region ?_
    refine op0 (sp_move rfl rfl) rfl trivial rfl rfl ?_
    refine op0 (sp_move rfl rfl) rfl trivial rfl rfl ?_
    refine op1 0 rfl (sp_lenM (N := l3.length) (len_map _ _) rfl rfl isRo Try.underlying22) rfl trivial rfl rfl ?_
    refine op0 (sp_lss rfl rfl rfl) rfl trivial rfl rfl ?_
    refine TL.nil ?_
    refine TC.cond (b := (decide (i2 < (l3.length : Int)))) rfl (fun h1 => ?_) (fun h1 => ?_)
    · have h := cond_t h h1
      refine TC.skip ?_
      refine TC.seq ?_
      refine TC.block ?_
      obtain ⟨x8, h2, h3, h⟩ := idx_inv h
      obtain ⟨h4, h⟩ := chk_inv h
      obtain ⟨h5, h⟩ := chk_inv h
      refine drawJ 16 [⟨.ptr 2 0, [], [.blk 2 [.val (.int .i64 i6), .val (.int .i64 i7)] 26], []⟩, ⟨.val (.int .i64 i6), [], [.blk 2 [.val (.int .i64 i6), .val (.int .i64 i7)] 26], []⟩, ⟨.ref 0, [], [], []⟩, ⟨.val (.int .i64 i2), [], [], []⟩, ⟨.cell 0 ((i2 : Int).toNat * 2), [], [.ro 0 2 (List.map en_api_TrainPair l3)], []⟩, ⟨.cell 0 ((i2 : Int).toNat * 2 + 0), [], [.ro 0 2 (List.map en_api_TrainPair l3)], []⟩, ⟨.val (.int .i64 x8.1), [], [.ro 0 2 (List.map en_api_TrainPair l3)], []⟩, ⟨.val (.int .i64 (i6 * x8.1)), [], [], []⟩, ⟨.ptr 2 1, [], [.blk 2 [.val (.int .i64 i6), .val (.int .i64 i7)] 26], []⟩, ⟨.val (.int .i64 i7), [], [.blk 2 [.val (.int .i64 i6), .val (.int .i64 i7)] 26], []⟩, ⟨.ref 0, [], [], []⟩, ⟨.val (.int .i64 i2), [], [], []⟩, ⟨.cell 0 ((i2 : Int).toNat * 2), [], [.ro 0 2 (List.map en_api_TrainPair l3)], []⟩, ⟨.cell 0 ((i2 : Int).toNat * 2 + 1), [], [.ro 0 2 (List.map en_api_TrainPair l3)], []⟩, ⟨.val (.int .i64 x8.2), [], [.ro 0 2 (List.map en_api_TrainPair l3)], []⟩, ⟨.val (.int .i64 (i7 * x8.2)), [], [], []⟩] rfl ?_ rfl ?_ rfl ?_ ?_
      · kernel_rfl
      · kernel_rfl
      · exact DAll.op' (sp_fieldAddrB rfl isBlk rfl ft26_0 vt3 (by decide)) trivial rfl (From.ok (ps := [(none, 2)]) ⟨⟨rfl, rfl⟩, trivial⟩) (DAll.op' (sp_loadB rfl isBlk rfl vt3 rfl) trivial rfl (From.ok (ps := [(none, 2)]) ⟨⟨rfl, rfl⟩, trivial⟩) (DAll.op' (sp_move rfl rfl) trivial rfl (From.ok (ps := []) trivial) (DAll.op' (sp_move rfl rfl) trivial rfl (From.ok (ps := []) trivial) (DAll.op' (sp_indexS rfl rfl rfl isRo sl22 h2 (map_get _ h3)) trivial rfl (From.ok (ps := [(none, 0)]) ⟨⟨rfl, rfl⟩, trivial⟩) (DAll.op' (sp_fieldAddrR (i := (i2 : Int).toNat) rfl rfl isRo ft33_0 vt3 (by decide) (map_get _ h3) (fun h => nomatch h)) trivial rfl (From.ok (ps := [(none, 0)]) ⟨⟨rfl, rfl⟩, trivial⟩) (DAll.op' (sp_loadR (i := (i2 : Int).toNat) (j := 0) rfl rfl isRo vt3 rfl (map_get _ h3) rfl (.v (.nil)) (nodup_of_B rfl)) trivial rfl (From.ok (ps := [(none, 0)]) ⟨⟨rfl, rfl⟩, trivial⟩) (DAll.op' (sp_mul rfl rfl rfl h4) trivial rfl (From.ok (ps := []) trivial) (DAll.op' (sp_fieldAddrB rfl isBlk rfl ft26_1 vt3 (by decide)) trivial rfl (From.ok (ps := [(none, 2)]) ⟨⟨rfl, rfl⟩, trivial⟩) (DAll.op' (sp_loadB rfl isBlk rfl vt3 rfl) trivial rfl (From.ok (ps := [(none, 2)]) ⟨⟨rfl, rfl⟩, trivial⟩) (DAll.op' (sp_move rfl rfl) trivial rfl (From.ok (ps := []) trivial) (DAll.op' (sp_move rfl rfl) trivial rfl (From.ok (ps := []) trivial) (DAll.op' (sp_indexS rfl rfl rfl isRo sl22 h2 (map_get _ h3)) trivial rfl (From.ok (ps := [(none, 0)]) ⟨⟨rfl, rfl⟩, trivial⟩) (DAll.op' (sp_fieldAddrR (i := (i2 : Int).toNat) rfl rfl isRo ft33_1 vt3 (by decide) (map_get _ h3) (fun h => nomatch h)) trivial rfl (From.ok (ps := [(none, 0)]) ⟨⟨rfl, rfl⟩, trivial⟩) (DAll.op' (sp_loadR (i := (i2 : Int).toNat) (j := 1) rfl rfl isRo vt3 rfl (map_get _ h3) rfl (.v (.nil)) (nodup_of_B rfl)) trivial rfl (From.ok (ps := [(none, 0)]) ⟨⟨rfl, rfl⟩, trivial⟩) (DAll.op' (sp_mul rfl rfl rfl h5) trivial rfl (From.ok (ps := []) trivial) (.nil))))))))))))))))
      obtain ⟨r9, h6, h⟩ := bind_inv h
      refine op0 (sp_call (avs := [.val (.int .i64 (i6 * x8.1)), .val (.int .i64 (i7 * x8.2))]) (need := []) (v := .agg [.val (.int .i64 r9.1), .val (.int .i64 r9.2)]) (news := []) rfl rfl rfl Try.call25 (atJ [] [] (fc_ref01_Lowest h6) rfl rfl) (.inl (roAll rfl))) rfl trivial rfl rfl ?_
      refine stoB 2 (cells' := [.val (.int .i64 r9.1), .val (.int .i64 r9.2)]) rfl rfl trivial rfl rfl rfl rfl vt26 rfl rfl rfl ?_
      refine TL.nil ?_
      refine TC.inBlock ?_
      refine TC.region ?_
      refine op0 (sp_move rfl rfl) rfl trivial rfl rfl ?_
      obtain ⟨h7, h⟩ := chk_inv h
      refine op0 (sp_add rfl rfl rfl h7) rfl trivial rfl rfl ?_
      refine op0 (sp_assign rfl rfl) rfl trivial rfl rfl ?_
      refine TL.nil ?_
      refine TC.inLoop ?_
      refine TC.seq ?_
      refine TC.seq ?_
      refine subJ [] (ih _ _ _ _ _ _ h) ?_ ?_ ?_
      · exact ⟨rfl, rfl, rfl, rfl, trivial⟩
      · exact ⟨mem_at 0 rfl, mem_at 1 rfl, mem_at 2 rfl, trivial⟩
      · rfl
    · have h := cond_f h h1
      refine TC.exit rfl ?_
      refine TC.seq ?_
      refine TC.region ?_
      refine op1 2 rfl (sp_loadBA rfl isBlk rfl vt26 rfl rfl) rfl trivial rfl rfl ?_
      refine stoB 1 (cells' := [.val (.int .i64 i6), .val (.int .i64 i7)]) rfl rfl trivial rfl rfl rfl rfl vt26 rfl rfl rfl ?_
      refine TL.nil ?_
      cases h
      exact retJ [] (.cells rfl (mem_at 1 rfl) isBlk vt26 rfl rfl (.nil)) rfl trivial rfl rfl
def ev_ref01_Turns (n : Nat) (l1 : List (Int × Int)) : Option (Int × Int) :=
  ev_ref01_Turns_l0 n n 0 l1 0 0 1 1
set_option maxRecDepth 100000 in
set_option maxHeartbeats 2000000 in
theorem fc_ref01_Turns {n : Nat} {l1 : List (Int × Int)} {r : Int × Int} (h : ev_ref01_Turns n l1 = some r) : FC Try.prog 17 [.ref 0] [.ro 0 2 (List.map en_api_TrainPair l1)] (.agg [.val (.int .i64 r.1), .val (.int .i64 r.2)]) [] := by
  refine introJ (nz := 30) Try.func17 rfl rfl rfl (fun w0 R0 env0 => ?_)
  rw [ev_ref01_Turns] at h
  refine TC.seq ?_
  refine TC.region ?_
  refine op0 (sp_alloc 1 rfl Try.zeroValue26 rfl) rfl trivial rfl rfl ?_
  refine TL.nil ?_
  refine TC.seq ?_
  refine TC.region ?_
  refine op0 (sp_build (qs := [(0, .val (.int .i64 1)), (1, .val (.int .i64 1))]) rfl bt26 rfl rfl rfl rfl) rfl trivial rfl rfl ?_
  refine op0 (sp_alloc 2 rfl Try.zeroValue26 rfl) rfl trivial rfl rfl ?_
  refine stoB 0 (cells' := [.val (.int .i64 1), .val (.int .i64 1)]) rfl rfl trivial rfl rfl rfl rfl vt26 rfl rfl rfl ?_
  refine TL.nil ?_
  refine TC.seq ?_
  refine TC.seq ?_
  refine TC.region ?_
  refine op0 (sp_assign rfl rfl) rfl trivial rfl rfl ?_
  refine TL.nil ?_
  refine TC.block ?_
  refine TC.loop ?_
  refine TC.seq ?_
  refine TC.seq ?_
  refine subJ [] (ok_ref01_Turns_l0 _ _ _ _ _ _ _ h) ?_ ?_ ?_
  · exact ⟨rfl, rfl, rfl, rfl, trivial⟩
  · exact ⟨mem_at 2 rfl, mem_at 1 rfl, mem_at 0 rfl, trivial⟩
  · rfl
/- ref01_Cycle -/
def ev_ref01_Cycle_l0 (n : Nat) : Nat → Int → Int → (List (Int × Int)) → Option Int
  | 0, _, _, _ => none
  | m + 1, i2, i3, l4 => cond (decide (i3 ≤ (l4.length : Int))) (chk (decide (0 ≤ (0 : Int)) && (decide ((0 : Int) ≤ i3) && decide (i3 ≤ (l4.length : Int)))) <| (ev_ref01_Turns n (List.drop (0 : Int).toNat (List.take (i3 : Int).toNat l4))).bind fun r5 => (ev_ref01_Gcd n i2 r5.2).bind fun r6 => chk (r6 != 0) <| chk (in64 (Int.tdiv r5.2 r6)) <| chk (in64 (i2 * (Int.tdiv r5.2 r6))) <| chk (in64 (i3 + 1)) <| ev_ref01_Cycle_l0 n m (i2 * (Int.tdiv r5.2 r6)) (i3 + 1) l4) (some i2)
set_option maxRecDepth 100000 in
set_option maxHeartbeats 2000000 in
theorem ok_ref01_Cycle_l0 {n : Nat} {w0 : World} {R0 : Nat → Prop} {env0 : Env} {r : Int} : ∀ (m : Nat) (i2 : Int) (i3 : Int) (l4 : List (Int × Int)), ev_ref01_Cycle_l0 n m i2 i3 l4 = some r → TC Try.prog ⟨w0, fun _ => False, R0⟩ 26 (bodyPost Try.prog Try.f18 (Post ⟨w0, fun _ => False, R0⟩ env0 (.val (.int .i64 r)) [])) [.code (sub (bodyOf Try.f18) [1, 1, 0, 1, 0, 0, 0, 0]), .code (sub (bodyOf Try.f18) [1, 1, 0, 1, 0, 0, 0, 1]), .code (sub (bodyOf Try.f18) [1, 1, 0, 1, 0, 0, 1]), .inLoop (sub (bodyOf Try.f18) [1, 1, 0, 1, 0, 0]), .inBlock 0, .code (sub (bodyOf Try.f18) [1, 1, 1])] ([(0, .ref 0), (3, .val (.int .i64 i2)), (4, .val (.int .i64 i3))]) ([.ro 0 2 (List.map en_api_TrainPair l4)]) := by
  intro m
  induction m with
  | zero => intro i2 i3 l4 h; exact none_no h
  | succ m ih =>
    intro i2 i3 l4 h
    rw [ev_ref01_Cycle_l0] at h
    refine TC.region ?_
    refine op0 (sp_move rfl rfl) rfl trivial rfl rfl ?_
    refine op0 (sp_move rfl rfl) rfl trivial rfl rfl ?_
    refine op1 0 rfl (sp_lenM (N := l4.length) (len_map _ _) rfl rfl isRo Try.underlying22) rfl trivial rfl rfl ?_
    refine op0 (sp_leq rfl rfl rfl) rfl trivial rfl rfl ?_
    refine TL.nil ?_
    refine TC.cond (b := (decide (i3 ≤ (l4.length : Int)))) rfl (fun h1 => ?_) (fun h1 => ?_)
    · have h := cond_t h h1
      refine TC.skip ?_
      refine TC.seq ?_
      refine TC.block ?_
      refine TC.seq ?_
      refine TC.region ?_
      refine op0 (sp_move rfl rfl) rfl trivial rfl rfl ?_
      refine op0 (sp_move rfl rfl) rfl trivial rfl rfl ?_
      obtain ⟨h2, h⟩ := chk_inv h
      refine op1 0 rfl (sp_sliceM (l := 0) (h := i3) 1 (len_map _ _) rfl rfl sl22 cut_none (cut_some rfl) h2 (map_cut _ _ _ _)) rfl trivial rfl rfl ?_
      obtain ⟨r5, h3, h⟩ := bind_inv h
      refine op1 0 rfl (sp_call (avs := [.ref 1]) (need := [.ro 1 2 (List.map en_api_TrainPair (List.drop (0 : Int).toNat (List.take (i3 : Int).toNat l4)))]) (v := .agg [.val (.int .i64 r5.1), .val (.int .i64 r5.2)]) (news := []) rfl rfl rfl Try.call17 (atJ [(0, 1)] [] (fc_ref01_Turns h3) rfl rfl) (.inl (roAll rfl))) rfl trivial rfl rfl ?_
      refine op0 (sp_alloc 2 rfl Try.zeroValue26 rfl) rfl trivial rfl rfl ?_
      refine stoB 0 (cells' := [.val (.int .i64 r5.1), .val (.int .i64 r5.2)]) rfl rfl trivial rfl rfl rfl rfl vt26 rfl rfl rfl ?_
      refine TL.nil ?_
      obtain ⟨r6, h4, h⟩ := bind_inv h
      obtain ⟨h5, h⟩ := chk_inv h
      obtain ⟨h6, h⟩ := chk_inv h
      refine drawJ 8 [⟨.val (.int .i64 i2), [], [], []⟩, ⟨.ptr 2 1, [], [.blk 2 [.val (.int .i64 r5.1), .val (.int .i64 r5.2)] 26], []⟩, ⟨.val (.int .i64 r5.2), [], [.blk 2 [.val (.int .i64 r5.1), .val (.int .i64 r5.2)] 26], []⟩, ⟨.val (.int .i64 i2), [], [], []⟩, ⟨.ptr 2 1, [], [.blk 2 [.val (.int .i64 r5.1), .val (.int .i64 r5.2)] 26], []⟩, ⟨.val (.int .i64 r5.2), [], [.blk 2 [.val (.int .i64 r5.1), .val (.int .i64 r5.2)] 26], []⟩, ⟨.val (.int .i64 r6), [], [], []⟩, ⟨.val (.int .i64 (Int.tdiv r5.2 r6)), [], [], []⟩] rfl ?_ rfl ?_ rfl ?_ ?_
      · kernel_rfl
      · kernel_rfl
      · exact DAll.op' (sp_move rfl rfl) trivial rfl (From.ok (ps := []) trivial) (DAll.op' (sp_fieldAddrB rfl isBlk rfl ft26_1 vt3 (by decide)) trivial rfl (From.ok (ps := [(none, 0)]) ⟨⟨rfl, rfl⟩, trivial⟩) (DAll.op' (sp_loadB rfl isBlk rfl vt3 rfl) trivial rfl (From.ok (ps := [(none, 0)]) ⟨⟨rfl, rfl⟩, trivial⟩) (DAll.op' (sp_move rfl rfl) trivial rfl (From.ok (ps := []) trivial) (DAll.op' (sp_fieldAddrB rfl isBlk rfl ft26_1 vt3 (by decide)) trivial rfl (From.ok (ps := [(none, 0)]) ⟨⟨rfl, rfl⟩, trivial⟩) (DAll.op' (sp_loadB rfl isBlk rfl vt3 rfl) trivial rfl (From.ok (ps := [(none, 0)]) ⟨⟨rfl, rfl⟩, trivial⟩) (DAll.op' (sp_call (avs := [.val (.int .i64 i2), .val (.int .i64 r5.2)]) (need := []) (v := .val (.int .i64 r6)) (news := []) rfl rfl rfl Try.call48 (atJ [] [] (fc_ref01_Gcd h4) rfl rfl) (.inl (roAll rfl))) trivial rfl (From.ok (ps := []) trivial) (DAll.op' (sp_quo rfl rfl rfl h5 h6) trivial rfl (From.ok (ps := []) trivial) (.nil))))))))
      obtain ⟨h7, h⟩ := chk_inv h
      refine op0 (sp_mul rfl rfl rfl h7) rfl trivial rfl rfl ?_
      refine op0 (sp_assign rfl rfl) rfl trivial rfl rfl ?_
      refine TL.nil ?_
      refine TC.inBlock ?_
      refine TC.region ?_
      refine op0 (sp_move rfl rfl) rfl trivial rfl rfl ?_
      obtain ⟨h8, h⟩ := chk_inv h
      refine op0 (sp_add rfl rfl rfl h8) rfl trivial rfl rfl ?_
      refine op0 (sp_assign rfl rfl) rfl trivial rfl rfl ?_
      refine TL.nil ?_
      refine TC.inLoop ?_
      refine TC.seq ?_
      refine TC.seq ?_
      refine subJ [] (ih _ _ _ h) ?_ ?_ ?_
      · exact ⟨rfl, rfl, rfl, trivial⟩
      · exact ⟨mem_at 2 rfl, trivial⟩
      · rfl
    · have h := cond_f h h1
      refine TC.exit rfl ?_
      refine TC.seq ?_
      refine TC.region ?_
      refine op0 (sp_move rfl rfl) rfl trivial rfl rfl ?_
      refine op0 (sp_assign rfl rfl) rfl trivial rfl rfl ?_
      refine TL.nil ?_
      cases h
      exact retJ [] (.tmp rfl .nil) rfl trivial rfl rfl
def ev_ref01_Cycle (n : Nat) (l1 : List (Int × Int)) : Option Int :=
  ev_ref01_Cycle_l0 n n 1 1 l1
set_option maxRecDepth 100000 in
set_option maxHeartbeats 2000000 in
theorem fc_ref01_Cycle {n : Nat} {l1 : List (Int × Int)} {r : Int} (h : ev_ref01_Cycle n l1 = some r) : FC Try.prog 18 [.ref 0] [.ro 0 2 (List.map en_api_TrainPair l1)] (.val (.int .i64 r)) [] := by
  refine introJ (nz := 26) Try.func18 rfl rfl rfl (fun w0 R0 env0 => ?_)
  rw [ev_ref01_Cycle] at h
  refine TC.seq ?_
  refine TC.region ?_
  refine op0 (sp_assign rfl rfl) rfl trivial rfl rfl ?_
  refine TL.nil ?_
  refine TC.seq ?_
  refine TC.region ?_
  refine op0 (sp_assign rfl rfl) rfl trivial rfl rfl ?_
  refine TL.nil ?_
  refine TC.seq ?_
  refine TC.seq ?_
  refine TC.region ?_
  refine op0 (sp_assign rfl rfl) rfl trivial rfl rfl ?_
  refine TL.nil ?_
  refine TC.block ?_
  refine TC.loop ?_
  refine TC.seq ?_
  refine TC.seq ?_
  refine subJ [] (ok_ref01_Cycle_l0 _ _ _ _ h) ?_ ?_ ?_
  · exact ⟨rfl, rfl, rfl, trivial⟩
  · exact ⟨mem_at 0 rfl, trivial⟩
  · rfl
/- ref01_Counts -/
def ev_ref01_Counts_l0 (n : Nat) (l1 : List Int) : Nat → Int → Option Bool
  | 0, _ => none
  | m + 1, i2 => cond (decide (i2 < (l1.length : Int))) (idx l1 i2 fun x3 => (ev_ref01_Teeth n x3).bind fun r4 => cond (!r4) (some false) (cond (decide ((0 : Int) < i2)) (chk (in64 (i2 - 1)) <| idx l1 (i2 - 1) fun x5 => cond (decide (x3 ≤ x5)) (some false) (chk (in64 (i2 + 1)) <| ev_ref01_Counts_l0 n l1 m (i2 + 1))) (chk (in64 (i2 + 1)) <| ev_ref01_Counts_l0 n l1 m (i2 + 1)))) (some (decide ((0 : Int) < (l1.length : Int))))
set_option maxRecDepth 100000 in
set_option maxHeartbeats 2000000 in
theorem ok_ref01_Counts_l0 {n : Nat} {w0 : World} {R0 : Nat → Prop} {env0 : Env} {r : Bool} {l1 : List Int} : ∀ (m : Nat) (i2 : Int), ev_ref01_Counts_l0 n l1 m i2 = some r → TC Try.prog ⟨w0, fun _ => False, R0⟩ 35 (bodyPost Try.prog Try.f59 (Post ⟨w0, fun _ => False, R0⟩ env0 (.val (.bool r)) [])) [.code (sub (bodyOf Try.f59) [1, 0, 1, 0, 0, 0, 0]), .code (sub (bodyOf Try.f59) [1, 0, 1, 0, 0, 0, 1]), .code (sub (bodyOf Try.f59) [1, 0, 1, 0, 0, 1]), .inLoop (sub (bodyOf Try.f59) [1, 0, 1, 0, 0]), .inBlock 0, .code (sub (bodyOf Try.f59) [1, 1])] ([(0, .ref 0), (3, .val (.int .i64 i2))]) ([.ro 0 1 (List.map en_int l1)]) := by
  intro m
  induction m with
  | zero => intro i2 h; exact none_no h
  | succ m ih =>
    intro i2 h
    rw [ev_ref01_Counts_l0] at h
    refine TC.region ?_
    refine op0 (sp_move rfl rfl) rfl trivial rfl rfl ?_
    refine op0 (sp_move rfl rfl) rfl trivial rfl rfl ?_
    refine op1 0 rfl (sp_lenM (N := l1.length) (len_map _ _) rfl rfl isRo Try.underlying38) rfl trivial rfl rfl ?_
    refine op0 (sp_lss rfl rfl rfl) rfl trivial rfl rfl ?_
    refine TL.nil ?_
    refine TC.cond (b := (decide (i2 < (l1.length : Int)))) rfl (fun h1 => ?_) (fun h1 => ?_)
    · have h := cond_t h h1
      refine TC.skip ?_
      refine TC.seq ?_
      refine TC.block ?_
      refine TC.seq ?_
      obtain ⟨x3, h2, h3, h⟩ := idx_inv h
      obtain ⟨r4, h4, h⟩ := bind_inv h
      rcases cond_cases h with ⟨h5, h⟩ | ⟨h5, h⟩
      · refine drawJ 19 [⟨.ref 0, [], [], []⟩, ⟨.val (.int .i64 i2), [], [], []⟩, ⟨.cell 0 ((i2 : Int).toNat * 1), [], [.ro 0 1 (List.map en_int l1)], []⟩, ⟨.val (.int .i64 x3), [], [.ro 0 1 (List.map en_int l1)], []⟩, ⟨.val (.bool r4), [], [], []⟩, ⟨.val (.bool (!r4)), [], [], []⟩, ⟨.val (.bool true), [], [], []⟩, ⟨.val (undef), [], [], []⟩, ⟨.val (undef), [], [], []⟩, ⟨.val (undef), [], [], []⟩, ⟨.val (undef), [], [], []⟩, ⟨.val (undef), [], [], []⟩, ⟨.val (undef), [], [], []⟩, ⟨.val (undef), [], [], []⟩, ⟨.val (undef), [], [], []⟩, ⟨.val (undef), [], [], []⟩, ⟨.val (undef), [], [], []⟩, ⟨.val (undef), [], [], []⟩, ⟨.val (undef), [], [], []⟩] rfl ?_ rfl ?_ rfl ?_ ?_
        · kernel_rfl
        · kernel_rfl
        · exact DAll.op' (sp_move rfl rfl) trivial rfl (From.ok (ps := []) trivial) (DAll.op' (sp_move rfl rfl) trivial rfl (From.ok (ps := []) trivial) (DAll.op' (sp_indexS rfl rfl rfl isRo sl38 h2 (map_get _ h3)) trivial rfl (From.ok (ps := [(none, 0)]) ⟨⟨rfl, by kernel_rfl⟩, trivial⟩) (DAll.op' (sp_loadR (i := (i2 : Int).toNat) (j := 0) rfl rfl isRo vt3 rfl (map_get _ h3) rfl (.v (.nil)) (nodup_of_B rfl)) trivial rfl (From.ok (ps := [(none, 0)]) ⟨⟨rfl, by kernel_rfl⟩, trivial⟩) (DAll.op' (sp_call (avs := [.val (.int .i64 x3)]) (need := []) (v := .val (.bool r4)) (news := []) rfl rfl rfl Try.call47 (atJ [] [] (fc_ref01_Teeth h4) rfl rfl) (.inl (roAll rfl))) trivial rfl (From.ok (ps := []) trivial) (DAll.op' (sp_not rfl rfl) trivial rfl (From.ok (ps := []) trivial) (DAll.op' (sp_castB h5 (sp_move rfl rfl)) trivial rfl (From.ok (ps := []) trivial) (.skip ⟨_, rfl, .inl rfl⟩ rfl rfl rfl (.skip ⟨_, rfl, .inl rfl⟩ rfl rfl rfl (.skip ⟨_, rfl, .inl rfl⟩ rfl rfl rfl (.skip ⟨_, rfl, .inr rfl⟩ rfl rfl rfl (.skip ⟨_, rfl, .inr rfl⟩ rfl rfl rfl (.skip ⟨_, rfl, .inr rfl⟩ rfl rfl rfl (.skip ⟨_, rfl, .inr rfl⟩ rfl rfl rfl (.skip ⟨_, rfl, .inr rfl⟩ rfl rfl rfl (.skip ⟨_, rfl, .inr rfl⟩ rfl rfl rfl (.skip ⟨_, rfl, .inr rfl⟩ rfl rfl rfl (.skip ⟨_, rfl, .inr rfl⟩ rfl rfl rfl (.skip ⟨_, rfl, .inr rfl⟩ rfl rfl rfl (.nil)))))))))))))))))))
        refine opSkip rfl ⟨_, rfl, .inr rfl⟩ rfl ?_
        refine opSkip rfl ⟨_, rfl, .inl rfl⟩ rfl ?_
        refine op0 (sp_pickT rfl rfl rfl) rfl trivial rfl rfl ?_
        refine TL.nil ?_
        refine TC.condT rfl ?_
        refine TC.seq ?_
        refine TC.region ?_
        refine op0 (sp_assign rfl rfl) rfl trivial rfl rfl ?_
        refine TL.nil ?_
        cases h
        exact retJ [] (.tmp rfl .nil) rfl trivial rfl rfl
      · rcases cond_cases h with ⟨h6, h⟩ | ⟨h6, h⟩
        · obtain ⟨h7, h⟩ := chk_inv h
          obtain ⟨x5, h8, h9, h⟩ := idx_inv h
          refine drawJ 19 [⟨.ref 0, [], [], []⟩, ⟨.val (.int .i64 i2), [], [], []⟩, ⟨.cell 0 ((i2 : Int).toNat * 1), [], [.ro 0 1 (List.map en_int l1)], []⟩, ⟨.val (.int .i64 x3), [], [.ro 0 1 (List.map en_int l1)], []⟩, ⟨.val (.bool r4), [], [], []⟩, ⟨.val (.bool (!r4)), [], [], []⟩, ⟨.val (.bool false), [], [], []⟩, ⟨.val (.int .i64 i2), [], [], []⟩, ⟨.val (.bool (decide ((0 : Int) < i2))), [], [], []⟩, ⟨.val (.bool true), [], [], []⟩, ⟨.ref 0, [], [], []⟩, ⟨.val (.int .i64 i2), [], [], []⟩, ⟨.cell 0 ((i2 : Int).toNat * 1), [], [.ro 0 1 (List.map en_int l1)], []⟩, ⟨.val (.int .i64 x3), [], [.ro 0 1 (List.map en_int l1)], []⟩, ⟨.ref 0, [], [], []⟩, ⟨.val (.int .i64 i2), [], [], []⟩, ⟨.val (.int .i64 (i2 - 1)), [], [], []⟩, ⟨.cell 0 (((i2 - 1) : Int).toNat * 1), [], [.ro 0 1 (List.map en_int l1)], []⟩, ⟨.val (.int .i64 x5), [], [.ro 0 1 (List.map en_int l1)], []⟩] rfl ?_ rfl ?_ rfl ?_ ?_
          · kernel_rfl
          · kernel_rfl
          · exact DAll.op' (sp_move rfl rfl) trivial rfl (From.ok (ps := []) trivial) (DAll.op' (sp_move rfl rfl) trivial rfl (From.ok (ps := []) trivial) (DAll.op' (sp_indexS rfl rfl rfl isRo sl38 h2 (map_get _ h3)) trivial rfl (From.ok (ps := [(none, 0)]) ⟨⟨rfl, by kernel_rfl⟩, trivial⟩) (DAll.op' (sp_loadR (i := (i2 : Int).toNat) (j := 0) rfl rfl isRo vt3 rfl (map_get _ h3) rfl (.v (.nil)) (nodup_of_B rfl)) trivial rfl (From.ok (ps := [(none, 0)]) ⟨⟨rfl, by kernel_rfl⟩, trivial⟩) (DAll.op' (sp_call (avs := [.val (.int .i64 x3)]) (need := []) (v := .val (.bool r4)) (news := []) rfl rfl rfl Try.call47 (atJ [] [] (fc_ref01_Teeth h4) rfl rfl) (.inl (roAll rfl))) trivial rfl (From.ok (ps := []) trivial) (DAll.op' (sp_not rfl rfl) trivial rfl (From.ok (ps := []) trivial) (DAll.op' (sp_castB h5 (sp_move rfl rfl)) trivial rfl (From.ok (ps := []) trivial) (DAll.op' (sp_move rfl rfl) ⟨_, rfl, rfl⟩ rfl (From.ok (ps := []) trivial) (DAll.op' (sp_gtr rfl rfl rfl) ⟨_, rfl, rfl⟩ rfl (From.ok (ps := []) trivial) (DAll.op' (sp_castB h6 (sp_move rfl rfl)) ⟨_, rfl, rfl⟩ rfl (From.ok (ps := []) trivial) (DAll.op' (sp_move rfl rfl) ⟨_, rfl, rfl⟩ rfl (From.ok (ps := []) trivial) (DAll.op' (sp_move rfl rfl) ⟨_, rfl, rfl⟩ rfl (From.ok (ps := []) trivial) (DAll.op' (sp_indexS rfl rfl rfl isRo sl38 h2 (map_get _ h3)) ⟨_, rfl, rfl⟩ rfl (From.ok (ps := [(none, 0)]) ⟨⟨rfl, by kernel_rfl⟩, trivial⟩) (DAll.op' (sp_loadR (i := (i2 : Int).toNat) (j := 0) rfl rfl isRo vt3 rfl (map_get _ h3) rfl (.v (.nil)) (nodup_of_B rfl)) ⟨_, rfl, rfl⟩ rfl (From.ok (ps := [(none, 0)]) ⟨⟨rfl, by kernel_rfl⟩, trivial⟩) (DAll.op' (sp_move rfl rfl) ⟨_, rfl, rfl⟩ rfl (From.ok (ps := []) trivial) (DAll.op' (sp_move rfl rfl) ⟨_, rfl, rfl⟩ rfl (From.ok (ps := []) trivial) (DAll.op' (sp_sub rfl rfl rfl h7) ⟨_, rfl, rfl⟩ rfl (From.ok (ps := []) trivial) (DAll.op' (sp_indexS rfl rfl rfl isRo sl38 h8 (map_get _ h9)) ⟨_, rfl, rfl⟩ rfl (From.ok (ps := [(none, 0)]) ⟨⟨rfl, by kernel_rfl⟩, trivial⟩) (DAll.op' (sp_loadR (i := ((i2 - 1) : Int).toNat) (j := 0) rfl rfl isRo vt3 rfl (map_get _ h9) rfl (.v (.nil)) (nodup_of_B rfl)) ⟨_, rfl, rfl⟩ rfl (From.ok (ps := [(none, 0)]) ⟨⟨rfl, by kernel_rfl⟩, trivial⟩) (.nil)))))))))))))))))))
          refine op0 (sp_leq rfl rfl rfl) rfl ⟨_, rfl, rfl⟩ rfl rfl ?_
          refine op0 (sp_pickT rfl rfl rfl) rfl ⟨_, rfl, rfl⟩ rfl rfl ?_
          refine op0 (sp_pickF rfl rfl rfl) rfl trivial rfl rfl ?_
          refine TL.nil ?_
          refine TC.cond (b := (decide (x3 ≤ x5))) rfl (fun h10 => ?_) (fun h10 => ?_)
          · have h := cond_t h h10
            refine TC.seq ?_
            refine TC.region ?_
            refine op0 (sp_assign rfl rfl) rfl trivial rfl rfl ?_
            refine TL.nil ?_
            cases h
            exact retJ [] (.tmp rfl .nil) rfl trivial rfl rfl
          · have h := cond_f h h10
            refine TC.skip ?_
            refine TC.inBlock ?_
            refine TC.region ?_
            refine op0 (sp_move rfl rfl) rfl trivial rfl rfl ?_
            obtain ⟨h11, h⟩ := chk_inv h
            refine op0 (sp_add rfl rfl rfl h11) rfl trivial rfl rfl ?_
            refine op0 (sp_assign rfl rfl) rfl trivial rfl rfl ?_
            refine TL.nil ?_
            refine TC.inLoop ?_
            refine TC.seq ?_
            refine TC.seq ?_
            refine subJ [] (ih _ h) ?_ ?_ ?_
            · exact ⟨rfl, rfl, trivial⟩
            · exact ⟨mem_at 0 rfl, trivial⟩
            · rfl
        · refine drawJ 19 [⟨.ref 0, [], [], []⟩, ⟨.val (.int .i64 i2), [], [], []⟩, ⟨.cell 0 ((i2 : Int).toNat * 1), [], [.ro 0 1 (List.map en_int l1)], []⟩, ⟨.val (.int .i64 x3), [], [.ro 0 1 (List.map en_int l1)], []⟩, ⟨.val (.bool r4), [], [], []⟩, ⟨.val (.bool (!r4)), [], [], []⟩, ⟨.val (.bool false), [], [], []⟩, ⟨.val (.int .i64 i2), [], [], []⟩, ⟨.val (.bool (decide ((0 : Int) < i2))), [], [], []⟩, ⟨.val (.bool false), [], [], []⟩, ⟨.val (undef), [], [], []⟩, ⟨.val (undef), [], [], []⟩, ⟨.val (undef), [], [], []⟩, ⟨.val (undef), [], [], []⟩, ⟨.val (undef), [], [], []⟩, ⟨.val (undef), [], [], []⟩, ⟨.val (undef), [], [], []⟩, ⟨.val (undef), [], [], []⟩, ⟨.val (undef), [], [], []⟩] rfl ?_ rfl ?_ rfl ?_ ?_
          · kernel_rfl
          · kernel_rfl
          · exact DAll.op' (sp_move rfl rfl) trivial rfl (From.ok (ps := []) trivial) (DAll.op' (sp_move rfl rfl) trivial rfl (From.ok (ps := []) trivial) (DAll.op' (sp_indexS rfl rfl rfl isRo sl38 h2 (map_get _ h3)) trivial rfl (From.ok (ps := [(none, 0)]) ⟨⟨rfl, by kernel_rfl⟩, trivial⟩) (DAll.op' (sp_loadR (i := (i2 : Int).toNat) (j := 0) rfl rfl isRo vt3 rfl (map_get _ h3) rfl (.v (.nil)) (nodup_of_B rfl)) trivial rfl (From.ok (ps := [(none, 0)]) ⟨⟨rfl, by kernel_rfl⟩, trivial⟩) (DAll.op' (sp_call (avs := [.val (.int .i64 x3)]) (need := []) (v := .val (.bool r4)) (news := []) rfl rfl rfl Try.call47 (atJ [] [] (fc_ref01_Teeth h4) rfl rfl) (.inl (roAll rfl))) trivial rfl (From.ok (ps := []) trivial) (DAll.op' (sp_not rfl rfl) trivial rfl (From.ok (ps := []) trivial) (DAll.op' (sp_castB h5 (sp_move rfl rfl)) trivial rfl (From.ok (ps := []) trivial) (DAll.op' (sp_move rfl rfl) ⟨_, rfl, rfl⟩ rfl (From.ok (ps := []) trivial) (DAll.op' (sp_gtr rfl rfl rfl) ⟨_, rfl, rfl⟩ rfl (From.ok (ps := []) trivial) (DAll.op' (sp_castB h6 (sp_move rfl rfl)) ⟨_, rfl, rfl⟩ rfl (From.ok (ps := []) trivial) (.skip ⟨_, rfl, .inl rfl⟩ rfl rfl rfl (.skip ⟨_, rfl, .inl rfl⟩ rfl rfl rfl (.skip ⟨_, rfl, .inl rfl⟩ rfl rfl rfl (.skip ⟨_, rfl, .inl rfl⟩ rfl rfl rfl (.skip ⟨_, rfl, .inl rfl⟩ rfl rfl rfl (.skip ⟨_, rfl, .inl rfl⟩ rfl rfl rfl (.skip ⟨_, rfl, .inl rfl⟩ rfl rfl rfl (.skip ⟨_, rfl, .inl rfl⟩ rfl rfl rfl (.skip ⟨_, rfl, .inl rfl⟩ rfl rfl rfl (.nil)))))))))))))))))))
          refine opSkip rfl ⟨_, rfl, .inl rfl⟩ rfl ?_
          refine op0 (sp_pickF rfl rfl rfl) rfl ⟨_, rfl, rfl⟩ rfl rfl ?_
          refine op0 (sp_pickF rfl rfl rfl) rfl trivial rfl rfl ?_
          refine TL.nil ?_
          refine TC.condF rfl ?_
          refine TC.skip ?_
          refine TC.inBlock ?_
          refine TC.region ?_
          refine op0 (sp_move rfl rfl) rfl trivial rfl rfl ?_
          obtain ⟨h12, h⟩ := chk_inv h
          refine op0 (sp_add rfl rfl rfl h12) rfl trivial rfl rfl ?_
          refine op0 (sp_assign rfl rfl) rfl trivial rfl rfl ?_
          refine TL.nil ?_
          refine TC.inLoop ?_
          refine TC.seq ?_
          refine TC.seq ?_
          refine subJ [] (ih _ h) ?_ ?_ ?_
          · exact ⟨rfl, rfl, trivial⟩
          · exact ⟨mem_at 0 rfl, trivial⟩
          · rfl
    · have h := cond_f h h1
      refine TC.exit rfl ?_
      refine TC.seq ?_
      refine TC.region ?_
      refine op0 (sp_move rfl rfl) rfl trivial rfl rfl ?_
      refine op1 0 rfl (sp_lenM (N := l1.length) (len_map _ _) rfl rfl isRo Try.underlying38) rfl trivial rfl rfl ?_
      refine op0 (sp_gtr rfl rfl rfl) rfl trivial rfl rfl ?_
      refine op0 (sp_assign rfl rfl) rfl trivial rfl rfl ?_
      refine TL.nil ?_
      cases h
      exact retJ [] (.tmp rfl .nil) rfl trivial rfl rfl
def ev_ref01_Counts (n : Nat) (l1 : List Int) : Option Bool :=
  ev_ref01_Counts_l0 n l1 n 0
set_option maxRecDepth 100000 in
set_option maxHeartbeats 2000000 in
theorem fc_ref01_Counts {n : Nat} {l1 : List Int} {r : Bool} (h : ev_ref01_Counts n l1 = some r) : FC Try.prog 59 [.ref 0] [.ro 0 1 (List.map en_int l1)] (.val (.bool r)) [] := by
  refine introJ (nz := 35) Try.func59 rfl rfl rfl (fun w0 R0 env0 => ?_)
  rw [ev_ref01_Counts] at h
  refine TC.seq ?_
  refine TC.region ?_
  refine op0 (sp_assign rfl rfl) rfl trivial rfl rfl ?_
  refine TL.nil ?_
  refine TC.seq ?_
  refine TC.seq ?_
  refine TC.region ?_
  refine op0 (sp_assign rfl rfl) rfl trivial rfl rfl ?_
  refine TL.nil ?_
  refine TC.block ?_
  refine TC.loop ?_
  refine TC.seq ?_
  refine TC.seq ?_
  refine subJ [] (ok_ref01_Counts_l0 _ _ h) ?_ ?_ ?_
  · exact ⟨rfl, rfl, trivial⟩
  · exact ⟨mem_at 0 rfl, trivial⟩
  · rfl
/- ref01_Check -/
def ev_ref01_Check_j0 (n : Nat) (s1 : List Int) (s2 : List Int) : Option Int :=
  (ev_ref01_Counts n s1).bind fun r3 => cond (!r3) (some 2) ((ev_ref01_Counts n s2).bind fun r4 => cond (!r4) (some 2) (some 0))
set_option maxRecDepth 100000 in
set_option maxHeartbeats 2000000 in
theorem ok_ref01_Check_j0 {n : Nat} {w0 : World} {R0 : Nat → Prop} {env0 : Env} {r : Int} {s1 : List Int} {s2 : List Int} (h : ev_ref01_Check_j0 n s1 s2 = some r) : TC Try.prog ⟨w0, fun _ => False, R0⟩ 23 (bodyPost Try.prog Try.f23 (Post ⟨w0, fun _ => False, R0⟩ env0 (.val (.int .i64 r)) [])) [.code (sub (bodyOf Try.f23) [1, 0, 1, 1]), .code (sub (bodyOf Try.f23) [1, 1])] ([(1, .ptr 2 0)]) ([.blk 2 [.ref 0, .ref 1] 40, .ro 0 1 (List.map en_int s1), .ro 1 1 (List.map en_int s2)]) := by
  rw [ev_ref01_Check_j0] at h
  refine TC.skip ?_
  refine TC.seq ?_
  refine TC.seq ?_
  refine TC.region ?_
  refine op1 0 rfl (sp_fieldAddrB rfl isBlk rfl ft40_0 vt38 (by decide)) rfl trivial rfl rfl ?_
  refine op1 0 rfl (sp_loadB rfl isBlk rfl vt38 rfl) rfl trivial rfl rfl ?_
  obtain ⟨r3, h3, h⟩ := bind_inv h
  refine op1 1 rfl (sp_call (avs := [.ref 0]) (need := [.ro 0 1 (List.map en_int s1)]) (v := .val (.bool r3)) (news := []) rfl rfl rfl Try.call59 (atJ [] [] (fc_ref01_Counts h3) rfl rfl) (.inl (roAll rfl))) rfl trivial rfl rfl ?_
  refine op0 (sp_not rfl rfl) rfl trivial rfl rfl ?_
  refine op0 (sp_move rfl rfl) rfl trivial rfl rfl ?_
  rcases cond_cases h with ⟨h4, h⟩ | ⟨h4, h⟩
  · refine (boolLit 17 rfl h4).2 ?_
    refine opSkip rfl ⟨_, rfl, .inl rfl⟩ rfl ?_
    refine opSkip rfl ⟨_, rfl, .inl rfl⟩ rfl ?_
    refine opSkip rfl ⟨_, rfl, .inl rfl⟩ rfl ?_
    refine opSkip rfl ⟨_, rfl, .inl rfl⟩ rfl ?_
    refine op0 (sp_pickT rfl rfl rfl) rfl trivial rfl rfl ?_
    refine TL.nil ?_
    refine TC.condT rfl ?_
    refine TC.seq ?_
    refine TC.region ?_
    refine op0 (sp_assign rfl rfl) rfl trivial rfl rfl ?_
    refine TL.nil ?_
    cases h
    exact retJ [] (.tmp rfl .nil) rfl trivial rfl rfl
  · refine (boolLit 17 rfl h4).2 ?_
    refine op1 0 rfl (sp_fieldAddrB rfl isBlk rfl ft40_1 vt38 (by decide)) rfl ⟨_, rfl, rfl⟩ rfl rfl ?_
    refine op1 0 rfl (sp_loadB rfl isBlk rfl vt38 rfl) rfl ⟨_, rfl, rfl⟩ rfl rfl ?_
    obtain ⟨r4, h5, h⟩ := bind_inv h
    refine op1 2 rfl (sp_call (avs := [.ref 1]) (need := [.ro 1 1 (List.map en_int s2)]) (v := .val (.bool r4)) (news := []) rfl rfl rfl Try.call59 (atJ [(0, 1)] [] (fc_ref01_Counts h5) rfl rfl) (.inl (roAll rfl))) rfl ⟨_, rfl, rfl⟩ rfl rfl ?_
    refine op0 (sp_not rfl rfl) rfl ⟨_, rfl, rfl⟩ rfl rfl ?_
    refine op0 (sp_pickF rfl rfl rfl) rfl trivial rfl rfl ?_
    refine TL.nil ?_
    refine TC.cond (b := (!r4)) rfl (fun h6 => ?_) (fun h6 => ?_)
    · have h := cond_t h h6
      refine TC.seq ?_
      refine TC.region ?_
      refine op0 (sp_assign rfl rfl) rfl trivial rfl rfl ?_
      refine TL.nil ?_
      cases h
      exact retJ [] (.tmp rfl .nil) rfl trivial rfl rfl
    · have h := cond_f h h6
      refine TC.skip ?_
      refine TC.seq ?_
      refine TC.region ?_
      refine op0 (sp_assign rfl rfl) rfl trivial rfl rfl ?_
      refine TL.nil ?_
      cases h
      exact retJ [] (.tmp rfl .nil) rfl trivial rfl rfl
def ev_ref01_Check (n : Nat) (s1 : List Int) (s2 : List Int) : Option Int :=
  cond (decide ((12 : Int) < (s1.length : Int))) (some 5) (cond (decide ((12 : Int) < (s2.length : Int))) (some 5) (ev_ref01_Check_j0 n s1 s2))
set_option maxRecDepth 100000 in
set_option maxHeartbeats 2000000 in
theorem fc_ref01_Check {n : Nat} {s1 : List Int} {s2 : List Int} {r : Int} (h : ev_ref01_Check n s1 s2 = some r) : FC Try.prog 23 [.agg [.ref 0, .ref 1]] [.ro 0 1 (List.map en_int s1), .ro 1 1 (List.map en_int s2)] (.val (.int .i64 r)) [] := by
  refine introJ (nz := 23) Try.func23 rfl rfl rfl (fun w0 R0 env0 => ?_)
  rw [ev_ref01_Check] at h
  refine TC.seq ?_
  refine TC.region ?_
  refine op0 (sp_box 2 rfl rfl rfl rfl rfl) rfl trivial rfl rfl ?_
  refine op0 (sp_assign rfl rfl) rfl trivial rfl rfl ?_
  refine TL.nil ?_
  refine TC.seq ?_
  refine TC.seq ?_
  refine TC.region ?_
  refine op1 0 rfl (sp_fieldAddrB rfl isBlk rfl ft40_0 vt38 (by decide)) rfl trivial rfl rfl ?_
  refine op1 0 rfl (sp_loadB rfl isBlk rfl vt38 rfl) rfl trivial rfl rfl ?_
  refine op1 1 rfl (sp_lenM (N := s1.length) (len_map _ _) rfl rfl isRo Try.underlying38) rfl trivial rfl rfl ?_
  refine op0 (sp_gtr rfl rfl rfl) rfl trivial rfl rfl ?_
  refine op0 (sp_move rfl rfl) rfl trivial rfl rfl ?_
  rcases cond_cases h with ⟨h1, h⟩ | ⟨h1, h⟩
  · refine (boolLit 7 rfl h1).2 ?_
    refine opSkip rfl ⟨_, rfl, .inl rfl⟩ rfl ?_
    refine opSkip rfl ⟨_, rfl, .inl rfl⟩ rfl ?_
    refine opSkip rfl ⟨_, rfl, .inl rfl⟩ rfl ?_
    refine opSkip rfl ⟨_, rfl, .inl rfl⟩ rfl ?_
    refine op0 (sp_pickT rfl rfl rfl) rfl trivial rfl rfl ?_
    refine TL.nil ?_
    refine TC.condT rfl ?_
    refine TC.seq ?_
    refine TC.region ?_
    refine op0 (sp_assign rfl rfl) rfl trivial rfl rfl ?_
    refine TL.nil ?_
    cases h
    exact retJ [] (.tmp rfl .nil) rfl trivial rfl rfl
  · refine (boolLit 7 rfl h1).2 ?_
    refine op1 0 rfl (sp_fieldAddrB rfl isBlk rfl ft40_1 vt38 (by decide)) rfl ⟨_, rfl, rfl⟩ rfl rfl ?_
    refine op1 0 rfl (sp_loadB rfl isBlk rfl vt38 rfl) rfl ⟨_, rfl, rfl⟩ rfl rfl ?_
    refine op1 2 rfl (sp_lenM (N := s2.length) (len_map _ _) rfl rfl isRo Try.underlying38) rfl ⟨_, rfl, rfl⟩ rfl rfl ?_
    refine op0 (sp_gtr rfl rfl rfl) rfl ⟨_, rfl, rfl⟩ rfl rfl ?_
    refine op0 (sp_pickF rfl rfl rfl) rfl trivial rfl rfl ?_
    refine TL.nil ?_
    refine TC.cond (b := (decide ((12 : Int) < (s2.length : Int)))) rfl (fun h2 => ?_) (fun h2 => ?_)
    · have h := cond_t h h2
      refine TC.seq ?_
      refine TC.region ?_
      refine op0 (sp_assign rfl rfl) rfl trivial rfl rfl ?_
      refine TL.nil ?_
      cases h
      exact retJ [] (.tmp rfl .nil) rfl trivial rfl rfl
    · have h := cond_f h h2
      refine subJ [] (ok_ref01_Check_j0 h) ?_ ?_ ?_
      · exact ⟨rfl, trivial⟩
      · exact ⟨mem_at 0 rfl, mem_at 1 rfl, mem_at 2 rfl, trivial⟩
      · rfl
/- ref01_Wanted -/
def ev_ref01_Wanted (n : Nat) (rr1 : Int) (rr2 : Int) : Option Bool :=
  cond (decide ((1 : Int) ≤ rr1)) (cond (decide (rr1 ≤ 1000000)) (cond (decide ((1 : Int) ≤ rr2)) (some (decide (rr2 ≤ 1000000))) (some false)) (some false)) (some false)
set_option maxRecDepth 100000 in
set_option maxHeartbeats 2000000 in
theorem fc_ref01_Wanted {n : Nat} {rr1 : Int} {rr2 : Int} {r : Bool} (h : ev_ref01_Wanted n rr1 rr2 = some r) : FC Try.prog 24 [.agg [.val (.int .i64 rr1), .val (.int .i64 rr2)]] [] (.val (.bool r)) [] := by
  refine introJ (nz := 21) Try.func24 rfl rfl rfl (fun w0 R0 env0 => ?_)
  rw [ev_ref01_Wanted] at h
  refine TC.seq ?_
  refine TC.region ?_
  refine op0 (sp_box 0 rfl rfl rfl rfl rfl) rfl trivial rfl rfl ?_
  refine op0 (sp_assign rfl rfl) rfl trivial rfl rfl ?_
  refine TL.nil ?_
  refine TC.seq ?_
  refine TC.region ?_
  refine op1 0 rfl (sp_fieldAddrB rfl isBlk rfl ft26_0 vt3 (by decide)) rfl trivial rfl rfl ?_
  refine op1 0 rfl (sp_loadB rfl isBlk rfl vt3 rfl) rfl trivial rfl rfl ?_
  refine op0 (sp_geq rfl rfl rfl) rfl trivial rfl rfl ?_
  refine op0 (sp_move rfl rfl) rfl trivial rfl rfl ?_
  rcases cond_cases h with ⟨h1, h⟩ | ⟨h1, h⟩
  · refine (boolLit 6 rfl h1).2 ?_
    refine op1 0 rfl (sp_fieldAddrB rfl isBlk rfl ft26_0 vt3 (by decide)) rfl ⟨_, rfl, rfl⟩ rfl rfl ?_
    refine op1 0 rfl (sp_loadB rfl isBlk rfl vt3 rfl) rfl ⟨_, rfl, rfl⟩ rfl rfl ?_
    refine op0 (sp_leq rfl rfl rfl) rfl ⟨_, rfl, rfl⟩ rfl rfl ?_
    refine op0 (sp_pickT rfl rfl rfl) rfl trivial rfl rfl ?_
    refine op0 (sp_move rfl rfl) rfl trivial rfl rfl ?_
    rcases cond_cases h with ⟨h2, h⟩ | ⟨h2, h⟩
    · refine (boolLit 11 rfl h2).2 ?_
      refine op1 0 rfl (sp_fieldAddrB rfl isBlk rfl ft26_1 vt3 (by decide)) rfl ⟨_, rfl, rfl⟩ rfl rfl ?_
      refine op1 0 rfl (sp_loadB rfl isBlk rfl vt3 rfl) rfl ⟨_, rfl, rfl⟩ rfl rfl ?_
      refine op0 (sp_geq rfl rfl rfl) rfl ⟨_, rfl, rfl⟩ rfl rfl ?_
      refine op0 (sp_pickT rfl rfl rfl) rfl trivial rfl rfl ?_
      refine op0 (sp_move rfl rfl) rfl trivial rfl rfl ?_
      rcases cond_cases h with ⟨h3, h⟩ | ⟨h3, h⟩
      · refine (boolLit 16 rfl h3).2 ?_
        refine op1 0 rfl (sp_fieldAddrB rfl isBlk rfl ft26_1 vt3 (by decide)) rfl ⟨_, rfl, rfl⟩ rfl rfl ?_
        refine op1 0 rfl (sp_loadB rfl isBlk rfl vt3 rfl) rfl ⟨_, rfl, rfl⟩ rfl rfl ?_
        refine op0 (sp_leq rfl rfl rfl) rfl ⟨_, rfl, rfl⟩ rfl rfl ?_
        refine op0 (sp_pickT rfl rfl rfl) rfl trivial rfl rfl ?_
        refine op0 (sp_assign rfl rfl) rfl trivial rfl rfl ?_
        refine TL.nil ?_
        cases h
        exact retJ [] (.tmp rfl .nil) rfl trivial rfl rfl
      · refine (boolLit 16 rfl h3).2 ?_
        refine opSkip rfl ⟨_, rfl, .inl rfl⟩ rfl ?_
        refine opSkip rfl ⟨_, rfl, .inl rfl⟩ rfl ?_
        refine opSkip rfl ⟨_, rfl, .inl rfl⟩ rfl ?_
        refine op0 (sp_pickF rfl rfl rfl) rfl trivial rfl rfl ?_
        refine op0 (sp_assign rfl rfl) rfl trivial rfl rfl ?_
        refine TL.nil ?_
        cases h
        exact retJ [] (.tmp rfl .nil) rfl trivial rfl rfl
    · refine (boolLit 11 rfl h2).2 ?_
      refine opSkip rfl ⟨_, rfl, .inl rfl⟩ rfl ?_
      refine opSkip rfl ⟨_, rfl, .inl rfl⟩ rfl ?_
      refine opSkip rfl ⟨_, rfl, .inl rfl⟩ rfl ?_
      refine op0 (sp_pickF rfl rfl rfl) rfl trivial rfl rfl ?_
      refine op0 (sp_move rfl rfl) rfl trivial rfl rfl ?_
      refine opSkip rfl ⟨_, rfl, .inl rfl⟩ rfl ?_
      refine opSkip rfl ⟨_, rfl, .inl rfl⟩ rfl ?_
      refine opSkip rfl ⟨_, rfl, .inl rfl⟩ rfl ?_
      refine op0 (sp_pickF rfl rfl rfl) rfl trivial rfl rfl ?_
      refine op0 (sp_assign rfl rfl) rfl trivial rfl rfl ?_
      refine TL.nil ?_
      cases h
      exact retJ [] (.tmp rfl .nil) rfl trivial rfl rfl
  · refine (boolLit 6 rfl h1).2 ?_
    refine opSkip rfl ⟨_, rfl, .inl rfl⟩ rfl ?_
    refine opSkip rfl ⟨_, rfl, .inl rfl⟩ rfl ?_
    refine opSkip rfl ⟨_, rfl, .inl rfl⟩ rfl ?_
    refine op0 (sp_pickF rfl rfl rfl) rfl trivial rfl rfl ?_
    refine op0 (sp_move rfl rfl) rfl trivial rfl rfl ?_
    refine opSkip rfl ⟨_, rfl, .inl rfl⟩ rfl ?_
    refine opSkip rfl ⟨_, rfl, .inl rfl⟩ rfl ?_
    refine opSkip rfl ⟨_, rfl, .inl rfl⟩ rfl ?_
    refine op0 (sp_pickF rfl rfl rfl) rfl trivial rfl rfl ?_
    refine op0 (sp_move rfl rfl) rfl trivial rfl rfl ?_
    refine opSkip rfl ⟨_, rfl, .inl rfl⟩ rfl ?_
    refine opSkip rfl ⟨_, rfl, .inl rfl⟩ rfl ?_
    refine opSkip rfl ⟨_, rfl, .inl rfl⟩ rfl ?_
    refine op0 (sp_pickF rfl rfl rfl) rfl trivial rfl rfl ?_
    refine op0 (sp_assign rfl rfl) rfl trivial rfl rfl ?_
    refine TL.nil ?_
    cases h
    exact retJ [] (.tmp rfl .nil) rfl trivial rfl rfl
/- ref01_Missing -/
def ev_ref01_Missing_l2 (n : Nat) (l5 : List Int) (i4 : Int) (l6 : List Int) (i7 : Int) (k_ref01_Missing_l0 : Int → Int → (List Int) → (List Int) → Option ((List Int))) : Nat → Bool → Int → Option ((List Int))
  | 0, _, _ => none
  | m + 1, b8, i9 => cond (decide (i9 < (l5.length : Int))) (cond b8 (chk (in64 (i9 + 1)) <| ev_ref01_Missing_l2 n l5 i4 l6 i7 k_ref01_Missing_l0 m true (i9 + 1)) (idx l5 i9 fun x10 => chk (i4 != 0) <| chk (in64 (i9 + 1)) <| ev_ref01_Missing_l2 n l5 i4 l6 i7 k_ref01_Missing_l0 m ((Int.tmod x10 i4) == 0) (i9 + 1))) (cond (!b8) (chk (room 8 (l6.length + ([i4] : List Int).length)) <| chk (in64 (i4 + 1)) <| k_ref01_Missing_l0 i7 (i4 + 1) l5 (l6 ++ ([i4] : List Int))) (chk (in64 (i4 + 1)) <| k_ref01_Missing_l0 i7 (i4 + 1) l5 l6))
set_option maxRecDepth 100000 in
set_option maxHeartbeats 2000000 in
theorem ok_ref01_Missing_l2 {n : Nat} {w0 : World} {R0 : Nat → Prop} {env0 : Env} {r : (List Int)} {i7 : Int} {l5 : List Int} {i4 : Int} {l6 : List Int} {k_ref01_Missing_l0 : Int → Int → (List Int) → (List Int) → Option ((List Int))} (hk_ref01_Missing_l0 : ∀ (i3 : Int) (i4 : Int) (l5 : List Int) (l6 : List Int), k_ref01_Missing_l0 i3 i4 l5 l6 = some r → TC Try.prog ⟨w0, fun _ => False, R0⟩ 48 (bodyPost Try.prog Try.f26 (Post ⟨w0, fun _ => False, R0⟩ env0 (.ref 0) [.row 0 3 1 (List.map en_int r)])) [.code (sub (bodyOf Try.f26) [1, 1, 0, 1, 0, 0, 0, 0]), .code (sub (bodyOf Try.f26) [1, 1, 0, 1, 0, 0, 0, 1]), .code (sub (bodyOf Try.f26) [1, 1, 0, 1, 0, 0, 1]), .inLoop (sub (bodyOf Try.f26) [1, 1, 0, 1, 0, 0]), .inBlock 0, .code (sub (bodyOf Try.f26) [1, 1, 1])] ([(0, .val (.int .i64 i3)), (1, .ref 0), (5, .ref 1), (6, .val (.int .i64 i4))]) ([.ro 0 1 (List.map en_int l5), .row 1 3 1 (List.map en_int l6)])) : ∀ (m : Nat) (b8 : Bool) (i9 : Int), ev_ref01_Missing_l2 n l5 i4 l6 i7 k_ref01_Missing_l0 m b8 i9 = some r → TC Try.prog ⟨w0, fun _ => False, R0⟩ 48 (bodyPost Try.prog Try.f26 (Post ⟨w0, fun _ => False, R0⟩ env0 (.ref 0) [.row 0 3 1 (List.map en_int r)])) [.code (sub (bodyOf Try.f26) [1, 1, 0, 1, 0, 0, 1, 0, 0, 1, 1, 1, 0, 1, 0, 0, 0, 0]), .code (sub (bodyOf Try.f26) [1, 1, 0, 1, 0, 0, 1, 0, 0, 1, 1, 1, 0, 1, 0, 0, 0, 1]), .code (sub (bodyOf Try.f26) [1, 1, 0, 1, 0, 0, 1, 0, 0, 1, 1, 1, 0, 1, 0, 0, 1]), .inLoop (sub (bodyOf Try.f26) [1, 1, 0, 1, 0, 0, 1, 0, 0, 1, 1, 1, 0, 1, 0, 0]), .inBlock 4, .code (sub (bodyOf Try.f26) [1, 1, 0, 1, 0, 0, 1, 0, 0, 1, 1, 1, 1]), .inBlock 1, .code (sub (bodyOf Try.f26) [1, 1, 0, 1, 0, 0, 1, 1]), .inLoop (sub (bodyOf Try.f26) [1, 1, 0, 1, 0, 0]), .inBlock 0, .code (sub (bodyOf Try.f26) [1, 1, 1])] ([(0, .val (.int .i64 i7)), (1, .ref 0), (5, .ref 1), (6, .val (.int .i64 i4)), (7, .val (.bool b8)), (8, .val (.int .i64 i9))]) ([.ro 0 1 (List.map en_int l5), .row 1 3 1 (List.map en_int l6)]) := by
  intro m
  induction m with
  | zero => intro b8 i9 h; exact none_no h
  | succ m ih =>
    intro b8 i9 h
    rw [ev_ref01_Missing_l2] at h
    refine TC.region ?_
    refine op0 (sp_move rfl rfl) rfl trivial rfl rfl ?_
    refine op0 (sp_move rfl rfl) rfl trivial rfl rfl ?_
    refine op1 0 rfl (sp_lenM (N := l5.length) (len_map _ _) rfl rfl isRo Try.underlying38) rfl trivial rfl rfl ?_
    refine op0 (sp_lss rfl rfl rfl) rfl trivial rfl rfl ?_
    refine TL.nil ?_
    refine TC.cond (b := (decide (i9 < (l5.length : Int)))) rfl (fun h9 => ?_) (fun h9 => ?_)
    · have h := cond_t h h9
      refine TC.skip ?_
      refine TC.seq ?_
      refine TC.block ?_
      refine TC.region ?_
      refine op0 (sp_move rfl rfl) rfl trivial rfl rfl ?_
      refine op0 (sp_move rfl rfl) rfl trivial rfl rfl ?_
      rcases cond_cases h with ⟨h10, h⟩ | ⟨h10, h⟩
      · refine (boolLit 32 rfl h10).2 ?_
        refine opSkip rfl ⟨_, rfl, .inl rfl⟩ rfl ?_
        refine opSkip rfl ⟨_, rfl, .inl rfl⟩ rfl ?_
        refine opSkip rfl ⟨_, rfl, .inl rfl⟩ rfl ?_
        refine opSkip rfl ⟨_, rfl, .inl rfl⟩ rfl ?_
        refine opSkip rfl ⟨_, rfl, .inl rfl⟩ rfl ?_
        refine opSkip rfl ⟨_, rfl, .inl rfl⟩ rfl ?_
        refine opSkip rfl ⟨_, rfl, .inl rfl⟩ rfl ?_
        refine op0 (sp_pickT rfl rfl rfl) rfl trivial rfl rfl ?_
        refine op0 (sp_assign rfl rfl) rfl trivial rfl rfl ?_
        refine TL.nil ?_
        refine TC.inBlock ?_
        refine TC.region ?_
        refine op0 (sp_move rfl rfl) rfl trivial rfl rfl ?_
        obtain ⟨h11, h⟩ := chk_inv h
        refine op0 (sp_add rfl rfl rfl h11) rfl trivial rfl rfl ?_
        refine op0 (sp_assign rfl rfl) rfl trivial rfl rfl ?_
        refine TL.nil ?_
        refine TC.inLoop ?_
        refine TC.seq ?_
        refine TC.seq ?_
        refine subJ [] (ih _ _ h) ?_ ?_ ?_
        · exact ⟨rfl, rfl, rfl, rfl, rfl, rfl, trivial⟩
        · exact ⟨mem_at 0 rfl, mem_at 1 rfl, trivial⟩
        · rfl
      · refine (boolLit 32 rfl h10).2 ?_
        refine op0 (sp_move rfl rfl) rfl ⟨_, rfl, rfl⟩ rfl rfl ?_
        refine op0 (sp_move rfl rfl) rfl ⟨_, rfl, rfl⟩ rfl rfl ?_
        obtain ⟨x10, h12, h13, h⟩ := idx_inv h
        refine op1 0 rfl (sp_indexS rfl rfl rfl isRo sl38 h12 (map_get _ h13)) rfl ⟨_, rfl, rfl⟩ rfl rfl ?_
        refine op1 0 rfl (sp_loadR (i := (i9 : Int).toNat) (j := 0) rfl rfl isRo vt3 rfl (map_get _ h13) rfl (.v (.nil)) (nodup_of_B rfl)) rfl ⟨_, rfl, rfl⟩ rfl rfl ?_
        refine op0 (sp_move rfl rfl) rfl ⟨_, rfl, rfl⟩ rfl rfl ?_
        obtain ⟨h14, h⟩ := chk_inv h
        refine op0 (sp_rem rfl rfl rfl h14) rfl ⟨_, rfl, rfl⟩ rfl rfl ?_
        refine op0 (sp_eql rfl rfl rfl) rfl ⟨_, rfl, rfl⟩ rfl rfl ?_
        refine op0 (sp_pickF rfl rfl rfl) rfl trivial rfl rfl ?_
        refine op0 (sp_assign rfl rfl) rfl trivial rfl rfl ?_
        refine TL.nil ?_
        refine TC.inBlock ?_
        refine TC.region ?_
        refine op0 (sp_move rfl rfl) rfl trivial rfl rfl ?_
        obtain ⟨h15, h⟩ := chk_inv h
        refine op0 (sp_add rfl rfl rfl h15) rfl trivial rfl rfl ?_
        refine op0 (sp_assign rfl rfl) rfl trivial rfl rfl ?_
        refine TL.nil ?_
        refine TC.inLoop ?_
        refine TC.seq ?_
        refine TC.seq ?_
        refine subJ [] (ih _ _ h) ?_ ?_ ?_
        · exact ⟨rfl, rfl, rfl, rfl, rfl, rfl, trivial⟩
        · exact ⟨mem_at 0 rfl, mem_at 1 rfl, trivial⟩
        · rfl
    · have h := cond_f h h9
      refine TC.exit rfl ?_
      refine TC.seq ?_
      refine TC.region ?_
      refine op0 (sp_move rfl rfl) rfl trivial rfl rfl ?_
      refine op0 (sp_not rfl rfl) rfl trivial rfl rfl ?_
      refine TL.nil ?_
      refine TC.cond (b := (!b8)) rfl (fun h16 => ?_) (fun h16 => ?_)
      · have h := cond_t h h16
        refine TC.region ?_
        refine op0 (sp_move rfl rfl) rfl trivial rfl rfl ?_
        refine op0 (sp_move rfl rfl) rfl trivial rfl rfl ?_
        refine op0 (sp_buildSlice (qs := [.val (.int .i64 i4)]) (need := []) (els := List.map en_int ([i4] : List Int)) 2 rfl sl38 (by decide) (by decide) rfl rfl rfl (.v (.nil)) (map_len fun _ => rfl) rfl rfl rfl) rfl trivial rfl rfl ?_
        obtain ⟨h17, h⟩ := chk_inv h
        refine appM 2 0 (N := l6.length) (N2 := ([i4] : List Int).length) 3 rfl rfl trivial rfl rfl rfl rfl rfl isOwn rfl sl38 (len_map _ _) (len_map _ _) h17 (map_app _ _ _) rfl ?_
        refine op0 (sp_assign rfl rfl) rfl trivial rfl rfl ?_
        refine TL.nil ?_
        refine TC.inBlock ?_
        refine TC.region ?_
        refine op0 (sp_move rfl rfl) rfl trivial rfl rfl ?_
        obtain ⟨h18, h⟩ := chk_inv h
        refine op0 (sp_add rfl rfl rfl h18) rfl trivial rfl rfl ?_
        refine op0 (sp_assign rfl rfl) rfl trivial rfl rfl ?_
        refine TL.nil ?_
        refine TC.inLoop ?_
        refine TC.seq ?_
        refine TC.seq ?_
        refine subJ [(1, 3)] (hk_ref01_Missing_l0 _ _ _ _ h) ?_ ?_ ?_
        · exact ⟨rfl, rfl, rfl, rfl, trivial⟩
        · exact ⟨mem_at 2 rfl, mem_at 0 rfl, trivial⟩
        · rfl
      · have h := cond_f h h16
        refine TC.skip ?_
        refine TC.inBlock ?_
        refine TC.region ?_
        refine op0 (sp_move rfl rfl) rfl trivial rfl rfl ?_
        obtain ⟨h19, h⟩ := chk_inv h
        refine op0 (sp_add rfl rfl rfl h19) rfl trivial rfl rfl ?_
        refine op0 (sp_assign rfl rfl) rfl trivial rfl rfl ?_
        refine TL.nil ?_
        refine TC.inLoop ?_
        refine TC.seq ?_
        refine TC.seq ?_
        refine subJ [] (hk_ref01_Missing_l0 _ _ _ _ h) ?_ ?_ ?_
        · exact ⟨rfl, rfl, rfl, rfl, trivial⟩
        · exact ⟨mem_at 0 rfl, mem_at 1 rfl, trivial⟩
        · rfl
def ev_ref01_Missing_l1 (n : Nat) (i4 : Int) (l5 : List Int) (l6 : List Int) (k_ref01_Missing_l0 : Int → Int → (List Int) → (List Int) → Option ((List Int))) : Nat → Int → Option ((List Int))
  | 0, _ => none
  | m + 1, i7 => chk (i4 != 0) <| cond ((Int.tmod i7 i4) == 0) (chk (i4 != 0) <| chk (in64 (Int.tdiv i7 i4)) <| ev_ref01_Missing_l1 n i4 l5 l6 k_ref01_Missing_l0 m (Int.tdiv i7 i4)) (ev_ref01_Missing_l2 n l5 i4 l6 i7 k_ref01_Missing_l0 n false 0)
set_option maxRecDepth 100000 in
set_option maxHeartbeats 2000000 in
theorem ok_ref01_Missing_l1 {n : Nat} {w0 : World} {R0 : Nat → Prop} {env0 : Env} {r : (List Int)} {i4 : Int} {l5 : List Int} {l6 : List Int} {k_ref01_Missing_l0 : Int → Int → (List Int) → (List Int) → Option ((List Int))} (hk_ref01_Missing_l0 : ∀ (i3 : Int) (i4 : Int) (l5 : List Int) (l6 : List Int), k_ref01_Missing_l0 i3 i4 l5 l6 = some r → TC Try.prog ⟨w0, fun _ => False, R0⟩ 48 (bodyPost Try.prog Try.f26 (Post ⟨w0, fun _ => False, R0⟩ env0 (.ref 0) [.row 0 3 1 (List.map en_int r)])) [.code (sub (bodyOf Try.f26) [1, 1, 0, 1, 0, 0, 0, 0]), .code (sub (bodyOf Try.f26) [1, 1, 0, 1, 0, 0, 0, 1]), .code (sub (bodyOf Try.f26) [1, 1, 0, 1, 0, 0, 1]), .inLoop (sub (bodyOf Try.f26) [1, 1, 0, 1, 0, 0]), .inBlock 0, .code (sub (bodyOf Try.f26) [1, 1, 1])] ([(0, .val (.int .i64 i3)), (1, .ref 0), (5, .ref 1), (6, .val (.int .i64 i4))]) ([.ro 0 1 (List.map en_int l5), .row 1 3 1 (List.map en_int l6)])) : ∀ (m : Nat) (i7 : Int), ev_ref01_Missing_l1 n i4 l5 l6 k_ref01_Missing_l0 m i7 = some r → TC Try.prog ⟨w0, fun _ => False, R0⟩ 48 (bodyPost Try.prog Try.f26 (Post ⟨w0, fun _ => False, R0⟩ env0 (.ref 0) [.row 0 3 1 (List.map en_int r)])) [.code (sub (bodyOf Try.f26) [1, 1, 0, 1, 0, 0, 1, 0, 0, 1, 0, 0, 0, 0, 0]), .code (sub (bodyOf Try.f26) [1, 1, 0, 1, 0, 0, 1, 0, 0, 1, 0, 0, 0, 0, 1]), .code (sub (bodyOf Try.f26) [1, 1, 0, 1, 0, 0, 1, 0, 0, 1, 0, 0, 0, 1]), .inLoop (sub (bodyOf Try.f26) [1, 1, 0, 1, 0, 0, 1, 0, 0, 1, 0, 0, 0]), .inBlock 2, .code (sub (bodyOf Try.f26) [1, 1, 0, 1, 0, 0, 1, 0, 0, 1, 1]), .inBlock 1, .code (sub (bodyOf Try.f26) [1, 1, 0, 1, 0, 0, 1, 1]), .inLoop (sub (bodyOf Try.f26) [1, 1, 0, 1, 0, 0]), .inBlock 0, .code (sub (bodyOf Try.f26) [1, 1, 1])] ([(0, .val (.int .i64 i7)), (1, .ref 0), (5, .ref 1), (6, .val (.int .i64 i4))]) ([.ro 0 1 (List.map en_int l5), .row 1 3 1 (List.map en_int l6)]) := by
  intro m
  induction m with
  | zero => intro i7 h; exact none_no h
  | succ m ih =>
    intro i7 h
    rw [ev_ref01_Missing_l1] at h
    refine TC.region ?_
    refine op0 (sp_move rfl rfl) rfl trivial rfl rfl ?_
    refine op0 (sp_move rfl rfl) rfl trivial rfl rfl ?_
    obtain ⟨h5, h⟩ := chk_inv h
    refine op0 (sp_rem rfl rfl rfl h5) rfl trivial rfl rfl ?_
    refine op0 (sp_eql rfl rfl rfl) rfl trivial rfl rfl ?_
    refine TL.nil ?_
    refine TC.cond (b := ((Int.tmod i7 i4) == 0)) rfl (fun h6 => ?_) (fun h6 => ?_)
    · have h := cond_t h h6
      refine TC.skip ?_
      refine TC.block ?_
      refine TC.region ?_
      refine op0 (sp_move rfl rfl) rfl trivial rfl rfl ?_
      refine op0 (sp_move rfl rfl) rfl trivial rfl rfl ?_
      obtain ⟨h7, h⟩ := chk_inv h
      obtain ⟨h8, h⟩ := chk_inv h
      refine op0 (sp_quo rfl rfl rfl h7 h8) rfl trivial rfl rfl ?_
      refine op0 (sp_assign rfl rfl) rfl trivial rfl rfl ?_
      refine TL.nil ?_
      refine TC.inBlock ?_
      refine TC.inLoop ?_
      refine TC.seq ?_
      refine TC.seq ?_
      refine subJ [] (ih _ h) ?_ ?_ ?_
      · exact ⟨rfl, rfl, rfl, rfl, trivial⟩
      · exact ⟨mem_at 0 rfl, mem_at 1 rfl, trivial⟩
      · rfl
    · have h := cond_f h h6
      refine TC.exit rfl ?_
      refine TC.seq ?_
      refine TC.region ?_
      refine op0 (sp_assign rfl rfl) rfl trivial rfl rfl ?_
      refine TL.nil ?_
      refine TC.seq ?_
      refine TC.seq ?_
      refine TC.region ?_
      refine op0 (sp_assign rfl rfl) rfl trivial rfl rfl ?_
      refine TL.nil ?_
      refine TC.block ?_
      refine TC.loop ?_
      refine TC.seq ?_
      refine TC.seq ?_
      refine subJ [] (ok_ref01_Missing_l2 hk_ref01_Missing_l0 _ _ _ h) ?_ ?_ ?_
      · exact ⟨rfl, rfl, rfl, rfl, rfl, rfl, trivial⟩
      · exact ⟨mem_at 0 rfl, mem_at 1 rfl, trivial⟩
      · rfl
def ev_ref01_Missing_l0 (n : Nat) : Nat → Int → Int → (List Int) → (List Int) → Option ((List Int))
  | 0, _, _, _, _ => none
  | m + 1, i3, i4, l5, l6 => cond (decide ((1 : Int) < i3)) (chk (i4 != 0) <| cond (decide ((0 : Int) < (Int.tmod i3 i4))) (chk (in64 (i4 + 1)) <| ev_ref01_Missing_l0 n m i3 (i4 + 1) l5 l6) (ev_ref01_Missing_l1 n i4 l5 l6 (fun i3q i4q l5q l6q => ev_ref01_Missing_l0 n m i3q i4q l5q l6q) n i3)) (some l6)
set_option maxRecDepth 100000 in
set_option maxHeartbeats 2000000 in
theorem ok_ref01_Missing_l0 {n : Nat} {w0 : World} {R0 : Nat → Prop} {env0 : Env} {r : (List Int)} : ∀ (m : Nat) (i3 : Int) (i4 : Int) (l5 : List Int) (l6 : List Int), ev_ref01_Missing_l0 n m i3 i4 l5 l6 = some r → TC Try.prog ⟨w0, fun _ => False, R0⟩ 48 (bodyPost Try.prog Try.f26 (Post ⟨w0, fun _ => False, R0⟩ env0 (.ref 0) [.row 0 3 1 (List.map en_int r)])) [.code (sub (bodyOf Try.f26) [1, 1, 0, 1, 0, 0, 0, 0]), .code (sub (bodyOf Try.f26) [1, 1, 0, 1, 0, 0, 0, 1]), .code (sub (bodyOf Try.f26) [1, 1, 0, 1, 0, 0, 1]), .inLoop (sub (bodyOf Try.f26) [1, 1, 0, 1, 0, 0]), .inBlock 0, .code (sub (bodyOf Try.f26) [1, 1, 1])] ([(0, .val (.int .i64 i3)), (1, .ref 0), (5, .ref 1), (6, .val (.int .i64 i4))]) ([.ro 0 1 (List.map en_int l5), .row 1 3 1 (List.map en_int l6)]) := by
  intro m
  induction m with
  | zero => intro i3 i4 l5 l6 h; exact none_no h
  | succ m ih =>
    intro i3 i4 l5 l6 h
    rw [ev_ref01_Missing_l0] at h
    refine TC.region ?_
    refine op0 (sp_move rfl rfl) rfl trivial rfl rfl ?_
    refine op0 (sp_gtr rfl rfl rfl) rfl trivial rfl rfl ?_
    refine TL.nil ?_
    refine TC.cond (b := (decide ((1 : Int) < i3))) rfl (fun h1 => ?_) (fun h1 => ?_)
    · have h := cond_t h h1
      refine TC.skip ?_
      refine TC.seq ?_
      refine TC.block ?_
      refine TC.seq ?_
      refine TC.seq ?_
      refine TC.region ?_
      refine op0 (sp_move rfl rfl) rfl trivial rfl rfl ?_
      refine op0 (sp_move rfl rfl) rfl trivial rfl rfl ?_
      obtain ⟨h2, h⟩ := chk_inv h
      refine op0 (sp_rem rfl rfl rfl h2) rfl trivial rfl rfl ?_
      refine op0 (sp_gtr rfl rfl rfl) rfl trivial rfl rfl ?_
      refine TL.nil ?_
      refine TC.cond (b := (decide ((0 : Int) < (Int.tmod i3 i4)))) rfl (fun h3 => ?_) (fun h3 => ?_)
      · have h := cond_t h h3
        refine TC.exit rfl ?_
        refine TC.region ?_
        refine op0 (sp_move rfl rfl) rfl trivial rfl rfl ?_
        obtain ⟨h4, h⟩ := chk_inv h
        refine op0 (sp_add rfl rfl rfl h4) rfl trivial rfl rfl ?_
        refine op0 (sp_assign rfl rfl) rfl trivial rfl rfl ?_
        refine TL.nil ?_
        refine TC.inLoop ?_
        refine TC.seq ?_
        refine TC.seq ?_
        refine subJ [] (ih _ _ _ _ h) ?_ ?_ ?_
        · exact ⟨rfl, rfl, rfl, rfl, trivial⟩
        · exact ⟨mem_at 0 rfl, mem_at 1 rfl, trivial⟩
        · rfl
      · have h := cond_f h h3
        refine TC.skip ?_
        refine TC.seq ?_
        refine TC.block ?_
        refine TC.loop ?_
        refine TC.seq ?_
        refine TC.seq ?_
        refine subJ [] (ok_ref01_Missing_l1 ih _ _ h) ?_ ?_ ?_
        · exact ⟨rfl, rfl, rfl, rfl, trivial⟩
        · exact ⟨mem_at 0 rfl, mem_at 1 rfl, trivial⟩
        · rfl
    · have h := cond_f h h1
      refine TC.exit rfl ?_
      refine TC.seq ?_
      refine TC.region ?_
      refine op0 (sp_move rfl rfl) rfl trivial rfl rfl ?_
      refine op0 (sp_assign rfl rfl) rfl trivial rfl rfl ?_
      refine TL.nil ?_
      cases h
      exact retJ [(0, 1)] (.tmp rfl .nil) rfl ⟨mem_at 1 rfl, trivial⟩ rfl rfl
def ev_ref01_Missing (n : Nat) (nn1 : Int) (l2 : List Int) : Option ((List Int)) :=
  ev_ref01_Missing_l0 n n nn1 2 l2 ([] : List Int)
set_option maxRecDepth 100000 in
set_option maxHeartbeats 2000000 in
theorem fc_ref01_Missing {n : Nat} {nn1 : Int} {l2 : List Int} {r : (List Int)} (h : ev_ref01_Missing n nn1 l2 = some r) : FC Try.prog 26 [.val (.int .i64 nn1), .ref 0] [.ro 0 1 (List.map en_int l2)] (.ref 0) [.row 0 3 1 (List.map en_int r)] := by
  refine introJ (nz := 48) Try.func26 rfl rfl rfl (fun w0 R0 env0 => ?_)
  rw [ev_ref01_Missing] at h
  refine TC.seq ?_
  refine TC.region ?_
  refine op0 (sp_assign rfl rfl) rfl trivial rfl rfl ?_
  refine TL.nil ?_
  refine TC.seq ?_
  refine TC.region ?_
  refine op0 (sp_emptyM 1 (List.map en_int []) rfl rfl sl38) rfl trivial rfl rfl ?_
  refine op0 (sp_assign rfl rfl) rfl trivial rfl rfl ?_
  refine TL.nil ?_
  refine TC.seq ?_
  refine TC.seq ?_
  refine TC.region ?_
  refine op0 (sp_assign rfl rfl) rfl trivial rfl rfl ?_
  refine TL.nil ?_
  refine TC.block ?_
  refine TC.loop ?_
  refine TC.seq ?_
  refine TC.seq ?_
  refine subJ [] (ok_ref01_Missing_l0 _ _ _ _ _ h) ?_ ?_ ?_
  · exact ⟨rfl, rfl, rfl, rfl, trivial⟩
  · exact ⟨mem_at 1 rfl, mem_at 0 rfl, trivial⟩
  · rfl
/- ref01_Lists -/
def ev_ref01_Lists_l1 (n : Nat) (i3 : Int) (k_ref01_Lists_l0 : Int → (List Int) → (List ((List Int))) → Option ((List ((List Int))))) : Nat → Int → (List Int) → (List ((List Int))) → (List ((List Int))) → Option ((List ((List Int))))
  | 0, _, _, _, _ => none
  | m + 1, i7, l8, l9, l10 => cond (decide (i7 < (l10.length : Int))) (idx l8 i3 fun x13 => idx l10 i7 fun x14 => chk (room 8 (([x13] : List Int).length + x14.length)) <| chk (room 24 (l9.length + ([(([x13] : List Int) ++ x14)] : List ((List Int))).length)) <| chk (in64 (i7 + 1)) <| ev_ref01_Lists_l1 n i3 k_ref01_Lists_l0 m (i7 + 1) l8 (l9 ++ ([(([x13] : List Int) ++ x14)] : List ((List Int)))) l10) (chk (in64 (i3 + 1)) <| k_ref01_Lists_l0 (i3 + 1) l8 l9)
set_option maxRecDepth 100000 in
set_option maxHeartbeats 2000000 in
theorem ok_ref01_Lists_l1 {n : Nat} {w0 : World} {R0 : Nat → Prop} {env0 : Env} {r : (List ((List Int)))} {many2 : Int} {i3 : Int} {k_ref01_Lists_l0 : Int → (List Int) → (List ((List Int))) → Option ((List ((List Int))))} (hk_ref01_Lists_l0 : ∀ (i3 : Int) (l4 : List Int) (l5 : List ((List Int))), k_ref01_Lists_l0 i3 l4 l5 = some r → TC Try.prog ⟨w0, fun _ => False, R0⟩ 46 (bodyPost Try.prog Try.f64 (Post ⟨w0, fun _ => False, R0⟩ env0 (.ref 0) [.row 0 38 1 (List.map en_Lint r)])) [.code (sub (bodyOf Try.f64) [1, 1, 1, 0, 1, 0, 0, 0, 0]), .code (sub (bodyOf Try.f64) [1, 1, 1, 0, 1, 0, 0, 0, 1]), .code (sub (bodyOf Try.f64) [1, 1, 1, 0, 1, 0, 0, 1]), .inLoop (sub (bodyOf Try.f64) [1, 1, 1, 0, 1, 0, 0]), .inBlock 0, .code (sub (bodyOf Try.f64) [1, 1, 1, 1])] ([(0, .ref 0), (1, .val (.int .i64 many2)), (5, .ref 3), (6, .val (.int .i64 i3))]) ([.ro 0 1 (List.map en_int l4), .row 3 38 1 (List.map en_Lint l5)])) : ∀ (m : Nat) (i7 : Int) (l8 : List Int) (l9 : List ((List Int))) (l10 : List ((List Int))), ev_ref01_Lists_l1 n i3 k_ref01_Lists_l0 m i7 l8 l9 l10 = some r → TC Try.prog ⟨w0, fun _ => False, R0⟩ 46 (bodyPost Try.prog Try.f64 (Post ⟨w0, fun _ => False, R0⟩ env0 (.ref 0) [.row 0 38 1 (List.map en_Lint r)])) [.code (sub (bodyOf Try.f64) [1, 1, 1, 0, 1, 0, 0, 1, 0, 0, 1, 1, 0, 0, 0, 0]), .code (sub (bodyOf Try.f64) [1, 1, 1, 0, 1, 0, 0, 1, 0, 0, 1, 1, 0, 0, 0, 1]), .code (sub (bodyOf Try.f64) [1, 1, 1, 0, 1, 0, 0, 1, 0, 0, 1, 1, 0, 0, 1]), .inLoop (sub (bodyOf Try.f64) [1, 1, 1, 0, 1, 0, 0, 1, 0, 0, 1, 1, 0, 0]), .inBlock 2, .inBlock 1, .code (sub (bodyOf Try.f64) [1, 1, 1, 0, 1, 0, 0, 1, 1]), .inLoop (sub (bodyOf Try.f64) [1, 1, 1, 0, 1, 0, 0]), .inBlock 0, .code (sub (bodyOf Try.f64) [1, 1, 1, 1])] ([(0, .ref 0), (1, .val (.int .i64 many2)), (5, .ref 3), (6, .val (.int .i64 i3)), (7, .ref 5), (8, .val (.int .i64 i7))]) ([.ro 0 1 (List.map en_int l8), .row 3 38 1 (List.map en_Lint l9), .row 5 38 1 (List.map en_Lint l10)]) := by
  intro m
  induction m with
  | zero => intro i7 l8 l9 l10 h; exact none_no h
  | succ m ih =>
    intro i7 l8 l9 l10 h
    rw [ev_ref01_Lists_l1] at h
    refine TC.region ?_
    refine op0 (sp_move rfl rfl) rfl trivial rfl rfl ?_
    refine op0 (sp_move rfl rfl) rfl trivial rfl rfl ?_
    refine op1 2 rfl (sp_lenM (N := l10.length) (len_map _ _) rfl rfl isOwn Try.underlying109) rfl trivial rfl rfl ?_
    refine op0 (sp_lss rfl rfl rfl) rfl trivial rfl rfl ?_
    refine TL.nil ?_
    refine TC.cond (b := (decide (i7 < (l10.length : Int)))) rfl (fun h6 => ?_) (fun h6 => ?_)
    · have h := cond_t h h6
      refine TC.skip ?_
      refine TC.seq ?_
      refine TC.block ?_
      obtain ⟨x13, h12, h13, h⟩ := idx_inv h
      obtain ⟨x14, h14, h15, h⟩ := idx_inv h
      obtain ⟨h16, h⟩ := chk_inv h
      refine drawJ 12 [⟨.ref 3, [], [], []⟩, ⟨.ref 0, [], [], []⟩, ⟨.val (.int .i64 i3), [], [], []⟩, ⟨.cell 0 ((i3 : Int).toNat * 1), [], [.ro 0 1 (List.map en_int l8)], []⟩, ⟨.val (.int .i64 x13), [], [.ro 0 1 (List.map en_int l8)], []⟩, ⟨.ref 10, [.row 10 3 1 (List.map en_int ([x13] : List Int))], [], []⟩, ⟨.ref 5, [], [], []⟩, ⟨.val (.int .i64 i7), [], [], []⟩, ⟨.cell 5 ((i7 : Int).toNat * 1), [], [.row 5 38 1 (List.map en_Lint l10)], []⟩, ⟨.ref 11, [.ro 11 1 (List.map en_int x14)], [.row 5 38 1 (List.map en_Lint l10)], []⟩, ⟨.ref 12, [.ro 12 1 (List.map en_int (([x13] : List Int) ++ x14))], [.ro 11 1 (List.map en_int x14)], [.row 10 3 1 (List.map en_int ([x13] : List Int))]⟩, ⟨.ref 13, [.row 13 38 1 (List.map en_Lint ([(([x13] : List Int) ++ x14)] : List ((List Int))))], [.ro 12 1 (List.map en_int (([x13] : List Int) ++ x14))], []⟩] rfl ?_ rfl ?_ rfl ?_ ?_
      · kernel_rfl
      · kernel_rfl
      · exact DAll.op' (sp_move rfl rfl) trivial rfl (From.ok (ps := []) trivial) (DAll.op' (sp_move rfl rfl) trivial rfl (From.ok (ps := []) trivial) (DAll.op' (sp_move rfl rfl) trivial rfl (From.ok (ps := []) trivial) (DAll.op' (sp_indexS rfl rfl rfl isRo sl38 h12 (map_get _ h13)) trivial rfl (From.ok (ps := [(none, 0)]) ⟨⟨rfl, by kernel_rfl⟩, trivial⟩) (DAll.op' (sp_loadR (i := (i3 : Int).toNat) (j := 0) rfl rfl isRo vt3 rfl (map_get _ h13) rfl (.v (.nil)) (nodup_of_B rfl)) trivial rfl (From.ok (ps := [(none, 0)]) ⟨⟨rfl, by kernel_rfl⟩, trivial⟩) (DAll.op' (sp_buildSlice (qs := [.val (.int .i64 x13)]) (need := []) (els := List.map en_int ([x13] : List Int)) 10 rfl sl38 (by decide) (by decide) rfl rfl rfl (.v (.nil)) (map_len fun _ => rfl) rfl rfl rfl) trivial rfl (From.ok (ps := []) trivial) (DAll.op' (sp_move rfl rfl) trivial rfl (From.ok (ps := []) trivial) (DAll.op' (sp_move rfl rfl) trivial rfl (From.ok (ps := []) trivial) (DAll.op' (sp_indexS rfl rfl rfl isOwn sl109 h14 (map_get _ h15)) trivial rfl (From.ok (ps := [(none, 2)]) ⟨⟨rfl, by kernel_rfl⟩, trivial⟩) (DAll.op' (sp_loadR (i := (i7 : Int).toNat) (j := 0) (ns := [.ro 11 1 (List.map en_int x14)]) rfl rfl isOwn vt38 rfl (map_get _ h15) rfl (.s (.nil)) (nodup_of_B rfl)) trivial rfl (From.ok (ps := [(none, 2)]) ⟨⟨rfl, by kernel_rfl⟩, trivial⟩) (DAll.opT (TSpec.froz (news := [.row 12 3 1 (List.map en_int (([x13] : List Int) ++ x14))]) 0 rfl (ts_append (N := ([x13] : List Int).length) (N2 := x14.length) 12 rfl rfl rfl isRo rfl sl38 (len_map _ _) (len_map _ _) h16 (map_app _ _ _) rfl)) trivial (From.ok (ps := [(some 5, 0)]) ⟨⟨_, rfl, by kernel_rfl, rfl, by kernel_rfl⟩, trivial⟩) (From.ok (ps := [(some 9, 0)]) ⟨⟨_, rfl, by kernel_rfl, rfl, by kernel_rfl⟩, trivial⟩) (DAll.op' (sp_buildSlice (qs := [.ref 12]) (need := [.ro 12 1 (List.map en_int (([x13] : List Int) ++ x14))]) (els := List.map en_Lint ([(([x13] : List Int) ++ x14)] : List ((List Int)))) 13 rfl sl109 (by decide) (by decide) rfl rfl rfl (.s (mem_at 0 rfl) (.nil)) (map_len fun _ => rfl) rfl rfl rfl) trivial rfl (From.ok (ps := [(some 10, 0)]) ⟨⟨_, rfl, by kernel_rfl, rfl, by kernel_rfl⟩, trivial⟩) (.nil))))))))))))
      obtain ⟨h17, h⟩ := chk_inv h
      refine appM 4 0 (N := l9.length) (N2 := ([(([x13] : List Int) ++ x14)] : List ((List Int))).length) 14 rfl rfl trivial rfl rfl rfl rfl rfl isOwn rfl sl109 (len_map _ _) (len_map _ _) h17 (map_app _ _ _) rfl ?_
      refine op0 (sp_assign rfl rfl) rfl trivial rfl rfl ?_
      refine TL.nil ?_
      refine TC.inBlock ?_
      refine TC.region ?_
      refine op0 (sp_move rfl rfl) rfl trivial rfl rfl ?_
      obtain ⟨h18, h⟩ := chk_inv h
      refine op0 (sp_add rfl rfl rfl h18) rfl trivial rfl rfl ?_
      refine op0 (sp_assign rfl rfl) rfl trivial rfl rfl ?_
      refine TL.nil ?_
      refine TC.inLoop ?_
      refine TC.seq ?_
      refine TC.seq ?_
      refine subJ [(3, 14)] (ih _ _ _ _ h) ?_ ?_ ?_
      · exact ⟨rfl, rfl, rfl, rfl, rfl, rfl, trivial⟩
      · exact ⟨mem_at 4 rfl, mem_at 0 rfl, mem_at 5 rfl, trivial⟩
      · rfl
    · have h := cond_f h h6
      refine TC.exit rfl ?_
      refine TC.inBlock ?_
      refine TC.region ?_
      refine op0 (sp_move rfl rfl) rfl trivial rfl rfl ?_
      obtain ⟨h19, h⟩ := chk_inv h
      refine op0 (sp_add rfl rfl rfl h19) rfl trivial rfl rfl ?_
      refine op0 (sp_assign rfl rfl) rfl trivial rfl rfl ?_
      refine TL.nil ?_
      refine TC.inLoop ?_
      refine TC.seq ?_
      refine TC.seq ?_
      refine subJ [] (hk_ref01_Lists_l0 _ _ _ h) ?_ ?_ ?_
      · exact ⟨rfl, rfl, rfl, rfl, trivial⟩
      · exact ⟨mem_at 0 rfl, mem_at 1 rfl, trivial⟩
      · rfl
def ev_ref01_Lists_l0 (n : Nat) (many2 : Int) (self : (List Int) → Int → Option ((List ((List Int))))) : Nat → Int → (List Int) → (List ((List Int))) → Option ((List ((List Int))))
  | 0, _, _, _ => none
  | m + 1, i3, l4, l5 => cond (decide (i3 < (l4.length : Int))) (chk (decide (0 ≤ (i3 : Int)) && (decide ((i3 : Int) ≤ (l4.length : Int)) && decide ((l4.length : Int) ≤ (l4.length : Int)))) <| chk (in64 (many2 - 1)) <| (self (List.drop (i3 : Int).toNat (List.take ((l4.length : Int) : Int).toNat l4)) (many2 - 1)).bind fun r6 => ev_ref01_Lists_l1 n i3 (fun i3q l4q l5q => ev_ref01_Lists_l0 n many2 self m i3q l4q l5q) n 0 l4 l5 r6) (some l5)
set_option maxRecDepth 100000 in
set_option maxHeartbeats 2000000 in
theorem ok_ref01_Lists_l0 {n : Nat} {w0 : World} {R0 : Nat → Prop} {env0 : Env} {r : (List ((List Int)))} {many2 : Int} {self : (List Int) → Int → Option ((List ((List Int))))} (hself : ∀ (l1z : List Int) (many2z : Int) (r : (List ((List Int)))), self l1z many2z = some r → FC Try.prog 64 [.ref 0, .val (.int .i64 many2z)] [.ro 0 1 (List.map en_int l1z)] (.ref 0) [.row 0 38 1 (List.map en_Lint r)]) : ∀ (m : Nat) (i3 : Int) (l4 : List Int) (l5 : List ((List Int))), ev_ref01_Lists_l0 n many2 self m i3 l4 l5 = some r → TC Try.prog ⟨w0, fun _ => False, R0⟩ 46 (bodyPost Try.prog Try.f64 (Post ⟨w0, fun _ => False, R0⟩ env0 (.ref 0) [.row 0 38 1 (List.map en_Lint r)])) [.code (sub (bodyOf Try.f64) [1, 1, 1, 0, 1, 0, 0, 0, 0]), .code (sub (bodyOf Try.f64) [1, 1, 1, 0, 1, 0, 0, 0, 1]), .code (sub (bodyOf Try.f64) [1, 1, 1, 0, 1, 0, 0, 1]), .inLoop (sub (bodyOf Try.f64) [1, 1, 1, 0, 1, 0, 0]), .inBlock 0, .code (sub (bodyOf Try.f64) [1, 1, 1, 1])] ([(0, .ref 0), (1, .val (.int .i64 many2)), (5, .ref 3), (6, .val (.int .i64 i3))]) ([.ro 0 1 (List.map en_int l4), .row 3 38 1 (List.map en_Lint l5)]) := by
  intro m
  induction m with
  | zero => intro i3 l4 l5 h; exact none_no h
  | succ m ih =>
    intro i3 l4 l5 h
    rw [ev_ref01_Lists_l0] at h
    refine TC.region ?_
    refine op0 (sp_move rfl rfl) rfl trivial rfl rfl ?_
    refine op0 (sp_move rfl rfl) rfl trivial rfl rfl ?_
    refine op1 0 rfl (sp_lenM (N := l4.length) (len_map _ _) rfl rfl isRo Try.underlying38) rfl trivial rfl rfl ?_
    refine op0 (sp_lss rfl rfl rfl) rfl trivial rfl rfl ?_
    refine TL.nil ?_
    refine TC.cond (b := (decide (i3 < (l4.length : Int)))) rfl (fun h2 => ?_) (fun h2 => ?_)
    · have h := cond_t h h2
      refine TC.skip ?_
      refine TC.seq ?_
      refine TC.block ?_
      refine TC.seq ?_
      refine TC.region ?_
      refine op0 (sp_move rfl rfl) rfl trivial rfl rfl ?_
      refine op0 (sp_move rfl rfl) rfl trivial rfl rfl ?_
      obtain ⟨h3, h⟩ := chk_inv h
      refine op1 0 rfl (sp_sliceM (l := i3) (h := (l4.length : Int)) 4 (len_map _ _) rfl rfl sl38 (cut_some rfl) cut_none h3 (map_cut _ _ _ _)) rfl trivial rfl rfl ?_
      refine op0 (sp_move rfl rfl) rfl trivial rfl rfl ?_
      obtain ⟨h4, h⟩ := chk_inv h
      refine op0 (sp_sub rfl rfl rfl h4) rfl trivial rfl rfl ?_
      obtain ⟨r6, h5, h⟩ := bind_inv h
      refine op1 0 rfl (sp_call (avs := [.ref 4, .val (.int .i64 (many2 - 1))]) (need := [.ro 4 1 (List.map en_int (List.drop (i3 : Int).toNat (List.take ((l4.length : Int) : Int).toNat l4)))]) (v := .ref 5) (news := [.row 5 38 1 (List.map en_Lint r6)]) rfl rfl rfl Try.call64 (atJ [(0, 4)] [(0, 5)] (hself _ _ _ h5) rfl rfl) (.inl (roAll rfl))) rfl trivial rfl rfl ?_
      refine op0 (sp_assign rfl rfl) rfl trivial rfl rfl ?_
      refine TL.nil ?_
      refine TC.seq ?_
      refine TC.region ?_
      refine op0 (sp_assign rfl rfl) rfl trivial rfl rfl ?_
      refine TL.nil ?_
      refine TC.block ?_
      refine TC.loop ?_
      refine TC.seq ?_
      refine TC.seq ?_
      refine subJ [] (ok_ref01_Lists_l1 (many2 := many2) ih _ _ _ _ _ h) ?_ ?_ ?_
      · exact ⟨rfl, rfl, rfl, rfl, rfl, rfl, trivial⟩
      · exact ⟨mem_at 2 rfl, mem_at 3 rfl, mem_at 0 rfl, trivial⟩
      · rfl
    · have h := cond_f h h2
      refine TC.exit rfl ?_
      refine TC.seq ?_
      refine TC.region ?_
      refine op0 (sp_move rfl rfl) rfl trivial rfl rfl ?_
      refine op0 (sp_assign rfl rfl) rfl trivial rfl rfl ?_
      refine TL.nil ?_
      cases h
      exact retJ [(0, 3)] (.tmp rfl .nil) rfl ⟨mem_at 1 rfl, trivial⟩ rfl rfl
def ev_ref01_Lists : Nat → (List Int) → Int → Option ((List ((List Int))))
  | 0, _, _ => none
  | n + 1, l1, many2 => cond (many2 == 0) (some ([([] : List Int)] : List ((List Int)))) (ev_ref01_Lists_l0 n many2 (ev_ref01_Lists n) n 0 l1 ([] : List ((List Int))))
set_option maxRecDepth 100000 in
set_option maxHeartbeats 2000000 in
theorem fcr_ref01_Lists : ∀ (n : Nat) (l1 : List Int) (many2 : Int) (r : (List ((List Int)))), ev_ref01_Lists n l1 many2 = some r → FC Try.prog 64 [.ref 0, .val (.int .i64 many2)] [.ro 0 1 (List.map en_int l1)] (.ref 0) [.row 0 38 1 (List.map en_Lint r)] := by
  intro n
  induction n with
  | zero => intro _ _ r h; exact none_no h
  | succ n ih =>
    intro l1 many2 r h
    refine introJ (nz := 46) Try.func64 rfl rfl rfl (fun w0 R0 env0 => ?_)
    rw [ev_ref01_Lists] at h
    refine TC.seq ?_
    refine TC.region ?_
    refine op0 (sp_assign rfl rfl) rfl trivial rfl rfl ?_
    refine TL.nil ?_
    refine TC.seq ?_
    refine TC.seq ?_
    refine TC.region ?_
    refine op0 (sp_move rfl rfl) rfl trivial rfl rfl ?_
    refine op0 (sp_eql rfl rfl rfl) rfl trivial rfl rfl ?_
    refine TL.nil ?_
    refine TC.cond (b := (many2 == 0)) rfl (fun h1 => ?_) (fun h1 => ?_)
    · have h := cond_t h h1
      refine TC.seq ?_
      refine TC.region ?_
      refine op0 (sp_emptyM 1 (List.map en_int []) rfl rfl sl38) rfl trivial rfl rfl ?_
      refine TL.freeze 0 rfl ?_
      refine op1 0 rfl (sp_buildSlice (qs := [.ref 1]) (need := [.ro 1 1 (List.map en_int ([] : List Int))]) (els := List.map en_Lint ([([] : List Int)] : List ((List Int)))) 2 rfl sl109 (by decide) (by decide) rfl rfl rfl (.s (mem_at 0 rfl) (.nil)) (map_len fun _ => rfl) rfl rfl rfl) rfl trivial rfl rfl ?_
      refine op0 (sp_assign rfl rfl) rfl trivial rfl rfl ?_
      refine TL.nil ?_
      cases h
      exact retJ [(0, 2)] (.tmp rfl .nil) rfl ⟨mem_at 0 rfl, trivial⟩ rfl rfl
    · have h := cond_f h h1
      refine TC.skip ?_
      refine TC.seq ?_
      refine TC.region ?_
      refine op0 (sp_emptyM 3 (List.map en_Lint []) rfl rfl sl109) rfl trivial rfl rfl ?_
      refine op0 (sp_assign rfl rfl) rfl trivial rfl rfl ?_
      refine TL.nil ?_
      refine TC.seq ?_
      refine TC.seq ?_
      refine TC.region ?_
      refine op0 (sp_assign rfl rfl) rfl trivial rfl rfl ?_
      refine TL.nil ?_
      refine TC.block ?_
      refine TC.loop ?_
      refine TC.seq ?_
      refine TC.seq ?_
      refine subJ [] (ok_ref01_Lists_l0 ih _ _ _ _ h) ?_ ?_ ?_
      · exact ⟨rfl, rfl, rfl, rfl, trivial⟩
      · exact ⟨mem_at 1 rfl, mem_at 0 rfl, trivial⟩
      · rfl
theorem fc_ref01_Lists {n : Nat} {l1 : List Int} {many2 : Int} {r : (List ((List Int)))} (h : ev_ref01_Lists n l1 many2 = some r) : FC Try.prog 64 [.ref 0, .val (.int .i64 many2)] [.ro 0 1 (List.map en_int l1)] (.ref 0) [.row 0 38 1 (List.map en_Lint r)] := fcr_ref01_Lists n l1 many2 r h
/- ref01_Product -/
def ev_ref01_Product_l0 (n : Nat) (l1 : List Int) : Nat → Int → Int → Option Int
  | 0, _, _ => none
  | m + 1, i2, i3 => cond (decide (i3 < (l1.length : Int))) (idx l1 i3 fun x4 => chk (in64 (i2 * x4)) <| chk (in64 (i3 + 1)) <| ev_ref01_Product_l0 n l1 m (i2 * x4) (i3 + 1)) (some i2)
set_option maxRecDepth 100000 in
set_option maxHeartbeats 2000000 in
theorem ok_ref01_Product_l0 {n : Nat} {w0 : World} {R0 : Nat → Prop} {env0 : Env} {r : Int} {l1 : List Int} : ∀ (m : Nat) (i2 : Int) (i3 : Int), ev_ref01_Product_l0 n l1 m i2 i3 = some r → TC Try.prog ⟨w0, fun _ => False, R0⟩ 18 (bodyPost Try.prog Try.f77 (Post ⟨w0, fun _ => False, R0⟩ env0 (.val (.int .i64 r)) [])) [.code (sub (bodyOf Try.f77) [1, 1, 0, 1, 0, 0, 0, 0]), .code (sub (bodyOf Try.f77) [1, 1, 0, 1, 0, 0, 0, 1]), .code (sub (bodyOf Try.f77) [1, 1, 0, 1, 0, 0, 1]), .inLoop (sub (bodyOf Try.f77) [1, 1, 0, 1, 0, 0]), .inBlock 0, .code (sub (bodyOf Try.f77) [1, 1, 1])] ([(0, .ref 0), (3, .val (.int .i64 i2)), (4, .val (.int .i64 i3))]) ([.ro 0 1 (List.map en_int l1)]) := by
  intro m
  induction m with
  | zero => intro i2 i3 h; exact none_no h
  | succ m ih =>
    intro i2 i3 h
    rw [ev_ref01_Product_l0] at h
    refine TC.region ?_
    refine op0 (sp_move rfl rfl) rfl trivial rfl rfl ?_
    refine op0 (sp_move rfl rfl) rfl trivial rfl rfl ?_
    refine op1 0 rfl (sp_lenM (N := l1.length) (len_map _ _) rfl rfl isRo Try.underlying38) rfl trivial rfl rfl ?_
    refine op0 (sp_lss rfl rfl rfl) rfl trivial rfl rfl ?_
    refine TL.nil ?_
    refine TC.cond (b := (decide (i3 < (l1.length : Int)))) rfl (fun h1 => ?_) (fun h1 => ?_)
    · have h := cond_t h h1
      refine TC.skip ?_
      refine TC.seq ?_
      refine TC.block ?_
      refine TC.region ?_
      refine op0 (sp_move rfl rfl) rfl trivial rfl rfl ?_
      refine op0 (sp_move rfl rfl) rfl trivial rfl rfl ?_
      refine op0 (sp_move rfl rfl) rfl trivial rfl rfl ?_
      obtain ⟨x4, h2, h3, h⟩ := idx_inv h
      refine op1 0 rfl (sp_indexS rfl rfl rfl isRo sl38 h2 (map_get _ h3)) rfl trivial rfl rfl ?_
      refine op1 0 rfl (sp_loadR (i := (i3 : Int).toNat) (j := 0) rfl rfl isRo vt3 rfl (map_get _ h3) rfl (.v (.nil)) (nodup_of_B rfl)) rfl trivial rfl rfl ?_
      obtain ⟨h4, h⟩ := chk_inv h
      refine op0 (sp_mul rfl rfl rfl h4) rfl trivial rfl rfl ?_
      refine op0 (sp_assign rfl rfl) rfl trivial rfl rfl ?_
      refine TL.nil ?_
      refine TC.inBlock ?_
      refine TC.region ?_
      refine op0 (sp_move rfl rfl) rfl trivial rfl rfl ?_
      obtain ⟨h5, h⟩ := chk_inv h
      refine op0 (sp_add rfl rfl rfl h5) rfl trivial rfl rfl ?_
      refine op0 (sp_assign rfl rfl) rfl trivial rfl rfl ?_
      refine TL.nil ?_
      refine TC.inLoop ?_
      refine TC.seq ?_
      refine TC.seq ?_
      refine subJ [] (ih _ _ h) ?_ ?_ ?_
      · exact ⟨rfl, rfl, rfl, trivial⟩
      · exact ⟨mem_at 0 rfl, trivial⟩
      · rfl
    · have h := cond_f h h1
      refine TC.exit rfl ?_
      refine TC.seq ?_
      refine TC.region ?_
      refine op0 (sp_move rfl rfl) rfl trivial rfl rfl ?_
      refine op0 (sp_assign rfl rfl) rfl trivial rfl rfl ?_
      refine TL.nil ?_
      cases h
      exact retJ [] (.tmp rfl .nil) rfl trivial rfl rfl
def ev_ref01_Product (n : Nat) (l1 : List Int) : Option Int :=
  ev_ref01_Product_l0 n l1 n 1 0
set_option maxRecDepth 100000 in
set_option maxHeartbeats 2000000 in
theorem fc_ref01_Product {n : Nat} {l1 : List Int} {r : Int} (h : ev_ref01_Product n l1 = some r) : FC Try.prog 77 [.ref 0] [.ro 0 1 (List.map en_int l1)] (.val (.int .i64 r)) [] := by
  refine introJ (nz := 18) Try.func77 rfl rfl rfl (fun w0 R0 env0 => ?_)
  rw [ev_ref01_Product] at h
  refine TC.seq ?_
  refine TC.region ?_
  refine op0 (sp_assign rfl rfl) rfl trivial rfl rfl ?_
  refine TL.nil ?_
  refine TC.seq ?_
  refine TC.region ?_
  refine op0 (sp_assign rfl rfl) rfl trivial rfl rfl ?_
  refine TL.nil ?_
  refine TC.seq ?_
  refine TC.seq ?_
  refine TC.region ?_
  refine op0 (sp_assign rfl rfl) rfl trivial rfl rfl ?_
  refine TL.nil ?_
  refine TC.block ?_
  refine TC.loop ?_
  refine TC.seq ?_
  refine TC.seq ?_
  refine subJ [] (ok_ref01_Product_l0 _ _ _ h) ?_ ?_ ?_
  · exact ⟨rfl, rfl, rfl, trivial⟩
  · exact ⟨mem_at 0 rfl, trivial⟩
  · rfl
/- ref01_Trains -/
def ev_ref01_Trains_l1 (n : Nat) (i9 : Int) (k_ref01_Trains_l0 : Int → Int → Int → (List ((List Int) × (List Int))) → (List ((List Int))) → (List ((List Int))) → Option ((List ((List Int) × (List Int))))) : Nat → Int → Int → Int → (List ((List Int) × (List Int))) → (List ((List Int))) → (List ((List Int))) → Option ((List ((List Int) × (List Int))))
  | 0, _, _, _, _, _, _ => none
  | m + 1, i15, i16, i17, l18, l19, l20 => cond (decide (i15 < (l20.length : Int))) (idx l19 i9 fun x21 => (ev_ref01_Product n x21).bind fun r22 => idx l20 i15 fun x23 => (ev_ref01_Product n x23).bind fun r24 => (ev_ref01_Lowest n r22 r24).bind fun r25 => cond ((r25.1 == i16) && (r25.2 == i17)) (chk (room 48 (l18.length + ([(x21, x23)] : List ((List Int) × (List Int))).length)) <| chk (in64 (i15 + 1)) <| ev_ref01_Trains_l1 n i9 k_ref01_Trains_l0 m (i15 + 1) i16 i17 (l18 ++ ([(x21, x23)] : List ((List Int) × (List Int)))) l19 l20) (chk (in64 (i15 + 1)) <| ev_ref01_Trains_l1 n i9 k_ref01_Trains_l0 m (i15 + 1) i16 i17 l18 l19 l20)) (chk (in64 (i9 + 1)) <| k_ref01_Trains_l0 (i9 + 1) i16 i17 l18 l19 l20)
set_option maxRecDepth 100000 in
set_option maxHeartbeats 2000000 in
theorem ok_ref01_Trains_l1 {n : Nat} {w0 : World} {R0 : Nat → Prop} {env0 : Env} {r : (List ((List Int) × (List Int)))} {i9 : Int} {k_ref01_Trains_l0 : Int → Int → Int → (List ((List Int) × (List Int))) → (List ((List Int))) → (List ((List Int))) → Option ((List ((List Int) × (List Int))))} (hk_ref01_Trains_l0 : ∀ (i9 : Int) (i10 : Int) (i11 : Int) (l12 : List ((List Int) × (List Int))) (l13 : List ((List Int))) (l14 : List ((List Int))), k_ref01_Trains_l0 i9 i10 i11 l12 l13 l14 = some r → TC Try.prog ⟨w0, fun _ => False, R0⟩ 64 (bodyPost Try.prog Try.f61 (Post ⟨w0, fun _ => False, R0⟩ env0 (.ref 0) [.row 0 57 2 (List.map en_api_Train r)])) [.code (sub (bodyOf Try.f61) [1, 1, 1, 0, 1, 0, 0, 0, 0]), .code (sub (bodyOf Try.f61) [1, 1, 1, 0, 1, 0, 0, 0, 1]), .code (sub (bodyOf Try.f61) [1, 1, 1, 0, 1, 0, 0, 1]), .inLoop (sub (bodyOf Try.f61) [1, 1, 1, 0, 1, 0, 0]), .inBlock 0, .code (sub (bodyOf Try.f61) [1, 1, 1, 1])] ([(4, .ptr 3 0), (7, .ref 4), (8, .ref 5), (9, .ref 6), (10, .val (.int .i64 i9))]) ([.blk 3 [.val (.int .i64 i10), .val (.int .i64 i11)] 26, .row 4 57 2 (List.map en_api_Train l12), .row 5 38 1 (List.map en_Lint l13), .row 6 38 1 (List.map en_Lint l14)])) : ∀ (m : Nat) (i15 : Int) (i16 : Int) (i17 : Int) (l18 : List ((List Int) × (List Int))) (l19 : List ((List Int))) (l20 : List ((List Int))), ev_ref01_Trains_l1 n i9 k_ref01_Trains_l0 m i15 i16 i17 l18 l19 l20 = some r → TC Try.prog ⟨w0, fun _ => False, R0⟩ 64 (bodyPost Try.prog Try.f61 (Post ⟨w0, fun _ => False, R0⟩ env0 (.ref 0) [.row 0 57 2 (List.map en_api_Train r)])) [.code (sub (bodyOf Try.f61) [1, 1, 1, 0, 1, 0, 0, 1, 0, 0, 1, 0, 0, 0, 0]), .code (sub (bodyOf Try.f61) [1, 1, 1, 0, 1, 0, 0, 1, 0, 0, 1, 0, 0, 0, 1]), .code (sub (bodyOf Try.f61) [1, 1, 1, 0, 1, 0, 0, 1, 0, 0, 1, 0, 0, 1]), .inLoop (sub (bodyOf Try.f61) [1, 1, 1, 0, 1, 0, 0, 1, 0, 0, 1, 0, 0]), .inBlock 2, .inBlock 1, .code (sub (bodyOf Try.f61) [1, 1, 1, 0, 1, 0, 0, 1, 1]), .inLoop (sub (bodyOf Try.f61) [1, 1, 1, 0, 1, 0, 0]), .inBlock 0, .code (sub (bodyOf Try.f61) [1, 1, 1, 1])] ([(4, .ptr 3 0), (7, .ref 4), (8, .ref 5), (9, .ref 6), (10, .val (.int .i64 i9)), (11, .val (.int .i64 i15))]) ([.blk 3 [.val (.int .i64 i16), .val (.int .i64 i17)] 26, .row 4 57 2 (List.map en_api_Train l18), .row 5 38 1 (List.map en_Lint l19), .row 6 38 1 (List.map en_Lint l20)]) := by
  intro m
  induction m with
  | zero => intro i15 i16 i17 l18 l19 l20 h; exact none_no h
  | succ m ih =>
    intro i15 i16 i17 l18 l19 l20 h
    rw [ev_ref01_Trains_l1] at h
    refine TC.region ?_
    refine op0 (sp_move rfl rfl) rfl trivial rfl rfl ?_
    refine op0 (sp_move rfl rfl) rfl trivial rfl rfl ?_
    refine op1 3 rfl (sp_lenM (N := l20.length) (len_map _ _) rfl rfl isOwn Try.underlying109) rfl trivial rfl rfl ?_
    refine op0 (sp_lss rfl rfl rfl) rfl trivial rfl rfl ?_
    refine TL.nil ?_
    refine TC.cond (b := (decide (i15 < (l20.length : Int)))) rfl (fun h5 => ?_) (fun h5 => ?_)
    · have h := cond_t h h5
      refine TC.skip ?_
      refine TC.seq ?_
      refine TC.block ?_
      refine TC.seq ?_
      obtain ⟨x21, h6, h7, h⟩ := idx_inv h
      obtain ⟨r22, h8, h⟩ := bind_inv h
      obtain ⟨x23, h9, h10, h⟩ := idx_inv h
      obtain ⟨r24, h11, h⟩ := bind_inv h
      obtain ⟨r25, h12, h⟩ := bind_inv h
      refine drawJ 12 [⟨.ref 5, [], [], []⟩, ⟨.val (.int .i64 i9), [], [], []⟩, ⟨.cell 5 ((i9 : Int).toNat * 1), [], [.row 5 38 1 (List.map en_Lint l19)], []⟩, ⟨.ref 7, [.ro 7 1 (List.map en_int x21)], [.row 5 38 1 (List.map en_Lint l19)], []⟩, ⟨.val (.int .i64 r22), [], [.ro 7 1 (List.map en_int x21)], []⟩, ⟨.ref 6, [], [], []⟩, ⟨.val (.int .i64 i15), [], [], []⟩, ⟨.cell 6 ((i15 : Int).toNat * 1), [], [.row 6 38 1 (List.map en_Lint l20)], []⟩, ⟨.ref 8, [.ro 8 1 (List.map en_int x23)], [.row 6 38 1 (List.map en_Lint l20)], []⟩, ⟨.val (.int .i64 r24), [], [.ro 8 1 (List.map en_int x23)], []⟩, ⟨.agg [.val (.int .i64 r25.1), .val (.int .i64 r25.2)], [], [], []⟩, ⟨.agg [.val (.int .i64 i16), .val (.int .i64 i17)], [], [.blk 3 [.val (.int .i64 i16), .val (.int .i64 i17)] 26], []⟩] rfl ?_ rfl ?_ rfl ?_ ?_
      · kernel_rfl
      · kernel_rfl
      · exact DAll.op' (sp_move rfl rfl) trivial rfl (From.ok (ps := []) trivial) (DAll.op' (sp_move rfl rfl) trivial rfl (From.ok (ps := []) trivial) (DAll.op' (sp_indexS rfl rfl rfl isOwn sl109 h6 (map_get _ h7)) trivial rfl (From.ok (ps := [(none, 2)]) ⟨⟨rfl, rfl⟩, trivial⟩) (DAll.op' (sp_loadR (i := (i9 : Int).toNat) (j := 0) (ns := [.ro 7 1 (List.map en_int x21)]) rfl rfl isOwn vt38 rfl (map_get _ h7) rfl (.s (.nil)) (nodup_of_B rfl)) trivial rfl (From.ok (ps := [(none, 2)]) ⟨⟨rfl, rfl⟩, trivial⟩) (DAll.op' (sp_call (avs := [.ref 7]) (need := [.ro 7 1 (List.map en_int x21)]) (v := .val (.int .i64 r22)) (news := []) rfl rfl rfl Try.call77 (atJ [(0, 7)] [] (fc_ref01_Product h8) rfl rfl) (.inl (roAll rfl))) trivial rfl (From.ok (ps := [(some 3, 0)]) ⟨⟨_, rfl, rfl, rfl, rfl⟩, trivial⟩) (DAll.op' (sp_move rfl rfl) trivial rfl (From.ok (ps := []) trivial) (DAll.op' (sp_move rfl rfl) trivial rfl (From.ok (ps := []) trivial) (DAll.op' (sp_indexS rfl rfl rfl isOwn sl109 h9 (map_get _ h10)) trivial rfl (From.ok (ps := [(none, 3)]) ⟨⟨rfl, rfl⟩, trivial⟩) (DAll.op' (sp_loadR (i := (i15 : Int).toNat) (j := 0) (ns := [.ro 8 1 (List.map en_int x23)]) rfl rfl isOwn vt38 rfl (map_get _ h10) rfl (.s (.nil)) (nodup_of_B rfl)) trivial rfl (From.ok (ps := [(none, 3)]) ⟨⟨rfl, rfl⟩, trivial⟩) (DAll.op' (sp_call (avs := [.ref 8]) (need := [.ro 8 1 (List.map en_int x23)]) (v := .val (.int .i64 r24)) (news := []) rfl rfl rfl Try.call77 (atJ [(0, 8)] [] (fc_ref01_Product h11) rfl rfl) (.inl (roAll rfl))) trivial rfl (From.ok (ps := [(some 8, 0)]) ⟨⟨_, rfl, rfl, rfl, rfl⟩, trivial⟩) (DAll.op' (sp_call (avs := [.val (.int .i64 r22), .val (.int .i64 r24)]) (need := []) (v := .agg [.val (.int .i64 r25.1), .val (.int .i64 r25.2)]) (news := []) rfl rfl rfl Try.call25 (atJ [] [] (fc_ref01_Lowest h12) rfl rfl) (.inl (roAll rfl))) trivial rfl (From.ok (ps := []) trivial) (DAll.op' (sp_loadBA rfl isBlk rfl vt26 rfl rfl) trivial rfl (From.ok (ps := [(none, 0)]) ⟨⟨rfl, rfl⟩, trivial⟩) (.nil))))))))))))
      refine op0 (sp_eqlS rfl rfl rfl rfl rfl (eq26 _ _ _ _)) rfl trivial rfl rfl ?_
      refine TL.nil ?_
      refine TC.cond (b := ((r25.1 == i16) && (r25.2 == i17))) rfl (fun h13 => ?_) (fun h13 => ?_)
      · have h := cond_t h h13
        refine drawJ 11 [⟨.ref 4, [], [], []⟩, ⟨.ref 5, [], [], []⟩, ⟨.val (.int .i64 i9), [], [], []⟩, ⟨.cell 5 ((i9 : Int).toNat * 1), [], [.row 5 38 1 (List.map en_Lint l19)], []⟩, ⟨.ref 9, [.ro 9 1 (List.map en_int x21)], [.row 5 38 1 (List.map en_Lint l19)], []⟩, ⟨.ref 6, [], [], []⟩, ⟨.val (.int .i64 i15), [], [], []⟩, ⟨.cell 6 ((i15 : Int).toNat * 1), [], [.row 6 38 1 (List.map en_Lint l20)], []⟩, ⟨.ref 10, [.ro 10 1 (List.map en_int x23)], [.row 6 38 1 (List.map en_Lint l20)], []⟩, ⟨.agg [.ref 9, .ref 10], [], [], []⟩, ⟨.ref 11, [.row 11 57 2 (List.map en_api_Train ([(x21, x23)] : List ((List Int) × (List Int))))], [.ro 9 1 (List.map en_int x21), .ro 10 1 (List.map en_int x23)], []⟩] rfl ?_ rfl ?_ rfl ?_ ?_
        · kernel_rfl
        · kernel_rfl
        · exact DAll.op' (sp_move rfl rfl) trivial rfl (From.ok (ps := []) trivial) (DAll.op' (sp_move rfl rfl) trivial rfl (From.ok (ps := []) trivial) (DAll.op' (sp_move rfl rfl) trivial rfl (From.ok (ps := []) trivial) (DAll.op' (sp_indexS rfl rfl rfl isOwn sl109 h6 (map_get _ h7)) trivial rfl (From.ok (ps := [(none, 4)]) ⟨⟨rfl, rfl⟩, trivial⟩) (DAll.op' (sp_loadR (i := (i9 : Int).toNat) (j := 0) (ns := [.ro 9 1 (List.map en_int x21)]) rfl rfl isOwn vt38 rfl (map_get _ h7) rfl (.s (.nil)) (nodup_of_B rfl)) trivial rfl (From.ok (ps := [(none, 4)]) ⟨⟨rfl, rfl⟩, trivial⟩) (DAll.op' (sp_move rfl rfl) trivial rfl (From.ok (ps := []) trivial) (DAll.op' (sp_move rfl rfl) trivial rfl (From.ok (ps := []) trivial) (DAll.op' (sp_indexS rfl rfl rfl isOwn sl109 h9 (map_get _ h10)) trivial rfl (From.ok (ps := [(none, 5)]) ⟨⟨rfl, rfl⟩, trivial⟩) (DAll.op' (sp_loadR (i := (i15 : Int).toNat) (j := 0) (ns := [.ro 10 1 (List.map en_int x23)]) rfl rfl isOwn vt38 rfl (map_get _ h10) rfl (.s (.nil)) (nodup_of_B rfl)) trivial rfl (From.ok (ps := [(none, 5)]) ⟨⟨rfl, rfl⟩, trivial⟩) (DAll.op' (sp_build (qs := [(0, .ref 9), (1, .ref 10)]) rfl bt57 rfl rfl rfl rfl) trivial rfl (From.ok (ps := []) trivial) (DAll.op' (sp_buildSlice (qs := [.agg [.ref 9, .ref 10]]) (need := [.ro 9 1 (List.map en_int x21), .ro 10 1 (List.map en_int x23)]) (els := List.map en_api_Train ([(x21, x23)] : List ((List Int) × (List Int)))) 11 rfl sl52 (by decide) (by decide) rfl rfl rfl (.s (mem_at 0 rfl) (.s (mem_at 1 rfl) (.nil))) (map_len fun _ => rfl) rfl rfl rfl) trivial rfl (From.ok (ps := [(some 4, 0), (some 8, 0)]) ⟨⟨_, rfl, rfl, rfl, rfl⟩, ⟨_, rfl, rfl, rfl, rfl⟩, trivial⟩) (.nil)))))))))))
        obtain ⟨h14, h⟩ := chk_inv h
        refine appM 6 0 (N := l18.length) (N2 := ([(x21, x23)] : List ((List Int) × (List Int))).length) 12 rfl rfl trivial rfl rfl rfl rfl rfl isOwn rfl sl52 (len_map _ _) (len_map _ _) h14 (map_app _ _ _) rfl ?_
        refine op0 (sp_assign rfl rfl) rfl trivial rfl rfl ?_
        refine TL.nil ?_
        refine TC.inBlock ?_
        refine TC.region ?_
        refine op0 (sp_move rfl rfl) rfl trivial rfl rfl ?_
        obtain ⟨h15, h⟩ := chk_inv h
        refine op0 (sp_add rfl rfl rfl h15) rfl trivial rfl rfl ?_
        refine op0 (sp_assign rfl rfl) rfl trivial rfl rfl ?_
        refine TL.nil ?_
        refine TC.inLoop ?_
        refine TC.seq ?_
        refine TC.seq ?_
        refine subJ [(4, 12)] (ih _ _ _ _ _ _ h) ?_ ?_ ?_
        · exact ⟨rfl, rfl, rfl, rfl, rfl, rfl, trivial⟩
        · exact ⟨mem_at 6 rfl, mem_at 0 rfl, mem_at 7 rfl, mem_at 8 rfl, trivial⟩
        · rfl
      · have h := cond_f h h13
        refine TC.skip ?_
        refine TC.inBlock ?_
        refine TC.region ?_
        refine op0 (sp_move rfl rfl) rfl trivial rfl rfl ?_
        obtain ⟨h16, h⟩ := chk_inv h
        refine op0 (sp_add rfl rfl rfl h16) rfl trivial rfl rfl ?_
        refine op0 (sp_assign rfl rfl) rfl trivial rfl rfl ?_
        refine TL.nil ?_
        refine TC.inLoop ?_
        refine TC.seq ?_
        refine TC.seq ?_
        refine subJ [] (ih _ _ _ _ _ _ h) ?_ ?_ ?_
        · exact ⟨rfl, rfl, rfl, rfl, rfl, rfl, trivial⟩
        · exact ⟨mem_at 2 rfl, mem_at 3 rfl, mem_at 4 rfl, mem_at 5 rfl, trivial⟩
        · rfl
    · have h := cond_f h h5
      refine TC.exit rfl ?_
      refine TC.inBlock ?_
      refine TC.region ?_
      refine op0 (sp_move rfl rfl) rfl trivial rfl rfl ?_
      obtain ⟨h17, h⟩ := chk_inv h
      refine op0 (sp_add rfl rfl rfl h17) rfl trivial rfl rfl ?_
      refine op0 (sp_assign rfl rfl) rfl trivial rfl rfl ?_
      refine TL.nil ?_
      refine TC.inLoop ?_
      refine TC.seq ?_
      refine TC.seq ?_
      refine subJ [] (hk_ref01_Trains_l0 _ _ _ _ _ _ h) ?_ ?_ ?_
      · exact ⟨rfl, rfl, rfl, rfl, rfl, trivial⟩
      · exact ⟨mem_at 0 rfl, mem_at 1 rfl, mem_at 2 rfl, mem_at 3 rfl, trivial⟩
      · rfl
def ev_ref01_Trains_l0 (n : Nat) : Nat → Int → Int → Int → (List ((List Int) × (List Int))) → (List ((List Int))) → (List ((List Int))) → Option ((List ((List Int) × (List Int))))
  | 0, _, _, _, _, _, _ => none
  | m + 1, i9, i10, i11, l12, l13, l14 => cond (decide (i9 < (l13.length : Int))) (ev_ref01_Trains_l1 n i9 (fun i9q i10q i11q l12q l13q l14q => ev_ref01_Trains_l0 n m i9q i10q i11q l12q l13q l14q) n 0 i10 i11 l12 l13 l14) (some l12)
set_option maxRecDepth 100000 in
set_option maxHeartbeats 2000000 in
theorem ok_ref01_Trains_l0 {n : Nat} {w0 : World} {R0 : Nat → Prop} {env0 : Env} {r : (List ((List Int) × (List Int)))} : ∀ (m : Nat) (i9 : Int) (i10 : Int) (i11 : Int) (l12 : List ((List Int) × (List Int))) (l13 : List ((List Int))) (l14 : List ((List Int))), ev_ref01_Trains_l0 n m i9 i10 i11 l12 l13 l14 = some r → TC Try.prog ⟨w0, fun _ => False, R0⟩ 64 (bodyPost Try.prog Try.f61 (Post ⟨w0, fun _ => False, R0⟩ env0 (.ref 0) [.row 0 57 2 (List.map en_api_Train r)])) [.code (sub (bodyOf Try.f61) [1, 1, 1, 0, 1, 0, 0, 0, 0]), .code (sub (bodyOf Try.f61) [1, 1, 1, 0, 1, 0, 0, 0, 1]), .code (sub (bodyOf Try.f61) [1, 1, 1, 0, 1, 0, 0, 1]), .inLoop (sub (bodyOf Try.f61) [1, 1, 1, 0, 1, 0, 0]), .inBlock 0, .code (sub (bodyOf Try.f61) [1, 1, 1, 1])] ([(4, .ptr 3 0), (7, .ref 4), (8, .ref 5), (9, .ref 6), (10, .val (.int .i64 i9))]) ([.blk 3 [.val (.int .i64 i10), .val (.int .i64 i11)] 26, .row 4 57 2 (List.map en_api_Train l12), .row 5 38 1 (List.map en_Lint l13), .row 6 38 1 (List.map en_Lint l14)]) := by
  intro m
  induction m with
  | zero => intro i9 i10 i11 l12 l13 l14 h; exact none_no h
  | succ m ih =>
    intro i9 i10 i11 l12 l13 l14 h
    rw [ev_ref01_Trains_l0] at h
    refine TC.region ?_
    refine op0 (sp_move rfl rfl) rfl trivial rfl rfl ?_
    refine op0 (sp_move rfl rfl) rfl trivial rfl rfl ?_
    refine op1 2 rfl (sp_lenM (N := l13.length) (len_map _ _) rfl rfl isOwn Try.underlying109) rfl trivial rfl rfl ?_
    refine op0 (sp_lss rfl rfl rfl) rfl trivial rfl rfl ?_
    refine TL.nil ?_
    refine TC.cond (b := (decide (i9 < (l13.length : Int)))) rfl (fun h4 => ?_) (fun h4 => ?_)
    · have h := cond_t h h4
      refine TC.skip ?_
      refine TC.seq ?_
      refine TC.block ?_
      refine TC.seq ?_
      refine TC.region ?_
      refine op0 (sp_assign rfl rfl) rfl trivial rfl rfl ?_
      refine TL.nil ?_
      refine TC.block ?_
      refine TC.loop ?_
      refine TC.seq ?_
      refine TC.seq ?_
      refine subJ [] (ok_ref01_Trains_l1 ih _ _ _ _ _ _ _ h) ?_ ?_ ?_
      · exact ⟨rfl, rfl, rfl, rfl, rfl, rfl, trivial⟩
      · exact ⟨mem_at 0 rfl, mem_at 1 rfl, mem_at 2 rfl, mem_at 3 rfl, trivial⟩
      · rfl
    · have h := cond_f h h4
      refine TC.exit rfl ?_
      refine TC.seq ?_
      refine TC.region ?_
      refine op0 (sp_move rfl rfl) rfl trivial rfl rfl ?_
      refine op0 (sp_assign rfl rfl) rfl trivial rfl rfl ?_
      refine TL.nil ?_
      cases h
      exact retJ [(0, 4)] (.tmp rfl .nil) rfl ⟨mem_at 1 rfl, trivial⟩ rfl rfl
def ev_ref01_Trains (n : Nat) (s1 : List Int) (s2 : List Int) (want3 : Int) (want4 : Int) (pairs5 : Int) : Option ((List ((List Int) × (List Int)))) :=
  (ev_ref01_Lists n s1 pairs5).bind fun r6 => (ev_ref01_Lists n s2 pairs5).bind fun r7 => (ev_ref01_Lowest n want3 want4).bind fun r8 => ev_ref01_Trains_l0 n n 0 r8.1 r8.2 ([] : List ((List Int) × (List Int))) r6 r7
set_option maxRecDepth 100000 in
set_option maxHeartbeats 2000000 in
theorem fc_ref01_Trains {n : Nat} {s1 : List Int} {s2 : List Int} {want3 : Int} {want4 : Int} {pairs5 : Int} {r : (List ((List Int) × (List Int)))} (h : ev_ref01_Trains n s1 s2 want3 want4 pairs5 = some r) : FC Try.prog 61 [.agg [.ref 0, .ref 1], .agg [.val (.int .i64 want3), .val (.int .i64 want4)], .val (.int .i64 pairs5)] [.ro 0 1 (List.map en_int s1), .ro 1 1 (List.map en_int s2)] (.ref 0) [.row 0 57 2 (List.map en_api_Train r)] := by
  refine introJ (nz := 64) Try.func61 rfl rfl rfl (fun w0 R0 env0 => ?_)
  rw [ev_ref01_Trains] at h
  refine TC.seq ?_
  refine TC.region ?_
  refine op0 (sp_box 2 rfl rfl rfl rfl rfl) rfl trivial rfl rfl ?_
  refine op0 (sp_box 3 rfl rfl rfl rfl rfl) rfl trivial rfl rfl ?_
  refine op0 (sp_assign rfl rfl) rfl trivial rfl rfl ?_
  refine TL.nil ?_
  refine TC.seq ?_
  obtain ⟨r6, h1, h⟩ := bind_inv h
  obtain ⟨r7, h2, h⟩ := bind_inv h
  refine drawJ 9 [⟨.ref 4, [.row 4 57 2 (List.map en_api_Train ([] : List ((List Int) × (List Int))))], [], []⟩, ⟨.ptr 2 0, [], [.blk 2 [.ref 0, .ref 1] 40], []⟩, ⟨.ref 0, [], [.blk 2 [.ref 0, .ref 1] 40], []⟩, ⟨.val (.int .i64 pairs5), [], [], []⟩, ⟨.ref 5, [.row 5 38 1 (List.map en_Lint r6)], [.ro 0 1 (List.map en_int s1)], []⟩, ⟨.ptr 2 1, [], [.blk 2 [.ref 0, .ref 1] 40], []⟩, ⟨.ref 1, [], [.blk 2 [.ref 0, .ref 1] 40], []⟩, ⟨.val (.int .i64 pairs5), [], [], []⟩, ⟨.ref 6, [.row 6 38 1 (List.map en_Lint r7)], [.ro 1 1 (List.map en_int s2)], []⟩] rfl ?_ rfl ?_ rfl ?_ ?_
  · kernel_rfl
  · kernel_rfl
  · exact DAll.op' (sp_emptyM 4 (List.map en_api_Train []) rfl rfl sl52) trivial rfl (From.ok (ps := []) trivial) (DAll.op' (sp_fieldAddrB rfl isBlk rfl ft40_0 vt38 (by decide)) trivial rfl (From.ok (ps := [(none, 1)]) ⟨⟨rfl, rfl⟩, trivial⟩) (DAll.op' (sp_loadB rfl isBlk rfl vt38 rfl) trivial rfl (From.ok (ps := [(none, 1)]) ⟨⟨rfl, rfl⟩, trivial⟩) (DAll.op' (sp_move rfl rfl) trivial rfl (From.ok (ps := []) trivial) (DAll.op' (sp_call (avs := [.ref 0, .val (.int .i64 pairs5)]) (need := [.ro 0 1 (List.map en_int s1)]) (v := .ref 5) (news := [.row 5 38 1 (List.map en_Lint r6)]) rfl rfl rfl Try.call64 (atJ [] [(0, 5)] (fc_ref01_Lists h1) rfl rfl) (.inl (roAll rfl))) trivial rfl (From.ok (ps := [(none, 2)]) ⟨⟨rfl, rfl⟩, trivial⟩) (DAll.op' (sp_fieldAddrB rfl isBlk rfl ft40_1 vt38 (by decide)) trivial rfl (From.ok (ps := [(none, 1)]) ⟨⟨rfl, rfl⟩, trivial⟩) (DAll.op' (sp_loadB rfl isBlk rfl vt38 rfl) trivial rfl (From.ok (ps := [(none, 1)]) ⟨⟨rfl, rfl⟩, trivial⟩) (DAll.op' (sp_move rfl rfl) trivial rfl (From.ok (ps := []) trivial) (DAll.op' (sp_call (avs := [.ref 1, .val (.int .i64 pairs5)]) (need := [.ro 1 1 (List.map en_int s2)]) (v := .ref 6) (news := [.row 6 38 1 (List.map en_Lint r7)]) rfl rfl rfl Try.call64 (atJ [(0, 1)] [(0, 6)] (fc_ref01_Lists h2) rfl rfl) (.inl (roAll rfl))) trivial rfl (From.ok (ps := [(none, 3)]) ⟨⟨rfl, rfl⟩, trivial⟩) (.nil)))))))))
  refine op0 (sp_assign rfl rfl) rfl trivial rfl rfl ?_
  refine op0 (sp_assign rfl rfl) rfl trivial rfl rfl ?_
  refine op0 (sp_assign rfl rfl) rfl trivial rfl rfl ?_
  refine TL.nil ?_
  refine TC.seq ?_
  refine TC.region ?_
  refine op1 3 rfl (sp_fieldAddrB rfl isBlk rfl ft26_0 vt3 (by decide)) rfl trivial rfl rfl ?_
  refine op1 3 rfl (sp_loadB rfl isBlk rfl vt3 rfl) rfl trivial rfl rfl ?_
  refine op1 3 rfl (sp_fieldAddrB rfl isBlk rfl ft26_1 vt3 (by decide)) rfl trivial rfl rfl ?_
  refine op1 3 rfl (sp_loadB rfl isBlk rfl vt3 rfl) rfl trivial rfl rfl ?_
  obtain ⟨r8, h3, h⟩ := bind_inv h
  refine op0 (sp_call (avs := [.val (.int .i64 want3), .val (.int .i64 want4)]) (need := []) (v := .agg [.val (.int .i64 r8.1), .val (.int .i64 r8.2)]) (news := []) rfl rfl rfl Try.call25 (atJ [] [] (fc_ref01_Lowest h3) rfl rfl) (.inl (roAll rfl))) rfl trivial rfl rfl ?_
  refine stoB 3 (cells' := [.val (.int .i64 r8.1), .val (.int .i64 r8.2)]) rfl rfl trivial rfl rfl rfl rfl vt26 rfl rfl rfl ?_
  refine TL.nil ?_
  refine TC.seq ?_
  refine TC.seq ?_
  refine TC.region ?_
  refine op0 (sp_assign rfl rfl) rfl trivial rfl rfl ?_
  refine TL.nil ?_
  refine TC.block ?_
  refine TC.loop ?_
  refine TC.seq ?_
  refine TC.seq ?_
  refine subJ [] (ok_ref01_Trains_l0 _ _ _ _ _ _ _ h) ?_ ?_ ?_
  · exact ⟨rfl, rfl, rfl, rfl, rfl, trivial⟩
  · exact ⟨mem_at 3 rfl, mem_at 2 rfl, mem_at 1 rfl, mem_at 0 rfl, trivial⟩
  · rfl
/- ref01_Fewest -/
def ev_ref01_Fewest_l0 (n : Nat) (s1 : List Int) (s2 : List Int) (want3 : Int) (want4 : Int) : Nat → Int → Option ((List ((List Int) × (List Int))))
  | 0, _ => none
  | m + 1, i5 => cond (decide (i5 ≤ 4)) ((ev_ref01_Trains n s1 s2 want3 want4 i5).bind fun r6 => cond (decide ((0 : Int) < (r6.length : Int))) (some r6) (chk (in64 (i5 + 1)) <| ev_ref01_Fewest_l0 n s1 s2 want3 want4 m (i5 + 1))) (some ([] : List ((List Int) × (List Int))))
set_option maxRecDepth 100000 in
set_option maxHeartbeats 2000000 in
theorem ok_ref01_Fewest_l0 {n : Nat} {w0 : World} {R0 : Nat → Prop} {env0 : Env} {r : (List ((List Int) × (List Int)))} {want3 : Int} {want4 : Int} {s1 : List Int} {s2 : List Int} : ∀ (m : Nat) (i5 : Int), ev_ref01_Fewest_l0 n s1 s2 want3 want4 m i5 = some r → TC Try.prog ⟨w0, fun _ => False, R0⟩ 19 (bodyPost Try.prog Try.f30 (Post ⟨w0, fun _ => False, R0⟩ env0 (.ref 0) [.row 0 57 2 (List.map en_api_Train r)])) [.code (sub (bodyOf Try.f30) [1, 0, 1, 0, 0, 0, 0]), .code (sub (bodyOf Try.f30) [1, 0, 1, 0, 0, 0, 1]), .code (sub (bodyOf Try.f30) [1, 0, 1, 0, 0, 1]), .inLoop (sub (bodyOf Try.f30) [1, 0, 1, 0, 0]), .inBlock 0, .code (sub (bodyOf Try.f30) [1, 1])] ([(2, .ptr 2 0), (3, .ptr 3 0), (5, .val (.int .i64 i5))]) ([.blk 2 [.ref 0, .ref 1] 40, .blk 3 [.val (.int .i64 want3), .val (.int .i64 want4)] 26, .ro 0 1 (List.map en_int s1), .ro 1 1 (List.map en_int s2)]) := by
  intro m
  induction m with
  | zero => intro i5 h; exact none_no h
  | succ m ih =>
    intro i5 h
    rw [ev_ref01_Fewest_l0] at h
    refine TC.region ?_
    refine op0 (sp_move rfl rfl) rfl trivial rfl rfl ?_
    refine op0 (sp_leq rfl rfl rfl) rfl trivial rfl rfl ?_
    refine TL.nil ?_
    refine TC.cond (b := (decide (i5 ≤ 4))) rfl (fun h1 => ?_) (fun h1 => ?_)
    · have h := cond_t h h1
      refine TC.skip ?_
      refine TC.seq ?_
      refine TC.block ?_
      refine TC.seq ?_
      refine TC.region ?_
      refine op1 0 rfl (sp_loadBA rfl isBlk rfl vt40 rfl rfl) rfl trivial rfl rfl ?_
      refine op1 1 rfl (sp_loadBA rfl isBlk rfl vt26 rfl rfl) rfl trivial rfl rfl ?_
      refine op0 (sp_move rfl rfl) rfl trivial rfl rfl ?_
      obtain ⟨r6, h2, h⟩ := bind_inv h
      refine opN (need := [.ro 0 1 (List.map en_int s1), .ro 1 1 (List.map en_int s2)]) [2, 3] ⟨rfl, rfl, trivial⟩ (sp_call (avs := [.agg [.ref 0, .ref 1], .agg [.val (.int .i64 want3), .val (.int .i64 want4)], .val (.int .i64 i5)]) (need := [.ro 0 1 (List.map en_int s1), .ro 1 1 (List.map en_int s2)]) (v := .ref 4) (news := [.row 4 57 2 (List.map en_api_Train r6)]) rfl rfl rfl Try.call61 (atJ [] [(0, 4)] (fc_ref01_Trains h2) rfl rfl) (.inl (roAll rfl))) rfl trivial rfl rfl ?_
      refine op0 (sp_assign rfl rfl) rfl trivial rfl rfl ?_
      refine TL.nil ?_
      refine TC.seq ?_
      refine TC.region ?_
      refine op0 (sp_move rfl rfl) rfl trivial rfl rfl ?_
      refine op1 0 rfl (sp_lenM (N := r6.length) (len_map _ _) rfl rfl isOwn Try.underlying52) rfl trivial rfl rfl ?_
      refine op0 (sp_gtr rfl rfl rfl) rfl trivial rfl rfl ?_
      refine TL.nil ?_
      refine TC.cond (b := (decide ((0 : Int) < (r6.length : Int)))) rfl (fun h3 => ?_) (fun h3 => ?_)
      · have h := cond_t h h3
        refine TC.seq ?_
        refine TC.region ?_
        refine op0 (sp_move rfl rfl) rfl trivial rfl rfl ?_
        refine op0 (sp_assign rfl rfl) rfl trivial rfl rfl ?_
        refine TL.nil ?_
        cases h
        exact retJ [(0, 4)] (.tmp rfl .nil) rfl ⟨mem_at 0 rfl, trivial⟩ rfl rfl
      · have h := cond_f h h3
        refine TC.skip ?_
        refine TC.inBlock ?_
        refine TC.region ?_
        refine op0 (sp_move rfl rfl) rfl trivial rfl rfl ?_
        obtain ⟨h4, h⟩ := chk_inv h
        refine op0 (sp_add rfl rfl rfl h4) rfl trivial rfl rfl ?_
        refine op0 (sp_assign rfl rfl) rfl trivial rfl rfl ?_
        refine TL.nil ?_
        refine TC.inLoop ?_
        refine TC.seq ?_
        refine TC.seq ?_
        refine subJ [] (ih _ h) ?_ ?_ ?_
        · exact ⟨rfl, rfl, rfl, trivial⟩
        · exact ⟨mem_at 1 rfl, mem_at 2 rfl, mem_at 3 rfl, mem_at 4 rfl, trivial⟩
        · rfl
    · have h := cond_f h h1
      refine TC.exit rfl ?_
      refine TC.seq ?_
      refine TC.region ?_
      refine op0 (sp_assign rfl rfl) rfl trivial rfl rfl ?_
      refine TL.nil ?_
      refine nilRowC 4 5 57 2 (List.map en_api_Train []) rfl rfl rfl ?_
      cases h
      exact retJ [(0, 5)] (.tmp rfl .nil) rfl ⟨mem_at 0 rfl, trivial⟩ rfl rfl
def ev_ref01_Fewest (n : Nat) (s1 : List Int) (s2 : List Int) (want3 : Int) (want4 : Int) : Option ((List ((List Int) × (List Int)))) :=
  ev_ref01_Fewest_l0 n s1 s2 want3 want4 n 1
set_option maxRecDepth 100000 in
set_option maxHeartbeats 2000000 in
theorem fc_ref01_Fewest {n : Nat} {s1 : List Int} {s2 : List Int} {want3 : Int} {want4 : Int} {r : (List ((List Int) × (List Int)))} (h : ev_ref01_Fewest n s1 s2 want3 want4 = some r) : FC Try.prog 30 [.agg [.ref 0, .ref 1], .agg [.val (.int .i64 want3), .val (.int .i64 want4)]] [.ro 0 1 (List.map en_int s1), .ro 1 1 (List.map en_int s2)] (.ref 0) [.row 0 57 2 (List.map en_api_Train r)] := by
  refine introJ (nz := 19) Try.func30 rfl rfl rfl (fun w0 R0 env0 => ?_)
  rw [ev_ref01_Fewest] at h
  refine TC.seq ?_
  refine TC.region ?_
  refine op0 (sp_box 2 rfl rfl rfl rfl rfl) rfl trivial rfl rfl ?_
  refine op0 (sp_box 3 rfl rfl rfl rfl rfl) rfl trivial rfl rfl ?_
  refine op0 (sp_assign rfl rfl) rfl trivial rfl rfl ?_
  refine TL.nil ?_
  refine TC.seq ?_
  refine TC.seq ?_
  refine TC.region ?_
  refine op0 (sp_assign rfl rfl) rfl trivial rfl rfl ?_
  refine TL.nil ?_
  refine TC.block ?_
  refine TC.loop ?_
  refine TC.seq ?_
  refine TC.seq ?_
  refine subJ [] (ok_ref01_Fewest_l0 _ _ h) ?_ ?_ ?_
  · exact ⟨rfl, rfl, rfl, trivial⟩
  · exact ⟨mem_at 1 rfl, mem_at 0 rfl, mem_at 2 rfl, mem_at 3 rfl, trivial⟩
  · rfl
/- ref01_Off -/
def ev_ref01_Off (n : Nat) (t1 : List Int) (t2 : List Int) (want3 : Int) (want4 : Int) : Option (Int × Int) :=
  (ev_ref01_Product n t1).bind fun r5 => chk (in64 (r5 * want4)) <| (ev_ref01_Product n t2).bind fun r6 => chk (in64 (r6 * want3)) <| chk (in64 ((r5 * want4) - (r6 * want3))) <| chk (in64 (0 - ((r5 * want4) - (r6 * want3)))) <| (ev_ref01_Product n t2).bind fun r7 => chk (in64 (r7 * want4)) <| some ((max ((r5 * want4) - (r6 * want3)) (0 - ((r5 * want4) - (r6 * want3)))), (r7 * want4))
set_option maxRecDepth 100000 in
set_option maxHeartbeats 2000000 in
theorem fc_ref01_Off {n : Nat} {t1 : List Int} {t2 : List Int} {want3 : Int} {want4 : Int} {r : Int × Int} (h : ev_ref01_Off n t1 t2 want3 want4 = some r) : FC Try.prog 80 [.agg [.ref 0, .ref 1], .agg [.val (.int .i64 want3), .val (.int .i64 want4)]] [.ro 0 1 (List.map en_int t1), .ro 1 1 (List.map en_int t2)] (.tup [.val (.int .i64 r.1), .val (.int .i64 r.2)]) [] := by
  refine introJ (nz := 30) Try.func80 rfl rfl rfl (fun w0 R0 env0 => ?_)
  rw [ev_ref01_Off] at h
  refine TC.seq ?_
  refine TC.region ?_
  refine op0 (sp_box 2 rfl rfl rfl rfl rfl) rfl trivial rfl rfl ?_
  refine op0 (sp_box 3 rfl rfl rfl rfl rfl) rfl trivial rfl rfl ?_
  refine op0 (sp_assign rfl rfl) rfl trivial rfl rfl ?_
  refine op0 (sp_assign rfl rfl) rfl trivial rfl rfl ?_
  refine TL.nil ?_
  refine TC.seq ?_
  obtain ⟨r5, h1, h⟩ := bind_inv h
  obtain ⟨h2, h⟩ := chk_inv h
  obtain ⟨r6, h3, h⟩ := bind_inv h
  obtain ⟨h4, h⟩ := chk_inv h
  refine drawJ 12 [⟨.ptr 2 0, [], [.blk 2 [.ref 0, .ref 1] 57], []⟩, ⟨.ref 0, [], [.blk 2 [.ref 0, .ref 1] 57], []⟩, ⟨.val (.int .i64 r5), [], [.ro 0 1 (List.map en_int t1)], []⟩, ⟨.ptr 3 1, [], [.blk 3 [.val (.int .i64 want3), .val (.int .i64 want4)] 26], []⟩, ⟨.val (.int .i64 want4), [], [.blk 3 [.val (.int .i64 want3), .val (.int .i64 want4)] 26], []⟩, ⟨.val (.int .i64 (r5 * want4)), [], [], []⟩, ⟨.ptr 2 1, [], [.blk 2 [.ref 0, .ref 1] 57], []⟩, ⟨.ref 1, [], [.blk 2 [.ref 0, .ref 1] 57], []⟩, ⟨.val (.int .i64 r6), [], [.ro 1 1 (List.map en_int t2)], []⟩, ⟨.ptr 3 0, [], [.blk 3 [.val (.int .i64 want3), .val (.int .i64 want4)] 26], []⟩, ⟨.val (.int .i64 want3), [], [.blk 3 [.val (.int .i64 want3), .val (.int .i64 want4)] 26], []⟩, ⟨.val (.int .i64 (r6 * want3)), [], [], []⟩] rfl ?_ rfl ?_ rfl ?_ ?_
  · kernel_rfl
  · kernel_rfl
  · exact DAll.op' (sp_fieldAddrB rfl isBlk rfl ft57_0 vt38 (by decide)) trivial rfl (From.ok (ps := [(none, 1)]) ⟨⟨rfl, rfl⟩, trivial⟩) (DAll.op' (sp_loadB rfl isBlk rfl vt38 rfl) trivial rfl (From.ok (ps := [(none, 1)]) ⟨⟨rfl, rfl⟩, trivial⟩) (DAll.op' (sp_call (avs := [.ref 0]) (need := [.ro 0 1 (List.map en_int t1)]) (v := .val (.int .i64 r5)) (news := []) rfl rfl rfl Try.call77 (atJ [] [] (fc_ref01_Product h1) rfl rfl) (.inl (roAll rfl))) trivial rfl (From.ok (ps := [(none, 2)]) ⟨⟨rfl, rfl⟩, trivial⟩) (DAll.op' (sp_fieldAddrB rfl isBlk rfl ft26_1 vt3 (by decide)) trivial rfl (From.ok (ps := [(none, 0)]) ⟨⟨rfl, rfl⟩, trivial⟩) (DAll.op' (sp_loadB rfl isBlk rfl vt3 rfl) trivial rfl (From.ok (ps := [(none, 0)]) ⟨⟨rfl, rfl⟩, trivial⟩) (DAll.op' (sp_mul rfl rfl rfl h2) trivial rfl (From.ok (ps := []) trivial) (DAll.op' (sp_fieldAddrB rfl isBlk rfl ft57_1 vt38 (by decide)) trivial rfl (From.ok (ps := [(none, 1)]) ⟨⟨rfl, rfl⟩, trivial⟩) (DAll.op' (sp_loadB rfl isBlk rfl vt38 rfl) trivial rfl (From.ok (ps := [(none, 1)]) ⟨⟨rfl, rfl⟩, trivial⟩) (DAll.op' (sp_call (avs := [.ref 1]) (need := [.ro 1 1 (List.map en_int t2)]) (v := .val (.int .i64 r6)) (news := []) rfl rfl rfl Try.call77 (atJ [(0, 1)] [] (fc_ref01_Product h3) rfl rfl) (.inl (roAll rfl))) trivial rfl (From.ok (ps := [(none, 3)]) ⟨⟨rfl, rfl⟩, trivial⟩) (DAll.op' (sp_fieldAddrB rfl isBlk rfl ft26_0 vt3 (by decide)) trivial rfl (From.ok (ps := [(none, 0)]) ⟨⟨rfl, rfl⟩, trivial⟩) (DAll.op' (sp_loadB rfl isBlk rfl vt3 rfl) trivial rfl (From.ok (ps := [(none, 0)]) ⟨⟨rfl, rfl⟩, trivial⟩) (DAll.op' (sp_mul rfl rfl rfl h4) trivial rfl (From.ok (ps := []) trivial) (.nil))))))))))))
  obtain ⟨h5, h⟩ := chk_inv h
  refine op0 (sp_sub rfl rfl rfl h5) rfl trivial rfl rfl ?_
  refine op0 (sp_assign rfl rfl) rfl trivial rfl rfl ?_
  refine TL.nil ?_
  refine TC.seq ?_
  obtain ⟨h6, h⟩ := chk_inv h
  obtain ⟨r7, h7, h⟩ := bind_inv h
  obtain ⟨h8, h⟩ := chk_inv h
  refine drawJ 11 [⟨.val (.int .i64 ((r5 * want4) - (r6 * want3))), [], [], []⟩, ⟨.val (.int .i64 ((r5 * want4) - (r6 * want3))), [], [], []⟩, ⟨.val (.int .i64 (0 - ((r5 * want4) - (r6 * want3)))), [], [], []⟩, ⟨.val (.int .i64 (max ((r5 * want4) - (r6 * want3)) (0 - ((r5 * want4) - (r6 * want3))))), [], [], []⟩, ⟨.ptr 2 1, [], [.blk 2 [.ref 0, .ref 1] 57], []⟩, ⟨.ref 1, [], [.blk 2 [.ref 0, .ref 1] 57], []⟩, ⟨.val (.int .i64 r7), [], [.ro 1 1 (List.map en_int t2)], []⟩, ⟨.ptr 3 1, [], [.blk 3 [.val (.int .i64 want3), .val (.int .i64 want4)] 26], []⟩, ⟨.val (.int .i64 want4), [], [.blk 3 [.val (.int .i64 want3), .val (.int .i64 want4)] 26], []⟩, ⟨.val (.int .i64 (r7 * want4)), [], [], []⟩, ⟨.val (.int .i64 (max ((r5 * want4) - (r6 * want3)) (0 - ((r5 * want4) - (r6 * want3))))), [], [], []⟩] rfl ?_ rfl ?_ rfl ?_ ?_
  · kernel_rfl
  · kernel_rfl
  · exact DAll.op' (sp_move rfl rfl) trivial rfl (From.ok (ps := []) trivial) (DAll.op' (sp_move rfl rfl) trivial rfl (From.ok (ps := []) trivial) (DAll.op' (sp_neg rfl rfl h6) trivial rfl (From.ok (ps := []) trivial) (DAll.op' (sp_max rfl rfl rfl) trivial rfl (From.ok (ps := []) trivial) (DAll.op' (sp_fieldAddrB rfl isBlk rfl ft57_1 vt38 (by decide)) trivial rfl (From.ok (ps := [(none, 1)]) ⟨⟨rfl, rfl⟩, trivial⟩) (DAll.op' (sp_loadB rfl isBlk rfl vt38 rfl) trivial rfl (From.ok (ps := [(none, 1)]) ⟨⟨rfl, rfl⟩, trivial⟩) (DAll.op' (sp_call (avs := [.ref 1]) (need := [.ro 1 1 (List.map en_int t2)]) (v := .val (.int .i64 r7)) (news := []) rfl rfl rfl Try.call77 (atJ [(0, 1)] [] (fc_ref01_Product h7) rfl rfl) (.inl (roAll rfl))) trivial rfl (From.ok (ps := [(none, 3)]) ⟨⟨rfl, rfl⟩, trivial⟩) (DAll.op' (sp_fieldAddrB rfl isBlk rfl ft26_1 vt3 (by decide)) trivial rfl (From.ok (ps := [(none, 0)]) ⟨⟨rfl, rfl⟩, trivial⟩) (DAll.op' (sp_loadB rfl isBlk rfl vt3 rfl) trivial rfl (From.ok (ps := [(none, 0)]) ⟨⟨rfl, rfl⟩, trivial⟩) (DAll.op' (sp_mul rfl rfl rfl h8) trivial rfl (From.ok (ps := []) trivial) (DAll.op' (sp_assign rfl rfl) trivial rfl (From.ok (ps := []) trivial) (.nil)))))))))))
  refine op0 (sp_assign rfl rfl) rfl trivial rfl rfl ?_
  refine TL.nil ?_
  cases h
  exact retJ [] (.tmp rfl (.tmp rfl .nil)) rfl trivial rfl rfl
/- ref01_Nearer -/
def ev_ref01_Nearer (n : Nat) (a1 : List Int) (a2 : List Int) (b3 : List Int) (b4 : List Int) (want5 : Int) (want6 : Int) : Option Bool :=
  (ev_ref01_Off n a1 a2 want5 want6).bind fun r7 => (ev_ref01_Off n b3 b4 want5 want6).bind fun r8 => (ev_ref01_Product n b4).bind fun r9 => chk (in64 (r7.1 * r9)) <| (ev_ref01_Product n a2).bind fun r10 => chk (in64 (r8.1 * r10)) <| some (decide ((r7.1 * r9) < (r8.1 * r10)))
set_option maxRecDepth 100000 in
set_option maxHeartbeats 2000000 in
theorem fc_ref01_Nearer {n : Nat} {a1 : List Int} {a2 : List Int} {b3 : List Int} {b4 : List Int} {want5 : Int} {want6 : Int} {r : Bool} (h : ev_ref01_Nearer n a1 a2 b3 b4 want5 want6 = some r) : FC Try.prog 65 [.agg [.ref 0, .ref 1], .agg [.ref 2, .ref 3], .agg [.val (.int .i64 want5), .val (.int .i64 want6)]] [.ro 0 1 (List.map en_int a1), .ro 1 1 (List.map en_int a2), .ro 2 1 (List.map en_int b3), .ro 3 1 (List.map en_int b4)] (.val (.bool r)) [] := by
  refine introJ (nz := 34) Try.func65 rfl rfl rfl (fun w0 R0 env0 => ?_)
  rw [ev_ref01_Nearer] at h
  refine TC.seq ?_
  refine TC.region ?_
  refine op0 (sp_box 4 rfl rfl rfl rfl rfl) rfl trivial rfl rfl ?_
  refine op0 (sp_box 5 rfl rfl rfl rfl rfl) rfl trivial rfl rfl ?_
  refine op0 (sp_box 6 rfl rfl rfl rfl rfl) rfl trivial rfl rfl ?_
  refine op0 (sp_assign rfl rfl) rfl trivial rfl rfl ?_
  refine TL.nil ?_
  refine TC.seq ?_
  refine TC.region ?_
  refine op1 2 rfl (sp_loadBA rfl isBlk rfl vt57 rfl rfl) rfl trivial rfl rfl ?_
  refine op1 0 rfl (sp_loadBA rfl isBlk rfl vt26 rfl rfl) rfl trivial rfl rfl ?_
  obtain ⟨r7, h1, h⟩ := bind_inv h
  refine opN (need := [.ro 0 1 (List.map en_int a1), .ro 1 1 (List.map en_int a2)]) [3, 4] ⟨rfl, rfl, trivial⟩ (sp_call (avs := [.agg [.ref 0, .ref 1], .agg [.val (.int .i64 want5), .val (.int .i64 want6)]]) (need := [.ro 0 1 (List.map en_int a1), .ro 1 1 (List.map en_int a2)]) (v := .tup [.val (.int .i64 r7.1), .val (.int .i64 r7.2)]) (news := []) rfl rfl rfl Try.call80 (atJ [] [] (fc_ref01_Off h1) rfl rfl) (.inl (roAll rfl))) rfl trivial rfl rfl ?_
  refine op0 (sp_move rfl rfl) rfl trivial rfl rfl ?_
  refine op0 (sp_extract rfl rfl rfl) rfl trivial rfl rfl ?_
  refine op0 (sp_extract rfl rfl rfl) rfl trivial rfl rfl ?_
  refine op0 (sp_assign rfl rfl) rfl trivial rfl rfl ?_
  refine op0 (sp_assign rfl rfl) rfl trivial rfl rfl ?_
  refine TL.nil ?_
  refine TC.seq ?_
  refine TC.region ?_
  refine op1 1 rfl (sp_loadBA rfl isBlk rfl vt57 rfl rfl) rfl trivial rfl rfl ?_
  refine op1 0 rfl (sp_loadBA rfl isBlk rfl vt26 rfl rfl) rfl trivial rfl rfl ?_
  obtain ⟨r8, h2, h⟩ := bind_inv h
  refine opN (need := [.ro 2 1 (List.map en_int b3), .ro 3 1 (List.map en_int b4)]) [5, 6] ⟨rfl, rfl, trivial⟩ (sp_call (avs := [.agg [.ref 2, .ref 3], .agg [.val (.int .i64 want5), .val (.int .i64 want6)]]) (need := [.ro 2 1 (List.map en_int b3), .ro 3 1 (List.map en_int b4)]) (v := .tup [.val (.int .i64 r8.1), .val (.int .i64 r8.2)]) (news := []) rfl rfl rfl Try.call80 (atJ [(0, 2), (1, 3)] [] (fc_ref01_Off h2) rfl rfl) (.inl (roAll rfl))) rfl trivial rfl rfl ?_
  refine op0 (sp_move rfl rfl) rfl trivial rfl rfl ?_
  refine op0 (sp_extract rfl rfl rfl) rfl trivial rfl rfl ?_
  refine op0 (sp_extract rfl rfl rfl) rfl trivial rfl rfl ?_
  refine op0 (sp_assign rfl rfl) rfl trivial rfl rfl ?_
  refine op0 (sp_assign rfl rfl) rfl trivial rfl rfl ?_
  refine TL.nil ?_
  refine TC.seq ?_
  obtain ⟨r9, h3, h⟩ := bind_inv h
  obtain ⟨h4, h⟩ := chk_inv h
  obtain ⟨r10, h5, h⟩ := bind_inv h
  obtain ⟨h6, h⟩ := chk_inv h
  refine drawJ 10 [⟨.val (.int .i64 r7.1), [], [], []⟩, ⟨.ptr 5 1, [], [.blk 5 [.ref 2, .ref 3] 57], []⟩, ⟨.ref 3, [], [.blk 5 [.ref 2, .ref 3] 57], []⟩, ⟨.val (.int .i64 r9), [], [.ro 3 1 (List.map en_int b4)], []⟩, ⟨.val (.int .i64 (r7.1 * r9)), [], [], []⟩, ⟨.val (.int .i64 r8.1), [], [], []⟩, ⟨.ptr 4 1, [], [.blk 4 [.ref 0, .ref 1] 57], []⟩, ⟨.ref 1, [], [.blk 4 [.ref 0, .ref 1] 57], []⟩, ⟨.val (.int .i64 r10), [], [.ro 1 1 (List.map en_int a2)], []⟩, ⟨.val (.int .i64 (r8.1 * r10)), [], [], []⟩] rfl ?_ rfl ?_ rfl ?_ ?_
  · kernel_rfl
  · kernel_rfl
  · exact DAll.op' (sp_move rfl rfl) trivial rfl (From.ok (ps := []) trivial) (DAll.op' (sp_fieldAddrB rfl isBlk rfl ft57_1 vt38 (by decide)) trivial rfl (From.ok (ps := [(none, 1)]) ⟨⟨rfl, rfl⟩, trivial⟩) (DAll.op' (sp_loadB rfl isBlk rfl vt38 rfl) trivial rfl (From.ok (ps := [(none, 1)]) ⟨⟨rfl, rfl⟩, trivial⟩) (DAll.op' (sp_call (avs := [.ref 3]) (need := [.ro 3 1 (List.map en_int b4)]) (v := .val (.int .i64 r9)) (news := []) rfl rfl rfl Try.call77 (atJ [(0, 3)] [] (fc_ref01_Product h3) rfl rfl) (.inl (roAll rfl))) trivial rfl (From.ok (ps := [(none, 6)]) ⟨⟨rfl, rfl⟩, trivial⟩) (DAll.op' (sp_mul rfl rfl rfl h4) trivial rfl (From.ok (ps := []) trivial) (DAll.op' (sp_move rfl rfl) trivial rfl (From.ok (ps := []) trivial) (DAll.op' (sp_fieldAddrB rfl isBlk rfl ft57_1 vt38 (by decide)) trivial rfl (From.ok (ps := [(none, 2)]) ⟨⟨rfl, rfl⟩, trivial⟩) (DAll.op' (sp_loadB rfl isBlk rfl vt38 rfl) trivial rfl (From.ok (ps := [(none, 2)]) ⟨⟨rfl, rfl⟩, trivial⟩) (DAll.op' (sp_call (avs := [.ref 1]) (need := [.ro 1 1 (List.map en_int a2)]) (v := .val (.int .i64 r10)) (news := []) rfl rfl rfl Try.call77 (atJ [(0, 1)] [] (fc_ref01_Product h5) rfl rfl) (.inl (roAll rfl))) trivial rfl (From.ok (ps := [(none, 4)]) ⟨⟨rfl, rfl⟩, trivial⟩) (DAll.op' (sp_mul rfl rfl rfl h6) trivial rfl (From.ok (ps := []) trivial) (.nil))))))))))
  refine op0 (sp_lss rfl rfl rfl) rfl trivial rfl rfl ?_
  refine op0 (sp_assign rfl rfl) rfl trivial rfl rfl ?_
  refine TL.nil ?_
  cases h
  exact retJ [] (.tmp rfl .nil) rfl trivial rfl rfl
/- ref01_Near -/
def ev_ref01_Near_l2 (n : Nat) (i18 : Int) (k_ref01_Near_l1 : Int → Int → Int → (List ((List Int))) → (List ((List Int))) → (List Int) → (List Int) → (List Int) → (List Int) → (List Int) → (List Int) → Option ((List Int) × (List Int))) : Nat → Int → Int → Int → (List ((List Int))) → (List ((List Int))) → (List Int) → (List Int) → (List Int) → (List Int) → (List Int) → (List Int) → Option ((List Int) × (List Int))
  | 0, _, _, _, _, _, _, _, _, _, _, _ => none
  | m + 1, i29, i30, i31, l32, l33, l34, l35, l36, l37, l38, l39 => cond (decide (i29 < (l33.length : Int))) (idx l32 i18 fun x40 => idx l33 i29 fun x41 => cond ((l38.length : Int) == 0) (chk (in64 (i29 + 1)) <| ev_ref01_Near_l2 n i18 k_ref01_Near_l1 m (i29 + 1) i30 i31 l32 l33 l34 l35 l36 l37 x40 x41) ((ev_ref01_Nearer n x40 x41 l38 l39 i30 i31).bind fun r42 => cond r42 (chk (in64 (i29 + 1)) <| ev_ref01_Near_l2 n i18 k_ref01_Near_l1 m (i29 + 1) i30 i31 l32 l33 l34 l35 l36 l37 x40 x41) (chk (in64 (i29 + 1)) <| ev_ref01_Near_l2 n i18 k_ref01_Near_l1 m (i29 + 1) i30 i31 l32 l33 l34 l35 l36 l37 l38 l39))) (chk (in64 (i18 + 1)) <| k_ref01_Near_l1 (i18 + 1) i30 i31 l32 l33 l34 l35 l36 l37 l38 l39)
set_option maxRecDepth 100000 in
set_option maxHeartbeats 2000000 in
theorem ok_ref01_Near_l2 {n : Nat} {w0 : World} {R0 : Nat → Prop} {env0 : Env} {r : (List Int) × (List Int)} {most5 : Int} {i7 : Int} {i18 : Int} {k_ref01_Near_l1 : Int → Int → Int → (List ((List Int))) → (List ((List Int))) → (List Int) → (List Int) → (List Int) → (List Int) → (List Int) → (List Int) → Option ((List Int) × (List Int))} (hk_ref01_Near_l1 : ∀ (i18 : Int) (i19 : Int) (i20 : Int) (l21 : List ((List Int))) (l22 : List ((List Int))) (l23 : List Int) (l24 : List Int) (l25 : List Int) (l26 : List Int) (l27 : List Int) (l28 : List Int), k_ref01_Near_l1 i18 i19 i20 l21 l22 l23 l24 l25 l26 l27 l28 = some r → TC Try.prog ⟨w0, fun _ => False, R0⟩ 66 (bodyPost Try.prog Try.f33 (Post ⟨w0, fun _ => False, R0⟩ env0 (.agg [.ref 0, .ref 1]) [.ro 0 1 (List.map en_int r.1), .ro 1 1 (List.map en_int r.2)])) [.code (sub (bodyOf Try.f33) [1, 1, 1, 0, 1, 0, 0, 1, 0, 0, 1, 1, 0, 0, 0, 0]), .code (sub (bodyOf Try.f33) [1, 1, 1, 0, 1, 0, 0, 1, 0, 0, 1, 1, 0, 0, 0, 1]), .code (sub (bodyOf Try.f33) [1, 1, 1, 0, 1, 0, 0, 1, 0, 0, 1, 1, 0, 0, 1]), .inLoop (sub (bodyOf Try.f33) [1, 1, 1, 0, 1, 0, 0, 1, 0, 0, 1, 1, 0, 0]), .inBlock 2, .inBlock 1, .code (sub (bodyOf Try.f33) [1, 1, 1, 0, 1, 0, 0, 1, 1]), .inLoop (sub (bodyOf Try.f33) [1, 1, 1, 0, 1, 0, 0]), .inBlock 0, .code (sub (bodyOf Try.f33) [1, 1, 1, 1])] ([(2, .val (.int .i64 most5)), (3, .ptr 2 0), (4, .ptr 3 0), (6, .ptr 4 0), (7, .ptr 5 0), (8, .val (.int .i64 i7)), (9, .ref 10), (10, .ref 11), (11, .val (.int .i64 i18))]) ([.blk 2 [.ref 0, .ref 1] 40, .blk 3 [.val (.int .i64 i19), .val (.int .i64 i20)] 26, .blk 4 [.ref 6, .ref 7] 57, .blk 5 [.ref 8, .ref 9] 57, .row 10 38 1 (List.map en_Lint l21), .row 11 38 1 (List.map en_Lint l22), .ro 0 1 (List.map en_int l23), .ro 1 1 (List.map en_int l24), .row 6 3 1 (List.map en_int l25), .row 7 3 1 (List.map en_int l26), .ro 8 1 (List.map en_int l27), .ro 9 1 (List.map en_int l28)])) : ∀ (m : Nat) (i29 : Int) (i30 : Int) (i31 : Int) (l32 : List ((List Int))) (l33 : List ((List Int))) (l34 : List Int) (l35 : List Int) (l36 : List Int) (l37 : List Int) (l38 : List Int) (l39 : List Int), ev_ref01_Near_l2 n i18 k_ref01_Near_l1 m i29 i30 i31 l32 l33 l34 l35 l36 l37 l38 l39 = some r → TC Try.prog ⟨w0, fun _ => False, R0⟩ 66 (bodyPost Try.prog Try.f33 (Post ⟨w0, fun _ => False, R0⟩ env0 (.agg [.ref 0, .ref 1]) [.ro 0 1 (List.map en_int r.1), .ro 1 1 (List.map en_int r.2)])) [.code (sub (bodyOf Try.f33) [1, 1, 1, 0, 1, 0, 0, 1, 0, 0, 1, 1, 0, 0, 1, 0, 0, 1, 0, 0, 0, 0]), .code (sub (bodyOf Try.f33) [1, 1, 1, 0, 1, 0, 0, 1, 0, 0, 1, 1, 0, 0, 1, 0, 0, 1, 0, 0, 0, 1]), .code (sub (bodyOf Try.f33) [1, 1, 1, 0, 1, 0, 0, 1, 0, 0, 1, 1, 0, 0, 1, 0, 0, 1, 0, 0, 1]), .inLoop (sub (bodyOf Try.f33) [1, 1, 1, 0, 1, 0, 0, 1, 0, 0, 1, 1, 0, 0, 1, 0, 0, 1, 0, 0]), .inBlock 4, .inBlock 3, .code (sub (bodyOf Try.f33) [1, 1, 1, 0, 1, 0, 0, 1, 0, 0, 1, 1, 0, 0, 1, 1]), .inLoop (sub (bodyOf Try.f33) [1, 1, 1, 0, 1, 0, 0, 1, 0, 0, 1, 1, 0, 0]), .inBlock 2, .inBlock 1, .code (sub (bodyOf Try.f33) [1, 1, 1, 0, 1, 0, 0, 1, 1]), .inLoop (sub (bodyOf Try.f33) [1, 1, 1, 0, 1, 0, 0]), .inBlock 0, .code (sub (bodyOf Try.f33) [1, 1, 1, 1])] ([(2, .val (.int .i64 most5)), (3, .ptr 2 0), (4, .ptr 3 0), (6, .ptr 4 0), (7, .ptr 5 0), (8, .val (.int .i64 i7)), (9, .ref 10), (10, .ref 11), (11, .val (.int .i64 i18)), (12, .val (.int .i64 i29))]) ([.blk 2 [.ref 0, .ref 1] 40, .blk 3 [.val (.int .i64 i30), .val (.int .i64 i31)] 26, .blk 4 [.ref 6, .ref 7] 57, .blk 5 [.ref 8, .ref 9] 57, .row 10 38 1 (List.map en_Lint l32), .row 11 38 1 (List.map en_Lint l33), .ro 0 1 (List.map en_int l34), .ro 1 1 (List.map en_int l35), .row 6 3 1 (List.map en_int l36), .row 7 3 1 (List.map en_int l37), .ro 8 1 (List.map en_int l38), .ro 9 1 (List.map en_int l39)]) := by
  intro m
  induction m with
  | zero => intro i29 i30 i31 l32 l33 l34 l35 l36 l37 l38 l39 h; exact none_no h
  | succ m ih =>
    intro i29 i30 i31 l32 l33 l34 l35 l36 l37 l38 l39 h
    rw [ev_ref01_Near_l2] at h
    refine TC.region ?_
    refine op0 (sp_move rfl rfl) rfl trivial rfl rfl ?_
    refine op0 (sp_move rfl rfl) rfl trivial rfl rfl ?_
    refine op1 5 rfl (sp_lenM (N := l33.length) (len_map _ _) rfl rfl isOwn Try.underlying109) rfl trivial rfl rfl ?_
    refine op0 (sp_lss rfl rfl rfl) rfl trivial rfl rfl ?_
    refine TL.nil ?_
    refine TC.cond (b := (decide (i29 < (l33.length : Int)))) rfl (fun h6 => ?_) (fun h6 => ?_)
    · have h := cond_t h h6
      refine TC.skip ?_
      refine TC.seq ?_
      refine TC.block ?_
      refine TC.seq ?_
      obtain ⟨x40, h7, h8, h⟩ := idx_inv h
      obtain ⟨x41, h9, h10, h⟩ := idx_inv h
      refine drawJ 10 [⟨.ref 10, [], [], []⟩, ⟨.val (.int .i64 i18), [], [], []⟩, ⟨.cell 10 ((i18 : Int).toNat * 1), [], [.row 10 38 1 (List.map en_Lint l32)], []⟩, ⟨.ref 12, [.ro 12 1 (List.map en_int x40)], [.row 10 38 1 (List.map en_Lint l32)], []⟩, ⟨.ref 11, [], [], []⟩, ⟨.val (.int .i64 i29), [], [], []⟩, ⟨.cell 11 ((i29 : Int).toNat * 1), [], [.row 11 38 1 (List.map en_Lint l33)], []⟩, ⟨.ref 13, [.ro 13 1 (List.map en_int x41)], [.row 11 38 1 (List.map en_Lint l33)], []⟩, ⟨.agg [.ref 12, .ref 13], [], [], []⟩, ⟨.ptr 14 0, [.blk 14 [.val (.slice none 0 0), .val (.slice none 0 0)] 57], [], []⟩] rfl ?_ rfl ?_ rfl ?_ ?_
      · kernel_rfl
      · kernel_rfl
      · exact DAll.op' (sp_move rfl rfl) trivial rfl (From.ok (ps := []) trivial) (DAll.op' (sp_move rfl rfl) trivial rfl (From.ok (ps := []) trivial) (DAll.op' (sp_indexS rfl rfl rfl isOwn sl109 h7 (map_get _ h8)) trivial rfl (From.ok (ps := [(none, 4)]) ⟨⟨rfl, rfl⟩, trivial⟩) (DAll.op' (sp_loadR (i := (i18 : Int).toNat) (j := 0) (ns := [.ro 12 1 (List.map en_int x40)]) rfl rfl isOwn vt38 rfl (map_get _ h8) rfl (.s (.nil)) (nodup_of_B rfl)) trivial rfl (From.ok (ps := [(none, 4)]) ⟨⟨rfl, rfl⟩, trivial⟩) (DAll.op' (sp_move rfl rfl) trivial rfl (From.ok (ps := []) trivial) (DAll.op' (sp_move rfl rfl) trivial rfl (From.ok (ps := []) trivial) (DAll.op' (sp_indexS rfl rfl rfl isOwn sl109 h9 (map_get _ h10)) trivial rfl (From.ok (ps := [(none, 5)]) ⟨⟨rfl, rfl⟩, trivial⟩) (DAll.op' (sp_loadR (i := (i29 : Int).toNat) (j := 0) (ns := [.ro 13 1 (List.map en_int x41)]) rfl rfl isOwn vt38 rfl (map_get _ h10) rfl (.s (.nil)) (nodup_of_B rfl)) trivial rfl (From.ok (ps := [(none, 5)]) ⟨⟨rfl, rfl⟩, trivial⟩) (DAll.op' (sp_build (qs := [(0, .ref 12), (1, .ref 13)]) rfl bt57 rfl rfl rfl rfl) trivial rfl (From.ok (ps := []) trivial) (DAll.op' (sp_alloc 14 rfl Try.zeroValue57 rfl) trivial rfl (From.ok (ps := []) trivial) (.nil))))))))))
      refine stoB 0 (cells' := [.ref 12, .ref 13]) rfl rfl trivial rfl rfl rfl rfl vt57 rfl rfl rfl ?_
      refine TL.nil ?_
      refine TC.seq ?_
      refine TC.region ?_
      refine op1 6 rfl (sp_fieldAddrB rfl isBlk rfl ft57_0 vt38 (by decide)) rfl trivial rfl rfl ?_
      refine op1 6 rfl (sp_loadB rfl isBlk rfl vt38 rfl) rfl trivial rfl rfl ?_
      refine op1 13 rfl (sp_lenM (N := l38.length) (len_map _ _) rfl rfl isRo Try.underlying38) rfl trivial rfl rfl ?_
      refine op0 (sp_eql rfl rfl rfl) rfl trivial rfl rfl ?_
      refine op0 (sp_move rfl rfl) rfl trivial rfl rfl ?_
      rcases cond_cases h with ⟨h11, h⟩ | ⟨h11, h⟩
      · refine (boolLit 58 rfl h11).2 ?_
        refine opSkip rfl ⟨_, rfl, .inl rfl⟩ rfl ?_
        refine opSkip rfl ⟨_, rfl, .inl rfl⟩ rfl ?_
        refine opSkip rfl ⟨_, rfl, .inl rfl⟩ rfl ?_
        refine opSkip rfl ⟨_, rfl, .inl rfl⟩ rfl ?_
        refine op0 (sp_pickT rfl rfl rfl) rfl trivial rfl rfl ?_
        refine TL.nil ?_
        refine TC.condT rfl ?_
        refine TC.region ?_
        refine op1 0 rfl (sp_loadBA rfl isBlk rfl vt57 rfl rfl) rfl trivial rfl rfl ?_
        refine stoB 6 (cells' := [.ref 12, .ref 13]) rfl rfl trivial rfl rfl rfl rfl vt57 rfl rfl rfl ?_
        refine TL.nil ?_
        refine TC.inBlock ?_
        refine TC.region ?_
        refine op0 (sp_move rfl rfl) rfl trivial rfl rfl ?_
        obtain ⟨h12, h⟩ := chk_inv h
        refine op0 (sp_add rfl rfl rfl h12) rfl trivial rfl rfl ?_
        refine op0 (sp_assign rfl rfl) rfl trivial rfl rfl ?_
        refine TL.nil ?_
        refine TC.inLoop ?_
        refine TC.seq ?_
        refine TC.seq ?_
        refine subJ [(8, 12), (9, 13)] (ih _ _ _ _ _ _ _ _ _ _ _ h) ?_ ?_ ?_
        · exact ⟨rfl, rfl, rfl, rfl, rfl, rfl, rfl, rfl, rfl, rfl, trivial⟩
        · exact ⟨mem_at 3 rfl, mem_at 4 rfl, mem_at 5 rfl, mem_at 6 rfl, mem_at 7 rfl, mem_at 8 rfl, mem_at 9 rfl, mem_at 10 rfl, mem_at 11 rfl, mem_at 12 rfl, mem_at 2 rfl, mem_at 1 rfl, trivial⟩
        · rfl
      · refine (boolLit 58 rfl h11).2 ?_
        refine op1 0 rfl (sp_loadBA rfl isBlk rfl vt57 rfl rfl) rfl ⟨_, rfl, rfl⟩ rfl rfl ?_
        refine op1 6 rfl (sp_loadBA rfl isBlk rfl vt57 rfl rfl) rfl ⟨_, rfl, rfl⟩ rfl rfl ?_
        refine op1 4 rfl (sp_loadBA rfl isBlk rfl vt26 rfl rfl) rfl ⟨_, rfl, rfl⟩ rfl rfl ?_
        obtain ⟨r42, h13, h⟩ := bind_inv h
        refine opN (need := [.ro 12 1 (List.map en_int x40), .ro 13 1 (List.map en_int x41), .ro 8 1 (List.map en_int l38), .ro 9 1 (List.map en_int l39)]) [2, 1, 13, 14] ⟨rfl, rfl, rfl, rfl, trivial⟩ (sp_call (avs := [.agg [.ref 12, .ref 13], .agg [.ref 8, .ref 9], .agg [.val (.int .i64 i30), .val (.int .i64 i31)]]) (need := [.ro 12 1 (List.map en_int x40), .ro 13 1 (List.map en_int x41), .ro 8 1 (List.map en_int l38), .ro 9 1 (List.map en_int l39)]) (v := .val (.bool r42)) (news := []) rfl rfl rfl Try.call65 (atJ [(0, 12), (1, 13), (2, 8), (3, 9)] [] (fc_ref01_Nearer h13) rfl rfl) (.inl (roAll rfl))) rfl ⟨_, rfl, rfl⟩ rfl rfl ?_
        refine op0 (sp_pickF rfl rfl rfl) rfl trivial rfl rfl ?_
        refine TL.nil ?_
        refine TC.cond (b := r42) rfl (fun h14 => ?_) (fun h14 => ?_)
        · have h := cond_t h h14
          refine TC.region ?_
          refine op1 0 rfl (sp_loadBA rfl isBlk rfl vt57 rfl rfl) rfl trivial rfl rfl ?_
          refine stoB 6 (cells' := [.ref 12, .ref 13]) rfl rfl trivial rfl rfl rfl rfl vt57 rfl rfl rfl ?_
          refine TL.nil ?_
          refine TC.inBlock ?_
          refine TC.region ?_
          refine op0 (sp_move rfl rfl) rfl trivial rfl rfl ?_
          obtain ⟨h15, h⟩ := chk_inv h
          refine op0 (sp_add rfl rfl rfl h15) rfl trivial rfl rfl ?_
          refine op0 (sp_assign rfl rfl) rfl trivial rfl rfl ?_
          refine TL.nil ?_
          refine TC.inLoop ?_
          refine TC.seq ?_
          refine TC.seq ?_
          refine subJ [(8, 12), (9, 13)] (ih _ _ _ _ _ _ _ _ _ _ _ h) ?_ ?_ ?_
          · exact ⟨rfl, rfl, rfl, rfl, rfl, rfl, rfl, rfl, rfl, rfl, trivial⟩
          · exact ⟨mem_at 3 rfl, mem_at 4 rfl, mem_at 5 rfl, mem_at 6 rfl, mem_at 7 rfl, mem_at 8 rfl, mem_at 9 rfl, mem_at 10 rfl, mem_at 11 rfl, mem_at 12 rfl, mem_at 2 rfl, mem_at 1 rfl, trivial⟩
          · rfl
        · have h := cond_f h h14
          refine TC.skip ?_
          refine TC.inBlock ?_
          refine TC.region ?_
          refine op0 (sp_move rfl rfl) rfl trivial rfl rfl ?_
          obtain ⟨h16, h⟩ := chk_inv h
          refine op0 (sp_add rfl rfl rfl h16) rfl trivial rfl rfl ?_
          refine op0 (sp_assign rfl rfl) rfl trivial rfl rfl ?_
          refine TL.nil ?_
          refine TC.inLoop ?_
          refine TC.seq ?_
          refine TC.seq ?_
          refine subJ [] (ih _ _ _ _ _ _ _ _ _ _ _ h) ?_ ?_ ?_
          · exact ⟨rfl, rfl, rfl, rfl, rfl, rfl, rfl, rfl, rfl, rfl, trivial⟩
          · exact ⟨mem_at 3 rfl, mem_at 4 rfl, mem_at 5 rfl, mem_at 6 rfl, mem_at 7 rfl, mem_at 8 rfl, mem_at 9 rfl, mem_at 10 rfl, mem_at 11 rfl, mem_at 12 rfl, mem_at 13 rfl, mem_at 14 rfl, trivial⟩
          · rfl
    · have h := cond_f h h6
      refine TC.exit rfl ?_
      refine TC.inBlock ?_
      refine TC.region ?_
      refine op0 (sp_move rfl rfl) rfl trivial rfl rfl ?_
      obtain ⟨h17, h⟩ := chk_inv h
      refine op0 (sp_add rfl rfl rfl h17) rfl trivial rfl rfl ?_
      refine op0 (sp_assign rfl rfl) rfl trivial rfl rfl ?_
      refine TL.nil ?_
      refine TC.inLoop ?_
      refine TC.seq ?_
      refine TC.seq ?_
      refine subJ [] (hk_ref01_Near_l1 _ _ _ _ _ _ _ _ _ _ _ h) ?_ ?_ ?_
      · exact ⟨rfl, rfl, rfl, rfl, rfl, rfl, rfl, rfl, rfl, trivial⟩
      · exact ⟨mem_at 0 rfl, mem_at 1 rfl, mem_at 2 rfl, mem_at 3 rfl, mem_at 4 rfl, mem_at 5 rfl, mem_at 6 rfl, mem_at 7 rfl, mem_at 8 rfl, mem_at 9 rfl, mem_at 10 rfl, mem_at 11 rfl, trivial⟩
      · rfl
def ev_ref01_Near_l1 (n : Nat) (i7 : Int) (k_ref01_Near_l0 : Int → Int → Int → (List Int) → (List Int) → (List Int) → (List Int) → (List Int) → (List Int) → Option ((List Int) × (List Int))) : Nat → Int → Int → Int → (List ((List Int))) → (List ((List Int))) → (List Int) → (List Int) → (List Int) → (List Int) → (List Int) → (List Int) → Option ((List Int) × (List Int))
  | 0, _, _, _, _, _, _, _, _, _, _, _ => none
  | m + 1, i18, i19, i20, l21, l22, l23, l24, l25, l26, l27, l28 => cond (decide (i18 < (l21.length : Int))) (ev_ref01_Near_l2 n i18 (fun i18q i19q i20q l21q l22q l23q l24q l25q l26q l27q l28q => ev_ref01_Near_l1 n i7 k_ref01_Near_l0 m i18q i19q i20q l21q l22q l23q l24q l25q l26q l27q l28q) n 0 i19 i20 l21 l22 l23 l24 l25 l26 l27 l28) (chk (in64 (i7 + 1)) <| k_ref01_Near_l0 (i7 + 1) i19 i20 l25 l26 l27 l28 l23 l24)
set_option maxRecDepth 100000 in
set_option maxHeartbeats 2000000 in
theorem ok_ref01_Near_l1 {n : Nat} {w0 : World} {R0 : Nat → Prop} {env0 : Env} {r : (List Int) × (List Int)} {most5 : Int} {i7 : Int} {k_ref01_Near_l0 : Int → Int → Int → (List Int) → (List Int) → (List Int) → (List Int) → (List Int) → (List Int) → Option ((List Int) × (List Int))} (hk_ref01_Near_l0 : ∀ (i7 : Int) (i8 : Int) (i9 : Int) (l10 : List Int) (l11 : List Int) (l12 : List Int) (l13 : List Int) (l14 : List Int) (l15 : List Int), k_ref01_Near_l0 i7 i8 i9 l10 l11 l12 l13 l14 l15 = some r → TC Try.prog ⟨w0, fun _ => False, R0⟩ 66 (bodyPost Try.prog Try.f33 (Post ⟨w0, fun _ => False, R0⟩ env0 (.agg [.ref 0, .ref 1]) [.ro 0 1 (List.map en_int r.1), .ro 1 1 (List.map en_int r.2)])) [.code (sub (bodyOf Try.f33) [1, 1, 1, 0, 1, 0, 0, 0, 0]), .code (sub (bodyOf Try.f33) [1, 1, 1, 0, 1, 0, 0, 0, 1]), .code (sub (bodyOf Try.f33) [1, 1, 1, 0, 1, 0, 0, 1]), .inLoop (sub (bodyOf Try.f33) [1, 1, 1, 0, 1, 0, 0]), .inBlock 0, .code (sub (bodyOf Try.f33) [1, 1, 1, 1])] ([(2, .val (.int .i64 most5)), (3, .ptr 2 0), (4, .ptr 3 0), (6, .ptr 4 0), (7, .ptr 5 0), (8, .val (.int .i64 i7))]) ([.blk 2 [.ref 0, .ref 1] 40, .blk 3 [.val (.int .i64 i8), .val (.int .i64 i9)] 26, .row 6 3 1 (List.map en_int l10), .row 7 3 1 (List.map en_int l11), .blk 4 [.ref 6, .ref 7] 57, .ro 8 1 (List.map en_int l12), .ro 9 1 (List.map en_int l13), .blk 5 [.ref 8, .ref 9] 57, .ro 0 1 (List.map en_int l14), .ro 1 1 (List.map en_int l15)])) : ∀ (m : Nat) (i18 : Int) (i19 : Int) (i20 : Int) (l21 : List ((List Int))) (l22 : List ((List Int))) (l23 : List Int) (l24 : List Int) (l25 : List Int) (l26 : List Int) (l27 : List Int) (l28 : List Int), ev_ref01_Near_l1 n i7 k_ref01_Near_l0 m i18 i19 i20 l21 l22 l23 l24 l25 l26 l27 l28 = some r → TC Try.prog ⟨w0, fun _ => False, R0⟩ 66 (bodyPost Try.prog Try.f33 (Post ⟨w0, fun _ => False, R0⟩ env0 (.agg [.ref 0, .ref 1]) [.ro 0 1 (List.map en_int r.1), .ro 1 1 (List.map en_int r.2)])) [.code (sub (bodyOf Try.f33) [1, 1, 1, 0, 1, 0, 0, 1, 0, 0, 1, 1, 0, 0, 0, 0]), .code (sub (bodyOf Try.f33) [1, 1, 1, 0, 1, 0, 0, 1, 0, 0, 1, 1, 0, 0, 0, 1]), .code (sub (bodyOf Try.f33) [1, 1, 1, 0, 1, 0, 0, 1, 0, 0, 1, 1, 0, 0, 1]), .inLoop (sub (bodyOf Try.f33) [1, 1, 1, 0, 1, 0, 0, 1, 0, 0, 1, 1, 0, 0]), .inBlock 2, .inBlock 1, .code (sub (bodyOf Try.f33) [1, 1, 1, 0, 1, 0, 0, 1, 1]), .inLoop (sub (bodyOf Try.f33) [1, 1, 1, 0, 1, 0, 0]), .inBlock 0, .code (sub (bodyOf Try.f33) [1, 1, 1, 1])] ([(2, .val (.int .i64 most5)), (3, .ptr 2 0), (4, .ptr 3 0), (6, .ptr 4 0), (7, .ptr 5 0), (8, .val (.int .i64 i7)), (9, .ref 10), (10, .ref 11), (11, .val (.int .i64 i18))]) ([.blk 2 [.ref 0, .ref 1] 40, .blk 3 [.val (.int .i64 i19), .val (.int .i64 i20)] 26, .blk 4 [.ref 6, .ref 7] 57, .blk 5 [.ref 8, .ref 9] 57, .row 10 38 1 (List.map en_Lint l21), .row 11 38 1 (List.map en_Lint l22), .ro 0 1 (List.map en_int l23), .ro 1 1 (List.map en_int l24), .row 6 3 1 (List.map en_int l25), .row 7 3 1 (List.map en_int l26), .ro 8 1 (List.map en_int l27), .ro 9 1 (List.map en_int l28)]) := by
  intro m
  induction m with
  | zero => intro i18 i19 i20 l21 l22 l23 l24 l25 l26 l27 l28 h; exact none_no h
  | succ m ih =>
    intro i18 i19 i20 l21 l22 l23 l24 l25 l26 l27 l28 h
    rw [ev_ref01_Near_l1] at h
    refine TC.region ?_
    refine op0 (sp_move rfl rfl) rfl trivial rfl rfl ?_
    refine op0 (sp_move rfl rfl) rfl trivial rfl rfl ?_
    refine op1 4 rfl (sp_lenM (N := l21.length) (len_map _ _) rfl rfl isOwn Try.underlying109) rfl trivial rfl rfl ?_
    refine op0 (sp_lss rfl rfl rfl) rfl trivial rfl rfl ?_
    refine TL.nil ?_
    refine TC.cond (b := (decide (i18 < (l21.length : Int)))) rfl (fun h5 => ?_) (fun h5 => ?_)
    · have h := cond_t h h5
      refine TC.skip ?_
      refine TC.seq ?_
      refine TC.block ?_
      refine TC.seq ?_
      refine TC.region ?_
      refine op0 (sp_assign rfl rfl) rfl trivial rfl rfl ?_
      refine TL.nil ?_
      refine TC.block ?_
      refine TC.loop ?_
      refine TC.seq ?_
      refine TC.seq ?_
      refine subJ [] (ok_ref01_Near_l2 (most5 := most5) (i7 := i7) ih _ _ _ _ _ _ _ _ _ _ _ _ h) ?_ ?_ ?_
      · exact ⟨rfl, rfl, rfl, rfl, rfl, rfl, rfl, rfl, rfl, rfl, trivial⟩
      · exact ⟨mem_at 0 rfl, mem_at 1 rfl, mem_at 2 rfl, mem_at 3 rfl, mem_at 4 rfl, mem_at 5 rfl, mem_at 6 rfl, mem_at 7 rfl, mem_at 8 rfl, mem_at 9 rfl, mem_at 10 rfl, mem_at 11 rfl, trivial⟩
      · rfl
    · have h := cond_f h h5
      refine TC.exit rfl ?_
      refine TC.inBlock ?_
      refine TC.region ?_
      refine op0 (sp_move rfl rfl) rfl trivial rfl rfl ?_
      obtain ⟨h18, h⟩ := chk_inv h
      refine op0 (sp_add rfl rfl rfl h18) rfl trivial rfl rfl ?_
      refine op0 (sp_assign rfl rfl) rfl trivial rfl rfl ?_
      refine TL.nil ?_
      refine TC.inLoop ?_
      refine TC.seq ?_
      refine TC.seq ?_
      refine subJ [] (hk_ref01_Near_l0 _ _ _ _ _ _ _ _ _ h) ?_ ?_ ?_
      · exact ⟨rfl, rfl, rfl, rfl, rfl, rfl, trivial⟩
      · exact ⟨mem_at 0 rfl, mem_at 1 rfl, mem_at 8 rfl, mem_at 9 rfl, mem_at 2 rfl, mem_at 10 rfl, mem_at 11 rfl, mem_at 3 rfl, mem_at 6 rfl, mem_at 7 rfl, trivial⟩
      · rfl
def ev_ref01_Near_l0 (n : Nat) (most5 : Int) : Nat → Int → Int → Int → (List Int) → (List Int) → (List Int) → (List Int) → (List Int) → (List Int) → Option ((List Int) × (List Int))
  | 0, _, _, _, _, _, _, _, _, _ => none
  | m + 1, i7, i8, i9, l10, l11, l12, l13, l14, l15 => cond (decide (i7 ≤ most5)) ((ev_ref01_Lists n l14 i7).bind fun r16 => (ev_ref01_Lists n l15 i7).bind fun r17 => ev_ref01_Near_l1 n i7 (fun i7q i8q i9q l10q l11q l12q l13q l14q l15q => ev_ref01_Near_l0 n most5 m i7q i8q i9q l10q l11q l12q l13q l14q l15q) n 0 i8 i9 r16 r17 l14 l15 l10 l11 l12 l13) (some (l12, l13))
set_option maxRecDepth 100000 in
set_option maxHeartbeats 2000000 in
theorem ok_ref01_Near_l0 {n : Nat} {w0 : World} {R0 : Nat → Prop} {env0 : Env} {r : (List Int) × (List Int)} {most5 : Int} : ∀ (m : Nat) (i7 : Int) (i8 : Int) (i9 : Int) (l10 : List Int) (l11 : List Int) (l12 : List Int) (l13 : List Int) (l14 : List Int) (l15 : List Int), ev_ref01_Near_l0 n most5 m i7 i8 i9 l10 l11 l12 l13 l14 l15 = some r → TC Try.prog ⟨w0, fun _ => False, R0⟩ 66 (bodyPost Try.prog Try.f33 (Post ⟨w0, fun _ => False, R0⟩ env0 (.agg [.ref 0, .ref 1]) [.ro 0 1 (List.map en_int r.1), .ro 1 1 (List.map en_int r.2)])) [.code (sub (bodyOf Try.f33) [1, 1, 1, 0, 1, 0, 0, 0, 0]), .code (sub (bodyOf Try.f33) [1, 1, 1, 0, 1, 0, 0, 0, 1]), .code (sub (bodyOf Try.f33) [1, 1, 1, 0, 1, 0, 0, 1]), .inLoop (sub (bodyOf Try.f33) [1, 1, 1, 0, 1, 0, 0]), .inBlock 0, .code (sub (bodyOf Try.f33) [1, 1, 1, 1])] ([(2, .val (.int .i64 most5)), (3, .ptr 2 0), (4, .ptr 3 0), (6, .ptr 4 0), (7, .ptr 5 0), (8, .val (.int .i64 i7))]) ([.blk 2 [.ref 0, .ref 1] 40, .blk 3 [.val (.int .i64 i8), .val (.int .i64 i9)] 26, .row 6 3 1 (List.map en_int l10), .row 7 3 1 (List.map en_int l11), .blk 4 [.ref 6, .ref 7] 57, .ro 8 1 (List.map en_int l12), .ro 9 1 (List.map en_int l13), .blk 5 [.ref 8, .ref 9] 57, .ro 0 1 (List.map en_int l14), .ro 1 1 (List.map en_int l15)]) := by
  intro m
  induction m with
  | zero => intro i7 i8 i9 l10 l11 l12 l13 l14 l15 h; exact none_no h
  | succ m ih =>
    intro i7 i8 i9 l10 l11 l12 l13 l14 l15 h
    rw [ev_ref01_Near_l0] at h
    refine TC.region ?_
    refine op0 (sp_move rfl rfl) rfl trivial rfl rfl ?_
    refine op0 (sp_move rfl rfl) rfl trivial rfl rfl ?_
    refine op0 (sp_leq rfl rfl rfl) rfl trivial rfl rfl ?_
    refine TL.nil ?_
    refine TC.cond (b := (decide (i7 ≤ most5))) rfl (fun h2 => ?_) (fun h2 => ?_)
    · have h := cond_t h h2
      refine TC.skip ?_
      refine TC.seq ?_
      refine TC.block ?_
      refine TC.seq ?_
      obtain ⟨r16, h3, h⟩ := bind_inv h
      refine drawJ 7 [⟨.ptr 2 0, [], [.blk 2 [.ref 0, .ref 1] 40], []⟩, ⟨.ref 0, [], [.blk 2 [.ref 0, .ref 1] 40], []⟩, ⟨.val (.int .i64 i7), [], [], []⟩, ⟨.ref 10, [.row 10 38 1 (List.map en_Lint r16)], [.ro 0 1 (List.map en_int l14)], []⟩, ⟨.ptr 2 1, [], [.blk 2 [.ref 0, .ref 1] 40], []⟩, ⟨.ref 1, [], [.blk 2 [.ref 0, .ref 1] 40], []⟩, ⟨.val (.int .i64 i7), [], [], []⟩] rfl ?_ rfl ?_ rfl ?_ ?_
      · kernel_rfl
      · kernel_rfl
      · exact DAll.op' (sp_fieldAddrB rfl isBlk rfl ft40_0 vt38 (by decide)) trivial rfl (From.ok (ps := [(none, 0)]) ⟨⟨rfl, rfl⟩, trivial⟩) (DAll.op' (sp_loadB rfl isBlk rfl vt38 rfl) trivial rfl (From.ok (ps := [(none, 0)]) ⟨⟨rfl, rfl⟩, trivial⟩) (DAll.op' (sp_move rfl rfl) trivial rfl (From.ok (ps := []) trivial) (DAll.op' (sp_call (avs := [.ref 0, .val (.int .i64 i7)]) (need := [.ro 0 1 (List.map en_int l14)]) (v := .ref 10) (news := [.row 10 38 1 (List.map en_Lint r16)]) rfl rfl rfl Try.call64 (atJ [] [(0, 10)] (fc_ref01_Lists h3) rfl rfl) (.inl (roAll rfl))) trivial rfl (From.ok (ps := [(none, 8)]) ⟨⟨rfl, rfl⟩, trivial⟩) (DAll.op' (sp_fieldAddrB rfl isBlk rfl ft40_1 vt38 (by decide)) trivial rfl (From.ok (ps := [(none, 0)]) ⟨⟨rfl, rfl⟩, trivial⟩) (DAll.op' (sp_loadB rfl isBlk rfl vt38 rfl) trivial rfl (From.ok (ps := [(none, 0)]) ⟨⟨rfl, rfl⟩, trivial⟩) (DAll.op' (sp_move rfl rfl) trivial rfl (From.ok (ps := []) trivial) (.nil)))))))
      obtain ⟨r17, h4, h⟩ := bind_inv h
      refine op1 10 rfl (sp_call (avs := [.ref 1, .val (.int .i64 i7)]) (need := [.ro 1 1 (List.map en_int l15)]) (v := .ref 11) (news := [.row 11 38 1 (List.map en_Lint r17)]) rfl rfl rfl Try.call64 (atJ [(0, 1)] [(0, 11)] (fc_ref01_Lists h4) rfl rfl) (.inl (roAll rfl))) rfl trivial rfl rfl ?_
      refine op0 (sp_assign rfl rfl) rfl trivial rfl rfl ?_
      refine op0 (sp_assign rfl rfl) rfl trivial rfl rfl ?_
      refine TL.nil ?_
      refine TC.seq ?_
      refine TC.region ?_
      refine op0 (sp_assign rfl rfl) rfl trivial rfl rfl ?_
      refine TL.nil ?_
      refine TC.block ?_
      refine TC.loop ?_
      refine TC.seq ?_
      refine TC.seq ?_
      refine subJ [] (ok_ref01_Near_l1 (most5 := most5) ih _ _ _ _ _ _ _ _ _ _ _ _ h) ?_ ?_ ?_
      · exact ⟨rfl, rfl, rfl, rfl, rfl, rfl, rfl, rfl, rfl, trivial⟩
      · exact ⟨mem_at 2 rfl, mem_at 3 rfl, mem_at 6 rfl, mem_at 9 rfl, mem_at 1 rfl, mem_at 0 rfl, mem_at 10 rfl, mem_at 11 rfl, mem_at 4 rfl, mem_at 5 rfl, mem_at 7 rfl, mem_at 8 rfl, trivial⟩
      · rfl
    · have h := cond_f h h2
      refine TC.exit rfl ?_
      refine TC.seq ?_
      refine TC.region ?_
      refine op1 7 rfl (sp_loadBA rfl isBlk rfl vt57 rfl rfl) rfl trivial rfl rfl ?_
      refine stoB 4 (cells' := [.ref 8, .ref 9]) rfl rfl trivial rfl rfl rfl rfl vt57 rfl rfl rfl ?_
      refine TL.nil ?_
      cases h
      exact retJ [(0, 8), (1, 9)] (.cells rfl (mem_at 4 rfl) isBlk vt57 rfl rfl (.nil)) rfl ⟨mem_at 5 rfl, mem_at 6 rfl, trivial⟩ rfl rfl
def ev_ref01_Near (n : Nat) (s1 : List Int) (s2 : List Int) (want3 : Int) (want4 : Int) (most5 : Int) : Option ((List Int) × (List Int)) :=
  (ev_ref01_Lowest n want3 want4).bind fun r6 => ev_ref01_Near_l0 n most5 n 1 r6.1 r6.2 ([] : List Int) ([] : List Int) ([] : List Int) ([] : List Int) s1 s2
set_option maxRecDepth 100000 in
set_option maxHeartbeats 2000000 in
theorem fc_ref01_Near {n : Nat} {s1 : List Int} {s2 : List Int} {want3 : Int} {want4 : Int} {most5 : Int} {r : (List Int) × (List Int)} (h : ev_ref01_Near n s1 s2 want3 want4 most5 = some r) : FC Try.prog 33 [.agg [.ref 0, .ref 1], .agg [.val (.int .i64 want3), .val (.int .i64 want4)], .val (.int .i64 most5)] [.ro 0 1 (List.map en_int s1), .ro 1 1 (List.map en_int s2)] (.agg [.ref 0, .ref 1]) [.ro 0 1 (List.map en_int r.1), .ro 1 1 (List.map en_int r.2)] := by
  refine introJ (nz := 66) Try.func33 rfl rfl rfl (fun w0 R0 env0 => ?_)
  rw [ev_ref01_Near] at h
  refine TC.seq ?_
  refine TC.region ?_
  refine op0 (sp_box 2 rfl rfl rfl rfl rfl) rfl trivial rfl rfl ?_
  refine op0 (sp_box 3 rfl rfl rfl rfl rfl) rfl trivial rfl rfl ?_
  refine op0 (sp_alloc 4 rfl Try.zeroValue57 rfl) rfl trivial rfl rfl ?_
  refine TL.nil ?_
  refine TC.seq ?_
  refine TC.region ?_
  refine op0 (sp_build (qs := []) rfl bt57 rfl rfl rfl rfl) rfl trivial rfl rfl ?_
  refine op0 (sp_alloc 5 rfl Try.zeroValue57 rfl) rfl trivial rfl rfl ?_
  refine stoB 0 (cells' := [.val (.slice none 0 0), .val (.slice none 0 0)]) rfl rfl trivial rfl rfl rfl rfl vt57 rfl rfl rfl ?_
  refine TL.nil ?_
  refine TC.seq ?_
  refine TC.region ?_
  refine op1 2 rfl (sp_fieldAddrB rfl isBlk rfl ft26_0 vt3 (by decide)) rfl trivial rfl rfl ?_
  refine op1 2 rfl (sp_loadB rfl isBlk rfl vt3 rfl) rfl trivial rfl rfl ?_
  refine op1 2 rfl (sp_fieldAddrB rfl isBlk rfl ft26_1 vt3 (by decide)) rfl trivial rfl rfl ?_
  refine op1 2 rfl (sp_loadB rfl isBlk rfl vt3 rfl) rfl trivial rfl rfl ?_
  obtain ⟨r6, h1, h⟩ := bind_inv h
  refine op0 (sp_call (avs := [.val (.int .i64 want3), .val (.int .i64 want4)]) (need := []) (v := .agg [.val (.int .i64 r6.1), .val (.int .i64 r6.2)]) (news := []) rfl rfl rfl Try.call25 (atJ [] [] (fc_ref01_Lowest h1) rfl rfl) (.inl (roAll rfl))) rfl trivial rfl rfl ?_
  refine stoB 2 (cells' := [.val (.int .i64 r6.1), .val (.int .i64 r6.2)]) rfl rfl trivial rfl rfl rfl rfl vt26 rfl rfl rfl ?_
  refine TL.nil ?_
  refine TC.seq ?_
  refine TC.seq ?_
  refine TC.region ?_
  refine op0 (sp_assign rfl rfl) rfl trivial rfl rfl ?_
  refine TL.nil ?_
  refine TC.block ?_
  refine TC.loop ?_
  refine TC.seq ?_
  refine TC.seq ?_
  refine nilCellC 1 15 3 1 4 (List.map en_int []) [.ref 15, .val (.slice none 0 0)] rfl rfl rfl ?_
  refine nilCellC 2 16 3 1 4 (List.map en_int []) [.ref 15, .ref 16] rfl rfl rfl ?_
  refine nilCellC 2 17 3 1 5 (List.map en_int []) [.ref 17, .val (.slice none 0 0)] rfl rfl rfl ?_
  refine nilCellC 3 18 3 1 5 (List.map en_int []) [.ref 17, .ref 18] rfl rfl rfl ?_
  refine TC.freeze 1 rfl ?_
  refine TC.freeze 0 rfl ?_
  refine subJ [(6, 15), (7, 16), (8, 17), (9, 18)] (ok_ref01_Near_l0 _ _ _ _ _ _ _ _ _ _ h) ?_ ?_ ?_
  · exact ⟨rfl, rfl, rfl, rfl, rfl, rfl, trivial⟩
  · exact ⟨mem_at 7 rfl, mem_at 6 rfl, mem_at 3 rfl, mem_at 2 rfl, mem_at 5 rfl, mem_at 1 rfl, mem_at 0 rfl, mem_at 4 rfl, mem_at 8 rfl, mem_at 9 rfl, trivial⟩
  · rfl
end
end Go.Proofs.Ytabjhlfgcmmbfaa.Sy
