/- What functions of the program compute, and that they do: printed by symgen.py. -/
import Derived.Test.YtabjhlfgcmmbfaaGLib
set_option linter.unusedSimpArgs false
set_option linter.unusedVariables false
namespace Go.Proofs.Ytabjhlfgcmmbfaa.Sy
open Go.RowKit
noncomputable section

/- ref01_Same -/
def ev_ref01_Same_l0 (n : Nat) (a1 : List Int) (b2 : List Int) : Nat → Int → Option Bool
  | 0, _ => none
  | m + 1, i3 => cond (decide (i3 < (a1.length : Int))) (idx a1 i3 fun x4 => idx b2 i3 fun x5 => cond (x4 != x5) (some false) (chk (in64 (i3 + 1)) <| ev_ref01_Same_l0 n a1 b2 m (i3 + 1))) (some true)
set_option maxRecDepth 100000 in
set_option maxHeartbeats 2000000 in
theorem ok_ref01_Same_l0 {n : Nat} {w0 : World} {R0 : Nat → Prop} {env0 : Env} {r : Bool} {a1 : List Int} {b2 : List Int} : ∀ (m : Nat) (i3 : Int), ev_ref01_Same_l0 n a1 b2 m i3 = some r → TC Try.prog ⟨w0, fun _ => False, R0⟩ 26 (bodyPost Try.prog Try.f27 (Post ⟨w0, fun _ => False, R0⟩ env0 (.val (.bool r)) [])) [.code (sub (bodyOf Try.f27) [1, 1, 0, 1, 0, 0, 0, 0]), .code (sub (bodyOf Try.f27) [1, 1, 0, 1, 0, 0, 0, 1]), .code (sub (bodyOf Try.f27) [1, 1, 0, 1, 0, 0, 1]), .inLoop (sub (bodyOf Try.f27) [1, 1, 0, 1, 0, 0]), .inBlock 0, .code (sub (bodyOf Try.f27) [1, 1, 1])] ([(0, .ref 0), (1, .ref 1), (5, .val (.int .i64 i3))]) ([.ro 0 1 (List.map en_int a1), .ro 1 1 (List.map en_int b2)]) := by
  intro m
  induction m with
  | zero => intro i3 h; exact none_no h
  | succ m ih =>
    intro i3 h
    rw [ev_ref01_Same_l0] at h
    refine TC.region ?_
    refine op0 (sp_move rfl rfl) rfl trivial rfl rfl ?_
    refine op0 (sp_move rfl rfl) rfl trivial rfl rfl ?_
    refine op1 0 rfl (sp_lenM (N := a1.length) (len_map _ _) rfl rfl isRo Try.underlying38) rfl trivial rfl rfl ?_
    refine op0 (sp_lss rfl rfl rfl) rfl trivial rfl rfl ?_
    refine TL.nil ?_
    refine TC.cond (b := (decide (i3 < (a1.length : Int)))) rfl (fun h2 => ?_) (fun h2 => ?_)
    · have h := cond_t h h2
      refine TC.skip ?_
      refine TC.seq ?_
      refine TC.block ?_
      refine TC.seq ?_
      obtain ⟨x4, h3, h4, h⟩ := idx_inv h
      obtain ⟨x5, h5, h6, h⟩ := idx_inv h
      refine drawJ 8 [⟨.ref 0, [], [], []⟩, ⟨.val (.int .i64 i3), [], [], []⟩, ⟨.cell 0 ((i3 : Int).toNat * 1), [], [.ro 0 1 (List.map en_int a1)], []⟩, ⟨.val (.int .i64 x4), [], [.ro 0 1 (List.map en_int a1)], []⟩, ⟨.ref 1, [], [], []⟩, ⟨.val (.int .i64 i3), [], [], []⟩, ⟨.cell 1 ((i3 : Int).toNat * 1), [], [.ro 1 1 (List.map en_int b2)], []⟩, ⟨.val (.int .i64 x5), [], [.ro 1 1 (List.map en_int b2)], []⟩] rfl ?_ rfl ?_ rfl ?_ ?_
      · kernel_rfl
      · kernel_rfl
      · exact DAll.op' (sp_move rfl rfl) trivial rfl (From.ok (ps := []) trivial) (DAll.op' (sp_move rfl rfl) trivial rfl (From.ok (ps := []) trivial) (DAll.op' (sp_indexS rfl rfl rfl isRo sl38 h3 (map_get _ h4)) trivial rfl (From.ok (ps := [(none, 0)]) ⟨⟨rfl, rfl⟩, trivial⟩) (DAll.op' (sp_loadR (i := (i3 : Int).toNat) (j := 0) rfl rfl isRo vt3 rfl (map_get _ h4) rfl (.v (.nil)) (nodup_of_B rfl)) trivial rfl (From.ok (ps := [(none, 0)]) ⟨⟨rfl, rfl⟩, trivial⟩) (DAll.op' (sp_move rfl rfl) trivial rfl (From.ok (ps := []) trivial) (DAll.op' (sp_move rfl rfl) trivial rfl (From.ok (ps := []) trivial) (DAll.op' (sp_indexS rfl rfl rfl isRo sl38 h5 (map_get _ h6)) trivial rfl (From.ok (ps := [(none, 1)]) ⟨⟨rfl, rfl⟩, trivial⟩) (DAll.op' (sp_loadR (i := (i3 : Int).toNat) (j := 0) rfl rfl isRo vt3 rfl (map_get _ h6) rfl (.v (.nil)) (nodup_of_B rfl)) trivial rfl (From.ok (ps := [(none, 1)]) ⟨⟨rfl, rfl⟩, trivial⟩) (.nil))))))))
      refine op0 (sp_neq rfl rfl rfl) rfl trivial rfl rfl ?_
      refine TL.nil ?_
      refine TC.cond (b := (x4 != x5)) rfl (fun h7 => ?_) (fun h7 => ?_)
      · have h := cond_t h h7
        refine TC.seq ?_
        refine TC.region ?_
        refine op0 (sp_assign rfl rfl) rfl trivial rfl rfl ?_
        refine TL.nil ?_
        cases h
        exact retJ [] (.tmp rfl .nil) rfl trivial rfl rfl
      · have h := cond_f h h7
        refine TC.skip ?_
        refine TC.inBlock ?_
        refine TC.region ?_
        refine op0 (sp_move rfl rfl) rfl trivial rfl rfl ?_
        obtain ⟨h8, h⟩ := chk_inv h
        refine op0 (sp_add rfl rfl rfl h8) rfl trivial rfl rfl ?_
        refine op0 (sp_assign rfl rfl) rfl trivial rfl rfl ?_
        refine TL.nil ?_
        refine TC.inLoop ?_
        refine TC.seq ?_
        refine TC.seq ?_
        refine subJ [] (ih _ h) ?_ ?_ ?_
        · exact ⟨rfl, rfl, rfl, trivial⟩
        · exact ⟨mem_at 0 rfl, mem_at 1 rfl, trivial⟩
        · rfl
    · have h := cond_f h h2
      refine TC.exit rfl ?_
      refine TC.seq ?_
      refine TC.region ?_
      refine op0 (sp_assign rfl rfl) rfl trivial rfl rfl ?_
      refine TL.nil ?_
      cases h
      exact retJ [] (.tmp rfl .nil) rfl trivial rfl rfl
def ev_ref01_Same (n : Nat) (a1 : List Int) (b2 : List Int) : Option Bool :=
  cond ((a1.length : Int) != (b2.length : Int)) (some false) (ev_ref01_Same_l0 n a1 b2 n 0)
set_option maxRecDepth 100000 in
set_option maxHeartbeats 2000000 in
theorem fc_ref01_Same {n : Nat} {a1 : List Int} {b2 : List Int} {r : Bool} (h : ev_ref01_Same n a1 b2 = some r) : FC Try.prog 27 [.ref 0, .ref 1] [.ro 0 1 (List.map en_int a1), .ro 1 1 (List.map en_int b2)] (.val (.bool r)) [] := by
  refine introJ (nz := 26) Try.func27 rfl rfl rfl (fun w0 R0 env0 => ?_)
  rw [ev_ref01_Same] at h
  refine TC.seq ?_
  refine TC.region ?_
  refine op0 (sp_assign rfl rfl) rfl trivial rfl rfl ?_
  refine TL.nil ?_
  refine TC.seq ?_
  refine TC.seq ?_
  refine TC.region ?_
  refine op0 (sp_move rfl rfl) rfl trivial rfl rfl ?_
  refine op1 0 rfl (sp_lenM (N := a1.length) (len_map _ _) rfl rfl isRo Try.underlying38) rfl trivial rfl rfl ?_
  refine op0 (sp_move rfl rfl) rfl trivial rfl rfl ?_
  refine op1 1 rfl (sp_lenM (N := b2.length) (len_map _ _) rfl rfl isRo Try.underlying38) rfl trivial rfl rfl ?_
  refine op0 (sp_neq rfl rfl rfl) rfl trivial rfl rfl ?_
  refine TL.nil ?_
  refine TC.cond (b := ((a1.length : Int) != (b2.length : Int))) rfl (fun h1 => ?_) (fun h1 => ?_)
  · have h := cond_t h h1
    refine TC.seq ?_
    refine TC.region ?_
    refine op0 (sp_assign rfl rfl) rfl trivial rfl rfl ?_
    refine TL.nil ?_
    cases h
    exact retJ [] (.tmp rfl .nil) rfl trivial rfl rfl
  · have h := cond_f h h1
    refine TC.skip ?_
    refine TC.seq ?_
    refine TC.seq ?_
    refine TC.region ?_
    refine op0 (sp_assign rfl rfl) rfl trivial rfl rfl ?_
    refine TL.nil ?_
    refine TC.block ?_
    refine TC.loop ?_
    refine TC.seq ?_
    refine TC.seq ?_
    refine subJ [] (ok_ref01_Same_l0 _ _ h) ?_ ?_ ?_
    · exact ⟨rfl, rfl, rfl, trivial⟩
    · exact ⟨mem_at 0 rfl, mem_at 1 rfl, trivial⟩
    · rfl
/- ref01_Equal -/
def ev_ref01_Equal (n : Nat) (a1 : List Int) (a2 : List Int) (b3 : List Int) (b4 : List Int) : Option Bool :=
  (ev_ref01_Same n a1 b3).bind fun r5 => cond r5 ((ev_ref01_Same n a2 b4).bind fun r6 => some r6) (some false)
set_option maxRecDepth 100000 in
set_option maxHeartbeats 2000000 in
theorem fc_ref01_Equal {n : Nat} {a1 : List Int} {a2 : List Int} {b3 : List Int} {b4 : List Int} {r : Bool} (h : ev_ref01_Equal n a1 a2 b3 b4 = some r) : FC Try.prog 31 [.agg [.ref 0, .ref 1], .agg [.ref 2, .ref 3]] [.ro 0 1 (List.map en_int a1), .ro 1 1 (List.map en_int a2), .ro 2 1 (List.map en_int b3), .ro 3 1 (List.map en_int b4)] (.val (.bool r)) [] := by
  refine introJ (nz := 17) Try.func31 rfl rfl rfl (fun w0 R0 env0 => ?_)
  rw [ev_ref01_Equal] at h
  refine TC.seq ?_
  refine TC.region ?_
  refine op0 (sp_box 4 rfl rfl rfl rfl rfl) rfl trivial rfl rfl ?_
  refine op0 (sp_box 5 rfl rfl rfl rfl rfl) rfl trivial rfl rfl ?_
  refine op0 (sp_assign rfl rfl) rfl trivial rfl rfl ?_
  refine TL.nil ?_
  refine TC.seq ?_
  refine TC.region ?_
  refine op1 1 rfl (sp_fieldAddrB rfl isBlk rfl ft57_0 vt38 (by decide)) rfl trivial rfl rfl ?_
  refine op1 1 rfl (sp_loadB rfl isBlk rfl vt38 rfl) rfl trivial rfl rfl ?_
  refine op1 0 rfl (sp_fieldAddrB rfl isBlk rfl ft57_0 vt38 (by decide)) rfl trivial rfl rfl ?_
  refine op1 0 rfl (sp_loadB rfl isBlk rfl vt38 rfl) rfl trivial rfl rfl ?_
  obtain ⟨r5, h1, h⟩ := bind_inv h
  refine opN (need := [.ro 0 1 (List.map en_int a1), .ro 2 1 (List.map en_int b3)]) [2, 4] ⟨rfl, rfl, trivial⟩ (sp_call (avs := [.ref 0, .ref 2]) (need := [.ro 0 1 (List.map en_int a1), .ro 2 1 (List.map en_int b3)]) (v := .val (.bool r5)) (news := []) rfl rfl rfl Try.call27 (atJ [(1, 2)] [] (fc_ref01_Same h1) rfl rfl) (.inl (roAll rfl))) rfl trivial rfl rfl ?_
  refine op0 (sp_move rfl rfl) rfl trivial rfl rfl ?_
  rcases cond_cases h with ⟨h2, h⟩ | ⟨h2, h⟩
  · refine (boolLit 10 rfl h2).2 ?_
    refine op1 1 rfl (sp_fieldAddrB rfl isBlk rfl ft57_1 vt38 (by decide)) rfl ⟨_, rfl, rfl⟩ rfl rfl ?_
    refine op1 1 rfl (sp_loadB rfl isBlk rfl vt38 rfl) rfl ⟨_, rfl, rfl⟩ rfl rfl ?_
    refine op1 0 rfl (sp_fieldAddrB rfl isBlk rfl ft57_1 vt38 (by decide)) rfl ⟨_, rfl, rfl⟩ rfl rfl ?_
    refine op1 0 rfl (sp_loadB rfl isBlk rfl vt38 rfl) rfl ⟨_, rfl, rfl⟩ rfl rfl ?_
    obtain ⟨r6, h3, h⟩ := bind_inv h
    refine opN (need := [.ro 1 1 (List.map en_int a2), .ro 3 1 (List.map en_int b4)]) [3, 5] ⟨rfl, rfl, trivial⟩ (sp_call (avs := [.ref 1, .ref 3]) (need := [.ro 1 1 (List.map en_int a2), .ro 3 1 (List.map en_int b4)]) (v := .val (.bool r6)) (news := []) rfl rfl rfl Try.call27 (atJ [(0, 1), (1, 3)] [] (fc_ref01_Same h3) rfl rfl) (.inl (roAll rfl))) rfl ⟨_, rfl, rfl⟩ rfl rfl ?_
    refine op0 (sp_pickT rfl rfl rfl) rfl trivial rfl rfl ?_
    refine op0 (sp_assign rfl rfl) rfl trivial rfl rfl ?_
    refine TL.nil ?_
    cases h
    exact retJ [] (.tmp rfl .nil) rfl trivial rfl rfl
  · refine (boolLit 10 rfl h2).2 ?_
    refine opSkip rfl ⟨_, rfl, .inl rfl⟩ rfl ?_
    refine opSkip rfl ⟨_, rfl, .inl rfl⟩ rfl ?_
    refine opSkip rfl ⟨_, rfl, .inl rfl⟩ rfl ?_
    refine opSkip rfl ⟨_, rfl, .inl rfl⟩ rfl ?_
    refine opSkip rfl ⟨_, rfl, .inl rfl⟩ rfl ?_
    refine op0 (sp_pickF rfl rfl rfl) rfl trivial rfl rfl ?_
    refine op0 (sp_assign rfl rfl) rfl trivial rfl rfl ?_
    refine TL.nil ?_
    cases h
    exact retJ [] (.tmp rfl .nil) rfl trivial rfl rfl
/- ref01_Teeth -/
def ev_ref01_Teeth (n : Nat) (nn1 : Int) : Option Bool :=
  cond (decide ((6 : Int) ≤ nn1)) (some (decide (nn1 ≤ 400))) (some false)
set_option maxRecDepth 100000 in
set_option maxHeartbeats 2000000 in
theorem fc_ref01_Teeth {n : Nat} {nn1 : Int} {r : Bool} (h : ev_ref01_Teeth n nn1 = some r) : FC Try.prog 47 [.val (.int .i64 nn1)] [] (.val (.bool r)) [] := by
  refine introJ (nz := 9) Try.func47 rfl rfl rfl (fun w0 R0 env0 => ?_)
  rw [ev_ref01_Teeth] at h
  refine TC.seq ?_
  refine TC.region ?_
  refine op0 (sp_assign rfl rfl) rfl trivial rfl rfl ?_
  refine TL.nil ?_
  refine TC.seq ?_
  refine TC.region ?_
  refine op0 (sp_move rfl rfl) rfl trivial rfl rfl ?_
  refine op0 (sp_geq rfl rfl rfl) rfl trivial rfl rfl ?_
  refine op0 (sp_move rfl rfl) rfl trivial rfl rfl ?_
  rcases cond_cases h with ⟨h1, h⟩ | ⟨h1, h⟩
  · refine (boolLit 5 rfl h1).2 ?_
    refine op0 (sp_move rfl rfl) rfl ⟨_, rfl, rfl⟩ rfl rfl ?_
    refine op0 (sp_leq rfl rfl rfl) rfl ⟨_, rfl, rfl⟩ rfl rfl ?_
    refine op0 (sp_pickT rfl rfl rfl) rfl trivial rfl rfl ?_
    refine op0 (sp_assign rfl rfl) rfl trivial rfl rfl ?_
    refine TL.nil ?_
    cases h
    exact retJ [] (.tmp rfl .nil) rfl trivial rfl rfl
  · refine (boolLit 5 rfl h1).2 ?_
    refine opSkip rfl ⟨_, rfl, .inl rfl⟩ rfl ?_
    refine opSkip rfl ⟨_, rfl, .inl rfl⟩ rfl ?_
    refine op0 (sp_pickF rfl rfl rfl) rfl trivial rfl rfl ?_
    refine op0 (sp_assign rfl rfl) rfl trivial rfl rfl ?_
    refine TL.nil ?_
    cases h
    exact retJ [] (.tmp rfl .nil) rfl trivial rfl rfl
/- ref01_Pairs -/
def ev_ref01_Pairs_l0 (n : Nat) (l1 : List (Int × Int)) : Nat → Int → Option Int
  | 0, _ => none
  | m + 1, i2 => cond (decide (i2 < (l1.length : Int))) (idx l1 i2 fun x3 => (ev_ref01_Teeth n x3.1).bind fun r4 => cond (!r4) (some 2) ((ev_ref01_Teeth n x3.2).bind fun r5 => cond (!r5) (some 2) (chk (in64 (i2 + 1)) <| ev_ref01_Pairs_l0 n l1 m (i2 + 1)))) (some 0)
set_option maxRecDepth 100000 in
set_option maxHeartbeats 2000000 in
theorem ok_ref01_Pairs_l0 {n : Nat} {w0 : World} {R0 : Nat → Prop} {env0 : Env} {r : Int} {l1 : List (Int × Int)} : ∀ (m : Nat) (i2 : Int), ev_ref01_Pairs_l0 n l1 m i2 = some r → TC Try.prog ⟨w0, fun _ => False, R0⟩ 29 (bodyPost Try.prog Try.f16 (Post ⟨w0, fun _ => False, R0⟩ env0 (.val (.int .i64 r)) [])) [.code (sub (bodyOf Try.f16) [1, 1, 0, 1, 0, 0, 0, 0]), .code (sub (bodyOf Try.f16) [1, 1, 0, 1, 0, 0, 0, 1]), .code (sub (bodyOf Try.f16) [1, 1, 0, 1, 0, 0, 1]), .inLoop (sub (bodyOf Try.f16) [1, 1, 0, 1, 0, 0]), .inBlock 0, .code (sub (bodyOf Try.f16) [1, 1, 1])] ([(0, .ref 0), (3, .val (.int .i64 i2))]) ([.ro 0 2 (List.map en_api_TrainPair l1)]) := by
  intro m
  induction m with
  | zero => intro i2 h; exact none_no h
  | succ m ih =>
    intro i2 h
    rw [ev_ref01_Pairs_l0] at h
    refine TC.region ?_
    refine op0 (sp_move rfl rfl) rfl trivial rfl rfl ?_
    refine op0 (sp_move rfl rfl) rfl trivial rfl rfl ?_
    refine op1 0 rfl (sp_lenM (N := l1.length) (len_map _ _) rfl rfl isRo Try.underlying22) rfl trivial rfl rfl ?_
    refine op0 (sp_lss rfl rfl rfl) rfl trivial rfl rfl ?_
    refine TL.nil ?_
    refine TC.cond (b := (decide (i2 < (l1.length : Int)))) rfl (fun h2 => ?_) (fun h2 => ?_)
    · have h := cond_t h h2
      refine TC.skip ?_
      refine TC.seq ?_
      refine TC.block ?_
      refine TC.seq ?_
      refine TC.region ?_
      refine op0 (sp_move rfl rfl) rfl trivial rfl rfl ?_
      refine op0 (sp_move rfl rfl) rfl trivial rfl rfl ?_
      obtain ⟨x3, h3, h4, h⟩ := idx_inv h
      refine op1 0 rfl (sp_indexS rfl rfl rfl isRo sl22 h3 (map_get _ h4)) rfl trivial rfl rfl ?_
      refine op1 0 rfl (sp_fieldAddrR (i := (i2 : Int).toNat) rfl rfl isRo ft33_0 vt3 (by decide) (map_get _ h4) (fun h => nomatch h)) rfl trivial rfl rfl ?_
      refine op1 0 rfl (sp_loadR (i := (i2 : Int).toNat) (j := 0) rfl rfl isRo vt3 rfl (map_get _ h4) rfl (.v (.nil)) (nodup_of_B rfl)) rfl trivial rfl rfl ?_
      obtain ⟨r4, h5, h⟩ := bind_inv h
      refine op0 (sp_call (avs := [.val (.int .i64 x3.1)]) (need := []) (v := .val (.bool r4)) (news := []) rfl rfl rfl Try.call47 (atJ [] [] (fc_ref01_Teeth h5) rfl rfl) (.inl (roAll rfl))) rfl trivial rfl rfl ?_
      refine op0 (sp_not rfl rfl) rfl trivial rfl rfl ?_
      refine op0 (sp_move rfl rfl) rfl trivial rfl rfl ?_
      rcases cond_cases h with ⟨h6, h⟩ | ⟨h6, h⟩
      · refine (boolLit 20 rfl h6).2 ?_
        refine opSkip rfl ⟨_, rfl, .inl rfl⟩ rfl ?_
        refine opSkip rfl ⟨_, rfl, .inl rfl⟩ rfl ?_
        refine opSkip rfl ⟨_, rfl, .inl rfl⟩ rfl ?_
        refine opSkip rfl ⟨_, rfl, .inl rfl⟩ rfl ?_
        refine opSkip rfl ⟨_, rfl, .inl rfl⟩ rfl ?_
        refine opSkip rfl ⟨_, rfl, .inl rfl⟩ rfl ?_
        refine opSkip rfl ⟨_, rfl, .inl rfl⟩ rfl ?_
        refine op0 (sp_pickT rfl rfl rfl) rfl trivial rfl rfl ?_
        refine TL.nil ?_
        refine TC.condT rfl ?_
        refine TC.seq ?_
        refine TC.region ?_
        refine op0 (sp_assign rfl rfl) rfl trivial rfl rfl ?_
        refine TL.nil ?_
        cases h
        exact retJ [] (.tmp rfl .nil) rfl trivial rfl rfl
      · refine (boolLit 20 rfl h6).2 ?_
        refine op0 (sp_move rfl rfl) rfl ⟨_, rfl, rfl⟩ rfl rfl ?_
        refine op0 (sp_move rfl rfl) rfl ⟨_, rfl, rfl⟩ rfl rfl ?_
        refine op1 0 rfl (sp_indexS rfl rfl rfl isRo sl22 h3 (map_get _ h4)) rfl ⟨_, rfl, rfl⟩ rfl rfl ?_
        refine op1 0 rfl (sp_fieldAddrR (i := (i2 : Int).toNat) rfl rfl isRo ft33_1 vt3 (by decide) (map_get _ h4) (fun h => nomatch h)) rfl ⟨_, rfl, rfl⟩ rfl rfl ?_
        refine op1 0 rfl (sp_loadR (i := (i2 : Int).toNat) (j := 1) rfl rfl isRo vt3 rfl (map_get _ h4) rfl (.v (.nil)) (nodup_of_B rfl)) rfl ⟨_, rfl, rfl⟩ rfl rfl ?_
        obtain ⟨r5, h7, h⟩ := bind_inv h
        refine op0 (sp_call (avs := [.val (.int .i64 x3.2)]) (need := []) (v := .val (.bool r5)) (news := []) rfl rfl rfl Try.call47 (atJ [] [] (fc_ref01_Teeth h7) rfl rfl) (.inl (roAll rfl))) rfl ⟨_, rfl, rfl⟩ rfl rfl ?_
        refine op0 (sp_not rfl rfl) rfl ⟨_, rfl, rfl⟩ rfl rfl ?_
        refine op0 (sp_pickF rfl rfl rfl) rfl trivial rfl rfl ?_
        refine TL.nil ?_
        refine TC.cond (b := (!r5)) rfl (fun h8 => ?_) (fun h8 => ?_)
        · have h := cond_t h h8
          refine TC.seq ?_
          refine TC.region ?_
          refine op0 (sp_assign rfl rfl) rfl trivial rfl rfl ?_
          refine TL.nil ?_
          cases h
          exact retJ [] (.tmp rfl .nil) rfl trivial rfl rfl
        · have h := cond_f h h8
          refine TC.skip ?_
          refine TC.inBlock ?_
          refine TC.region ?_
          refine op0 (sp_move rfl rfl) rfl trivial rfl rfl ?_
          obtain ⟨h9, h⟩ := chk_inv h
          refine op0 (sp_add rfl rfl rfl h9) rfl trivial rfl rfl ?_
          refine op0 (sp_assign rfl rfl) rfl trivial rfl rfl ?_
          refine TL.nil ?_
          refine TC.inLoop ?_
          refine TC.seq ?_
          refine TC.seq ?_
          refine subJ [] (ih _ h) ?_ ?_ ?_
          · exact ⟨rfl, rfl, trivial⟩
          · exact ⟨mem_at 0 rfl, trivial⟩
          · rfl
    · have h := cond_f h h2
      refine TC.exit rfl ?_
      refine TC.seq ?_
      refine TC.region ?_
      refine op0 (sp_assign rfl rfl) rfl trivial rfl rfl ?_
      refine TL.nil ?_
      cases h
      exact retJ [] (.tmp rfl .nil) rfl trivial rfl rfl
def ev_ref01_Pairs (n : Nat) (l1 : List (Int × Int)) : Option Int :=
  cond (decide ((6 : Int) < (l1.length : Int))) (some 5) (ev_ref01_Pairs_l0 n l1 n 0)
set_option maxRecDepth 100000 in
set_option maxHeartbeats 2000000 in
theorem fc_ref01_Pairs {n : Nat} {l1 : List (Int × Int)} {r : Int} (h : ev_ref01_Pairs n l1 = some r) : FC Try.prog 16 [.ref 0] [.ro 0 2 (List.map en_api_TrainPair l1)] (.val (.int .i64 r)) [] := by
  refine introJ (nz := 29) Try.func16 rfl rfl rfl (fun w0 R0 env0 => ?_)
  rw [ev_ref01_Pairs] at h
  refine TC.seq ?_
  refine TC.region ?_
  refine op0 (sp_assign rfl rfl) rfl trivial rfl rfl ?_
  refine TL.nil ?_
  refine TC.seq ?_
  refine TC.seq ?_
  refine TC.region ?_
  refine op0 (sp_move rfl rfl) rfl trivial rfl rfl ?_
  refine op1 0 rfl (sp_lenM (N := l1.length) (len_map _ _) rfl rfl isRo Try.underlying22) rfl trivial rfl rfl ?_
  refine op0 (sp_gtr rfl rfl rfl) rfl trivial rfl rfl ?_
  refine TL.nil ?_
  refine TC.cond (b := (decide ((6 : Int) < (l1.length : Int)))) rfl (fun h1 => ?_) (fun h1 => ?_)
  · have h := cond_t h h1
    refine TC.seq ?_
    refine TC.region ?_
    refine op0 (sp_assign rfl rfl) rfl trivial rfl rfl ?_
    refine TL.nil ?_
    cases h
    exact retJ [] (.tmp rfl .nil) rfl trivial rfl rfl
  · have h := cond_f h h1
    refine TC.skip ?_
    refine TC.seq ?_
    refine TC.seq ?_
    refine TC.region ?_
    refine op0 (sp_assign rfl rfl) rfl trivial rfl rfl ?_
    refine TL.nil ?_
    refine TC.block ?_
    refine TC.loop ?_
    refine TC.seq ?_
    refine TC.seq ?_
    refine subJ [] (ok_ref01_Pairs_l0 _ _ h) ?_ ?_ ?_
    · exact ⟨rfl, rfl, trivial⟩
    · exact ⟨mem_at 0 rfl, trivial⟩
    · rfl
/- ref01_Gcd -/
def ev_ref01_Gcd_l0 (n : Nat) : Nat → Int → Int → Option Int
  | 0, _, _ => none
  | m + 1, i3, i4 => cond (decide ((0 : Int) < i4)) (chk (i4 != 0) <| ev_ref01_Gcd_l0 n m i4 (Int.tmod i3 i4)) (some i3)
set_option maxRecDepth 100000 in
set_option maxHeartbeats 2000000 in
theorem ok_ref01_Gcd_l0 {n : Nat} {w0 : World} {R0 : Nat → Prop} {env0 : Env} {r : Int} : ∀ (m : Nat) (i3 : Int) (i4 : Int), ev_ref01_Gcd_l0 n m i3 i4 = some r → TC Try.prog ⟨w0, fun _ => False, R0⟩ 12 (bodyPost Try.prog Try.f48 (Post ⟨w0, fun _ => False, R0⟩ env0 (.val (.int .i64 r)) [])) [.code (sub (bodyOf Try.f48) [1, 0, 0, 0, 0, 0]), .code (sub (bodyOf Try.f48) [1, 0, 0, 0, 0, 1]), .code (sub (bodyOf Try.f48) [1, 0, 0, 0, 1]), .inLoop (sub (bodyOf Try.f48) [1, 0, 0, 0]), .inBlock 0, .code (sub (bodyOf Try.f48) [1, 1])] ([(0, .val (.int .i64 i3)), (1, .val (.int .i64 i4))]) ([]) := by
  intro m
  induction m with
  | zero => intro i3 i4 h; exact none_no h
  | succ m ih =>
    intro i3 i4 h
    rw [ev_ref01_Gcd_l0] at h
    refine TC.region ?_
    refine op0 (sp_move rfl rfl) rfl trivial rfl rfl ?_
    refine op0 (sp_gtr rfl rfl rfl) rfl trivial rfl rfl ?_
    refine TL.nil ?_
    refine TC.cond (b := (decide ((0 : Int) < i4))) rfl (fun h1 => ?_) (fun h1 => ?_)
    · have h := cond_t h h1
      refine TC.skip ?_
      refine TC.block ?_
      obtain ⟨h2, h⟩ := chk_inv h
      refine drawJ 5 [⟨.val (.int .i64 i4), [], [], []⟩, ⟨.val (.int .i64 i3), [], [], []⟩, ⟨.val (.int .i64 i4), [], [], []⟩, ⟨.val (.int .i64 (Int.tmod i3 i4)), [], [], []⟩, ⟨.val (.int .i64 i4), [], [], []⟩] rfl ?_ rfl ?_ rfl ?_ ?_
      · kernel_rfl
      · kernel_rfl
      · exact DAll.op' (sp_move rfl rfl) trivial rfl (From.ok (ps := []) trivial) (DAll.op' (sp_move rfl rfl) trivial rfl (From.ok (ps := []) trivial) (DAll.op' (sp_move rfl rfl) trivial rfl (From.ok (ps := []) trivial) (DAll.op' (sp_rem rfl rfl rfl h2) trivial rfl (From.ok (ps := []) trivial) (DAll.op' (sp_assign rfl rfl) trivial rfl (From.ok (ps := []) trivial) (.nil)))))
      refine op0 (sp_assign rfl rfl) rfl trivial rfl rfl ?_
      refine TL.nil ?_
      refine TC.inBlock ?_
      refine TC.inLoop ?_
      refine TC.seq ?_
      refine TC.seq ?_
      refine subJ [] (ih _ _ h) ?_ ?_ ?_
      · exact ⟨rfl, rfl, trivial⟩
      · exact trivial
      · rfl
    · have h := cond_f h h1
      refine TC.exit rfl ?_
      refine TC.seq ?_
      refine TC.region ?_
      refine op0 (sp_move rfl rfl) rfl trivial rfl rfl ?_
      refine op0 (sp_assign rfl rfl) rfl trivial rfl rfl ?_
      refine TL.nil ?_
      cases h
      exact retJ [] (.tmp rfl .nil) rfl trivial rfl rfl
def ev_ref01_Gcd (n : Nat) (a1 : Int) (b2 : Int) : Option Int :=
  ev_ref01_Gcd_l0 n n a1 b2
set_option maxRecDepth 100000 in
set_option maxHeartbeats 2000000 in
theorem fc_ref01_Gcd {n : Nat} {a1 : Int} {b2 : Int} {r : Int} (h : ev_ref01_Gcd n a1 b2 = some r) : FC Try.prog 48 [.val (.int .i64 a1), .val (.int .i64 b2)] [] (.val (.int .i64 r)) [] := by
  refine introJ (nz := 12) Try.func48 rfl rfl rfl (fun w0 R0 env0 => ?_)
  rw [ev_ref01_Gcd] at h
  refine TC.seq ?_
  refine TC.region ?_
  refine op0 (sp_assign rfl rfl) rfl trivial rfl rfl ?_
  refine TL.nil ?_
  refine TC.seq ?_
  refine TC.block ?_
  refine TC.loop ?_
  refine TC.seq ?_
  refine TC.seq ?_
  refine subJ [] (ok_ref01_Gcd_l0 _ _ _ h) ?_ ?_ ?_
  · exact ⟨rfl, rfl, trivial⟩
  · exact trivial
  · rfl
/- ref01_Lowest -/
def ev_ref01_Lowest (n : Nat) (num1 : Int) (den2 : Int) : Option (Int × Int) :=
  (ev_ref01_Gcd n num1 den2).bind fun r3 => chk (r3 != 0) <| chk (in64 (Int.tdiv num1 r3)) <| chk (r3 != 0) <| chk (in64 (Int.tdiv den2 r3)) <| some ((Int.tdiv num1 r3), (Int.tdiv den2 r3))
set_option maxRecDepth 100000 in
set_option maxHeartbeats 2000000 in
theorem fc_ref01_Lowest {n : Nat} {num1 : Int} {den2 : Int} {r : Int × Int} (h : ev_ref01_Lowest n num1 den2 = some r) : FC Try.prog 25 [.val (.int .i64 num1), .val (.int .i64 den2)] [] (.agg [.val (.int .i64 r.1), .val (.int .i64 r.2)]) [] := by
  refine introJ (nz := 16) Try.func25 rfl rfl rfl (fun w0 R0 env0 => ?_)
  rw [ev_ref01_Lowest] at h
  refine TC.seq ?_
  refine TC.region ?_
  refine op0 (sp_alloc 0 rfl Try.zeroValue26 rfl) rfl trivial rfl rfl ?_
  refine TL.nil ?_
  refine TC.seq ?_
  refine TC.region ?_
  refine op0 (sp_move rfl rfl) rfl trivial rfl rfl ?_
  refine op0 (sp_move rfl rfl) rfl trivial rfl rfl ?_
  obtain ⟨r3, h1, h⟩ := bind_inv h
  refine op0 (sp_call (avs := [.val (.int .i64 num1), .val (.int .i64 den2)]) (need := []) (v := .val (.int .i64 r3)) (news := []) rfl rfl rfl Try.call48 (atJ [] [] (fc_ref01_Gcd h1) rfl rfl) (.inl (roAll rfl))) rfl trivial rfl rfl ?_
  refine op0 (sp_assign rfl rfl) rfl trivial rfl rfl ?_
  refine TL.nil ?_
  refine TC.seq ?_
  obtain ⟨h2, h⟩ := chk_inv h
  obtain ⟨h3, h⟩ := chk_inv h
  obtain ⟨h4, h⟩ := chk_inv h
  obtain ⟨h5, h⟩ := chk_inv h
  refine drawJ 6 [⟨.val (.int .i64 num1), [], [], []⟩, ⟨.val (.int .i64 r3), [], [], []⟩, ⟨.val (.int .i64 (Int.tdiv num1 r3)), [], [], []⟩, ⟨.val (.int .i64 den2), [], [], []⟩, ⟨.val (.int .i64 r3), [], [], []⟩, ⟨.val (.int .i64 (Int.tdiv den2 r3)), [], [], []⟩] rfl ?_ rfl ?_ rfl ?_ ?_
  · kernel_rfl
  · kernel_rfl
  · exact DAll.op' (sp_move rfl rfl) trivial rfl (From.ok (ps := []) trivial) (DAll.op' (sp_move rfl rfl) trivial rfl (From.ok (ps := []) trivial) (DAll.op' (sp_quo rfl rfl rfl h2 h3) trivial rfl (From.ok (ps := []) trivial) (DAll.op' (sp_move rfl rfl) trivial rfl (From.ok (ps := []) trivial) (DAll.op' (sp_move rfl rfl) trivial rfl (From.ok (ps := []) trivial) (DAll.op' (sp_quo rfl rfl rfl h4 h5) trivial rfl (From.ok (ps := []) trivial) (.nil))))))
  refine op0 (sp_build (qs := [(0, .val (.int .i64 (Int.tdiv num1 r3))), (1, .val (.int .i64 (Int.tdiv den2 r3)))]) rfl bt26 rfl rfl rfl rfl) rfl trivial rfl rfl ?_
  refine stoB 0 (cells' := [.val (.int .i64 (Int.tdiv num1 r3)), .val (.int .i64 (Int.tdiv den2 r3))]) rfl rfl trivial rfl rfl rfl rfl vt26 rfl rfl rfl ?_
  refine TL.nil ?_
  cases h
  exact retJ [] (.cells rfl (mem_at 0 rfl) isBlk vt26 rfl rfl (.nil)) rfl trivial rfl rfl
/- ref01_Turns -/
def ev_ref01_Turns_l0 (n : Nat) : Nat → Int → (List (Int × Int)) → Int → Int → Int → Int → Option (Int × Int)
  | 0, _, _, _, _, _, _ => none
  | m + 1, i2, l3, i4, i5, i6, i7 => cond (decide (i2 < (l3.length : Int))) (idx l3 i2 fun x8 => chk (in64 (i6 * x8.1)) <| chk (in64 (i7 * x8.2)) <| (ev_ref01_Lowest n (i6 * x8.1) (i7 * x8.2)).bind fun r9 => chk (in64 (i2 + 1)) <| ev_ref01_Turns_l0 n m (i2 + 1) l3 i4 i5 r9.1 r9.2) (some (i6, i7))
set_option maxRecDepth 100000 in
set_option maxHeartbeats 2000000 in
theorem ok_ref01_Turns_l0 {n : Nat} {w0 : World} {R0 : Nat → Prop} {env0 : Env} {r : Int × Int} : ∀ (m : Nat) (i2 : Int) (l3 : List (Int × Int)) (i4 : Int) (i5 : Int) (i6 : Int) (i7 : Int), ev_ref01_Turns_l0 n m i2 l3 i4 i5 i6 i7 = some r → TC Try.prog ⟨w0, fun _ => False, R0⟩ 30 (bodyPost Try.prog Try.f17 (Post ⟨w0, fun _ => False, R0⟩ env0 (.agg [.val (.int .i64 r.1), .val (.int .i64 r.2)]) [])) [.code (sub (bodyOf Try.f17) [1, 1, 0, 1, 0, 0, 0, 0]), .code (sub (bodyOf Try.f17) [1, 1, 0, 1, 0, 0, 0, 1]), .code (sub (bodyOf Try.f17) [1, 1, 0, 1, 0, 0, 1]), .inLoop (sub (bodyOf Try.f17) [1, 1, 0, 1, 0, 0]), .inBlock 0, .code (sub (bodyOf Try.f17) [1, 1, 1])] ([(0, .ref 0), (2, .ptr 1 0), (3, .ptr 2 0), (4, .val (.int .i64 i2))]) ([.ro 0 2 (List.map en_api_TrainPair l3), .blk 1 [.val (.int .i64 i4), .val (.int .i64 i5)] 26, .blk 2 [.val (.int .i64 i6), .val (.int .i64 i7)] 26]) := by
  intro m
  induction m with
  | zero => intro i2 l3 i4 i5 i6 i7 h; exact none_no h
  | succ m ih =>
    intro i2 l3 i4 i5 i6 i7 h
    rw [ev_ref01_Turns_l0] at h
    refine TC.region ?_
    refine op0 (sp_move rfl rfl) rfl trivial rfl rfl ?_
    refine op0 (sp_move rfl rfl) rfl trivial rfl rfl ?_
    refine op1 0 rfl (sp_lenM (N := l3.length) (len_map _ _) rfl rfl isRo Try.underlying22) rfl trivial rfl rfl ?_
    refine op0 (sp_lss rfl rfl rfl) rfl trivial rfl rfl ?_
    refine TL.nil ?_
    refine TC.cond (b := (decide (i2 < (l3.length : Int)))) rfl (fun h1 => ?_) (fun h1 => ?_)
    · have h := cond_t h h1
      refine TC.skip ?_
      refine TC.seq ?_
      refine TC.block ?_
      obtain ⟨x8, h2, h3, h⟩ := idx_inv h
      obtain ⟨h4, h⟩ := chk_inv h
      obtain ⟨h5, h⟩ := chk_inv h
      refine drawJ 16 [⟨.ptr 2 0, [], [.blk 2 [.val (.int .i64 i6), .val (.int .i64 i7)] 26], []⟩, ⟨.val (.int .i64 i6), [], [.blk 2 [.val (.int .i64 i6), .val (.int .i64 i7)] 26], []⟩, ⟨.ref 0, [], [], []⟩, ⟨.val (.int .i64 i2), [], [], []⟩, ⟨.cell 0 ((i2 : Int).toNat * 2), [], [.ro 0 2 (List.map en_api_TrainPair l3)], []⟩, ⟨.cell 0 ((i2 : Int).toNat * 2 + 0), [], [.ro 0 2 (List.map en_api_TrainPair l3)], []⟩, ⟨.val (.int .i64 x8.1), [], [.ro 0 2 (List.map en_api_TrainPair l3)], []⟩, ⟨.val (.int .i64 (i6 * x8.1)), [], [], []⟩, ⟨.ptr 2 1, [], [.blk 2 [.val (.int .i64 i6), .val (.int .i64 i7)] 26], []⟩, ⟨.val (.int .i64 i7), [], [.blk 2 [.val (.int .i64 i6), .val (.int .i64 i7)] 26], []⟩, ⟨.ref 0, [], [], []⟩, ⟨.val (.int .i64 i2), [], [], []⟩, ⟨.cell 0 ((i2 : Int).toNat * 2), [], [.ro 0 2 (List.map en_api_TrainPair l3)], []⟩, ⟨.cell 0 ((i2 : Int).toNat * 2 + 1), [], [.ro 0 2 (List.map en_api_TrainPair l3)], []⟩, ⟨.val (.int .i64 x8.2), [], [.ro 0 2 (List.map en_api_TrainPair l3)], []⟩, ⟨.val (.int .i64 (i7 * x8.2)), [], [], []⟩] rfl ?_ rfl ?_ rfl ?_ ?_
      · kernel_rfl
      · kernel_rfl
      · exact DAll.op' (sp_fieldAddrB rfl isBlk rfl ft26_0 vt3 (by decide)) trivial rfl (From.ok (ps := [(none, 2)]) ⟨⟨rfl, rfl⟩, trivial⟩) (DAll.op' (sp_loadB rfl isBlk rfl vt3 rfl) trivial rfl (From.ok (ps := [(none, 2)]) ⟨⟨rfl, rfl⟩, trivial⟩) (DAll.op' (sp_move rfl rfl) trivial rfl (From.ok (ps := []) trivial) (DAll.op' (sp_move rfl rfl) trivial rfl (From.ok (ps := []) trivial) (DAll.op' (sp_indexS rfl rfl rfl isRo sl22 h2 (map_get _ h3)) trivial rfl (From.ok (ps := [(none, 0)]) ⟨⟨rfl, rfl⟩, trivial⟩) (DAll.op' (sp_fieldAddrR (i := (i2 : Int).toNat) rfl rfl isRo ft33_0 vt3 (by decide) (map_get _ h3) (fun h => nomatch h)) trivial rfl (From.ok (ps := [(none, 0)]) ⟨⟨rfl, rfl⟩, trivial⟩) (DAll.op' (sp_loadR (i := (i2 : Int).toNat) (j := 0) rfl rfl isRo vt3 rfl (map_get _ h3) rfl (.v (.nil)) (nodup_of_B rfl)) trivial rfl (From.ok (ps := [(none, 0)]) ⟨⟨rfl, rfl⟩, trivial⟩) (DAll.op' (sp_mul rfl rfl rfl h4) trivial rfl (From.ok (ps := []) trivial) (DAll.op' (sp_fieldAddrB rfl isBlk rfl ft26_1 vt3 (by decide)) trivial rfl (From.ok (ps := [(none, 2)]) ⟨⟨rfl, rfl⟩, trivial⟩) (DAll.op' (sp_loadB rfl isBlk rfl vt3 rfl) trivial rfl (From.ok (ps := [(none, 2)]) ⟨⟨rfl, rfl⟩, trivial⟩) (DAll.op' (sp_move rfl rfl) trivial rfl (From.ok (ps := []) trivial) (DAll.op' (sp_move rfl rfl) trivial rfl (From.ok (ps := []) trivial) (DAll.op' (sp_indexS rfl rfl rfl isRo sl22 h2 (map_get _ h3)) trivial rfl (From.ok (ps := [(none, 0)]) ⟨⟨rfl, rfl⟩, trivial⟩) (DAll.op' (sp_fieldAddrR (i := (i2 : Int).toNat) rfl rfl isRo ft33_1 vt3 (by decide) (map_get _ h3) (fun h => nomatch h)) trivial rfl (From.ok (ps := [(none, 0)]) ⟨⟨rfl, rfl⟩, trivial⟩) (DAll.op' (sp_loadR (i := (i2 : Int).toNat) (j := 1) rfl rfl isRo vt3 rfl (map_get _ h3) rfl (.v (.nil)) (nodup_of_B rfl)) trivial rfl (From.ok (ps := [(none, 0)]) ⟨⟨rfl, rfl⟩, trivial⟩) (DAll.op' (sp_mul rfl rfl rfl h5) trivial rfl (From.ok (ps := []) trivial) (.nil))))))))))))))))
      obtain ⟨r9, h6, h⟩ := bind_inv h
      refine op0 (sp_call (avs := [.val (.int .i64 (i6 * x8.1)), .val (.int .i64 (i7 * x8.2))]) (need := []) (v := .agg [.val (.int .i64 r9.1), .val (.int .i64 r9.2)]) (news := []) rfl rfl rfl Try.call25 (atJ [] [] (fc_ref01_Lowest h6) rfl rfl) (.inl (roAll rfl))) rfl trivial rfl rfl ?_
      refine stoB 2 (cells' := [.val (.int .i64 r9.1), .val (.int .i64 r9.2)]) rfl rfl trivial rfl rfl rfl rfl vt26 rfl rfl rfl ?_
      refine TL.nil ?_
      refine TC.inBlock ?_
      refine TC.region ?_
      refine op0 (sp_move rfl rfl) rfl trivial rfl rfl ?_
      obtain ⟨h7, h⟩ := chk_inv h
      refine op0 (sp_add rfl rfl rfl h7) rfl trivial rfl rfl ?_
      refine op0 (sp_assign rfl rfl) rfl trivial rfl rfl ?_
      refine TL.nil ?_
      refine TC.inLoop ?_
      refine TC.seq ?_
      refine TC.seq ?_
      refine subJ [] (ih _ _ _ _ _ _ h) ?_ ?_ ?_
      · exact ⟨rfl, rfl, rfl, rfl, trivial⟩
      · exact ⟨mem_at 0 rfl, mem_at 1 rfl, mem_at 2 rfl, trivial⟩
      · rfl
    · have h := cond_f h h1
      refine TC.exit rfl ?_
      refine TC.seq ?_
      refine TC.region ?_
      refine op1 2 rfl (sp_loadBA rfl isBlk rfl vt26 rfl rfl) rfl trivial rfl rfl ?_
      refine stoB 1 (cells' := [.val (.int .i64 i6), .val (.int .i64 i7)]) rfl rfl trivial rfl rfl rfl rfl vt26 rfl rfl rfl ?_
      refine TL.nil ?_
      cases h
      exact retJ [] (.cells rfl (mem_at 1 rfl) isBlk vt26 rfl rfl (.nil)) rfl trivial rfl rfl
def ev_ref01_Turns (n : Nat) (l1 : List (Int × Int)) : Option (Int × Int) :=
  ev_ref01_Turns_l0 n n 0 l1 0 0 1 1
set_option maxRecDepth 100000 in
set_option maxHeartbeats 2000000 in
theorem fc_ref01_Turns {n : Nat} {l1 : List (Int × Int)} {r : Int × Int} (h : ev_ref01_Turns n l1 = some r) : FC Try.prog 17 [.ref 0] [.ro 0 2 (List.map en_api_TrainPair l1)] (.agg [.val (.int .i64 r.1), .val (.int .i64 r.2)]) [] := by
  refine introJ (nz := 30) Try.func17 rfl rfl rfl (fun w0 R0 env0 => ?_)
  rw [ev_ref01_Turns] at h
  refine TC.seq ?_
  refine TC.region ?_
  refine op0 (sp_alloc 1 rfl Try.zeroValue26 rfl) rfl trivial rfl rfl ?_
  refine TL.nil ?_
  refine TC.seq ?_
  refine TC.region ?_
  refine op0 (sp_build (qs := [(0, .val (.int .i64 1)), (1, .val (.int .i64 1))]) rfl bt26 rfl rfl rfl rfl) rfl trivial rfl rfl ?_
  refine op0 (sp_alloc 2 rfl Try.zeroValue26 rfl) rfl trivial rfl rfl ?_
  refine stoB 0 (cells' := [.val (.int .i64 1), .val (.int .i64 1)]) rfl rfl trivial rfl rfl rfl rfl vt26 rfl rfl rfl ?_
  refine TL.nil ?_
  refine TC.seq ?_
  refine TC.seq ?_
  refine TC.region ?_
  refine op0 (sp_assign rfl rfl) rfl trivial rfl rfl ?_
  refine TL.nil ?_
  refine TC.block ?_
  refine TC.loop ?_
  refine TC.seq ?_
  refine TC.seq ?_
  refine subJ [] (ok_ref01_Turns_l0 _ _ _ _ _ _ _ h) ?_ ?_ ?_
  · exact ⟨rfl, rfl, rfl, rfl, trivial⟩
  · exact ⟨mem_at 2 rfl, mem_at 1 rfl, mem_at 0 rfl, trivial⟩
  · rfl
/- ref01_Cycle -/
def ev_ref01_Cycle_l0 (n : Nat) : Nat → Int → Int → (List (Int × Int)) → Option Int
  | 0, _, _, _ => none
  | m + 1, i2, i3, l4 => cond (decide (i3 ≤ (l4.length : Int))) (chk (decide (0 ≤ (0 : Int)) && (decide ((0 : Int) ≤ i3) && decide (i3 ≤ (l4.length : Int)))) <| (ev_ref01_Turns n (List.drop (0 : Int).toNat (List.take (i3 : Int).toNat l4))).bind fun r5 => (ev_ref01_Gcd n i2 r5.2).bind fun r6 => chk (r6 != 0) <| chk (in64 (Int.tdiv r5.2 r6)) <| chk (in64 (i2 * (Int.tdiv r5.2 r6))) <| chk (in64 (i3 + 1)) <| ev_ref01_Cycle_l0 n m (i2 * (Int.tdiv r5.2 r6)) (i3 + 1) l4) (some i2)
set_option maxRecDepth 100000 in
set_option maxHeartbeats 2000000 in
theorem ok_ref01_Cycle_l0 {n : Nat} {w0 : World} {R0 : Nat → Prop} {env0 : Env} {r : Int} : ∀ (m : Nat) (i2 : Int) (i3 : Int) (l4 : List (Int × Int)), ev_ref01_Cycle_l0 n m i2 i3 l4 = some r → TC Try.prog ⟨w0, fun _ => False, R0⟩ 26 (bodyPost Try.prog Try.f18 (Post ⟨w0, fun _ => False, R0⟩ env0 (.val (.int .i64 r)) [])) [.code (sub (bodyOf Try.f18) [1, 1, 0, 1, 0, 0, 0, 0]), .code (sub (bodyOf Try.f18) [1, 1, 0, 1, 0, 0, 0, 1]), .code (sub (bodyOf Try.f18) [1, 1, 0, 1, 0, 0, 1]), .inLoop (sub (bodyOf Try.f18) [1, 1, 0, 1, 0, 0]), .inBlock 0, .code (sub (bodyOf Try.f18) [1, 1, 1])] ([(0, .ref 0), (3, .val (.int .i64 i2)), (4, .val (.int .i64 i3))]) ([.ro 0 2 (List.map en_api_TrainPair l4)]) := by
  intro m
  induction m with
  | zero => intro i2 i3 l4 h; exact none_no h
  | succ m ih =>
    intro i2 i3 l4 h
    rw [ev_ref01_Cycle_l0] at h
    refine TC.region ?_
    refine op0 (sp_move rfl rfl) rfl trivial rfl rfl ?_
    refine op0 (sp_move rfl rfl) rfl trivial rfl rfl ?_
    refine op1 0 rfl (sp_lenM (N := l4.length) (len_map _ _) rfl rfl isRo Try.underlying22) rfl trivial rfl rfl ?_
    refine op0 (sp_leq rfl rfl rfl) rfl trivial rfl rfl ?_
    refine TL.nil ?_
    refine TC.cond (b := (decide (i3 ≤ (l4.length : Int)))) rfl (fun h1 => ?_) (fun h1 => ?_)
    · have h := cond_t h h1
      refine TC.skip ?_
      refine TC.seq ?_
      refine TC.block ?_
      refine TC.seq ?_
      refine TC.region ?_
      refine op0 (sp_move rfl rfl) rfl trivial rfl rfl ?_
      refine op0 (sp_move rfl rfl) rfl trivial rfl rfl ?_
      obtain ⟨h2, h⟩ := chk_inv h
      refine op1 0 rfl (sp_sliceM (l := 0) (h := i3) 1 (len_map _ _) rfl rfl sl22 cut_none (cut_some rfl) h2 (map_cut _ _ _ _)) rfl trivial rfl rfl ?_
      obtain ⟨r5, h3, h⟩ := bind_inv h
      refine op1 0 rfl (sp_call (avs := [.ref 1]) (need := [.ro 1 2 (List.map en_api_TrainPair (List.drop (0 : Int).toNat (List.take (i3 : Int).toNat l4)))]) (v := .agg [.val (.int .i64 r5.1), .val (.int .i64 r5.2)]) (news := []) rfl rfl rfl Try.call17 (atJ [(0, 1)] [] (fc_ref01_Turns h3) rfl rfl) (.inl (roAll rfl))) rfl trivial rfl rfl ?_
      refine op0 (sp_alloc 2 rfl Try.zeroValue26 rfl) rfl trivial rfl rfl ?_
      refine stoB 0 (cells' := [.val (.int .i64 r5.1), .val (.int .i64 r5.2)]) rfl rfl trivial rfl rfl rfl rfl vt26 rfl rfl rfl ?_
      refine TL.nil ?_
      obtain ⟨r6, h4, h⟩ := bind_inv h
      obtain ⟨h5, h⟩ := chk_inv h
      obtain ⟨h6, h⟩ := chk_inv h
      refine drawJ 8 [⟨.val (.int .i64 i2), [], [], []⟩, ⟨.ptr 2 1, [], [.blk 2 [.val (.int .i64 r5.1), .val (.int .i64 r5.2)] 26], []⟩, ⟨.val (.int .i64 r5.2), [], [.blk 2 [.val (.int .i64 r5.1), .val (.int .i64 r5.2)] 26], []⟩, ⟨.val (.int .i64 i2), [], [], []⟩, ⟨.ptr 2 1, [], [.blk 2 [.val (.int .i64 r5.1), .val (.int .i64 r5.2)] 26], []⟩, ⟨.val (.int .i64 r5.2), [], [.blk 2 [.val (.int .i64 r5.1), .val (.int .i64 r5.2)] 26], []⟩, ⟨.val (.int .i64 r6), [], [], []⟩, ⟨.val (.int .i64 (Int.tdiv r5.2 r6)), [], [], []⟩] rfl ?_ rfl ?_ rfl ?_ ?_
      · kernel_rfl
      · kernel_rfl
      · exact DAll.op' (sp_move rfl rfl) trivial rfl (From.ok (ps := []) trivial) (DAll.op' (sp_fieldAddrB rfl isBlk rfl ft26_1 vt3 (by decide)) trivial rfl (From.ok (ps := [(none, 0)]) ⟨⟨rfl, rfl⟩, trivial⟩) (DAll.op' (sp_loadB rfl isBlk rfl vt3 rfl) trivial rfl (From.ok (ps := [(none, 0)]) ⟨⟨rfl, rfl⟩, trivial⟩) (DAll.op' (sp_move rfl rfl) trivial rfl (From.ok (ps := []) trivial) (DAll.op' (sp_fieldAddrB rfl isBlk rfl ft26_1 vt3 (by decide)) trivial rfl (From.ok (ps := [(none, 0)]) ⟨⟨rfl, rfl⟩, trivial⟩) (DAll.op' (sp_loadB rfl isBlk rfl vt3 rfl) trivial rfl (From.ok (ps := [(none, 0)]) ⟨⟨rfl, rfl⟩, trivial⟩) (DAll.op' (sp_call (avs := [.val (.int .i64 i2), .val (.int .i64 r5.2)]) (need := []) (v := .val (.int .i64 r6)) (news := []) rfl rfl rfl Try.call48 (atJ [] [] (fc_ref01_Gcd h4) rfl rfl) (.inl (roAll rfl))) trivial rfl (From.ok (ps := []) trivial) (DAll.op' (sp_quo rfl rfl rfl h5 h6) trivial rfl (From.ok (ps := []) trivial) (.nil))))))))
      obtain ⟨h7, h⟩ := chk_inv h
      refine op0 (sp_mul rfl rfl rfl h7) rfl trivial rfl rfl ?_
      refine op0 (sp_assign rfl rfl) rfl trivial rfl rfl ?_
      refine TL.nil ?_
      refine TC.inBlock ?_
      refine TC.region ?_
      refine op0 (sp_move rfl rfl) rfl trivial rfl rfl ?_
      obtain ⟨h8, h⟩ := chk_inv h
      refine op0 (sp_add rfl rfl rfl h8) rfl trivial rfl rfl ?_
      refine op0 (sp_assign rfl rfl) rfl trivial rfl rfl ?_
      refine TL.nil ?_
      refine TC.inLoop ?_
      refine TC.seq ?_
      refine TC.seq ?_
      refine subJ [] (ih _ _ _ h) ?_ ?_ ?_
      · exact ⟨rfl, rfl, rfl, trivial⟩
      · exact ⟨mem_at 2 rfl, trivial⟩
      · rfl
    · have h := cond_f h h1
      refine TC.exit rfl ?_
      refine TC.seq ?_
      refine TC.region ?_
      refine op0 (sp_move rfl rfl) rfl trivial rfl rfl ?_
      refine op0 (sp_assign rfl rfl) rfl trivial rfl rfl ?_
      refine TL.nil ?_
      cases h
      exact retJ [] (.tmp rfl .nil) rfl trivial rfl rfl
def ev_ref01_Cycle (n : Nat) (l1 : List (Int × Int)) : Option Int :=
  ev_ref01_Cycle_l0 n n 1 1 l1
set_option maxRecDepth 100000 in
set_option maxHeartbeats 2000000 in
theorem fc_ref01_Cycle {n : Nat} {l1 : List (Int × Int)} {r : Int} (h : ev_ref01_Cycle n l1 = some r) : FC Try.prog 18 [.ref 0] [.ro 0 2 (List.map en_api_TrainPair l1)] (.val (.int .i64 r)) [] := by
  refine introJ (nz := 26) Try.func18 rfl rfl rfl (fun w0 R0 env0 => ?_)
  rw [ev_ref01_Cycle] at h
  refine TC.seq ?_
  refine TC.region ?_
  refine op0 (sp_assign rfl rfl) rfl trivial rfl rfl ?_
  refine TL.nil ?_
  refine TC.seq ?_
  refine TC.region ?_
  refine op0 (sp_assign rfl rfl) rfl trivial rfl rfl ?_
  refine TL.nil ?_
  refine TC.seq ?_
  refine TC.seq ?_
  refine TC.region ?_
  refine op0 (sp_assign rfl rfl) rfl trivial rfl rfl ?_
  refine TL.nil ?_
  refine TC.block ?_
  refine TC.loop ?_
  refine TC.seq ?_
  refine TC.seq ?_
  refine subJ [] (ok_ref01_Cycle_l0 _ _ _ _ h) ?_ ?_ ?_
  · exact ⟨rfl, rfl, rfl, trivial⟩
  · exact ⟨mem_at 0 rfl, trivial⟩
  · rfl
/- ref01_Counts -/
def ev_ref01_Counts_l0 (n : Nat) (l1 : List Int) : Nat → Int → Option Bool
  | 0, _ => none
  | m + 1, i2 => cond (decide (i2 < (l1.length : Int))) (idx l1 i2 fun x3 => (ev_ref01_Teeth n x3).bind fun r4 => cond (!r4) (some false) (cond (decide ((0 : Int) < i2)) (chk (in64 (i2 - 1)) <| idx l1 (i2 - 1) fun x5 => cond (decide (x3 ≤ x5)) (some false) (chk (in64 (i2 + 1)) <| ev_ref01_Counts_l0 n l1 m (i2 + 1))) (chk (in64 (i2 + 1)) <| ev_ref01_Counts_l0 n l1 m (i2 + 1)))) (some (decide ((0 : Int) < (l1.length : Int))))
set_option maxRecDepth 100000 in
set_option maxHeartbeats 2000000 in
theorem ok_ref01_Counts_l0 {n : Nat} {w0 : World} {R0 : Nat → Prop} {env0 : Env} {r : Bool} {l1 : List Int} : ∀ (m : Nat) (i2 : Int), ev_ref01_Counts_l0 n l1 m i2 = some r → TC Try.prog ⟨w0, fun _ => False, R0⟩ 35 (bodyPost Try.prog Try.f59 (Post ⟨w0, fun _ => False, R0⟩ env0 (.val (.bool r)) [])) [.code (sub (bodyOf Try.f59) [1, 0, 1, 0, 0, 0, 0]), .code (sub (bodyOf Try.f59) [1, 0, 1, 0, 0, 0, 1]), .code (sub (bodyOf Try.f59) [1, 0, 1, 0, 0, 1]), .inLoop (sub (bodyOf Try.f59) [1, 0, 1, 0, 0]), .inBlock 0, .code (sub (bodyOf Try.f59) [1, 1])] ([(0, .ref 0), (3, .val (.int .i64 i2))]) ([.ro 0 1 (List.map en_int l1)]) := by
  intro m
  induction m with
  | zero => intro i2 h; exact none_no h
  | succ m ih =>
    intro i2 h
    rw [ev_ref01_Counts_l0] at h
    refine TC.region ?_
    refine op0 (sp_move rfl rfl) rfl trivial rfl rfl ?_
    refine op0 (sp_move rfl rfl) rfl trivial rfl rfl ?_
    refine op1 0 rfl (sp_lenM (N := l1.length) (len_map _ _) rfl rfl isRo Try.underlying38) rfl trivial rfl rfl ?_
    refine op0 (sp_lss rfl rfl rfl) rfl trivial rfl rfl ?_
    refine TL.nil ?_
    refine TC.cond (b := (decide (i2 < (l1.length : Int)))) rfl (fun h1 => ?_) (fun h1 => ?_)
    · have h := cond_t h h1
      refine TC.skip ?_
      refine TC.seq ?_
      refine TC.block ?_
      refine TC.seq ?_
      obtain ⟨x3, h2, h3, h⟩ := idx_inv h
      obtain ⟨r4, h4, h⟩ := bind_inv h
      rcases cond_cases h with ⟨h5, h⟩ | ⟨h5, h⟩
      · refine drawJ 19 [⟨.ref 0, [], [], []⟩, ⟨.val (.int .i64 i2), [], [], []⟩, ⟨.cell 0 ((i2 : Int).toNat * 1), [], [.ro 0 1 (List.map en_int l1)], []⟩, ⟨.val (.int .i64 x3), [], [.ro 0 1 (List.map en_int l1)], []⟩, ⟨.val (.bool r4), [], [], []⟩, ⟨.val (.bool (!r4)), [], [], []⟩, ⟨.val (.bool true), [], [], []⟩, ⟨.val (undef), [], [], []⟩, ⟨.val (undef), [], [], []⟩, ⟨.val (undef), [], [], []⟩, ⟨.val (undef), [], [], []⟩, ⟨.val (undef), [], [], []⟩, ⟨.val (undef), [], [], []⟩, ⟨.val (undef), [], [], []⟩, ⟨.val (undef), [], [], []⟩, ⟨.val (undef), [], [], []⟩, ⟨.val (undef), [], [], []⟩, ⟨.val (undef), [], [], []⟩, ⟨.val (undef), [], [], []⟩] rfl ?_ rfl ?_ rfl ?_ ?_
        · kernel_rfl
        · kernel_rfl
        · exact DAll.op' (sp_move rfl rfl) trivial rfl (From.ok (ps := []) trivial) (DAll.op' (sp_move rfl rfl) trivial rfl (From.ok (ps := []) trivial) (DAll.op' (sp_indexS rfl rfl rfl isRo sl38 h2 (map_get _ h3)) trivial rfl (From.ok (ps := [(none, 0)]) ⟨⟨rfl, by kernel_rfl⟩, trivial⟩) (DAll.op' (sp_loadR (i := (i2 : Int).toNat) (j := 0) rfl rfl isRo vt3 rfl (map_get _ h3) rfl (.v (.nil)) (nodup_of_B rfl)) trivial rfl (From.ok (ps := [(none, 0)]) ⟨⟨rfl, by kernel_rfl⟩, trivial⟩) (DAll.op' (sp_call (avs := [.val (.int .i64 x3)]) (need := []) (v := .val (.bool r4)) (news := []) rfl rfl rfl Try.call47 (atJ [] [] (fc_ref01_Teeth h4) rfl rfl) (.inl (roAll rfl))) trivial rfl (From.ok (ps := []) trivial) (DAll.op' (sp_not rfl rfl) trivial rfl (From.ok (ps := []) trivial) (DAll.op' (sp_castB h5 (sp_move rfl rfl)) trivial rfl (From.ok (ps := []) trivial) (.skip ⟨_, rfl, .inl rfl⟩ rfl rfl rfl (.skip ⟨_, rfl, .inl rfl⟩ rfl rfl rfl (.skip ⟨_, rfl, .inl rfl⟩ rfl rfl rfl (.skip ⟨_, rfl, .inr rfl⟩ rfl rfl rfl (.skip ⟨_, rfl, .inr rfl⟩ rfl rfl rfl (.skip ⟨_, rfl, .inr rfl⟩ rfl rfl rfl (.skip ⟨_, rfl, .inr rfl⟩ rfl rfl rfl (.skip ⟨_, rfl, .inr rfl⟩ rfl rfl rfl (.skip ⟨_, rfl, .inr rfl⟩ rfl rfl rfl (.skip ⟨_, rfl, .inr rfl⟩ rfl rfl rfl (.skip ⟨_, rfl, .inr rfl⟩ rfl rfl rfl (.skip ⟨_, rfl, .inr rfl⟩ rfl rfl rfl (.nil)))))))))))))))))))
        refine opSkip rfl ⟨_, rfl, .inr rfl⟩ rfl ?_
        refine opSkip rfl ⟨_, rfl, .inl rfl⟩ rfl ?_
        refine op0 (sp_pickT rfl rfl rfl) rfl trivial rfl rfl ?_
        refine TL.nil ?_
        refine TC.condT rfl ?_
        refine TC.seq ?_
        refine TC.region ?_
        refine op0 (sp_assign rfl rfl) rfl trivial rfl rfl ?_
        refine TL.nil ?_
        cases h
        exact retJ [] (.tmp rfl .nil) rfl trivial rfl rfl
      · rcases cond_cases h with ⟨h6, h⟩ | ⟨h6, h⟩
        · obtain ⟨h7, h⟩ := chk_inv h
          obtain ⟨x5, h8, h9, h⟩ := idx_inv h
          refine drawJ 19 [⟨.ref 0, [], [], []⟩, ⟨.val (.int .i64 i2), [], [], []⟩, ⟨.cell 0 ((i2 : Int).toNat * 1), [], [.ro 0 1 (List.map en_int l1)], []⟩, ⟨.val (.int .i64 x3), [], [.ro 0 1 (List.map en_int l1)], []⟩, ⟨.val (.bool r4), [], [], []⟩, ⟨.val (.bool (!r4)), [], [], []⟩, ⟨.val (.bool false), [], [], []⟩, ⟨.val (.int .i64 i2), [], [], []⟩, ⟨.val (.bool (decide ((0 : Int) < i2))), [], [], []⟩, ⟨.val (.bool true), [], [], []⟩, ⟨.ref 0, [], [], []⟩, ⟨.val (.int .i64 i2), [], [], []⟩, ⟨.cell 0 ((i2 : Int).toNat * 1), [], [.ro 0 1 (List.map en_int l1)], []⟩, ⟨.val (.int .i64 x3), [], [.ro 0 1 (List.map en_int l1)], []⟩, ⟨.ref 0, [], [], []⟩, ⟨.val (.int .i64 i2), [], [], []⟩, ⟨.val (.int .i64 (i2 - 1)), [], [], []⟩, ⟨.cell 0 (((i2 - 1) : Int).toNat * 1), [], [.ro 0 1 (List.map en_int l1)], []⟩, ⟨.val (.int .i64 x5), [], [.ro 0 1 (List.map en_int l1)], []⟩] rfl ?_ rfl ?_ rfl ?_ ?_
          · kernel_rfl
          · kernel_rfl
          · exact DAll.op' (sp_move rfl rfl) trivial rfl (From.ok (ps := []) trivial) (DAll.op' (sp_move rfl rfl) trivial rfl (From.ok (ps := []) trivial) (DAll.op' (sp_indexS rfl rfl rfl isRo sl38 h2 (map_get _ h3)) trivial rfl (From.ok (ps := [(none, 0)]) ⟨⟨rfl, by kernel_rfl⟩, trivial⟩) (DAll.op' (sp_loadR (i := (i2 : Int).toNat) (j := 0) rfl rfl isRo vt3 rfl (map_get _ h3) rfl (.v (.nil)) (nodup_of_B rfl)) trivial rfl (From.ok (ps := [(none, 0)]) ⟨⟨rfl, by kernel_rfl⟩, trivial⟩) (DAll.op' (sp_call (avs := [.val (.int .i64 x3)]) (need := []) (v := .val (.bool r4)) (news := []) rfl rfl rfl Try.call47 (atJ [] [] (fc_ref01_Teeth h4) rfl rfl) (.inl (roAll rfl))) trivial rfl (From.ok (ps := []) trivial) (DAll.op' (sp_not rfl rfl) trivial rfl (From.ok (ps := []) trivial) (DAll.op' (sp_castB h5 (sp_move rfl rfl)) trivial rfl (From.ok (ps := []) trivial) (DAll.op' (sp_move rfl rfl) ⟨_, rfl, rfl⟩ rfl (From.ok (ps := []) trivial) (DAll.op' (sp_gtr rfl rfl rfl) ⟨_, rfl, rfl⟩ rfl (From.ok (ps := []) trivial) (DAll.op' (sp_castB h6 (sp_move rfl rfl)) ⟨_, rfl, rfl⟩ rfl (From.ok (ps := []) trivial) (DAll.op' (sp_move rfl rfl) ⟨_, rfl, rfl⟩ rfl (From.ok (ps := []) trivial) (DAll.op' (sp_move rfl rfl) ⟨_, rfl, rfl⟩ rfl (From.ok (ps := []) trivial) (DAll.op' (sp_indexS rfl rfl rfl isRo sl38 h2 (map_get _ h3)) ⟨_, rfl, rfl⟩ rfl (From.ok (ps := [(none, 0)]) ⟨⟨rfl, by kernel_rfl⟩, trivial⟩) (DAll.op' (sp_loadR (i := (i2 : Int).toNat) (j := 0) rfl rfl isRo vt3 rfl (map_get _ h3) rfl (.v (.nil)) (nodup_of_B rfl)) ⟨_, rfl, rfl⟩ rfl (From.ok (ps := [(none, 0)]) ⟨⟨rfl, by kernel_rfl⟩, trivial⟩) (DAll.op' (sp_move rfl rfl) ⟨_, rfl, rfl⟩ rfl (From.ok (ps := []) trivial) (DAll.op' (sp_move rfl rfl) ⟨_, rfl, rfl⟩ rfl (From.ok (ps := []) trivial) (DAll.op' (sp_sub rfl rfl rfl h7) ⟨_, rfl, rfl⟩ rfl (From.ok (ps := []) trivial) (DAll.op' (sp_indexS rfl rfl rfl isRo sl38 h8 (map_get _ h9)) ⟨_, rfl, rfl⟩ rfl (From.ok (ps := [(none, 0)]) ⟨⟨rfl, by kernel_rfl⟩, trivial⟩) (DAll.op' (sp_loadR (i := ((i2 - 1) : Int).toNat) (j := 0) rfl rfl isRo vt3 rfl (map_get _ h9) rfl (.v (.nil)) (nodup_of_B rfl)) ⟨_, rfl, rfl⟩ rfl (From.ok (ps := [(none, 0)]) ⟨⟨rfl, by kernel_rfl⟩, trivial⟩) (.nil)))))))))))))))))))
          refine op0 (sp_leq rfl rfl rfl) rfl ⟨_, rfl, rfl⟩ rfl rfl ?_
          refine op0 (sp_pickT rfl rfl rfl) rfl ⟨_, rfl, rfl⟩ rfl rfl ?_
          refine op0 (sp_pickF rfl rfl rfl) rfl trivial rfl rfl ?_
          refine TL.nil ?_
          refine TC.cond (b := (decide (x3 ≤ x5))) rfl (fun h10 => ?_) (fun h10 => ?_)
          · have h := cond_t h h10
            refine TC.seq ?_
            refine TC.region ?_
            refine op0 (sp_assign rfl rfl) rfl trivial rfl rfl ?_
            refine TL.nil ?_
            cases h
            exact retJ [] (.tmp rfl .nil) rfl trivial rfl rfl
          · have h := cond_f h h10
            refine TC.skip ?_
            refine TC.inBlock ?_
            refine TC.region ?_
            refine op0 (sp_move rfl rfl) rfl trivial rfl rfl ?_
            obtain ⟨h11, h⟩ := chk_inv h
            refine op0 (sp_add rfl rfl rfl h11) rfl trivial rfl rfl ?_
            refine op0 (sp_assign rfl rfl) rfl trivial rfl rfl ?_
            refine TL.nil ?_
            refine TC.inLoop ?_
            refine TC.seq ?_
            refine TC.seq ?_
            refine subJ [] (ih _ h) ?_ ?_ ?_
            · exact ⟨rfl, rfl, trivial⟩
            · exact ⟨mem_at 0 rfl, trivial⟩
            · rfl
        · refine drawJ 19 [⟨.ref 0, [], [], []⟩, ⟨.val (.int .i64 i2), [], [], []⟩, ⟨.cell 0 ((i2 : Int).toNat * 1), [], [.ro 0 1 (List.map en_int l1)], []⟩, ⟨.val (.int .i64 x3), [], [.ro 0 1 (List.map en_int l1)], []⟩, ⟨.val (.bool r4), [], [], []⟩, ⟨.val (.bool (!r4)), [], [], []⟩, ⟨.val (.bool false), [], [], []⟩, ⟨.val (.int .i64 i2), [], [], []⟩, ⟨.val (.bool (decide ((0 : Int) < i2))), [], [], []⟩, ⟨.val (.bool false), [], [], []⟩, ⟨.val (undef), [], [], []⟩, ⟨.val (undef), [], [], []⟩, ⟨.val (undef), [], [], []⟩, ⟨.val (undef), [], [], []⟩, ⟨.val (undef), [], [], []⟩, ⟨.val (undef), [], [], []⟩, ⟨.val (undef), [], [], []⟩, ⟨.val (undef), [], [], []⟩, ⟨.val (undef), [], [], []⟩] rfl ?_ rfl ?_ rfl ?_ ?_
          · kernel_rfl
          · kernel_rfl
          · exact DAll.op' (sp_move rfl rfl) trivial rfl (From.ok (ps := []) trivial) (DAll.op' (sp_move rfl rfl) trivial rfl (From.ok (ps := []) trivial) (DAll.op' (sp_indexS rfl rfl rfl isRo sl38 h2 (map_get _ h3)) trivial rfl (From.ok (ps := [(none, 0)]) ⟨⟨rfl, by kernel_rfl⟩, trivial⟩) (DAll.op' (sp_loadR (i := (i2 : Int).toNat) (j := 0) rfl rfl isRo vt3 rfl (map_get _ h3) rfl (.v (.nil)) (nodup_of_B rfl)) trivial rfl (From.ok (ps := [(none, 0)]) ⟨⟨rfl, by kernel_rfl⟩, trivial⟩) (DAll.op' (sp_call (avs := [.val (.int .i64 x3)]) (need := []) (v := .val (.bool r4)) (news := []) rfl rfl rfl Try.call47 (atJ [] [] (fc_ref01_Teeth h4) rfl rfl) (.inl (roAll rfl))) trivial rfl (From.ok (ps := []) trivial) (DAll.op' (sp_not rfl rfl) trivial rfl (From.ok (ps := []) trivial) (DAll.op' (sp_castB h5 (sp_move rfl rfl)) trivial rfl (From.ok (ps := []) trivial) (DAll.op' (sp_move rfl rfl) ⟨_, rfl, rfl⟩ rfl (From.ok (ps := []) trivial) (DAll.op' (sp_gtr rfl rfl rfl) ⟨_, rfl, rfl⟩ rfl (From.ok (ps := []) trivial) (DAll.op' (sp_castB h6 (sp_move rfl rfl)) ⟨_, rfl, rfl⟩ rfl (From.ok (ps := []) trivial) (.skip ⟨_, rfl, .inl rfl⟩ rfl rfl rfl (.skip ⟨_, rfl, .inl rfl⟩ rfl rfl rfl (.skip ⟨_, rfl, .inl rfl⟩ rfl rfl rfl (.skip ⟨_, rfl, .inl rfl⟩ rfl rfl rfl (.skip ⟨_, rfl, .inl rfl⟩ rfl rfl rfl (.skip ⟨_, rfl, .inl rfl⟩ rfl rfl rfl (.skip ⟨_, rfl, .inl rfl⟩ rfl rfl rfl (.skip ⟨_, rfl, .inl rfl⟩ rfl rfl rfl (.skip ⟨_, rfl, .inl rfl⟩ rfl rfl rfl (.nil)))))))))))))))))))
          refine opSkip rfl ⟨_, rfl, .inl rfl⟩ rfl ?_
          refine op0 (sp_pickF rfl rfl rfl) rfl ⟨_, rfl, rfl⟩ rfl rfl ?_
          refine op0 (sp_pickF rfl rfl rfl) rfl trivial rfl rfl ?_
          refine TL.nil ?_
          refine TC.condF rfl ?_
          refine TC.skip ?_
          refine TC.inBlock ?_
          refine TC.region ?_
          refine op0 (sp_move rfl rfl) rfl trivial rfl rfl ?_
          obtain ⟨h12, h⟩ := chk_inv h
          refine op0 (sp_add rfl rfl rfl h12) rfl trivial rfl rfl ?_
          refine op0 (sp_assign rfl rfl) rfl trivial rfl rfl ?_
          refine TL.nil ?_
          refine TC.inLoop ?_
          refine TC.seq ?_
          refine TC.seq ?_
          refine subJ [] (ih _ h) ?_ ?_ ?_
          · exact ⟨rfl, rfl, trivial⟩
          · exact ⟨mem_at 0 rfl, trivial⟩
          · rfl
    · have h := cond_f h h1
      refine TC.exit rfl ?_
      refine TC.seq ?_
      refine TC.region ?_
      refine op0 (sp_move rfl rfl) rfl trivial rfl rfl ?_
      refine op1 0 rfl (sp_lenM (N := l1.length) (len_map _ _) rfl rfl isRo Try.underlying38) rfl trivial rfl rfl ?_
      refine op0 (sp_gtr rfl rfl rfl) rfl trivial rfl rfl ?_
      refine op0 (sp_assign rfl rfl) rfl trivial rfl rfl ?_
      refine TL.nil ?_
      cases h
      exact retJ [] (.tmp rfl .nil) rfl trivial rfl rfl
def ev_ref01_Counts (n : Nat) (l1 : List Int) : Option Bool :=
  ev_ref01_Counts_l0 n l1 n 0
set_option maxRecDepth 100000 in
set_option maxHeartbeats 2000000 in
theorem fc_ref01_Counts {n : Nat} {l1 : List Int} {r : Bool} (h : ev_ref01_Counts n l1 = some r) : FC Try.prog 59 [.ref 0] [.ro 0 1 (List.map en_int l1)] (.val (.bool r)) [] := by
  refine introJ (nz := 35) Try.func59 rfl rfl rfl (fun w0 R0 env0 => ?_)
  rw [ev_ref01_Counts] at h
  refine TC.seq ?_
  refine TC.region ?_
  refine op0 (sp_assign rfl rfl) rfl trivial rfl rfl ?_
  refine TL.nil ?_
  refine TC.seq ?_
  refine TC.seq ?_
  refine TC.region ?_
  refine op0 (sp_assign rfl rfl) rfl trivial rfl rfl ?_
  refine TL.nil ?_
  refine TC.block ?_
  refine TC.loop ?_
  refine TC.seq ?_
  refine TC.seq ?_
  refine subJ [] (ok_ref01_Counts_l0 _ _ h) ?_ ?_ ?_
  · exact ⟨rfl, rfl, trivial⟩
  · exact ⟨mem_at 0 rfl, trivial⟩
  · rfl
/- ref01_Check -/
def ev_ref01_Check_j0 (n : Nat) (s1 : List Int) (s2 : List Int) : Option Int :=
  (ev_ref01_Counts n s1).bind fun r3 => cond (!r3) (some 2) ((ev_ref01_Counts n s2).bind fun r4 => cond (!r4) (some 2) (some 0))
set_option maxRecDepth 100000 in
set_option maxHeartbeats 2000000 in
theorem ok_ref01_Check_j0 {n : Nat} {w0 : World} {R0 : Nat → Prop} {env0 : Env} {r : Int} {s1 : List Int} {s2 : List Int} (h : ev_ref01_Check_j0 n s1 s2 = some r) : TC Try.prog ⟨w0, fun _ => False, R0⟩ 23 (bodyPost Try.prog Try.f23 (Post ⟨w0, fun _ => False, R0⟩ env0 (.val (.int .i64 r)) [])) [.code (sub (bodyOf Try.f23) [1, 0, 1, 1]), .code (sub (bodyOf Try.f23) [1, 1])] ([(1, .ptr 2 0)]) ([.blk 2 [.ref 0, .ref 1] 40, .ro 0 1 (List.map en_int s1), .ro 1 1 (List.map en_int s2)]) := by
  rw [ev_ref01_Check_j0] at h
  refine TC.skip ?_
  refine TC.seq ?_
  refine TC.seq ?_
  refine TC.region ?_
  refine op1 0 rfl (sp_fieldAddrB rfl isBlk rfl ft40_0 vt38 (by decide)) rfl trivial rfl rfl ?_
  refine op1 0 rfl (sp_loadB rfl isBlk rfl vt38 rfl) rfl trivial rfl rfl ?_
  obtain ⟨r3, h3, h⟩ := bind_inv h
  refine op1 1 rfl (sp_call (avs := [.ref 0]) (need := [.ro 0 1 (List.map en_int s1)]) (v := .val (.bool r3)) (news := []) rfl rfl rfl Try.call59 (atJ [] [] (fc_ref01_Counts h3) rfl rfl) (.inl (roAll rfl))) rfl trivial rfl rfl ?_
  refine op0 (sp_not rfl rfl) rfl trivial rfl rfl ?_
  refine op0 (sp_move rfl rfl) rfl trivial rfl rfl ?_
  rcases cond_cases h with ⟨h4, h⟩ | ⟨h4, h⟩
  · refine (boolLit 17 rfl h4).2 ?_
    refine opSkip rfl ⟨_, rfl, .inl rfl⟩ rfl ?_
    refine opSkip rfl ⟨_, rfl, .inl rfl⟩ rfl ?_
    refine opSkip rfl ⟨_, rfl, .inl rfl⟩ rfl ?_
    refine opSkip rfl ⟨_, rfl, .inl rfl⟩ rfl ?_
    refine op0 (sp_pickT rfl rfl rfl) rfl trivial rfl rfl ?_
    refine TL.nil ?_
    refine TC.condT rfl ?_
    refine TC.seq ?_
    refine TC.region ?_
    refine op0 (sp_assign rfl rfl) rfl trivial rfl rfl ?_
    refine TL.nil ?_
    cases h
    exact retJ [] (.tmp rfl .nil) rfl trivial rfl rfl
  · refine (boolLit 17 rfl h4).2 ?_
    refine op1 0 rfl (sp_fieldAddrB rfl isBlk rfl ft40_1 vt38 (by decide)) rfl ⟨_, rfl, rfl⟩ rfl rfl ?_
    refine op1 0 rfl (sp_loadB rfl isBlk rfl vt38 rfl) rfl ⟨_, rfl, rfl⟩ rfl rfl ?_
    obtain ⟨r4, h5, h⟩ := bind_inv h
    refine op1 2 rfl (sp_call (avs := [.ref 1]) (need := [.ro 1 1 (List.map en_int s2)]) (v := .val (.bool r4)) (news := []) rfl rfl rfl Try.call59 (atJ [(0, 1)] [] (fc_ref01_Counts h5) rfl rfl) (.inl (roAll rfl))) rfl ⟨_, rfl, rfl⟩ rfl rfl ?_
    refine op0 (sp_not rfl rfl) rfl ⟨_, rfl, rfl⟩ rfl rfl ?_
    refine op0 (sp_pickF rfl rfl rfl) rfl trivial rfl rfl ?_
    refine TL.nil ?_
    refine TC.cond (b := (!r4)) rfl (fun h6 => ?_) (fun h6 => ?_)
    · have h := cond_t h h6
      refine TC.seq ?_
      refine TC.region ?_
      refine op0 (sp_assign rfl rfl) rfl trivial rfl rfl ?_
      refine TL.nil ?_
      cases h
      exact retJ [] (.tmp rfl .nil) rfl trivial rfl rfl
    · have h := cond_f h h6
      refine TC.skip ?_
      refine TC.seq ?_
      refine TC.region ?_
      refine op0 (sp_assign rfl rfl) rfl trivial rfl rfl ?_
      refine TL.nil ?_
      cases h
      exact retJ [] (.tmp rfl .nil) rfl trivial rfl rfl
def ev_ref01_Check (n : Nat) (s1 : List Int) (s2 : List Int) : Option Int :=
  cond (decide ((12 : Int) < (s1.length : Int))) (some 5) (cond (decide ((12 : Int) < (s2.length : Int))) (some 5) (ev_ref01_Check_j0 n s1 s2))
set_option maxRecDepth 100000 in
set_option maxHeartbeats 2000000 in
theorem fc_ref01_Check {n : Nat} {s1 : List Int} {s2 : List Int} {r : Int} (h : ev_ref01_Check n s1 s2 = some r) : FC Try.prog 23 [.agg [.ref 0, .ref 1]] [.ro 0 1 (List.map en_int s1), .ro 1 1 (List.map en_int s2)] (.val (.int .i64 r)) [] := by
  refine introJ (nz := 23) Try.func23 rfl rfl rfl (fun w0 R0 env0 => ?_)
  rw [ev_ref01_Check] at h
  refine TC.seq ?_
  refine TC.region ?_
  refine op0 (sp_box 2 rfl rfl rfl rfl rfl) rfl trivial rfl rfl ?_
  refine op0 (sp_assign rfl rfl) rfl trivial rfl rfl ?_
  refine TL.nil ?_
  refine TC.seq ?_
  refine TC.seq ?_
  refine TC.region ?_
  refine op1 0 rfl (sp_fieldAddrB rfl isBlk rfl ft40_0 vt38 (by decide)) rfl trivial rfl rfl ?_
  refine op1 0 rfl (sp_loadB rfl isBlk rfl vt38 rfl) rfl trivial rfl rfl ?_
  refine op1 1 rfl (sp_lenM (N := s1.length) (len_map _ _) rfl rfl isRo Try.underlying38) rfl trivial rfl rfl ?_
  refine op0 (sp_gtr rfl rfl rfl) rfl trivial rfl rfl ?_
  refine op0 (sp_move rfl rfl) rfl trivial rfl rfl ?_
  rcases cond_cases h with ⟨h1, h⟩ | ⟨h1, h⟩
  · refine (boolLit 7 rfl h1).2 ?_
    refine opSkip rfl ⟨_, rfl, .inl rfl⟩ rfl ?_
    refine opSkip rfl ⟨_, rfl, .inl rfl⟩ rfl ?_
    refine opSkip rfl ⟨_, rfl, .inl rfl⟩ rfl ?_
    refine opSkip rfl ⟨_, rfl, .inl rfl⟩ rfl ?_
    refine op0 (sp_pickT rfl rfl rfl) rfl trivial rfl rfl ?_
    refine TL.nil ?_
    refine TC.condT rfl ?_
    refine TC.seq ?_
    refine TC.region ?_
    refine op0 (sp_assign rfl rfl) rfl trivial rfl rfl ?_
    refine TL.nil ?_
    cases h
    exact retJ [] (.tmp rfl .nil) rfl trivial rfl rfl
  · refine (boolLit 7 rfl h1).2 ?_
    refine op1 0 rfl (sp_fieldAddrB rfl isBlk rfl ft40_1 vt38 (by decide)) rfl ⟨_, rfl, rfl⟩ rfl rfl ?_
    refine op1 0 rfl (sp_loadB rfl isBlk rfl vt38 rfl) rfl ⟨_, rfl, rfl⟩ rfl rfl ?_
    refine op1 2 rfl (sp_lenM (N := s2.length) (len_map _ _) rfl rfl isRo Try.underlying38) rfl ⟨_, rfl, rfl⟩ rfl rfl ?_
    refine op0 (sp_gtr rfl rfl rfl) rfl ⟨_, rfl, rfl⟩ rfl rfl ?_
    refine op0 (sp_pickF rfl rfl rfl) rfl trivial rfl rfl ?_
    refine TL.nil ?_
    refine TC.cond (b := (decide ((12 : Int) < (s2.length : Int)))) rfl (fun h2 => ?_) (fun h2 => ?_)
    · have h := cond_t h h2
      refine TC.seq ?_
      refine TC.region ?_
      refine op0 (sp_assign rfl rfl) rfl trivial rfl rfl ?_
      refine TL.nil ?_
      cases h
      exact retJ [] (.tmp rfl .nil) rfl trivial rfl rfl
    · have h := cond_f h h2
      refine subJ [] (ok_ref01_Check_j0 h) ?_ ?_ ?_
      · exact ⟨rfl, trivial⟩
      · exact ⟨mem_at 0 rfl, mem_at 1 rfl, mem_at 2 rfl, trivial⟩
      · rfl
/- ref01_Wanted -/
def ev_ref01_Wanted (n : Nat) (rr1 : Int) (rr2 : Int) : Option Bool :=
  cond (decide ((1 : Int) ≤ rr1)) (cond (decide (rr1 ≤ 1000000)) (cond (decide ((1 : Int) ≤ rr2)) (some (decide (rr2 ≤ 1000000))) (some false)) (some false)) (some false)
set_option maxRecDepth 100000 in
set_option maxHeartbeats 2000000 in
theorem fc_ref01_Wanted {n : Nat} {rr1 : Int} {rr2 : Int} {r : Bool} (h : ev_ref01_Wanted n rr1 rr2 = some r) : FC Try.prog 24 [.agg [.val (.int .i64 rr1), .val (.int .i64 rr2)]] [] (.val (.bool r)) [] := by
  refine introJ (nz := 21) Try.func24 rfl rfl rfl (fun w0 R0 env0 => ?_)
  rw [ev_ref01_Wanted] at h
  refine TC.seq ?_
  refine TC.region ?_
  refine op0 (sp_box 0 rfl rfl rfl rfl rfl) rfl trivial rfl rfl ?_
  refine op0 (sp_assign rfl rfl) rfl trivial rfl rfl ?_
  refine TL.nil ?_
  refine TC.seq ?_
  refine TC.region ?_
  refine op1 0 rfl (sp_fieldAddrB rfl isBlk rfl ft26_0 vt3 (by decide)) rfl trivial rfl rfl ?_
  refine op1 0 rfl (sp_loadB rfl isBlk rfl vt3 rfl) rfl trivial rfl rfl ?_
  refine op0 (sp_geq rfl rfl rfl) rfl trivial rfl rfl ?_
  refine op0 (sp_move rfl rfl) rfl trivial rfl rfl ?_
  rcases cond_cases h with ⟨h1, h⟩ | ⟨h1, h⟩
  · refine (boolLit 6 rfl h1).2 ?_
    refine op1 0 rfl (sp_fieldAddrB rfl isBlk rfl ft26_0 vt3 (by decide)) rfl ⟨_, rfl, rfl⟩ rfl rfl ?_
    refine op1 0 rfl (sp_loadB rfl isBlk rfl vt3 rfl) rfl ⟨_, rfl, rfl⟩ rfl rfl ?_
    refine op0 (sp_leq rfl rfl rfl) rfl ⟨_, rfl, rfl⟩ rfl rfl ?_
    refine op0 (sp_pickT rfl rfl rfl) rfl trivial rfl rfl ?_
    refine op0 (sp_move rfl rfl) rfl trivial rfl rfl ?_
    rcases cond_cases h with ⟨h2, h⟩ | ⟨h2, h⟩
    · refine (boolLit 11 rfl h2).2 ?_
      refine op1 0 rfl (sp_fieldAddrB rfl isBlk rfl ft26_1 vt3 (by decide)) rfl ⟨_, rfl, rfl⟩ rfl rfl ?_
      refine op1 0 rfl (sp_loadB rfl isBlk rfl vt3 rfl) rfl ⟨_, rfl, rfl⟩ rfl rfl ?_
      refine op0 (sp_geq rfl rfl rfl) rfl ⟨_, rfl, rfl⟩ rfl rfl ?_
      refine op0 (sp_pickT rfl rfl rfl) rfl trivial rfl rfl ?_
      refine op0 (sp_move rfl rfl) rfl trivial rfl rfl ?_
      rcases cond_cases h with ⟨h3, h⟩ | ⟨h3, h⟩
      · refine (boolLit 16 rfl h3).2 ?_
        refine op1 0 rfl (sp_fieldAddrB rfl isBlk rfl ft26_1 vt3 (by decide)) rfl ⟨_, rfl, rfl⟩ rfl rfl ?_
        refine op1 0 rfl (sp_loadB rfl isBlk rfl vt3 rfl) rfl ⟨_, rfl, rfl⟩ rfl rfl ?_
        refine op0 (sp_leq rfl rfl rfl) rfl ⟨_, rfl, rfl⟩ rfl rfl ?_
        refine op0 (sp_pickT rfl rfl rfl) rfl trivial rfl rfl ?_
        refine op0 (sp_assign rfl rfl) rfl trivial rfl rfl ?_
        refine TL.nil ?_
        cases h
        exact retJ [] (.tmp rfl .nil) rfl trivial rfl rfl
      · refine (boolLit 16 rfl h3).2 ?_
        refine opSkip rfl ⟨_, rfl, .inl rfl⟩ rfl ?_
        refine opSkip rfl ⟨_, rfl, .inl rfl⟩ rfl ?_
        refine opSkip rfl ⟨_, rfl, .inl rfl⟩ rfl ?_
        refine op0 (sp_pickF rfl rfl rfl) rfl trivial rfl rfl ?_
        refine op0 (sp_assign rfl rfl) rfl trivial rfl rfl ?_
        refine TL.nil ?_
        cases h
        exact retJ [] (.tmp rfl .nil) rfl trivial rfl rfl
    · refine (boolLit 11 rfl h2).2 ?_
      refine opSkip rfl ⟨_, rfl, .inl rfl⟩ rfl ?_
      refine opSkip rfl ⟨_, rfl, .inl rfl⟩ rfl ?_
      refine opSkip rfl ⟨_, rfl, .inl rfl⟩ rfl ?_
      refine op0 (sp_pickF rfl rfl rfl) rfl trivial rfl rfl ?_
      refine op0 (sp_move rfl rfl) rfl trivial rfl rfl ?_
      refine opSkip rfl ⟨_, rfl, .inl rfl⟩ rfl ?_
      refine opSkip rfl ⟨_, rfl, .inl rfl⟩ rfl ?_
      refine opSkip rfl ⟨_, rfl, .inl rfl⟩ rfl ?_
      refine op0 (sp_pickF rfl rfl rfl) rfl trivial rfl rfl ?_
      refine op0 (sp_assign rfl rfl) rfl trivial rfl rfl ?_
      refine TL.nil ?_
      cases h
      exact retJ [] (.tmp rfl .nil) rfl trivial rfl rfl
  · refine (boolLit 6 rfl h1).2 ?_
    refine opSkip rfl ⟨_, rfl, .inl rfl⟩ rfl ?_
    refine opSkip rfl ⟨_, rfl, .inl rfl⟩ rfl ?_
    refine opSkip rfl ⟨_, rfl, .inl rfl⟩ rfl ?_
    refine op0 (sp_pickF rfl rfl rfl) rfl trivial rfl rfl ?_
    refine op0 (sp_move rfl rfl) rfl trivial rfl rfl ?_
    refine opSkip rfl ⟨_, rfl, .inl rfl⟩ rfl ?_
    refine opSkip rfl ⟨_, rfl, .inl rfl⟩ rfl ?_
    refine opSkip rfl ⟨_, rfl, .inl rfl⟩ rfl ?_
    refine op0 (sp_pickF rfl rfl rfl) rfl trivial rfl rfl ?_
    refine op0 (sp_move rfl rfl) rfl trivial rfl rfl ?_
    refine opSkip rfl ⟨_, rfl, .inl rfl⟩ rfl ?_
    refine opSkip rfl ⟨_, rfl, .inl rfl⟩ rfl ?_
    refine opSkip rfl ⟨_, rfl, .inl rfl⟩ rfl ?_
    refine op0 (sp_pickF rfl rfl rfl) rfl trivial rfl rfl ?_
    refine op0 (sp_assign rfl rfl) rfl trivial rfl rfl ?_
    refine TL.nil ?_
    cases h
    exact retJ [] (.tmp rfl .nil) rfl trivial rfl rfl
/- ref01_Missing -/
def ev_ref01_Missing_l2 (n : Nat) (l5 : List Int) (i4 : Int) (l6 : List Int) (i7 : Int) (k_ref01_Missing_l0 : Int → Int → (List Int) → (List Int) → Option ((List Int))) : Nat → Bool → Int → Option ((List Int))
  | 0, _, _ => none
  | m + 1, b8, i9 => cond (decide (i9 < (l5.length : Int))) (cond b8 (chk (in64 (i9 + 1)) <| ev_ref01_Missing_l2 n l5 i4 l6 i7 k_ref01_Missing_l0 m true (i9 + 1)) (idx l5 i9 fun x10 => chk (i4 != 0) <| chk (in64 (i9 + 1)) <| ev_ref01_Missing_l2 n l5 i4 l6 i7 k_ref01_Missing_l0 m ((Int.tmod x10 i4) == 0) (i9 + 1))) (cond (!b8) (chk (room 8 (l6.length + ([i4] : List Int).length)) <| chk (in64 (i4 + 1)) <| k_ref01_Missing_l0 i7 (i4 + 1) l5 (l6 ++ ([i4] : List Int))) (chk (in64 (i4 + 1)) <| k_ref01_Missing_l0 i7 (i4 + 1) l5 l6))
set_option maxRecDepth 100000 in
set_option maxHeartbeats 2000000 in
theorem ok_ref01_Missing_l2 {n : Nat} {w0 : World} {R0 : Nat → Prop} {env0 : Env} {r : (List Int)} {i7 : Int} {l5 : List Int} {i4 : Int} {l6 : List Int} {k_ref01_Missing_l0 : Int → Int → (List Int) → (List Int) → Option ((List Int))} (hk_ref01_Missing_l0 : ∀ (i3 : Int) (i4 : Int) (l5 : List Int) (l6 : List Int), k_ref01_Missing_l0 i3 i4 l5 l6 = some r → TC Try.prog ⟨w0, fun _ => False, R0⟩ 48 (bodyPost Try.prog Try.f26 (Post ⟨w0, fun _ => False, R0⟩ env0 (.ref 0) [.row 0 3 1 (List.map en_int r)])) [.code (sub (bodyOf Try.f26) [1, 1, 0, 1, 0, 0, 0, 0]), .code (sub (bodyOf Try.f26) [1, 1, 0, 1, 0, 0, 0, 1]), .code (sub (bodyOf Try.f26) [1, 1, 0, 1, 0, 0, 1]), .inLoop (sub (bodyOf Try.f26) [1, 1, 0, 1, 0, 0]), .inBlock 0, .code (sub (bodyOf Try.f26) [1, 1, 1])] ([(0, .val (.int .i64 i3)), (1, .ref 0), (5, .ref 1), (6, .val (.int .i64 i4))]) ([.ro 0 1 (List.map en_int l5), .row 1 3 1 (List.map en_int l6)])) : ∀ (m : Nat) (b8 : Bool) (i9 : Int), ev_ref01_Missing_l2 n l5 i4 l6 i7 k_ref01_Missing_l0 m b8 i9 = some r → TC Try.prog ⟨w0, fun _ => False, R0⟩ 48 (bodyPost Try.prog Try.f26 (Post ⟨w0, fun _ => False, R0⟩ env0 (.ref 0) [.row 0 3 1 (List.map en_int r)])) [.code (sub (bodyOf Try.f26) [1, 1, 0, 1, 0, 0, 1, 0, 0, 1, 1, 1, 0, 1, 0, 0, 0, 0]), .code (sub (bodyOf Try.f26) [1, 1, 0, 1, 0, 0, 1, 0, 0, 1, 1, 1, 0, 1, 0, 0, 0, 1]), .code (sub (bodyOf Try.f26) [1, 1, 0, 1, 0, 0, 1, 0, 0, 1, 1, 1, 0, 1, 0, 0, 1]), .inLoop (sub (bodyOf Try.f26) [1, 1, 0, 1, 0, 0, 1, 0, 0, 1, 1, 1, 0, 1, 0, 0]), .inBlock 4, .code (sub (bodyOf Try.f26) [1, 1, 0, 1, 0, 0, 1, 0, 0, 1, 1, 1, 1]), .inBlock 1, .code (sub (bodyOf Try.f26) [1, 1, 0, 1, 0, 0, 1, 1]), .inLoop (sub (bodyOf Try.f26) [1, 1, 0, 1, 0, 0]), .inBlock 0, .code (sub (bodyOf Try.f26) [1, 1, 1])] ([(0, .val (.int .i64 i7)), (1, .ref 0), (5, .ref 1), (6, .val (.int .i64 i4)), (7, .val (.bool b8)), (8, .val (.int .i64 i9))]) ([.ro 0 1 (List.map en_int l5), .row 1 3 1 (List.map en_int l6)]) := by
  intro m
  induction m with
  | zero => intro b8 i9 h; exact none_no h
  | succ m ih =>
    intro b8 i9 h
    rw [ev_ref01_Missing_l2] at h
    refine TC.region ?_
    refine op0 (sp_move rfl rfl) rfl trivial rfl rfl ?_
    refine op0 (sp_move rfl rfl) rfl trivial rfl rfl ?_
    refine op1 0 rfl (sp_lenM (N := l5.length) (len_map _ _) rfl rfl isRo Try.underlying38) rfl trivial rfl rfl ?_
    refine op0 (sp_lss rfl rfl rfl) rfl trivial rfl rfl ?_
    refine TL.nil ?_
    refine TC.cond (b := (decide (i9 < (l5.length : Int)))) rfl (fun h9 => ?_) (fun h9 => ?_)
    · have h := cond_t h h9
      refine TC.skip ?_
      refine TC.seq ?_
      refine TC.block ?_
      refine TC.region ?_
      refine op0 (sp_move rfl rfl) rfl trivial rfl rfl ?_
      refine op0 (sp_move rfl rfl) rfl trivial rfl rfl ?_
      rcases cond_cases h with ⟨h10, h⟩ | ⟨h10, h⟩
      · refine (boolLit 32 rfl h10).2 ?_
        refine opSkip rfl ⟨_, rfl, .inl rfl⟩ rfl ?_
        refine opSkip rfl ⟨_, rfl, .inl rfl⟩ rfl ?_
        refine opSkip rfl ⟨_, rfl, .inl rfl⟩ rfl ?_
        refine opSkip rfl ⟨_, rfl, .inl rfl⟩ rfl ?_
        refine opSkip rfl ⟨_, rfl, .inl rfl⟩ rfl ?_
        refine opSkip rfl ⟨_, rfl, .inl rfl⟩ rfl ?_
        refine opSkip rfl ⟨_, rfl, .inl rfl⟩ rfl ?_
        refine op0 (sp_pickT rfl rfl rfl) rfl trivial rfl rfl ?_
        refine op0 (sp_assign rfl rfl) rfl trivial rfl rfl ?_
        refine TL.nil ?_
        refine TC.inBlock ?_
        refine TC.region ?_
        refine op0 (sp_move rfl rfl) rfl trivial rfl rfl ?_
        obtain ⟨h11, h⟩ := chk_inv h
        refine op0 (sp_add rfl rfl rfl h11) rfl trivial rfl rfl ?_
        refine op0 (sp_assign rfl rfl) rfl trivial rfl rfl ?_
        refine TL.nil ?_
        refine TC.inLoop ?_
        refine TC.seq ?_
        refine TC.seq ?_
        refine subJ [] (ih _ _ h) ?_ ?_ ?_
        · exact ⟨rfl, rfl, rfl, rfl, rfl, rfl, trivial⟩
        · exact ⟨mem_at 0 rfl, mem_at 1 rfl, trivial⟩
        · rfl
      · refine (boolLit 32 rfl h10).2 ?_
        refine op0 (sp_move rfl rfl) rfl ⟨_, rfl, rfl⟩ rfl rfl ?_
        refine op0 (sp_move rfl rfl) rfl ⟨_, rfl, rfl⟩ rfl rfl ?_
        obtain ⟨x10, h12, h13, h⟩ := idx_inv h
        refine op1 0 rfl (sp_indexS rfl rfl rfl isRo sl38 h12 (map_get _ h13)) rfl ⟨_, rfl, rfl⟩ rfl rfl ?_
        refine op1 0 rfl (sp_loadR (i := (i9 : Int).toNat) (j := 0) rfl rfl isRo vt3 rfl (map_get _ h13) rfl (.v (.nil)) (nodup_of_B rfl)) rfl ⟨_, rfl, rfl⟩ rfl rfl ?_
        refine op0 (sp_move rfl rfl) rfl ⟨_, rfl, rfl⟩ rfl rfl ?_
        obtain ⟨h14, h⟩ := chk_inv h
        refine op0 (sp_rem rfl rfl rfl h14) rfl ⟨_, rfl, rfl⟩ rfl rfl ?_
        refine op0 (sp_eql rfl rfl rfl) rfl ⟨_, rfl, rfl⟩ rfl rfl ?_
        refine op0 (sp_pickF rfl rfl rfl) rfl trivial rfl rfl ?_
        refine op0 (sp_assign rfl rfl) rfl trivial rfl rfl ?_
        refine TL.nil ?_
        refine TC.inBlock ?_
        refine TC.region ?_
        refine op0 (sp_move rfl rfl) rfl trivial rfl rfl ?_
        obtain ⟨h15, h⟩ := chk_inv h
        refine op0 (sp_add rfl rfl rfl h15) rfl trivial rfl rfl ?_
        refine op0 (sp_assign rfl rfl) rfl trivial rfl rfl ?_
        refine TL.nil ?_
        refine TC.inLoop ?_
        refine TC.seq ?_
        refine TC.seq ?_
        refine subJ [] (ih _ _ h) ?_ ?_ ?_
        · exact ⟨rfl, rfl, rfl, rfl, rfl, rfl, trivial⟩
        · exact ⟨mem_at 0 rfl, mem_at 1 rfl, trivial⟩
        · rfl
    · have h := cond_f h h9
      refine TC.exit rfl ?_
      refine TC.seq ?_
      refine TC.region ?_
      refine op0 (sp_move rfl rfl) rfl trivial rfl rfl ?_
      refine op0 (sp_not rfl rfl) rfl trivial rfl rfl ?_
      refine TL.nil ?_
      refine TC.cond (b := (!b8)) rfl (fun h16 => ?_) (fun h16 => ?_)
      · have h := cond_t h h16
        refine TC.region ?_
        refine op0 (sp_move rfl rfl) rfl trivial rfl rfl ?_
        refine op0 (sp_move rfl rfl) rfl trivial rfl rfl ?_
        refine op0 (sp_buildSlice (qs := [.val (.int .i64 i4)]) (need := []) (els := List.map en_int ([i4] : List Int)) 2 rfl sl38 (by decide) (by decide) rfl rfl rfl (.v (.nil)) (map_len fun _ => rfl) rfl rfl rfl) rfl trivial rfl rfl ?_
        obtain ⟨h17, h⟩ := chk_inv h
        refine appM 2 0 (N := l6.length) (N2 := ([i4] : List Int).length) 3 rfl rfl trivial rfl rfl rfl rfl rfl isOwn rfl sl38 (len_map _ _) (len_map _ _) h17 (map_app _ _ _) rfl ?_
        refine op0 (sp_assign rfl rfl) rfl trivial rfl rfl ?_
        refine TL.nil ?_
        refine TC.inBlock ?_
        refine TC.region ?_
        refine op0 (sp_move rfl rfl) rfl trivial rfl rfl ?_
        obtain ⟨h18, h⟩ := chk_inv h
        refine op0 (sp_add rfl rfl rfl h18) rfl trivial rfl rfl ?_
        refine op0 (sp_assign rfl rfl) rfl trivial rfl rfl ?_
        refine TL.nil ?_
        refine TC.inLoop ?_
        refine TC.seq ?_
        refine TC.seq ?_
        refine subJ [(1, 3)] (hk_ref01_Missing_l0 _ _ _ _ h) ?_ ?_ ?_
        · exact ⟨rfl, rfl, rfl, rfl, trivial⟩
        · exact ⟨mem_at 2 rfl, mem_at 0 rfl, trivial⟩
        · rfl
      · have h := cond_f h h16
        refine TC.skip ?_
        refine TC.inBlock ?_
        refine TC.region ?_
        refine op0 (sp_move rfl rfl) rfl trivial rfl rfl ?_
        obtain ⟨h19, h⟩ := chk_inv h
        refine op0 (sp_add rfl rfl rfl h19) rfl trivial rfl rfl ?_
        refine op0 (sp_assign rfl rfl) rfl trivial rfl rfl ?_
        refine TL.nil ?_
        refine TC.inLoop ?_
        refine TC.seq ?_
        refine TC.seq ?_
        refine subJ [] (hk_ref01_Missing_l0 _ _ _ _ h) ?_ ?_ ?_
        · exact ⟨rfl, rfl, rfl, rfl, trivial⟩
        · exact ⟨mem_at 0 rfl, mem_at 1 rfl, trivial⟩
        · rfl
def ev_ref01_Missing_l1 (n : Nat) (i4 : Int) (l5 : List Int) (l6 : List Int) (k_ref01_Missing_l0 : Int → Int → (List Int) → (List Int) → Option ((List Int))) : Nat → Int → Option ((List Int))
  | 0, _ => none
  | m + 1, i7 => chk (i4 != 0) <| cond ((Int.tmod i7 i4) == 0) (chk (i4 != 0) <| chk (in64 (Int.tdiv i7 i4)) <| ev_ref01_Missing_l1 n i4 l5 l6 k_ref01_Missing_l0 m (Int.tdiv i7 i4)) (ev_ref01_Missing_l2 n l5 i4 l6 i7 k_ref01_Missing_l0 n false 0)
set_option maxRecDepth 100000 in
set_option maxHeartbeats 2000000 in
theorem ok_ref01_Missing_l1 {n : Nat} {w0 : World} {R0 : Nat → Prop} {env0 : Env} {r : (List Int)} {i4 : Int} {l5 : List Int} {l6 : List Int} {k_ref01_Missing_l0 : Int → Int → (List Int) → (List Int) → Option ((List Int))} (hk_ref01_Missing_l0 : ∀ (i3 : Int) (i4 : Int) (l5 : List Int) (l6 : List Int), k_ref01_Missing_l0 i3 i4 l5 l6 = some r → TC Try.prog ⟨w0, fun _ => False, R0⟩ 48 (bodyPost Try.prog Try.f26 (Post ⟨w0, fun _ => False, R0⟩ env0 (.ref 0) [.row 0 3 1 (List.map en_int r)])) [.code (sub (bodyOf Try.f26) [1, 1, 0, 1, 0, 0, 0, 0]), .code (sub (bodyOf Try.f26) [1, 1, 0, 1, 0, 0, 0, 1]), .code (sub (bodyOf Try.f26) [1, 1, 0, 1, 0, 0, 1]), .inLoop (sub (bodyOf Try.f26) [1, 1, 0, 1, 0, 0]), .inBlock 0, .code (sub (bodyOf Try.f26) [1, 1, 1])] ([(0, .val (.int .i64 i3)), (1, .ref 0), (5, .ref 1), (6, .val (.int .i64 i4))]) ([.ro 0 1 (List.map en_int l5), .row 1 3 1 (List.map en_int l6)])) : ∀ (m : Nat) (i7 : Int), ev_ref01_Missing_l1 n i4 l5 l6 k_ref01_Missing_l0 m i7 = some r → TC Try.prog ⟨w0, fun _ => False, R0⟩ 48 (bodyPost Try.prog Try.f26 (Post ⟨w0, fun _ => False, R0⟩ env0 (.ref 0) [.row 0 3 1 (List.map en_int r)])) [.code (sub (bodyOf Try.f26) [1, 1, 0, 1, 0, 0, 1, 0, 0, 1, 0, 0, 0, 0, 0]), .code (sub (bodyOf Try.f26) [1, 1, 0, 1, 0, 0, 1, 0, 0, 1, 0, 0, 0, 0, 1]), .code (sub (bodyOf Try.f26) [1, 1, 0, 1, 0, 0, 1, 0, 0, 1, 0, 0, 0, 1]), .inLoop (sub (bodyOf Try.f26) [1, 1, 0, 1, 0, 0, 1, 0, 0, 1, 0, 0, 0]), .inBlock 2, .code (sub (bodyOf Try.f26) [1, 1, 0, 1, 0, 0, 1, 0, 0, 1, 1]), .inBlock 1, .code (sub (bodyOf Try.f26) [1, 1, 0, 1, 0, 0, 1, 1]), .inLoop (sub (bodyOf Try.f26) [1, 1, 0, 1, 0, 0]), .inBlock 0, .code (sub (bodyOf Try.f26) [1, 1, 1])] ([(0, .val (.int .i64 i7)), (1, .ref 0), (5, .ref 1), (6, .val (.int .i64 i4))]) ([.ro 0 1 (List.map en_int l5), .row 1 3 1 (List.map en_int l6)]) := by
  intro m
  induction m with
  | zero => intro i7 h; exact none_no h
  | succ m ih =>
    intro i7 h
    rw [ev_ref01_Missing_l1] at h
    refine TC.region ?_
    refine op0 (sp_move rfl rfl) rfl trivial rfl rfl ?_
    refine op0 (sp_move rfl rfl) rfl trivial rfl rfl ?_
    obtain ⟨h5, h⟩ := chk_inv h
    refine op0 (sp_rem rfl rfl rfl h5) rfl trivial rfl rfl ?_
    refine op0 (sp_eql rfl rfl rfl) rfl trivial rfl rfl ?_
    refine TL.nil ?_
    refine TC.cond (b := ((Int.tmod i7 i4) == 0)) rfl (fun h6 => ?_) (fun h6 => ?_)
    · have h := cond_t h h6
      refine TC.skip ?_
      refine TC.block ?_
      refine TC.region ?_
      refine op0 (sp_move rfl rfl) rfl trivial rfl rfl ?_
      refine op0 (sp_move rfl rfl) rfl trivial rfl rfl ?_
      obtain ⟨h7, h⟩ := chk_inv h
      obtain ⟨h8, h⟩ := chk_inv h
      refine op0 (sp_quo rfl rfl rfl h7 h8) rfl trivial rfl rfl ?_
      refine op0 (sp_assign rfl rfl) rfl trivial rfl rfl ?_
      refine TL.nil ?_
      refine TC.inBlock ?_
      refine TC.inLoop ?_
      refine TC.seq ?_
      refine TC.seq ?_
      refine subJ [] (ih _ h) ?_ ?_ ?_
      · exact ⟨rfl, rfl, rfl, rfl, trivial⟩
      · exact ⟨mem_at 0 rfl, mem_at 1 rfl, trivial⟩
      · rfl
    · have h := cond_f h h6
      refine TC.exit rfl ?_
      refine TC.seq ?_
      refine TC.region ?_
      refine op0 (sp_assign rfl rfl) rfl trivial rfl rfl ?_
      refine TL.nil ?_
      refine TC.seq ?_
      refine TC.seq ?_
      refine TC.region ?_
      refine op0 (sp_assign rfl rfl) rfl trivial rfl rfl ?_
      refine TL.nil ?_
      refine TC.block ?_
      refine TC.loop ?_
      refine TC.seq ?_
      refine TC.seq ?_
      refine subJ [] (ok_ref01_Missing_l2 hk_ref01_Missing_l0 _ _ _ h) ?_ ?_ ?_
      · exact ⟨rfl, rfl, rfl, rfl, rfl, rfl, trivial⟩
      · exact ⟨mem_at 0 rfl, mem_at 1 rfl, trivial⟩
      · rfl
def ev_ref01_Missing_l0 (n : Nat) : Nat → Int → Int → (List Int) → (List Int) → Option ((List Int))
  | 0, _, _, _, _ => none
  | m + 1, i3, i4, l5, l6 => cond (decide ((1 : Int) < i3)) (chk (i4 != 0) <| cond (decide ((0 : Int) < (Int.tmod i3 i4))) (chk (in64 (i4 + 1)) <| ev_ref01_Missing_l0 n m i3 (i4 + 1) l5 l6) (ev_ref01_Missing_l1 n i4 l5 l6 (fun i3q i4q l5q l6q => ev_ref01_Missing_l0 n m i3q i4q l5q l6q) n i3)) (some l6)
set_option maxRecDepth 100000 in
set_option maxHeartbeats 2000000 in
theorem ok_ref01_Missing_l0 {n : Nat} {w0 : World} {R0 : Nat → Prop} {env0 : Env} {r : (List Int)} : ∀ (m : Nat) (i3 : Int) (i4 : Int) (l5 : List Int) (l6 : List Int), ev_ref01_Missing_l0 n m i3 i4 l5 l6 = some r → TC Try.prog ⟨w0, fun _ => False, R0⟩ 48 (bodyPost Try.prog Try.f26 (Post ⟨w0, fun _ => False, R0⟩ env0 (.ref 0) [.row 0 3 1 (List.map en_int r)])) [.code (sub (bodyOf Try.f26) [1, 1, 0, 1, 0, 0, 0, 0]), .code (sub (bodyOf Try.f26) [1, 1, 0, 1, 0, 0, 0, 1]), .code (sub (bodyOf Try.f26) [1, 1, 0, 1, 0, 0, 1]), .inLoop (sub (bodyOf Try.f26) [1, 1, 0, 1, 0, 0]), .inBlock 0, .code (sub (bodyOf Try.f26) [1, 1, 1])] ([(0, .val (.int .i64 i3)), (1, .ref 0), (5, .ref 1), (6, .val (.int .i64 i4))]) ([.ro 0 1 (List.map en_int l5), .row 1 3 1 (List.map en_int l6)]) := by
  intro m
  induction m with
  | zero => intro i3 i4 l5 l6 h; exact none_no h
  | succ m ih =>
    intro i3 i4 l5 l6 h
    rw [ev_ref01_Missing_l0] at h
    refine TC.region ?_
    refine op0 (sp_move rfl rfl) rfl trivial rfl rfl ?_
    refine op0 (sp_gtr rfl rfl rfl) rfl trivial rfl rfl ?_
    refine TL.nil ?_
    refine TC.cond (b := (decide ((1 : Int) < i3))) rfl (fun h1 => ?_) (fun h1 => ?_)
    · have h := cond_t h h1
      refine TC.skip ?_
      refine TC.seq ?_
      refine TC.block ?_
      refine TC.seq ?_
      refine TC.seq ?_
      refine TC.region ?_
      refine op0 (sp_move rfl rfl) rfl trivial rfl rfl ?_
      refine op0 (sp_move rfl rfl) rfl trivial rfl rfl ?_
      obtain ⟨h2, h⟩ := chk_inv h
      refine op0 (sp_rem rfl rfl rfl h2) rfl trivial rfl rfl ?_
      refine op0 (sp_gtr rfl rfl rfl) rfl trivial rfl rfl ?_
      refine TL.nil ?_
      refine TC.cond (b := (decide ((0 : Int) < (Int.tmod i3 i4)))) rfl (fun h3 => ?_) (fun h3 => ?_)
      · have h := cond_t h h3
        refine TC.exit rfl ?_
        refine TC.region ?_
        refine op0 (sp_move rfl rfl) rfl trivial rfl rfl ?_
        obtain ⟨h4, h⟩ := chk_inv h
        refine op0 (sp_add rfl rfl rfl h4) rfl trivial rfl rfl ?_
        refine op0 (sp_assign rfl rfl) rfl trivial rfl rfl ?_
        refine TL.nil ?_
        refine TC.inLoop ?_
        refine TC.seq ?_
        refine TC.seq ?_
        refine subJ [] (ih _ _ _ _ h) ?_ ?_ ?_
        · exact ⟨rfl, rfl, rfl, rfl, trivial⟩
        · exact ⟨mem_at 0 rfl, mem_at 1 rfl, trivial⟩
        · rfl
      · have h := cond_f h h3
        refine TC.skip ?_
        refine TC.seq ?_
        refine TC.block ?_
        refine TC.loop ?_
        refine TC.seq ?_
        refine TC.seq ?_
        refine subJ [] (ok_ref01_Missing_l1 ih _ _ h) ?_ ?_ ?_
        · exact ⟨rfl, rfl, rfl, rfl, trivial⟩
        · exact ⟨mem_at 0 rfl, mem_at 1 rfl, trivial⟩
        · rfl
    · have h := cond_f h h1
      refine TC.exit rfl ?_
      refine TC.seq ?_
      refine TC.region ?_
      refine op0 (sp_move rfl rfl) rfl trivial rfl rfl ?_
      refine op0 (sp_assign rfl rfl) rfl trivial rfl rfl ?_
      refine TL.nil ?_
      cases h
      exact retJ [(0, 1)] (.tmp rfl .nil) rfl ⟨mem_at 1 rfl, trivial⟩ rfl rfl
def ev_ref01_Missing (n : Nat) (nn1 : Int) (l2 : List Int) : Option ((List Int)) :=
  ev_ref01_Missing_l0 n n nn1 2 l2 ([] : List Int)
set_option maxRecDepth 100000 in
set_option maxHeartbeats 2000000 in
theorem fc_ref01_Missing {n : Nat} {nn1 : Int} {l2 : List Int} {r : (List Int)} (h : ev_ref01_Missing n nn1 l2 = some r) : FC Try.prog 26 [.val (.int .i64 nn1), .ref 0] [.ro 0 1 (List.map en_int l2)] (.ref 0) [.row 0 3 1 (List.map en_int r)] := by
  refine introJ (nz := 48) Try.func26 rfl rfl rfl (fun w0 R0 env0 => ?_)
  rw [ev_ref01_Missing] at h
  refine TC.seq ?_
  refine TC.region ?_
  refine op0 (sp_assign rfl rfl) rfl trivial rfl rfl ?_
  refine TL.nil ?_
  refine TC.seq ?_
  refine TC.region ?_
  refine op0 (sp_emptyM 1 (List.map en_int []) rfl rfl sl38) rfl trivial rfl rfl ?_
  refine op0 (sp_assign rfl rfl) rfl trivial rfl rfl ?_
  refine TL.nil ?_
  refine TC.seq ?_
  refine TC.seq ?_
  refine TC.region ?_
  refine op0 (sp_assign rfl rfl) rfl trivial rfl rfl ?_
  refine TL.nil ?_
  refine TC.block ?_
  refine TC.loop ?_
  refine TC.seq ?_
  refine TC.seq ?_
  refine subJ [] (ok_ref01_Missing_l0 _ _ _ _ _ h) ?_ ?_ ?_
  · exact ⟨rfl, rfl, rfl, rfl, trivial⟩
  · exact ⟨mem_at 1 rfl, mem_at 0 rfl, trivial⟩
  · rfl
end
end Go.Proofs.Ytabjhlfgcmmbfaa.Sy
