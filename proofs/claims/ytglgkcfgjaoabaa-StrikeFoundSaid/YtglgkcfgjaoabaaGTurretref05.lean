/- What functions of the program compute, and that they do: printed by symgen.py. -/
import Derived.Test.YtglgkcfgjaoabaaGLib
set_option linter.unusedSimpArgs false
set_option linter.unusedVariables false
namespace Go.Proofs.Ytglgkcfgjaoabaa.Sy
open Go.RowKit
noncomputable section

/- ref05_Same -/
def ev_ref05_Same_l0 (n : Nat) (a1 : List Int) (b2 : List Int) : Nat → Int → Option Bool
  | 0, _ => none
  | m + 1, i3 => cond (decide (i3 < (a1.length : Int))) (idx a1 i3 fun x4 => idx b2 i3 fun x5 => cond (x4 != x5) (some false) (chk (in64 (i3 + 1)) <| ev_ref05_Same_l0 n a1 b2 m (i3 + 1))) (some true)
set_option maxRecDepth 100000 in
set_option maxHeartbeats 2000000 in
theorem ok_ref05_Same_l0 {n : Nat} {w0 : World} {R0 : Nat → Prop} {env0 : Env} {r : Bool} {a1 : List Int} {b2 : List Int} : ∀ (m : Nat) (i3 : Int), ev_ref05_Same_l0 n a1 b2 m i3 = some r → TC Try.prog ⟨w0, fun _ => False, R0⟩ 26 (bodyPost Try.prog Try.f26 (Post ⟨w0, fun _ => False, R0⟩ env0 (.val (.bool r)) [])) [.code (sub (bodyOf Try.f26) [1, 1, 0, 1, 0, 0, 0, 0]), .code (sub (bodyOf Try.f26) [1, 1, 0, 1, 0, 0, 0, 1]), .code (sub (bodyOf Try.f26) [1, 1, 0, 1, 0, 0, 1]), .inLoop (sub (bodyOf Try.f26) [1, 1, 0, 1, 0, 0]), .inBlock 0, .code (sub (bodyOf Try.f26) [1, 1, 1])] ([(0, .ref 0), (1, .ref 1), (5, .val (.int .i64 i3))]) ([.ro 0 1 (List.map en_int a1), .ro 1 1 (List.map en_int b2)]) := by
  intro m
  induction m with
  | zero => intro i3 h; exact none_no h
  | succ m ih =>
    intro i3 h
    rw [ev_ref05_Same_l0] at h
    refine TC.region ?_
    refine op0 (sp_move rfl rfl) rfl trivial rfl rfl ?_
    refine op0 (sp_move rfl rfl) rfl trivial rfl rfl ?_
    refine op1 0 rfl (sp_lenM (N := a1.length) (len_map _ _) rfl rfl isRo Try.underlying39) rfl trivial rfl rfl ?_
    refine op0 (sp_lss rfl rfl rfl) rfl trivial rfl rfl ?_
    refine TL.nil ?_
    refine TC.cond (b := (decide (i3 < (a1.length : Int)))) rfl (fun h2 => ?_) (fun h2 => ?_)
    · have h := cond_t h h2
      refine TC.skip ?_
      refine TC.seq ?_
      refine TC.block ?_
      refine TC.seq ?_
      obtain ⟨x4, h3, h4, h⟩ := idx_inv h
      obtain ⟨x5, h5, h6, h⟩ := idx_inv h
      refine drawJ 8 [⟨.ref 0, [], [], []⟩, ⟨.val (.int .i64 i3), [], [], []⟩, ⟨.cell 0 ((i3 : Int).toNat * 1), [], [.ro 0 1 (List.map en_int a1)], []⟩, ⟨.val (.int .i64 x4), [], [.ro 0 1 (List.map en_int a1)], []⟩, ⟨.ref 1, [], [], []⟩, ⟨.val (.int .i64 i3), [], [], []⟩, ⟨.cell 1 ((i3 : Int).toNat * 1), [], [.ro 1 1 (List.map en_int b2)], []⟩, ⟨.val (.int .i64 x5), [], [.ro 1 1 (List.map en_int b2)], []⟩] rfl ?_ rfl ?_ rfl ?_ ?_
      · kernel_rfl
      · kernel_rfl
      · exact DAll.op' (sp_move rfl rfl) trivial rfl (From.ok (ps := []) trivial) (DAll.op' (sp_move rfl rfl) trivial rfl (From.ok (ps := []) trivial) (DAll.op' (sp_indexS rfl rfl rfl isRo sl39 h3 (map_get _ h4)) trivial rfl (From.ok (ps := [(none, 0)]) ⟨⟨rfl, rfl⟩, trivial⟩) (DAll.op' (sp_loadR (i := (i3 : Int).toNat) (j := 0) rfl rfl isRo vt3 rfl (map_get _ h4) rfl (.v (.nil)) (nodup_of_B rfl)) trivial rfl (From.ok (ps := [(none, 0)]) ⟨⟨rfl, rfl⟩, trivial⟩) (DAll.op' (sp_move rfl rfl) trivial rfl (From.ok (ps := []) trivial) (DAll.op' (sp_move rfl rfl) trivial rfl (From.ok (ps := []) trivial) (DAll.op' (sp_indexS rfl rfl rfl isRo sl39 h5 (map_get _ h6)) trivial rfl (From.ok (ps := [(none, 1)]) ⟨⟨rfl, rfl⟩, trivial⟩) (DAll.op' (sp_loadR (i := (i3 : Int).toNat) (j := 0) rfl rfl isRo vt3 rfl (map_get _ h6) rfl (.v (.nil)) (nodup_of_B rfl)) trivial rfl (From.ok (ps := [(none, 1)]) ⟨⟨rfl, rfl⟩, trivial⟩) (.nil))))))))
      refine op0 (sp_neq rfl rfl rfl) rfl trivial rfl rfl ?_
      refine TL.nil ?_
      refine TC.cond (b := (x4 != x5)) rfl (fun h7 => ?_) (fun h7 => ?_)
      · have h := cond_t h h7
        refine TC.seq ?_
        refine TC.region ?_
        refine op0 (sp_assign rfl rfl) rfl trivial rfl rfl ?_
        refine TL.nil ?_
        cases h
        exact retJ [] (.tmp rfl .nil) rfl trivial rfl rfl
      · have h := cond_f h h7
        refine TC.skip ?_
        refine TC.inBlock ?_
        refine TC.region ?_
        refine op0 (sp_move rfl rfl) rfl trivial rfl rfl ?_
        obtain ⟨h8, h⟩ := chk_inv h
        refine op0 (sp_add rfl rfl rfl h8) rfl trivial rfl rfl ?_
        refine op0 (sp_assign rfl rfl) rfl trivial rfl rfl ?_
        refine TL.nil ?_
        refine TC.inLoop ?_
        refine TC.seq ?_
        refine TC.seq ?_
        refine subJ [] (ih _ h) ?_ ?_ ?_
        · exact ⟨rfl, rfl, rfl, trivial⟩
        · exact ⟨mem_at 0 rfl, mem_at 1 rfl, trivial⟩
        · rfl
    · have h := cond_f h h2
      refine TC.exit rfl ?_
      refine TC.seq ?_
      refine TC.region ?_
      refine op0 (sp_assign rfl rfl) rfl trivial rfl rfl ?_
      refine TL.nil ?_
      cases h
      exact retJ [] (.tmp rfl .nil) rfl trivial rfl rfl
def ev_ref05_Same (n : Nat) (a1 : List Int) (b2 : List Int) : Option Bool :=
  cond ((a1.length : Int) != (b2.length : Int)) (some false) (ev_ref05_Same_l0 n a1 b2 n 0)
set_option maxRecDepth 100000 in
set_option maxHeartbeats 2000000 in
theorem fc_ref05_Same {n : Nat} {a1 : List Int} {b2 : List Int} {r : Bool} (h : ev_ref05_Same n a1 b2 = some r) : FC Try.prog 26 [.ref 0, .ref 1] [.ro 0 1 (List.map en_int a1), .ro 1 1 (List.map en_int b2)] (.val (.bool r)) [] := by
  refine introJ (nz := 26) Try.func26 rfl rfl rfl (fun w0 R0 env0 => ?_)
  rw [ev_ref05_Same] at h
  refine TC.seq ?_
  refine TC.region ?_
  refine op0 (sp_assign rfl rfl) rfl trivial rfl rfl ?_
  refine TL.nil ?_
  refine TC.seq ?_
  refine TC.seq ?_
  refine TC.region ?_
  refine op0 (sp_move rfl rfl) rfl trivial rfl rfl ?_
  refine op1 0 rfl (sp_lenM (N := a1.length) (len_map _ _) rfl rfl isRo Try.underlying39) rfl trivial rfl rfl ?_
  refine op0 (sp_move rfl rfl) rfl trivial rfl rfl ?_
  refine op1 1 rfl (sp_lenM (N := b2.length) (len_map _ _) rfl rfl isRo Try.underlying39) rfl trivial rfl rfl ?_
  refine op0 (sp_neq rfl rfl rfl) rfl trivial rfl rfl ?_
  refine TL.nil ?_
  refine TC.cond (b := ((a1.length : Int) != (b2.length : Int))) rfl (fun h1 => ?_) (fun h1 => ?_)
  · have h := cond_t h h1
    refine TC.seq ?_
    refine TC.region ?_
    refine op0 (sp_assign rfl rfl) rfl trivial rfl rfl ?_
    refine TL.nil ?_
    cases h
    exact retJ [] (.tmp rfl .nil) rfl trivial rfl rfl
  · have h := cond_f h h1
    refine TC.skip ?_
    refine TC.seq ?_
    refine TC.seq ?_
    refine TC.region ?_
    refine op0 (sp_assign rfl rfl) rfl trivial rfl rfl ?_
    refine TL.nil ?_
    refine TC.block ?_
    refine TC.loop ?_
    refine TC.seq ?_
    refine TC.seq ?_
    refine subJ [] (ok_ref05_Same_l0 _ _ h) ?_ ?_ ?_
    · exact ⟨rfl, rfl, rfl, trivial⟩
    · exact ⟨mem_at 0 rfl, mem_at 1 rfl, trivial⟩
    · rfl
/- ref05_Equal -/
def ev_ref05_Equal_l0 (n : Nat) (a1 : List (Int × Bool)) (b2 : List (Int × Bool)) : Nat → Int → Option Bool
  | 0, _ => none
  | m + 1, i3 => cond (decide (i3 < (a1.length : Int))) (idx a1 i3 fun x4 => idx b2 i3 fun x5 => cond (!((x4.1 == x5.1) && (x4.2 == x5.2))) (some false) (chk (in64 (i3 + 1)) <| ev_ref05_Equal_l0 n a1 b2 m (i3 + 1))) (some true)
set_option maxRecDepth 100000 in
set_option maxHeartbeats 2000000 in
theorem ok_ref05_Equal_l0 {n : Nat} {w0 : World} {R0 : Nat → Prop} {env0 : Env} {r : Bool} {a1 : List (Int × Bool)} {b2 : List (Int × Bool)} : ∀ (m : Nat) (i3 : Int), ev_ref05_Equal_l0 n a1 b2 m i3 = some r → TC Try.prog ⟨w0, fun _ => False, R0⟩ 26 (bodyPost Try.prog Try.f31 (Post ⟨w0, fun _ => False, R0⟩ env0 (.val (.bool r)) [])) [.code (sub (bodyOf Try.f31) [1, 1, 0, 1, 0, 0, 0, 0]), .code (sub (bodyOf Try.f31) [1, 1, 0, 1, 0, 0, 0, 1]), .code (sub (bodyOf Try.f31) [1, 1, 0, 1, 0, 0, 1]), .inLoop (sub (bodyOf Try.f31) [1, 1, 0, 1, 0, 0]), .inBlock 0, .code (sub (bodyOf Try.f31) [1, 1, 1])] ([(0, .ref 0), (1, .ref 1), (5, .val (.int .i64 i3))]) ([.ro 0 2 (List.map en_api_StrikeStep a1), .ro 1 2 (List.map en_api_StrikeStep b2)]) := by
  intro m
  induction m with
  | zero => intro i3 h; exact none_no h
  | succ m ih =>
    intro i3 h
    rw [ev_ref05_Equal_l0] at h
    refine TC.region ?_
    refine op0 (sp_move rfl rfl) rfl trivial rfl rfl ?_
    refine op0 (sp_move rfl rfl) rfl trivial rfl rfl ?_
    refine op1 0 rfl (sp_lenM (N := a1.length) (len_map _ _) rfl rfl isRo Try.underlying50) rfl trivial rfl rfl ?_
    refine op0 (sp_lss rfl rfl rfl) rfl trivial rfl rfl ?_
    refine TL.nil ?_
    refine TC.cond (b := (decide (i3 < (a1.length : Int)))) rfl (fun h2 => ?_) (fun h2 => ?_)
    · have h := cond_t h h2
      refine TC.skip ?_
      refine TC.seq ?_
      refine TC.block ?_
      refine TC.seq ?_
      obtain ⟨x4, h3, h4, h⟩ := idx_inv h
      obtain ⟨x5, h5, h6, h⟩ := idx_inv h
      refine drawJ 8 [⟨.ref 0, [], [], []⟩, ⟨.val (.int .i64 i3), [], [], []⟩, ⟨.cell 0 ((i3 : Int).toNat * 2), [], [.ro 0 2 (List.map en_api_StrikeStep a1)], []⟩, ⟨.agg [.val (.int .i64 x4.1), .val (.bool x4.2)], [], [.ro 0 2 (List.map en_api_StrikeStep a1)], []⟩, ⟨.ref 1, [], [], []⟩, ⟨.val (.int .i64 i3), [], [], []⟩, ⟨.cell 1 ((i3 : Int).toNat * 2), [], [.ro 1 2 (List.map en_api_StrikeStep b2)], []⟩, ⟨.agg [.val (.int .i64 x5.1), .val (.bool x5.2)], [], [.ro 1 2 (List.map en_api_StrikeStep b2)], []⟩] rfl ?_ rfl ?_ rfl ?_ ?_
      · kernel_rfl
      · kernel_rfl
      · exact DAll.op' (sp_move rfl rfl) trivial rfl (From.ok (ps := []) trivial) (DAll.op' (sp_move rfl rfl) trivial rfl (From.ok (ps := []) trivial) (DAll.op' (sp_indexS rfl rfl rfl isRo sl50 h3 (map_get _ h4)) trivial rfl (From.ok (ps := [(none, 0)]) ⟨⟨rfl, rfl⟩, trivial⟩) (DAll.op' (sp_loadRA (i := (i3 : Int).toNat) (j := 0) (as_ := [.val (.int .i64 x4.1), .val (.bool x4.2)]) (ns := []) rfl rfl isRo vt73 rfl (map_get _ h4) rfl rfl (by decide) (.v (.v (.nil))) (nodup_of_B rfl)) trivial rfl (From.ok (ps := [(none, 0)]) ⟨⟨rfl, rfl⟩, trivial⟩) (DAll.op' (sp_move rfl rfl) trivial rfl (From.ok (ps := []) trivial) (DAll.op' (sp_move rfl rfl) trivial rfl (From.ok (ps := []) trivial) (DAll.op' (sp_indexS rfl rfl rfl isRo sl50 h5 (map_get _ h6)) trivial rfl (From.ok (ps := [(none, 1)]) ⟨⟨rfl, rfl⟩, trivial⟩) (DAll.op' (sp_loadRA (i := (i3 : Int).toNat) (j := 0) (as_ := [.val (.int .i64 x5.1), .val (.bool x5.2)]) (ns := []) rfl rfl isRo vt73 rfl (map_get _ h6) rfl rfl (by decide) (.v (.v (.nil))) (nodup_of_B rfl)) trivial rfl (From.ok (ps := [(none, 1)]) ⟨⟨rfl, rfl⟩, trivial⟩) (.nil))))))))
      refine op0 (sp_neqS rfl rfl rfl rfl rfl (eq73 _ _ _ _)) rfl trivial rfl rfl ?_
      refine TL.nil ?_
      refine TC.cond (b := (!((x4.1 == x5.1) && (x4.2 == x5.2)))) rfl (fun h7 => ?_) (fun h7 => ?_)
      · have h := cond_t h h7
        refine TC.seq ?_
        refine TC.region ?_
        refine op0 (sp_assign rfl rfl) rfl trivial rfl rfl ?_
        refine TL.nil ?_
        cases h
        exact retJ [] (.tmp rfl .nil) rfl trivial rfl rfl
      · have h := cond_f h h7
        refine TC.skip ?_
        refine TC.inBlock ?_
        refine TC.region ?_
        refine op0 (sp_move rfl rfl) rfl trivial rfl rfl ?_
        obtain ⟨h8, h⟩ := chk_inv h
        refine op0 (sp_add rfl rfl rfl h8) rfl trivial rfl rfl ?_
        refine op0 (sp_assign rfl rfl) rfl trivial rfl rfl ?_
        refine TL.nil ?_
        refine TC.inLoop ?_
        refine TC.seq ?_
        refine TC.seq ?_
        refine subJ [] (ih _ h) ?_ ?_ ?_
        · exact ⟨rfl, rfl, rfl, trivial⟩
        · exact ⟨mem_at 0 rfl, mem_at 1 rfl, trivial⟩
        · rfl
    · have h := cond_f h h2
      refine TC.exit rfl ?_
      refine TC.seq ?_
      refine TC.region ?_
      refine op0 (sp_assign rfl rfl) rfl trivial rfl rfl ?_
      refine TL.nil ?_
      cases h
      exact retJ [] (.tmp rfl .nil) rfl trivial rfl rfl
def ev_ref05_Equal (n : Nat) (a1 : List (Int × Bool)) (b2 : List (Int × Bool)) : Option Bool :=
  cond ((a1.length : Int) != (b2.length : Int)) (some false) (ev_ref05_Equal_l0 n a1 b2 n 0)
set_option maxRecDepth 100000 in
set_option maxHeartbeats 2000000 in
theorem fc_ref05_Equal {n : Nat} {a1 : List (Int × Bool)} {b2 : List (Int × Bool)} {r : Bool} (h : ev_ref05_Equal n a1 b2 = some r) : FC Try.prog 31 [.ref 0, .ref 1] [.ro 0 2 (List.map en_api_StrikeStep a1), .ro 1 2 (List.map en_api_StrikeStep b2)] (.val (.bool r)) [] := by
  refine introJ (nz := 26) Try.func31 rfl rfl rfl (fun w0 R0 env0 => ?_)
  rw [ev_ref05_Equal] at h
  refine TC.seq ?_
  refine TC.region ?_
  refine op0 (sp_assign rfl rfl) rfl trivial rfl rfl ?_
  refine TL.nil ?_
  refine TC.seq ?_
  refine TC.seq ?_
  refine TC.region ?_
  refine op0 (sp_move rfl rfl) rfl trivial rfl rfl ?_
  refine op1 0 rfl (sp_lenM (N := a1.length) (len_map _ _) rfl rfl isRo Try.underlying50) rfl trivial rfl rfl ?_
  refine op0 (sp_move rfl rfl) rfl trivial rfl rfl ?_
  refine op1 1 rfl (sp_lenM (N := b2.length) (len_map _ _) rfl rfl isRo Try.underlying50) rfl trivial rfl rfl ?_
  refine op0 (sp_neq rfl rfl rfl) rfl trivial rfl rfl ?_
  refine TL.nil ?_
  refine TC.cond (b := ((a1.length : Int) != (b2.length : Int))) rfl (fun h1 => ?_) (fun h1 => ?_)
  · have h := cond_t h h1
    refine TC.seq ?_
    refine TC.region ?_
    refine op0 (sp_assign rfl rfl) rfl trivial rfl rfl ?_
    refine TL.nil ?_
    cases h
    exact retJ [] (.tmp rfl .nil) rfl trivial rfl rfl
  · have h := cond_f h h1
    refine TC.skip ?_
    refine TC.seq ?_
    refine TC.seq ?_
    refine TC.region ?_
    refine op0 (sp_assign rfl rfl) rfl trivial rfl rfl ?_
    refine TL.nil ?_
    refine TC.block ?_
    refine TC.loop ?_
    refine TC.seq ?_
    refine TC.seq ?_
    refine subJ [] (ok_ref05_Equal_l0 _ _ h) ?_ ?_ ?_
    · exact ⟨rfl, rfl, rfl, trivial⟩
    · exact ⟨mem_at 0 rfl, mem_at 1 rfl, trivial⟩
    · rfl
/- ref05_N -/
def ev_ref05_N (n : Nat) (rr1 : Bool) (rr2 : Bool) (rr3 : List (Int × Int)) : Option Int :=
  cond rr1 (some 24) (some 12)
set_option maxRecDepth 100000 in
set_option maxHeartbeats 2000000 in
theorem fc_ref05_N {n : Nat} {rr1 : Bool} {rr2 : Bool} {rr3 : List (Int × Int)} {r : Int} (h : ev_ref05_N n rr1 rr2 rr3 = some r) : FC Try.prog 19 [.agg [.val (.bool rr1), .val (.bool rr2), .ref 0]] [.ro 0 2 (List.map en_api_Span rr3)] (.val (.int .i64 r)) [] := by
  refine introJ (nz := 5) Try.func19 rfl rfl rfl (fun w0 R0 env0 => ?_)
  rw [ev_ref05_N] at h
  refine TC.seq ?_
  refine TC.region ?_
  refine op0 (sp_box 1 rfl rfl rfl rfl rfl) rfl trivial rfl rfl ?_
  refine op0 (sp_assign rfl rfl) rfl trivial rfl rfl ?_
  refine TL.nil ?_
  refine TC.seq ?_
  refine TC.seq ?_
  refine TC.region ?_
  refine op1 0 rfl (sp_fieldAddrB rfl isBlk rfl ft24_0 vt4 (by decide)) rfl trivial rfl rfl ?_
  refine op1 0 rfl (sp_loadB rfl isBlk rfl vt4 rfl) rfl trivial rfl rfl ?_
  refine TL.nil ?_
  refine TC.cond (b := rr1) rfl (fun h1 => ?_) (fun h1 => ?_)
  · have h := cond_t h h1
    refine TC.seq ?_
    refine TC.region ?_
    refine op0 (sp_assign rfl rfl) rfl trivial rfl rfl ?_
    refine TL.nil ?_
    cases h
    exact retJ [] (.tmp rfl .nil) rfl trivial rfl rfl
  · have h := cond_f h h1
    refine TC.skip ?_
    refine TC.seq ?_
    refine TC.region ?_
    refine op0 (sp_assign rfl rfl) rfl trivial rfl rfl ?_
    refine TL.nil ?_
    cases h
    exact retJ [] (.tmp rfl .nil) rfl trivial rfl rfl
/- ref05_Check -/
def ev_ref05_Check_l0 (n : Nat) : Nat → Int → Bool → Bool → (List (Int × Int)) → Option Int
  | 0, _, _, _, _ => none
  | m + 1, i4, b5, b6, l7 => cond (decide (i4 < (l7.length : Int))) (idx l7 i4 fun x8 => cond (decide (x8.1 < 0)) (some 2) (cond (decide (x8.2 < x8.1)) (some 2) ((ev_ref05_N n b5 b6 l7).bind fun r9 => chk (in64 ((2 : Int) * r9)) <| cond (decide (((2 : Int) * r9) ≤ x8.2)) (some 2) (cond (decide ((0 : Int) < i4)) (chk (in64 (i4 - 1)) <| idx l7 (i4 - 1) fun x10 => cond (decide (x8.1 ≤ x10.2)) (some 2) (chk (in64 (i4 + 1)) <| ev_ref05_Check_l0 n m (i4 + 1) b5 b6 l7)) (chk (in64 (i4 + 1)) <| ev_ref05_Check_l0 n m (i4 + 1) b5 b6 l7))))) (some 0)
set_option maxRecDepth 100000 in
set_option maxHeartbeats 2000000 in
theorem ok_ref05_Check_l0 {n : Nat} {w0 : World} {R0 : Nat → Prop} {env0 : Env} {r : Int} : ∀ (m : Nat) (i4 : Int) (b5 : Bool) (b6 : Bool) (l7 : List (Int × Int)), ev_ref05_Check_l0 n m i4 b5 b6 l7 = some r → TC Try.prog ⟨w0, fun _ => False, R0⟩ 55 (bodyPost Try.prog Try.f17 (Post ⟨w0, fun _ => False, R0⟩ env0 (.val (.int .i64 r)) [])) [.code (sub (bodyOf Try.f17) [1, 1, 0, 1, 0, 0, 0, 0]), .code (sub (bodyOf Try.f17) [1, 1, 0, 1, 0, 0, 0, 1]), .code (sub (bodyOf Try.f17) [1, 1, 0, 1, 0, 0, 1]), .inLoop (sub (bodyOf Try.f17) [1, 1, 0, 1, 0, 0]), .inBlock 0, .code (sub (bodyOf Try.f17) [1, 1, 1])] ([(1, .ptr 1 0), (3, .val (.int .i64 i4))]) ([.blk 1 [.val (.bool b5), .val (.bool b6), .ref 0] 24, .ro 0 2 (List.map en_api_Span l7)]) := by
  intro m
  induction m with
  | zero => intro i4 b5 b6 l7 h; exact none_no h
  | succ m ih =>
    intro i4 b5 b6 l7 h
    rw [ev_ref05_Check_l0] at h
    refine TC.region ?_
    refine op0 (sp_move rfl rfl) rfl trivial rfl rfl ?_
    refine op1 0 rfl (sp_fieldAddrB rfl isBlk rfl ft24_2 vt22 (by decide)) rfl trivial rfl rfl ?_
    refine op1 0 rfl (sp_loadB rfl isBlk rfl vt22 rfl) rfl trivial rfl rfl ?_
    refine op1 1 rfl (sp_lenM (N := l7.length) (len_map _ _) rfl rfl isRo Try.underlying22) rfl trivial rfl rfl ?_
    refine op0 (sp_lss rfl rfl rfl) rfl trivial rfl rfl ?_
    refine TL.nil ?_
    refine TC.cond (b := (decide (i4 < (l7.length : Int)))) rfl (fun h2 => ?_) (fun h2 => ?_)
    · have h := cond_t h h2
      refine TC.skip ?_
      refine TC.seq ?_
      refine TC.block ?_
      refine TC.seq ?_
      refine TC.region ?_
      refine op1 0 rfl (sp_fieldAddrB rfl isBlk rfl ft24_2 vt22 (by decide)) rfl trivial rfl rfl ?_
      refine op1 0 rfl (sp_loadB rfl isBlk rfl vt22 rfl) rfl trivial rfl rfl ?_
      refine op0 (sp_move rfl rfl) rfl trivial rfl rfl ?_
      obtain ⟨x8, h3, h4, h⟩ := idx_inv h
      refine op1 1 rfl (sp_indexS rfl rfl rfl isRo sl22 h3 (map_get _ h4)) rfl trivial rfl rfl ?_
      refine op1 1 rfl (sp_loadRA (i := (i4 : Int).toNat) (j := 0) (as_ := [.val (.int .i64 x8.1), .val (.int .i64 x8.2)]) (ns := []) rfl rfl isRo vt81 rfl (map_get _ h4) rfl rfl (by decide) (.v (.v (.nil))) (nodup_of_B rfl)) rfl trivial rfl rfl ?_
      refine op0 (sp_alloc 2 rfl Try.zeroValue81 rfl) rfl trivial rfl rfl ?_
      refine stoB 0 (cells' := [.val (.int .i64 x8.1), .val (.int .i64 x8.2)]) rfl rfl trivial rfl rfl rfl rfl vt81 rfl rfl rfl ?_
      refine TL.nil ?_
      refine TC.seq ?_
      rcases cond_cases h with ⟨h5, h⟩ | ⟨h5, h⟩
      · refine drawJ 31 [⟨.ptr 2 0, [], [.blk 2 [.val (.int .i64 x8.1), .val (.int .i64 x8.2)] 81], []⟩, ⟨.val (.int .i64 x8.1), [], [.blk 2 [.val (.int .i64 x8.1), .val (.int .i64 x8.2)] 81], []⟩, ⟨.val (.bool (decide (x8.1 < 0))), [], [], []⟩, ⟨.val (.bool true), [], [], []⟩, ⟨.val (undef), [], [], []⟩, ⟨.val (undef), [], [], []⟩, ⟨.val (undef), [], [], []⟩, ⟨.val (undef), [], [], []⟩, ⟨.val (undef), [], [], []⟩, ⟨.val (.bool true), [], [], []⟩, ⟨.val (.bool true), [], [], []⟩, ⟨.val (undef), [], [], []⟩, ⟨.val (undef), [], [], []⟩, ⟨.val (undef), [], [], []⟩, ⟨.val (undef), [], [], []⟩, ⟨.val (undef), [], [], []⟩, ⟨.val (undef), [], [], []⟩, ⟨.val (.bool true), [], [], []⟩, ⟨.val (.bool true), [], [], []⟩, ⟨.val (undef), [], [], []⟩, ⟨.val (undef), [], [], []⟩, ⟨.val (undef), [], [], []⟩, ⟨.val (undef), [], [], []⟩, ⟨.val (undef), [], [], []⟩, ⟨.val (undef), [], [], []⟩, ⟨.val (undef), [], [], []⟩, ⟨.val (undef), [], [], []⟩, ⟨.val (undef), [], [], []⟩, ⟨.val (undef), [], [], []⟩, ⟨.val (undef), [], [], []⟩, ⟨.val (undef), [], [], []⟩] rfl ?_ rfl ?_ rfl ?_ ?_
        · kernel_rfl
        · kernel_rfl
        · exact DAll.op' (sp_fieldAddrB rfl isBlk rfl ft81_0 vt3 (by decide)) trivial rfl (From.ok (ps := [(none, 0)]) ⟨⟨rfl, by kernel_rfl⟩, trivial⟩) (DAll.op' (sp_loadB rfl isBlk rfl vt3 rfl) trivial rfl (From.ok (ps := [(none, 0)]) ⟨⟨rfl, by kernel_rfl⟩, trivial⟩) (DAll.op' (sp_lss rfl rfl rfl) trivial rfl (From.ok (ps := []) trivial) (DAll.op' (sp_castB h5 (sp_move rfl rfl)) trivial rfl (From.ok (ps := []) trivial) (.skip ⟨_, rfl, .inl rfl⟩ rfl rfl rfl (.skip ⟨_, rfl, .inl rfl⟩ rfl rfl rfl (.skip ⟨_, rfl, .inl rfl⟩ rfl rfl rfl (.skip ⟨_, rfl, .inl rfl⟩ rfl rfl rfl (.skip ⟨_, rfl, .inl rfl⟩ rfl rfl rfl (DAll.op' (sp_pickT rfl rfl rfl) trivial rfl (From.ok (ps := []) trivial) (DAll.op' (sp_move rfl rfl) trivial rfl (From.ok (ps := []) trivial) (.skip ⟨_, rfl, .inl rfl⟩ rfl rfl rfl (.skip ⟨_, rfl, .inl rfl⟩ rfl rfl rfl (.skip ⟨_, rfl, .inl rfl⟩ rfl rfl rfl (.skip ⟨_, rfl, .inl rfl⟩ rfl rfl rfl (.skip ⟨_, rfl, .inl rfl⟩ rfl rfl rfl (.skip ⟨_, rfl, .inl rfl⟩ rfl rfl rfl (DAll.op' (sp_pickT rfl rfl rfl) trivial rfl (From.ok (ps := []) trivial) (DAll.op' (sp_move rfl rfl) trivial rfl (From.ok (ps := []) trivial) (.skip ⟨_, rfl, .inl rfl⟩ rfl rfl rfl (.skip ⟨_, rfl, .inl rfl⟩ rfl rfl rfl (.skip ⟨_, rfl, .inl rfl⟩ rfl rfl rfl (.skip ⟨_, rfl, .inr rfl⟩ rfl rfl rfl (.skip ⟨_, rfl, .inr rfl⟩ rfl rfl rfl (.skip ⟨_, rfl, .inr rfl⟩ rfl rfl rfl (.skip ⟨_, rfl, .inr rfl⟩ rfl rfl rfl (.skip ⟨_, rfl, .inr rfl⟩ rfl rfl rfl (.skip ⟨_, rfl, .inr rfl⟩ rfl rfl rfl (.skip ⟨_, rfl, .inr rfl⟩ rfl rfl rfl (.skip ⟨_, rfl, .inr rfl⟩ rfl rfl rfl (.skip ⟨_, rfl, .inr rfl⟩ rfl rfl rfl (.nil)))))))))))))))))))))))))))))))
        refine opSkip rfl ⟨_, rfl, .inr rfl⟩ rfl ?_
        refine opSkip rfl ⟨_, rfl, .inl rfl⟩ rfl ?_
        refine op0 (sp_pickT rfl rfl rfl) rfl trivial rfl rfl ?_
        refine TL.nil ?_
        refine TC.condT rfl ?_
        refine TC.seq ?_
        refine TC.region ?_
        refine op0 (sp_assign rfl rfl) rfl trivial rfl rfl ?_
        refine TL.nil ?_
        cases h
        exact retJ [] (.tmp rfl .nil) rfl trivial rfl rfl
      · rcases cond_cases h with ⟨h6, h⟩ | ⟨h6, h⟩
        · refine drawJ 31 [⟨.ptr 2 0, [], [.blk 2 [.val (.int .i64 x8.1), .val (.int .i64 x8.2)] 81], []⟩, ⟨.val (.int .i64 x8.1), [], [.blk 2 [.val (.int .i64 x8.1), .val (.int .i64 x8.2)] 81], []⟩, ⟨.val (.bool (decide (x8.1 < 0))), [], [], []⟩, ⟨.val (.bool false), [], [], []⟩, ⟨.ptr 2 0, [], [.blk 2 [.val (.int .i64 x8.1), .val (.int .i64 x8.2)] 81], []⟩, ⟨.val (.int .i64 x8.1), [], [.blk 2 [.val (.int .i64 x8.1), .val (.int .i64 x8.2)] 81], []⟩, ⟨.ptr 2 1, [], [.blk 2 [.val (.int .i64 x8.1), .val (.int .i64 x8.2)] 81], []⟩, ⟨.val (.int .i64 x8.2), [], [.blk 2 [.val (.int .i64 x8.1), .val (.int .i64 x8.2)] 81], []⟩, ⟨.val (.bool (decide (x8.2 < x8.1))), [], [], []⟩, ⟨.val (.bool (decide (x8.2 < x8.1))), [], [], []⟩, ⟨.val (.bool true), [], [], []⟩, ⟨.val (undef), [], [], []⟩, ⟨.val (undef), [], [], []⟩, ⟨.val (undef), [], [], []⟩, ⟨.val (undef), [], [], []⟩, ⟨.val (undef), [], [], []⟩, ⟨.val (undef), [], [], []⟩, ⟨.val (.bool true), [], [], []⟩, ⟨.val (.bool true), [], [], []⟩, ⟨.val (undef), [], [], []⟩, ⟨.val (undef), [], [], []⟩, ⟨.val (undef), [], [], []⟩, ⟨.val (undef), [], [], []⟩, ⟨.val (undef), [], [], []⟩, ⟨.val (undef), [], [], []⟩, ⟨.val (undef), [], [], []⟩, ⟨.val (undef), [], [], []⟩, ⟨.val (undef), [], [], []⟩, ⟨.val (undef), [], [], []⟩, ⟨.val (undef), [], [], []⟩, ⟨.val (undef), [], [], []⟩] rfl ?_ rfl ?_ rfl ?_ ?_
          · kernel_rfl
          · kernel_rfl
          · exact DAll.op' (sp_fieldAddrB rfl isBlk rfl ft81_0 vt3 (by decide)) trivial rfl (From.ok (ps := [(none, 0)]) ⟨⟨rfl, by kernel_rfl⟩, trivial⟩) (DAll.op' (sp_loadB rfl isBlk rfl vt3 rfl) trivial rfl (From.ok (ps := [(none, 0)]) ⟨⟨rfl, by kernel_rfl⟩, trivial⟩) (DAll.op' (sp_lss rfl rfl rfl) trivial rfl (From.ok (ps := []) trivial) (DAll.op' (sp_castB h5 (sp_move rfl rfl)) trivial rfl (From.ok (ps := []) trivial) (DAll.op' (sp_fieldAddrB rfl isBlk rfl ft81_0 vt3 (by decide)) ⟨_, rfl, rfl⟩ rfl (From.ok (ps := [(none, 0)]) ⟨⟨rfl, by kernel_rfl⟩, trivial⟩) (DAll.op' (sp_loadB rfl isBlk rfl vt3 rfl) ⟨_, rfl, rfl⟩ rfl (From.ok (ps := [(none, 0)]) ⟨⟨rfl, by kernel_rfl⟩, trivial⟩) (DAll.op' (sp_fieldAddrB rfl isBlk rfl ft81_1 vt3 (by decide)) ⟨_, rfl, rfl⟩ rfl (From.ok (ps := [(none, 0)]) ⟨⟨rfl, by kernel_rfl⟩, trivial⟩) (DAll.op' (sp_loadB rfl isBlk rfl vt3 rfl) ⟨_, rfl, rfl⟩ rfl (From.ok (ps := [(none, 0)]) ⟨⟨rfl, by kernel_rfl⟩, trivial⟩) (DAll.op' (sp_gtr rfl rfl rfl) ⟨_, rfl, rfl⟩ rfl (From.ok (ps := []) trivial) (DAll.op' (sp_pickF rfl rfl rfl) trivial rfl (From.ok (ps := []) trivial) (DAll.op' (sp_castB h6 (sp_move rfl rfl)) trivial rfl (From.ok (ps := []) trivial) (.skip ⟨_, rfl, .inl rfl⟩ rfl rfl rfl (.skip ⟨_, rfl, .inl rfl⟩ rfl rfl rfl (.skip ⟨_, rfl, .inl rfl⟩ rfl rfl rfl (.skip ⟨_, rfl, .inl rfl⟩ rfl rfl rfl (.skip ⟨_, rfl, .inl rfl⟩ rfl rfl rfl (.skip ⟨_, rfl, .inl rfl⟩ rfl rfl rfl (DAll.op' (sp_pickT rfl rfl rfl) trivial rfl (From.ok (ps := []) trivial) (DAll.op' (sp_move rfl rfl) trivial rfl (From.ok (ps := []) trivial) (.skip ⟨_, rfl, .inl rfl⟩ rfl rfl rfl (.skip ⟨_, rfl, .inl rfl⟩ rfl rfl rfl (.skip ⟨_, rfl, .inl rfl⟩ rfl rfl rfl (.skip ⟨_, rfl, .inr rfl⟩ rfl rfl rfl (.skip ⟨_, rfl, .inr rfl⟩ rfl rfl rfl (.skip ⟨_, rfl, .inr rfl⟩ rfl rfl rfl (.skip ⟨_, rfl, .inr rfl⟩ rfl rfl rfl (.skip ⟨_, rfl, .inr rfl⟩ rfl rfl rfl (.skip ⟨_, rfl, .inr rfl⟩ rfl rfl rfl (.skip ⟨_, rfl, .inr rfl⟩ rfl rfl rfl (.skip ⟨_, rfl, .inr rfl⟩ rfl rfl rfl (.skip ⟨_, rfl, .inr rfl⟩ rfl rfl rfl (.nil)))))))))))))))))))))))))))))))
          refine opSkip rfl ⟨_, rfl, .inr rfl⟩ rfl ?_
          refine opSkip rfl ⟨_, rfl, .inl rfl⟩ rfl ?_
          refine op0 (sp_pickT rfl rfl rfl) rfl trivial rfl rfl ?_
          refine TL.nil ?_
          refine TC.condT rfl ?_
          refine TC.seq ?_
          refine TC.region ?_
          refine op0 (sp_assign rfl rfl) rfl trivial rfl rfl ?_
          refine TL.nil ?_
          cases h
          exact retJ [] (.tmp rfl .nil) rfl trivial rfl rfl
        · obtain ⟨r9, h7, h⟩ := bind_inv h
          obtain ⟨h8, h⟩ := chk_inv h
          rcases cond_cases h with ⟨h9, h⟩ | ⟨h9, h⟩
          · refine drawJ 31 [⟨.ptr 2 0, [], [.blk 2 [.val (.int .i64 x8.1), .val (.int .i64 x8.2)] 81], []⟩, ⟨.val (.int .i64 x8.1), [], [.blk 2 [.val (.int .i64 x8.1), .val (.int .i64 x8.2)] 81], []⟩, ⟨.val (.bool (decide (x8.1 < 0))), [], [], []⟩, ⟨.val (.bool false), [], [], []⟩, ⟨.ptr 2 0, [], [.blk 2 [.val (.int .i64 x8.1), .val (.int .i64 x8.2)] 81], []⟩, ⟨.val (.int .i64 x8.1), [], [.blk 2 [.val (.int .i64 x8.1), .val (.int .i64 x8.2)] 81], []⟩, ⟨.ptr 2 1, [], [.blk 2 [.val (.int .i64 x8.1), .val (.int .i64 x8.2)] 81], []⟩, ⟨.val (.int .i64 x8.2), [], [.blk 2 [.val (.int .i64 x8.1), .val (.int .i64 x8.2)] 81], []⟩, ⟨.val (.bool (decide (x8.2 < x8.1))), [], [], []⟩, ⟨.val (.bool (decide (x8.2 < x8.1))), [], [], []⟩, ⟨.val (.bool false), [], [], []⟩, ⟨.ptr 2 1, [], [.blk 2 [.val (.int .i64 x8.1), .val (.int .i64 x8.2)] 81], []⟩, ⟨.val (.int .i64 x8.2), [], [.blk 2 [.val (.int .i64 x8.1), .val (.int .i64 x8.2)] 81], []⟩, ⟨.agg [.val (.bool b5), .val (.bool b6), .ref 0], [], [.blk 1 [.val (.bool b5), .val (.bool b6), .ref 0] 24], []⟩, ⟨.val (.int .i64 r9), [], [.ro 0 2 (List.map en_api_Span l7)], []⟩, ⟨.val (.int .i64 ((2 : Int) * r9)), [], [], []⟩, ⟨.val (.bool (decide (((2 : Int) * r9) ≤ x8.2))), [], [], []⟩, ⟨.val (.bool (decide (((2 : Int) * r9) ≤ x8.2))), [], [], []⟩, ⟨.val (.bool true), [], [], []⟩, ⟨.val (undef), [], [], []⟩, ⟨.val (undef), [], [], []⟩, ⟨.val (undef), [], [], []⟩, ⟨.val (undef), [], [], []⟩, ⟨.val (undef), [], [], []⟩, ⟨.val (undef), [], [], []⟩, ⟨.val (undef), [], [], []⟩, ⟨.val (undef), [], [], []⟩, ⟨.val (undef), [], [], []⟩, ⟨.val (undef), [], [], []⟩, ⟨.val (undef), [], [], []⟩, ⟨.val (undef), [], [], []⟩] rfl ?_ rfl ?_ rfl ?_ ?_
            · kernel_rfl
            · kernel_rfl
            · exact DAll.op' (sp_fieldAddrB rfl isBlk rfl ft81_0 vt3 (by decide)) trivial rfl (From.ok (ps := [(none, 0)]) ⟨⟨rfl, by kernel_rfl⟩, trivial⟩) (DAll.op' (sp_loadB rfl isBlk rfl vt3 rfl) trivial rfl (From.ok (ps := [(none, 0)]) ⟨⟨rfl, by kernel_rfl⟩, trivial⟩) (DAll.op' (sp_lss rfl rfl rfl) trivial rfl (From.ok (ps := []) trivial) (DAll.op' (sp_castB h5 (sp_move rfl rfl)) trivial rfl (From.ok (ps := []) trivial) (DAll.op' (sp_fieldAddrB rfl isBlk rfl ft81_0 vt3 (by decide)) ⟨_, rfl, rfl⟩ rfl (From.ok (ps := [(none, 0)]) ⟨⟨rfl, by kernel_rfl⟩, trivial⟩) (DAll.op' (sp_loadB rfl isBlk rfl vt3 rfl) ⟨_, rfl, rfl⟩ rfl (From.ok (ps := [(none, 0)]) ⟨⟨rfl, by kernel_rfl⟩, trivial⟩) (DAll.op' (sp_fieldAddrB rfl isBlk rfl ft81_1 vt3 (by decide)) ⟨_, rfl, rfl⟩ rfl (From.ok (ps := [(none, 0)]) ⟨⟨rfl, by kernel_rfl⟩, trivial⟩) (DAll.op' (sp_loadB rfl isBlk rfl vt3 rfl) ⟨_, rfl, rfl⟩ rfl (From.ok (ps := [(none, 0)]) ⟨⟨rfl, by kernel_rfl⟩, trivial⟩) (DAll.op' (sp_gtr rfl rfl rfl) ⟨_, rfl, rfl⟩ rfl (From.ok (ps := []) trivial) (DAll.op' (sp_pickF rfl rfl rfl) trivial rfl (From.ok (ps := []) trivial) (DAll.op' (sp_castB h6 (sp_move rfl rfl)) trivial rfl (From.ok (ps := []) trivial) (DAll.op' (sp_fieldAddrB rfl isBlk rfl ft81_1 vt3 (by decide)) ⟨_, rfl, rfl⟩ rfl (From.ok (ps := [(none, 0)]) ⟨⟨rfl, by kernel_rfl⟩, trivial⟩) (DAll.op' (sp_loadB rfl isBlk rfl vt3 rfl) ⟨_, rfl, rfl⟩ rfl (From.ok (ps := [(none, 0)]) ⟨⟨rfl, by kernel_rfl⟩, trivial⟩) (DAll.op' (sp_loadBA rfl isBlk rfl vt24 rfl rfl) ⟨_, rfl, rfl⟩ rfl (From.ok (ps := [(none, 1)]) ⟨⟨rfl, by kernel_rfl⟩, trivial⟩) (DAll.op' (sp_call (avs := [.agg [.val (.bool b5), .val (.bool b6), .ref 0]]) (need := [.ro 0 2 (List.map en_api_Span l7)]) (v := .val (.int .i64 r9)) (news := []) rfl rfl rfl Try.call19 (atJ [] [] (fc_ref05_N h7) rfl rfl) (.inl (roAll rfl))) ⟨_, rfl, rfl⟩ rfl (From.ok (ps := [(none, 2)]) ⟨⟨rfl, by kernel_rfl⟩, trivial⟩) (DAll.op' (sp_mul rfl rfl rfl h8) ⟨_, rfl, rfl⟩ rfl (From.ok (ps := []) trivial) (DAll.op' (sp_geq rfl rfl rfl) ⟨_, rfl, rfl⟩ rfl (From.ok (ps := []) trivial) (DAll.op' (sp_pickF rfl rfl rfl) trivial rfl (From.ok (ps := []) trivial) (DAll.op' (sp_castB h9 (sp_move rfl rfl)) trivial rfl (From.ok (ps := []) trivial) (.skip ⟨_, rfl, .inl rfl⟩ rfl rfl rfl (.skip ⟨_, rfl, .inl rfl⟩ rfl rfl rfl (.skip ⟨_, rfl, .inl rfl⟩ rfl rfl rfl (.skip ⟨_, rfl, .inr rfl⟩ rfl rfl rfl (.skip ⟨_, rfl, .inr rfl⟩ rfl rfl rfl (.skip ⟨_, rfl, .inr rfl⟩ rfl rfl rfl (.skip ⟨_, rfl, .inr rfl⟩ rfl rfl rfl (.skip ⟨_, rfl, .inr rfl⟩ rfl rfl rfl (.skip ⟨_, rfl, .inr rfl⟩ rfl rfl rfl (.skip ⟨_, rfl, .inr rfl⟩ rfl rfl rfl (.skip ⟨_, rfl, .inr rfl⟩ rfl rfl rfl (.skip ⟨_, rfl, .inr rfl⟩ rfl rfl rfl (.nil)))))))))))))))))))))))))))))))
            refine opSkip rfl ⟨_, rfl, .inr rfl⟩ rfl ?_
            refine opSkip rfl ⟨_, rfl, .inl rfl⟩ rfl ?_
            refine op0 (sp_pickT rfl rfl rfl) rfl trivial rfl rfl ?_
            refine TL.nil ?_
            refine TC.condT rfl ?_
            refine TC.seq ?_
            refine TC.region ?_
            refine op0 (sp_assign rfl rfl) rfl trivial rfl rfl ?_
            refine TL.nil ?_
            cases h
            exact retJ [] (.tmp rfl .nil) rfl trivial rfl rfl
          · rcases cond_cases h with ⟨h10, h⟩ | ⟨h10, h⟩
            · obtain ⟨h11, h⟩ := chk_inv h
              obtain ⟨x10, h12, h13, h⟩ := idx_inv h
              refine drawJ 31 [⟨.ptr 2 0, [], [.blk 2 [.val (.int .i64 x8.1), .val (.int .i64 x8.2)] 81], []⟩, ⟨.val (.int .i64 x8.1), [], [.blk 2 [.val (.int .i64 x8.1), .val (.int .i64 x8.2)] 81], []⟩, ⟨.val (.bool (decide (x8.1 < 0))), [], [], []⟩, ⟨.val (.bool false), [], [], []⟩, ⟨.ptr 2 0, [], [.blk 2 [.val (.int .i64 x8.1), .val (.int .i64 x8.2)] 81], []⟩, ⟨.val (.int .i64 x8.1), [], [.blk 2 [.val (.int .i64 x8.1), .val (.int .i64 x8.2)] 81], []⟩, ⟨.ptr 2 1, [], [.blk 2 [.val (.int .i64 x8.1), .val (.int .i64 x8.2)] 81], []⟩, ⟨.val (.int .i64 x8.2), [], [.blk 2 [.val (.int .i64 x8.1), .val (.int .i64 x8.2)] 81], []⟩, ⟨.val (.bool (decide (x8.2 < x8.1))), [], [], []⟩, ⟨.val (.bool (decide (x8.2 < x8.1))), [], [], []⟩, ⟨.val (.bool false), [], [], []⟩, ⟨.ptr 2 1, [], [.blk 2 [.val (.int .i64 x8.1), .val (.int .i64 x8.2)] 81], []⟩, ⟨.val (.int .i64 x8.2), [], [.blk 2 [.val (.int .i64 x8.1), .val (.int .i64 x8.2)] 81], []⟩, ⟨.agg [.val (.bool b5), .val (.bool b6), .ref 0], [], [.blk 1 [.val (.bool b5), .val (.bool b6), .ref 0] 24], []⟩, ⟨.val (.int .i64 r9), [], [.ro 0 2 (List.map en_api_Span l7)], []⟩, ⟨.val (.int .i64 ((2 : Int) * r9)), [], [], []⟩, ⟨.val (.bool (decide (((2 : Int) * r9) ≤ x8.2))), [], [], []⟩, ⟨.val (.bool (decide (((2 : Int) * r9) ≤ x8.2))), [], [], []⟩, ⟨.val (.bool false), [], [], []⟩, ⟨.val (.int .i64 i4), [], [], []⟩, ⟨.val (.bool (decide ((0 : Int) < i4))), [], [], []⟩, ⟨.val (.bool true), [], [], []⟩, ⟨.ptr 2 0, [], [.blk 2 [.val (.int .i64 x8.1), .val (.int .i64 x8.2)] 81], []⟩, ⟨.val (.int .i64 x8.1), [], [.blk 2 [.val (.int .i64 x8.1), .val (.int .i64 x8.2)] 81], []⟩, ⟨.ptr 1 2, [], [.blk 1 [.val (.bool b5), .val (.bool b6), .ref 0] 24], []⟩, ⟨.ref 0, [], [.blk 1 [.val (.bool b5), .val (.bool b6), .ref 0] 24], []⟩, ⟨.val (.int .i64 i4), [], [], []⟩, ⟨.val (.int .i64 (i4 - 1)), [], [], []⟩, ⟨.cell 0 (((i4 - 1) : Int).toNat * 2), [], [.ro 0 2 (List.map en_api_Span l7)], []⟩, ⟨.cell 0 (((i4 - 1) : Int).toNat * 2 + 1), [], [.ro 0 2 (List.map en_api_Span l7)], []⟩, ⟨.val (.int .i64 x10.2), [], [.ro 0 2 (List.map en_api_Span l7)], []⟩] rfl ?_ rfl ?_ rfl ?_ ?_
              · kernel_rfl
              · kernel_rfl
              · exact DAll.op' (sp_fieldAddrB rfl isBlk rfl ft81_0 vt3 (by decide)) trivial rfl (From.ok (ps := [(none, 0)]) ⟨⟨rfl, by kernel_rfl⟩, trivial⟩) (DAll.op' (sp_loadB rfl isBlk rfl vt3 rfl) trivial rfl (From.ok (ps := [(none, 0)]) ⟨⟨rfl, by kernel_rfl⟩, trivial⟩) (DAll.op' (sp_lss rfl rfl rfl) trivial rfl (From.ok (ps := []) trivial) (DAll.op' (sp_castB h5 (sp_move rfl rfl)) trivial rfl (From.ok (ps := []) trivial) (DAll.op' (sp_fieldAddrB rfl isBlk rfl ft81_0 vt3 (by decide)) ⟨_, rfl, rfl⟩ rfl (From.ok (ps := [(none, 0)]) ⟨⟨rfl, by kernel_rfl⟩, trivial⟩) (DAll.op' (sp_loadB rfl isBlk rfl vt3 rfl) ⟨_, rfl, rfl⟩ rfl (From.ok (ps := [(none, 0)]) ⟨⟨rfl, by kernel_rfl⟩, trivial⟩) (DAll.op' (sp_fieldAddrB rfl isBlk rfl ft81_1 vt3 (by decide)) ⟨_, rfl, rfl⟩ rfl (From.ok (ps := [(none, 0)]) ⟨⟨rfl, by kernel_rfl⟩, trivial⟩) (DAll.op' (sp_loadB rfl isBlk rfl vt3 rfl) ⟨_, rfl, rfl⟩ rfl (From.ok (ps := [(none, 0)]) ⟨⟨rfl, by kernel_rfl⟩, trivial⟩) (DAll.op' (sp_gtr rfl rfl rfl) ⟨_, rfl, rfl⟩ rfl (From.ok (ps := []) trivial) (DAll.op' (sp_pickF rfl rfl rfl) trivial rfl (From.ok (ps := []) trivial) (DAll.op' (sp_castB h6 (sp_move rfl rfl)) trivial rfl (From.ok (ps := []) trivial) (DAll.op' (sp_fieldAddrB rfl isBlk rfl ft81_1 vt3 (by decide)) ⟨_, rfl, rfl⟩ rfl (From.ok (ps := [(none, 0)]) ⟨⟨rfl, by kernel_rfl⟩, trivial⟩) (DAll.op' (sp_loadB rfl isBlk rfl vt3 rfl) ⟨_, rfl, rfl⟩ rfl (From.ok (ps := [(none, 0)]) ⟨⟨rfl, by kernel_rfl⟩, trivial⟩) (DAll.op' (sp_loadBA rfl isBlk rfl vt24 rfl rfl) ⟨_, rfl, rfl⟩ rfl (From.ok (ps := [(none, 1)]) ⟨⟨rfl, by kernel_rfl⟩, trivial⟩) (DAll.op' (sp_call (avs := [.agg [.val (.bool b5), .val (.bool b6), .ref 0]]) (need := [.ro 0 2 (List.map en_api_Span l7)]) (v := .val (.int .i64 r9)) (news := []) rfl rfl rfl Try.call19 (atJ [] [] (fc_ref05_N h7) rfl rfl) (.inl (roAll rfl))) ⟨_, rfl, rfl⟩ rfl (From.ok (ps := [(none, 2)]) ⟨⟨rfl, by kernel_rfl⟩, trivial⟩) (DAll.op' (sp_mul rfl rfl rfl h8) ⟨_, rfl, rfl⟩ rfl (From.ok (ps := []) trivial) (DAll.op' (sp_geq rfl rfl rfl) ⟨_, rfl, rfl⟩ rfl (From.ok (ps := []) trivial) (DAll.op' (sp_pickF rfl rfl rfl) trivial rfl (From.ok (ps := []) trivial) (DAll.op' (sp_castB h9 (sp_move rfl rfl)) trivial rfl (From.ok (ps := []) trivial) (DAll.op' (sp_move rfl rfl) ⟨_, rfl, rfl⟩ rfl (From.ok (ps := []) trivial) (DAll.op' (sp_gtr rfl rfl rfl) ⟨_, rfl, rfl⟩ rfl (From.ok (ps := []) trivial) (DAll.op' (sp_castB h10 (sp_move rfl rfl)) ⟨_, rfl, rfl⟩ rfl (From.ok (ps := []) trivial) (DAll.op' (sp_fieldAddrB rfl isBlk rfl ft81_0 vt3 (by decide)) ⟨_, rfl, rfl⟩ rfl (From.ok (ps := [(none, 0)]) ⟨⟨rfl, by kernel_rfl⟩, trivial⟩) (DAll.op' (sp_loadB rfl isBlk rfl vt3 rfl) ⟨_, rfl, rfl⟩ rfl (From.ok (ps := [(none, 0)]) ⟨⟨rfl, by kernel_rfl⟩, trivial⟩) (DAll.op' (sp_fieldAddrB rfl isBlk rfl ft24_2 vt22 (by decide)) ⟨_, rfl, rfl⟩ rfl (From.ok (ps := [(none, 1)]) ⟨⟨rfl, by kernel_rfl⟩, trivial⟩) (DAll.op' (sp_loadB rfl isBlk rfl vt22 rfl) ⟨_, rfl, rfl⟩ rfl (From.ok (ps := [(none, 1)]) ⟨⟨rfl, by kernel_rfl⟩, trivial⟩) (DAll.op' (sp_move rfl rfl) ⟨_, rfl, rfl⟩ rfl (From.ok (ps := []) trivial) (DAll.op' (sp_sub rfl rfl rfl h11) ⟨_, rfl, rfl⟩ rfl (From.ok (ps := []) trivial) (DAll.op' (sp_indexS rfl rfl rfl isRo sl22 h12 (map_get _ h13)) ⟨_, rfl, rfl⟩ rfl (From.ok (ps := [(none, 2)]) ⟨⟨rfl, by kernel_rfl⟩, trivial⟩) (DAll.op' (sp_fieldAddrR (i := ((i4 - 1) : Int).toNat) rfl rfl isRo ft81_1 vt3 (by decide) (map_get _ h13) (fun h => nomatch h)) ⟨_, rfl, rfl⟩ rfl (From.ok (ps := [(none, 2)]) ⟨⟨rfl, by kernel_rfl⟩, trivial⟩) (DAll.op' (sp_loadR (i := ((i4 - 1) : Int).toNat) (j := 1) rfl rfl isRo vt3 rfl (map_get _ h13) rfl (.v (.nil)) (nodup_of_B rfl)) ⟨_, rfl, rfl⟩ rfl (From.ok (ps := [(none, 2)]) ⟨⟨rfl, by kernel_rfl⟩, trivial⟩) (.nil)))))))))))))))))))))))))))))))
              refine op0 (sp_leq rfl rfl rfl) rfl ⟨_, rfl, rfl⟩ rfl rfl ?_
              refine op0 (sp_pickT rfl rfl rfl) rfl ⟨_, rfl, rfl⟩ rfl rfl ?_
              refine op0 (sp_pickF rfl rfl rfl) rfl trivial rfl rfl ?_
              refine TL.nil ?_
              refine TC.cond (b := (decide (x8.1 ≤ x10.2))) rfl (fun h14 => ?_) (fun h14 => ?_)
              · have h := cond_t h h14
                refine TC.seq ?_
                refine TC.region ?_
                refine op0 (sp_assign rfl rfl) rfl trivial rfl rfl ?_
                refine TL.nil ?_
                cases h
                exact retJ [] (.tmp rfl .nil) rfl trivial rfl rfl
              · have h := cond_f h h14
                refine TC.skip ?_
                refine TC.inBlock ?_
                refine TC.region ?_
                refine op0 (sp_move rfl rfl) rfl trivial rfl rfl ?_
                obtain ⟨h15, h⟩ := chk_inv h
                refine op0 (sp_add rfl rfl rfl h15) rfl trivial rfl rfl ?_
                refine op0 (sp_assign rfl rfl) rfl trivial rfl rfl ?_
                refine TL.nil ?_
                refine TC.inLoop ?_
                refine TC.seq ?_
                refine TC.seq ?_
                refine subJ [] (ih _ _ _ _ h) ?_ ?_ ?_
                · exact ⟨rfl, rfl, trivial⟩
                · exact ⟨mem_at 1 rfl, mem_at 2 rfl, trivial⟩
                · rfl
            · refine drawJ 31 [⟨.ptr 2 0, [], [.blk 2 [.val (.int .i64 x8.1), .val (.int .i64 x8.2)] 81], []⟩, ⟨.val (.int .i64 x8.1), [], [.blk 2 [.val (.int .i64 x8.1), .val (.int .i64 x8.2)] 81], []⟩, ⟨.val (.bool (decide (x8.1 < 0))), [], [], []⟩, ⟨.val (.bool false), [], [], []⟩, ⟨.ptr 2 0, [], [.blk 2 [.val (.int .i64 x8.1), .val (.int .i64 x8.2)] 81], []⟩, ⟨.val (.int .i64 x8.1), [], [.blk 2 [.val (.int .i64 x8.1), .val (.int .i64 x8.2)] 81], []⟩, ⟨.ptr 2 1, [], [.blk 2 [.val (.int .i64 x8.1), .val (.int .i64 x8.2)] 81], []⟩, ⟨.val (.int .i64 x8.2), [], [.blk 2 [.val (.int .i64 x8.1), .val (.int .i64 x8.2)] 81], []⟩, ⟨.val (.bool (decide (x8.2 < x8.1))), [], [], []⟩, ⟨.val (.bool (decide (x8.2 < x8.1))), [], [], []⟩, ⟨.val (.bool false), [], [], []⟩, ⟨.ptr 2 1, [], [.blk 2 [.val (.int .i64 x8.1), .val (.int .i64 x8.2)] 81], []⟩, ⟨.val (.int .i64 x8.2), [], [.blk 2 [.val (.int .i64 x8.1), .val (.int .i64 x8.2)] 81], []⟩, ⟨.agg [.val (.bool b5), .val (.bool b6), .ref 0], [], [.blk 1 [.val (.bool b5), .val (.bool b6), .ref 0] 24], []⟩, ⟨.val (.int .i64 r9), [], [.ro 0 2 (List.map en_api_Span l7)], []⟩, ⟨.val (.int .i64 ((2 : Int) * r9)), [], [], []⟩, ⟨.val (.bool (decide (((2 : Int) * r9) ≤ x8.2))), [], [], []⟩, ⟨.val (.bool (decide (((2 : Int) * r9) ≤ x8.2))), [], [], []⟩, ⟨.val (.bool false), [], [], []⟩, ⟨.val (.int .i64 i4), [], [], []⟩, ⟨.val (.bool (decide ((0 : Int) < i4))), [], [], []⟩, ⟨.val (.bool false), [], [], []⟩, ⟨.val (undef), [], [], []⟩, ⟨.val (undef), [], [], []⟩, ⟨.val (undef), [], [], []⟩, ⟨.val (undef), [], [], []⟩, ⟨.val (undef), [], [], []⟩, ⟨.val (undef), [], [], []⟩, ⟨.val (undef), [], [], []⟩, ⟨.val (undef), [], [], []⟩, ⟨.val (undef), [], [], []⟩] rfl ?_ rfl ?_ rfl ?_ ?_
              · kernel_rfl
              · kernel_rfl
              · exact DAll.op' (sp_fieldAddrB rfl isBlk rfl ft81_0 vt3 (by decide)) trivial rfl (From.ok (ps := [(none, 0)]) ⟨⟨rfl, by kernel_rfl⟩, trivial⟩) (DAll.op' (sp_loadB rfl isBlk rfl vt3 rfl) trivial rfl (From.ok (ps := [(none, 0)]) ⟨⟨rfl, by kernel_rfl⟩, trivial⟩) (DAll.op' (sp_lss rfl rfl rfl) trivial rfl (From.ok (ps := []) trivial) (DAll.op' (sp_castB h5 (sp_move rfl rfl)) trivial rfl (From.ok (ps := []) trivial) (DAll.op' (sp_fieldAddrB rfl isBlk rfl ft81_0 vt3 (by decide)) ⟨_, rfl, rfl⟩ rfl (From.ok (ps := [(none, 0)]) ⟨⟨rfl, by kernel_rfl⟩, trivial⟩) (DAll.op' (sp_loadB rfl isBlk rfl vt3 rfl) ⟨_, rfl, rfl⟩ rfl (From.ok (ps := [(none, 0)]) ⟨⟨rfl, by kernel_rfl⟩, trivial⟩) (DAll.op' (sp_fieldAddrB rfl isBlk rfl ft81_1 vt3 (by decide)) ⟨_, rfl, rfl⟩ rfl (From.ok (ps := [(none, 0)]) ⟨⟨rfl, by kernel_rfl⟩, trivial⟩) (DAll.op' (sp_loadB rfl isBlk rfl vt3 rfl) ⟨_, rfl, rfl⟩ rfl (From.ok (ps := [(none, 0)]) ⟨⟨rfl, by kernel_rfl⟩, trivial⟩) (DAll.op' (sp_gtr rfl rfl rfl) ⟨_, rfl, rfl⟩ rfl (From.ok (ps := []) trivial) (DAll.op' (sp_pickF rfl rfl rfl) trivial rfl (From.ok (ps := []) trivial) (DAll.op' (sp_castB h6 (sp_move rfl rfl)) trivial rfl (From.ok (ps := []) trivial) (DAll.op' (sp_fieldAddrB rfl isBlk rfl ft81_1 vt3 (by decide)) ⟨_, rfl, rfl⟩ rfl (From.ok (ps := [(none, 0)]) ⟨⟨rfl, by kernel_rfl⟩, trivial⟩) (DAll.op' (sp_loadB rfl isBlk rfl vt3 rfl) ⟨_, rfl, rfl⟩ rfl (From.ok (ps := [(none, 0)]) ⟨⟨rfl, by kernel_rfl⟩, trivial⟩) (DAll.op' (sp_loadBA rfl isBlk rfl vt24 rfl rfl) ⟨_, rfl, rfl⟩ rfl (From.ok (ps := [(none, 1)]) ⟨⟨rfl, by kernel_rfl⟩, trivial⟩) (DAll.op' (sp_call (avs := [.agg [.val (.bool b5), .val (.bool b6), .ref 0]]) (need := [.ro 0 2 (List.map en_api_Span l7)]) (v := .val (.int .i64 r9)) (news := []) rfl rfl rfl Try.call19 (atJ [] [] (fc_ref05_N h7) rfl rfl) (.inl (roAll rfl))) ⟨_, rfl, rfl⟩ rfl (From.ok (ps := [(none, 2)]) ⟨⟨rfl, by kernel_rfl⟩, trivial⟩) (DAll.op' (sp_mul rfl rfl rfl h8) ⟨_, rfl, rfl⟩ rfl (From.ok (ps := []) trivial) (DAll.op' (sp_geq rfl rfl rfl) ⟨_, rfl, rfl⟩ rfl (From.ok (ps := []) trivial) (DAll.op' (sp_pickF rfl rfl rfl) trivial rfl (From.ok (ps := []) trivial) (DAll.op' (sp_castB h9 (sp_move rfl rfl)) trivial rfl (From.ok (ps := []) trivial) (DAll.op' (sp_move rfl rfl) ⟨_, rfl, rfl⟩ rfl (From.ok (ps := []) trivial) (DAll.op' (sp_gtr rfl rfl rfl) ⟨_, rfl, rfl⟩ rfl (From.ok (ps := []) trivial) (DAll.op' (sp_castB h10 (sp_move rfl rfl)) ⟨_, rfl, rfl⟩ rfl (From.ok (ps := []) trivial) (.skip ⟨_, rfl, .inl rfl⟩ rfl rfl rfl (.skip ⟨_, rfl, .inl rfl⟩ rfl rfl rfl (.skip ⟨_, rfl, .inl rfl⟩ rfl rfl rfl (.skip ⟨_, rfl, .inl rfl⟩ rfl rfl rfl (.skip ⟨_, rfl, .inl rfl⟩ rfl rfl rfl (.skip ⟨_, rfl, .inl rfl⟩ rfl rfl rfl (.skip ⟨_, rfl, .inl rfl⟩ rfl rfl rfl (.skip ⟨_, rfl, .inl rfl⟩ rfl rfl rfl (.skip ⟨_, rfl, .inl rfl⟩ rfl rfl rfl (.nil)))))))))))))))))))))))))))))))
              refine opSkip rfl ⟨_, rfl, .inl rfl⟩ rfl ?_
              refine op0 (sp_pickF rfl rfl rfl) rfl ⟨_, rfl, rfl⟩ rfl rfl ?_
              refine op0 (sp_pickF rfl rfl rfl) rfl trivial rfl rfl ?_
              refine TL.nil ?_
              refine TC.condF rfl ?_
              refine TC.skip ?_
              refine TC.inBlock ?_
              refine TC.region ?_
              refine op0 (sp_move rfl rfl) rfl trivial rfl rfl ?_
              obtain ⟨h16, h⟩ := chk_inv h
              refine op0 (sp_add rfl rfl rfl h16) rfl trivial rfl rfl ?_
              refine op0 (sp_assign rfl rfl) rfl trivial rfl rfl ?_
              refine TL.nil ?_
              refine TC.inLoop ?_
              refine TC.seq ?_
              refine TC.seq ?_
              refine subJ [] (ih _ _ _ _ h) ?_ ?_ ?_
              · exact ⟨rfl, rfl, trivial⟩
              · exact ⟨mem_at 1 rfl, mem_at 2 rfl, trivial⟩
              · rfl
    · have h := cond_f h h2
      refine TC.exit rfl ?_
      refine TC.seq ?_
      refine TC.region ?_
      refine op0 (sp_assign rfl rfl) rfl trivial rfl rfl ?_
      refine TL.nil ?_
      cases h
      exact retJ [] (.tmp rfl .nil) rfl trivial rfl rfl
def ev_ref05_Check (n : Nat) (rr1 : Bool) (rr2 : Bool) (rr3 : List (Int × Int)) : Option Int :=
  cond (decide ((8 : Int) < (rr3.length : Int))) (some 5) (ev_ref05_Check_l0 n n 0 rr1 rr2 rr3)
set_option maxRecDepth 100000 in
set_option maxHeartbeats 2000000 in
theorem fc_ref05_Check {n : Nat} {rr1 : Bool} {rr2 : Bool} {rr3 : List (Int × Int)} {r : Int} (h : ev_ref05_Check n rr1 rr2 rr3 = some r) : FC Try.prog 17 [.agg [.val (.bool rr1), .val (.bool rr2), .ref 0]] [.ro 0 2 (List.map en_api_Span rr3)] (.val (.int .i64 r)) [] := by
  refine introJ (nz := 55) Try.func17 rfl rfl rfl (fun w0 R0 env0 => ?_)
  rw [ev_ref05_Check] at h
  refine TC.seq ?_
  refine TC.region ?_
  refine op0 (sp_box 1 rfl rfl rfl rfl rfl) rfl trivial rfl rfl ?_
  refine op0 (sp_assign rfl rfl) rfl trivial rfl rfl ?_
  refine TL.nil ?_
  refine TC.seq ?_
  refine TC.seq ?_
  refine TC.region ?_
  refine op1 0 rfl (sp_fieldAddrB rfl isBlk rfl ft24_2 vt22 (by decide)) rfl trivial rfl rfl ?_
  refine op1 0 rfl (sp_loadB rfl isBlk rfl vt22 rfl) rfl trivial rfl rfl ?_
  refine op1 1 rfl (sp_lenM (N := rr3.length) (len_map _ _) rfl rfl isRo Try.underlying22) rfl trivial rfl rfl ?_
  refine op0 (sp_gtr rfl rfl rfl) rfl trivial rfl rfl ?_
  refine TL.nil ?_
  refine TC.cond (b := (decide ((8 : Int) < (rr3.length : Int)))) rfl (fun h1 => ?_) (fun h1 => ?_)
  · have h := cond_t h h1
    refine TC.seq ?_
    refine TC.region ?_
    refine op0 (sp_assign rfl rfl) rfl trivial rfl rfl ?_
    refine TL.nil ?_
    cases h
    exact retJ [] (.tmp rfl .nil) rfl trivial rfl rfl
  · have h := cond_f h h1
    refine TC.skip ?_
    refine TC.seq ?_
    refine TC.seq ?_
    refine TC.region ?_
    refine op0 (sp_assign rfl rfl) rfl trivial rfl rfl ?_
    refine TL.nil ?_
    refine TC.block ?_
    refine TC.loop ?_
    refine TC.seq ?_
    refine TC.seq ?_
    refine subJ [] (ok_ref05_Check_l0 _ _ _ _ _ h) ?_ ?_ ?_
    · exact ⟨rfl, rfl, trivial⟩
    · exact ⟨mem_at 0 rfl, mem_at 1 rfl, trivial⟩
    · rfl
/- ref05_Silent -/
def ev_ref05_Silent_l0 (n : Nat) (rr3 : List (Int × Int)) (slot4 : Int) (r5 : Int) : Nat → Int → Option Bool
  | 0, _ => none
  | m + 1, i6 => cond (decide (i6 < (rr3.length : Int))) (idx rr3 i6 fun x7 => cond (decide (x7.1 ≤ (Int.tmod slot4 ((2 : Int) * r5)))) (cond (decide ((Int.tmod slot4 ((2 : Int) * r5)) ≤ x7.2)) (some true) (chk (in64 (i6 + 1)) <| ev_ref05_Silent_l0 n rr3 slot4 r5 m (i6 + 1))) (chk (in64 (i6 + 1)) <| ev_ref05_Silent_l0 n rr3 slot4 r5 m (i6 + 1))) (some false)
set_option maxRecDepth 100000 in
set_option maxHeartbeats 2000000 in
theorem ok_ref05_Silent_l0 {n : Nat} {w0 : World} {R0 : Nat → Prop} {env0 : Env} {r : Bool} {slot4 : Int} {r5 : Int} {rr1 : Bool} {rr2 : Bool} {rr3 : List (Int × Int)} : ∀ (m : Nat) (i6 : Int), ev_ref05_Silent_l0 n rr3 slot4 r5 m i6 = some r → TC Try.prog ⟨w0, fun _ => False, R0⟩ 37 (bodyPost Try.prog Try.f45 (Post ⟨w0, fun _ => False, R0⟩ env0 (.val (.bool r)) [])) [.code (sub (bodyOf Try.f45) [1, 1, 0, 1, 0, 0, 0, 0]), .code (sub (bodyOf Try.f45) [1, 1, 0, 1, 0, 0, 0, 1]), .code (sub (bodyOf Try.f45) [1, 1, 0, 1, 0, 0, 1]), .inLoop (sub (bodyOf Try.f45) [1, 1, 0, 1, 0, 0]), .inBlock 0, .code (sub (bodyOf Try.f45) [1, 1, 1])] ([(2, .ptr 1 0), (5, .val (.int .i64 (Int.tmod slot4 ((2 : Int) * r5)))), (6, .val (.int .i64 i6))]) ([.blk 1 [.val (.bool rr1), .val (.bool rr2), .ref 0] 24, .ro 0 2 (List.map en_api_Span rr3)]) := by
  intro m
  induction m with
  | zero => intro i6 h; exact none_no h
  | succ m ih =>
    intro i6 h
    rw [ev_ref05_Silent_l0] at h
    refine TC.region ?_
    refine op0 (sp_move rfl rfl) rfl trivial rfl rfl ?_
    refine op1 0 rfl (sp_fieldAddrB rfl isBlk rfl ft24_2 vt22 (by decide)) rfl trivial rfl rfl ?_
    refine op1 0 rfl (sp_loadB rfl isBlk rfl vt22 rfl) rfl trivial rfl rfl ?_
    refine op1 1 rfl (sp_lenM (N := rr3.length) (len_map _ _) rfl rfl isRo Try.underlying22) rfl trivial rfl rfl ?_
    refine op0 (sp_lss rfl rfl rfl) rfl trivial rfl rfl ?_
    refine TL.nil ?_
    refine TC.cond (b := (decide (i6 < (rr3.length : Int)))) rfl (fun h4 => ?_) (fun h4 => ?_)
    · have h := cond_t h h4
      refine TC.skip ?_
      refine TC.seq ?_
      refine TC.block ?_
      refine TC.seq ?_
      refine TC.region ?_
      refine op0 (sp_move rfl rfl) rfl trivial rfl rfl ?_
      refine op1 0 rfl (sp_fieldAddrB rfl isBlk rfl ft24_2 vt22 (by decide)) rfl trivial rfl rfl ?_
      refine op1 0 rfl (sp_loadB rfl isBlk rfl vt22 rfl) rfl trivial rfl rfl ?_
      refine op0 (sp_move rfl rfl) rfl trivial rfl rfl ?_
      obtain ⟨x7, h5, h6, h⟩ := idx_inv h
      refine op1 1 rfl (sp_indexS rfl rfl rfl isRo sl22 h5 (map_get _ h6)) rfl trivial rfl rfl ?_
      refine op1 1 rfl (sp_fieldAddrR (i := (i6 : Int).toNat) rfl rfl isRo ft81_0 vt3 (by decide) (map_get _ h6) (fun h => nomatch h)) rfl trivial rfl rfl ?_
      refine op1 1 rfl (sp_loadR (i := (i6 : Int).toNat) (j := 0) rfl rfl isRo vt3 rfl (map_get _ h6) rfl (.v (.nil)) (nodup_of_B rfl)) rfl trivial rfl rfl ?_
      refine op0 (sp_geq rfl rfl rfl) rfl trivial rfl rfl ?_
      refine op0 (sp_move rfl rfl) rfl trivial rfl rfl ?_
      rcases cond_cases h with ⟨h7, h⟩ | ⟨h7, h⟩
      · refine (boolLit 27 rfl h7).2 ?_
        refine op0 (sp_move rfl rfl) rfl ⟨_, rfl, rfl⟩ rfl rfl ?_
        refine op1 0 rfl (sp_fieldAddrB rfl isBlk rfl ft24_2 vt22 (by decide)) rfl ⟨_, rfl, rfl⟩ rfl rfl ?_
        refine op1 0 rfl (sp_loadB rfl isBlk rfl vt22 rfl) rfl ⟨_, rfl, rfl⟩ rfl rfl ?_
        refine op0 (sp_move rfl rfl) rfl ⟨_, rfl, rfl⟩ rfl rfl ?_
        refine op1 1 rfl (sp_indexS rfl rfl rfl isRo sl22 h5 (map_get _ h6)) rfl ⟨_, rfl, rfl⟩ rfl rfl ?_
        refine op1 1 rfl (sp_fieldAddrR (i := (i6 : Int).toNat) rfl rfl isRo ft81_1 vt3 (by decide) (map_get _ h6) (fun h => nomatch h)) rfl ⟨_, rfl, rfl⟩ rfl rfl ?_
        refine op1 1 rfl (sp_loadR (i := (i6 : Int).toNat) (j := 1) rfl rfl isRo vt3 rfl (map_get _ h6) rfl (.v (.nil)) (nodup_of_B rfl)) rfl ⟨_, rfl, rfl⟩ rfl rfl ?_
        refine op0 (sp_leq rfl rfl rfl) rfl ⟨_, rfl, rfl⟩ rfl rfl ?_
        refine op0 (sp_pickT rfl rfl rfl) rfl trivial rfl rfl ?_
        refine TL.nil ?_
        refine TC.cond (b := (decide ((Int.tmod slot4 ((2 : Int) * r5)) ≤ x7.2))) rfl (fun h8 => ?_) (fun h8 => ?_)
        · have h := cond_t h h8
          refine TC.seq ?_
          refine TC.region ?_
          refine op0 (sp_assign rfl rfl) rfl trivial rfl rfl ?_
          refine TL.nil ?_
          cases h
          exact retJ [] (.tmp rfl .nil) rfl trivial rfl rfl
        · have h := cond_f h h8
          refine TC.skip ?_
          refine TC.inBlock ?_
          refine TC.region ?_
          refine op0 (sp_move rfl rfl) rfl trivial rfl rfl ?_
          obtain ⟨h9, h⟩ := chk_inv h
          refine op0 (sp_add rfl rfl rfl h9) rfl trivial rfl rfl ?_
          refine op0 (sp_assign rfl rfl) rfl trivial rfl rfl ?_
          refine TL.nil ?_
          refine TC.inLoop ?_
          refine TC.seq ?_
          refine TC.seq ?_
          refine subJ [] (ih _ h) ?_ ?_ ?_
          · exact ⟨rfl, rfl, rfl, trivial⟩
          · exact ⟨mem_at 0 rfl, mem_at 1 rfl, trivial⟩
          · rfl
      · refine (boolLit 27 rfl h7).2 ?_
        refine opSkip rfl ⟨_, rfl, .inl rfl⟩ rfl ?_
        refine opSkip rfl ⟨_, rfl, .inl rfl⟩ rfl ?_
        refine opSkip rfl ⟨_, rfl, .inl rfl⟩ rfl ?_
        refine opSkip rfl ⟨_, rfl, .inl rfl⟩ rfl ?_
        refine opSkip rfl ⟨_, rfl, .inl rfl⟩ rfl ?_
        refine opSkip rfl ⟨_, rfl, .inl rfl⟩ rfl ?_
        refine opSkip rfl ⟨_, rfl, .inl rfl⟩ rfl ?_
        refine opSkip rfl ⟨_, rfl, .inl rfl⟩ rfl ?_
        refine op0 (sp_pickF rfl rfl rfl) rfl trivial rfl rfl ?_
        refine TL.nil ?_
        refine TC.condF rfl ?_
        refine TC.skip ?_
        refine TC.inBlock ?_
        refine TC.region ?_
        refine op0 (sp_move rfl rfl) rfl trivial rfl rfl ?_
        obtain ⟨h10, h⟩ := chk_inv h
        refine op0 (sp_add rfl rfl rfl h10) rfl trivial rfl rfl ?_
        refine op0 (sp_assign rfl rfl) rfl trivial rfl rfl ?_
        refine TL.nil ?_
        refine TC.inLoop ?_
        refine TC.seq ?_
        refine TC.seq ?_
        refine subJ [] (ih _ h) ?_ ?_ ?_
        · exact ⟨rfl, rfl, rfl, trivial⟩
        · exact ⟨mem_at 0 rfl, mem_at 1 rfl, trivial⟩
        · rfl
    · have h := cond_f h h4
      refine TC.exit rfl ?_
      refine TC.seq ?_
      refine TC.region ?_
      refine op0 (sp_assign rfl rfl) rfl trivial rfl rfl ?_
      refine TL.nil ?_
      cases h
      exact retJ [] (.tmp rfl .nil) rfl trivial rfl rfl
def ev_ref05_Silent (n : Nat) (rr1 : Bool) (rr2 : Bool) (rr3 : List (Int × Int)) (slot4 : Int) : Option Bool :=
  (ev_ref05_N n rr1 rr2 rr3).bind fun r5 => chk (in64 ((2 : Int) * r5)) <| chk (((2 : Int) * r5) != 0) <| ev_ref05_Silent_l0 n rr3 slot4 r5 n 0
set_option maxRecDepth 100000 in
set_option maxHeartbeats 2000000 in
theorem fc_ref05_Silent {n : Nat} {rr1 : Bool} {rr2 : Bool} {rr3 : List (Int × Int)} {slot4 : Int} {r : Bool} (h : ev_ref05_Silent n rr1 rr2 rr3 slot4 = some r) : FC Try.prog 45 [.agg [.val (.bool rr1), .val (.bool rr2), .ref 0], .val (.int .i64 slot4)] [.ro 0 2 (List.map en_api_Span rr3)] (.val (.bool r)) [] := by
  refine introJ (nz := 37) Try.func45 rfl rfl rfl (fun w0 R0 env0 => ?_)
  rw [ev_ref05_Silent] at h
  refine TC.seq ?_
  refine TC.region ?_
  refine op0 (sp_box 1 rfl rfl rfl rfl rfl) rfl trivial rfl rfl ?_
  refine op0 (sp_assign rfl rfl) rfl trivial rfl rfl ?_
  refine TL.nil ?_
  refine TC.seq ?_
  refine TC.region ?_
  refine op0 (sp_move rfl rfl) rfl trivial rfl rfl ?_
  refine op1 0 rfl (sp_loadBA rfl isBlk rfl vt24 rfl rfl) rfl trivial rfl rfl ?_
  obtain ⟨r5, h1, h⟩ := bind_inv h
  refine op1 1 rfl (sp_call (avs := [.agg [.val (.bool rr1), .val (.bool rr2), .ref 0]]) (need := [.ro 0 2 (List.map en_api_Span rr3)]) (v := .val (.int .i64 r5)) (news := []) rfl rfl rfl Try.call19 (atJ [] [] (fc_ref05_N h1) rfl rfl) (.inl (roAll rfl))) rfl trivial rfl rfl ?_
  obtain ⟨h2, h⟩ := chk_inv h
  refine op0 (sp_mul rfl rfl rfl h2) rfl trivial rfl rfl ?_
  obtain ⟨h3, h⟩ := chk_inv h
  refine op0 (sp_rem rfl rfl rfl h3) rfl trivial rfl rfl ?_
  refine op0 (sp_assign rfl rfl) rfl trivial rfl rfl ?_
  refine TL.nil ?_
  refine TC.seq ?_
  refine TC.seq ?_
  refine TC.region ?_
  refine op0 (sp_assign rfl rfl) rfl trivial rfl rfl ?_
  refine TL.nil ?_
  refine TC.block ?_
  refine TC.loop ?_
  refine TC.seq ?_
  refine TC.seq ?_
  refine subJ [] (ok_ref05_Silent_l0 (rr1 := rr1) (rr2 := rr2) _ _ h) ?_ ?_ ?_
  · exact ⟨rfl, rfl, rfl, trivial⟩
  · exact ⟨mem_at 0 rfl, mem_at 1 rfl, trivial⟩
  · rfl
/- ref05_B -/
def ev_ref05_B (n : Nat) (rr1 : Bool) (rr2 : Bool) (rr3 : List (Int × Int)) (place4 : Int) : Option Int :=
  cond rr1 (cond ((Int.tmod place4 2) == 1) (some 1) (cond rr1 (chk (in64 (Int.tdiv place4 2)) <| cond ((Int.tdiv place4 2) == 0) (some 12) (some (Int.tdiv place4 2))) (cond (place4 == 0) (some 12) (some place4)))) (cond rr1 (chk (in64 (Int.tdiv place4 2)) <| cond ((Int.tdiv place4 2) == 0) (some 12) (some (Int.tdiv place4 2))) (cond (place4 == 0) (some 12) (some place4)))
set_option maxRecDepth 100000 in
set_option maxHeartbeats 2000000 in
theorem fc_ref05_B {n : Nat} {rr1 : Bool} {rr2 : Bool} {rr3 : List (Int × Int)} {place4 : Int} {r : Int} (h : ev_ref05_B n rr1 rr2 rr3 place4 = some r) : FC Try.prog 46 [.agg [.val (.bool rr1), .val (.bool rr2), .ref 0], .val (.int .i64 place4)] [.ro 0 2 (List.map en_api_Span rr3)] (.val (.int .i64 r)) [] := by
  refine introJ (nz := 21) Try.func46 rfl rfl rfl (fun w0 R0 env0 => ?_)
  rw [ev_ref05_B] at h
  refine TC.seq ?_
  refine TC.region ?_
  refine op0 (sp_box 1 rfl rfl rfl rfl rfl) rfl trivial rfl rfl ?_
  refine op0 (sp_assign rfl rfl) rfl trivial rfl rfl ?_
  refine TL.nil ?_
  refine TC.seq ?_
  refine TC.seq ?_
  refine TC.region ?_
  refine op1 0 rfl (sp_fieldAddrB rfl isBlk rfl ft24_0 vt4 (by decide)) rfl trivial rfl rfl ?_
  refine op1 0 rfl (sp_loadB rfl isBlk rfl vt4 rfl) rfl trivial rfl rfl ?_
  refine op0 (sp_move rfl rfl) rfl trivial rfl rfl ?_
  rcases cond_cases h with ⟨h1, h⟩ | ⟨h1, h⟩
  · refine (boolLit 8 rfl h1).2 ?_
    refine op0 (sp_move rfl rfl) rfl ⟨_, rfl, rfl⟩ rfl rfl ?_
    refine op0 (sp_rem rfl rfl rfl (by decide)) rfl ⟨_, rfl, rfl⟩ rfl rfl ?_
    refine op0 (sp_eql rfl rfl rfl) rfl ⟨_, rfl, rfl⟩ rfl rfl ?_
    refine op0 (sp_pickT rfl rfl rfl) rfl trivial rfl rfl ?_
    refine TL.nil ?_
    refine TC.cond (b := ((Int.tmod place4 2) == 1)) rfl (fun h2 => ?_) (fun h2 => ?_)
    · have h := cond_t h h2
      refine TC.seq ?_
      refine TC.region ?_
      refine op0 (sp_assign rfl rfl) rfl trivial rfl rfl ?_
      refine TL.nil ?_
      cases h
      exact retJ [] (.tmp rfl .nil) rfl trivial rfl rfl
    · have h := cond_f h h2
      refine TC.skip ?_
      refine TC.seq ?_
      refine TC.region ?_
      refine op0 (sp_move rfl rfl) rfl trivial rfl rfl ?_
      refine op0 (sp_assign rfl rfl) rfl trivial rfl rfl ?_
      refine TL.nil ?_
      refine TC.seq ?_
      refine TC.seq ?_
      refine TC.region ?_
      refine op1 0 rfl (sp_fieldAddrB rfl isBlk rfl ft24_0 vt4 (by decide)) rfl trivial rfl rfl ?_
      refine op1 0 rfl (sp_loadB rfl isBlk rfl vt4 rfl) rfl trivial rfl rfl ?_
      refine TL.nil ?_
      refine TC.cond (b := rr1) rfl (fun h3 => ?_) (fun h3 => ?_)
      · have h := cond_t h h3
        refine TC.region ?_
        refine op0 (sp_move rfl rfl) rfl trivial rfl rfl ?_
        obtain ⟨h4, h⟩ := chk_inv h
        refine op0 (sp_quo rfl rfl rfl (by decide) h4) rfl trivial rfl rfl ?_
        refine op0 (sp_assign rfl rfl) rfl trivial rfl rfl ?_
        refine TL.nil ?_
        refine TC.seq ?_
        refine TC.seq ?_
        refine TC.region ?_
        refine op0 (sp_move rfl rfl) rfl trivial rfl rfl ?_
        refine op0 (sp_eql rfl rfl rfl) rfl trivial rfl rfl ?_
        refine TL.nil ?_
        refine TC.cond (b := ((Int.tdiv place4 2) == 0)) rfl (fun h5 => ?_) (fun h5 => ?_)
        · have h := cond_t h h5
          refine TC.seq ?_
          refine TC.region ?_
          refine op0 (sp_assign rfl rfl) rfl trivial rfl rfl ?_
          refine TL.nil ?_
          cases h
          exact retJ [] (.tmp rfl .nil) rfl trivial rfl rfl
        · have h := cond_f h h5
          refine TC.skip ?_
          refine TC.seq ?_
          refine TC.region ?_
          refine op0 (sp_move rfl rfl) rfl trivial rfl rfl ?_
          refine op0 (sp_assign rfl rfl) rfl trivial rfl rfl ?_
          refine TL.nil ?_
          cases h
          exact retJ [] (.tmp rfl .nil) rfl trivial rfl rfl
      · have h := cond_f h h3
        refine TC.skip ?_
        refine TC.seq ?_
        refine TC.seq ?_
        refine TC.region ?_
        refine op0 (sp_move rfl rfl) rfl trivial rfl rfl ?_
        refine op0 (sp_eql rfl rfl rfl) rfl trivial rfl rfl ?_
        refine TL.nil ?_
        refine TC.cond (b := (place4 == 0)) rfl (fun h6 => ?_) (fun h6 => ?_)
        · have h := cond_t h h6
          refine TC.seq ?_
          refine TC.region ?_
          refine op0 (sp_assign rfl rfl) rfl trivial rfl rfl ?_
          refine TL.nil ?_
          cases h
          exact retJ [] (.tmp rfl .nil) rfl trivial rfl rfl
        · have h := cond_f h h6
          refine TC.skip ?_
          refine TC.seq ?_
          refine TC.region ?_
          refine op0 (sp_move rfl rfl) rfl trivial rfl rfl ?_
          refine op0 (sp_assign rfl rfl) rfl trivial rfl rfl ?_
          refine TL.nil ?_
          cases h
          exact retJ [] (.tmp rfl .nil) rfl trivial rfl rfl
  · refine (boolLit 8 rfl h1).2 ?_
    refine opSkip rfl ⟨_, rfl, .inl rfl⟩ rfl ?_
    refine opSkip rfl ⟨_, rfl, .inl rfl⟩ rfl ?_
    refine opSkip rfl ⟨_, rfl, .inl rfl⟩ rfl ?_
    refine op0 (sp_pickF rfl rfl rfl) rfl trivial rfl rfl ?_
    refine TL.nil ?_
    refine TC.condF rfl ?_
    refine TC.skip ?_
    refine TC.seq ?_
    refine TC.region ?_
    refine op0 (sp_move rfl rfl) rfl trivial rfl rfl ?_
    refine op0 (sp_assign rfl rfl) rfl trivial rfl rfl ?_
    refine TL.nil ?_
    refine TC.seq ?_
    refine TC.seq ?_
    refine TC.region ?_
    refine op1 0 rfl (sp_fieldAddrB rfl isBlk rfl ft24_0 vt4 (by decide)) rfl trivial rfl rfl ?_
    refine op1 0 rfl (sp_loadB rfl isBlk rfl vt4 rfl) rfl trivial rfl rfl ?_
    refine TL.nil ?_
    refine TC.cond (b := rr1) rfl (fun h7 => ?_) (fun h7 => ?_)
    · have h := cond_t h h7
      refine TC.region ?_
      refine op0 (sp_move rfl rfl) rfl trivial rfl rfl ?_
      obtain ⟨h8, h⟩ := chk_inv h
      refine op0 (sp_quo rfl rfl rfl (by decide) h8) rfl trivial rfl rfl ?_
      refine op0 (sp_assign rfl rfl) rfl trivial rfl rfl ?_
      refine TL.nil ?_
      refine TC.seq ?_
      refine TC.seq ?_
      refine TC.region ?_
      refine op0 (sp_move rfl rfl) rfl trivial rfl rfl ?_
      refine op0 (sp_eql rfl rfl rfl) rfl trivial rfl rfl ?_
      refine TL.nil ?_
      refine TC.cond (b := ((Int.tdiv place4 2) == 0)) rfl (fun h9 => ?_) (fun h9 => ?_)
      · have h := cond_t h h9
        refine TC.seq ?_
        refine TC.region ?_
        refine op0 (sp_assign rfl rfl) rfl trivial rfl rfl ?_
        refine TL.nil ?_
        cases h
        exact retJ [] (.tmp rfl .nil) rfl trivial rfl rfl
      · have h := cond_f h h9
        refine TC.skip ?_
        refine TC.seq ?_
        refine TC.region ?_
        refine op0 (sp_move rfl rfl) rfl trivial rfl rfl ?_
        refine op0 (sp_assign rfl rfl) rfl trivial rfl rfl ?_
        refine TL.nil ?_
        cases h
        exact retJ [] (.tmp rfl .nil) rfl trivial rfl rfl
    · have h := cond_f h h7
      refine TC.skip ?_
      refine TC.seq ?_
      refine TC.seq ?_
      refine TC.region ?_
      refine op0 (sp_move rfl rfl) rfl trivial rfl rfl ?_
      refine op0 (sp_eql rfl rfl rfl) rfl trivial rfl rfl ?_
      refine TL.nil ?_
      refine TC.cond (b := (place4 == 0)) rfl (fun h10 => ?_) (fun h10 => ?_)
      · have h := cond_t h h10
        refine TC.seq ?_
        refine TC.region ?_
        refine op0 (sp_assign rfl rfl) rfl trivial rfl rfl ?_
        refine TL.nil ?_
        cases h
        exact retJ [] (.tmp rfl .nil) rfl trivial rfl rfl
      · have h := cond_f h h10
        refine TC.skip ?_
        refine TC.seq ?_
        refine TC.region ?_
        refine op0 (sp_move rfl rfl) rfl trivial rfl rfl ?_
        refine op0 (sp_assign rfl rfl) rfl trivial rfl rfl ?_
        refine TL.nil ?_
        cases h
        exact retJ [] (.tmp rfl .nil) rfl trivial rfl rfl
/- ref05_Blows -/
def ev_ref05_Blows (n : Nat) (rr1 : Bool) (rr2 : Bool) (rr3 : List (Int × Int)) (slot4 : Int) (place5 : Int) : Option Int :=
  (ev_ref05_Silent n rr1 rr2 rr3 slot4).bind fun r6 => cond r6 (some 0) ((ev_ref05_B n rr1 rr2 rr3 place5).bind fun r7 => some r7)
set_option maxRecDepth 100000 in
set_option maxHeartbeats 2000000 in
theorem fc_ref05_Blows {n : Nat} {rr1 : Bool} {rr2 : Bool} {rr3 : List (Int × Int)} {slot4 : Int} {place5 : Int} {r : Int} (h : ev_ref05_Blows n rr1 rr2 rr3 slot4 place5 = some r) : FC Try.prog 20 [.agg [.val (.bool rr1), .val (.bool rr2), .ref 0], .val (.int .i64 slot4), .val (.int .i64 place5)] [.ro 0 2 (List.map en_api_Span rr3)] (.val (.int .i64 r)) [] := by
  refine introJ (nz := 13) Try.func20 rfl rfl rfl (fun w0 R0 env0 => ?_)
  rw [ev_ref05_Blows] at h
  refine TC.seq ?_
  refine TC.region ?_
  refine op0 (sp_box 1 rfl rfl rfl rfl rfl) rfl trivial rfl rfl ?_
  refine op0 (sp_assign rfl rfl) rfl trivial rfl rfl ?_
  refine TL.nil ?_
  refine TC.seq ?_
  refine TC.seq ?_
  refine TC.region ?_
  refine op1 0 rfl (sp_loadBA rfl isBlk rfl vt24 rfl rfl) rfl trivial rfl rfl ?_
  refine op0 (sp_move rfl rfl) rfl trivial rfl rfl ?_
  obtain ⟨r6, h1, h⟩ := bind_inv h
  refine op1 1 rfl (sp_call (avs := [.agg [.val (.bool rr1), .val (.bool rr2), .ref 0], .val (.int .i64 slot4)]) (need := [.ro 0 2 (List.map en_api_Span rr3)]) (v := .val (.bool r6)) (news := []) rfl rfl rfl Try.call45 (atJ [] [] (fc_ref05_Silent h1) rfl rfl) (.inl (roAll rfl))) rfl trivial rfl rfl ?_
  refine TL.nil ?_
  refine TC.cond (b := r6) rfl (fun h2 => ?_) (fun h2 => ?_)
  · have h := cond_t h h2
    refine TC.seq ?_
    refine TC.region ?_
    refine op0 (sp_assign rfl rfl) rfl trivial rfl rfl ?_
    refine TL.nil ?_
    cases h
    exact retJ [] (.tmp rfl .nil) rfl trivial rfl rfl
  · have h := cond_f h h2
    refine TC.skip ?_
    refine TC.seq ?_
    refine TC.region ?_
    refine op1 0 rfl (sp_loadBA rfl isBlk rfl vt24 rfl rfl) rfl trivial rfl rfl ?_
    refine op0 (sp_move rfl rfl) rfl trivial rfl rfl ?_
    obtain ⟨r7, h3, h⟩ := bind_inv h
    refine op1 1 rfl (sp_call (avs := [.agg [.val (.bool rr1), .val (.bool rr2), .ref 0], .val (.int .i64 place5)]) (need := [.ro 0 2 (List.map en_api_Span rr3)]) (v := .val (.int .i64 r7)) (news := []) rfl rfl rfl Try.call46 (atJ [] [] (fc_ref05_B h3) rfl rfl) (.inl (roAll rfl))) rfl trivial rfl rfl ?_
    refine op0 (sp_assign rfl rfl) rfl trivial rfl rfl ?_
    refine TL.nil ?_
    cases h
    exact retJ [] (.tmp rfl .nil) rfl trivial rfl rfl
/- ref05_Slot -/
def ev_ref05_Slot (n : Nat) (nn1 : Int) : Option Bool :=
  cond (decide ((0 : Int) ≤ nn1)) (some (decide (nn1 ≤ 2000000))) (some false)
set_option maxRecDepth 100000 in
set_option maxHeartbeats 2000000 in
theorem fc_ref05_Slot {n : Nat} {nn1 : Int} {r : Bool} (h : ev_ref05_Slot n nn1 = some r) : FC Try.prog 21 [.val (.int .i64 nn1)] [] (.val (.bool r)) [] := by
  refine introJ (nz := 9) Try.func21 rfl rfl rfl (fun w0 R0 env0 => ?_)
  rw [ev_ref05_Slot] at h
  refine TC.seq ?_
  refine TC.region ?_
  refine op0 (sp_assign rfl rfl) rfl trivial rfl rfl ?_
  refine TL.nil ?_
  refine TC.seq ?_
  refine TC.region ?_
  refine op0 (sp_move rfl rfl) rfl trivial rfl rfl ?_
  refine op0 (sp_geq rfl rfl rfl) rfl trivial rfl rfl ?_
  refine op0 (sp_move rfl rfl) rfl trivial rfl rfl ?_
  rcases cond_cases h with ⟨h1, h⟩ | ⟨h1, h⟩
  · refine (boolLit 5 rfl h1).2 ?_
    refine op0 (sp_move rfl rfl) rfl ⟨_, rfl, rfl⟩ rfl rfl ?_
    refine op0 (sp_leq rfl rfl rfl) rfl ⟨_, rfl, rfl⟩ rfl rfl ?_
    refine op0 (sp_pickT rfl rfl rfl) rfl trivial rfl rfl ?_
    refine op0 (sp_assign rfl rfl) rfl trivial rfl rfl ?_
    refine TL.nil ?_
    cases h
    exact retJ [] (.tmp rfl .nil) rfl trivial rfl rfl
  · refine (boolLit 5 rfl h1).2 ?_
    refine opSkip rfl ⟨_, rfl, .inl rfl⟩ rfl ?_
    refine opSkip rfl ⟨_, rfl, .inl rfl⟩ rfl ?_
    refine op0 (sp_pickF rfl rfl rfl) rfl trivial rfl rfl ?_
    refine op0 (sp_assign rfl rfl) rfl trivial rfl rfl ?_
    refine TL.nil ?_
    cases h
    exact retJ [] (.tmp rfl .nil) rfl trivial rfl rfl
/- ref05_Begin -/
def ev_ref05_Begin (n : Nat) (rr1 : Bool) (rr2 : Bool) (rr3 : List (Int × Int)) (slot4 : Int) (place5 : Int) : Option Int :=
  (ev_ref05_Slot n slot4).bind fun r6 => cond (!r6) (some 3) (cond (decide (place5 < 0)) (some 2) ((ev_ref05_N n rr1 rr2 rr3).bind fun r7 => cond (decide (r7 ≤ place5)) (some 2) (cond rr2 ((ev_ref05_N n rr1 rr2 rr3).bind fun r8 => chk (r8 != 0) <| cond (place5 != (Int.tmod slot4 r8)) (some 2) (some 0)) (some 0))))
set_option maxRecDepth 100000 in
set_option maxHeartbeats 2000000 in
theorem fc_ref05_Begin {n : Nat} {rr1 : Bool} {rr2 : Bool} {rr3 : List (Int × Int)} {slot4 : Int} {place5 : Int} {r : Int} (h : ev_ref05_Begin n rr1 rr2 rr3 slot4 place5 = some r) : FC Try.prog 29 [.agg [.val (.bool rr1), .val (.bool rr2), .ref 0], .val (.int .i64 slot4), .val (.int .i64 place5)] [.ro 0 2 (List.map en_api_Span rr3)] (.val (.int .i64 r)) [] := by
  refine introJ (nz := 30) Try.func29 rfl rfl rfl (fun w0 R0 env0 => ?_)
  rw [ev_ref05_Begin] at h
  refine TC.seq ?_
  refine TC.region ?_
  refine op0 (sp_box 1 rfl rfl rfl rfl rfl) rfl trivial rfl rfl ?_
  refine op0 (sp_assign rfl rfl) rfl trivial rfl rfl ?_
  refine TL.nil ?_
  refine TC.seq ?_
  refine TC.seq ?_
  refine TC.region ?_
  refine op0 (sp_move rfl rfl) rfl trivial rfl rfl ?_
  obtain ⟨r6, h1, h⟩ := bind_inv h
  refine op0 (sp_call (avs := [.val (.int .i64 slot4)]) (need := []) (v := .val (.bool r6)) (news := []) rfl rfl rfl Try.call21 (atJ [] [] (fc_ref05_Slot h1) rfl rfl) (.inl (roAll rfl))) rfl trivial rfl rfl ?_
  refine op0 (sp_not rfl rfl) rfl trivial rfl rfl ?_
  refine TL.nil ?_
  refine TC.cond (b := (!r6)) rfl (fun h2 => ?_) (fun h2 => ?_)
  · have h := cond_t h h2
    refine TC.seq ?_
    refine TC.region ?_
    refine op0 (sp_assign rfl rfl) rfl trivial rfl rfl ?_
    refine TL.nil ?_
    cases h
    exact retJ [] (.tmp rfl .nil) rfl trivial rfl rfl
  · have h := cond_f h h2
    refine TC.skip ?_
    refine TC.seq ?_
    refine TC.seq ?_
    refine TC.region ?_
    refine op0 (sp_move rfl rfl) rfl trivial rfl rfl ?_
    refine op0 (sp_lss rfl rfl rfl) rfl trivial rfl rfl ?_
    refine op0 (sp_move rfl rfl) rfl trivial rfl rfl ?_
    rcases cond_cases h with ⟨h3, h⟩ | ⟨h3, h⟩
    · refine (boolLit 12 rfl h3).2 ?_
      refine opSkip rfl ⟨_, rfl, .inl rfl⟩ rfl ?_
      refine opSkip rfl ⟨_, rfl, .inl rfl⟩ rfl ?_
      refine opSkip rfl ⟨_, rfl, .inl rfl⟩ rfl ?_
      refine opSkip rfl ⟨_, rfl, .inl rfl⟩ rfl ?_
      refine op0 (sp_pickT rfl rfl rfl) rfl trivial rfl rfl ?_
      refine op0 (sp_move rfl rfl) rfl trivial rfl rfl ?_
      refine opSkip rfl ⟨_, rfl, .inl rfl⟩ rfl ?_
      refine opSkip rfl ⟨_, rfl, .inl rfl⟩ rfl ?_
      refine opSkip rfl ⟨_, rfl, .inl rfl⟩ rfl ?_
      refine opSkip rfl ⟨_, rfl, .inr rfl⟩ rfl ?_
      refine opSkip rfl ⟨_, rfl, .inr rfl⟩ rfl ?_
      refine opSkip rfl ⟨_, rfl, .inr rfl⟩ rfl ?_
      refine opSkip rfl ⟨_, rfl, .inr rfl⟩ rfl ?_
      refine opSkip rfl ⟨_, rfl, .inr rfl⟩ rfl ?_
      refine opSkip rfl ⟨_, rfl, .inr rfl⟩ rfl ?_
      refine opSkip rfl ⟨_, rfl, .inl rfl⟩ rfl ?_
      refine op0 (sp_pickT rfl rfl rfl) rfl trivial rfl rfl ?_
      refine TL.nil ?_
      refine TC.condT rfl ?_
      refine TC.seq ?_
      refine TC.region ?_
      refine op0 (sp_assign rfl rfl) rfl trivial rfl rfl ?_
      refine TL.nil ?_
      cases h
      exact retJ [] (.tmp rfl .nil) rfl trivial rfl rfl
    · refine (boolLit 12 rfl h3).2 ?_
      refine op0 (sp_move rfl rfl) rfl ⟨_, rfl, rfl⟩ rfl rfl ?_
      refine op1 0 rfl (sp_loadBA rfl isBlk rfl vt24 rfl rfl) rfl ⟨_, rfl, rfl⟩ rfl rfl ?_
      obtain ⟨r7, h4, h⟩ := bind_inv h
      refine op1 1 rfl (sp_call (avs := [.agg [.val (.bool rr1), .val (.bool rr2), .ref 0]]) (need := [.ro 0 2 (List.map en_api_Span rr3)]) (v := .val (.int .i64 r7)) (news := []) rfl rfl rfl Try.call19 (atJ [] [] (fc_ref05_N h4) rfl rfl) (.inl (roAll rfl))) rfl ⟨_, rfl, rfl⟩ rfl rfl ?_
      refine op0 (sp_geq rfl rfl rfl) rfl ⟨_, rfl, rfl⟩ rfl rfl ?_
      refine op0 (sp_pickF rfl rfl rfl) rfl trivial rfl rfl ?_
      refine op0 (sp_move rfl rfl) rfl trivial rfl rfl ?_
      rcases cond_cases h with ⟨h5, h⟩ | ⟨h5, h⟩
      · refine (boolLit 18 rfl h5).2 ?_
        refine opSkip rfl ⟨_, rfl, .inl rfl⟩ rfl ?_
        refine opSkip rfl ⟨_, rfl, .inl rfl⟩ rfl ?_
        refine opSkip rfl ⟨_, rfl, .inl rfl⟩ rfl ?_
        refine opSkip rfl ⟨_, rfl, .inr rfl⟩ rfl ?_
        refine opSkip rfl ⟨_, rfl, .inr rfl⟩ rfl ?_
        refine opSkip rfl ⟨_, rfl, .inr rfl⟩ rfl ?_
        refine opSkip rfl ⟨_, rfl, .inr rfl⟩ rfl ?_
        refine opSkip rfl ⟨_, rfl, .inr rfl⟩ rfl ?_
        refine opSkip rfl ⟨_, rfl, .inr rfl⟩ rfl ?_
        refine opSkip rfl ⟨_, rfl, .inl rfl⟩ rfl ?_
        refine op0 (sp_pickT rfl rfl rfl) rfl trivial rfl rfl ?_
        refine TL.nil ?_
        refine TC.condT rfl ?_
        refine TC.seq ?_
        refine TC.region ?_
        refine op0 (sp_assign rfl rfl) rfl trivial rfl rfl ?_
        refine TL.nil ?_
        cases h
        exact retJ [] (.tmp rfl .nil) rfl trivial rfl rfl
      · refine (boolLit 18 rfl h5).2 ?_
        refine op1 0 rfl (sp_fieldAddrB rfl isBlk rfl ft24_1 vt4 (by decide)) rfl ⟨_, rfl, rfl⟩ rfl rfl ?_
        refine op1 0 rfl (sp_loadB rfl isBlk rfl vt4 rfl) rfl ⟨_, rfl, rfl⟩ rfl rfl ?_
        refine op0 (sp_move rfl rfl) rfl ⟨_, rfl, rfl⟩ rfl rfl ?_
        rcases cond_cases h with ⟨h6, h⟩ | ⟨h6, h⟩
        · refine (boolLit 21 rfl h6).2 ?_
          refine op0 (sp_move rfl rfl) rfl ⟨_, rfl, rfl⟩ rfl rfl ?_
          refine op0 (sp_move rfl rfl) rfl ⟨_, rfl, rfl⟩ rfl rfl ?_
          refine op1 0 rfl (sp_loadBA rfl isBlk rfl vt24 rfl rfl) rfl ⟨_, rfl, rfl⟩ rfl rfl ?_
          obtain ⟨r8, h7, h⟩ := bind_inv h
          refine op1 1 rfl (sp_call (avs := [.agg [.val (.bool rr1), .val (.bool rr2), .ref 0]]) (need := [.ro 0 2 (List.map en_api_Span rr3)]) (v := .val (.int .i64 r8)) (news := []) rfl rfl rfl Try.call19 (atJ [] [] (fc_ref05_N h7) rfl rfl) (.inl (roAll rfl))) rfl ⟨_, rfl, rfl⟩ rfl rfl ?_
          obtain ⟨h8, h⟩ := chk_inv h
          refine op0 (sp_rem rfl rfl rfl h8) rfl ⟨_, rfl, rfl⟩ rfl rfl ?_
          refine op0 (sp_neq rfl rfl rfl) rfl ⟨_, rfl, rfl⟩ rfl rfl ?_
          refine op0 (sp_pickT rfl rfl rfl) rfl ⟨_, rfl, rfl⟩ rfl rfl ?_
          refine op0 (sp_pickF rfl rfl rfl) rfl trivial rfl rfl ?_
          refine TL.nil ?_
          refine TC.cond (b := (place5 != (Int.tmod slot4 r8))) rfl (fun h9 => ?_) (fun h9 => ?_)
          · have h := cond_t h h9
            refine TC.seq ?_
            refine TC.region ?_
            refine op0 (sp_assign rfl rfl) rfl trivial rfl rfl ?_
            refine TL.nil ?_
            cases h
            exact retJ [] (.tmp rfl .nil) rfl trivial rfl rfl
          · have h := cond_f h h9
            refine TC.skip ?_
            refine TC.seq ?_
            refine TC.region ?_
            refine op0 (sp_assign rfl rfl) rfl trivial rfl rfl ?_
            refine TL.nil ?_
            cases h
            exact retJ [] (.tmp rfl .nil) rfl trivial rfl rfl
        · refine (boolLit 21 rfl h6).2 ?_
          refine opSkip rfl ⟨_, rfl, .inl rfl⟩ rfl ?_
          refine opSkip rfl ⟨_, rfl, .inl rfl⟩ rfl ?_
          refine opSkip rfl ⟨_, rfl, .inl rfl⟩ rfl ?_
          refine opSkip rfl ⟨_, rfl, .inl rfl⟩ rfl ?_
          refine opSkip rfl ⟨_, rfl, .inl rfl⟩ rfl ?_
          refine opSkip rfl ⟨_, rfl, .inl rfl⟩ rfl ?_
          refine op0 (sp_pickF rfl rfl rfl) rfl ⟨_, rfl, rfl⟩ rfl rfl ?_
          refine op0 (sp_pickF rfl rfl rfl) rfl trivial rfl rfl ?_
          refine TL.nil ?_
          refine TC.condF rfl ?_
          refine TC.skip ?_
          refine TC.seq ?_
          refine TC.region ?_
          refine op0 (sp_assign rfl rfl) rfl trivial rfl rfl ?_
          refine TL.nil ?_
          cases h
          exact retJ [] (.tmp rfl .nil) rfl trivial rfl rfl
/- ref05_Step -/
def ev_ref05_Step_l2 (n : Nat) (s6 : Int) (rr1 : Bool) (rr2 : Bool) (rr3 : List (Int × Int)) (r8 : Int) (s7 : Bool) : Nat → Int → Int → Int → Option (Int × Int × Int)
  | 0, _, _, _ => none
  | m + 1, i10, i11, i12 => cond (decide (i12 < s6)) ((ev_ref05_B n rr1 rr2 rr3 i10).bind fun r13 => chk (in64 (i11 + r13)) <| cond (!rr2) (chk (in64 (i10 + 1)) <| chk (r8 != 0) <| chk (in64 (i12 + 1)) <| ev_ref05_Step_l2 n s6 rr1 rr2 rr3 r8 s7 m (Int.tmod (i10 + 1) r8) (i11 + r13) (i12 + 1)) (chk (in64 (i12 + 1)) <| ev_ref05_Step_l2 n s6 rr1 rr2 rr3 r8 s7 m i10 (i11 + r13) (i12 + 1))) (cond rr2 (chk (in64 (i10 + 1)) <| chk (r8 != 0) <| some ((Int.tmod (i10 + 1) r8), i11, 0)) (cond (!s7) (chk (in64 (i10 + 1)) <| chk (r8 != 0) <| some ((Int.tmod (i10 + 1) r8), i11, 0)) (some (i10, i11, 0))))
set_option maxRecDepth 100000 in
set_option maxHeartbeats 2000000 in
theorem ok_ref05_Step_l2 {n : Nat} {w0 : World} {R0 : Nat → Prop} {env0 : Env} {r : Int × Int × Int} {r8 : Int} {rr1 : Bool} {rr2 : Bool} {s6 : Int} {s7 : Bool} {rr3 : List (Int × Int)} : ∀ (m : Nat) (i10 : Int) (i11 : Int) (i12 : Int), ev_ref05_Step_l2 n s6 rr1 rr2 rr3 r8 s7 m i10 i11 i12 = some r → TC Try.prog ⟨w0, fun _ => False, R0⟩ 63 (bodyPost Try.prog Try.f54 (Post ⟨w0, fun _ => False, R0⟩ env0 (.tup [.val (.int .i64 r.1), .val (.int .i64 r.2.1), .val (.int .i64 r.2.2)]) [])) [.code (sub (bodyOf Try.f54) [1, 1, 1, 1, 0, 1, 0, 0, 0, 0]), .code (sub (bodyOf Try.f54) [1, 1, 1, 1, 0, 1, 0, 0, 0, 1]), .code (sub (bodyOf Try.f54) [1, 1, 1, 1, 0, 1, 0, 0, 1]), .inLoop (sub (bodyOf Try.f54) [1, 1, 1, 1, 0, 1, 0, 0]), .inBlock 0, .code (sub (bodyOf Try.f54) [1, 1, 1, 1, 1])] ([(2, .val (.int .i64 i10)), (4, .ptr 1 0), (7, .ptr 2 0), (11, .val (.int .i64 r8)), (12, .val (.int .i64 i11)), (13, .val (.int .i64 i12))]) ([.blk 1 [.val (.bool rr1), .val (.bool rr2), .ref 0] 24, .blk 2 [.val (.int .i64 s6), .val (.bool s7)] 73, .ro 0 2 (List.map en_api_Span rr3)]) := by
  intro m
  induction m with
  | zero => intro i10 i11 i12 h; exact none_no h
  | succ m ih =>
    intro i10 i11 i12 h
    rw [ev_ref05_Step_l2] at h
    refine TC.region ?_
    refine op0 (sp_move rfl rfl) rfl trivial rfl rfl ?_
    refine op1 1 rfl (sp_fieldAddrB rfl isBlk rfl ft73_0 vt3 (by decide)) rfl trivial rfl rfl ?_
    refine op1 1 rfl (sp_loadB rfl isBlk rfl vt3 rfl) rfl trivial rfl rfl ?_
    refine op0 (sp_lss rfl rfl rfl) rfl trivial rfl rfl ?_
    refine TL.nil ?_
    refine TC.cond (b := (decide (i12 < s6))) rfl (fun h7 => ?_) (fun h7 => ?_)
    · have h := cond_t h h7
      refine TC.skip ?_
      refine TC.seq ?_
      refine TC.block ?_
      refine TC.seq ?_
      refine TC.region ?_
      refine op0 (sp_move rfl rfl) rfl trivial rfl rfl ?_
      refine op1 0 rfl (sp_loadBA rfl isBlk rfl vt24 rfl rfl) rfl trivial rfl rfl ?_
      refine op0 (sp_move rfl rfl) rfl trivial rfl rfl ?_
      obtain ⟨r13, h8, h⟩ := bind_inv h
      refine op1 2 rfl (sp_call (avs := [.agg [.val (.bool rr1), .val (.bool rr2), .ref 0], .val (.int .i64 i10)]) (need := [.ro 0 2 (List.map en_api_Span rr3)]) (v := .val (.int .i64 r13)) (news := []) rfl rfl rfl Try.call46 (atJ [] [] (fc_ref05_B h8) rfl rfl) (.inl (roAll rfl))) rfl trivial rfl rfl ?_
      obtain ⟨h9, h⟩ := chk_inv h
      refine op0 (sp_add rfl rfl rfl h9) rfl trivial rfl rfl ?_
      refine op0 (sp_assign rfl rfl) rfl trivial rfl rfl ?_
      refine TL.nil ?_
      refine TC.seq ?_
      refine TC.region ?_
      refine op1 0 rfl (sp_fieldAddrB rfl isBlk rfl ft24_1 vt4 (by decide)) rfl trivial rfl rfl ?_
      refine op1 0 rfl (sp_loadB rfl isBlk rfl vt4 rfl) rfl trivial rfl rfl ?_
      refine op0 (sp_not rfl rfl) rfl trivial rfl rfl ?_
      refine TL.nil ?_
      refine TC.cond (b := (!rr2)) rfl (fun h10 => ?_) (fun h10 => ?_)
      · have h := cond_t h h10
        refine TC.region ?_
        refine op0 (sp_move rfl rfl) rfl trivial rfl rfl ?_
        obtain ⟨h11, h⟩ := chk_inv h
        refine op0 (sp_add rfl rfl rfl h11) rfl trivial rfl rfl ?_
        refine op0 (sp_move rfl rfl) rfl trivial rfl rfl ?_
        obtain ⟨h12, h⟩ := chk_inv h
        refine op0 (sp_rem rfl rfl rfl h12) rfl trivial rfl rfl ?_
        refine op0 (sp_assign rfl rfl) rfl trivial rfl rfl ?_
        refine TL.nil ?_
        refine TC.inBlock ?_
        refine TC.region ?_
        refine op0 (sp_move rfl rfl) rfl trivial rfl rfl ?_
        obtain ⟨h13, h⟩ := chk_inv h
        refine op0 (sp_add rfl rfl rfl h13) rfl trivial rfl rfl ?_
        refine op0 (sp_assign rfl rfl) rfl trivial rfl rfl ?_
        refine TL.nil ?_
        refine TC.inLoop ?_
        refine TC.seq ?_
        refine TC.seq ?_
        refine subJ [] (ih _ _ _ h) ?_ ?_ ?_
        · exact ⟨rfl, rfl, rfl, rfl, rfl, rfl, trivial⟩
        · exact ⟨mem_at 0 rfl, mem_at 1 rfl, mem_at 2 rfl, trivial⟩
        · rfl
      · have h := cond_f h h10
        refine TC.skip ?_
        refine TC.inBlock ?_
        refine TC.region ?_
        refine op0 (sp_move rfl rfl) rfl trivial rfl rfl ?_
        obtain ⟨h14, h⟩ := chk_inv h
        refine op0 (sp_add rfl rfl rfl h14) rfl trivial rfl rfl ?_
        refine op0 (sp_assign rfl rfl) rfl trivial rfl rfl ?_
        refine TL.nil ?_
        refine TC.inLoop ?_
        refine TC.seq ?_
        refine TC.seq ?_
        refine subJ [] (ih _ _ _ h) ?_ ?_ ?_
        · exact ⟨rfl, rfl, rfl, rfl, rfl, rfl, trivial⟩
        · exact ⟨mem_at 0 rfl, mem_at 1 rfl, mem_at 2 rfl, trivial⟩
        · rfl
    · have h := cond_f h h7
      refine TC.exit rfl ?_
      refine TC.seq ?_
      refine TC.seq ?_
      refine TC.region ?_
      refine op1 0 rfl (sp_fieldAddrB rfl isBlk rfl ft24_1 vt4 (by decide)) rfl trivial rfl rfl ?_
      refine op1 0 rfl (sp_loadB rfl isBlk rfl vt4 rfl) rfl trivial rfl rfl ?_
      refine op0 (sp_move rfl rfl) rfl trivial rfl rfl ?_
      rcases cond_cases h with ⟨h15, h⟩ | ⟨h15, h⟩
      · refine (boolLit 52 rfl h15).2 ?_
        refine opSkip rfl ⟨_, rfl, .inl rfl⟩ rfl ?_
        refine opSkip rfl ⟨_, rfl, .inl rfl⟩ rfl ?_
        refine opSkip rfl ⟨_, rfl, .inl rfl⟩ rfl ?_
        refine op0 (sp_pickT rfl rfl rfl) rfl trivial rfl rfl ?_
        refine TL.nil ?_
        refine TC.condT rfl ?_
        refine TC.region ?_
        refine op0 (sp_move rfl rfl) rfl trivial rfl rfl ?_
        obtain ⟨h16, h⟩ := chk_inv h
        refine op0 (sp_add rfl rfl rfl h16) rfl trivial rfl rfl ?_
        refine op0 (sp_move rfl rfl) rfl trivial rfl rfl ?_
        obtain ⟨h17, h⟩ := chk_inv h
        refine op0 (sp_rem rfl rfl rfl h17) rfl trivial rfl rfl ?_
        refine op0 (sp_assign rfl rfl) rfl trivial rfl rfl ?_
        refine TL.nil ?_
        refine TC.seq ?_
        refine TC.region ?_
        refine op0 (sp_move rfl rfl) rfl trivial rfl rfl ?_
        refine op0 (sp_move rfl rfl) rfl trivial rfl rfl ?_
        refine op0 (sp_assign rfl rfl) rfl trivial rfl rfl ?_
        refine op0 (sp_assign rfl rfl) rfl trivial rfl rfl ?_
        refine op0 (sp_assign rfl rfl) rfl trivial rfl rfl ?_
        refine TL.nil ?_
        cases h
        exact retJ [] (.tmp rfl (.tmp rfl (.tmp rfl .nil))) rfl trivial rfl rfl
      · refine (boolLit 52 rfl h15).2 ?_
        refine op1 1 rfl (sp_fieldAddrB rfl isBlk rfl ft73_1 vt4 (by decide)) rfl ⟨_, rfl, rfl⟩ rfl rfl ?_
        refine op1 1 rfl (sp_loadB rfl isBlk rfl vt4 rfl) rfl ⟨_, rfl, rfl⟩ rfl rfl ?_
        refine op0 (sp_not rfl rfl) rfl ⟨_, rfl, rfl⟩ rfl rfl ?_
        refine op0 (sp_pickF rfl rfl rfl) rfl trivial rfl rfl ?_
        refine TL.nil ?_
        refine TC.cond (b := (!s7)) rfl (fun h18 => ?_) (fun h18 => ?_)
        · have h := cond_t h h18
          refine TC.region ?_
          refine op0 (sp_move rfl rfl) rfl trivial rfl rfl ?_
          obtain ⟨h19, h⟩ := chk_inv h
          refine op0 (sp_add rfl rfl rfl h19) rfl trivial rfl rfl ?_
          refine op0 (sp_move rfl rfl) rfl trivial rfl rfl ?_
          obtain ⟨h20, h⟩ := chk_inv h
          refine op0 (sp_rem rfl rfl rfl h20) rfl trivial rfl rfl ?_
          refine op0 (sp_assign rfl rfl) rfl trivial rfl rfl ?_
          refine TL.nil ?_
          refine TC.seq ?_
          refine TC.region ?_
          refine op0 (sp_move rfl rfl) rfl trivial rfl rfl ?_
          refine op0 (sp_move rfl rfl) rfl trivial rfl rfl ?_
          refine op0 (sp_assign rfl rfl) rfl trivial rfl rfl ?_
          refine op0 (sp_assign rfl rfl) rfl trivial rfl rfl ?_
          refine op0 (sp_assign rfl rfl) rfl trivial rfl rfl ?_
          refine TL.nil ?_
          cases h
          exact retJ [] (.tmp rfl (.tmp rfl (.tmp rfl .nil))) rfl trivial rfl rfl
        · have h := cond_f h h18
          refine TC.skip ?_
          refine TC.seq ?_
          refine TC.region ?_
          refine op0 (sp_move rfl rfl) rfl trivial rfl rfl ?_
          refine op0 (sp_move rfl rfl) rfl trivial rfl rfl ?_
          refine op0 (sp_assign rfl rfl) rfl trivial rfl rfl ?_
          refine op0 (sp_assign rfl rfl) rfl trivial rfl rfl ?_
          refine op0 (sp_assign rfl rfl) rfl trivial rfl rfl ?_
          refine TL.nil ?_
          cases h
          exact retJ [] (.tmp rfl (.tmp rfl (.tmp rfl .nil))) rfl trivial rfl rfl
def ev_ref05_Step_j1 (n : Nat) (s6 : Int) (rr1 : Bool) (rr2 : Bool) (rr3 : List (Int × Int)) (r8 : Int) (s7 : Bool) (place5 : Int) : Option (Int × Int × Int) :=
  ev_ref05_Step_l2 n s6 rr1 rr2 rr3 r8 s7 n place5 0 0
set_option maxRecDepth 100000 in
set_option maxHeartbeats 2000000 in
theorem ok_ref05_Step_j1 {n : Nat} {w0 : World} {R0 : Nat → Prop} {env0 : Env} {r : Int × Int × Int} {place5 : Int} {r8 : Int} {rr1 : Bool} {rr2 : Bool} {s6 : Int} {s7 : Bool} {rr3 : List (Int × Int)} (h : ev_ref05_Step_j1 n s6 rr1 rr2 rr3 r8 s7 place5 = some r) : TC Try.prog ⟨w0, fun _ => False, R0⟩ 63 (bodyPost Try.prog Try.f54 (Post ⟨w0, fun _ => False, R0⟩ env0 (.tup [.val (.int .i64 r.1), .val (.int .i64 r.2.1), .val (.int .i64 r.2.2)]) [])) [.code (sub (bodyOf Try.f54) [1, 1, 1, 0, 1, 1]), .code (sub (bodyOf Try.f54) [1, 1, 1, 1])] ([(2, .val (.int .i64 place5)), (4, .ptr 1 0), (7, .ptr 2 0), (11, .val (.int .i64 r8)), (12, .val (.int .i64 0))]) ([.blk 1 [.val (.bool rr1), .val (.bool rr2), .ref 0] 24, .blk 2 [.val (.int .i64 s6), .val (.bool s7)] 73, .ro 0 2 (List.map en_api_Span rr3)]) := by
  rw [ev_ref05_Step_j1] at h
  refine TC.skip ?_
  refine TC.seq ?_
  refine TC.seq ?_
  refine TC.region ?_
  refine op0 (sp_assign rfl rfl) rfl trivial rfl rfl ?_
  refine TL.nil ?_
  refine TC.block ?_
  refine TC.loop ?_
  refine TC.seq ?_
  refine TC.seq ?_
  refine subJ [] (ok_ref05_Step_l2 _ _ _ _ h) ?_ ?_ ?_
  · exact ⟨rfl, rfl, rfl, rfl, rfl, rfl, trivial⟩
  · exact ⟨mem_at 0 rfl, mem_at 1 rfl, mem_at 2 rfl, trivial⟩
  · rfl
def ev_ref05_Step_j0 (n : Nat) (s6 : Int) (rr1 : Bool) (rr2 : Bool) (rr3 : List (Int × Int)) (slot4 : Int) (r8 : Int) (s7 : Bool) (place5 : Int) : Option (Int × Int × Int) :=
  cond (decide ((0 : Int) < s6)) ((ev_ref05_Silent n rr1 rr2 rr3 slot4).bind fun r9 => cond r9 (some (0, 0, 9)) (ev_ref05_Step_j1 n s6 rr1 rr2 rr3 r8 s7 place5)) (ev_ref05_Step_j1 n s6 rr1 rr2 rr3 r8 s7 place5)
set_option maxRecDepth 100000 in
set_option maxHeartbeats 2000000 in
theorem ok_ref05_Step_j0 {n : Nat} {w0 : World} {R0 : Nat → Prop} {env0 : Env} {r : Int × Int × Int} {slot4 : Int} {place5 : Int} {r8 : Int} {rr1 : Bool} {rr2 : Bool} {s6 : Int} {s7 : Bool} {rr3 : List (Int × Int)} (h : ev_ref05_Step_j0 n s6 rr1 rr2 rr3 slot4 r8 s7 place5 = some r) : TC Try.prog ⟨w0, fun _ => False, R0⟩ 63 (bodyPost Try.prog Try.f54 (Post ⟨w0, fun _ => False, R0⟩ env0 (.tup [.val (.int .i64 r.1), .val (.int .i64 r.2.1), .val (.int .i64 r.2.2)]) [])) [.code (sub (bodyOf Try.f54) [1, 1, 0, 1, 1]), .code (sub (bodyOf Try.f54) [1, 1, 1])] ([(1, .val (.int .i64 slot4)), (2, .val (.int .i64 place5)), (4, .ptr 1 0), (7, .ptr 2 0), (11, .val (.int .i64 r8)), (12, .val (.int .i64 0))]) ([.blk 1 [.val (.bool rr1), .val (.bool rr2), .ref 0] 24, .blk 2 [.val (.int .i64 s6), .val (.bool s7)] 73, .ro 0 2 (List.map en_api_Span rr3)]) := by
  rw [ev_ref05_Step_j0] at h
  refine TC.skip ?_
  refine TC.seq ?_
  refine TC.seq ?_
  refine TC.region ?_
  refine op1 1 rfl (sp_fieldAddrB rfl isBlk rfl ft73_0 vt3 (by decide)) rfl trivial rfl rfl ?_
  refine op1 1 rfl (sp_loadB rfl isBlk rfl vt3 rfl) rfl trivial rfl rfl ?_
  refine op0 (sp_gtr rfl rfl rfl) rfl trivial rfl rfl ?_
  refine op0 (sp_move rfl rfl) rfl trivial rfl rfl ?_
  rcases cond_cases h with ⟨h4, h⟩ | ⟨h4, h⟩
  · refine (boolLit 27 rfl h4).2 ?_
    refine op1 0 rfl (sp_loadBA rfl isBlk rfl vt24 rfl rfl) rfl ⟨_, rfl, rfl⟩ rfl rfl ?_
    refine op0 (sp_move rfl rfl) rfl ⟨_, rfl, rfl⟩ rfl rfl ?_
    obtain ⟨r9, h5, h⟩ := bind_inv h
    refine op1 2 rfl (sp_call (avs := [.agg [.val (.bool rr1), .val (.bool rr2), .ref 0], .val (.int .i64 slot4)]) (need := [.ro 0 2 (List.map en_api_Span rr3)]) (v := .val (.bool r9)) (news := []) rfl rfl rfl Try.call45 (atJ [] [] (fc_ref05_Silent h5) rfl rfl) (.inl (roAll rfl))) rfl ⟨_, rfl, rfl⟩ rfl rfl ?_
    refine op0 (sp_pickT rfl rfl rfl) rfl trivial rfl rfl ?_
    refine TL.nil ?_
    refine TC.cond (b := r9) rfl (fun h6 => ?_) (fun h6 => ?_)
    · have h := cond_t h h6
      refine TC.seq ?_
      refine TC.region ?_
      refine op0 (sp_assign rfl rfl) rfl trivial rfl rfl ?_
      refine op0 (sp_assign rfl rfl) rfl trivial rfl rfl ?_
      refine op0 (sp_assign rfl rfl) rfl trivial rfl rfl ?_
      refine TL.nil ?_
      cases h
      exact retJ [] (.tmp rfl (.tmp rfl (.tmp rfl .nil))) rfl trivial rfl rfl
    · have h := cond_f h h6
      refine subJ [] (ok_ref05_Step_j1 h) ?_ ?_ ?_
      · exact ⟨rfl, rfl, rfl, rfl, rfl, trivial⟩
      · exact ⟨mem_at 0 rfl, mem_at 1 rfl, mem_at 2 rfl, trivial⟩
      · rfl
  · refine (boolLit 27 rfl h4).2 ?_
    refine opSkip rfl ⟨_, rfl, .inl rfl⟩ rfl ?_
    refine opSkip rfl ⟨_, rfl, .inl rfl⟩ rfl ?_
    refine opSkip rfl ⟨_, rfl, .inl rfl⟩ rfl ?_
    refine op0 (sp_pickF rfl rfl rfl) rfl trivial rfl rfl ?_
    refine TL.nil ?_
    refine TC.condF rfl ?_
    refine subJ [] (ok_ref05_Step_j1 h) ?_ ?_ ?_
    · exact ⟨rfl, rfl, rfl, rfl, rfl, trivial⟩
    · exact ⟨mem_at 0 rfl, mem_at 1 rfl, mem_at 2 rfl, trivial⟩
    · rfl
def ev_ref05_Step (n : Nat) (rr1 : Bool) (rr2 : Bool) (rr3 : List (Int × Int)) (slot4 : Int) (place5 : Int) (s6 : Int) (s7 : Bool) : Option (Int × Int × Int) :=
  (ev_ref05_N n rr1 rr2 rr3).bind fun r8 => cond (decide (s6 < 0)) (some (0, 0, 2)) (cond (decide ((48 : Int) < s6)) (some (0, 0, 2)) (ev_ref05_Step_j0 n s6 rr1 rr2 rr3 slot4 r8 s7 place5))
set_option maxRecDepth 100000 in
set_option maxHeartbeats 2000000 in
theorem fc_ref05_Step {n : Nat} {rr1 : Bool} {rr2 : Bool} {rr3 : List (Int × Int)} {slot4 : Int} {place5 : Int} {s6 : Int} {s7 : Bool} {r : Int × Int × Int} (h : ev_ref05_Step n rr1 rr2 rr3 slot4 place5 s6 s7 = some r) : FC Try.prog 54 [.agg [.val (.bool rr1), .val (.bool rr2), .ref 0], .val (.int .i64 slot4), .val (.int .i64 place5), .agg [.val (.int .i64 s6), .val (.bool s7)]] [.ro 0 2 (List.map en_api_Span rr3)] (.tup [.val (.int .i64 r.1), .val (.int .i64 r.2.1), .val (.int .i64 r.2.2)]) [] := by
  refine introJ (nz := 63) Try.func54 rfl rfl rfl (fun w0 R0 env0 => ?_)
  rw [ev_ref05_Step] at h
  refine TC.seq ?_
  refine TC.region ?_
  refine op0 (sp_box 1 rfl rfl rfl rfl rfl) rfl trivial rfl rfl ?_
  refine op0 (sp_box 2 rfl rfl rfl rfl rfl) rfl trivial rfl rfl ?_
  refine op0 (sp_assign rfl rfl) rfl trivial rfl rfl ?_
  refine op0 (sp_assign rfl rfl) rfl trivial rfl rfl ?_
  refine op0 (sp_assign rfl rfl) rfl trivial rfl rfl ?_
  refine TL.nil ?_
  refine TC.seq ?_
  refine TC.region ?_
  refine op1 1 rfl (sp_loadBA rfl isBlk rfl vt24 rfl rfl) rfl trivial rfl rfl ?_
  obtain ⟨r8, h1, h⟩ := bind_inv h
  refine op1 2 rfl (sp_call (avs := [.agg [.val (.bool rr1), .val (.bool rr2), .ref 0]]) (need := [.ro 0 2 (List.map en_api_Span rr3)]) (v := .val (.int .i64 r8)) (news := []) rfl rfl rfl Try.call19 (atJ [] [] (fc_ref05_N h1) rfl rfl) (.inl (roAll rfl))) rfl trivial rfl rfl ?_
  refine op0 (sp_assign rfl rfl) rfl trivial rfl rfl ?_
  refine op0 (sp_assign rfl rfl) rfl trivial rfl rfl ?_
  refine TL.nil ?_
  refine TC.seq ?_
  refine TC.seq ?_
  refine TC.region ?_
  refine op1 0 rfl (sp_fieldAddrB rfl isBlk rfl ft73_0 vt3 (by decide)) rfl trivial rfl rfl ?_
  refine op1 0 rfl (sp_loadB rfl isBlk rfl vt3 rfl) rfl trivial rfl rfl ?_
  refine op0 (sp_lss rfl rfl rfl) rfl trivial rfl rfl ?_
  refine op0 (sp_move rfl rfl) rfl trivial rfl rfl ?_
  rcases cond_cases h with ⟨h2, h⟩ | ⟨h2, h⟩
  · refine (boolLit 19 rfl h2).2 ?_
    refine opSkip rfl ⟨_, rfl, .inl rfl⟩ rfl ?_
    refine opSkip rfl ⟨_, rfl, .inl rfl⟩ rfl ?_
    refine opSkip rfl ⟨_, rfl, .inl rfl⟩ rfl ?_
    refine op0 (sp_pickT rfl rfl rfl) rfl trivial rfl rfl ?_
    refine TL.nil ?_
    refine TC.condT rfl ?_
    refine TC.seq ?_
    refine TC.region ?_
    refine op0 (sp_assign rfl rfl) rfl trivial rfl rfl ?_
    refine op0 (sp_assign rfl rfl) rfl trivial rfl rfl ?_
    refine op0 (sp_assign rfl rfl) rfl trivial rfl rfl ?_
    refine TL.nil ?_
    cases h
    exact retJ [] (.tmp rfl (.tmp rfl (.tmp rfl .nil))) rfl trivial rfl rfl
  · refine (boolLit 19 rfl h2).2 ?_
    refine op1 0 rfl (sp_fieldAddrB rfl isBlk rfl ft73_0 vt3 (by decide)) rfl ⟨_, rfl, rfl⟩ rfl rfl ?_
    refine op1 0 rfl (sp_loadB rfl isBlk rfl vt3 rfl) rfl ⟨_, rfl, rfl⟩ rfl rfl ?_
    refine op0 (sp_gtr rfl rfl rfl) rfl ⟨_, rfl, rfl⟩ rfl rfl ?_
    refine op0 (sp_pickF rfl rfl rfl) rfl trivial rfl rfl ?_
    refine TL.nil ?_
    refine TC.cond (b := (decide ((48 : Int) < s6))) rfl (fun h3 => ?_) (fun h3 => ?_)
    · have h := cond_t h h3
      refine TC.seq ?_
      refine TC.region ?_
      refine op0 (sp_assign rfl rfl) rfl trivial rfl rfl ?_
      refine op0 (sp_assign rfl rfl) rfl trivial rfl rfl ?_
      refine op0 (sp_assign rfl rfl) rfl trivial rfl rfl ?_
      refine TL.nil ?_
      cases h
      exact retJ [] (.tmp rfl (.tmp rfl (.tmp rfl .nil))) rfl trivial rfl rfl
    · have h := cond_f h h3
      refine subJ [] (ok_ref05_Step_j0 h) ?_ ?_ ?_
      · exact ⟨rfl, rfl, rfl, rfl, rfl, rfl, trivial⟩
      · exact ⟨mem_at 1 rfl, mem_at 0 rfl, mem_at 2 rfl, trivial⟩
      · rfl
/- ref05_Play -/
def ev_ref05_Play_l0 (n : Nat) (plan6 : List (Int × Bool)) (slot4 : Int) (rr1 : Bool) (rr2 : Bool) (rr3 : List (Int × Int)) : Nat → Int → Int → Int → Option (Int × Int × Int)
  | 0, _, _, _ => none
  | m + 1, i7, i8, i9 => cond (decide (i9 < (plan6.length : Int))) (chk (in64 (slot4 + i9)) <| idx plan6 i9 fun x10 => (ev_ref05_Step n rr1 rr2 rr3 (slot4 + i9) i7 x10.1 x10.2).bind fun r11 => cond (r11.2.2 != 0) (some (0, 0, r11.2.2)) (chk (in64 (i8 + r11.2.1)) <| chk (in64 (i9 + 1)) <| ev_ref05_Play_l0 n plan6 slot4 rr1 rr2 rr3 m r11.1 (i8 + r11.2.1) (i9 + 1))) (some (i7, i8, 0))
set_option maxRecDepth 100000 in
set_option maxHeartbeats 2000000 in
theorem ok_ref05_Play_l0 {n : Nat} {w0 : World} {R0 : Nat → Prop} {env0 : Env} {r : Int × Int × Int} {slot4 : Int} {plan6 : List (Int × Bool)} {rr1 : Bool} {rr2 : Bool} {rr3 : List (Int × Int)} : ∀ (m : Nat) (i7 : Int) (i8 : Int) (i9 : Int), ev_ref05_Play_l0 n plan6 slot4 rr1 rr2 rr3 m i7 i8 i9 = some r → TC Try.prog ⟨w0, fun _ => False, R0⟩ 48 (bodyPost Try.prog Try.f30 (Post ⟨w0, fun _ => False, R0⟩ env0 (.tup [.val (.int .i64 r.1), .val (.int .i64 r.2.1), .val (.int .i64 r.2.2)]) [])) [.code (sub (bodyOf Try.f30) [1, 1, 1, 0, 1, 0, 0, 0, 0]), .code (sub (bodyOf Try.f30) [1, 1, 1, 0, 1, 0, 0, 0, 1]), .code (sub (bodyOf Try.f30) [1, 1, 1, 0, 1, 0, 0, 1]), .inLoop (sub (bodyOf Try.f30) [1, 1, 1, 0, 1, 0, 0]), .inBlock 0, .code (sub (bodyOf Try.f30) [1, 1, 1, 1])] ([(1, .val (.int .i64 slot4)), (2, .val (.int .i64 i7)), (3, .ref 1), (4, .ptr 2 0), (11, .val (.int .i64 i8)), (12, .val (.int .i64 i9))]) ([.ro 1 2 (List.map en_api_StrikeStep plan6), .blk 2 [.val (.bool rr1), .val (.bool rr2), .ref 0] 24, .ro 0 2 (List.map en_api_Span rr3)]) := by
  intro m
  induction m with
  | zero => intro i7 i8 i9 h; exact none_no h
  | succ m ih =>
    intro i7 i8 i9 h
    rw [ev_ref05_Play_l0] at h
    refine TC.region ?_
    refine op0 (sp_move rfl rfl) rfl trivial rfl rfl ?_
    refine op0 (sp_move rfl rfl) rfl trivial rfl rfl ?_
    refine op1 0 rfl (sp_lenM (N := plan6.length) (len_map _ _) rfl rfl isRo Try.underlying50) rfl trivial rfl rfl ?_
    refine op0 (sp_lss rfl rfl rfl) rfl trivial rfl rfl ?_
    refine TL.nil ?_
    refine TC.cond (b := (decide (i9 < (plan6.length : Int)))) rfl (fun h2 => ?_) (fun h2 => ?_)
    · have h := cond_t h h2
      refine TC.skip ?_
      refine TC.seq ?_
      refine TC.block ?_
      refine TC.seq ?_
      obtain ⟨h3, h⟩ := chk_inv h
      obtain ⟨x10, h4, h5, h⟩ := idx_inv h
      obtain ⟨r11, h6, h⟩ := bind_inv h
      refine drawJ 16 [⟨.agg [.val (.bool rr1), .val (.bool rr2), .ref 0], [], [.blk 2 [.val (.bool rr1), .val (.bool rr2), .ref 0] 24], []⟩, ⟨.val (.int .i64 slot4), [], [], []⟩, ⟨.val (.int .i64 i9), [], [], []⟩, ⟨.val (.int .i64 (slot4 + i9)), [], [], []⟩, ⟨.val (.int .i64 i7), [], [], []⟩, ⟨.ref 1, [], [], []⟩, ⟨.val (.int .i64 i9), [], [], []⟩, ⟨.cell 1 ((i9 : Int).toNat * 2), [], [.ro 1 2 (List.map en_api_StrikeStep plan6)], []⟩, ⟨.agg [.val (.int .i64 x10.1), .val (.bool x10.2)], [], [.ro 1 2 (List.map en_api_StrikeStep plan6)], []⟩, ⟨.tup [.val (.int .i64 r11.1), .val (.int .i64 r11.2.1), .val (.int .i64 r11.2.2)], [], [.ro 0 2 (List.map en_api_Span rr3)], []⟩, ⟨.tup [.val (.int .i64 r11.1), .val (.int .i64 r11.2.1), .val (.int .i64 r11.2.2)], [], [], []⟩, ⟨.val (.int .i64 r11.1), [], [], []⟩, ⟨.val (.int .i64 r11.2.1), [], [], []⟩, ⟨.val (.int .i64 r11.2.2), [], [], []⟩, ⟨.val (.int .i64 r11.1), [], [], []⟩, ⟨.val (.int .i64 r11.2.1), [], [], []⟩] rfl ?_ rfl ?_ rfl ?_ ?_
      · kernel_rfl
      · kernel_rfl
      · exact DAll.op' (sp_loadBA rfl isBlk rfl vt24 rfl rfl) trivial rfl (From.ok (ps := [(none, 1)]) ⟨⟨rfl, rfl⟩, trivial⟩) (DAll.op' (sp_move rfl rfl) trivial rfl (From.ok (ps := []) trivial) (DAll.op' (sp_move rfl rfl) trivial rfl (From.ok (ps := []) trivial) (DAll.op' (sp_add rfl rfl rfl h3) trivial rfl (From.ok (ps := []) trivial) (DAll.op' (sp_move rfl rfl) trivial rfl (From.ok (ps := []) trivial) (DAll.op' (sp_move rfl rfl) trivial rfl (From.ok (ps := []) trivial) (DAll.op' (sp_move rfl rfl) trivial rfl (From.ok (ps := []) trivial) (DAll.op' (sp_indexS rfl rfl rfl isRo sl50 h4 (map_get _ h5)) trivial rfl (From.ok (ps := [(none, 0)]) ⟨⟨rfl, rfl⟩, trivial⟩) (DAll.op' (sp_loadRA (i := (i9 : Int).toNat) (j := 0) (as_ := [.val (.int .i64 x10.1), .val (.bool x10.2)]) (ns := []) rfl rfl isRo vt73 rfl (map_get _ h5) rfl rfl (by decide) (.v (.v (.nil))) (nodup_of_B rfl)) trivial rfl (From.ok (ps := [(none, 0)]) ⟨⟨rfl, rfl⟩, trivial⟩) (DAll.op' (sp_call (avs := [.agg [.val (.bool rr1), .val (.bool rr2), .ref 0], .val (.int .i64 (slot4 + i9)), .val (.int .i64 i7), .agg [.val (.int .i64 x10.1), .val (.bool x10.2)]]) (need := [.ro 0 2 (List.map en_api_Span rr3)]) (v := .tup [.val (.int .i64 r11.1), .val (.int .i64 r11.2.1), .val (.int .i64 r11.2.2)]) (news := []) rfl rfl rfl Try.call54 (atJ [] [] (fc_ref05_Step h6) rfl rfl) (.inl (roAll rfl))) trivial rfl (From.ok (ps := [(none, 2)]) ⟨⟨rfl, rfl⟩, trivial⟩) (DAll.op' (sp_move rfl rfl) trivial rfl (From.ok (ps := []) trivial) (DAll.op' (sp_extract rfl rfl rfl) trivial rfl (From.ok (ps := []) trivial) (DAll.op' (sp_extract rfl rfl rfl) trivial rfl (From.ok (ps := []) trivial) (DAll.op' (sp_extract rfl rfl rfl) trivial rfl (From.ok (ps := []) trivial) (DAll.op' (sp_assign rfl rfl) trivial rfl (From.ok (ps := []) trivial) (DAll.op' (sp_assign rfl rfl) trivial rfl (From.ok (ps := []) trivial) (.nil))))))))))))))))
      refine op0 (sp_assign rfl rfl) rfl trivial rfl rfl ?_
      refine TL.nil ?_
      refine TC.seq ?_
      refine TC.seq ?_
      refine TC.region ?_
      refine op0 (sp_move rfl rfl) rfl trivial rfl rfl ?_
      refine op0 (sp_neq rfl rfl rfl) rfl trivial rfl rfl ?_
      refine TL.nil ?_
      refine TC.cond (b := (r11.2.2 != 0)) rfl (fun h7 => ?_) (fun h7 => ?_)
      · have h := cond_t h h7
        refine TC.seq ?_
        refine TC.region ?_
        refine op0 (sp_move rfl rfl) rfl trivial rfl rfl ?_
        refine op0 (sp_assign rfl rfl) rfl trivial rfl rfl ?_
        refine op0 (sp_assign rfl rfl) rfl trivial rfl rfl ?_
        refine op0 (sp_assign rfl rfl) rfl trivial rfl rfl ?_
        refine TL.nil ?_
        cases h
        exact retJ [] (.tmp rfl (.tmp rfl (.tmp rfl .nil))) rfl trivial rfl rfl
      · have h := cond_f h h7
        refine TC.skip ?_
        refine TC.region ?_
        refine op0 (sp_move rfl rfl) rfl trivial rfl rfl ?_
        refine op0 (sp_move rfl rfl) rfl trivial rfl rfl ?_
        refine op0 (sp_move rfl rfl) rfl trivial rfl rfl ?_
        obtain ⟨h8, h⟩ := chk_inv h
        refine op0 (sp_add rfl rfl rfl h8) rfl trivial rfl rfl ?_
        refine op0 (sp_assign rfl rfl) rfl trivial rfl rfl ?_
        refine op0 (sp_assign rfl rfl) rfl trivial rfl rfl ?_
        refine TL.nil ?_
        refine TC.inBlock ?_
        refine TC.region ?_
        refine op0 (sp_move rfl rfl) rfl trivial rfl rfl ?_
        obtain ⟨h9, h⟩ := chk_inv h
        refine op0 (sp_add rfl rfl rfl h9) rfl trivial rfl rfl ?_
        refine op0 (sp_assign rfl rfl) rfl trivial rfl rfl ?_
        refine TL.nil ?_
        refine TC.inLoop ?_
        refine TC.seq ?_
        refine TC.seq ?_
        refine subJ [] (ih _ _ _ h) ?_ ?_ ?_
        · exact ⟨rfl, rfl, rfl, rfl, rfl, rfl, trivial⟩
        · exact ⟨mem_at 0 rfl, mem_at 1 rfl, mem_at 2 rfl, trivial⟩
        · rfl
    · have h := cond_f h h2
      refine TC.exit rfl ?_
      refine TC.seq ?_
      refine TC.region ?_
      refine op0 (sp_move rfl rfl) rfl trivial rfl rfl ?_
      refine op0 (sp_move rfl rfl) rfl trivial rfl rfl ?_
      refine op0 (sp_assign rfl rfl) rfl trivial rfl rfl ?_
      refine op0 (sp_assign rfl rfl) rfl trivial rfl rfl ?_
      refine op0 (sp_assign rfl rfl) rfl trivial rfl rfl ?_
      refine TL.nil ?_
      cases h
      exact retJ [] (.tmp rfl (.tmp rfl (.tmp rfl .nil))) rfl trivial rfl rfl
def ev_ref05_Play (n : Nat) (rr1 : Bool) (rr2 : Bool) (rr3 : List (Int × Int)) (slot4 : Int) (place5 : Int) (plan6 : List (Int × Bool)) : Option (Int × Int × Int) :=
  cond (decide ((96 : Int) < (plan6.length : Int))) (some (0, 0, 5)) (ev_ref05_Play_l0 n plan6 slot4 rr1 rr2 rr3 n place5 0 0)
set_option maxRecDepth 100000 in
set_option maxHeartbeats 2000000 in
theorem fc_ref05_Play {n : Nat} {rr1 : Bool} {rr2 : Bool} {rr3 : List (Int × Int)} {slot4 : Int} {place5 : Int} {plan6 : List (Int × Bool)} {r : Int × Int × Int} (h : ev_ref05_Play n rr1 rr2 rr3 slot4 place5 plan6 = some r) : FC Try.prog 30 [.agg [.val (.bool rr1), .val (.bool rr2), .ref 0], .val (.int .i64 slot4), .val (.int .i64 place5), .ref 1] [.ro 0 2 (List.map en_api_Span rr3), .ro 1 2 (List.map en_api_StrikeStep plan6)] (.tup [.val (.int .i64 r.1), .val (.int .i64 r.2.1), .val (.int .i64 r.2.2)]) [] := by
  refine introJ (nz := 48) Try.func30 rfl rfl rfl (fun w0 R0 env0 => ?_)
  rw [ev_ref05_Play] at h
  refine TC.seq ?_
  refine TC.region ?_
  refine op0 (sp_box 2 rfl rfl rfl rfl rfl) rfl trivial rfl rfl ?_
  refine op0 (sp_assign rfl rfl) rfl trivial rfl rfl ?_
  refine op0 (sp_assign rfl rfl) rfl trivial rfl rfl ?_
  refine op0 (sp_assign rfl rfl) rfl trivial rfl rfl ?_
  refine TL.nil ?_
  refine TC.seq ?_
  refine TC.seq ?_
  refine TC.region ?_
  refine op0 (sp_move rfl rfl) rfl trivial rfl rfl ?_
  refine op1 2 rfl (sp_lenM (N := plan6.length) (len_map _ _) rfl rfl isRo Try.underlying50) rfl trivial rfl rfl ?_
  refine op0 (sp_gtr rfl rfl rfl) rfl trivial rfl rfl ?_
  refine TL.nil ?_
  refine TC.cond (b := (decide ((96 : Int) < (plan6.length : Int)))) rfl (fun h1 => ?_) (fun h1 => ?_)
  · have h := cond_t h h1
    refine TC.seq ?_
    refine TC.region ?_
    refine op0 (sp_assign rfl rfl) rfl trivial rfl rfl ?_
    refine op0 (sp_assign rfl rfl) rfl trivial rfl rfl ?_
    refine op0 (sp_assign rfl rfl) rfl trivial rfl rfl ?_
    refine TL.nil ?_
    cases h
    exact retJ [] (.tmp rfl (.tmp rfl (.tmp rfl .nil))) rfl trivial rfl rfl
  · have h := cond_f h h1
    refine TC.skip ?_
    refine TC.seq ?_
    refine TC.region ?_
    refine op0 (sp_assign rfl rfl) rfl trivial rfl rfl ?_
    refine TL.nil ?_
    refine TC.seq ?_
    refine TC.seq ?_
    refine TC.region ?_
    refine op0 (sp_assign rfl rfl) rfl trivial rfl rfl ?_
    refine TL.nil ?_
    refine TC.block ?_
    refine TC.loop ?_
    refine TC.seq ?_
    refine TC.seq ?_
    refine subJ [] (ok_ref05_Play_l0 _ _ _ _ h) ?_ ?_ ?_
    · exact ⟨rfl, rfl, rfl, rfl, rfl, rfl, trivial⟩
    · exact ⟨mem_at 2 rfl, mem_at 0 rfl, mem_at 1 rfl, trivial⟩
    · rfl
/- ref05_Heard -/
def ev_ref05_Heard_l0 (n : Nat) (l1 : List (Int × Int)) : Nat → Int → Option Int
  | 0, _ => none
  | m + 1, i2 => cond (decide (i2 < (l1.length : Int))) (idx l1 i2 fun x3 => (ev_ref05_Slot n x3.1).bind fun r4 => cond (!r4) (some 2) (cond (decide (x3.2 < 0)) (some 2) (cond (decide ((12 : Int) < x3.2)) (some 2) (cond (decide ((0 : Int) < i2)) (chk (in64 (i2 - 1)) <| idx l1 (i2 - 1) fun x5 => cond (decide (x3.1 ≤ x5.1)) (some 2) (chk (in64 (i2 + 1)) <| ev_ref05_Heard_l0 n l1 m (i2 + 1))) (chk (in64 (i2 + 1)) <| ev_ref05_Heard_l0 n l1 m (i2 + 1)))))) (chk (in64 ((l1.length : Int) - 1)) <| idx l1 ((l1.length : Int) - 1) fun x6 => idx l1 0 fun x7 => chk (in64 (x6.1 - x7.1)) <| chk (in64 ((x6.1 - x7.1) + 1)) <| cond (decide ((2000 : Int) < ((x6.1 - x7.1) + 1))) (some 5) (some 0))
set_option maxRecDepth 100000 in
set_option maxHeartbeats 2000000 in
theorem ok_ref05_Heard_l0 {n : Nat} {w0 : World} {R0 : Nat → Prop} {env0 : Env} {r : Int} {l1 : List (Int × Int)} : ∀ (m : Nat) (i2 : Int), ev_ref05_Heard_l0 n l1 m i2 = some r → TC Try.prog ⟨w0, fun _ => False, R0⟩ 71 (bodyPost Try.prog Try.f24 (Post ⟨w0, fun _ => False, R0⟩ env0 (.val (.int .i64 r)) [])) [.code (sub (bodyOf Try.f24) [1, 1, 1, 0, 1, 0, 0, 0, 0]), .code (sub (bodyOf Try.f24) [1, 1, 1, 0, 1, 0, 0, 0, 1]), .code (sub (bodyOf Try.f24) [1, 1, 1, 0, 1, 0, 0, 1]), .inLoop (sub (bodyOf Try.f24) [1, 1, 1, 0, 1, 0, 0]), .inBlock 0, .code (sub (bodyOf Try.f24) [1, 1, 1, 1])] ([(0, .ref 0), (3, .val (.int .i64 i2))]) ([.ro 0 2 (List.map en_api_StrikeHeard l1)]) := by
  intro m
  induction m with
  | zero => intro i2 h; exact none_no h
  | succ m ih =>
    intro i2 h
    rw [ev_ref05_Heard_l0] at h
    refine TC.region ?_
    refine op0 (sp_move rfl rfl) rfl trivial rfl rfl ?_
    refine op0 (sp_move rfl rfl) rfl trivial rfl rfl ?_
    refine op1 0 rfl (sp_lenM (N := l1.length) (len_map _ _) rfl rfl isRo Try.underlying37) rfl trivial rfl rfl ?_
    refine op0 (sp_lss rfl rfl rfl) rfl trivial rfl rfl ?_
    refine TL.nil ?_
    refine TC.cond (b := (decide (i2 < (l1.length : Int)))) rfl (fun h3 => ?_) (fun h3 => ?_)
    · have h := cond_t h h3
      refine TC.skip ?_
      refine TC.seq ?_
      refine TC.block ?_
      refine TC.seq ?_
      obtain ⟨x3, h4, h5, h⟩ := idx_inv h
      obtain ⟨r4, h6, h⟩ := bind_inv h
      rcases cond_cases h with ⟨h7, h⟩ | ⟨h7, h⟩
      · refine drawJ 38 [⟨.ref 0, [], [], []⟩, ⟨.val (.int .i64 i2), [], [], []⟩, ⟨.cell 0 ((i2 : Int).toNat * 2), [], [.ro 0 2 (List.map en_api_StrikeHeard l1)], []⟩, ⟨.cell 0 ((i2 : Int).toNat * 2 + 0), [], [.ro 0 2 (List.map en_api_StrikeHeard l1)], []⟩, ⟨.val (.int .i64 x3.1), [], [.ro 0 2 (List.map en_api_StrikeHeard l1)], []⟩, ⟨.val (.bool r4), [], [], []⟩, ⟨.val (.bool (!r4)), [], [], []⟩, ⟨.val (.bool true), [], [], []⟩, ⟨.val (undef), [], [], []⟩, ⟨.val (undef), [], [], []⟩, ⟨.val (undef), [], [], []⟩, ⟨.val (undef), [], [], []⟩, ⟨.val (undef), [], [], []⟩, ⟨.val (undef), [], [], []⟩, ⟨.val (.bool true), [], [], []⟩, ⟨.val (.bool true), [], [], []⟩, ⟨.val (undef), [], [], []⟩, ⟨.val (undef), [], [], []⟩, ⟨.val (undef), [], [], []⟩, ⟨.val (undef), [], [], []⟩, ⟨.val (undef), [], [], []⟩, ⟨.val (undef), [], [], []⟩, ⟨.val (.bool true), [], [], []⟩, ⟨.val (.bool true), [], [], []⟩, ⟨.val (undef), [], [], []⟩, ⟨.val (undef), [], [], []⟩, ⟨.val (undef), [], [], []⟩, ⟨.val (undef), [], [], []⟩, ⟨.val (undef), [], [], []⟩, ⟨.val (undef), [], [], []⟩, ⟨.val (undef), [], [], []⟩, ⟨.val (undef), [], [], []⟩, ⟨.val (undef), [], [], []⟩, ⟨.val (undef), [], [], []⟩, ⟨.val (undef), [], [], []⟩, ⟨.val (undef), [], [], []⟩, ⟨.val (undef), [], [], []⟩, ⟨.val (undef), [], [], []⟩] rfl ?_ rfl ?_ rfl ?_ ?_
        · kernel_rfl
        · kernel_rfl
        · exact DAll.op' (sp_move rfl rfl) trivial rfl (From.ok (ps := []) trivial) (DAll.op' (sp_move rfl rfl) trivial rfl (From.ok (ps := []) trivial) (DAll.op' (sp_indexS rfl rfl rfl isRo sl37 h4 (map_get _ h5)) trivial rfl (From.ok (ps := [(none, 0)]) ⟨⟨rfl, by kernel_rfl⟩, trivial⟩) (DAll.op' (sp_fieldAddrR (i := (i2 : Int).toNat) rfl rfl isRo ft43_0 vt3 (by decide) (map_get _ h5) (fun h => nomatch h)) trivial rfl (From.ok (ps := [(none, 0)]) ⟨⟨rfl, by kernel_rfl⟩, trivial⟩) (DAll.op' (sp_loadR (i := (i2 : Int).toNat) (j := 0) rfl rfl isRo vt3 rfl (map_get _ h5) rfl (.v (.nil)) (nodup_of_B rfl)) trivial rfl (From.ok (ps := [(none, 0)]) ⟨⟨rfl, by kernel_rfl⟩, trivial⟩) (DAll.op' (sp_call (avs := [.val (.int .i64 x3.1)]) (need := []) (v := .val (.bool r4)) (news := []) rfl rfl rfl Try.call21 (atJ [] [] (fc_ref05_Slot h6) rfl rfl) (.inl (roAll rfl))) trivial rfl (From.ok (ps := []) trivial) (DAll.op' (sp_not rfl rfl) trivial rfl (From.ok (ps := []) trivial) (DAll.op' (sp_castB h7 (sp_move rfl rfl)) trivial rfl (From.ok (ps := []) trivial) (.skip ⟨_, rfl, .inl rfl⟩ rfl rfl rfl (.skip ⟨_, rfl, .inl rfl⟩ rfl rfl rfl (.skip ⟨_, rfl, .inl rfl⟩ rfl rfl rfl (.skip ⟨_, rfl, .inl rfl⟩ rfl rfl rfl (.skip ⟨_, rfl, .inl rfl⟩ rfl rfl rfl (.skip ⟨_, rfl, .inl rfl⟩ rfl rfl rfl (DAll.op' (sp_pickT rfl rfl rfl) trivial rfl (From.ok (ps := []) trivial) (DAll.op' (sp_move rfl rfl) trivial rfl (From.ok (ps := []) trivial) (.skip ⟨_, rfl, .inl rfl⟩ rfl rfl rfl (.skip ⟨_, rfl, .inl rfl⟩ rfl rfl rfl (.skip ⟨_, rfl, .inl rfl⟩ rfl rfl rfl (.skip ⟨_, rfl, .inl rfl⟩ rfl rfl rfl (.skip ⟨_, rfl, .inl rfl⟩ rfl rfl rfl (.skip ⟨_, rfl, .inl rfl⟩ rfl rfl rfl (DAll.op' (sp_pickT rfl rfl rfl) trivial rfl (From.ok (ps := []) trivial) (DAll.op' (sp_move rfl rfl) trivial rfl (From.ok (ps := []) trivial) (.skip ⟨_, rfl, .inl rfl⟩ rfl rfl rfl (.skip ⟨_, rfl, .inl rfl⟩ rfl rfl rfl (.skip ⟨_, rfl, .inl rfl⟩ rfl rfl rfl (.skip ⟨_, rfl, .inr rfl⟩ rfl rfl rfl (.skip ⟨_, rfl, .inr rfl⟩ rfl rfl rfl (.skip ⟨_, rfl, .inr rfl⟩ rfl rfl rfl (.skip ⟨_, rfl, .inr rfl⟩ rfl rfl rfl (.skip ⟨_, rfl, .inr rfl⟩ rfl rfl rfl (.skip ⟨_, rfl, .inr rfl⟩ rfl rfl rfl (.skip ⟨_, rfl, .inr rfl⟩ rfl rfl rfl (.skip ⟨_, rfl, .inr rfl⟩ rfl rfl rfl (.skip ⟨_, rfl, .inr rfl⟩ rfl rfl rfl (.skip ⟨_, rfl, .inr rfl⟩ rfl rfl rfl (.skip ⟨_, rfl, .inr rfl⟩ rfl rfl rfl (.nil))))))))))))))))))))))))))))))))))))))
        refine opSkip rfl ⟨_, rfl, .inr rfl⟩ rfl ?_
        refine opSkip rfl ⟨_, rfl, .inl rfl⟩ rfl ?_
        refine op0 (sp_pickT rfl rfl rfl) rfl trivial rfl rfl ?_
        refine TL.nil ?_
        refine TC.condT rfl ?_
        refine TC.seq ?_
        refine TC.region ?_
        refine op0 (sp_assign rfl rfl) rfl trivial rfl rfl ?_
        refine TL.nil ?_
        cases h
        exact retJ [] (.tmp rfl .nil) rfl trivial rfl rfl
      · rcases cond_cases h with ⟨h8, h⟩ | ⟨h8, h⟩
        · refine drawJ 38 [⟨.ref 0, [], [], []⟩, ⟨.val (.int .i64 i2), [], [], []⟩, ⟨.cell 0 ((i2 : Int).toNat * 2), [], [.ro 0 2 (List.map en_api_StrikeHeard l1)], []⟩, ⟨.cell 0 ((i2 : Int).toNat * 2 + 0), [], [.ro 0 2 (List.map en_api_StrikeHeard l1)], []⟩, ⟨.val (.int .i64 x3.1), [], [.ro 0 2 (List.map en_api_StrikeHeard l1)], []⟩, ⟨.val (.bool r4), [], [], []⟩, ⟨.val (.bool (!r4)), [], [], []⟩, ⟨.val (.bool false), [], [], []⟩, ⟨.ref 0, [], [], []⟩, ⟨.val (.int .i64 i2), [], [], []⟩, ⟨.cell 0 ((i2 : Int).toNat * 2), [], [.ro 0 2 (List.map en_api_StrikeHeard l1)], []⟩, ⟨.cell 0 ((i2 : Int).toNat * 2 + 1), [], [.ro 0 2 (List.map en_api_StrikeHeard l1)], []⟩, ⟨.val (.int .i64 x3.2), [], [.ro 0 2 (List.map en_api_StrikeHeard l1)], []⟩, ⟨.val (.bool (decide (x3.2 < 0))), [], [], []⟩, ⟨.val (.bool (decide (x3.2 < 0))), [], [], []⟩, ⟨.val (.bool true), [], [], []⟩, ⟨.val (undef), [], [], []⟩, ⟨.val (undef), [], [], []⟩, ⟨.val (undef), [], [], []⟩, ⟨.val (undef), [], [], []⟩, ⟨.val (undef), [], [], []⟩, ⟨.val (undef), [], [], []⟩, ⟨.val (.bool true), [], [], []⟩, ⟨.val (.bool true), [], [], []⟩, ⟨.val (undef), [], [], []⟩, ⟨.val (undef), [], [], []⟩, ⟨.val (undef), [], [], []⟩, ⟨.val (undef), [], [], []⟩, ⟨.val (undef), [], [], []⟩, ⟨.val (undef), [], [], []⟩, ⟨.val (undef), [], [], []⟩, ⟨.val (undef), [], [], []⟩, ⟨.val (undef), [], [], []⟩, ⟨.val (undef), [], [], []⟩, ⟨.val (undef), [], [], []⟩, ⟨.val (undef), [], [], []⟩, ⟨.val (undef), [], [], []⟩, ⟨.val (undef), [], [], []⟩] rfl ?_ rfl ?_ rfl ?_ ?_
          · kernel_rfl
          · kernel_rfl
          · exact DAll.op' (sp_move rfl rfl) trivial rfl (From.ok (ps := []) trivial) (DAll.op' (sp_move rfl rfl) trivial rfl (From.ok (ps := []) trivial) (DAll.op' (sp_indexS rfl rfl rfl isRo sl37 h4 (map_get _ h5)) trivial rfl (From.ok (ps := [(none, 0)]) ⟨⟨rfl, by kernel_rfl⟩, trivial⟩) (DAll.op' (sp_fieldAddrR (i := (i2 : Int).toNat) rfl rfl isRo ft43_0 vt3 (by decide) (map_get _ h5) (fun h => nomatch h)) trivial rfl (From.ok (ps := [(none, 0)]) ⟨⟨rfl, by kernel_rfl⟩, trivial⟩) (DAll.op' (sp_loadR (i := (i2 : Int).toNat) (j := 0) rfl rfl isRo vt3 rfl (map_get _ h5) rfl (.v (.nil)) (nodup_of_B rfl)) trivial rfl (From.ok (ps := [(none, 0)]) ⟨⟨rfl, by kernel_rfl⟩, trivial⟩) (DAll.op' (sp_call (avs := [.val (.int .i64 x3.1)]) (need := []) (v := .val (.bool r4)) (news := []) rfl rfl rfl Try.call21 (atJ [] [] (fc_ref05_Slot h6) rfl rfl) (.inl (roAll rfl))) trivial rfl (From.ok (ps := []) trivial) (DAll.op' (sp_not rfl rfl) trivial rfl (From.ok (ps := []) trivial) (DAll.op' (sp_castB h7 (sp_move rfl rfl)) trivial rfl (From.ok (ps := []) trivial) (DAll.op' (sp_move rfl rfl) ⟨_, rfl, rfl⟩ rfl (From.ok (ps := []) trivial) (DAll.op' (sp_move rfl rfl) ⟨_, rfl, rfl⟩ rfl (From.ok (ps := []) trivial) (DAll.op' (sp_indexS rfl rfl rfl isRo sl37 h4 (map_get _ h5)) ⟨_, rfl, rfl⟩ rfl (From.ok (ps := [(none, 0)]) ⟨⟨rfl, by kernel_rfl⟩, trivial⟩) (DAll.op' (sp_fieldAddrR (i := (i2 : Int).toNat) rfl rfl isRo ft43_1 vt3 (by decide) (map_get _ h5) (fun h => nomatch h)) ⟨_, rfl, rfl⟩ rfl (From.ok (ps := [(none, 0)]) ⟨⟨rfl, by kernel_rfl⟩, trivial⟩) (DAll.op' (sp_loadR (i := (i2 : Int).toNat) (j := 1) rfl rfl isRo vt3 rfl (map_get _ h5) rfl (.v (.nil)) (nodup_of_B rfl)) ⟨_, rfl, rfl⟩ rfl (From.ok (ps := [(none, 0)]) ⟨⟨rfl, by kernel_rfl⟩, trivial⟩) (DAll.op' (sp_lss rfl rfl rfl) ⟨_, rfl, rfl⟩ rfl (From.ok (ps := []) trivial) (DAll.op' (sp_pickF rfl rfl rfl) trivial rfl (From.ok (ps := []) trivial) (DAll.op' (sp_castB h8 (sp_move rfl rfl)) trivial rfl (From.ok (ps := []) trivial) (.skip ⟨_, rfl, .inl rfl⟩ rfl rfl rfl (.skip ⟨_, rfl, .inl rfl⟩ rfl rfl rfl (.skip ⟨_, rfl, .inl rfl⟩ rfl rfl rfl (.skip ⟨_, rfl, .inl rfl⟩ rfl rfl rfl (.skip ⟨_, rfl, .inl rfl⟩ rfl rfl rfl (.skip ⟨_, rfl, .inl rfl⟩ rfl rfl rfl (DAll.op' (sp_pickT rfl rfl rfl) trivial rfl (From.ok (ps := []) trivial) (DAll.op' (sp_move rfl rfl) trivial rfl (From.ok (ps := []) trivial) (.skip ⟨_, rfl, .inl rfl⟩ rfl rfl rfl (.skip ⟨_, rfl, .inl rfl⟩ rfl rfl rfl (.skip ⟨_, rfl, .inl rfl⟩ rfl rfl rfl (.skip ⟨_, rfl, .inr rfl⟩ rfl rfl rfl (.skip ⟨_, rfl, .inr rfl⟩ rfl rfl rfl (.skip ⟨_, rfl, .inr rfl⟩ rfl rfl rfl (.skip ⟨_, rfl, .inr rfl⟩ rfl rfl rfl (.skip ⟨_, rfl, .inr rfl⟩ rfl rfl rfl (.skip ⟨_, rfl, .inr rfl⟩ rfl rfl rfl (.skip ⟨_, rfl, .inr rfl⟩ rfl rfl rfl (.skip ⟨_, rfl, .inr rfl⟩ rfl rfl rfl (.skip ⟨_, rfl, .inr rfl⟩ rfl rfl rfl (.skip ⟨_, rfl, .inr rfl⟩ rfl rfl rfl (.skip ⟨_, rfl, .inr rfl⟩ rfl rfl rfl (.nil))))))))))))))))))))))))))))))))))))))
          refine opSkip rfl ⟨_, rfl, .inr rfl⟩ rfl ?_
          refine opSkip rfl ⟨_, rfl, .inl rfl⟩ rfl ?_
          refine op0 (sp_pickT rfl rfl rfl) rfl trivial rfl rfl ?_
          refine TL.nil ?_
          refine TC.condT rfl ?_
          refine TC.seq ?_
          refine TC.region ?_
          refine op0 (sp_assign rfl rfl) rfl trivial rfl rfl ?_
          refine TL.nil ?_
          cases h
          exact retJ [] (.tmp rfl .nil) rfl trivial rfl rfl
        · rcases cond_cases h with ⟨h9, h⟩ | ⟨h9, h⟩
          · refine drawJ 38 [⟨.ref 0, [], [], []⟩, ⟨.val (.int .i64 i2), [], [], []⟩, ⟨.cell 0 ((i2 : Int).toNat * 2), [], [.ro 0 2 (List.map en_api_StrikeHeard l1)], []⟩, ⟨.cell 0 ((i2 : Int).toNat * 2 + 0), [], [.ro 0 2 (List.map en_api_StrikeHeard l1)], []⟩, ⟨.val (.int .i64 x3.1), [], [.ro 0 2 (List.map en_api_StrikeHeard l1)], []⟩, ⟨.val (.bool r4), [], [], []⟩, ⟨.val (.bool (!r4)), [], [], []⟩, ⟨.val (.bool false), [], [], []⟩, ⟨.ref 0, [], [], []⟩, ⟨.val (.int .i64 i2), [], [], []⟩, ⟨.cell 0 ((i2 : Int).toNat * 2), [], [.ro 0 2 (List.map en_api_StrikeHeard l1)], []⟩, ⟨.cell 0 ((i2 : Int).toNat * 2 + 1), [], [.ro 0 2 (List.map en_api_StrikeHeard l1)], []⟩, ⟨.val (.int .i64 x3.2), [], [.ro 0 2 (List.map en_api_StrikeHeard l1)], []⟩, ⟨.val (.bool (decide (x3.2 < 0))), [], [], []⟩, ⟨.val (.bool (decide (x3.2 < 0))), [], [], []⟩, ⟨.val (.bool false), [], [], []⟩, ⟨.ref 0, [], [], []⟩, ⟨.val (.int .i64 i2), [], [], []⟩, ⟨.cell 0 ((i2 : Int).toNat * 2), [], [.ro 0 2 (List.map en_api_StrikeHeard l1)], []⟩, ⟨.cell 0 ((i2 : Int).toNat * 2 + 1), [], [.ro 0 2 (List.map en_api_StrikeHeard l1)], []⟩, ⟨.val (.int .i64 x3.2), [], [.ro 0 2 (List.map en_api_StrikeHeard l1)], []⟩, ⟨.val (.bool (decide ((12 : Int) < x3.2))), [], [], []⟩, ⟨.val (.bool (decide ((12 : Int) < x3.2))), [], [], []⟩, ⟨.val (.bool true), [], [], []⟩, ⟨.val (undef), [], [], []⟩, ⟨.val (undef), [], [], []⟩, ⟨.val (undef), [], [], []⟩, ⟨.val (undef), [], [], []⟩, ⟨.val (undef), [], [], []⟩, ⟨.val (undef), [], [], []⟩, ⟨.val (undef), [], [], []⟩, ⟨.val (undef), [], [], []⟩, ⟨.val (undef), [], [], []⟩, ⟨.val (undef), [], [], []⟩, ⟨.val (undef), [], [], []⟩, ⟨.val (undef), [], [], []⟩, ⟨.val (undef), [], [], []⟩, ⟨.val (undef), [], [], []⟩] rfl ?_ rfl ?_ rfl ?_ ?_
            · kernel_rfl
            · kernel_rfl
            · exact DAll.op' (sp_move rfl rfl) trivial rfl (From.ok (ps := []) trivial) (DAll.op' (sp_move rfl rfl) trivial rfl (From.ok (ps := []) trivial) (DAll.op' (sp_indexS rfl rfl rfl isRo sl37 h4 (map_get _ h5)) trivial rfl (From.ok (ps := [(none, 0)]) ⟨⟨rfl, by kernel_rfl⟩, trivial⟩) (DAll.op' (sp_fieldAddrR (i := (i2 : Int).toNat) rfl rfl isRo ft43_0 vt3 (by decide) (map_get _ h5) (fun h => nomatch h)) trivial rfl (From.ok (ps := [(none, 0)]) ⟨⟨rfl, by kernel_rfl⟩, trivial⟩) (DAll.op' (sp_loadR (i := (i2 : Int).toNat) (j := 0) rfl rfl isRo vt3 rfl (map_get _ h5) rfl (.v (.nil)) (nodup_of_B rfl)) trivial rfl (From.ok (ps := [(none, 0)]) ⟨⟨rfl, by kernel_rfl⟩, trivial⟩) (DAll.op' (sp_call (avs := [.val (.int .i64 x3.1)]) (need := []) (v := .val (.bool r4)) (news := []) rfl rfl rfl Try.call21 (atJ [] [] (fc_ref05_Slot h6) rfl rfl) (.inl (roAll rfl))) trivial rfl (From.ok (ps := []) trivial) (DAll.op' (sp_not rfl rfl) trivial rfl (From.ok (ps := []) trivial) (DAll.op' (sp_castB h7 (sp_move rfl rfl)) trivial rfl (From.ok (ps := []) trivial) (DAll.op' (sp_move rfl rfl) ⟨_, rfl, rfl⟩ rfl (From.ok (ps := []) trivial) (DAll.op' (sp_move rfl rfl) ⟨_, rfl, rfl⟩ rfl (From.ok (ps := []) trivial) (DAll.op' (sp_indexS rfl rfl rfl isRo sl37 h4 (map_get _ h5)) ⟨_, rfl, rfl⟩ rfl (From.ok (ps := [(none, 0)]) ⟨⟨rfl, by kernel_rfl⟩, trivial⟩) (DAll.op' (sp_fieldAddrR (i := (i2 : Int).toNat) rfl rfl isRo ft43_1 vt3 (by decide) (map_get _ h5) (fun h => nomatch h)) ⟨_, rfl, rfl⟩ rfl (From.ok (ps := [(none, 0)]) ⟨⟨rfl, by kernel_rfl⟩, trivial⟩) (DAll.op' (sp_loadR (i := (i2 : Int).toNat) (j := 1) rfl rfl isRo vt3 rfl (map_get _ h5) rfl (.v (.nil)) (nodup_of_B rfl)) ⟨_, rfl, rfl⟩ rfl (From.ok (ps := [(none, 0)]) ⟨⟨rfl, by kernel_rfl⟩, trivial⟩) (DAll.op' (sp_lss rfl rfl rfl) ⟨_, rfl, rfl⟩ rfl (From.ok (ps := []) trivial) (DAll.op' (sp_pickF rfl rfl rfl) trivial rfl (From.ok (ps := []) trivial) (DAll.op' (sp_castB h8 (sp_move rfl rfl)) trivial rfl (From.ok (ps := []) trivial) (DAll.op' (sp_move rfl rfl) ⟨_, rfl, rfl⟩ rfl (From.ok (ps := []) trivial) (DAll.op' (sp_move rfl rfl) ⟨_, rfl, rfl⟩ rfl (From.ok (ps := []) trivial) (DAll.op' (sp_indexS rfl rfl rfl isRo sl37 h4 (map_get _ h5)) ⟨_, rfl, rfl⟩ rfl (From.ok (ps := [(none, 0)]) ⟨⟨rfl, by kernel_rfl⟩, trivial⟩) (DAll.op' (sp_fieldAddrR (i := (i2 : Int).toNat) rfl rfl isRo ft43_1 vt3 (by decide) (map_get _ h5) (fun h => nomatch h)) ⟨_, rfl, rfl⟩ rfl (From.ok (ps := [(none, 0)]) ⟨⟨rfl, by kernel_rfl⟩, trivial⟩) (DAll.op' (sp_loadR (i := (i2 : Int).toNat) (j := 1) rfl rfl isRo vt3 rfl (map_get _ h5) rfl (.v (.nil)) (nodup_of_B rfl)) ⟨_, rfl, rfl⟩ rfl (From.ok (ps := [(none, 0)]) ⟨⟨rfl, by kernel_rfl⟩, trivial⟩) (DAll.op' (sp_gtr rfl rfl rfl) ⟨_, rfl, rfl⟩ rfl (From.ok (ps := []) trivial) (DAll.op' (sp_pickF rfl rfl rfl) trivial rfl (From.ok (ps := []) trivial) (DAll.op' (sp_castB h9 (sp_move rfl rfl)) trivial rfl (From.ok (ps := []) trivial) (.skip ⟨_, rfl, .inl rfl⟩ rfl rfl rfl (.skip ⟨_, rfl, .inl rfl⟩ rfl rfl rfl (.skip ⟨_, rfl, .inl rfl⟩ rfl rfl rfl (.skip ⟨_, rfl, .inr rfl⟩ rfl rfl rfl (.skip ⟨_, rfl, .inr rfl⟩ rfl rfl rfl (.skip ⟨_, rfl, .inr rfl⟩ rfl rfl rfl (.skip ⟨_, rfl, .inr rfl⟩ rfl rfl rfl (.skip ⟨_, rfl, .inr rfl⟩ rfl rfl rfl (.skip ⟨_, rfl, .inr rfl⟩ rfl rfl rfl (.skip ⟨_, rfl, .inr rfl⟩ rfl rfl rfl (.skip ⟨_, rfl, .inr rfl⟩ rfl rfl rfl (.skip ⟨_, rfl, .inr rfl⟩ rfl rfl rfl (.skip ⟨_, rfl, .inr rfl⟩ rfl rfl rfl (.skip ⟨_, rfl, .inr rfl⟩ rfl rfl rfl (.nil))))))))))))))))))))))))))))))))))))))
            refine opSkip rfl ⟨_, rfl, .inr rfl⟩ rfl ?_
            refine opSkip rfl ⟨_, rfl, .inl rfl⟩ rfl ?_
            refine op0 (sp_pickT rfl rfl rfl) rfl trivial rfl rfl ?_
            refine TL.nil ?_
            refine TC.condT rfl ?_
            refine TC.seq ?_
            refine TC.region ?_
            refine op0 (sp_assign rfl rfl) rfl trivial rfl rfl ?_
            refine TL.nil ?_
            cases h
            exact retJ [] (.tmp rfl .nil) rfl trivial rfl rfl
          · rcases cond_cases h with ⟨h10, h⟩ | ⟨h10, h⟩
            · obtain ⟨h11, h⟩ := chk_inv h
              obtain ⟨x5, h12, h13, h⟩ := idx_inv h
              refine drawJ 38 [⟨.ref 0, [], [], []⟩, ⟨.val (.int .i64 i2), [], [], []⟩, ⟨.cell 0 ((i2 : Int).toNat * 2), [], [.ro 0 2 (List.map en_api_StrikeHeard l1)], []⟩, ⟨.cell 0 ((i2 : Int).toNat * 2 + 0), [], [.ro 0 2 (List.map en_api_StrikeHeard l1)], []⟩, ⟨.val (.int .i64 x3.1), [], [.ro 0 2 (List.map en_api_StrikeHeard l1)], []⟩, ⟨.val (.bool r4), [], [], []⟩, ⟨.val (.bool (!r4)), [], [], []⟩, ⟨.val (.bool false), [], [], []⟩, ⟨.ref 0, [], [], []⟩, ⟨.val (.int .i64 i2), [], [], []⟩, ⟨.cell 0 ((i2 : Int).toNat * 2), [], [.ro 0 2 (List.map en_api_StrikeHeard l1)], []⟩, ⟨.cell 0 ((i2 : Int).toNat * 2 + 1), [], [.ro 0 2 (List.map en_api_StrikeHeard l1)], []⟩, ⟨.val (.int .i64 x3.2), [], [.ro 0 2 (List.map en_api_StrikeHeard l1)], []⟩, ⟨.val (.bool (decide (x3.2 < 0))), [], [], []⟩, ⟨.val (.bool (decide (x3.2 < 0))), [], [], []⟩, ⟨.val (.bool false), [], [], []⟩, ⟨.ref 0, [], [], []⟩, ⟨.val (.int .i64 i2), [], [], []⟩, ⟨.cell 0 ((i2 : Int).toNat * 2), [], [.ro 0 2 (List.map en_api_StrikeHeard l1)], []⟩, ⟨.cell 0 ((i2 : Int).toNat * 2 + 1), [], [.ro 0 2 (List.map en_api_StrikeHeard l1)], []⟩, ⟨.val (.int .i64 x3.2), [], [.ro 0 2 (List.map en_api_StrikeHeard l1)], []⟩, ⟨.val (.bool (decide ((12 : Int) < x3.2))), [], [], []⟩, ⟨.val (.bool (decide ((12 : Int) < x3.2))), [], [], []⟩, ⟨.val (.bool false), [], [], []⟩, ⟨.val (.int .i64 i2), [], [], []⟩, ⟨.val (.bool (decide ((0 : Int) < i2))), [], [], []⟩, ⟨.val (.bool true), [], [], []⟩, ⟨.ref 0, [], [], []⟩, ⟨.val (.int .i64 i2), [], [], []⟩, ⟨.cell 0 ((i2 : Int).toNat * 2), [], [.ro 0 2 (List.map en_api_StrikeHeard l1)], []⟩, ⟨.cell 0 ((i2 : Int).toNat * 2 + 0), [], [.ro 0 2 (List.map en_api_StrikeHeard l1)], []⟩, ⟨.val (.int .i64 x3.1), [], [.ro 0 2 (List.map en_api_StrikeHeard l1)], []⟩, ⟨.ref 0, [], [], []⟩, ⟨.val (.int .i64 i2), [], [], []⟩, ⟨.val (.int .i64 (i2 - 1)), [], [], []⟩, ⟨.cell 0 (((i2 - 1) : Int).toNat * 2), [], [.ro 0 2 (List.map en_api_StrikeHeard l1)], []⟩, ⟨.cell 0 (((i2 - 1) : Int).toNat * 2 + 0), [], [.ro 0 2 (List.map en_api_StrikeHeard l1)], []⟩, ⟨.val (.int .i64 x5.1), [], [.ro 0 2 (List.map en_api_StrikeHeard l1)], []⟩] rfl ?_ rfl ?_ rfl ?_ ?_
              · kernel_rfl
              · kernel_rfl
              · exact DAll.op' (sp_move rfl rfl) trivial rfl (From.ok (ps := []) trivial) (DAll.op' (sp_move rfl rfl) trivial rfl (From.ok (ps := []) trivial) (DAll.op' (sp_indexS rfl rfl rfl isRo sl37 h4 (map_get _ h5)) trivial rfl (From.ok (ps := [(none, 0)]) ⟨⟨rfl, by kernel_rfl⟩, trivial⟩) (DAll.op' (sp_fieldAddrR (i := (i2 : Int).toNat) rfl rfl isRo ft43_0 vt3 (by decide) (map_get _ h5) (fun h => nomatch h)) trivial rfl (From.ok (ps := [(none, 0)]) ⟨⟨rfl, by kernel_rfl⟩, trivial⟩) (DAll.op' (sp_loadR (i := (i2 : Int).toNat) (j := 0) rfl rfl isRo vt3 rfl (map_get _ h5) rfl (.v (.nil)) (nodup_of_B rfl)) trivial rfl (From.ok (ps := [(none, 0)]) ⟨⟨rfl, by kernel_rfl⟩, trivial⟩) (DAll.op' (sp_call (avs := [.val (.int .i64 x3.1)]) (need := []) (v := .val (.bool r4)) (news := []) rfl rfl rfl Try.call21 (atJ [] [] (fc_ref05_Slot h6) rfl rfl) (.inl (roAll rfl))) trivial rfl (From.ok (ps := []) trivial) (DAll.op' (sp_not rfl rfl) trivial rfl (From.ok (ps := []) trivial) (DAll.op' (sp_castB h7 (sp_move rfl rfl)) trivial rfl (From.ok (ps := []) trivial) (DAll.op' (sp_move rfl rfl) ⟨_, rfl, rfl⟩ rfl (From.ok (ps := []) trivial) (DAll.op' (sp_move rfl rfl) ⟨_, rfl, rfl⟩ rfl (From.ok (ps := []) trivial) (DAll.op' (sp_indexS rfl rfl rfl isRo sl37 h4 (map_get _ h5)) ⟨_, rfl, rfl⟩ rfl (From.ok (ps := [(none, 0)]) ⟨⟨rfl, by kernel_rfl⟩, trivial⟩) (DAll.op' (sp_fieldAddrR (i := (i2 : Int).toNat) rfl rfl isRo ft43_1 vt3 (by decide) (map_get _ h5) (fun h => nomatch h)) ⟨_, rfl, rfl⟩ rfl (From.ok (ps := [(none, 0)]) ⟨⟨rfl, by kernel_rfl⟩, trivial⟩) (DAll.op' (sp_loadR (i := (i2 : Int).toNat) (j := 1) rfl rfl isRo vt3 rfl (map_get _ h5) rfl (.v (.nil)) (nodup_of_B rfl)) ⟨_, rfl, rfl⟩ rfl (From.ok (ps := [(none, 0)]) ⟨⟨rfl, by kernel_rfl⟩, trivial⟩) (DAll.op' (sp_lss rfl rfl rfl) ⟨_, rfl, rfl⟩ rfl (From.ok (ps := []) trivial) (DAll.op' (sp_pickF rfl rfl rfl) trivial rfl (From.ok (ps := []) trivial) (DAll.op' (sp_castB h8 (sp_move rfl rfl)) trivial rfl (From.ok (ps := []) trivial) (DAll.op' (sp_move rfl rfl) ⟨_, rfl, rfl⟩ rfl (From.ok (ps := []) trivial) (DAll.op' (sp_move rfl rfl) ⟨_, rfl, rfl⟩ rfl (From.ok (ps := []) trivial) (DAll.op' (sp_indexS rfl rfl rfl isRo sl37 h4 (map_get _ h5)) ⟨_, rfl, rfl⟩ rfl (From.ok (ps := [(none, 0)]) ⟨⟨rfl, by kernel_rfl⟩, trivial⟩) (DAll.op' (sp_fieldAddrR (i := (i2 : Int).toNat) rfl rfl isRo ft43_1 vt3 (by decide) (map_get _ h5) (fun h => nomatch h)) ⟨_, rfl, rfl⟩ rfl (From.ok (ps := [(none, 0)]) ⟨⟨rfl, by kernel_rfl⟩, trivial⟩) (DAll.op' (sp_loadR (i := (i2 : Int).toNat) (j := 1) rfl rfl isRo vt3 rfl (map_get _ h5) rfl (.v (.nil)) (nodup_of_B rfl)) ⟨_, rfl, rfl⟩ rfl (From.ok (ps := [(none, 0)]) ⟨⟨rfl, by kernel_rfl⟩, trivial⟩) (DAll.op' (sp_gtr rfl rfl rfl) ⟨_, rfl, rfl⟩ rfl (From.ok (ps := []) trivial) (DAll.op' (sp_pickF rfl rfl rfl) trivial rfl (From.ok (ps := []) trivial) (DAll.op' (sp_castB h9 (sp_move rfl rfl)) trivial rfl (From.ok (ps := []) trivial) (DAll.op' (sp_move rfl rfl) ⟨_, rfl, rfl⟩ rfl (From.ok (ps := []) trivial) (DAll.op' (sp_gtr rfl rfl rfl) ⟨_, rfl, rfl⟩ rfl (From.ok (ps := []) trivial) (DAll.op' (sp_castB h10 (sp_move rfl rfl)) ⟨_, rfl, rfl⟩ rfl (From.ok (ps := []) trivial) (DAll.op' (sp_move rfl rfl) ⟨_, rfl, rfl⟩ rfl (From.ok (ps := []) trivial) (DAll.op' (sp_move rfl rfl) ⟨_, rfl, rfl⟩ rfl (From.ok (ps := []) trivial) (DAll.op' (sp_indexS rfl rfl rfl isRo sl37 h4 (map_get _ h5)) ⟨_, rfl, rfl⟩ rfl (From.ok (ps := [(none, 0)]) ⟨⟨rfl, by kernel_rfl⟩, trivial⟩) (DAll.op' (sp_fieldAddrR (i := (i2 : Int).toNat) rfl rfl isRo ft43_0 vt3 (by decide) (map_get _ h5) (fun h => nomatch h)) ⟨_, rfl, rfl⟩ rfl (From.ok (ps := [(none, 0)]) ⟨⟨rfl, by kernel_rfl⟩, trivial⟩) (DAll.op' (sp_loadR (i := (i2 : Int).toNat) (j := 0) rfl rfl isRo vt3 rfl (map_get _ h5) rfl (.v (.nil)) (nodup_of_B rfl)) ⟨_, rfl, rfl⟩ rfl (From.ok (ps := [(none, 0)]) ⟨⟨rfl, by kernel_rfl⟩, trivial⟩) (DAll.op' (sp_move rfl rfl) ⟨_, rfl, rfl⟩ rfl (From.ok (ps := []) trivial) (DAll.op' (sp_move rfl rfl) ⟨_, rfl, rfl⟩ rfl (From.ok (ps := []) trivial) (DAll.op' (sp_sub rfl rfl rfl h11) ⟨_, rfl, rfl⟩ rfl (From.ok (ps := []) trivial) (DAll.op' (sp_indexS rfl rfl rfl isRo sl37 h12 (map_get _ h13)) ⟨_, rfl, rfl⟩ rfl (From.ok (ps := [(none, 0)]) ⟨⟨rfl, by kernel_rfl⟩, trivial⟩) (DAll.op' (sp_fieldAddrR (i := ((i2 - 1) : Int).toNat) rfl rfl isRo ft43_0 vt3 (by decide) (map_get _ h13) (fun h => nomatch h)) ⟨_, rfl, rfl⟩ rfl (From.ok (ps := [(none, 0)]) ⟨⟨rfl, by kernel_rfl⟩, trivial⟩) (DAll.op' (sp_loadR (i := ((i2 - 1) : Int).toNat) (j := 0) rfl rfl isRo vt3 rfl (map_get _ h13) rfl (.v (.nil)) (nodup_of_B rfl)) ⟨_, rfl, rfl⟩ rfl (From.ok (ps := [(none, 0)]) ⟨⟨rfl, by kernel_rfl⟩, trivial⟩) (.nil))))))))))))))))))))))))))))))))))))))
              refine op0 (sp_leq rfl rfl rfl) rfl ⟨_, rfl, rfl⟩ rfl rfl ?_
              refine op0 (sp_pickT rfl rfl rfl) rfl ⟨_, rfl, rfl⟩ rfl rfl ?_
              refine op0 (sp_pickF rfl rfl rfl) rfl trivial rfl rfl ?_
              refine TL.nil ?_
              refine TC.cond (b := (decide (x3.1 ≤ x5.1))) rfl (fun h14 => ?_) (fun h14 => ?_)
              · have h := cond_t h h14
                refine TC.seq ?_
                refine TC.region ?_
                refine op0 (sp_assign rfl rfl) rfl trivial rfl rfl ?_
                refine TL.nil ?_
                cases h
                exact retJ [] (.tmp rfl .nil) rfl trivial rfl rfl
              · have h := cond_f h h14
                refine TC.skip ?_
                refine TC.inBlock ?_
                refine TC.region ?_
                refine op0 (sp_move rfl rfl) rfl trivial rfl rfl ?_
                obtain ⟨h15, h⟩ := chk_inv h
                refine op0 (sp_add rfl rfl rfl h15) rfl trivial rfl rfl ?_
                refine op0 (sp_assign rfl rfl) rfl trivial rfl rfl ?_
                refine TL.nil ?_
                refine TC.inLoop ?_
                refine TC.seq ?_
                refine TC.seq ?_
                refine subJ [] (ih _ h) ?_ ?_ ?_
                · exact ⟨rfl, rfl, trivial⟩
                · exact ⟨mem_at 0 rfl, trivial⟩
                · rfl
            · refine drawJ 38 [⟨.ref 0, [], [], []⟩, ⟨.val (.int .i64 i2), [], [], []⟩, ⟨.cell 0 ((i2 : Int).toNat * 2), [], [.ro 0 2 (List.map en_api_StrikeHeard l1)], []⟩, ⟨.cell 0 ((i2 : Int).toNat * 2 + 0), [], [.ro 0 2 (List.map en_api_StrikeHeard l1)], []⟩, ⟨.val (.int .i64 x3.1), [], [.ro 0 2 (List.map en_api_StrikeHeard l1)], []⟩, ⟨.val (.bool r4), [], [], []⟩, ⟨.val (.bool (!r4)), [], [], []⟩, ⟨.val (.bool false), [], [], []⟩, ⟨.ref 0, [], [], []⟩, ⟨.val (.int .i64 i2), [], [], []⟩, ⟨.cell 0 ((i2 : Int).toNat * 2), [], [.ro 0 2 (List.map en_api_StrikeHeard l1)], []⟩, ⟨.cell 0 ((i2 : Int).toNat * 2 + 1), [], [.ro 0 2 (List.map en_api_StrikeHeard l1)], []⟩, ⟨.val (.int .i64 x3.2), [], [.ro 0 2 (List.map en_api_StrikeHeard l1)], []⟩, ⟨.val (.bool (decide (x3.2 < 0))), [], [], []⟩, ⟨.val (.bool (decide (x3.2 < 0))), [], [], []⟩, ⟨.val (.bool false), [], [], []⟩, ⟨.ref 0, [], [], []⟩, ⟨.val (.int .i64 i2), [], [], []⟩, ⟨.cell 0 ((i2 : Int).toNat * 2), [], [.ro 0 2 (List.map en_api_StrikeHeard l1)], []⟩, ⟨.cell 0 ((i2 : Int).toNat * 2 + 1), [], [.ro 0 2 (List.map en_api_StrikeHeard l1)], []⟩, ⟨.val (.int .i64 x3.2), [], [.ro 0 2 (List.map en_api_StrikeHeard l1)], []⟩, ⟨.val (.bool (decide ((12 : Int) < x3.2))), [], [], []⟩, ⟨.val (.bool (decide ((12 : Int) < x3.2))), [], [], []⟩, ⟨.val (.bool false), [], [], []⟩, ⟨.val (.int .i64 i2), [], [], []⟩, ⟨.val (.bool (decide ((0 : Int) < i2))), [], [], []⟩, ⟨.val (.bool false), [], [], []⟩, ⟨.val (undef), [], [], []⟩, ⟨.val (undef), [], [], []⟩, ⟨.val (undef), [], [], []⟩, ⟨.val (undef), [], [], []⟩, ⟨.val (undef), [], [], []⟩, ⟨.val (undef), [], [], []⟩, ⟨.val (undef), [], [], []⟩, ⟨.val (undef), [], [], []⟩, ⟨.val (undef), [], [], []⟩, ⟨.val (undef), [], [], []⟩, ⟨.val (undef), [], [], []⟩] rfl ?_ rfl ?_ rfl ?_ ?_
              · kernel_rfl
              · kernel_rfl
              · exact DAll.op' (sp_move rfl rfl) trivial rfl (From.ok (ps := []) trivial) (DAll.op' (sp_move rfl rfl) trivial rfl (From.ok (ps := []) trivial) (DAll.op' (sp_indexS rfl rfl rfl isRo sl37 h4 (map_get _ h5)) trivial rfl (From.ok (ps := [(none, 0)]) ⟨⟨rfl, by kernel_rfl⟩, trivial⟩) (DAll.op' (sp_fieldAddrR (i := (i2 : Int).toNat) rfl rfl isRo ft43_0 vt3 (by decide) (map_get _ h5) (fun h => nomatch h)) trivial rfl (From.ok (ps := [(none, 0)]) ⟨⟨rfl, by kernel_rfl⟩, trivial⟩) (DAll.op' (sp_loadR (i := (i2 : Int).toNat) (j := 0) rfl rfl isRo vt3 rfl (map_get _ h5) rfl (.v (.nil)) (nodup_of_B rfl)) trivial rfl (From.ok (ps := [(none, 0)]) ⟨⟨rfl, by kernel_rfl⟩, trivial⟩) (DAll.op' (sp_call (avs := [.val (.int .i64 x3.1)]) (need := []) (v := .val (.bool r4)) (news := []) rfl rfl rfl Try.call21 (atJ [] [] (fc_ref05_Slot h6) rfl rfl) (.inl (roAll rfl))) trivial rfl (From.ok (ps := []) trivial) (DAll.op' (sp_not rfl rfl) trivial rfl (From.ok (ps := []) trivial) (DAll.op' (sp_castB h7 (sp_move rfl rfl)) trivial rfl (From.ok (ps := []) trivial) (DAll.op' (sp_move rfl rfl) ⟨_, rfl, rfl⟩ rfl (From.ok (ps := []) trivial) (DAll.op' (sp_move rfl rfl) ⟨_, rfl, rfl⟩ rfl (From.ok (ps := []) trivial) (DAll.op' (sp_indexS rfl rfl rfl isRo sl37 h4 (map_get _ h5)) ⟨_, rfl, rfl⟩ rfl (From.ok (ps := [(none, 0)]) ⟨⟨rfl, by kernel_rfl⟩, trivial⟩) (DAll.op' (sp_fieldAddrR (i := (i2 : Int).toNat) rfl rfl isRo ft43_1 vt3 (by decide) (map_get _ h5) (fun h => nomatch h)) ⟨_, rfl, rfl⟩ rfl (From.ok (ps := [(none, 0)]) ⟨⟨rfl, by kernel_rfl⟩, trivial⟩) (DAll.op' (sp_loadR (i := (i2 : Int).toNat) (j := 1) rfl rfl isRo vt3 rfl (map_get _ h5) rfl (.v (.nil)) (nodup_of_B rfl)) ⟨_, rfl, rfl⟩ rfl (From.ok (ps := [(none, 0)]) ⟨⟨rfl, by kernel_rfl⟩, trivial⟩) (DAll.op' (sp_lss rfl rfl rfl) ⟨_, rfl, rfl⟩ rfl (From.ok (ps := []) trivial) (DAll.op' (sp_pickF rfl rfl rfl) trivial rfl (From.ok (ps := []) trivial) (DAll.op' (sp_castB h8 (sp_move rfl rfl)) trivial rfl (From.ok (ps := []) trivial) (DAll.op' (sp_move rfl rfl) ⟨_, rfl, rfl⟩ rfl (From.ok (ps := []) trivial) (DAll.op' (sp_move rfl rfl) ⟨_, rfl, rfl⟩ rfl (From.ok (ps := []) trivial) (DAll.op' (sp_indexS rfl rfl rfl isRo sl37 h4 (map_get _ h5)) ⟨_, rfl, rfl⟩ rfl (From.ok (ps := [(none, 0)]) ⟨⟨rfl, by kernel_rfl⟩, trivial⟩) (DAll.op' (sp_fieldAddrR (i := (i2 : Int).toNat) rfl rfl isRo ft43_1 vt3 (by decide) (map_get _ h5) (fun h => nomatch h)) ⟨_, rfl, rfl⟩ rfl (From.ok (ps := [(none, 0)]) ⟨⟨rfl, by kernel_rfl⟩, trivial⟩) (DAll.op' (sp_loadR (i := (i2 : Int).toNat) (j := 1) rfl rfl isRo vt3 rfl (map_get _ h5) rfl (.v (.nil)) (nodup_of_B rfl)) ⟨_, rfl, rfl⟩ rfl (From.ok (ps := [(none, 0)]) ⟨⟨rfl, by kernel_rfl⟩, trivial⟩) (DAll.op' (sp_gtr rfl rfl rfl) ⟨_, rfl, rfl⟩ rfl (From.ok (ps := []) trivial) (DAll.op' (sp_pickF rfl rfl rfl) trivial rfl (From.ok (ps := []) trivial) (DAll.op' (sp_castB h9 (sp_move rfl rfl)) trivial rfl (From.ok (ps := []) trivial) (DAll.op' (sp_move rfl rfl) ⟨_, rfl, rfl⟩ rfl (From.ok (ps := []) trivial) (DAll.op' (sp_gtr rfl rfl rfl) ⟨_, rfl, rfl⟩ rfl (From.ok (ps := []) trivial) (DAll.op' (sp_castB h10 (sp_move rfl rfl)) ⟨_, rfl, rfl⟩ rfl (From.ok (ps := []) trivial) (.skip ⟨_, rfl, .inl rfl⟩ rfl rfl rfl (.skip ⟨_, rfl, .inl rfl⟩ rfl rfl rfl (.skip ⟨_, rfl, .inl rfl⟩ rfl rfl rfl (.skip ⟨_, rfl, .inl rfl⟩ rfl rfl rfl (.skip ⟨_, rfl, .inl rfl⟩ rfl rfl rfl (.skip ⟨_, rfl, .inl rfl⟩ rfl rfl rfl (.skip ⟨_, rfl, .inl rfl⟩ rfl rfl rfl (.skip ⟨_, rfl, .inl rfl⟩ rfl rfl rfl (.skip ⟨_, rfl, .inl rfl⟩ rfl rfl rfl (.skip ⟨_, rfl, .inl rfl⟩ rfl rfl rfl (.skip ⟨_, rfl, .inl rfl⟩ rfl rfl rfl (.nil))))))))))))))))))))))))))))))))))))))
              refine opSkip rfl ⟨_, rfl, .inl rfl⟩ rfl ?_
              refine op0 (sp_pickF rfl rfl rfl) rfl ⟨_, rfl, rfl⟩ rfl rfl ?_
              refine op0 (sp_pickF rfl rfl rfl) rfl trivial rfl rfl ?_
              refine TL.nil ?_
              refine TC.condF rfl ?_
              refine TC.skip ?_
              refine TC.inBlock ?_
              refine TC.region ?_
              refine op0 (sp_move rfl rfl) rfl trivial rfl rfl ?_
              obtain ⟨h16, h⟩ := chk_inv h
              refine op0 (sp_add rfl rfl rfl h16) rfl trivial rfl rfl ?_
              refine op0 (sp_assign rfl rfl) rfl trivial rfl rfl ?_
              refine TL.nil ?_
              refine TC.inLoop ?_
              refine TC.seq ?_
              refine TC.seq ?_
              refine subJ [] (ih _ h) ?_ ?_ ?_
              · exact ⟨rfl, rfl, trivial⟩
              · exact ⟨mem_at 0 rfl, trivial⟩
              · rfl
    · have h := cond_f h h3
      refine TC.exit rfl ?_
      refine TC.seq ?_
      refine TC.seq ?_
      obtain ⟨h17, h⟩ := chk_inv h
      obtain ⟨x6, h18, h19, h⟩ := idx_inv h
      obtain ⟨x7, h20, h21, h⟩ := idx_inv h
      refine drawJ 11 [⟨.ref 0, [], [], []⟩, ⟨.ref 0, [], [], []⟩, ⟨.val (.int .i64 (l1.length : Int)), [], [.ro 0 2 (List.map en_api_StrikeHeard l1)], []⟩, ⟨.val (.int .i64 ((l1.length : Int) - 1)), [], [], []⟩, ⟨.cell 0 ((((l1.length : Int) - 1) : Int).toNat * 2), [], [.ro 0 2 (List.map en_api_StrikeHeard l1)], []⟩, ⟨.cell 0 ((((l1.length : Int) - 1) : Int).toNat * 2 + 0), [], [.ro 0 2 (List.map en_api_StrikeHeard l1)], []⟩, ⟨.val (.int .i64 x6.1), [], [.ro 0 2 (List.map en_api_StrikeHeard l1)], []⟩, ⟨.ref 0, [], [], []⟩, ⟨.cell 0 ((0 : Int).toNat * 2), [], [.ro 0 2 (List.map en_api_StrikeHeard l1)], []⟩, ⟨.cell 0 ((0 : Int).toNat * 2 + 0), [], [.ro 0 2 (List.map en_api_StrikeHeard l1)], []⟩, ⟨.val (.int .i64 x7.1), [], [.ro 0 2 (List.map en_api_StrikeHeard l1)], []⟩] rfl ?_ rfl ?_ rfl ?_ ?_
      · kernel_rfl
      · kernel_rfl
      · exact DAll.op' (sp_move rfl rfl) trivial rfl (From.ok (ps := []) trivial) (DAll.op' (sp_move rfl rfl) trivial rfl (From.ok (ps := []) trivial) (DAll.op' (sp_lenM (N := l1.length) (len_map _ _) rfl rfl isRo Try.underlying37) trivial rfl (From.ok (ps := [(none, 0)]) ⟨⟨rfl, rfl⟩, trivial⟩) (DAll.op' (sp_sub rfl rfl rfl h17) trivial rfl (From.ok (ps := []) trivial) (DAll.op' (sp_indexS rfl rfl rfl isRo sl37 h18 (map_get _ h19)) trivial rfl (From.ok (ps := [(none, 0)]) ⟨⟨rfl, rfl⟩, trivial⟩) (DAll.op' (sp_fieldAddrR (i := (((l1.length : Int) - 1) : Int).toNat) rfl rfl isRo ft43_0 vt3 (by decide) (map_get _ h19) (fun h => nomatch h)) trivial rfl (From.ok (ps := [(none, 0)]) ⟨⟨rfl, rfl⟩, trivial⟩) (DAll.op' (sp_loadR (i := (((l1.length : Int) - 1) : Int).toNat) (j := 0) rfl rfl isRo vt3 rfl (map_get _ h19) rfl (.v (.nil)) (nodup_of_B rfl)) trivial rfl (From.ok (ps := [(none, 0)]) ⟨⟨rfl, rfl⟩, trivial⟩) (DAll.op' (sp_move rfl rfl) trivial rfl (From.ok (ps := []) trivial) (DAll.op' (sp_indexS rfl rfl rfl isRo sl37 h20 (map_get _ h21)) trivial rfl (From.ok (ps := [(none, 0)]) ⟨⟨rfl, rfl⟩, trivial⟩) (DAll.op' (sp_fieldAddrR (i := (0 : Int).toNat) rfl rfl isRo ft43_0 vt3 (by decide) (map_get _ h21) (fun h => nomatch h)) trivial rfl (From.ok (ps := [(none, 0)]) ⟨⟨rfl, rfl⟩, trivial⟩) (DAll.op' (sp_loadR (i := (0 : Int).toNat) (j := 0) rfl rfl isRo vt3 rfl (map_get _ h21) rfl (.v (.nil)) (nodup_of_B rfl)) trivial rfl (From.ok (ps := [(none, 0)]) ⟨⟨rfl, rfl⟩, trivial⟩) (.nil)))))))))))
      obtain ⟨h22, h⟩ := chk_inv h
      refine op0 (sp_sub rfl rfl rfl h22) rfl trivial rfl rfl ?_
      obtain ⟨h23, h⟩ := chk_inv h
      refine op0 (sp_add rfl rfl rfl h23) rfl trivial rfl rfl ?_
      refine op0 (sp_gtr rfl rfl rfl) rfl trivial rfl rfl ?_
      refine TL.nil ?_
      refine TC.cond (b := (decide ((2000 : Int) < ((x6.1 - x7.1) + 1)))) rfl (fun h24 => ?_) (fun h24 => ?_)
      · have h := cond_t h h24
        refine TC.seq ?_
        refine TC.region ?_
        refine op0 (sp_assign rfl rfl) rfl trivial rfl rfl ?_
        refine TL.nil ?_
        cases h
        exact retJ [] (.tmp rfl .nil) rfl trivial rfl rfl
      · have h := cond_f h h24
        refine TC.skip ?_
        refine TC.seq ?_
        refine TC.region ?_
        refine op0 (sp_assign rfl rfl) rfl trivial rfl rfl ?_
        refine TL.nil ?_
        cases h
        exact retJ [] (.tmp rfl .nil) rfl trivial rfl rfl
def ev_ref05_Heard (n : Nat) (l1 : List (Int × Int)) : Option Int :=
  cond ((l1.length : Int) == 0) (some 7) (cond (decide ((200 : Int) < (l1.length : Int))) (some 5) (ev_ref05_Heard_l0 n l1 n 0))
set_option maxRecDepth 100000 in
set_option maxHeartbeats 2000000 in
theorem fc_ref05_Heard {n : Nat} {l1 : List (Int × Int)} {r : Int} (h : ev_ref05_Heard n l1 = some r) : FC Try.prog 24 [.ref 0] [.ro 0 2 (List.map en_api_StrikeHeard l1)] (.val (.int .i64 r)) [] := by
  refine introJ (nz := 71) Try.func24 rfl rfl rfl (fun w0 R0 env0 => ?_)
  rw [ev_ref05_Heard] at h
  refine TC.seq ?_
  refine TC.region ?_
  refine op0 (sp_assign rfl rfl) rfl trivial rfl rfl ?_
  refine TL.nil ?_
  refine TC.seq ?_
  refine TC.seq ?_
  refine TC.region ?_
  refine op0 (sp_move rfl rfl) rfl trivial rfl rfl ?_
  refine op1 0 rfl (sp_lenM (N := l1.length) (len_map _ _) rfl rfl isRo Try.underlying37) rfl trivial rfl rfl ?_
  refine op0 (sp_eql rfl rfl rfl) rfl trivial rfl rfl ?_
  refine TL.nil ?_
  refine TC.cond (b := ((l1.length : Int) == 0)) rfl (fun h1 => ?_) (fun h1 => ?_)
  · have h := cond_t h h1
    refine TC.seq ?_
    refine TC.region ?_
    refine op0 (sp_assign rfl rfl) rfl trivial rfl rfl ?_
    refine TL.nil ?_
    cases h
    exact retJ [] (.tmp rfl .nil) rfl trivial rfl rfl
  · have h := cond_f h h1
    refine TC.skip ?_
    refine TC.seq ?_
    refine TC.seq ?_
    refine TC.region ?_
    refine op0 (sp_move rfl rfl) rfl trivial rfl rfl ?_
    refine op1 0 rfl (sp_lenM (N := l1.length) (len_map _ _) rfl rfl isRo Try.underlying37) rfl trivial rfl rfl ?_
    refine op0 (sp_gtr rfl rfl rfl) rfl trivial rfl rfl ?_
    refine TL.nil ?_
    refine TC.cond (b := (decide ((200 : Int) < (l1.length : Int)))) rfl (fun h2 => ?_) (fun h2 => ?_)
    · have h := cond_t h h2
      refine TC.seq ?_
      refine TC.region ?_
      refine op0 (sp_assign rfl rfl) rfl trivial rfl rfl ?_
      refine TL.nil ?_
      cases h
      exact retJ [] (.tmp rfl .nil) rfl trivial rfl rfl
    · have h := cond_f h h2
      refine TC.skip ?_
      refine TC.seq ?_
      refine TC.seq ?_
      refine TC.region ?_
      refine op0 (sp_assign rfl rfl) rfl trivial rfl rfl ?_
      refine TL.nil ?_
      refine TC.block ?_
      refine TC.loop ?_
      refine TC.seq ?_
      refine TC.seq ?_
      refine subJ [] (ok_ref05_Heard_l0 _ _ h) ?_ ?_ ?_
      · exact ⟨rfl, rfl, trivial⟩
      · exact ⟨mem_at 0 rfl, trivial⟩
      · rfl
/- ref05_Misses -/
def ev_ref05_Misses_j7 (n : Nat) (l45 : List Int) (i40 : Int) (r5 : Int) (l44 : List Int) (b30 : Bool) (i47 : Int) (l41 : List (Int × Int)) (b42 : Bool) (b43 : Bool) (l46 : List (Int × Int)) (i31 : Int) (k_ref05_Misses_l5 : Int → (List (Int × Int)) → Bool → Bool → (List Int) → (List Int) → (List (Int × Int)) → Option (Int × (List Int) × Bool)) : Option (Int × (List Int) × Bool) :=
  idx l45 (Int.tmod (i40 + 1) r5) fun x48 => idx l44 i40 fun x49 => cond (!b30) (idx (List.set l45 ((Int.tmod (i40 + 1) r5) : Int).toNat (min x48 x49)) i47 fun x50 => chk (in64 (x49 + 1)) <| chk (in64 (i40 + 1)) <| k_ref05_Misses_l5 (i40 + 1) l41 b42 b43 l44 (List.set (List.set l45 ((Int.tmod (i40 + 1) r5) : Int).toNat (min x48 x49)) (i47 : Int).toNat (min x50 (x49 + 1))) l46) (cond (i31 == 0) (idx (List.set l45 ((Int.tmod (i40 + 1) r5) : Int).toNat (min x48 x49)) i47 fun x51 => chk (in64 (x49 + 1)) <| chk (in64 (i40 + 1)) <| k_ref05_Misses_l5 (i40 + 1) l41 b42 b43 l44 (List.set (List.set l45 ((Int.tmod (i40 + 1) r5) : Int).toNat (min x48 x49)) (i47 : Int).toNat (min x51 (x49 + 1))) l46) (chk (in64 (i40 + 1)) <| k_ref05_Misses_l5 (i40 + 1) l41 b42 b43 l44 (List.set l45 ((Int.tmod (i40 + 1) r5) : Int).toNat (min x48 x49)) l46))
set_option maxRecDepth 100000 in
set_option maxHeartbeats 2000000 in
theorem ok_ref05_Misses_j7 {n : Nat} {w0 : World} {R0 : Nat → Prop} {env0 : Env} {r : Int × (List Int) × Bool} {r5 : Int} {i29 : Int} {i21 : Int} {b30 : Bool} {i31 : Int} {i47 : Int} {l45 : List Int} {i40 : Int} {l44 : List Int} {l41 : List (Int × Int)} {b42 : Bool} {b43 : Bool} {l46 : List (Int × Int)} {k_ref05_Misses_l5 : Int → (List (Int × Int)) → Bool → Bool → (List Int) → (List Int) → (List (Int × Int)) → Option (Int × (List Int) × Bool)} (hk_ref05_Misses_l5 : ∀ (i40 : Int) (l41 : List (Int × Int)) (b42 : Bool) (b43 : Bool) (l44 : List Int) (l45 : List Int) (l46 : List (Int × Int)), k_ref05_Misses_l5 i40 l41 b42 b43 l44 l45 l46 = some r → TC Try.prog ⟨w0, fun _ => False, R0⟩ 170 (bodyPost Try.prog Try.f25 (Post ⟨w0, fun _ => False, R0⟩ env0 (.tup [.val (.int .i64 r.1), .ref 0, .val (.bool r.2.2)]) [.row 0 3 1 (List.map en_int r.2.1)])) [.code (sub (bodyOf Try.f25) [1, 1, 1, 1, 0, 1, 0, 0, 1, 0, 0, 1, 1, 1, 1, 0, 1, 0, 0, 0, 0]), .code (sub (bodyOf Try.f25) [1, 1, 1, 1, 0, 1, 0, 0, 1, 0, 0, 1, 1, 1, 1, 0, 1, 0, 0, 0, 1]), .code (sub (bodyOf Try.f25) [1, 1, 1, 1, 0, 1, 0, 0, 1, 0, 0, 1, 1, 1, 1, 0, 1, 0, 0, 1]), .inLoop (sub (bodyOf Try.f25) [1, 1, 1, 1, 0, 1, 0, 0, 1, 0, 0, 1, 1, 1, 1, 0, 1, 0, 0]), .inBlock 6, .code (sub (bodyOf Try.f25) [1, 1, 1, 1, 0, 1, 0, 0, 1, 0, 0, 1, 1, 1, 1, 1]), .inBlock 3, .code (sub (bodyOf Try.f25) [1, 1, 1, 1, 0, 1, 0, 0, 1, 1]), .inLoop (sub (bodyOf Try.f25) [1, 1, 1, 1, 0, 1, 0, 0]), .inBlock 2, .code (sub (bodyOf Try.f25) [1, 1, 1, 1, 1])] ([(1, .ref 1), (2, .ptr 2 0), (7, .val (.int .i64 r5)), (8, .val (.int .i64 i29)), (9, .ref 3), (11, .val (.int .i64 i21)), (12, .val (.bool b30)), (13, .val (.int .i64 i31)), (14, .ref 4), (16, .val (.int .i64 i40))]) ([.ro 1 2 (List.map en_api_StrikeHeard l41), .blk 2 [.val (.bool b42), .val (.bool b43), .ref 0] 24, .row 3 3 1 (List.map en_int l44), .row 4 3 1 (List.map en_int l45), .ro 0 2 (List.map en_api_Span l46)])) (h : ev_ref05_Misses_j7 n l45 i40 r5 l44 b30 i47 l41 b42 b43 l46 i31 k_ref05_Misses_l5 = some r) : TC Try.prog ⟨w0, fun _ => False, R0⟩ 170 (bodyPost Try.prog Try.f25 (Post ⟨w0, fun _ => False, R0⟩ env0 (.tup [.val (.int .i64 r.1), .ref 0, .val (.bool r.2.2)]) [.row 0 3 1 (List.map en_int r.2.1)])) [.code (sub (bodyOf Try.f25) [1, 1, 1, 1, 0, 1, 0, 0, 1, 0, 0, 1, 1, 1, 1, 0, 1, 0, 0, 1, 0, 0, 1, 1, 0, 1, 0]), .code (sub (bodyOf Try.f25) [1, 1, 1, 1, 0, 1, 0, 0, 1, 0, 0, 1, 1, 1, 1, 0, 1, 0, 0, 1, 0, 0, 1, 1, 1]), .inBlock 7, .code (sub (bodyOf Try.f25) [1, 1, 1, 1, 0, 1, 0, 0, 1, 0, 0, 1, 1, 1, 1, 0, 1, 0, 0, 1, 1]), .inLoop (sub (bodyOf Try.f25) [1, 1, 1, 1, 0, 1, 0, 0, 1, 0, 0, 1, 1, 1, 1, 0, 1, 0, 0]), .inBlock 6, .code (sub (bodyOf Try.f25) [1, 1, 1, 1, 0, 1, 0, 0, 1, 0, 0, 1, 1, 1, 1, 1]), .inBlock 3, .code (sub (bodyOf Try.f25) [1, 1, 1, 1, 0, 1, 0, 0, 1, 1]), .inLoop (sub (bodyOf Try.f25) [1, 1, 1, 1, 0, 1, 0, 0]), .inBlock 2, .code (sub (bodyOf Try.f25) [1, 1, 1, 1, 1])] ([(1, .ref 1), (2, .ptr 2 0), (7, .val (.int .i64 r5)), (8, .val (.int .i64 i29)), (9, .ref 3), (11, .val (.int .i64 i21)), (12, .val (.bool b30)), (13, .val (.int .i64 i31)), (14, .ref 4), (16, .val (.int .i64 i40)), (17, .val (.int .i64 (Int.tmod (i40 + 1) r5))), (18, .val (.int .i64 i47))]) ([.ro 1 2 (List.map en_api_StrikeHeard l41), .blk 2 [.val (.bool b42), .val (.bool b43), .ref 0] 24, .row 3 3 1 (List.map en_int l44), .row 4 3 1 (List.map en_int l45), .ro 0 2 (List.map en_api_Span l46)]) := by
  rw [ev_ref05_Misses_j7] at h
  obtain ⟨x48, h35, h36, h⟩ := idx_inv h
  obtain ⟨x49, h37, h38, h⟩ := idx_inv h
  refine drawJ 11 [⟨.ref 4, [], [], []⟩, ⟨.val (.int .i64 (Int.tmod (i40 + 1) r5)), [], [], []⟩, ⟨.ref 4, [], [], []⟩, ⟨.val (.int .i64 (Int.tmod (i40 + 1) r5)), [], [], []⟩, ⟨.cell 4 (((Int.tmod (i40 + 1) r5) : Int).toNat * 1), [], [.row 4 3 1 (List.map en_int l45)], []⟩, ⟨.val (.int .i64 x48), [], [.row 4 3 1 (List.map en_int l45)], []⟩, ⟨.ref 3, [], [], []⟩, ⟨.val (.int .i64 i40), [], [], []⟩, ⟨.cell 3 ((i40 : Int).toNat * 1), [], [.row 3 3 1 (List.map en_int l44)], []⟩, ⟨.val (.int .i64 x49), [], [.row 3 3 1 (List.map en_int l44)], []⟩, ⟨.val (.int .i64 (min x48 x49)), [], [], []⟩] rfl ?_ rfl ?_ rfl ?_ ?_
  · kernel_rfl
  · kernel_rfl
  · exact DAll.op' (sp_move rfl rfl) trivial rfl (From.ok (ps := []) trivial) (DAll.op' (sp_move rfl rfl) trivial rfl (From.ok (ps := []) trivial) (DAll.op' (sp_move rfl rfl) trivial rfl (From.ok (ps := []) trivial) (DAll.op' (sp_move rfl rfl) trivial rfl (From.ok (ps := []) trivial) (DAll.op' (sp_indexS rfl rfl rfl isOwn sl39 h35 (map_get _ h36)) trivial rfl (From.ok (ps := [(none, 3)]) ⟨⟨rfl, rfl⟩, trivial⟩) (DAll.op' (sp_loadR (i := ((Int.tmod (i40 + 1) r5) : Int).toNat) (j := 0) rfl rfl isOwn vt3 rfl (map_get _ h36) rfl (.v (.nil)) (nodup_of_B rfl)) trivial rfl (From.ok (ps := [(none, 3)]) ⟨⟨rfl, rfl⟩, trivial⟩) (DAll.op' (sp_move rfl rfl) trivial rfl (From.ok (ps := []) trivial) (DAll.op' (sp_move rfl rfl) trivial rfl (From.ok (ps := []) trivial) (DAll.op' (sp_indexS rfl rfl rfl isOwn sl39 h37 (map_get _ h38)) trivial rfl (From.ok (ps := [(none, 2)]) ⟨⟨rfl, rfl⟩, trivial⟩) (DAll.op' (sp_loadR (i := (i40 : Int).toNat) (j := 0) rfl rfl isOwn vt3 rfl (map_get _ h38) rfl (.v (.nil)) (nodup_of_B rfl)) trivial rfl (From.ok (ps := [(none, 2)]) ⟨⟨rfl, rfl⟩, trivial⟩) (DAll.op' (sp_min rfl rfl rfl) trivial rfl (From.ok (ps := []) trivial) (.nil)))))))))))
  refine op1 3 rfl (sp_indexS rfl rfl rfl isOwn sl39 h35 (map_get _ h36)) rfl trivial rfl rfl ?_
  refine stoR 3 (((Int.tmod (i40 + 1) r5) : Int).toNat) 0 (need := []) [] rfl rfl trivial rfl rfl rfl rfl vt3 rfl rfl (map_get _ h36) rfl rfl trivial (.v (.nil)) (map_set l45 en_int (((Int.tmod (i40 + 1) r5) : Int).toNat) (min x48 x49)) ?_
  refine TL.nil ?_
  refine TC.seq ?_
  refine TC.region ?_
  refine op0 (sp_move rfl rfl) rfl trivial rfl rfl ?_
  refine op0 (sp_not rfl rfl) rfl trivial rfl rfl ?_
  refine op0 (sp_move rfl rfl) rfl trivial rfl rfl ?_
  rcases cond_cases h with ⟨h39, h⟩ | ⟨h39, h⟩
  · refine (boolLit 121 rfl h39).2 ?_
    refine opSkip rfl ⟨_, rfl, .inl rfl⟩ rfl ?_
    refine opSkip rfl ⟨_, rfl, .inl rfl⟩ rfl ?_
    refine op0 (sp_pickT rfl rfl rfl) rfl trivial rfl rfl ?_
    refine TL.nil ?_
    refine TC.condT rfl ?_
    obtain ⟨x50, h40, h41, h⟩ := idx_inv h
    obtain ⟨h42, h⟩ := chk_inv h
    refine drawJ 12 [⟨.ref 4, [], [], []⟩, ⟨.val (.int .i64 i47), [], [], []⟩, ⟨.ref 4, [], [], []⟩, ⟨.val (.int .i64 i47), [], [], []⟩, ⟨.cell 4 ((i47 : Int).toNat * 1), [], [.row 4 3 1 (List.map en_int (List.set l45 ((Int.tmod (i40 + 1) r5) : Int).toNat (min x48 x49)))], []⟩, ⟨.val (.int .i64 x50), [], [.row 4 3 1 (List.map en_int (List.set l45 ((Int.tmod (i40 + 1) r5) : Int).toNat (min x48 x49)))], []⟩, ⟨.ref 3, [], [], []⟩, ⟨.val (.int .i64 i40), [], [], []⟩, ⟨.cell 3 ((i40 : Int).toNat * 1), [], [.row 3 3 1 (List.map en_int l44)], []⟩, ⟨.val (.int .i64 x49), [], [.row 3 3 1 (List.map en_int l44)], []⟩, ⟨.val (.int .i64 (x49 + 1)), [], [], []⟩, ⟨.val (.int .i64 (min x50 (x49 + 1))), [], [], []⟩] rfl ?_ rfl ?_ rfl ?_ ?_
    · kernel_rfl
    · kernel_rfl
    · exact DAll.op' (sp_move rfl rfl) trivial rfl (From.ok (ps := []) trivial) (DAll.op' (sp_move rfl rfl) trivial rfl (From.ok (ps := []) trivial) (DAll.op' (sp_move rfl rfl) trivial rfl (From.ok (ps := []) trivial) (DAll.op' (sp_move rfl rfl) trivial rfl (From.ok (ps := []) trivial) (DAll.op' (sp_indexS rfl rfl rfl isOwn sl39 h40 (map_get _ h41)) trivial rfl (From.ok (ps := [(none, 3)]) ⟨⟨rfl, rfl⟩, trivial⟩) (DAll.op' (sp_loadR (i := (i47 : Int).toNat) (j := 0) rfl rfl isOwn vt3 rfl (map_get _ h41) rfl (.v (.nil)) (nodup_of_B rfl)) trivial rfl (From.ok (ps := [(none, 3)]) ⟨⟨rfl, rfl⟩, trivial⟩) (DAll.op' (sp_move rfl rfl) trivial rfl (From.ok (ps := []) trivial) (DAll.op' (sp_move rfl rfl) trivial rfl (From.ok (ps := []) trivial) (DAll.op' (sp_indexS rfl rfl rfl isOwn sl39 h37 (map_get _ h38)) trivial rfl (From.ok (ps := [(none, 2)]) ⟨⟨rfl, rfl⟩, trivial⟩) (DAll.op' (sp_loadR (i := (i40 : Int).toNat) (j := 0) rfl rfl isOwn vt3 rfl (map_get _ h38) rfl (.v (.nil)) (nodup_of_B rfl)) trivial rfl (From.ok (ps := [(none, 2)]) ⟨⟨rfl, rfl⟩, trivial⟩) (DAll.op' (sp_add rfl rfl rfl h42) trivial rfl (From.ok (ps := []) trivial) (DAll.op' (sp_min rfl rfl rfl) trivial rfl (From.ok (ps := []) trivial) (.nil))))))))))))
    refine op1 3 rfl (sp_indexS rfl rfl rfl isOwn sl39 h40 (map_get _ h41)) rfl trivial rfl rfl ?_
    refine stoR 3 ((i47 : Int).toNat) 0 (need := []) [] rfl rfl trivial rfl rfl rfl rfl vt3 rfl rfl (map_get _ h41) rfl rfl trivial (.v (.nil)) (map_set (List.set l45 ((Int.tmod (i40 + 1) r5) : Int).toNat (min x48 x49)) en_int ((i47 : Int).toNat) (min x50 (x49 + 1))) ?_
    refine TL.nil ?_
    refine TC.inBlock ?_
    refine TC.region ?_
    refine op0 (sp_move rfl rfl) rfl trivial rfl rfl ?_
    obtain ⟨h43, h⟩ := chk_inv h
    refine op0 (sp_add rfl rfl rfl h43) rfl trivial rfl rfl ?_
    refine op0 (sp_assign rfl rfl) rfl trivial rfl rfl ?_
    refine TL.nil ?_
    refine TC.inLoop ?_
    refine TC.seq ?_
    refine TC.seq ?_
    refine subJ [] (hk_ref05_Misses_l5 _ _ _ _ _ _ _ h) ?_ ?_ ?_
    · exact ⟨rfl, rfl, rfl, rfl, rfl, rfl, rfl, rfl, rfl, rfl, trivial⟩
    · exact ⟨mem_at 0 rfl, mem_at 1 rfl, mem_at 2 rfl, mem_at 3 rfl, mem_at 4 rfl, trivial⟩
    · rfl
  · refine (boolLit 121 rfl h39).2 ?_
    refine op0 (sp_move rfl rfl) rfl ⟨_, rfl, rfl⟩ rfl rfl ?_
    refine op0 (sp_eql rfl rfl rfl) rfl ⟨_, rfl, rfl⟩ rfl rfl ?_
    refine op0 (sp_pickF rfl rfl rfl) rfl trivial rfl rfl ?_
    refine TL.nil ?_
    refine TC.cond (b := (i31 == 0)) rfl (fun h44 => ?_) (fun h44 => ?_)
    · have h := cond_t h h44
      obtain ⟨x51, h45, h46, h⟩ := idx_inv h
      obtain ⟨h47, h⟩ := chk_inv h
      refine drawJ 12 [⟨.ref 4, [], [], []⟩, ⟨.val (.int .i64 i47), [], [], []⟩, ⟨.ref 4, [], [], []⟩, ⟨.val (.int .i64 i47), [], [], []⟩, ⟨.cell 4 ((i47 : Int).toNat * 1), [], [.row 4 3 1 (List.map en_int (List.set l45 ((Int.tmod (i40 + 1) r5) : Int).toNat (min x48 x49)))], []⟩, ⟨.val (.int .i64 x51), [], [.row 4 3 1 (List.map en_int (List.set l45 ((Int.tmod (i40 + 1) r5) : Int).toNat (min x48 x49)))], []⟩, ⟨.ref 3, [], [], []⟩, ⟨.val (.int .i64 i40), [], [], []⟩, ⟨.cell 3 ((i40 : Int).toNat * 1), [], [.row 3 3 1 (List.map en_int l44)], []⟩, ⟨.val (.int .i64 x49), [], [.row 3 3 1 (List.map en_int l44)], []⟩, ⟨.val (.int .i64 (x49 + 1)), [], [], []⟩, ⟨.val (.int .i64 (min x51 (x49 + 1))), [], [], []⟩] rfl ?_ rfl ?_ rfl ?_ ?_
      · kernel_rfl
      · kernel_rfl
      · exact DAll.op' (sp_move rfl rfl) trivial rfl (From.ok (ps := []) trivial) (DAll.op' (sp_move rfl rfl) trivial rfl (From.ok (ps := []) trivial) (DAll.op' (sp_move rfl rfl) trivial rfl (From.ok (ps := []) trivial) (DAll.op' (sp_move rfl rfl) trivial rfl (From.ok (ps := []) trivial) (DAll.op' (sp_indexS rfl rfl rfl isOwn sl39 h45 (map_get _ h46)) trivial rfl (From.ok (ps := [(none, 3)]) ⟨⟨rfl, rfl⟩, trivial⟩) (DAll.op' (sp_loadR (i := (i47 : Int).toNat) (j := 0) rfl rfl isOwn vt3 rfl (map_get _ h46) rfl (.v (.nil)) (nodup_of_B rfl)) trivial rfl (From.ok (ps := [(none, 3)]) ⟨⟨rfl, rfl⟩, trivial⟩) (DAll.op' (sp_move rfl rfl) trivial rfl (From.ok (ps := []) trivial) (DAll.op' (sp_move rfl rfl) trivial rfl (From.ok (ps := []) trivial) (DAll.op' (sp_indexS rfl rfl rfl isOwn sl39 h37 (map_get _ h38)) trivial rfl (From.ok (ps := [(none, 2)]) ⟨⟨rfl, rfl⟩, trivial⟩) (DAll.op' (sp_loadR (i := (i40 : Int).toNat) (j := 0) rfl rfl isOwn vt3 rfl (map_get _ h38) rfl (.v (.nil)) (nodup_of_B rfl)) trivial rfl (From.ok (ps := [(none, 2)]) ⟨⟨rfl, rfl⟩, trivial⟩) (DAll.op' (sp_add rfl rfl rfl h47) trivial rfl (From.ok (ps := []) trivial) (DAll.op' (sp_min rfl rfl rfl) trivial rfl (From.ok (ps := []) trivial) (.nil))))))))))))
      refine op1 3 rfl (sp_indexS rfl rfl rfl isOwn sl39 h45 (map_get _ h46)) rfl trivial rfl rfl ?_
      refine stoR 3 ((i47 : Int).toNat) 0 (need := []) [] rfl rfl trivial rfl rfl rfl rfl vt3 rfl rfl (map_get _ h46) rfl rfl trivial (.v (.nil)) (map_set (List.set l45 ((Int.tmod (i40 + 1) r5) : Int).toNat (min x48 x49)) en_int ((i47 : Int).toNat) (min x51 (x49 + 1))) ?_
      refine TL.nil ?_
      refine TC.inBlock ?_
      refine TC.region ?_
      refine op0 (sp_move rfl rfl) rfl trivial rfl rfl ?_
      obtain ⟨h48, h⟩ := chk_inv h
      refine op0 (sp_add rfl rfl rfl h48) rfl trivial rfl rfl ?_
      refine op0 (sp_assign rfl rfl) rfl trivial rfl rfl ?_
      refine TL.nil ?_
      refine TC.inLoop ?_
      refine TC.seq ?_
      refine TC.seq ?_
      refine subJ [] (hk_ref05_Misses_l5 _ _ _ _ _ _ _ h) ?_ ?_ ?_
      · exact ⟨rfl, rfl, rfl, rfl, rfl, rfl, rfl, rfl, rfl, rfl, trivial⟩
      · exact ⟨mem_at 0 rfl, mem_at 1 rfl, mem_at 2 rfl, mem_at 3 rfl, mem_at 4 rfl, trivial⟩
      · rfl
    · have h := cond_f h h44
      refine TC.skip ?_
      refine TC.inBlock ?_
      refine TC.region ?_
      refine op0 (sp_move rfl rfl) rfl trivial rfl rfl ?_
      obtain ⟨h49, h⟩ := chk_inv h
      refine op0 (sp_add rfl rfl rfl h49) rfl trivial rfl rfl ?_
      refine op0 (sp_assign rfl rfl) rfl trivial rfl rfl ?_
      refine TL.nil ?_
      refine TC.inLoop ?_
      refine TC.seq ?_
      refine TC.seq ?_
      refine subJ [] (hk_ref05_Misses_l5 _ _ _ _ _ _ _ h) ?_ ?_ ?_
      · exact ⟨rfl, rfl, rfl, rfl, rfl, rfl, rfl, rfl, rfl, rfl, trivial⟩
      · exact ⟨mem_at 0 rfl, mem_at 1 rfl, mem_at 2 rfl, mem_at 3 rfl, mem_at 4 rfl, trivial⟩
      · rfl
def ev_ref05_Misses_j9 (n : Nat) (b30 : Bool) (i47 : Int) (i40 : Int) (i31 : Int) (k_ref05_Misses_l5 : Int → (List (Int × Int)) → Bool → Bool → (List Int) → (List Int) → (List (Int × Int)) → Option (Int × (List Int) × Bool)) (l53 : List (Int × Int)) (b54 : Bool) (b55 : Bool) (l56 : List Int) (l57 : List Int) (l58 : List (Int × Int)) : Option (Int × (List Int) × Bool) :=
  cond (!b30) (idx l57 i47 fun x59 => idx l56 i40 fun x60 => chk (in64 (x60 + 1)) <| chk (in64 (i40 + 1)) <| k_ref05_Misses_l5 (i40 + 1) l53 b54 b55 l56 (List.set l57 (i47 : Int).toNat (min x59 (x60 + 1))) l58) (cond (i31 == 0) (idx l57 i47 fun x61 => idx l56 i40 fun x62 => chk (in64 (x62 + 1)) <| chk (in64 (i40 + 1)) <| k_ref05_Misses_l5 (i40 + 1) l53 b54 b55 l56 (List.set l57 (i47 : Int).toNat (min x61 (x62 + 1))) l58) (chk (in64 (i40 + 1)) <| k_ref05_Misses_l5 (i40 + 1) l53 b54 b55 l56 l57 l58))
set_option maxRecDepth 100000 in
set_option maxHeartbeats 2000000 in
theorem ok_ref05_Misses_j9 {n : Nat} {w0 : World} {R0 : Nat → Prop} {env0 : Env} {r : Int × (List Int) × Bool} {r5 : Int} {i29 : Int} {i21 : Int} {b30 : Bool} {i31 : Int} {i47 : Int} {i40 : Int} {k_ref05_Misses_l5 : Int → (List (Int × Int)) → Bool → Bool → (List Int) → (List Int) → (List (Int × Int)) → Option (Int × (List Int) × Bool)} {l53 : List (Int × Int)} {b54 : Bool} {b55 : Bool} {l56 : List Int} {l57 : List Int} {l58 : List (Int × Int)} (hk_ref05_Misses_l5 : ∀ (i40 : Int) (l41 : List (Int × Int)) (b42 : Bool) (b43 : Bool) (l44 : List Int) (l45 : List Int) (l46 : List (Int × Int)), k_ref05_Misses_l5 i40 l41 b42 b43 l44 l45 l46 = some r → TC Try.prog ⟨w0, fun _ => False, R0⟩ 170 (bodyPost Try.prog Try.f25 (Post ⟨w0, fun _ => False, R0⟩ env0 (.tup [.val (.int .i64 r.1), .ref 0, .val (.bool r.2.2)]) [.row 0 3 1 (List.map en_int r.2.1)])) [.code (sub (bodyOf Try.f25) [1, 1, 1, 1, 0, 1, 0, 0, 1, 0, 0, 1, 1, 1, 1, 0, 1, 0, 0, 0, 0]), .code (sub (bodyOf Try.f25) [1, 1, 1, 1, 0, 1, 0, 0, 1, 0, 0, 1, 1, 1, 1, 0, 1, 0, 0, 0, 1]), .code (sub (bodyOf Try.f25) [1, 1, 1, 1, 0, 1, 0, 0, 1, 0, 0, 1, 1, 1, 1, 0, 1, 0, 0, 1]), .inLoop (sub (bodyOf Try.f25) [1, 1, 1, 1, 0, 1, 0, 0, 1, 0, 0, 1, 1, 1, 1, 0, 1, 0, 0]), .inBlock 6, .code (sub (bodyOf Try.f25) [1, 1, 1, 1, 0, 1, 0, 0, 1, 0, 0, 1, 1, 1, 1, 1]), .inBlock 3, .code (sub (bodyOf Try.f25) [1, 1, 1, 1, 0, 1, 0, 0, 1, 1]), .inLoop (sub (bodyOf Try.f25) [1, 1, 1, 1, 0, 1, 0, 0]), .inBlock 2, .code (sub (bodyOf Try.f25) [1, 1, 1, 1, 1])] ([(1, .ref 1), (2, .ptr 2 0), (7, .val (.int .i64 r5)), (8, .val (.int .i64 i29)), (9, .ref 3), (11, .val (.int .i64 i21)), (12, .val (.bool b30)), (13, .val (.int .i64 i31)), (14, .ref 4), (16, .val (.int .i64 i40))]) ([.ro 1 2 (List.map en_api_StrikeHeard l41), .blk 2 [.val (.bool b42), .val (.bool b43), .ref 0] 24, .row 3 3 1 (List.map en_int l44), .row 4 3 1 (List.map en_int l45), .ro 0 2 (List.map en_api_Span l46)])) (h : ev_ref05_Misses_j9 n b30 i47 i40 i31 k_ref05_Misses_l5 l53 b54 b55 l56 l57 l58 = some r) : TC Try.prog ⟨w0, fun _ => False, R0⟩ 170 (bodyPost Try.prog Try.f25 (Post ⟨w0, fun _ => False, R0⟩ env0 (.tup [.val (.int .i64 r.1), .ref 0, .val (.bool r.2.2)]) [.row 0 3 1 (List.map en_int r.2.1)])) [.code (sub (bodyOf Try.f25) [1, 1, 1, 1, 0, 1, 0, 0, 1, 0, 0, 1, 1, 1, 1, 0, 1, 0, 0, 1, 0, 0, 1, 1, 1, 0]), .code (sub (bodyOf Try.f25) [1, 1, 1, 1, 0, 1, 0, 0, 1, 0, 0, 1, 1, 1, 1, 0, 1, 0, 0, 1, 0, 0, 1, 1, 1, 1]), .inBlock 7, .code (sub (bodyOf Try.f25) [1, 1, 1, 1, 0, 1, 0, 0, 1, 0, 0, 1, 1, 1, 1, 0, 1, 0, 0, 1, 1]), .inLoop (sub (bodyOf Try.f25) [1, 1, 1, 1, 0, 1, 0, 0, 1, 0, 0, 1, 1, 1, 1, 0, 1, 0, 0]), .inBlock 6, .code (sub (bodyOf Try.f25) [1, 1, 1, 1, 0, 1, 0, 0, 1, 0, 0, 1, 1, 1, 1, 1]), .inBlock 3, .code (sub (bodyOf Try.f25) [1, 1, 1, 1, 0, 1, 0, 0, 1, 1]), .inLoop (sub (bodyOf Try.f25) [1, 1, 1, 1, 0, 1, 0, 0]), .inBlock 2, .code (sub (bodyOf Try.f25) [1, 1, 1, 1, 1])] ([(1, .ref 1), (2, .ptr 2 0), (7, .val (.int .i64 r5)), (8, .val (.int .i64 i29)), (9, .ref 3), (11, .val (.int .i64 i21)), (12, .val (.bool b30)), (13, .val (.int .i64 i31)), (14, .ref 4), (16, .val (.int .i64 i40)), (18, .val (.int .i64 i47))]) ([.ro 1 2 (List.map en_api_StrikeHeard l53), .blk 2 [.val (.bool b54), .val (.bool b55), .ref 0] 24, .row 3 3 1 (List.map en_int l56), .row 4 3 1 (List.map en_int l57), .ro 0 2 (List.map en_api_Span l58)]) := by
  rw [ev_ref05_Misses_j9] at h
  refine TC.region ?_
  refine op0 (sp_move rfl rfl) rfl trivial rfl rfl ?_
  refine op0 (sp_not rfl rfl) rfl trivial rfl rfl ?_
  refine op0 (sp_move rfl rfl) rfl trivial rfl rfl ?_
  rcases cond_cases h with ⟨h52, h⟩ | ⟨h52, h⟩
  · refine (boolLit 121 rfl h52).2 ?_
    refine opSkip rfl ⟨_, rfl, .inl rfl⟩ rfl ?_
    refine opSkip rfl ⟨_, rfl, .inl rfl⟩ rfl ?_
    refine op0 (sp_pickT rfl rfl rfl) rfl trivial rfl rfl ?_
    refine TL.nil ?_
    refine TC.condT rfl ?_
    obtain ⟨x59, h53, h54, h⟩ := idx_inv h
    obtain ⟨x60, h55, h56, h⟩ := idx_inv h
    obtain ⟨h57, h⟩ := chk_inv h
    refine drawJ 12 [⟨.ref 4, [], [], []⟩, ⟨.val (.int .i64 i47), [], [], []⟩, ⟨.ref 4, [], [], []⟩, ⟨.val (.int .i64 i47), [], [], []⟩, ⟨.cell 4 ((i47 : Int).toNat * 1), [], [.row 4 3 1 (List.map en_int l57)], []⟩, ⟨.val (.int .i64 x59), [], [.row 4 3 1 (List.map en_int l57)], []⟩, ⟨.ref 3, [], [], []⟩, ⟨.val (.int .i64 i40), [], [], []⟩, ⟨.cell 3 ((i40 : Int).toNat * 1), [], [.row 3 3 1 (List.map en_int l56)], []⟩, ⟨.val (.int .i64 x60), [], [.row 3 3 1 (List.map en_int l56)], []⟩, ⟨.val (.int .i64 (x60 + 1)), [], [], []⟩, ⟨.val (.int .i64 (min x59 (x60 + 1))), [], [], []⟩] rfl ?_ rfl ?_ rfl ?_ ?_
    · kernel_rfl
    · kernel_rfl
    · exact DAll.op' (sp_move rfl rfl) trivial rfl (From.ok (ps := []) trivial) (DAll.op' (sp_move rfl rfl) trivial rfl (From.ok (ps := []) trivial) (DAll.op' (sp_move rfl rfl) trivial rfl (From.ok (ps := []) trivial) (DAll.op' (sp_move rfl rfl) trivial rfl (From.ok (ps := []) trivial) (DAll.op' (sp_indexS rfl rfl rfl isOwn sl39 h53 (map_get _ h54)) trivial rfl (From.ok (ps := [(none, 3)]) ⟨⟨rfl, rfl⟩, trivial⟩) (DAll.op' (sp_loadR (i := (i47 : Int).toNat) (j := 0) rfl rfl isOwn vt3 rfl (map_get _ h54) rfl (.v (.nil)) (nodup_of_B rfl)) trivial rfl (From.ok (ps := [(none, 3)]) ⟨⟨rfl, rfl⟩, trivial⟩) (DAll.op' (sp_move rfl rfl) trivial rfl (From.ok (ps := []) trivial) (DAll.op' (sp_move rfl rfl) trivial rfl (From.ok (ps := []) trivial) (DAll.op' (sp_indexS rfl rfl rfl isOwn sl39 h55 (map_get _ h56)) trivial rfl (From.ok (ps := [(none, 2)]) ⟨⟨rfl, rfl⟩, trivial⟩) (DAll.op' (sp_loadR (i := (i40 : Int).toNat) (j := 0) rfl rfl isOwn vt3 rfl (map_get _ h56) rfl (.v (.nil)) (nodup_of_B rfl)) trivial rfl (From.ok (ps := [(none, 2)]) ⟨⟨rfl, rfl⟩, trivial⟩) (DAll.op' (sp_add rfl rfl rfl h57) trivial rfl (From.ok (ps := []) trivial) (DAll.op' (sp_min rfl rfl rfl) trivial rfl (From.ok (ps := []) trivial) (.nil))))))))))))
    refine op1 3 rfl (sp_indexS rfl rfl rfl isOwn sl39 h53 (map_get _ h54)) rfl trivial rfl rfl ?_
    refine stoR 3 ((i47 : Int).toNat) 0 (need := []) [] rfl rfl trivial rfl rfl rfl rfl vt3 rfl rfl (map_get _ h54) rfl rfl trivial (.v (.nil)) (map_set l57 en_int ((i47 : Int).toNat) (min x59 (x60 + 1))) ?_
    refine TL.nil ?_
    refine TC.inBlock ?_
    refine TC.region ?_
    refine op0 (sp_move rfl rfl) rfl trivial rfl rfl ?_
    obtain ⟨h58, h⟩ := chk_inv h
    refine op0 (sp_add rfl rfl rfl h58) rfl trivial rfl rfl ?_
    refine op0 (sp_assign rfl rfl) rfl trivial rfl rfl ?_
    refine TL.nil ?_
    refine TC.inLoop ?_
    refine TC.seq ?_
    refine TC.seq ?_
    refine subJ [] (hk_ref05_Misses_l5 _ _ _ _ _ _ _ h) ?_ ?_ ?_
    · exact ⟨rfl, rfl, rfl, rfl, rfl, rfl, rfl, rfl, rfl, rfl, trivial⟩
    · exact ⟨mem_at 0 rfl, mem_at 1 rfl, mem_at 2 rfl, mem_at 3 rfl, mem_at 4 rfl, trivial⟩
    · rfl
  · refine (boolLit 121 rfl h52).2 ?_
    refine op0 (sp_move rfl rfl) rfl ⟨_, rfl, rfl⟩ rfl rfl ?_
    refine op0 (sp_eql rfl rfl rfl) rfl ⟨_, rfl, rfl⟩ rfl rfl ?_
    refine op0 (sp_pickF rfl rfl rfl) rfl trivial rfl rfl ?_
    refine TL.nil ?_
    refine TC.cond (b := (i31 == 0)) rfl (fun h59 => ?_) (fun h59 => ?_)
    · have h := cond_t h h59
      obtain ⟨x61, h60, h61, h⟩ := idx_inv h
      obtain ⟨x62, h62, h63, h⟩ := idx_inv h
      obtain ⟨h64, h⟩ := chk_inv h
      refine drawJ 12 [⟨.ref 4, [], [], []⟩, ⟨.val (.int .i64 i47), [], [], []⟩, ⟨.ref 4, [], [], []⟩, ⟨.val (.int .i64 i47), [], [], []⟩, ⟨.cell 4 ((i47 : Int).toNat * 1), [], [.row 4 3 1 (List.map en_int l57)], []⟩, ⟨.val (.int .i64 x61), [], [.row 4 3 1 (List.map en_int l57)], []⟩, ⟨.ref 3, [], [], []⟩, ⟨.val (.int .i64 i40), [], [], []⟩, ⟨.cell 3 ((i40 : Int).toNat * 1), [], [.row 3 3 1 (List.map en_int l56)], []⟩, ⟨.val (.int .i64 x62), [], [.row 3 3 1 (List.map en_int l56)], []⟩, ⟨.val (.int .i64 (x62 + 1)), [], [], []⟩, ⟨.val (.int .i64 (min x61 (x62 + 1))), [], [], []⟩] rfl ?_ rfl ?_ rfl ?_ ?_
      · kernel_rfl
      · kernel_rfl
      · exact DAll.op' (sp_move rfl rfl) trivial rfl (From.ok (ps := []) trivial) (DAll.op' (sp_move rfl rfl) trivial rfl (From.ok (ps := []) trivial) (DAll.op' (sp_move rfl rfl) trivial rfl (From.ok (ps := []) trivial) (DAll.op' (sp_move rfl rfl) trivial rfl (From.ok (ps := []) trivial) (DAll.op' (sp_indexS rfl rfl rfl isOwn sl39 h60 (map_get _ h61)) trivial rfl (From.ok (ps := [(none, 3)]) ⟨⟨rfl, rfl⟩, trivial⟩) (DAll.op' (sp_loadR (i := (i47 : Int).toNat) (j := 0) rfl rfl isOwn vt3 rfl (map_get _ h61) rfl (.v (.nil)) (nodup_of_B rfl)) trivial rfl (From.ok (ps := [(none, 3)]) ⟨⟨rfl, rfl⟩, trivial⟩) (DAll.op' (sp_move rfl rfl) trivial rfl (From.ok (ps := []) trivial) (DAll.op' (sp_move rfl rfl) trivial rfl (From.ok (ps := []) trivial) (DAll.op' (sp_indexS rfl rfl rfl isOwn sl39 h62 (map_get _ h63)) trivial rfl (From.ok (ps := [(none, 2)]) ⟨⟨rfl, rfl⟩, trivial⟩) (DAll.op' (sp_loadR (i := (i40 : Int).toNat) (j := 0) rfl rfl isOwn vt3 rfl (map_get _ h63) rfl (.v (.nil)) (nodup_of_B rfl)) trivial rfl (From.ok (ps := [(none, 2)]) ⟨⟨rfl, rfl⟩, trivial⟩) (DAll.op' (sp_add rfl rfl rfl h64) trivial rfl (From.ok (ps := []) trivial) (DAll.op' (sp_min rfl rfl rfl) trivial rfl (From.ok (ps := []) trivial) (.nil))))))))))))
      refine op1 3 rfl (sp_indexS rfl rfl rfl isOwn sl39 h60 (map_get _ h61)) rfl trivial rfl rfl ?_
      refine stoR 3 ((i47 : Int).toNat) 0 (need := []) [] rfl rfl trivial rfl rfl rfl rfl vt3 rfl rfl (map_get _ h61) rfl rfl trivial (.v (.nil)) (map_set l57 en_int ((i47 : Int).toNat) (min x61 (x62 + 1))) ?_
      refine TL.nil ?_
      refine TC.inBlock ?_
      refine TC.region ?_
      refine op0 (sp_move rfl rfl) rfl trivial rfl rfl ?_
      obtain ⟨h65, h⟩ := chk_inv h
      refine op0 (sp_add rfl rfl rfl h65) rfl trivial rfl rfl ?_
      refine op0 (sp_assign rfl rfl) rfl trivial rfl rfl ?_
      refine TL.nil ?_
      refine TC.inLoop ?_
      refine TC.seq ?_
      refine TC.seq ?_
      refine subJ [] (hk_ref05_Misses_l5 _ _ _ _ _ _ _ h) ?_ ?_ ?_
      · exact ⟨rfl, rfl, rfl, rfl, rfl, rfl, rfl, rfl, rfl, rfl, trivial⟩
      · exact ⟨mem_at 0 rfl, mem_at 1 rfl, mem_at 2 rfl, mem_at 3 rfl, mem_at 4 rfl, trivial⟩
      · rfl
    · have h := cond_f h h59
      refine TC.skip ?_
      refine TC.inBlock ?_
      refine TC.region ?_
      refine op0 (sp_move rfl rfl) rfl trivial rfl rfl ?_
      obtain ⟨h66, h⟩ := chk_inv h
      refine op0 (sp_add rfl rfl rfl h66) rfl trivial rfl rfl ?_
      refine op0 (sp_assign rfl rfl) rfl trivial rfl rfl ?_
      refine TL.nil ?_
      refine TC.inLoop ?_
      refine TC.seq ?_
      refine TC.seq ?_
      refine subJ [] (hk_ref05_Misses_l5 _ _ _ _ _ _ _ h) ?_ ?_ ?_
      · exact ⟨rfl, rfl, rfl, rfl, rfl, rfl, rfl, rfl, rfl, rfl, trivial⟩
      · exact ⟨mem_at 0 rfl, mem_at 1 rfl, mem_at 2 rfl, mem_at 3 rfl, mem_at 4 rfl, trivial⟩
      · rfl
def ev_ref05_Misses_j8 (n : Nat) (b30 : Bool) (i47 : Int) (i40 : Int) (i31 : Int) (l41 : List (Int × Int)) (b42 : Bool) (b43 : Bool) (l44 : List Int) (l45 : List Int) (l46 : List (Int × Int)) (k_ref05_Misses_l5 : Int → (List (Int × Int)) → Bool → Bool → (List Int) → (List Int) → (List (Int × Int)) → Option (Int × (List Int) × Bool)) : Option (Int × (List Int) × Bool) :=
  ev_ref05_Misses_j9 n b30 i47 i40 i31 k_ref05_Misses_l5 l41 b42 b43 l44 l45 l46
set_option maxRecDepth 100000 in
set_option maxHeartbeats 2000000 in
theorem ok_ref05_Misses_j8 {n : Nat} {w0 : World} {R0 : Nat → Prop} {env0 : Env} {r : Int × (List Int) × Bool} {r5 : Int} {i29 : Int} {i21 : Int} {b30 : Bool} {i31 : Int} {i47 : Int} {i40 : Int} {l41 : List (Int × Int)} {b42 : Bool} {b43 : Bool} {l44 : List Int} {l45 : List Int} {l46 : List (Int × Int)} {k_ref05_Misses_l5 : Int → (List (Int × Int)) → Bool → Bool → (List Int) → (List Int) → (List (Int × Int)) → Option (Int × (List Int) × Bool)} (hk_ref05_Misses_l5 : ∀ (i40 : Int) (l41 : List (Int × Int)) (b42 : Bool) (b43 : Bool) (l44 : List Int) (l45 : List Int) (l46 : List (Int × Int)), k_ref05_Misses_l5 i40 l41 b42 b43 l44 l45 l46 = some r → TC Try.prog ⟨w0, fun _ => False, R0⟩ 170 (bodyPost Try.prog Try.f25 (Post ⟨w0, fun _ => False, R0⟩ env0 (.tup [.val (.int .i64 r.1), .ref 0, .val (.bool r.2.2)]) [.row 0 3 1 (List.map en_int r.2.1)])) [.code (sub (bodyOf Try.f25) [1, 1, 1, 1, 0, 1, 0, 0, 1, 0, 0, 1, 1, 1, 1, 0, 1, 0, 0, 0, 0]), .code (sub (bodyOf Try.f25) [1, 1, 1, 1, 0, 1, 0, 0, 1, 0, 0, 1, 1, 1, 1, 0, 1, 0, 0, 0, 1]), .code (sub (bodyOf Try.f25) [1, 1, 1, 1, 0, 1, 0, 0, 1, 0, 0, 1, 1, 1, 1, 0, 1, 0, 0, 1]), .inLoop (sub (bodyOf Try.f25) [1, 1, 1, 1, 0, 1, 0, 0, 1, 0, 0, 1, 1, 1, 1, 0, 1, 0, 0]), .inBlock 6, .code (sub (bodyOf Try.f25) [1, 1, 1, 1, 0, 1, 0, 0, 1, 0, 0, 1, 1, 1, 1, 1]), .inBlock 3, .code (sub (bodyOf Try.f25) [1, 1, 1, 1, 0, 1, 0, 0, 1, 1]), .inLoop (sub (bodyOf Try.f25) [1, 1, 1, 1, 0, 1, 0, 0]), .inBlock 2, .code (sub (bodyOf Try.f25) [1, 1, 1, 1, 1])] ([(1, .ref 1), (2, .ptr 2 0), (7, .val (.int .i64 r5)), (8, .val (.int .i64 i29)), (9, .ref 3), (11, .val (.int .i64 i21)), (12, .val (.bool b30)), (13, .val (.int .i64 i31)), (14, .ref 4), (16, .val (.int .i64 i40))]) ([.ro 1 2 (List.map en_api_StrikeHeard l41), .blk 2 [.val (.bool b42), .val (.bool b43), .ref 0] 24, .row 3 3 1 (List.map en_int l44), .row 4 3 1 (List.map en_int l45), .ro 0 2 (List.map en_api_Span l46)])) (h : ev_ref05_Misses_j8 n b30 i47 i40 i31 l41 b42 b43 l44 l45 l46 k_ref05_Misses_l5 = some r) : TC Try.prog ⟨w0, fun _ => False, R0⟩ 170 (bodyPost Try.prog Try.f25 (Post ⟨w0, fun _ => False, R0⟩ env0 (.tup [.val (.int .i64 r.1), .ref 0, .val (.bool r.2.2)]) [.row 0 3 1 (List.map en_int r.2.1)])) [.code (sub (bodyOf Try.f25) [1, 1, 1, 1, 0, 1, 0, 0, 1, 0, 0, 1, 1, 1, 1, 0, 1, 0, 0, 1, 0, 0, 1, 1, 0, 1, 1]), .code (sub (bodyOf Try.f25) [1, 1, 1, 1, 0, 1, 0, 0, 1, 0, 0, 1, 1, 1, 1, 0, 1, 0, 0, 1, 0, 0, 1, 1, 1]), .inBlock 7, .code (sub (bodyOf Try.f25) [1, 1, 1, 1, 0, 1, 0, 0, 1, 0, 0, 1, 1, 1, 1, 0, 1, 0, 0, 1, 1]), .inLoop (sub (bodyOf Try.f25) [1, 1, 1, 1, 0, 1, 0, 0, 1, 0, 0, 1, 1, 1, 1, 0, 1, 0, 0]), .inBlock 6, .code (sub (bodyOf Try.f25) [1, 1, 1, 1, 0, 1, 0, 0, 1, 0, 0, 1, 1, 1, 1, 1]), .inBlock 3, .code (sub (bodyOf Try.f25) [1, 1, 1, 1, 0, 1, 0, 0, 1, 1]), .inLoop (sub (bodyOf Try.f25) [1, 1, 1, 1, 0, 1, 0, 0]), .inBlock 2, .code (sub (bodyOf Try.f25) [1, 1, 1, 1, 1])] ([(1, .ref 1), (2, .ptr 2 0), (7, .val (.int .i64 r5)), (8, .val (.int .i64 i29)), (9, .ref 3), (11, .val (.int .i64 i21)), (12, .val (.bool b30)), (13, .val (.int .i64 i31)), (14, .ref 4), (16, .val (.int .i64 i40)), (18, .val (.int .i64 i47))]) ([.ro 1 2 (List.map en_api_StrikeHeard l41), .blk 2 [.val (.bool b42), .val (.bool b43), .ref 0] 24, .row 3 3 1 (List.map en_int l44), .row 4 3 1 (List.map en_int l45), .ro 0 2 (List.map en_api_Span l46)]) := by
  rw [ev_ref05_Misses_j8] at h
  refine TC.skip ?_
  refine TC.seq ?_
  refine subJ [] (ok_ref05_Misses_j9 (r5 := r5) (i29 := i29) (i21 := i21) hk_ref05_Misses_l5 h) ?_ ?_ ?_
  · exact ⟨rfl, rfl, rfl, rfl, rfl, rfl, rfl, rfl, rfl, rfl, rfl, trivial⟩
  · exact ⟨mem_at 0 rfl, mem_at 1 rfl, mem_at 2 rfl, mem_at 3 rfl, mem_at 4 rfl, trivial⟩
  · rfl
def ev_ref05_Misses_j6 (n : Nat) (b30 : Bool) (l45 : List Int) (i40 : Int) (r5 : Int) (l44 : List Int) (l41 : List (Int × Int)) (b42 : Bool) (b43 : Bool) (l46 : List (Int × Int)) (i31 : Int) (i21 : Int) (k_ref05_Misses_l5 : Int → (List (Int × Int)) → Bool → Bool → (List Int) → (List Int) → (List (Int × Int)) → Option (Int × (List Int) × Bool)) (i47 : Int) : Option (Int × (List Int) × Bool) :=
  cond (!b30) (ev_ref05_Misses_j7 n l45 i40 r5 l44 b30 i47 l41 b42 b43 l46 i31 k_ref05_Misses_l5) ((ev_ref05_Blows n b42 b43 l46 i21 i40).bind fun r52 => cond (i31 == r52) (ev_ref05_Misses_j7 n l45 i40 r5 l44 b30 i47 l41 b42 b43 l46 i31 k_ref05_Misses_l5) (ev_ref05_Misses_j8 n b30 i47 i40 i31 l41 b42 b43 l44 l45 l46 k_ref05_Misses_l5))
set_option maxRecDepth 100000 in
set_option maxHeartbeats 2000000 in
theorem ok_ref05_Misses_j6 {n : Nat} {w0 : World} {R0 : Nat → Prop} {env0 : Env} {r : Int × (List Int) × Bool} {r5 : Int} {i29 : Int} {i21 : Int} {b30 : Bool} {i31 : Int} {l45 : List Int} {i40 : Int} {l44 : List Int} {l41 : List (Int × Int)} {b42 : Bool} {b43 : Bool} {l46 : List (Int × Int)} {k_ref05_Misses_l5 : Int → (List (Int × Int)) → Bool → Bool → (List Int) → (List Int) → (List (Int × Int)) → Option (Int × (List Int) × Bool)} {i47 : Int} (hk_ref05_Misses_l5 : ∀ (i40 : Int) (l41 : List (Int × Int)) (b42 : Bool) (b43 : Bool) (l44 : List Int) (l45 : List Int) (l46 : List (Int × Int)), k_ref05_Misses_l5 i40 l41 b42 b43 l44 l45 l46 = some r → TC Try.prog ⟨w0, fun _ => False, R0⟩ 170 (bodyPost Try.prog Try.f25 (Post ⟨w0, fun _ => False, R0⟩ env0 (.tup [.val (.int .i64 r.1), .ref 0, .val (.bool r.2.2)]) [.row 0 3 1 (List.map en_int r.2.1)])) [.code (sub (bodyOf Try.f25) [1, 1, 1, 1, 0, 1, 0, 0, 1, 0, 0, 1, 1, 1, 1, 0, 1, 0, 0, 0, 0]), .code (sub (bodyOf Try.f25) [1, 1, 1, 1, 0, 1, 0, 0, 1, 0, 0, 1, 1, 1, 1, 0, 1, 0, 0, 0, 1]), .code (sub (bodyOf Try.f25) [1, 1, 1, 1, 0, 1, 0, 0, 1, 0, 0, 1, 1, 1, 1, 0, 1, 0, 0, 1]), .inLoop (sub (bodyOf Try.f25) [1, 1, 1, 1, 0, 1, 0, 0, 1, 0, 0, 1, 1, 1, 1, 0, 1, 0, 0]), .inBlock 6, .code (sub (bodyOf Try.f25) [1, 1, 1, 1, 0, 1, 0, 0, 1, 0, 0, 1, 1, 1, 1, 1]), .inBlock 3, .code (sub (bodyOf Try.f25) [1, 1, 1, 1, 0, 1, 0, 0, 1, 1]), .inLoop (sub (bodyOf Try.f25) [1, 1, 1, 1, 0, 1, 0, 0]), .inBlock 2, .code (sub (bodyOf Try.f25) [1, 1, 1, 1, 1])] ([(1, .ref 1), (2, .ptr 2 0), (7, .val (.int .i64 r5)), (8, .val (.int .i64 i29)), (9, .ref 3), (11, .val (.int .i64 i21)), (12, .val (.bool b30)), (13, .val (.int .i64 i31)), (14, .ref 4), (16, .val (.int .i64 i40))]) ([.ro 1 2 (List.map en_api_StrikeHeard l41), .blk 2 [.val (.bool b42), .val (.bool b43), .ref 0] 24, .row 3 3 1 (List.map en_int l44), .row 4 3 1 (List.map en_int l45), .ro 0 2 (List.map en_api_Span l46)])) (h : ev_ref05_Misses_j6 n b30 l45 i40 r5 l44 l41 b42 b43 l46 i31 i21 k_ref05_Misses_l5 i47 = some r) : TC Try.prog ⟨w0, fun _ => False, R0⟩ 170 (bodyPost Try.prog Try.f25 (Post ⟨w0, fun _ => False, R0⟩ env0 (.tup [.val (.int .i64 r.1), .ref 0, .val (.bool r.2.2)]) [.row 0 3 1 (List.map en_int r.2.1)])) [.code (sub (bodyOf Try.f25) [1, 1, 1, 1, 0, 1, 0, 0, 1, 0, 0, 1, 1, 1, 1, 0, 1, 0, 0, 1, 0, 0, 1, 1, 0, 0]), .code (sub (bodyOf Try.f25) [1, 1, 1, 1, 0, 1, 0, 0, 1, 0, 0, 1, 1, 1, 1, 0, 1, 0, 0, 1, 0, 0, 1, 1, 0, 1]), .code (sub (bodyOf Try.f25) [1, 1, 1, 1, 0, 1, 0, 0, 1, 0, 0, 1, 1, 1, 1, 0, 1, 0, 0, 1, 0, 0, 1, 1, 1]), .inBlock 7, .code (sub (bodyOf Try.f25) [1, 1, 1, 1, 0, 1, 0, 0, 1, 0, 0, 1, 1, 1, 1, 0, 1, 0, 0, 1, 1]), .inLoop (sub (bodyOf Try.f25) [1, 1, 1, 1, 0, 1, 0, 0, 1, 0, 0, 1, 1, 1, 1, 0, 1, 0, 0]), .inBlock 6, .code (sub (bodyOf Try.f25) [1, 1, 1, 1, 0, 1, 0, 0, 1, 0, 0, 1, 1, 1, 1, 1]), .inBlock 3, .code (sub (bodyOf Try.f25) [1, 1, 1, 1, 0, 1, 0, 0, 1, 1]), .inLoop (sub (bodyOf Try.f25) [1, 1, 1, 1, 0, 1, 0, 0]), .inBlock 2, .code (sub (bodyOf Try.f25) [1, 1, 1, 1, 1])] ([(1, .ref 1), (2, .ptr 2 0), (7, .val (.int .i64 r5)), (8, .val (.int .i64 i29)), (9, .ref 3), (11, .val (.int .i64 i21)), (12, .val (.bool b30)), (13, .val (.int .i64 i31)), (14, .ref 4), (16, .val (.int .i64 i40)), (17, .val (.int .i64 (Int.tmod (i40 + 1) r5))), (18, .val (.int .i64 i47))]) ([.ro 1 2 (List.map en_api_StrikeHeard l41), .blk 2 [.val (.bool b42), .val (.bool b43), .ref 0] 24, .row 3 3 1 (List.map en_int l44), .row 4 3 1 (List.map en_int l45), .ro 0 2 (List.map en_api_Span l46)]) := by
  rw [ev_ref05_Misses_j6] at h
  refine TC.region ?_
  refine op0 (sp_move rfl rfl) rfl trivial rfl rfl ?_
  refine op0 (sp_not rfl rfl) rfl trivial rfl rfl ?_
  refine op0 (sp_move rfl rfl) rfl trivial rfl rfl ?_
  rcases cond_cases h with ⟨h34, h⟩ | ⟨h34, h⟩
  · refine (boolLit 99 rfl h34).2 ?_
    refine opSkip rfl ⟨_, rfl, .inl rfl⟩ rfl ?_
    refine opSkip rfl ⟨_, rfl, .inl rfl⟩ rfl ?_
    refine opSkip rfl ⟨_, rfl, .inl rfl⟩ rfl ?_
    refine opSkip rfl ⟨_, rfl, .inl rfl⟩ rfl ?_
    refine opSkip rfl ⟨_, rfl, .inl rfl⟩ rfl ?_
    refine opSkip rfl ⟨_, rfl, .inl rfl⟩ rfl ?_
    refine op0 (sp_pickT rfl rfl rfl) rfl trivial rfl rfl ?_
    refine TL.nil ?_
    refine TC.condT rfl ?_
    refine subJ [] (ok_ref05_Misses_j7 (i29 := i29) (i21 := i21) hk_ref05_Misses_l5 h) ?_ ?_ ?_
    · exact ⟨rfl, rfl, rfl, rfl, rfl, rfl, rfl, rfl, rfl, rfl, rfl, rfl, trivial⟩
    · exact ⟨mem_at 0 rfl, mem_at 1 rfl, mem_at 2 rfl, mem_at 3 rfl, mem_at 4 rfl, trivial⟩
    · rfl
  · refine (boolLit 99 rfl h34).2 ?_
    refine op0 (sp_move rfl rfl) rfl ⟨_, rfl, rfl⟩ rfl rfl ?_
    refine op1 1 rfl (sp_loadBA rfl isBlk rfl vt24 rfl rfl) rfl ⟨_, rfl, rfl⟩ rfl rfl ?_
    refine op0 (sp_move rfl rfl) rfl ⟨_, rfl, rfl⟩ rfl rfl ?_
    refine op0 (sp_move rfl rfl) rfl ⟨_, rfl, rfl⟩ rfl rfl ?_
    obtain ⟨r52, h50, h⟩ := bind_inv h
    refine op1 4 rfl (sp_call (avs := [.agg [.val (.bool b42), .val (.bool b43), .ref 0], .val (.int .i64 i21), .val (.int .i64 i40)]) (need := [.ro 0 2 (List.map en_api_Span l46)]) (v := .val (.int .i64 r52)) (news := []) rfl rfl rfl Try.call20 (atJ [] [] (fc_ref05_Blows h50) rfl rfl) (.inl (roAll rfl))) rfl ⟨_, rfl, rfl⟩ rfl rfl ?_
    refine op0 (sp_eql rfl rfl rfl) rfl ⟨_, rfl, rfl⟩ rfl rfl ?_
    refine op0 (sp_pickF rfl rfl rfl) rfl trivial rfl rfl ?_
    refine TL.nil ?_
    refine TC.cond (b := (i31 == r52)) rfl (fun h51 => ?_) (fun h51 => ?_)
    · have h := cond_t h h51
      refine subJ [] (ok_ref05_Misses_j7 (i29 := i29) (i21 := i21) hk_ref05_Misses_l5 h) ?_ ?_ ?_
      · exact ⟨rfl, rfl, rfl, rfl, rfl, rfl, rfl, rfl, rfl, rfl, rfl, rfl, trivial⟩
      · exact ⟨mem_at 0 rfl, mem_at 1 rfl, mem_at 2 rfl, mem_at 3 rfl, mem_at 4 rfl, trivial⟩
      · rfl
    · have h := cond_f h h51
      refine subJ [] (ok_ref05_Misses_j8 (r5 := r5) (i29 := i29) (i21 := i21) hk_ref05_Misses_l5 h) ?_ ?_ ?_
      · exact ⟨rfl, rfl, rfl, rfl, rfl, rfl, rfl, rfl, rfl, rfl, rfl, trivial⟩
      · exact ⟨mem_at 0 rfl, mem_at 1 rfl, mem_at 2 rfl, mem_at 3 rfl, mem_at 4 rfl, trivial⟩
      · rfl
def ev_ref05_Misses_l5 (n : Nat) (r5 : Int) (b30 : Bool) (i31 : Int) (i21 : Int) (i29 : Int) (k_ref05_Misses_l2 : Int → Int → (List (Int × Int)) → Bool → Bool → (List Int) → (List (Int × Int)) → Option (Int × (List Int) × Bool)) : Nat → Int → (List (Int × Int)) → Bool → Bool → (List Int) → (List Int) → (List (Int × Int)) → Option (Int × (List Int) × Bool)
  | 0, _, _, _, _, _, _, _ => none
  | m + 1, i40, l41, b42, b43, l44, l45, l46 => cond (decide (i40 < r5)) (chk (in64 (i40 + 1)) <| chk (r5 != 0) <| cond b43 (ev_ref05_Misses_j6 n b30 l45 i40 r5 l44 l41 b42 b43 l46 i31 i21 (fun i40q l41q b42q b43q l44q l45q l46q => ev_ref05_Misses_l5 n r5 b30 i31 i21 i29 k_ref05_Misses_l2 m i40q l41q b42q b43q l44q l45q l46q) (Int.tmod (i40 + 1) r5)) (ev_ref05_Misses_j6 n b30 l45 i40 r5 l44 l41 b42 b43 l46 i31 i21 (fun i40q l41q b42q b43q l44q l45q l46q => ev_ref05_Misses_l5 n r5 b30 i31 i21 i29 k_ref05_Misses_l2 m i40q l41q b42q b43q l44q l45q l46q) i40)) (chk (in64 (i21 + 1)) <| k_ref05_Misses_l2 i29 (i21 + 1) l41 b42 b43 l45 l46)
set_option maxRecDepth 100000 in
set_option maxHeartbeats 2000000 in
theorem ok_ref05_Misses_l5 {n : Nat} {w0 : World} {R0 : Nat → Prop} {env0 : Env} {r : Int × (List Int) × Bool} {r5 : Int} {i29 : Int} {b30 : Bool} {i31 : Int} {i21 : Int} {k_ref05_Misses_l2 : Int → Int → (List (Int × Int)) → Bool → Bool → (List Int) → (List (Int × Int)) → Option (Int × (List Int) × Bool)} (hk_ref05_Misses_l2 : ∀ (i20 : Int) (i21 : Int) (l22 : List (Int × Int)) (b23 : Bool) (b24 : Bool) (l25 : List Int) (l26 : List (Int × Int)), k_ref05_Misses_l2 i20 i21 l22 b23 b24 l25 l26 = some r → TC Try.prog ⟨w0, fun _ => False, R0⟩ 170 (bodyPost Try.prog Try.f25 (Post ⟨w0, fun _ => False, R0⟩ env0 (.tup [.val (.int .i64 r.1), .ref 0, .val (.bool r.2.2)]) [.row 0 3 1 (List.map en_int r.2.1)])) [.code (sub (bodyOf Try.f25) [1, 1, 1, 1, 0, 1, 0, 0, 0, 0]), .code (sub (bodyOf Try.f25) [1, 1, 1, 1, 0, 1, 0, 0, 0, 1]), .code (sub (bodyOf Try.f25) [1, 1, 1, 1, 0, 1, 0, 0, 1]), .inLoop (sub (bodyOf Try.f25) [1, 1, 1, 1, 0, 1, 0, 0]), .inBlock 2, .code (sub (bodyOf Try.f25) [1, 1, 1, 1, 1])] ([(1, .ref 1), (2, .ptr 2 0), (7, .val (.int .i64 r5)), (8, .val (.int .i64 i20)), (9, .ref 3), (11, .val (.int .i64 i21))]) ([.ro 1 2 (List.map en_api_StrikeHeard l22), .blk 2 [.val (.bool b23), .val (.bool b24), .ref 0] 24, .row 3 3 1 (List.map en_int l25), .ro 0 2 (List.map en_api_Span l26)])) : ∀ (m : Nat) (i40 : Int) (l41 : List (Int × Int)) (b42 : Bool) (b43 : Bool) (l44 : List Int) (l45 : List Int) (l46 : List (Int × Int)), ev_ref05_Misses_l5 n r5 b30 i31 i21 i29 k_ref05_Misses_l2 m i40 l41 b42 b43 l44 l45 l46 = some r → TC Try.prog ⟨w0, fun _ => False, R0⟩ 170 (bodyPost Try.prog Try.f25 (Post ⟨w0, fun _ => False, R0⟩ env0 (.tup [.val (.int .i64 r.1), .ref 0, .val (.bool r.2.2)]) [.row 0 3 1 (List.map en_int r.2.1)])) [.code (sub (bodyOf Try.f25) [1, 1, 1, 1, 0, 1, 0, 0, 1, 0, 0, 1, 1, 1, 1, 0, 1, 0, 0, 0, 0]), .code (sub (bodyOf Try.f25) [1, 1, 1, 1, 0, 1, 0, 0, 1, 0, 0, 1, 1, 1, 1, 0, 1, 0, 0, 0, 1]), .code (sub (bodyOf Try.f25) [1, 1, 1, 1, 0, 1, 0, 0, 1, 0, 0, 1, 1, 1, 1, 0, 1, 0, 0, 1]), .inLoop (sub (bodyOf Try.f25) [1, 1, 1, 1, 0, 1, 0, 0, 1, 0, 0, 1, 1, 1, 1, 0, 1, 0, 0]), .inBlock 6, .code (sub (bodyOf Try.f25) [1, 1, 1, 1, 0, 1, 0, 0, 1, 0, 0, 1, 1, 1, 1, 1]), .inBlock 3, .code (sub (bodyOf Try.f25) [1, 1, 1, 1, 0, 1, 0, 0, 1, 1]), .inLoop (sub (bodyOf Try.f25) [1, 1, 1, 1, 0, 1, 0, 0]), .inBlock 2, .code (sub (bodyOf Try.f25) [1, 1, 1, 1, 1])] ([(1, .ref 1), (2, .ptr 2 0), (7, .val (.int .i64 r5)), (8, .val (.int .i64 i29)), (9, .ref 3), (11, .val (.int .i64 i21)), (12, .val (.bool b30)), (13, .val (.int .i64 i31)), (14, .ref 4), (16, .val (.int .i64 i40))]) ([.ro 1 2 (List.map en_api_StrikeHeard l41), .blk 2 [.val (.bool b42), .val (.bool b43), .ref 0] 24, .row 3 3 1 (List.map en_int l44), .row 4 3 1 (List.map en_int l45), .ro 0 2 (List.map en_api_Span l46)]) := by
  intro m
  induction m with
  | zero => intro i40 l41 b42 b43 l44 l45 l46 h; exact none_no h
  | succ m ih =>
    intro i40 l41 b42 b43 l44 l45 l46 h
    rw [ev_ref05_Misses_l5] at h
    refine TC.region ?_
    refine op0 (sp_move rfl rfl) rfl trivial rfl rfl ?_
    refine op0 (sp_move rfl rfl) rfl trivial rfl rfl ?_
    refine op0 (sp_lss rfl rfl rfl) rfl trivial rfl rfl ?_
    refine TL.nil ?_
    refine TC.cond (b := (decide (i40 < r5))) rfl (fun h30 => ?_) (fun h30 => ?_)
    · have h := cond_t h h30
      refine TC.skip ?_
      refine TC.seq ?_
      refine TC.block ?_
      refine TC.seq ?_
      refine TC.region ?_
      refine op0 (sp_move rfl rfl) rfl trivial rfl rfl ?_
      obtain ⟨h31, h⟩ := chk_inv h
      refine op0 (sp_add rfl rfl rfl h31) rfl trivial rfl rfl ?_
      refine op0 (sp_move rfl rfl) rfl trivial rfl rfl ?_
      obtain ⟨h32, h⟩ := chk_inv h
      refine op0 (sp_rem rfl rfl rfl h32) rfl trivial rfl rfl ?_
      refine op0 (sp_move rfl rfl) rfl trivial rfl rfl ?_
      refine op0 (sp_assign rfl rfl) rfl trivial rfl rfl ?_
      refine op0 (sp_assign rfl rfl) rfl trivial rfl rfl ?_
      refine TL.nil ?_
      refine TC.seq ?_
      refine TC.seq ?_
      refine TC.region ?_
      refine op1 1 rfl (sp_fieldAddrB rfl isBlk rfl ft24_1 vt4 (by decide)) rfl trivial rfl rfl ?_
      refine op1 1 rfl (sp_loadB rfl isBlk rfl vt4 rfl) rfl trivial rfl rfl ?_
      refine TL.nil ?_
      refine TC.cond (b := b43) rfl (fun h33 => ?_) (fun h33 => ?_)
      · have h := cond_t h h33
        refine TC.region ?_
        refine op0 (sp_move rfl rfl) rfl trivial rfl rfl ?_
        refine op0 (sp_assign rfl rfl) rfl trivial rfl rfl ?_
        refine TL.nil ?_
        refine TC.seq ?_
        refine TC.seq ?_
        refine subJ [] (ok_ref05_Misses_j6 (i29 := i29) ih h) ?_ ?_ ?_
        · exact ⟨rfl, rfl, rfl, rfl, rfl, rfl, rfl, rfl, rfl, rfl, rfl, rfl, trivial⟩
        · exact ⟨mem_at 0 rfl, mem_at 1 rfl, mem_at 2 rfl, mem_at 3 rfl, mem_at 4 rfl, trivial⟩
        · rfl
      · have h := cond_f h h33
        refine TC.skip ?_
        refine TC.seq ?_
        refine TC.seq ?_
        refine subJ [] (ok_ref05_Misses_j6 (i29 := i29) ih h) ?_ ?_ ?_
        · exact ⟨rfl, rfl, rfl, rfl, rfl, rfl, rfl, rfl, rfl, rfl, rfl, rfl, trivial⟩
        · exact ⟨mem_at 0 rfl, mem_at 1 rfl, mem_at 2 rfl, mem_at 3 rfl, mem_at 4 rfl, trivial⟩
        · rfl
    · have h := cond_f h h30
      refine TC.exit rfl ?_
      refine TC.region ?_
      refine op0 (sp_move rfl rfl) rfl trivial rfl rfl ?_
      refine op0 (sp_assign rfl rfl) rfl trivial rfl rfl ?_
      refine TL.nil ?_
      refine TC.inBlock ?_
      refine TC.region ?_
      refine op0 (sp_move rfl rfl) rfl trivial rfl rfl ?_
      obtain ⟨h67, h⟩ := chk_inv h
      refine op0 (sp_add rfl rfl rfl h67) rfl trivial rfl rfl ?_
      refine op0 (sp_assign rfl rfl) rfl trivial rfl rfl ?_
      refine TL.nil ?_
      refine TC.inLoop ?_
      refine TC.seq ?_
      refine TC.seq ?_
      refine subJ [(3, 4)] (hk_ref05_Misses_l2 _ _ _ _ _ _ _ h) ?_ ?_ ?_
      · exact ⟨rfl, rfl, rfl, rfl, rfl, rfl, trivial⟩
      · exact ⟨mem_at 0 rfl, mem_at 1 rfl, mem_at 3 rfl, mem_at 4 rfl, trivial⟩
      · rfl
def ev_ref05_Misses_l4 (n : Nat) (r5 : Int) (b30 : Bool) (i31 : Int) (i21 : Int) (i29 : Int) (k_ref05_Misses_l2 : Int → Int → (List (Int × Int)) → Bool → Bool → (List Int) → (List (Int × Int)) → Option (Int × (List Int) × Bool)) : Nat → Int → (List (Int × Int)) → Bool → Bool → (List Int) → (List Int) → (List (Int × Int)) → Option (Int × (List Int) × Bool)
  | 0, _, _, _, _, _, _, _ => none
  | m + 1, i32, l33, b34, b35, l36, l37, l38 => cond (decide (i32 < r5)) (idx l37 i32 fun x39 => chk (in64 (i32 + 1)) <| ev_ref05_Misses_l4 n r5 b30 i31 i21 i29 k_ref05_Misses_l2 m (i32 + 1) l33 b34 b35 l36 (List.set l37 (i32 : Int).toNat 1000000) l38) (ev_ref05_Misses_l5 n r5 b30 i31 i21 i29 k_ref05_Misses_l2 n 0 l33 b34 b35 l36 l37 l38)
set_option maxRecDepth 100000 in
set_option maxHeartbeats 2000000 in
theorem ok_ref05_Misses_l4 {n : Nat} {w0 : World} {R0 : Nat → Prop} {env0 : Env} {r : Int × (List Int) × Bool} {r5 : Int} {i29 : Int} {b30 : Bool} {i31 : Int} {i21 : Int} {k_ref05_Misses_l2 : Int → Int → (List (Int × Int)) → Bool → Bool → (List Int) → (List (Int × Int)) → Option (Int × (List Int) × Bool)} (hk_ref05_Misses_l2 : ∀ (i20 : Int) (i21 : Int) (l22 : List (Int × Int)) (b23 : Bool) (b24 : Bool) (l25 : List Int) (l26 : List (Int × Int)), k_ref05_Misses_l2 i20 i21 l22 b23 b24 l25 l26 = some r → TC Try.prog ⟨w0, fun _ => False, R0⟩ 170 (bodyPost Try.prog Try.f25 (Post ⟨w0, fun _ => False, R0⟩ env0 (.tup [.val (.int .i64 r.1), .ref 0, .val (.bool r.2.2)]) [.row 0 3 1 (List.map en_int r.2.1)])) [.code (sub (bodyOf Try.f25) [1, 1, 1, 1, 0, 1, 0, 0, 0, 0]), .code (sub (bodyOf Try.f25) [1, 1, 1, 1, 0, 1, 0, 0, 0, 1]), .code (sub (bodyOf Try.f25) [1, 1, 1, 1, 0, 1, 0, 0, 1]), .inLoop (sub (bodyOf Try.f25) [1, 1, 1, 1, 0, 1, 0, 0]), .inBlock 2, .code (sub (bodyOf Try.f25) [1, 1, 1, 1, 1])] ([(1, .ref 1), (2, .ptr 2 0), (7, .val (.int .i64 r5)), (8, .val (.int .i64 i20)), (9, .ref 3), (11, .val (.int .i64 i21))]) ([.ro 1 2 (List.map en_api_StrikeHeard l22), .blk 2 [.val (.bool b23), .val (.bool b24), .ref 0] 24, .row 3 3 1 (List.map en_int l25), .ro 0 2 (List.map en_api_Span l26)])) : ∀ (m : Nat) (i32 : Int) (l33 : List (Int × Int)) (b34 : Bool) (b35 : Bool) (l36 : List Int) (l37 : List Int) (l38 : List (Int × Int)), ev_ref05_Misses_l4 n r5 b30 i31 i21 i29 k_ref05_Misses_l2 m i32 l33 b34 b35 l36 l37 l38 = some r → TC Try.prog ⟨w0, fun _ => False, R0⟩ 170 (bodyPost Try.prog Try.f25 (Post ⟨w0, fun _ => False, R0⟩ env0 (.tup [.val (.int .i64 r.1), .ref 0, .val (.bool r.2.2)]) [.row 0 3 1 (List.map en_int r.2.1)])) [.code (sub (bodyOf Try.f25) [1, 1, 1, 1, 0, 1, 0, 0, 1, 0, 0, 1, 1, 1, 0, 1, 0, 0, 0, 0]), .code (sub (bodyOf Try.f25) [1, 1, 1, 1, 0, 1, 0, 0, 1, 0, 0, 1, 1, 1, 0, 1, 0, 0, 0, 1]), .code (sub (bodyOf Try.f25) [1, 1, 1, 1, 0, 1, 0, 0, 1, 0, 0, 1, 1, 1, 0, 1, 0, 0, 1]), .inLoop (sub (bodyOf Try.f25) [1, 1, 1, 1, 0, 1, 0, 0, 1, 0, 0, 1, 1, 1, 0, 1, 0, 0]), .inBlock 4, .code (sub (bodyOf Try.f25) [1, 1, 1, 1, 0, 1, 0, 0, 1, 0, 0, 1, 1, 1, 1]), .inBlock 3, .code (sub (bodyOf Try.f25) [1, 1, 1, 1, 0, 1, 0, 0, 1, 1]), .inLoop (sub (bodyOf Try.f25) [1, 1, 1, 1, 0, 1, 0, 0]), .inBlock 2, .code (sub (bodyOf Try.f25) [1, 1, 1, 1, 1])] ([(1, .ref 1), (2, .ptr 2 0), (7, .val (.int .i64 r5)), (8, .val (.int .i64 i29)), (9, .ref 3), (11, .val (.int .i64 i21)), (12, .val (.bool b30)), (13, .val (.int .i64 i31)), (14, .ref 4), (15, .val (.int .i64 i32))]) ([.ro 1 2 (List.map en_api_StrikeHeard l33), .blk 2 [.val (.bool b34), .val (.bool b35), .ref 0] 24, .row 3 3 1 (List.map en_int l36), .row 4 3 1 (List.map en_int l37), .ro 0 2 (List.map en_api_Span l38)]) := by
  intro m
  induction m with
  | zero => intro i32 l33 b34 b35 l36 l37 l38 h; exact none_no h
  | succ m ih =>
    intro i32 l33 b34 b35 l36 l37 l38 h
    rw [ev_ref05_Misses_l4] at h
    refine TC.region ?_
    refine op0 (sp_move rfl rfl) rfl trivial rfl rfl ?_
    refine op0 (sp_move rfl rfl) rfl trivial rfl rfl ?_
    refine op0 (sp_lss rfl rfl rfl) rfl trivial rfl rfl ?_
    refine TL.nil ?_
    refine TC.cond (b := (decide (i32 < r5))) rfl (fun h26 => ?_) (fun h26 => ?_)
    · have h := cond_t h h26
      refine TC.skip ?_
      refine TC.seq ?_
      refine TC.block ?_
      refine TC.region ?_
      refine op0 (sp_move rfl rfl) rfl trivial rfl rfl ?_
      refine op0 (sp_move rfl rfl) rfl trivial rfl rfl ?_
      obtain ⟨x39, h27, h28, h⟩ := idx_inv h
      refine op1 3 rfl (sp_indexS rfl rfl rfl isOwn sl39 h27 (map_get _ h28)) rfl trivial rfl rfl ?_
      refine stoR 3 ((i32 : Int).toNat) 0 (need := []) [] rfl rfl trivial rfl rfl rfl rfl vt3 rfl rfl (map_get _ h28) rfl rfl trivial (.v (.nil)) (map_set l37 en_int ((i32 : Int).toNat) 1000000) ?_
      refine TL.nil ?_
      refine TC.inBlock ?_
      refine TC.region ?_
      refine op0 (sp_move rfl rfl) rfl trivial rfl rfl ?_
      obtain ⟨h29, h⟩ := chk_inv h
      refine op0 (sp_add rfl rfl rfl h29) rfl trivial rfl rfl ?_
      refine op0 (sp_assign rfl rfl) rfl trivial rfl rfl ?_
      refine TL.nil ?_
      refine TC.inLoop ?_
      refine TC.seq ?_
      refine TC.seq ?_
      refine subJ [] (ih _ _ _ _ _ _ _ h) ?_ ?_ ?_
      · exact ⟨rfl, rfl, rfl, rfl, rfl, rfl, rfl, rfl, rfl, rfl, trivial⟩
      · exact ⟨mem_at 0 rfl, mem_at 1 rfl, mem_at 2 rfl, mem_at 3 rfl, mem_at 4 rfl, trivial⟩
      · rfl
    · have h := cond_f h h26
      refine TC.exit rfl ?_
      refine TC.seq ?_
      refine TC.seq ?_
      refine TC.region ?_
      refine op0 (sp_assign rfl rfl) rfl trivial rfl rfl ?_
      refine TL.nil ?_
      refine TC.block ?_
      refine TC.loop ?_
      refine TC.seq ?_
      refine TC.seq ?_
      refine subJ [] (ok_ref05_Misses_l5 hk_ref05_Misses_l2 _ _ _ _ _ _ _ _ h) ?_ ?_ ?_
      · exact ⟨rfl, rfl, rfl, rfl, rfl, rfl, rfl, rfl, rfl, rfl, trivial⟩
      · exact ⟨mem_at 0 rfl, mem_at 1 rfl, mem_at 2 rfl, mem_at 3 rfl, mem_at 4 rfl, trivial⟩
      · rfl
def ev_ref05_Misses_j3 (n : Nat) (r5 : Int) (i21 : Int) (l22 : List (Int × Int)) (b23 : Bool) (b24 : Bool) (l25 : List Int) (l26 : List (Int × Int)) (k_ref05_Misses_l2 : Int → Int → (List (Int × Int)) → Bool → Bool → (List Int) → (List (Int × Int)) → Option (Int × (List Int) × Bool)) (i29 : Int) (b30 : Bool) (i31 : Int) : Option (Int × (List Int) × Bool) :=
  chk (decide (0 ≤ r5)) <| chk (room 8 (r5).toNat) <| ev_ref05_Misses_l4 n r5 b30 i31 i21 i29 k_ref05_Misses_l2 n 0 l22 b23 b24 l25 (List.replicate (r5).toNat (0 : Int)) l26
set_option maxRecDepth 100000 in
set_option maxHeartbeats 2000000 in
theorem ok_ref05_Misses_j3 {n : Nat} {w0 : World} {R0 : Nat → Prop} {env0 : Env} {r : Int × (List Int) × Bool} {r5 : Int} {i21 : Int} {l22 : List (Int × Int)} {b23 : Bool} {b24 : Bool} {l25 : List Int} {l26 : List (Int × Int)} {k_ref05_Misses_l2 : Int → Int → (List (Int × Int)) → Bool → Bool → (List Int) → (List (Int × Int)) → Option (Int × (List Int) × Bool)} {i29 : Int} {b30 : Bool} {i31 : Int} (hk_ref05_Misses_l2 : ∀ (i20 : Int) (i21 : Int) (l22 : List (Int × Int)) (b23 : Bool) (b24 : Bool) (l25 : List Int) (l26 : List (Int × Int)), k_ref05_Misses_l2 i20 i21 l22 b23 b24 l25 l26 = some r → TC Try.prog ⟨w0, fun _ => False, R0⟩ 170 (bodyPost Try.prog Try.f25 (Post ⟨w0, fun _ => False, R0⟩ env0 (.tup [.val (.int .i64 r.1), .ref 0, .val (.bool r.2.2)]) [.row 0 3 1 (List.map en_int r.2.1)])) [.code (sub (bodyOf Try.f25) [1, 1, 1, 1, 0, 1, 0, 0, 0, 0]), .code (sub (bodyOf Try.f25) [1, 1, 1, 1, 0, 1, 0, 0, 0, 1]), .code (sub (bodyOf Try.f25) [1, 1, 1, 1, 0, 1, 0, 0, 1]), .inLoop (sub (bodyOf Try.f25) [1, 1, 1, 1, 0, 1, 0, 0]), .inBlock 2, .code (sub (bodyOf Try.f25) [1, 1, 1, 1, 1])] ([(1, .ref 1), (2, .ptr 2 0), (7, .val (.int .i64 r5)), (8, .val (.int .i64 i20)), (9, .ref 3), (11, .val (.int .i64 i21))]) ([.ro 1 2 (List.map en_api_StrikeHeard l22), .blk 2 [.val (.bool b23), .val (.bool b24), .ref 0] 24, .row 3 3 1 (List.map en_int l25), .ro 0 2 (List.map en_api_Span l26)])) (h : ev_ref05_Misses_j3 n r5 i21 l22 b23 b24 l25 l26 k_ref05_Misses_l2 i29 b30 i31 = some r) : TC Try.prog ⟨w0, fun _ => False, R0⟩ 170 (bodyPost Try.prog Try.f25 (Post ⟨w0, fun _ => False, R0⟩ env0 (.tup [.val (.int .i64 r.1), .ref 0, .val (.bool r.2.2)]) [.row 0 3 1 (List.map en_int r.2.1)])) [.code (sub (bodyOf Try.f25) [1, 1, 1, 1, 0, 1, 0, 0, 1, 0, 0, 1, 1, 0]), .code (sub (bodyOf Try.f25) [1, 1, 1, 1, 0, 1, 0, 0, 1, 0, 0, 1, 1, 1]), .inBlock 3, .code (sub (bodyOf Try.f25) [1, 1, 1, 1, 0, 1, 0, 0, 1, 1]), .inLoop (sub (bodyOf Try.f25) [1, 1, 1, 1, 0, 1, 0, 0]), .inBlock 2, .code (sub (bodyOf Try.f25) [1, 1, 1, 1, 1])] ([(1, .ref 1), (2, .ptr 2 0), (7, .val (.int .i64 r5)), (8, .val (.int .i64 i29)), (9, .ref 3), (11, .val (.int .i64 i21)), (12, .val (.bool b30)), (13, .val (.int .i64 i31))]) ([.ro 1 2 (List.map en_api_StrikeHeard l22), .blk 2 [.val (.bool b23), .val (.bool b24), .ref 0] 24, .row 3 3 1 (List.map en_int l25), .ro 0 2 (List.map en_api_Span l26)]) := by
  rw [ev_ref05_Misses_j3] at h
  refine TC.region ?_
  refine op0 (sp_move rfl rfl) rfl trivial rfl rfl ?_
  obtain ⟨h24, h⟩ := chk_inv h
  obtain ⟨h25, h⟩ := chk_inv h
  refine op0 (sp_makeSlice 4 rfl rfl rfl sl39 h24 h25 Try.zeroValue3 rfl (rep_map _ _ en_int rfl)) rfl trivial rfl rfl ?_
  refine op0 (sp_assign rfl rfl) rfl trivial rfl rfl ?_
  refine TL.nil ?_
  refine TC.seq ?_
  refine TC.seq ?_
  refine TC.region ?_
  refine op0 (sp_assign rfl rfl) rfl trivial rfl rfl ?_
  refine TL.nil ?_
  refine TC.block ?_
  refine TC.loop ?_
  refine TC.seq ?_
  refine TC.seq ?_
  refine subJ [] (ok_ref05_Misses_l4 hk_ref05_Misses_l2 _ _ _ _ _ _ _ _ h) ?_ ?_ ?_
  · exact ⟨rfl, rfl, rfl, rfl, rfl, rfl, rfl, rfl, rfl, rfl, trivial⟩
  · exact ⟨mem_at 1 rfl, mem_at 2 rfl, mem_at 3 rfl, mem_at 0 rfl, mem_at 4 rfl, trivial⟩
  · rfl
def ev_ref05_Misses_l11 (n : Nat) (r5 : Int) (i63 : Int) : Nat → Int → (List Int) → (List Int) → Option (Int × (List Int) × Bool)
  | 0, _, _, _ => none
  | m + 1, i66, l67, l68 => cond (decide (i66 < r5)) (idx l67 i66 fun x69 => cond (x69 == i63) (chk (room 8 (l68.length + ([i66] : List Int).length)) <| chk (in64 (i66 + 1)) <| ev_ref05_Misses_l11 n r5 i63 m (i66 + 1) l67 (l68 ++ ([i66] : List Int))) (chk (in64 (i66 + 1)) <| ev_ref05_Misses_l11 n r5 i63 m (i66 + 1) l67 l68)) (some (i63, l68, (decide (i63 < 1000000))))
set_option maxRecDepth 100000 in
set_option maxHeartbeats 2000000 in
theorem ok_ref05_Misses_l11 {n : Nat} {w0 : World} {R0 : Nat → Prop} {env0 : Env} {r : Int × (List Int) × Bool} {i64 : Int} {r5 : Int} {i63 : Int} : ∀ (m : Nat) (i66 : Int) (l67 : List Int) (l68 : List Int), ev_ref05_Misses_l11 n r5 i63 m i66 l67 l68 = some r → TC Try.prog ⟨w0, fun _ => False, R0⟩ 170 (bodyPost Try.prog Try.f25 (Post ⟨w0, fun _ => False, R0⟩ env0 (.tup [.val (.int .i64 r.1), .ref 0, .val (.bool r.2.2)]) [.row 0 3 1 (List.map en_int r.2.1)])) [.code (sub (bodyOf Try.f25) [1, 1, 1, 1, 1, 1, 1, 0, 1, 0, 0, 0, 0]), .code (sub (bodyOf Try.f25) [1, 1, 1, 1, 1, 1, 1, 0, 1, 0, 0, 0, 1]), .code (sub (bodyOf Try.f25) [1, 1, 1, 1, 1, 1, 1, 0, 1, 0, 0, 1]), .inLoop (sub (bodyOf Try.f25) [1, 1, 1, 1, 1, 1, 1, 0, 1, 0, 0]), .inBlock 10, .code (sub (bodyOf Try.f25) [1, 1, 1, 1, 1, 1, 1, 1])] ([(7, .val (.int .i64 r5)), (9, .ref 3), (19, .val (.int .i64 i63)), (20, .ref 5), (22, .val (.int .i64 i66))]) ([.row 3 3 1 (List.map en_int l67), .row 5 3 1 (List.map en_int l68)]) := by
  intro m
  induction m with
  | zero => intro i66 l67 l68 h; exact none_no h
  | succ m ih =>
    intro i66 l67 l68 h
    rw [ev_ref05_Misses_l11] at h
    refine TC.region ?_
    refine op0 (sp_move rfl rfl) rfl trivial rfl rfl ?_
    refine op0 (sp_move rfl rfl) rfl trivial rfl rfl ?_
    refine op0 (sp_lss rfl rfl rfl) rfl trivial rfl rfl ?_
    refine TL.nil ?_
    refine TC.cond (b := (decide (i66 < r5))) rfl (fun h72 => ?_) (fun h72 => ?_)
    · have h := cond_t h h72
      refine TC.skip ?_
      refine TC.seq ?_
      refine TC.block ?_
      refine TC.seq ?_
      refine TC.region ?_
      refine op0 (sp_move rfl rfl) rfl trivial rfl rfl ?_
      refine op0 (sp_move rfl rfl) rfl trivial rfl rfl ?_
      obtain ⟨x69, h73, h74, h⟩ := idx_inv h
      refine op1 0 rfl (sp_indexS rfl rfl rfl isOwn sl39 h73 (map_get _ h74)) rfl trivial rfl rfl ?_
      refine op1 0 rfl (sp_loadR (i := (i66 : Int).toNat) (j := 0) rfl rfl isOwn vt3 rfl (map_get _ h74) rfl (.v (.nil)) (nodup_of_B rfl)) rfl trivial rfl rfl ?_
      refine op0 (sp_move rfl rfl) rfl trivial rfl rfl ?_
      refine op0 (sp_eql rfl rfl rfl) rfl trivial rfl rfl ?_
      refine TL.nil ?_
      refine TC.cond (b := (x69 == i63)) rfl (fun h75 => ?_) (fun h75 => ?_)
      · have h := cond_t h h75
        refine TC.region ?_
        refine op0 (sp_move rfl rfl) rfl trivial rfl rfl ?_
        refine op0 (sp_move rfl rfl) rfl trivial rfl rfl ?_
        refine op0 (sp_buildSlice (qs := [.val (.int .i64 i66)]) (need := []) (els := List.map en_int ([i66] : List Int)) 6 rfl sl39 (by decide) (by decide) rfl rfl rfl (.v (.nil)) (map_len fun _ => rfl) rfl rfl rfl) rfl trivial rfl rfl ?_
        obtain ⟨h76, h⟩ := chk_inv h
        refine appM 2 0 (N := l68.length) (N2 := ([i66] : List Int).length) 7 rfl rfl trivial rfl rfl rfl rfl rfl isOwn rfl sl39 (len_map _ _) (len_map _ _) h76 (map_app _ _ _) rfl ?_
        refine op0 (sp_assign rfl rfl) rfl trivial rfl rfl ?_
        refine TL.nil ?_
        refine TC.inBlock ?_
        refine TC.region ?_
        refine op0 (sp_move rfl rfl) rfl trivial rfl rfl ?_
        obtain ⟨h77, h⟩ := chk_inv h
        refine op0 (sp_add rfl rfl rfl h77) rfl trivial rfl rfl ?_
        refine op0 (sp_assign rfl rfl) rfl trivial rfl rfl ?_
        refine TL.nil ?_
        refine TC.inLoop ?_
        refine TC.seq ?_
        refine TC.seq ?_
        refine subJ [(5, 7)] (ih _ _ _ h) ?_ ?_ ?_
        · exact ⟨rfl, rfl, rfl, rfl, rfl, trivial⟩
        · exact ⟨mem_at 2 rfl, mem_at 0 rfl, trivial⟩
        · rfl
      · have h := cond_f h h75
        refine TC.skip ?_
        refine TC.inBlock ?_
        refine TC.region ?_
        refine op0 (sp_move rfl rfl) rfl trivial rfl rfl ?_
        obtain ⟨h78, h⟩ := chk_inv h
        refine op0 (sp_add rfl rfl rfl h78) rfl trivial rfl rfl ?_
        refine op0 (sp_assign rfl rfl) rfl trivial rfl rfl ?_
        refine TL.nil ?_
        refine TC.inLoop ?_
        refine TC.seq ?_
        refine TC.seq ?_
        refine subJ [] (ih _ _ _ h) ?_ ?_ ?_
        · exact ⟨rfl, rfl, rfl, rfl, rfl, trivial⟩
        · exact ⟨mem_at 0 rfl, mem_at 1 rfl, trivial⟩
        · rfl
    · have h := cond_f h h72
      refine TC.exit rfl ?_
      refine TC.seq ?_
      refine TC.region ?_
      refine op0 (sp_move rfl rfl) rfl trivial rfl rfl ?_
      refine op0 (sp_move rfl rfl) rfl trivial rfl rfl ?_
      refine op0 (sp_move rfl rfl) rfl trivial rfl rfl ?_
      refine op0 (sp_lss rfl rfl rfl) rfl trivial rfl rfl ?_
      refine op0 (sp_assign rfl rfl) rfl trivial rfl rfl ?_
      refine op0 (sp_assign rfl rfl) rfl trivial rfl rfl ?_
      refine op0 (sp_assign rfl rfl) rfl trivial rfl rfl ?_
      refine TL.nil ?_
      cases h
      exact retJ [(0, 5)] (.tmp rfl (.tmp rfl (.tmp rfl .nil))) rfl ⟨mem_at 1 rfl, trivial⟩ rfl rfl
def ev_ref05_Misses_l10 (n : Nat) (r5 : Int) (l25 : List Int) : Nat → Int → Int → Option (Int × (List Int) × Bool)
  | 0, _, _ => none
  | m + 1, i63, i64 => cond (decide (i64 < r5)) (idx l25 i64 fun x65 => chk (in64 (i64 + 1)) <| ev_ref05_Misses_l10 n r5 l25 m (min i63 x65) (i64 + 1)) (ev_ref05_Misses_l11 n r5 i63 n 0 l25 ([] : List Int))
set_option maxRecDepth 100000 in
set_option maxHeartbeats 2000000 in
theorem ok_ref05_Misses_l10 {n : Nat} {w0 : World} {R0 : Nat → Prop} {env0 : Env} {r : Int × (List Int) × Bool} {r5 : Int} {l25 : List Int} : ∀ (m : Nat) (i63 : Int) (i64 : Int), ev_ref05_Misses_l10 n r5 l25 m i63 i64 = some r → TC Try.prog ⟨w0, fun _ => False, R0⟩ 170 (bodyPost Try.prog Try.f25 (Post ⟨w0, fun _ => False, R0⟩ env0 (.tup [.val (.int .i64 r.1), .ref 0, .val (.bool r.2.2)]) [.row 0 3 1 (List.map en_int r.2.1)])) [.code (sub (bodyOf Try.f25) [1, 1, 1, 1, 1, 1, 0, 1, 0, 0, 0, 0]), .code (sub (bodyOf Try.f25) [1, 1, 1, 1, 1, 1, 0, 1, 0, 0, 0, 1]), .code (sub (bodyOf Try.f25) [1, 1, 1, 1, 1, 1, 0, 1, 0, 0, 1]), .inLoop (sub (bodyOf Try.f25) [1, 1, 1, 1, 1, 1, 0, 1, 0, 0]), .inBlock 8, .code (sub (bodyOf Try.f25) [1, 1, 1, 1, 1, 1, 1])] ([(7, .val (.int .i64 r5)), (9, .ref 3), (19, .val (.int .i64 i63)), (20, .ref 5), (21, .val (.int .i64 i64))]) ([.row 3 3 1 (List.map en_int l25), .row 5 3 1 (List.map en_int ([] : List Int))]) := by
  intro m
  induction m with
  | zero => intro i63 i64 h; exact none_no h
  | succ m ih =>
    intro i63 i64 h
    rw [ev_ref05_Misses_l10] at h
    refine TC.region ?_
    refine op0 (sp_move rfl rfl) rfl trivial rfl rfl ?_
    refine op0 (sp_move rfl rfl) rfl trivial rfl rfl ?_
    refine op0 (sp_lss rfl rfl rfl) rfl trivial rfl rfl ?_
    refine TL.nil ?_
    refine TC.cond (b := (decide (i64 < r5))) rfl (fun h68 => ?_) (fun h68 => ?_)
    · have h := cond_t h h68
      refine TC.skip ?_
      refine TC.seq ?_
      refine TC.block ?_
      refine TC.region ?_
      refine op0 (sp_move rfl rfl) rfl trivial rfl rfl ?_
      refine op0 (sp_move rfl rfl) rfl trivial rfl rfl ?_
      refine op0 (sp_move rfl rfl) rfl trivial rfl rfl ?_
      obtain ⟨x65, h69, h70, h⟩ := idx_inv h
      refine op1 0 rfl (sp_indexS rfl rfl rfl isOwn sl39 h69 (map_get _ h70)) rfl trivial rfl rfl ?_
      refine op1 0 rfl (sp_loadR (i := (i64 : Int).toNat) (j := 0) rfl rfl isOwn vt3 rfl (map_get _ h70) rfl (.v (.nil)) (nodup_of_B rfl)) rfl trivial rfl rfl ?_
      refine op0 (sp_min rfl rfl rfl) rfl trivial rfl rfl ?_
      refine op0 (sp_assign rfl rfl) rfl trivial rfl rfl ?_
      refine TL.nil ?_
      refine TC.inBlock ?_
      refine TC.region ?_
      refine op0 (sp_move rfl rfl) rfl trivial rfl rfl ?_
      obtain ⟨h71, h⟩ := chk_inv h
      refine op0 (sp_add rfl rfl rfl h71) rfl trivial rfl rfl ?_
      refine op0 (sp_assign rfl rfl) rfl trivial rfl rfl ?_
      refine TL.nil ?_
      refine TC.inLoop ?_
      refine TC.seq ?_
      refine TC.seq ?_
      refine subJ [] (ih _ _ h) ?_ ?_ ?_
      · exact ⟨rfl, rfl, rfl, rfl, rfl, trivial⟩
      · exact ⟨mem_at 0 rfl, mem_at 1 rfl, trivial⟩
      · rfl
    · have h := cond_f h h68
      refine TC.exit rfl ?_
      refine TC.seq ?_
      refine TC.seq ?_
      refine TC.region ?_
      refine op0 (sp_assign rfl rfl) rfl trivial rfl rfl ?_
      refine TL.nil ?_
      refine TC.block ?_
      refine TC.loop ?_
      refine TC.seq ?_
      refine TC.seq ?_
      refine subJ [] (ok_ref05_Misses_l11 (i64 := i64) _ _ _ _ h) ?_ ?_ ?_
      · exact ⟨rfl, rfl, rfl, rfl, rfl, trivial⟩
      · exact ⟨mem_at 0 rfl, mem_at 1 rfl, trivial⟩
      · rfl
def ev_ref05_Misses_l2 (n : Nat) (r5 : Int) : Nat → Int → Int → (List (Int × Int)) → Bool → Bool → (List Int) → (List (Int × Int)) → Option (Int × (List Int) × Bool)
  | 0, _, _, _, _, _, _, _ => none
  | m + 1, i20, i21, l22, b23, b24, l25, l26 => chk (in64 ((l22.length : Int) - 1)) <| idx l22 ((l22.length : Int) - 1) fun x27 => cond (decide (i21 ≤ x27.1)) (idx l22 i20 fun x28 => cond (x28.1 == i21) (chk (in64 (i20 + 1)) <| ev_ref05_Misses_j3 n r5 i21 l22 b23 b24 l25 l26 (fun i20q i21q l22q b23q b24q l25q l26q => ev_ref05_Misses_l2 n r5 m i20q i21q l22q b23q b24q l25q l26q) (i20 + 1) true x28.2) (ev_ref05_Misses_j3 n r5 i21 l22 b23 b24 l25 l26 (fun i20q i21q l22q b23q b24q l25q l26q => ev_ref05_Misses_l2 n r5 m i20q i21q l22q b23q b24q l25q l26q) i20 false 0)) (ev_ref05_Misses_l10 n r5 l25 n 1000000 0)
set_option maxRecDepth 100000 in
set_option maxHeartbeats 2000000 in
theorem ok_ref05_Misses_l2 {n : Nat} {w0 : World} {R0 : Nat → Prop} {env0 : Env} {r : Int × (List Int) × Bool} {r5 : Int} : ∀ (m : Nat) (i20 : Int) (i21 : Int) (l22 : List (Int × Int)) (b23 : Bool) (b24 : Bool) (l25 : List Int) (l26 : List (Int × Int)), ev_ref05_Misses_l2 n r5 m i20 i21 l22 b23 b24 l25 l26 = some r → TC Try.prog ⟨w0, fun _ => False, R0⟩ 170 (bodyPost Try.prog Try.f25 (Post ⟨w0, fun _ => False, R0⟩ env0 (.tup [.val (.int .i64 r.1), .ref 0, .val (.bool r.2.2)]) [.row 0 3 1 (List.map en_int r.2.1)])) [.code (sub (bodyOf Try.f25) [1, 1, 1, 1, 0, 1, 0, 0, 0, 0]), .code (sub (bodyOf Try.f25) [1, 1, 1, 1, 0, 1, 0, 0, 0, 1]), .code (sub (bodyOf Try.f25) [1, 1, 1, 1, 0, 1, 0, 0, 1]), .inLoop (sub (bodyOf Try.f25) [1, 1, 1, 1, 0, 1, 0, 0]), .inBlock 2, .code (sub (bodyOf Try.f25) [1, 1, 1, 1, 1])] ([(1, .ref 1), (2, .ptr 2 0), (7, .val (.int .i64 r5)), (8, .val (.int .i64 i20)), (9, .ref 3), (11, .val (.int .i64 i21))]) ([.ro 1 2 (List.map en_api_StrikeHeard l22), .blk 2 [.val (.bool b23), .val (.bool b24), .ref 0] 24, .row 3 3 1 (List.map en_int l25), .ro 0 2 (List.map en_api_Span l26)]) := by
  intro m
  induction m with
  | zero => intro i20 i21 l22 b23 b24 l25 l26 h; exact none_no h
  | succ m ih =>
    intro i20 i21 l22 b23 b24 l25 l26 h
    rw [ev_ref05_Misses_l2] at h
    refine TC.region ?_
    refine op0 (sp_move rfl rfl) rfl trivial rfl rfl ?_
    refine op0 (sp_move rfl rfl) rfl trivial rfl rfl ?_
    refine op0 (sp_move rfl rfl) rfl trivial rfl rfl ?_
    refine op1 0 rfl (sp_lenM (N := l22.length) (len_map _ _) rfl rfl isRo Try.underlying37) rfl trivial rfl rfl ?_
    obtain ⟨h16, h⟩ := chk_inv h
    refine op0 (sp_sub rfl rfl rfl h16) rfl trivial rfl rfl ?_
    obtain ⟨x27, h17, h18, h⟩ := idx_inv h
    refine op1 0 rfl (sp_indexS rfl rfl rfl isRo sl37 h17 (map_get _ h18)) rfl trivial rfl rfl ?_
    refine op1 0 rfl (sp_fieldAddrR (i := (((l22.length : Int) - 1) : Int).toNat) rfl rfl isRo ft43_0 vt3 (by decide) (map_get _ h18) (fun h => nomatch h)) rfl trivial rfl rfl ?_
    refine op1 0 rfl (sp_loadR (i := (((l22.length : Int) - 1) : Int).toNat) (j := 0) rfl rfl isRo vt3 rfl (map_get _ h18) rfl (.v (.nil)) (nodup_of_B rfl)) rfl trivial rfl rfl ?_
    refine op0 (sp_leq rfl rfl rfl) rfl trivial rfl rfl ?_
    refine TL.nil ?_
    refine TC.cond (b := (decide (i21 ≤ x27.1))) rfl (fun h19 => ?_) (fun h19 => ?_)
    · have h := cond_t h h19
      refine TC.skip ?_
      refine TC.seq ?_
      refine TC.block ?_
      refine TC.seq ?_
      refine TC.region ?_
      refine op0 (sp_assign rfl rfl) rfl trivial rfl rfl ?_
      refine op0 (sp_assign rfl rfl) rfl trivial rfl rfl ?_
      refine TL.nil ?_
      refine TC.seq ?_
      refine TC.seq ?_
      refine TC.region ?_
      refine op0 (sp_move rfl rfl) rfl trivial rfl rfl ?_
      refine op0 (sp_move rfl rfl) rfl trivial rfl rfl ?_
      obtain ⟨x28, h20, h21, h⟩ := idx_inv h
      refine op1 0 rfl (sp_indexS rfl rfl rfl isRo sl37 h20 (map_get _ h21)) rfl trivial rfl rfl ?_
      refine op1 0 rfl (sp_fieldAddrR (i := (i20 : Int).toNat) rfl rfl isRo ft43_0 vt3 (by decide) (map_get _ h21) (fun h => nomatch h)) rfl trivial rfl rfl ?_
      refine op1 0 rfl (sp_loadR (i := (i20 : Int).toNat) (j := 0) rfl rfl isRo vt3 rfl (map_get _ h21) rfl (.v (.nil)) (nodup_of_B rfl)) rfl trivial rfl rfl ?_
      refine op0 (sp_move rfl rfl) rfl trivial rfl rfl ?_
      refine op0 (sp_eql rfl rfl rfl) rfl trivial rfl rfl ?_
      refine TL.nil ?_
      refine TC.cond (b := (x28.1 == i21)) rfl (fun h22 => ?_) (fun h22 => ?_)
      · have h := cond_t h h22
        refine TC.seq ?_
        refine drawJ 6 [⟨.ref 1, [], [], []⟩, ⟨.val (.int .i64 i20), [], [], []⟩, ⟨.cell 1 ((i20 : Int).toNat * 2), [], [.ro 1 2 (List.map en_api_StrikeHeard l22)], []⟩, ⟨.cell 1 ((i20 : Int).toNat * 2 + 1), [], [.ro 1 2 (List.map en_api_StrikeHeard l22)], []⟩, ⟨.val (.int .i64 x28.2), [], [.ro 1 2 (List.map en_api_StrikeHeard l22)], []⟩, ⟨.val (.bool true), [], [], []⟩] rfl ?_ rfl ?_ rfl ?_ ?_
        · kernel_rfl
        · kernel_rfl
        · exact DAll.op' (sp_move rfl rfl) trivial rfl (From.ok (ps := []) trivial) (DAll.op' (sp_move rfl rfl) trivial rfl (From.ok (ps := []) trivial) (DAll.op' (sp_indexS rfl rfl rfl isRo sl37 h20 (map_get _ h21)) trivial rfl (From.ok (ps := [(none, 0)]) ⟨⟨rfl, rfl⟩, trivial⟩) (DAll.op' (sp_fieldAddrR (i := (i20 : Int).toNat) rfl rfl isRo ft43_1 vt3 (by decide) (map_get _ h21) (fun h => nomatch h)) trivial rfl (From.ok (ps := [(none, 0)]) ⟨⟨rfl, rfl⟩, trivial⟩) (DAll.op' (sp_loadR (i := (i20 : Int).toNat) (j := 1) rfl rfl isRo vt3 rfl (map_get _ h21) rfl (.v (.nil)) (nodup_of_B rfl)) trivial rfl (From.ok (ps := [(none, 0)]) ⟨⟨rfl, rfl⟩, trivial⟩) (DAll.op' (sp_assign rfl rfl) trivial rfl (From.ok (ps := []) trivial) (.nil))))))
        refine op0 (sp_assign rfl rfl) rfl trivial rfl rfl ?_
        refine TL.nil ?_
        refine TC.region ?_
        refine op0 (sp_move rfl rfl) rfl trivial rfl rfl ?_
        obtain ⟨h23, h⟩ := chk_inv h
        refine op0 (sp_add rfl rfl rfl h23) rfl trivial rfl rfl ?_
        refine op0 (sp_assign rfl rfl) rfl trivial rfl rfl ?_
        refine TL.nil ?_
        refine TC.seq ?_
        refine subJ [] (ok_ref05_Misses_j3 ih h) ?_ ?_ ?_
        · exact ⟨rfl, rfl, rfl, rfl, rfl, rfl, rfl, rfl, trivial⟩
        · exact ⟨mem_at 0 rfl, mem_at 1 rfl, mem_at 2 rfl, mem_at 3 rfl, trivial⟩
        · rfl
      · have h := cond_f h h22
        refine TC.skip ?_
        refine TC.seq ?_
        refine subJ [] (ok_ref05_Misses_j3 ih h) ?_ ?_ ?_
        · exact ⟨rfl, rfl, rfl, rfl, rfl, rfl, rfl, rfl, trivial⟩
        · exact ⟨mem_at 0 rfl, mem_at 1 rfl, mem_at 2 rfl, mem_at 3 rfl, trivial⟩
        · rfl
    · have h := cond_f h h19
      refine TC.exit rfl ?_
      refine TC.seq ?_
      refine TC.region ?_
      refine op0 (sp_emptyM 5 (List.map en_int []) rfl rfl sl39) rfl trivial rfl rfl ?_
      refine op0 (sp_assign rfl rfl) rfl trivial rfl rfl ?_
      refine op0 (sp_assign rfl rfl) rfl trivial rfl rfl ?_
      refine TL.nil ?_
      refine TC.seq ?_
      refine TC.seq ?_
      refine TC.region ?_
      refine op0 (sp_assign rfl rfl) rfl trivial rfl rfl ?_
      refine TL.nil ?_
      refine TC.block ?_
      refine TC.loop ?_
      refine TC.seq ?_
      refine TC.seq ?_
      refine subJ [] (ok_ref05_Misses_l10 _ _ _ h) ?_ ?_ ?_
      · exact ⟨rfl, rfl, rfl, rfl, rfl, trivial⟩
      · exact ⟨mem_at 3 rfl, mem_at 0 rfl, trivial⟩
      · rfl
def ev_ref05_Misses_j1 (n : Nat) (r5 : Int) (l14 : List (Int × Int)) (b15 : Bool) (b16 : Bool) (l17 : List Int) (l18 : List (Int × Int)) : Option (Int × (List Int) × Bool) :=
  idx l14 0 fun x19 => ev_ref05_Misses_l2 n r5 n 0 x19.1 l14 b15 b16 l17 l18
set_option maxRecDepth 100000 in
set_option maxHeartbeats 2000000 in
theorem ok_ref05_Misses_j1 {n : Nat} {w0 : World} {R0 : Nat → Prop} {env0 : Env} {r : Int × (List Int) × Bool} {r5 : Int} {l14 : List (Int × Int)} {b15 : Bool} {b16 : Bool} {l17 : List Int} {l18 : List (Int × Int)} (h : ev_ref05_Misses_j1 n r5 l14 b15 b16 l17 l18 = some r) : TC Try.prog ⟨w0, fun _ => False, R0⟩ 170 (bodyPost Try.prog Try.f25 (Post ⟨w0, fun _ => False, R0⟩ env0 (.tup [.val (.int .i64 r.1), .ref 0, .val (.bool r.2.2)]) [.row 0 3 1 (List.map en_int r.2.1)])) [.code (sub (bodyOf Try.f25) [1, 1, 1, 1, 0, 0]), .code (sub (bodyOf Try.f25) [1, 1, 1, 1, 0, 1]), .code (sub (bodyOf Try.f25) [1, 1, 1, 1, 1])] ([(1, .ref 1), (2, .ptr 2 0), (7, .val (.int .i64 r5)), (8, .val (.int .i64 0)), (9, .ref 3)]) ([.ro 1 2 (List.map en_api_StrikeHeard l14), .blk 2 [.val (.bool b15), .val (.bool b16), .ref 0] 24, .row 3 3 1 (List.map en_int l17), .ro 0 2 (List.map en_api_Span l18)]) := by
  rw [ev_ref05_Misses_j1] at h
  refine TC.region ?_
  refine op0 (sp_move rfl rfl) rfl trivial rfl rfl ?_
  obtain ⟨x19, h14, h15, h⟩ := idx_inv h
  refine op1 0 rfl (sp_indexS rfl rfl rfl isRo sl37 h14 (map_get _ h15)) rfl trivial rfl rfl ?_
  refine op1 0 rfl (sp_fieldAddrR (i := (0 : Int).toNat) rfl rfl isRo ft43_0 vt3 (by decide) (map_get _ h15) (fun h => nomatch h)) rfl trivial rfl rfl ?_
  refine op1 0 rfl (sp_loadR (i := (0 : Int).toNat) (j := 0) rfl rfl isRo vt3 rfl (map_get _ h15) rfl (.v (.nil)) (nodup_of_B rfl)) rfl trivial rfl rfl ?_
  refine op0 (sp_assign rfl rfl) rfl trivial rfl rfl ?_
  refine TL.nil ?_
  refine TC.block ?_
  refine TC.loop ?_
  refine TC.seq ?_
  refine TC.seq ?_
  refine subJ [] (ok_ref05_Misses_l2 _ _ _ _ _ _ _ _ h) ?_ ?_ ?_
  · exact ⟨rfl, rfl, rfl, rfl, rfl, rfl, trivial⟩
  · exact ⟨mem_at 0 rfl, mem_at 1 rfl, mem_at 2 rfl, mem_at 3 rfl, trivial⟩
  · rfl
def ev_ref05_Misses_l0 (n : Nat) (r5 : Int) : Nat → Int → (List (Int × Int)) → Bool → Bool → (List Int) → (List (Int × Int)) → Option (Int × (List Int) × Bool)
  | 0, _, _, _, _, _, _ => none
  | m + 1, i6, l7, b8, b9, l10, l11 => cond (decide (i6 < r5)) (idx l7 0 fun x12 => chk (r5 != 0) <| cond (i6 != (Int.tmod x12.1 r5)) (idx l10 i6 fun x13 => chk (in64 (i6 + 1)) <| ev_ref05_Misses_l0 n r5 m (i6 + 1) l7 b8 b9 (List.set l10 (i6 : Int).toNat 1000000) l11) (chk (in64 (i6 + 1)) <| ev_ref05_Misses_l0 n r5 m (i6 + 1) l7 b8 b9 l10 l11)) (ev_ref05_Misses_j1 n r5 l7 b8 b9 l10 l11)
set_option maxRecDepth 100000 in
set_option maxHeartbeats 2000000 in
theorem ok_ref05_Misses_l0 {n : Nat} {w0 : World} {R0 : Nat → Prop} {env0 : Env} {r : Int × (List Int) × Bool} {r5 : Int} : ∀ (m : Nat) (i6 : Int) (l7 : List (Int × Int)) (b8 : Bool) (b9 : Bool) (l10 : List Int) (l11 : List (Int × Int)), ev_ref05_Misses_l0 n r5 m i6 l7 b8 b9 l10 l11 = some r → TC Try.prog ⟨w0, fun _ => False, R0⟩ 170 (bodyPost Try.prog Try.f25 (Post ⟨w0, fun _ => False, R0⟩ env0 (.tup [.val (.int .i64 r.1), .ref 0, .val (.bool r.2.2)]) [.row 0 3 1 (List.map en_int r.2.1)])) [.code (sub (bodyOf Try.f25) [1, 1, 1, 0, 1, 0, 1, 0, 0, 0, 0]), .code (sub (bodyOf Try.f25) [1, 1, 1, 0, 1, 0, 1, 0, 0, 0, 1]), .code (sub (bodyOf Try.f25) [1, 1, 1, 0, 1, 0, 1, 0, 0, 1]), .inLoop (sub (bodyOf Try.f25) [1, 1, 1, 0, 1, 0, 1, 0, 0]), .inBlock 0, .code (sub (bodyOf Try.f25) [1, 1, 1, 1])] ([(1, .ref 1), (2, .ptr 2 0), (7, .val (.int .i64 r5)), (8, .val (.int .i64 0)), (9, .ref 3), (10, .val (.int .i64 i6))]) ([.ro 1 2 (List.map en_api_StrikeHeard l7), .blk 2 [.val (.bool b8), .val (.bool b9), .ref 0] 24, .row 3 3 1 (List.map en_int l10), .ro 0 2 (List.map en_api_Span l11)]) := by
  intro m
  induction m with
  | zero => intro i6 l7 b8 b9 l10 l11 h; exact none_no h
  | succ m ih =>
    intro i6 l7 b8 b9 l10 l11 h
    rw [ev_ref05_Misses_l0] at h
    refine TC.region ?_
    refine op0 (sp_move rfl rfl) rfl trivial rfl rfl ?_
    refine op0 (sp_move rfl rfl) rfl trivial rfl rfl ?_
    refine op0 (sp_lss rfl rfl rfl) rfl trivial rfl rfl ?_
    refine TL.nil ?_
    refine TC.cond (b := (decide (i6 < r5))) rfl (fun h5 => ?_) (fun h5 => ?_)
    · have h := cond_t h h5
      refine TC.skip ?_
      refine TC.seq ?_
      refine TC.block ?_
      refine TC.seq ?_
      refine TC.region ?_
      refine op0 (sp_move rfl rfl) rfl trivial rfl rfl ?_
      refine op0 (sp_move rfl rfl) rfl trivial rfl rfl ?_
      obtain ⟨x12, h6, h7, h⟩ := idx_inv h
      refine op1 0 rfl (sp_indexS rfl rfl rfl isRo sl37 h6 (map_get _ h7)) rfl trivial rfl rfl ?_
      refine op1 0 rfl (sp_fieldAddrR (i := (0 : Int).toNat) rfl rfl isRo ft43_0 vt3 (by decide) (map_get _ h7) (fun h => nomatch h)) rfl trivial rfl rfl ?_
      refine op1 0 rfl (sp_loadR (i := (0 : Int).toNat) (j := 0) rfl rfl isRo vt3 rfl (map_get _ h7) rfl (.v (.nil)) (nodup_of_B rfl)) rfl trivial rfl rfl ?_
      refine op0 (sp_move rfl rfl) rfl trivial rfl rfl ?_
      obtain ⟨h8, h⟩ := chk_inv h
      refine op0 (sp_rem rfl rfl rfl h8) rfl trivial rfl rfl ?_
      refine op0 (sp_neq rfl rfl rfl) rfl trivial rfl rfl ?_
      refine TL.nil ?_
      refine TC.cond (b := (i6 != (Int.tmod x12.1 r5))) rfl (fun h9 => ?_) (fun h9 => ?_)
      · have h := cond_t h h9
        refine TC.region ?_
        refine op0 (sp_move rfl rfl) rfl trivial rfl rfl ?_
        refine op0 (sp_move rfl rfl) rfl trivial rfl rfl ?_
        obtain ⟨x13, h10, h11, h⟩ := idx_inv h
        refine op1 2 rfl (sp_indexS rfl rfl rfl isOwn sl39 h10 (map_get _ h11)) rfl trivial rfl rfl ?_
        refine stoR 2 ((i6 : Int).toNat) 0 (need := []) [] rfl rfl trivial rfl rfl rfl rfl vt3 rfl rfl (map_get _ h11) rfl rfl trivial (.v (.nil)) (map_set l10 en_int ((i6 : Int).toNat) 1000000) ?_
        refine TL.nil ?_
        refine TC.inBlock ?_
        refine TC.region ?_
        refine op0 (sp_move rfl rfl) rfl trivial rfl rfl ?_
        obtain ⟨h12, h⟩ := chk_inv h
        refine op0 (sp_add rfl rfl rfl h12) rfl trivial rfl rfl ?_
        refine op0 (sp_assign rfl rfl) rfl trivial rfl rfl ?_
        refine TL.nil ?_
        refine TC.inLoop ?_
        refine TC.seq ?_
        refine TC.seq ?_
        refine subJ [] (ih _ _ _ _ _ _ h) ?_ ?_ ?_
        · exact ⟨rfl, rfl, rfl, rfl, rfl, rfl, trivial⟩
        · exact ⟨mem_at 0 rfl, mem_at 1 rfl, mem_at 2 rfl, mem_at 3 rfl, trivial⟩
        · rfl
      · have h := cond_f h h9
        refine TC.skip ?_
        refine TC.inBlock ?_
        refine TC.region ?_
        refine op0 (sp_move rfl rfl) rfl trivial rfl rfl ?_
        obtain ⟨h13, h⟩ := chk_inv h
        refine op0 (sp_add rfl rfl rfl h13) rfl trivial rfl rfl ?_
        refine op0 (sp_assign rfl rfl) rfl trivial rfl rfl ?_
        refine TL.nil ?_
        refine TC.inLoop ?_
        refine TC.seq ?_
        refine TC.seq ?_
        refine subJ [] (ih _ _ _ _ _ _ h) ?_ ?_ ?_
        · exact ⟨rfl, rfl, rfl, rfl, rfl, rfl, trivial⟩
        · exact ⟨mem_at 0 rfl, mem_at 1 rfl, mem_at 2 rfl, mem_at 3 rfl, trivial⟩
        · rfl
    · have h := cond_f h h5
      refine TC.exit rfl ?_
      refine TC.seq ?_
      refine TC.seq ?_
      refine subJ [] (ok_ref05_Misses_j1 h) ?_ ?_ ?_
      · exact ⟨rfl, rfl, rfl, rfl, rfl, trivial⟩
      · exact ⟨mem_at 0 rfl, mem_at 1 rfl, mem_at 2 rfl, mem_at 3 rfl, trivial⟩
      · rfl
def ev_ref05_Misses (n : Nat) (rr1 : Bool) (rr2 : Bool) (rr3 : List (Int × Int)) (l4 : List (Int × Int)) : Option (Int × (List Int) × Bool) :=
  (ev_ref05_N n rr1 rr2 rr3).bind fun r5 => chk (decide (0 ≤ r5)) <| chk (room 8 (r5).toNat) <| cond rr2 (ev_ref05_Misses_l0 n r5 n 0 l4 rr1 rr2 (List.replicate (r5).toNat (0 : Int)) rr3) (ev_ref05_Misses_j1 n r5 l4 rr1 rr2 (List.replicate (r5).toNat (0 : Int)) rr3)
set_option maxRecDepth 100000 in
set_option maxHeartbeats 2000000 in
theorem fc_ref05_Misses {n : Nat} {rr1 : Bool} {rr2 : Bool} {rr3 : List (Int × Int)} {l4 : List (Int × Int)} {r : Int × (List Int) × Bool} (h : ev_ref05_Misses n rr1 rr2 rr3 l4 = some r) : FC Try.prog 25 [.agg [.val (.bool rr1), .val (.bool rr2), .ref 0], .ref 1] [.ro 0 2 (List.map en_api_Span rr3), .ro 1 2 (List.map en_api_StrikeHeard l4)] (.tup [.val (.int .i64 r.1), .ref 0, .val (.bool r.2.2)]) [.row 0 3 1 (List.map en_int r.2.1)] := by
  refine introJ (nz := 170) Try.func25 rfl rfl rfl (fun w0 R0 env0 => ?_)
  rw [ev_ref05_Misses] at h
  refine TC.seq ?_
  refine TC.region ?_
  refine op0 (sp_box 2 rfl rfl rfl rfl rfl) rfl trivial rfl rfl ?_
  refine op0 (sp_assign rfl rfl) rfl trivial rfl rfl ?_
  refine op0 (sp_assign rfl rfl) rfl trivial rfl rfl ?_
  refine op0 (sp_assign rfl rfl) rfl trivial rfl rfl ?_
  refine TL.nil ?_
  refine TC.seq ?_
  refine TC.region ?_
  refine op1 0 rfl (sp_loadBA rfl isBlk rfl vt24 rfl rfl) rfl trivial rfl rfl ?_
  obtain ⟨r5, h1, h⟩ := bind_inv h
  refine op1 1 rfl (sp_call (avs := [.agg [.val (.bool rr1), .val (.bool rr2), .ref 0]]) (need := [.ro 0 2 (List.map en_api_Span rr3)]) (v := .val (.int .i64 r5)) (news := []) rfl rfl rfl Try.call19 (atJ [] [] (fc_ref05_N h1) rfl rfl) (.inl (roAll rfl))) rfl trivial rfl rfl ?_
  refine op0 (sp_assign rfl rfl) rfl trivial rfl rfl ?_
  refine op0 (sp_assign rfl rfl) rfl trivial rfl rfl ?_
  refine TL.nil ?_
  refine TC.seq ?_
  refine TC.region ?_
  refine op0 (sp_move rfl rfl) rfl trivial rfl rfl ?_
  obtain ⟨h2, h⟩ := chk_inv h
  obtain ⟨h3, h⟩ := chk_inv h
  refine op0 (sp_makeSlice 3 rfl rfl rfl sl39 h2 h3 Try.zeroValue3 rfl (rep_map _ _ en_int rfl)) rfl trivial rfl rfl ?_
  refine op0 (sp_assign rfl rfl) rfl trivial rfl rfl ?_
  refine TL.nil ?_
  refine TC.seq ?_
  refine TC.seq ?_
  refine TC.region ?_
  refine op1 1 rfl (sp_fieldAddrB rfl isBlk rfl ft24_1 vt4 (by decide)) rfl trivial rfl rfl ?_
  refine op1 1 rfl (sp_loadB rfl isBlk rfl vt4 rfl) rfl trivial rfl rfl ?_
  refine TL.nil ?_
  refine TC.cond (b := rr2) rfl (fun h4 => ?_) (fun h4 => ?_)
  · have h := cond_t h h4
    refine TC.seq ?_
    refine TC.region ?_
    refine op0 (sp_assign rfl rfl) rfl trivial rfl rfl ?_
    refine TL.nil ?_
    refine TC.block ?_
    refine TC.loop ?_
    refine TC.seq ?_
    refine TC.seq ?_
    refine subJ [] (ok_ref05_Misses_l0 _ _ _ _ _ _ _ h) ?_ ?_ ?_
    · exact ⟨rfl, rfl, rfl, rfl, rfl, rfl, trivial⟩
    · exact ⟨mem_at 3 rfl, mem_at 1 rfl, mem_at 0 rfl, mem_at 2 rfl, trivial⟩
    · rfl
  · have h := cond_f h h4
    refine TC.skip ?_
    refine TC.seq ?_
    refine TC.seq ?_
    refine subJ [] (ok_ref05_Misses_j1 h) ?_ ?_ ?_
    · exact ⟨rfl, rfl, rfl, rfl, rfl, trivial⟩
    · exact ⟨mem_at 3 rfl, mem_at 1 rfl, mem_at 0 rfl, mem_at 2 rfl, trivial⟩
    · rfl
end
end Go.Proofs.Ytglgkcfgjaoabaa.Sy
