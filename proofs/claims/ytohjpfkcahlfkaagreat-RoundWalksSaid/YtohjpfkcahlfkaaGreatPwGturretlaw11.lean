/- What functions of the program compute, and that they do: printed by symgen.py. -/
import Derived.Test.YtohjpfkcahlfkaaGreatPwGLib
import Derived.Test.YtohjpfkcahlfkaaGreatPwGRound
import Derived.Test.YtohjpfkcahlfkaaGreatPwGTurretref11
set_option linter.unusedSimpArgs false
set_option linter.unusedVariables false
namespace Go.Proofs.YtohjpfkcahlfkaaGreat.Sy
open Go.RowKit
noncomputable section
set_option maxRecDepth 100000
set_option maxHeartbeats 2000000
def ev_law11_large_l1 (n : Nat) (rr2 : List ((List Int))) : Nat → Int → Option Bool
  | 0, _ => none
  | m + 1, i6 => cond (decide (i6 < (rr2.length : Int))) (idx rr2 i6 fun x7 => cond (decide ((15 : Int) < (x7.length : Int))) (some true) (chk (in64 (i6 + 1)) <| ev_law11_large_l1 n rr2 m (i6 + 1))) (some false)
theorem ok_law11_large_l1 {n : Nat} {w0 : World} {R0 : Nat → Prop} {env0 : Env} {r : Bool} {rr4 : Int} {rr5 : Int} {rr1 : List (Int × Int × Int × Int × Int)} {rr2 : List ((List Int))} {rr3 : List (Int × Int × Int × Int)} : ∀ (m : Nat) (i6 : Int), ev_law11_large_l1 n rr2 m i6 = some r → TC Tryz.prog ⟨w0, fun _ => False, R0⟩ 34 (bodyPost Tryz.prog Tryz.f6 (Post ⟨w0, fun _ => False, R0⟩ env0 (.val (.bool r)) [])) [.code (sub (bodyOf Tryz.f6) [1, 1, 0, 1, 0, 0, 0, 0]), .code (sub (bodyOf Tryz.f6) [1, 1, 0, 1, 0, 0, 0, 1]), .code (sub (bodyOf Tryz.f6) [1, 1, 0, 1, 0, 0, 1]), .inLoop (sub (bodyOf Tryz.f6) [1, 1, 0, 1, 0, 0]), .inBlock 0, .code (sub (bodyOf Tryz.f6) [1, 1, 1])] ([(1, .ptr 3 0), (3, vi i6)]) ([.blk 3 [.ref 0, .ref 1, .ref 2, vi rr4, vi rr5] 26, .ro 0 5 (List.map en_api_RoundTower rr1), .ro 1 1 (List.map en_Lint rr2), .ro 2 4 (List.map en_api_RoundWinder rr3)]) := by
  intro m
  induction m with
  | zero => intro i6 h; exact none_no h
  | succ m ih =>
    intro i6 h
    rw [ev_law11_large_l1] at h
    refine TC.region ?_
    refine op0 (sp_move rfl rfl) rfl trivial rfl rfl ?_
    refine op1 0 rfl (sp_fieldAddrB rfl isBlk rfl ft26_1 vt23 (by decide)) rfl trivial rfl rfl ?_
    refine op1 0 rfl (sp_loadB rfl isBlk rfl vt23 rfl) rfl trivial rfl rfl ?_
    refine op1 2 rfl (sp_lenM (N := rr2.length) (len_map _ _) rfl rfl isRo Tryz.underlying23) rfl trivial rfl rfl ?_
    refine op0 (sp_lss rfl rfl rfl) rfl trivial rfl rfl ?_
    refine TL.nil ?_
    refine TC.cond (b := (decide (i6 < (rr2.length : Int)))) rfl (fun h4 => ?_) (fun h4 => ?_)
    · have h := cond_t h h4
      refine TC.skip ?_
      refine TC.seq ?_
      refine TC.block ?_
      refine TC.seq ?_
      refine TC.region ?_
      refine op1 0 rfl (sp_fieldAddrB rfl isBlk rfl ft26_1 vt23 (by decide)) rfl trivial rfl rfl ?_
      refine op1 0 rfl (sp_loadB rfl isBlk rfl vt23 rfl) rfl trivial rfl rfl ?_
      refine op0 (sp_move rfl rfl) rfl trivial rfl rfl ?_
      obtain ⟨x7, h5, h6, h⟩ := idx_inv h
      refine op1 2 rfl (sp_indexS rfl rfl rfl isRo sl23 h5 (map_get _ h6)) rfl trivial rfl rfl ?_
      refine op1 2 rfl (sp_loadR (i := (i6 : Int).toNat) (j := 0) (ns := [.ro 4 1 (List.map en_int x7)]) rfl rfl isRo vt27 rfl (map_get _ h6) rfl (.s (.nil)) (nodup_of_B rfl)) rfl trivial rfl rfl ?_
      refine op1 0 rfl (sp_lenM (N := x7.length) (len_map _ _) rfl rfl isRo Tryz.underlying27) rfl trivial rfl rfl ?_
      refine op0 (sp_gtr rfl rfl rfl) rfl trivial rfl rfl ?_
      refine TL.nil ?_
      refine TC.cond (b := (decide ((15 : Int) < (x7.length : Int)))) rfl (fun h7 => ?_) (fun h7 => ?_)
      · have h := cond_t h h7
        refine TC.seq ?_
        refine TC.region ?_
        refine op0 (sp_assign rfl rfl) rfl trivial rfl rfl ?_
        refine TL.nil ?_
        cases h
        exact retJ [] (.tmp rfl .nil) rfl trivial rfl rfl
      · have h := cond_f h h7
        refine TC.skip ?_
        refine TC.inBlock ?_
        refine TC.region ?_
        refine op0 (sp_move rfl rfl) rfl trivial rfl rfl ?_
        obtain ⟨h8, h⟩ := chk_inv h
        refine op0 (sp_add rfl rfl rfl h8) rfl trivial rfl rfl ?_
        refine op0 (sp_assign rfl rfl) rfl trivial rfl rfl ?_
        refine TL.nil ?_
        refine TC.inLoop ?_
        refine TC.seq ?_
        refine TC.seq ?_
        refine subJ [] (ih _ h) ?_ ?_ ?_
        · exact ⟨rfl, rfl, trivial⟩
        · exact ⟨mem_at 1 rfl, mem_at 2 rfl, mem_at 3 rfl, mem_at 4 rfl, trivial⟩
        · rfl
    · have h := cond_f h h4
      refine TC.exit rfl ?_
      refine TC.seq ?_
      refine TC.region ?_
      refine op0 (sp_assign rfl rfl) rfl trivial rfl rfl ?_
      refine TL.nil ?_
      cases h
      exact retJ [] (.tmp rfl .nil) rfl trivial rfl rfl
def ev_law11_large_j0 (n : Nat) (rr2 : List ((List Int))) : Option Bool :=
  ev_law11_large_l1 n rr2 n 0
theorem ok_law11_large_j0 {n : Nat} {w0 : World} {R0 : Nat → Prop} {env0 : Env} {r : Bool} {rr4 : Int} {rr5 : Int} {rr1 : List (Int × Int × Int × Int × Int)} {rr2 : List ((List Int))} {rr3 : List (Int × Int × Int × Int)} (h : ev_law11_large_j0 n rr2 = some r) : TC Tryz.prog ⟨w0, fun _ => False, R0⟩ 34 (bodyPost Tryz.prog Tryz.f6 (Post ⟨w0, fun _ => False, R0⟩ env0 (.val (.bool r)) [])) [.code (sub (bodyOf Tryz.f6) [1, 0, 1, 1]), .code (sub (bodyOf Tryz.f6) [1, 1])] ([(1, .ptr 3 0)]) ([.blk 3 [.ref 0, .ref 1, .ref 2, vi rr4, vi rr5] 26, .ro 0 5 (List.map en_api_RoundTower rr1), .ro 1 1 (List.map en_Lint rr2), .ro 2 4 (List.map en_api_RoundWinder rr3)]) := by
  rw [ev_law11_large_j0] at h
  refine TC.skip ?_
  refine TC.seq ?_
  refine TC.seq ?_
  refine TC.region ?_
  refine op0 (sp_assign rfl rfl) rfl trivial rfl rfl ?_
  refine TL.nil ?_
  refine TC.block ?_
  refine TC.loop ?_
  refine TC.seq ?_
  refine TC.seq ?_
  refine subJ [] (ok_law11_large_l1 (rr4 := rr4) (rr5 := rr5) (rr1 := rr1) (rr3 := rr3) _ _ h) ?_ ?_ ?_
  · exact ⟨rfl, rfl, trivial⟩
  · exact ⟨mem_at 0 rfl, mem_at 1 rfl, mem_at 2 rfl, mem_at 3 rfl, trivial⟩
  · rfl
def ev_law11_large (n : Nat) (rr1 : List (Int × Int × Int × Int × Int)) (rr2 : List ((List Int))) (rr3 : List (Int × Int × Int × Int)) (rr4 : Int) (rr5 : Int) : Option Bool :=
  cond (decide ((12 : Int) < (rr1.length : Int))) (some true) (cond (decide ((8 : Int) < (rr3.length : Int))) (some true) (cond (decide ((15 : Int) < (rr2.length : Int))) (some true) (ev_law11_large_j0 n rr2)))
theorem fc_law11_large {n : Nat} {rr1 : List (Int × Int × Int × Int × Int)} {rr2 : List ((List Int))} {rr3 : List (Int × Int × Int × Int)} {rr4 : Int} {rr5 : Int} {r : Bool} (h : ev_law11_large n rr1 rr2 rr3 rr4 rr5 = some r) : FC Tryz.prog 6 [.agg [.ref 0, .ref 1, .ref 2, vi rr4, vi rr5]] [.ro 0 5 (List.map en_api_RoundTower rr1), .ro 1 1 (List.map en_Lint rr2), .ro 2 4 (List.map en_api_RoundWinder rr3)] (.val (.bool r)) [] := by
  refine introJ (nz := 34) Tryz.func6 rfl rfl rfl (fun w0 R0 env0 => ?_)
  rw [ev_law11_large] at h
  refine TC.seq ?_
  refine TC.region ?_
  refine op0 (sp_box 3 rfl rfl rfl rfl rfl) rfl trivial rfl rfl ?_
  refine op0 (sp_assign rfl rfl) rfl trivial rfl rfl ?_
  refine TL.nil ?_
  refine TC.seq ?_
  refine TC.seq ?_
  refine TC.region ?_
  refine op1 0 rfl (sp_fieldAddrB rfl isBlk rfl ft26_0 vt22 (by decide)) rfl trivial rfl rfl ?_
  refine op1 0 rfl (sp_loadB rfl isBlk rfl vt22 rfl) rfl trivial rfl rfl ?_
  refine op1 1 rfl (sp_lenM (N := rr1.length) (len_map _ _) rfl rfl isRo Tryz.underlying22) rfl trivial rfl rfl ?_
  refine op0 (sp_gtr rfl rfl rfl) rfl trivial rfl rfl ?_
  refine op0 (sp_move rfl rfl) rfl trivial rfl rfl ?_
  rcases cond_cases h with ⟨h1, h⟩ | ⟨h1, h⟩
  · refine (boolLit 8 rfl h1).2 ?_
    refine opSkip rfl ⟨_, rfl, .inl rfl⟩ rfl ?_
    refine opSkip rfl ⟨_, rfl, .inl rfl⟩ rfl ?_
    refine opSkip rfl ⟨_, rfl, .inl rfl⟩ rfl ?_
    refine opSkip rfl ⟨_, rfl, .inl rfl⟩ rfl ?_
    refine op0 (sp_pickT rfl rfl rfl) rfl trivial rfl rfl ?_
    refine op0 (sp_move rfl rfl) rfl trivial rfl rfl ?_
    refine opSkip rfl ⟨_, rfl, .inl rfl⟩ rfl ?_
    refine opSkip rfl ⟨_, rfl, .inl rfl⟩ rfl ?_
    refine opSkip rfl ⟨_, rfl, .inl rfl⟩ rfl ?_
    refine opSkip rfl ⟨_, rfl, .inl rfl⟩ rfl ?_
    refine op0 (sp_pickT rfl rfl rfl) rfl trivial rfl rfl ?_
    refine TL.nil ?_
    refine TC.condT rfl ?_
    refine TC.seq ?_
    refine TC.region ?_
    refine op0 (sp_assign rfl rfl) rfl trivial rfl rfl ?_
    refine TL.nil ?_
    cases h
    exact retJ [] (.tmp rfl .nil) rfl trivial rfl rfl
  · refine (boolLit 8 rfl h1).2 ?_
    refine op1 0 rfl (sp_fieldAddrB rfl isBlk rfl ft26_2 vt24 (by decide)) rfl ⟨_, rfl, rfl⟩ rfl rfl ?_
    refine op1 0 rfl (sp_loadB rfl isBlk rfl vt24 rfl) rfl ⟨_, rfl, rfl⟩ rfl rfl ?_
    refine op1 3 rfl (sp_lenM (N := rr3.length) (len_map _ _) rfl rfl isRo Tryz.underlying24) rfl ⟨_, rfl, rfl⟩ rfl rfl ?_
    refine op0 (sp_gtr rfl rfl rfl) rfl ⟨_, rfl, rfl⟩ rfl rfl ?_
    refine op0 (sp_pickF rfl rfl rfl) rfl trivial rfl rfl ?_
    refine op0 (sp_move rfl rfl) rfl trivial rfl rfl ?_
    rcases cond_cases h with ⟨h2, h⟩ | ⟨h2, h⟩
    · refine (boolLit 14 rfl h2).2 ?_
      refine opSkip rfl ⟨_, rfl, .inl rfl⟩ rfl ?_
      refine opSkip rfl ⟨_, rfl, .inl rfl⟩ rfl ?_
      refine opSkip rfl ⟨_, rfl, .inl rfl⟩ rfl ?_
      refine opSkip rfl ⟨_, rfl, .inl rfl⟩ rfl ?_
      refine op0 (sp_pickT rfl rfl rfl) rfl trivial rfl rfl ?_
      refine TL.nil ?_
      refine TC.condT rfl ?_
      refine TC.seq ?_
      refine TC.region ?_
      refine op0 (sp_assign rfl rfl) rfl trivial rfl rfl ?_
      refine TL.nil ?_
      cases h
      exact retJ [] (.tmp rfl .nil) rfl trivial rfl rfl
    · refine (boolLit 14 rfl h2).2 ?_
      refine op1 0 rfl (sp_fieldAddrB rfl isBlk rfl ft26_1 vt23 (by decide)) rfl ⟨_, rfl, rfl⟩ rfl rfl ?_
      refine op1 0 rfl (sp_loadB rfl isBlk rfl vt23 rfl) rfl ⟨_, rfl, rfl⟩ rfl rfl ?_
      refine op1 2 rfl (sp_lenM (N := rr2.length) (len_map _ _) rfl rfl isRo Tryz.underlying23) rfl ⟨_, rfl, rfl⟩ rfl rfl ?_
      refine op0 (sp_gtr rfl rfl rfl) rfl ⟨_, rfl, rfl⟩ rfl rfl ?_
      refine op0 (sp_pickF rfl rfl rfl) rfl trivial rfl rfl ?_
      refine TL.nil ?_
      refine TC.cond (b := (decide ((15 : Int) < (rr2.length : Int)))) rfl (fun h3 => ?_) (fun h3 => ?_)
      · have h := cond_t h h3
        refine TC.seq ?_
        refine TC.region ?_
        refine op0 (sp_assign rfl rfl) rfl trivial rfl rfl ?_
        refine TL.nil ?_
        cases h
        exact retJ [] (.tmp rfl .nil) rfl trivial rfl rfl
      · have h := cond_f h h3
        refine subJ [] (ok_law11_large_j0 (rr4 := rr4) (rr5 := rr5) (rr1 := rr1) (rr3 := rr3) h) ?_ ?_ ?_
        · exact ⟨rfl, trivial⟩
        · exact ⟨mem_at 0 rfl, mem_at 1 rfl, mem_at 2 rfl, mem_at 3 rfl, trivial⟩
        · rfl
def ev_law11_two (n : Nat) : Option ((List (Int × Int × Int × Int × Int)) × (List ((List Int))) × (List (Int × Int × Int × Int)) × Int × Int) :=
  some (([(10, 20, 1, 5, 8), (5, 15, 2, 3, 2)] : List (Int × Int × Int × Int × Int)), ([([0, 30, 10] : List Int), ([30, 0, 25] : List Int), ([10, 25, 0] : List Int)] : List ((List Int))), ([(3, 10, 200, 100), (2, 3, 100, 45)] : List (Int × Int × Int × Int)), 15, 2)
theorem fc_law11_two {n : Nat}  {r : (List (Int × Int × Int × Int × Int)) × (List ((List Int))) × (List (Int × Int × Int × Int)) × Int × Int} (h : ev_law11_two n = some r) : FC Tryz.prog 22 [] [] (.agg [.ref 0, .ref 1, .ref 2, vi r.2.2.2.1, vi r.2.2.2.2]) [.row 0 71 5 (List.map en_api_RoundTower r.1), .row 1 27 1 (List.map en_Lint r.2.1), .row 2 50 4 (List.map en_api_RoundWinder r.2.2.1)] := by
  refine introJ (nz := 12) Tryz.func22 rfl rfl rfl (fun w0 R0 env0 => ?_)
  rw [ev_law11_two] at h
  refine TC.seq ?_
  refine TC.region ?_
  refine op0 (sp_alloc 0 rfl Tryz.zeroValue26 rfl) rfl trivial rfl rfl ?_
  refine TL.nil ?_
  refine TC.seq ?_
  refine TC.region ?_
  refine op0 (sp_build (qs := [(0, vi 10), (1, vi 20), (2, .val (.int .u16 1)), (3, vi 5), (4, vi 8)]) rfl bt71 rfl rfl rfl rfl) rfl trivial rfl rfl ?_
  refine op0 (sp_build (qs := [(0, vi 5), (1, vi 15), (2, .val (.int .u16 2)), (3, vi 3), (4, vi 2)]) rfl bt71 rfl rfl rfl rfl) rfl trivial rfl rfl ?_
  refine op0 (sp_buildSlice (qs := [.agg [vi 10, vi 20, .val (.int .u16 1), vi 5, vi 8], .agg [vi 5, vi 15, .val (.int .u16 2), vi 3, vi 2]]) (need := []) (els := List.map en_api_RoundTower ([(10, 20, 1, 5, 8), (5, 15, 2, 3, 2)] : List (Int × Int × Int × Int × Int))) 1 rfl sl22 (by decide) (by decide) rfl rfl rfl (.v (.v (.v (.v (.v (.v (.v (.v (.v (.v (.nil))))))))))) (map_len fun _ => rfl) rfl rfl rfl) rfl trivial rfl rfl ?_
  refine op0 (sp_buildSlice (qs := [vi 0, vi 30, vi 10]) (need := []) (els := List.map en_int ([0, 30, 10] : List Int)) 2 rfl sl27 (by decide) (by decide) rfl rfl rfl (.v (.v (.v (.nil)))) (map_len fun _ => rfl) rfl rfl rfl) rfl trivial rfl rfl ?_
  refine op0 (sp_buildSlice (qs := [vi 30, vi 0, vi 25]) (need := []) (els := List.map en_int ([30, 0, 25] : List Int)) 3 rfl sl27 (by decide) (by decide) rfl rfl rfl (.v (.v (.v (.nil)))) (map_len fun _ => rfl) rfl rfl rfl) rfl trivial rfl rfl ?_
  refine op0 (sp_buildSlice (qs := [vi 10, vi 25, vi 0]) (need := []) (els := List.map en_int ([10, 25, 0] : List Int)) 4 rfl sl27 (by decide) (by decide) rfl rfl rfl (.v (.v (.v (.nil)))) (map_len fun _ => rfl) rfl rfl rfl) rfl trivial rfl rfl ?_
  refine TL.freeze 2 rfl ?_
  refine TL.freeze 1 rfl ?_
  refine TL.freeze 0 rfl ?_
  refine opN (need := [.ro 2 1 (List.map en_int ([0, 30, 10] : List Int)), .ro 3 1 (List.map en_int ([30, 0, 25] : List Int)), .ro 4 1 (List.map en_int ([10, 25, 0] : List Int))]) [2, 1, 0] ⟨rfl, rfl, rfl, trivial⟩ (sp_buildSlice (qs := [.ref 2, .ref 3, .ref 4]) (need := [.ro 2 1 (List.map en_int ([0, 30, 10] : List Int)), .ro 3 1 (List.map en_int ([30, 0, 25] : List Int)), .ro 4 1 (List.map en_int ([10, 25, 0] : List Int))]) (els := List.map en_Lint ([([0, 30, 10] : List Int), ([30, 0, 25] : List Int), ([10, 25, 0] : List Int)] : List ((List Int)))) 5 rfl sl23 (by decide) (by decide) rfl rfl rfl (.s (mem_at 0 rfl) (.s (mem_at 1 rfl) (.s (mem_at 2 rfl) (.nil)))) (map_len fun _ => rfl) rfl rfl rfl) rfl trivial rfl rfl ?_
  refine op0 (sp_build (qs := [(0, .val (.int .u16 3)), (1, vi 10), (2, vi 200), (3, vi 100)]) rfl bt50 rfl rfl rfl rfl) rfl trivial rfl rfl ?_
  refine op0 (sp_build (qs := [(0, .val (.int .u16 2)), (1, vi 3), (2, vi 100), (3, vi 45)]) rfl bt50 rfl rfl rfl rfl) rfl trivial rfl rfl ?_
  refine op0 (sp_buildSlice (qs := [.agg [.val (.int .u16 3), vi 10, vi 200, vi 100], .agg [.val (.int .u16 2), vi 3, vi 100, vi 45]]) (need := []) (els := List.map en_api_RoundWinder ([(3, 10, 200, 100), (2, 3, 100, 45)] : List (Int × Int × Int × Int))) 6 rfl sl24 (by decide) (by decide) rfl rfl rfl (.v (.v (.v (.v (.v (.v (.v (.v (.nil))))))))) (map_len fun _ => rfl) rfl rfl rfl) rfl trivial rfl rfl ?_
  refine op0 (sp_build (qs := [(0, .ref 1), (1, .ref 5), (2, .ref 6), (3, vi 15), (4, vi 2)]) rfl bt26 rfl rfl rfl rfl) rfl trivial rfl rfl ?_
  refine stoB 6 (cells' := [.ref 1, .ref 5, .ref 6, vi 15, vi 2]) rfl rfl trivial rfl rfl rfl rfl vt26 rfl rfl rfl ?_
  refine TL.nil ?_
  cases h
  exact retJ [(0, 1), (1, 5), (2, 6)] (.cells rfl (mem_at 6 rfl) isBlk vt26 rfl rfl (.nil)) rfl ⟨mem_at 5 rfl, mem_at 1 rfl, mem_at 0 rfl, trivial⟩ rfl rfl
def ev_law11_known_j0 (n : Nat) (r2 : Int × Int × Int × Int) (r4 : Int × Int × Int × Int) (r6 : (List Int) × Int × Int) (r8 : (List Int) × Int × Int) (r10 : (List (Int × (List Int))) × Int × Int) (r12 : (List Int) × Int) (r14 : Int × Int × Int) : Option Bool :=
  cond (r2.2.2.1 == 2) (cond (r4.1 == 130) (cond (r4.2.1 == 260) (cond (r6.2.1 == 130) ((ev_ref11_Same n r6.1 ([0, (-1), 1] : List Int)).bind fun r15 => cond r15 ((ev_ref11_Same n r8.1 ([1, (-1)] : List Int)).bind fun r16 => cond r16 ((ev_ref11_Equal n r10.1 ([(0, ([0, (-1), 1] : List Int))] : List (Int × (List Int)))).bind fun r17 => cond r17 ((ev_ref11_Same n r12.1 ([3, 1] : List Int)).bind fun r18 => cond r18 (cond (r14.1 == 1) (some (r14.2.1 == 6)) (some false)) (some false)) (some false)) (some false)) (some false)) (some false)) (some false)) (some false)) (some false)
theorem ok_law11_known_j0 {n : Nat} {w0 : World} {R0 : Nat → Prop} {env0 : Env} {r : Bool} {r2 : Int × Int × Int × Int} {r4 : Int × Int × Int × Int} {r6 : (List Int) × Int × Int} {r14 : Int × Int × Int} {r8 : (List Int) × Int × Int} {r10 : (List (Int × (List Int))) × Int × Int} {r12 : (List Int) × Int} (h : ev_law11_known_j0 n r2 r4 r6 r8 r10 r12 r14 = some r) : TC Tryz.prog ⟨w0, fun _ => False, R0⟩ 151 (bodyPost Tryz.prog Tryz.f7 (Post ⟨w0, fun _ => False, R0⟩ env0 (.val (.bool r)) [])) [.code (sub (bodyOf Tryz.f7) [1, 1, 1, 1, 1, 1, 1, 1, 1, 0, 1, 1]), .code (sub (bodyOf Tryz.f7) [1, 1, 1, 1, 1, 1, 1, 1, 1, 1])] ([(3, vi r2.2.2.1), (5, vi r4.1), (6, vi r4.2.1), (9, .ref 12), (10, vi r6.2.1), (12, .ref 17), (15, .ref 22), (19, .ref 29), (21, vi r14.1), (22, vi r14.2.1)]) ([.ro 12 1 (List.map en_int r6.1), .ro 17 1 (List.map en_int r8.1), .ro 22 2 (List.map en_api_RoundTrip r10.1), .row 29 3 1 (List.map en_int r12.1)]) := by
  rw [ev_law11_known_j0] at h
  refine TC.skip ?_
  refine TC.seq ?_
  refine TC.region ?_
  refine op0 (sp_move rfl rfl) rfl trivial rfl rfl ?_
  refine op0 (sp_eql rfl rfl rfl) rfl trivial rfl rfl ?_
  refine op0 (sp_move rfl rfl) rfl trivial rfl rfl ?_
  rcases cond_cases h with ⟨h22, h⟩ | ⟨h22, h⟩
  · refine (boolLit 109 rfl h22).2 ?_
    refine op0 (sp_move rfl rfl) rfl ⟨_, rfl, rfl⟩ rfl rfl ?_
    refine op0 (sp_eql rfl rfl rfl) rfl ⟨_, rfl, rfl⟩ rfl rfl ?_
    refine op0 (sp_pickT rfl rfl rfl) rfl trivial rfl rfl ?_
    refine op0 (sp_move rfl rfl) rfl trivial rfl rfl ?_
    rcases cond_cases h with ⟨h23, h⟩ | ⟨h23, h⟩
    · refine (boolLit 113 rfl h23).2 ?_
      refine op0 (sp_move rfl rfl) rfl ⟨_, rfl, rfl⟩ rfl rfl ?_
      refine op0 (sp_eql rfl rfl rfl) rfl ⟨_, rfl, rfl⟩ rfl rfl ?_
      refine op0 (sp_pickT rfl rfl rfl) rfl trivial rfl rfl ?_
      refine op0 (sp_move rfl rfl) rfl trivial rfl rfl ?_
      rcases cond_cases h with ⟨h24, h⟩ | ⟨h24, h⟩
      · refine (boolLit 117 rfl h24).2 ?_
        refine op0 (sp_move rfl rfl) rfl ⟨_, rfl, rfl⟩ rfl rfl ?_
        refine op0 (sp_eql rfl rfl rfl) rfl ⟨_, rfl, rfl⟩ rfl rfl ?_
        refine op0 (sp_pickT rfl rfl rfl) rfl trivial rfl rfl ?_
        refine op0 (sp_move rfl rfl) rfl trivial rfl rfl ?_
        rcases cond_cases h with ⟨h25, h⟩ | ⟨h25, h⟩
        · refine (boolLit 121 rfl h25).2 ?_
          refine op0 (sp_move rfl rfl) rfl ⟨_, rfl, rfl⟩ rfl rfl ?_
          refine op0 (sp_buildSlice (qs := [vi 0, vi (-1), vi 1]) (need := []) (els := List.map en_int ([0, (-1), 1] : List Int)) 33 rfl sl27 (by decide) (by decide) rfl rfl rfl (.v (.v (.v (.nil)))) (map_len fun _ => rfl) rfl rfl rfl) rfl ⟨_, rfl, rfl⟩ rfl rfl ?_
          obtain ⟨r15, h26, h⟩ := bind_inv h
          refine opN (need := [.ro 12 1 (List.map en_int r6.1), .row 33 3 1 (List.map en_int ([0, (-1), 1] : List Int))]) [1, 0] ⟨rfl, rfl, trivial⟩ (sp_call (avs := [.ref 12, .ref 33]) (need := [.ro 12 1 (List.map en_int r6.1), .row 33 3 1 (List.map en_int ([0, (-1), 1] : List Int))]) (v := .val (.bool r15)) (news := []) rfl rfl rfl Tryz.call14 (atJ [(0, 12), (1, 33)] [] (fc_ref11_Same h26) rfl rfl) (.inr (fun x hx => nomatch hx))) rfl ⟨_, rfl, rfl⟩ rfl rfl ?_
          refine op0 (sp_pickT rfl rfl rfl) rfl trivial rfl rfl ?_
          refine op0 (sp_move rfl rfl) rfl trivial rfl rfl ?_
          rcases cond_cases h with ⟨h27, h⟩ | ⟨h27, h⟩
          · refine (boolLit 126 rfl h27).2 ?_
            refine op0 (sp_move rfl rfl) rfl ⟨_, rfl, rfl⟩ rfl rfl ?_
            refine op0 (sp_buildSlice (qs := [vi 1, vi (-1)]) (need := []) (els := List.map en_int ([1, (-1)] : List Int)) 34 rfl sl27 (by decide) (by decide) rfl rfl rfl (.v (.v (.nil))) (map_len fun _ => rfl) rfl rfl rfl) rfl ⟨_, rfl, rfl⟩ rfl rfl ?_
            obtain ⟨r16, h28, h⟩ := bind_inv h
            refine opN (need := [.ro 17 1 (List.map en_int r8.1), .row 34 3 1 (List.map en_int ([1, (-1)] : List Int))]) [3, 0] ⟨rfl, rfl, trivial⟩ (sp_call (avs := [.ref 17, .ref 34]) (need := [.ro 17 1 (List.map en_int r8.1), .row 34 3 1 (List.map en_int ([1, (-1)] : List Int))]) (v := .val (.bool r16)) (news := []) rfl rfl rfl Tryz.call14 (atJ [(0, 17), (1, 34)] [] (fc_ref11_Same h28) rfl rfl) (.inr (fun x hx => nomatch hx))) rfl ⟨_, rfl, rfl⟩ rfl rfl ?_
            refine op0 (sp_pickT rfl rfl rfl) rfl trivial rfl rfl ?_
            refine op0 (sp_move rfl rfl) rfl trivial rfl rfl ?_
            rcases cond_cases h with ⟨h29, h⟩ | ⟨h29, h⟩
            · refine (boolLit 131 rfl h29).2 ?_
              refine op0 (sp_move rfl rfl) rfl ⟨_, rfl, rfl⟩ rfl rfl ?_
              refine op0 (sp_buildSlice (qs := [vi 0, vi (-1), vi 1]) (need := []) (els := List.map en_int ([0, (-1), 1] : List Int)) 35 rfl sl27 (by decide) (by decide) rfl rfl rfl (.v (.v (.v (.nil)))) (map_len fun _ => rfl) rfl rfl rfl) rfl ⟨_, rfl, rfl⟩ rfl rfl ?_
              refine op0 (sp_build (qs := [(1, .ref 35)]) rfl bt29 rfl rfl rfl rfl) rfl ⟨_, rfl, rfl⟩ rfl rfl ?_
              refine TL.freeze 0 rfl ?_
              refine op1 0 rfl (sp_buildSlice (qs := [.agg [vi 0, .ref 35]]) (need := [.ro 35 1 (List.map en_int ([0, (-1), 1] : List Int))]) (els := List.map en_api_RoundTrip ([(0, ([0, (-1), 1] : List Int))] : List (Int × (List Int)))) 36 rfl sl52 (by decide) (by decide) rfl rfl rfl (.v (.s (mem_at 0 rfl) (.nil))) (map_len fun _ => rfl) rfl rfl rfl) rfl ⟨_, rfl, rfl⟩ rfl rfl ?_
              obtain ⟨r17, h30, h⟩ := bind_inv h
              refine opN (need := [.ro 22 2 (List.map en_api_RoundTrip r10.1), .row 36 29 2 (List.map en_api_RoundTrip ([(0, ([0, (-1), 1] : List Int))] : List (Int × (List Int))))]) [6, 0] ⟨rfl, rfl, trivial⟩ (sp_call (avs := [.ref 22, .ref 36]) (need := [.ro 22 2 (List.map en_api_RoundTrip r10.1), .row 36 29 2 (List.map en_api_RoundTrip ([(0, ([0, (-1), 1] : List Int))] : List (Int × (List Int))))]) (v := .val (.bool r17)) (news := []) rfl rfl rfl Tryz.call21 (atJ [(0, 22), (1, 36)] [] (fc_ref11_Equal h30) rfl rfl) (.inr (fun x hx => nomatch hx))) rfl ⟨_, rfl, rfl⟩ rfl rfl ?_
              refine op0 (sp_pickT rfl rfl rfl) rfl trivial rfl rfl ?_
              refine op0 (sp_move rfl rfl) rfl trivial rfl rfl ?_
              rcases cond_cases h with ⟨h31, h⟩ | ⟨h31, h⟩
              · refine (boolLit 138 rfl h31).2 ?_
                refine op0 (sp_move rfl rfl) rfl ⟨_, rfl, rfl⟩ rfl rfl ?_
                refine op0 (sp_buildSlice (qs := [vi 3, vi 1]) (need := []) (els := List.map en_int ([3, 1] : List Int)) 37 rfl sl27 (by decide) (by decide) rfl rfl rfl (.v (.v (.nil))) (map_len fun _ => rfl) rfl rfl rfl) rfl ⟨_, rfl, rfl⟩ rfl rfl ?_
                obtain ⟨r18, h32, h⟩ := bind_inv h
                refine opN (need := [.row 29 3 1 (List.map en_int r12.1), .row 37 3 1 (List.map en_int ([3, 1] : List Int))]) [8, 0] ⟨rfl, rfl, trivial⟩ (sp_call (avs := [.ref 29, .ref 37]) (need := [.row 29 3 1 (List.map en_int r12.1), .row 37 3 1 (List.map en_int ([3, 1] : List Int))]) (v := .val (.bool r18)) (news := []) rfl rfl rfl Tryz.call14 (atJ [(0, 29), (1, 37)] [] (fc_ref11_Same h32) rfl rfl) (.inr (fun x hx => nomatch hx))) rfl ⟨_, rfl, rfl⟩ rfl rfl ?_
                refine op0 (sp_pickT rfl rfl rfl) rfl trivial rfl rfl ?_
                refine op0 (sp_move rfl rfl) rfl trivial rfl rfl ?_
                rcases cond_cases h with ⟨h33, h⟩ | ⟨h33, h⟩
                · refine (boolLit 143 rfl h33).2 ?_
                  refine op0 (sp_move rfl rfl) rfl ⟨_, rfl, rfl⟩ rfl rfl ?_
                  refine op0 (sp_eql rfl rfl rfl) rfl ⟨_, rfl, rfl⟩ rfl rfl ?_
                  refine op0 (sp_pickT rfl rfl rfl) rfl trivial rfl rfl ?_
                  refine op0 (sp_move rfl rfl) rfl trivial rfl rfl ?_
                  rcases cond_cases h with ⟨h34, h⟩ | ⟨h34, h⟩
                  · refine (boolLit 147 rfl h34).2 ?_
                    refine op0 (sp_move rfl rfl) rfl ⟨_, rfl, rfl⟩ rfl rfl ?_
                    refine op0 (sp_eql rfl rfl rfl) rfl ⟨_, rfl, rfl⟩ rfl rfl ?_
                    refine op0 (sp_pickT rfl rfl rfl) rfl trivial rfl rfl ?_
                    refine op0 (sp_assign rfl rfl) rfl trivial rfl rfl ?_
                    refine TL.nil ?_
                    cases h
                    exact retJ [] (.tmp rfl .nil) rfl trivial rfl rfl
                  · refine (boolLit 147 rfl h34).2 ?_
                    refine opSkip rfl ⟨_, rfl, .inl rfl⟩ rfl ?_
                    refine opSkip rfl ⟨_, rfl, .inl rfl⟩ rfl ?_
                    refine op0 (sp_pickF rfl rfl rfl) rfl trivial rfl rfl ?_
                    refine op0 (sp_assign rfl rfl) rfl trivial rfl rfl ?_
                    refine TL.nil ?_
                    cases h
                    exact retJ [] (.tmp rfl .nil) rfl trivial rfl rfl
                · refine (boolLit 143 rfl h33).2 ?_
                  refine opSkip rfl ⟨_, rfl, .inl rfl⟩ rfl ?_
                  refine opSkip rfl ⟨_, rfl, .inl rfl⟩ rfl ?_
                  refine op0 (sp_pickF rfl rfl rfl) rfl trivial rfl rfl ?_
                  refine op0 (sp_move rfl rfl) rfl trivial rfl rfl ?_
                  refine opSkip rfl ⟨_, rfl, .inl rfl⟩ rfl ?_
                  refine opSkip rfl ⟨_, rfl, .inl rfl⟩ rfl ?_
                  refine op0 (sp_pickF rfl rfl rfl) rfl trivial rfl rfl ?_
                  refine op0 (sp_assign rfl rfl) rfl trivial rfl rfl ?_
                  refine TL.nil ?_
                  cases h
                  exact retJ [] (.tmp rfl .nil) rfl trivial rfl rfl
              · refine (boolLit 138 rfl h31).2 ?_
                refine opSkip rfl ⟨_, rfl, .inl rfl⟩ rfl ?_
                refine opSkip rfl ⟨_, rfl, .inl rfl⟩ rfl ?_
                refine opSkip rfl ⟨_, rfl, .inl rfl⟩ rfl ?_
                refine op0 (sp_pickF rfl rfl rfl) rfl trivial rfl rfl ?_
                refine op0 (sp_move rfl rfl) rfl trivial rfl rfl ?_
                refine opSkip rfl ⟨_, rfl, .inl rfl⟩ rfl ?_
                refine opSkip rfl ⟨_, rfl, .inl rfl⟩ rfl ?_
                refine op0 (sp_pickF rfl rfl rfl) rfl trivial rfl rfl ?_
                refine op0 (sp_move rfl rfl) rfl trivial rfl rfl ?_
                refine opSkip rfl ⟨_, rfl, .inl rfl⟩ rfl ?_
                refine opSkip rfl ⟨_, rfl, .inl rfl⟩ rfl ?_
                refine op0 (sp_pickF rfl rfl rfl) rfl trivial rfl rfl ?_
                refine op0 (sp_assign rfl rfl) rfl trivial rfl rfl ?_
                refine TL.nil ?_
                cases h
                exact retJ [] (.tmp rfl .nil) rfl trivial rfl rfl
            · refine (boolLit 131 rfl h29).2 ?_
              refine opSkip rfl ⟨_, rfl, .inl rfl⟩ rfl ?_
              refine opSkip rfl ⟨_, rfl, .inl rfl⟩ rfl ?_
              refine opSkip rfl ⟨_, rfl, .inl rfl⟩ rfl ?_
              refine opSkip rfl ⟨_, rfl, .inl rfl⟩ rfl ?_
              refine opSkip rfl ⟨_, rfl, .inl rfl⟩ rfl ?_
              refine op0 (sp_pickF rfl rfl rfl) rfl trivial rfl rfl ?_
              refine op0 (sp_move rfl rfl) rfl trivial rfl rfl ?_
              refine opSkip rfl ⟨_, rfl, .inl rfl⟩ rfl ?_
              refine opSkip rfl ⟨_, rfl, .inl rfl⟩ rfl ?_
              refine opSkip rfl ⟨_, rfl, .inl rfl⟩ rfl ?_
              refine op0 (sp_pickF rfl rfl rfl) rfl trivial rfl rfl ?_
              refine op0 (sp_move rfl rfl) rfl trivial rfl rfl ?_
              refine opSkip rfl ⟨_, rfl, .inl rfl⟩ rfl ?_
              refine opSkip rfl ⟨_, rfl, .inl rfl⟩ rfl ?_
              refine op0 (sp_pickF rfl rfl rfl) rfl trivial rfl rfl ?_
              refine op0 (sp_move rfl rfl) rfl trivial rfl rfl ?_
              refine opSkip rfl ⟨_, rfl, .inl rfl⟩ rfl ?_
              refine opSkip rfl ⟨_, rfl, .inl rfl⟩ rfl ?_
              refine op0 (sp_pickF rfl rfl rfl) rfl trivial rfl rfl ?_
              refine op0 (sp_assign rfl rfl) rfl trivial rfl rfl ?_
              refine TL.nil ?_
              cases h
              exact retJ [] (.tmp rfl .nil) rfl trivial rfl rfl
          · refine (boolLit 126 rfl h27).2 ?_
            refine opSkip rfl ⟨_, rfl, .inl rfl⟩ rfl ?_
            refine opSkip rfl ⟨_, rfl, .inl rfl⟩ rfl ?_
            refine opSkip rfl ⟨_, rfl, .inl rfl⟩ rfl ?_
            refine op0 (sp_pickF rfl rfl rfl) rfl trivial rfl rfl ?_
            refine op0 (sp_move rfl rfl) rfl trivial rfl rfl ?_
            refine opSkip rfl ⟨_, rfl, .inl rfl⟩ rfl ?_
            refine opSkip rfl ⟨_, rfl, .inl rfl⟩ rfl ?_
            refine opSkip rfl ⟨_, rfl, .inl rfl⟩ rfl ?_
            refine opSkip rfl ⟨_, rfl, .inl rfl⟩ rfl ?_
            refine opSkip rfl ⟨_, rfl, .inl rfl⟩ rfl ?_
            refine op0 (sp_pickF rfl rfl rfl) rfl trivial rfl rfl ?_
            refine op0 (sp_move rfl rfl) rfl trivial rfl rfl ?_
            refine opSkip rfl ⟨_, rfl, .inl rfl⟩ rfl ?_
            refine opSkip rfl ⟨_, rfl, .inl rfl⟩ rfl ?_
            refine opSkip rfl ⟨_, rfl, .inl rfl⟩ rfl ?_
            refine op0 (sp_pickF rfl rfl rfl) rfl trivial rfl rfl ?_
            refine op0 (sp_move rfl rfl) rfl trivial rfl rfl ?_
            refine opSkip rfl ⟨_, rfl, .inl rfl⟩ rfl ?_
            refine opSkip rfl ⟨_, rfl, .inl rfl⟩ rfl ?_
            refine op0 (sp_pickF rfl rfl rfl) rfl trivial rfl rfl ?_
            refine op0 (sp_move rfl rfl) rfl trivial rfl rfl ?_
            refine opSkip rfl ⟨_, rfl, .inl rfl⟩ rfl ?_
            refine opSkip rfl ⟨_, rfl, .inl rfl⟩ rfl ?_
            refine op0 (sp_pickF rfl rfl rfl) rfl trivial rfl rfl ?_
            refine op0 (sp_assign rfl rfl) rfl trivial rfl rfl ?_
            refine TL.nil ?_
            cases h
            exact retJ [] (.tmp rfl .nil) rfl trivial rfl rfl
        · refine (boolLit 121 rfl h25).2 ?_
          refine opSkip rfl ⟨_, rfl, .inl rfl⟩ rfl ?_
          refine opSkip rfl ⟨_, rfl, .inl rfl⟩ rfl ?_
          refine opSkip rfl ⟨_, rfl, .inl rfl⟩ rfl ?_
          refine op0 (sp_pickF rfl rfl rfl) rfl trivial rfl rfl ?_
          refine op0 (sp_move rfl rfl) rfl trivial rfl rfl ?_
          refine opSkip rfl ⟨_, rfl, .inl rfl⟩ rfl ?_
          refine opSkip rfl ⟨_, rfl, .inl rfl⟩ rfl ?_
          refine opSkip rfl ⟨_, rfl, .inl rfl⟩ rfl ?_
          refine op0 (sp_pickF rfl rfl rfl) rfl trivial rfl rfl ?_
          refine op0 (sp_move rfl rfl) rfl trivial rfl rfl ?_
          refine opSkip rfl ⟨_, rfl, .inl rfl⟩ rfl ?_
          refine opSkip rfl ⟨_, rfl, .inl rfl⟩ rfl ?_
          refine opSkip rfl ⟨_, rfl, .inl rfl⟩ rfl ?_
          refine opSkip rfl ⟨_, rfl, .inl rfl⟩ rfl ?_
          refine opSkip rfl ⟨_, rfl, .inl rfl⟩ rfl ?_
          refine op0 (sp_pickF rfl rfl rfl) rfl trivial rfl rfl ?_
          refine op0 (sp_move rfl rfl) rfl trivial rfl rfl ?_
          refine opSkip rfl ⟨_, rfl, .inl rfl⟩ rfl ?_
          refine opSkip rfl ⟨_, rfl, .inl rfl⟩ rfl ?_
          refine opSkip rfl ⟨_, rfl, .inl rfl⟩ rfl ?_
          refine op0 (sp_pickF rfl rfl rfl) rfl trivial rfl rfl ?_
          refine op0 (sp_move rfl rfl) rfl trivial rfl rfl ?_
          refine opSkip rfl ⟨_, rfl, .inl rfl⟩ rfl ?_
          refine opSkip rfl ⟨_, rfl, .inl rfl⟩ rfl ?_
          refine op0 (sp_pickF rfl rfl rfl) rfl trivial rfl rfl ?_
          refine op0 (sp_move rfl rfl) rfl trivial rfl rfl ?_
          refine opSkip rfl ⟨_, rfl, .inl rfl⟩ rfl ?_
          refine opSkip rfl ⟨_, rfl, .inl rfl⟩ rfl ?_
          refine op0 (sp_pickF rfl rfl rfl) rfl trivial rfl rfl ?_
          refine op0 (sp_assign rfl rfl) rfl trivial rfl rfl ?_
          refine TL.nil ?_
          cases h
          exact retJ [] (.tmp rfl .nil) rfl trivial rfl rfl
      · refine (boolLit 117 rfl h24).2 ?_
        refine opSkip rfl ⟨_, rfl, .inl rfl⟩ rfl ?_
        refine opSkip rfl ⟨_, rfl, .inl rfl⟩ rfl ?_
        refine op0 (sp_pickF rfl rfl rfl) rfl trivial rfl rfl ?_
        refine op0 (sp_move rfl rfl) rfl trivial rfl rfl ?_
        refine opSkip rfl ⟨_, rfl, .inl rfl⟩ rfl ?_
        refine opSkip rfl ⟨_, rfl, .inl rfl⟩ rfl ?_
        refine opSkip rfl ⟨_, rfl, .inl rfl⟩ rfl ?_
        refine op0 (sp_pickF rfl rfl rfl) rfl trivial rfl rfl ?_
        refine op0 (sp_move rfl rfl) rfl trivial rfl rfl ?_
        refine opSkip rfl ⟨_, rfl, .inl rfl⟩ rfl ?_
        refine opSkip rfl ⟨_, rfl, .inl rfl⟩ rfl ?_
        refine opSkip rfl ⟨_, rfl, .inl rfl⟩ rfl ?_
        refine op0 (sp_pickF rfl rfl rfl) rfl trivial rfl rfl ?_
        refine op0 (sp_move rfl rfl) rfl trivial rfl rfl ?_
        refine opSkip rfl ⟨_, rfl, .inl rfl⟩ rfl ?_
        refine opSkip rfl ⟨_, rfl, .inl rfl⟩ rfl ?_
        refine opSkip rfl ⟨_, rfl, .inl rfl⟩ rfl ?_
        refine opSkip rfl ⟨_, rfl, .inl rfl⟩ rfl ?_
        refine opSkip rfl ⟨_, rfl, .inl rfl⟩ rfl ?_
        refine op0 (sp_pickF rfl rfl rfl) rfl trivial rfl rfl ?_
        refine op0 (sp_move rfl rfl) rfl trivial rfl rfl ?_
        refine opSkip rfl ⟨_, rfl, .inl rfl⟩ rfl ?_
        refine opSkip rfl ⟨_, rfl, .inl rfl⟩ rfl ?_
        refine opSkip rfl ⟨_, rfl, .inl rfl⟩ rfl ?_
        refine op0 (sp_pickF rfl rfl rfl) rfl trivial rfl rfl ?_
        refine op0 (sp_move rfl rfl) rfl trivial rfl rfl ?_
        refine opSkip rfl ⟨_, rfl, .inl rfl⟩ rfl ?_
        refine opSkip rfl ⟨_, rfl, .inl rfl⟩ rfl ?_
        refine op0 (sp_pickF rfl rfl rfl) rfl trivial rfl rfl ?_
        refine op0 (sp_move rfl rfl) rfl trivial rfl rfl ?_
        refine opSkip rfl ⟨_, rfl, .inl rfl⟩ rfl ?_
        refine opSkip rfl ⟨_, rfl, .inl rfl⟩ rfl ?_
        refine op0 (sp_pickF rfl rfl rfl) rfl trivial rfl rfl ?_
        refine op0 (sp_assign rfl rfl) rfl trivial rfl rfl ?_
        refine TL.nil ?_
        cases h
        exact retJ [] (.tmp rfl .nil) rfl trivial rfl rfl
    · refine (boolLit 113 rfl h23).2 ?_
      refine opSkip rfl ⟨_, rfl, .inl rfl⟩ rfl ?_
      refine opSkip rfl ⟨_, rfl, .inl rfl⟩ rfl ?_
      refine op0 (sp_pickF rfl rfl rfl) rfl trivial rfl rfl ?_
      refine op0 (sp_move rfl rfl) rfl trivial rfl rfl ?_
      refine opSkip rfl ⟨_, rfl, .inl rfl⟩ rfl ?_
      refine opSkip rfl ⟨_, rfl, .inl rfl⟩ rfl ?_
      refine op0 (sp_pickF rfl rfl rfl) rfl trivial rfl rfl ?_
      refine op0 (sp_move rfl rfl) rfl trivial rfl rfl ?_
      refine opSkip rfl ⟨_, rfl, .inl rfl⟩ rfl ?_
      refine opSkip rfl ⟨_, rfl, .inl rfl⟩ rfl ?_
      refine opSkip rfl ⟨_, rfl, .inl rfl⟩ rfl ?_
      refine op0 (sp_pickF rfl rfl rfl) rfl trivial rfl rfl ?_
      refine op0 (sp_move rfl rfl) rfl trivial rfl rfl ?_
      refine opSkip rfl ⟨_, rfl, .inl rfl⟩ rfl ?_
      refine opSkip rfl ⟨_, rfl, .inl rfl⟩ rfl ?_
      refine opSkip rfl ⟨_, rfl, .inl rfl⟩ rfl ?_
      refine op0 (sp_pickF rfl rfl rfl) rfl trivial rfl rfl ?_
      refine op0 (sp_move rfl rfl) rfl trivial rfl rfl ?_
      refine opSkip rfl ⟨_, rfl, .inl rfl⟩ rfl ?_
      refine opSkip rfl ⟨_, rfl, .inl rfl⟩ rfl ?_
      refine opSkip rfl ⟨_, rfl, .inl rfl⟩ rfl ?_
      refine opSkip rfl ⟨_, rfl, .inl rfl⟩ rfl ?_
      refine opSkip rfl ⟨_, rfl, .inl rfl⟩ rfl ?_
      refine op0 (sp_pickF rfl rfl rfl) rfl trivial rfl rfl ?_
      refine op0 (sp_move rfl rfl) rfl trivial rfl rfl ?_
      refine opSkip rfl ⟨_, rfl, .inl rfl⟩ rfl ?_
      refine opSkip rfl ⟨_, rfl, .inl rfl⟩ rfl ?_
      refine opSkip rfl ⟨_, rfl, .inl rfl⟩ rfl ?_
      refine op0 (sp_pickF rfl rfl rfl) rfl trivial rfl rfl ?_
      refine op0 (sp_move rfl rfl) rfl trivial rfl rfl ?_
      refine opSkip rfl ⟨_, rfl, .inl rfl⟩ rfl ?_
      refine opSkip rfl ⟨_, rfl, .inl rfl⟩ rfl ?_
      refine op0 (sp_pickF rfl rfl rfl) rfl trivial rfl rfl ?_
      refine op0 (sp_move rfl rfl) rfl trivial rfl rfl ?_
      refine opSkip rfl ⟨_, rfl, .inl rfl⟩ rfl ?_
      refine opSkip rfl ⟨_, rfl, .inl rfl⟩ rfl ?_
      refine op0 (sp_pickF rfl rfl rfl) rfl trivial rfl rfl ?_
      refine op0 (sp_assign rfl rfl) rfl trivial rfl rfl ?_
      refine TL.nil ?_
      cases h
      exact retJ [] (.tmp rfl .nil) rfl trivial rfl rfl
  · refine (boolLit 109 rfl h22).2 ?_
    refine opSkip rfl ⟨_, rfl, .inl rfl⟩ rfl ?_
    refine opSkip rfl ⟨_, rfl, .inl rfl⟩ rfl ?_
    refine op0 (sp_pickF rfl rfl rfl) rfl trivial rfl rfl ?_
    refine op0 (sp_move rfl rfl) rfl trivial rfl rfl ?_
    refine opSkip rfl ⟨_, rfl, .inl rfl⟩ rfl ?_
    refine opSkip rfl ⟨_, rfl, .inl rfl⟩ rfl ?_
    refine op0 (sp_pickF rfl rfl rfl) rfl trivial rfl rfl ?_
    refine op0 (sp_move rfl rfl) rfl trivial rfl rfl ?_
    refine opSkip rfl ⟨_, rfl, .inl rfl⟩ rfl ?_
    refine opSkip rfl ⟨_, rfl, .inl rfl⟩ rfl ?_
    refine op0 (sp_pickF rfl rfl rfl) rfl trivial rfl rfl ?_
    refine op0 (sp_move rfl rfl) rfl trivial rfl rfl ?_
    refine opSkip rfl ⟨_, rfl, .inl rfl⟩ rfl ?_
    refine opSkip rfl ⟨_, rfl, .inl rfl⟩ rfl ?_
    refine opSkip rfl ⟨_, rfl, .inl rfl⟩ rfl ?_
    refine op0 (sp_pickF rfl rfl rfl) rfl trivial rfl rfl ?_
    refine op0 (sp_move rfl rfl) rfl trivial rfl rfl ?_
    refine opSkip rfl ⟨_, rfl, .inl rfl⟩ rfl ?_
    refine opSkip rfl ⟨_, rfl, .inl rfl⟩ rfl ?_
    refine opSkip rfl ⟨_, rfl, .inl rfl⟩ rfl ?_
    refine op0 (sp_pickF rfl rfl rfl) rfl trivial rfl rfl ?_
    refine op0 (sp_move rfl rfl) rfl trivial rfl rfl ?_
    refine opSkip rfl ⟨_, rfl, .inl rfl⟩ rfl ?_
    refine opSkip rfl ⟨_, rfl, .inl rfl⟩ rfl ?_
    refine opSkip rfl ⟨_, rfl, .inl rfl⟩ rfl ?_
    refine opSkip rfl ⟨_, rfl, .inl rfl⟩ rfl ?_
    refine opSkip rfl ⟨_, rfl, .inl rfl⟩ rfl ?_
    refine op0 (sp_pickF rfl rfl rfl) rfl trivial rfl rfl ?_
    refine op0 (sp_move rfl rfl) rfl trivial rfl rfl ?_
    refine opSkip rfl ⟨_, rfl, .inl rfl⟩ rfl ?_
    refine opSkip rfl ⟨_, rfl, .inl rfl⟩ rfl ?_
    refine opSkip rfl ⟨_, rfl, .inl rfl⟩ rfl ?_
    refine op0 (sp_pickF rfl rfl rfl) rfl trivial rfl rfl ?_
    refine op0 (sp_move rfl rfl) rfl trivial rfl rfl ?_
    refine opSkip rfl ⟨_, rfl, .inl rfl⟩ rfl ?_
    refine opSkip rfl ⟨_, rfl, .inl rfl⟩ rfl ?_
    refine op0 (sp_pickF rfl rfl rfl) rfl trivial rfl rfl ?_
    refine op0 (sp_move rfl rfl) rfl trivial rfl rfl ?_
    refine opSkip rfl ⟨_, rfl, .inl rfl⟩ rfl ?_
    refine opSkip rfl ⟨_, rfl, .inl rfl⟩ rfl ?_
    refine op0 (sp_pickF rfl rfl rfl) rfl trivial rfl rfl ?_
    refine op0 (sp_assign rfl rfl) rfl trivial rfl rfl ?_
    refine TL.nil ?_
    cases h
    exact retJ [] (.tmp rfl .nil) rfl trivial rfl rfl
def ev_law11_known (n : Nat) : Option Bool :=
  (ev_law11_two n).bind fun r1 => (ev_round_Walk n r1.1 r1.2.1 r1.2.2.1 r1.2.2.2.1 r1.2.2.2.2 0 ([0, 1] : List Int)).bind fun r2 => (ev_law11_two n).bind fun r3 => (ev_round_Walk n r3.1 r3.2.1 r3.2.2.1 r3.2.2.2.1 r3.2.2.2.2 0 ([0, 1, (-1)] : List Int)).bind fun r4 => (ev_law11_two n).bind fun r5 => (ev_round_Best n r5.1 r5.2.1 r5.2.2.1 r5.2.2.2.1 r5.2.2.2.2 0 ([1, 0] : List Int)).bind fun r6 => (ev_law11_two n).bind fun r7 => (ev_round_Best n r7.1 r7.2.1 r7.2.2.1 r7.2.2.2.1 r7.2.2.2.2 1 ([1] : List Int)).bind fun r8 => (ev_law11_two n).bind fun r9 => (ev_round_Fewest n r9.1 r9.2.1 r9.2.2.1 r9.2.2.2.1 r9.2.2.2.2 ([0, 1] : List Int)).bind fun r10 => (ev_law11_two n).bind fun r11 => (ev_round_Left n r11.1 r11.2.1 r11.2.2.1 r11.2.2.2.1 r11.2.2.2.2 ([(2, ([1] : List Int)), (4, ([1] : List Int))] : List (Int × (List Int))) 5).bind fun r12 => (ev_law11_two n).bind fun r13 => (ev_round_Stops n r13.1 r13.2.1 r13.2.2.1 r13.2.2.2.1 r13.2.2.2.2 ([(2, ([1] : List Int)), (4, ([1] : List Int))] : List (Int × (List Int))) 10).bind fun r14 => cond (r2.2.2.2 != 111) (some false) (cond (r4.2.2.2 != 0) (some false) (cond (r6.2.2 != 0) (some false) (cond (r8.2.2 != 0) (some false) (cond (r10.2.2 != 0) (some false) (cond (r12.2 != 0) (some false) (cond (r14.2.2 != 0) (some false) (ev_law11_known_j0 n r2 r4 r6 r8 r10 r12 r14)))))))
theorem fc_law11_known {n : Nat}  {r : Bool} (h : ev_law11_known n = some r) : FC Tryz.prog 7 [] [] (.val (.bool r)) [] := by
  refine introJ (nz := 151) Tryz.func7 rfl rfl rfl (fun w0 R0 env0 => ?_)
  rw [ev_law11_known] at h
  refine TC.seq ?_
  refine TC.region ?_
  refine op0 (sp_assign rfl rfl) rfl trivial rfl rfl ?_
  refine TL.nil ?_
  refine TC.seq ?_
  refine TC.region ?_
  obtain ⟨r1, h1, h⟩ := bind_inv h
  refine op0 (sp_call (avs := []) (need := []) (v := .agg [.ref 0, .ref 1, .ref 2, vi r1.2.2.2.1, vi r1.2.2.2.2]) (news := [.row 0 71 5 (List.map en_api_RoundTower r1.1), .row 1 27 1 (List.map en_Lint r1.2.1), .row 2 50 4 (List.map en_api_RoundWinder r1.2.2.1)]) rfl rfl rfl Tryz.call22 (atJ [] [] (fc_law11_two h1) rfl rfl) (.inl (roAll rfl))) rfl trivial rfl rfl ?_
  refine op0 (sp_buildSlice (qs := [vi 0, vi 1]) (need := []) (els := List.map en_int ([0, 1] : List Int)) 3 rfl sl27 (by decide) (by decide) rfl rfl rfl (.v (.v (.nil))) (map_len fun _ => rfl) rfl rfl rfl) rfl trivial rfl rfl ?_
  refine op0 (sp_build (qs := [(1, .ref 3)]) rfl bt29 rfl rfl rfl rfl) rfl trivial rfl rfl ?_
  obtain ⟨r2, h2, h⟩ := bind_inv h
  refine opN (need := [.row 0 71 5 (List.map en_api_RoundTower r1.1), .row 1 27 1 (List.map en_Lint r1.2.1), .row 2 50 4 (List.map en_api_RoundWinder r1.2.2.1), .row 3 3 1 (List.map en_int ([0, 1] : List Int))]) [1, 2, 3, 0] ⟨rfl, rfl, rfl, rfl, trivial⟩ (sp_call (avs := [.agg [.ref 0, .ref 1, .ref 2, vi r1.2.2.2.1, vi r1.2.2.2.2], .agg [vi 0, .ref 3]]) (need := [.row 0 71 5 (List.map en_api_RoundTower r1.1), .row 1 27 1 (List.map en_Lint r1.2.1), .row 2 50 4 (List.map en_api_RoundWinder r1.2.2.1), .row 3 3 1 (List.map en_int ([0, 1] : List Int))]) (v := .tup [vi r2.1, vi r2.2.1, vi r2.2.2.1, vi r2.2.2.2]) (news := []) rfl rfl rfl Tryz.call11 (atJ [] [] (fc_round_Walk h2) rfl rfl) (.inr (fun x hx => nomatch hx))) rfl trivial rfl rfl ?_
  refine op0 (sp_move rfl rfl) rfl trivial rfl rfl ?_
  refine op0 (sp_extract rfl rfl rfl) rfl trivial rfl rfl ?_
  refine op0 (sp_extract rfl rfl rfl) rfl trivial rfl rfl ?_
  refine op0 (sp_extract rfl rfl rfl) rfl trivial rfl rfl ?_
  refine op0 (sp_extract rfl rfl rfl) rfl trivial rfl rfl ?_
  refine op0 (sp_assign rfl rfl) rfl trivial rfl rfl ?_
  refine op0 (sp_assign rfl rfl) rfl trivial rfl rfl ?_
  refine op0 (sp_assign rfl rfl) rfl trivial rfl rfl ?_
  refine op0 (sp_assign rfl rfl) rfl trivial rfl rfl ?_
  refine TL.nil ?_
  refine TC.seq ?_
  refine TC.region ?_
  obtain ⟨r3, h3, h⟩ := bind_inv h
  refine op0 (sp_call (avs := []) (need := []) (v := .agg [.ref 4, .ref 5, .ref 6, vi r3.2.2.2.1, vi r3.2.2.2.2]) (news := [.row 4 71 5 (List.map en_api_RoundTower r3.1), .row 5 27 1 (List.map en_Lint r3.2.1), .row 6 50 4 (List.map en_api_RoundWinder r3.2.2.1)]) rfl rfl rfl Tryz.call22 (atJ [] [(0, 4), (1, 5), (2, 6)] (fc_law11_two h3) rfl rfl) (.inl (roAll rfl))) rfl trivial rfl rfl ?_
  refine op0 (sp_buildSlice (qs := [vi 0, vi 1, vi (-1)]) (need := []) (els := List.map en_int ([0, 1, (-1)] : List Int)) 7 rfl sl27 (by decide) (by decide) rfl rfl rfl (.v (.v (.v (.nil)))) (map_len fun _ => rfl) rfl rfl rfl) rfl trivial rfl rfl ?_
  refine op0 (sp_build (qs := [(1, .ref 7)]) rfl bt29 rfl rfl rfl rfl) rfl trivial rfl rfl ?_
  obtain ⟨r4, h4, h⟩ := bind_inv h
  refine opN (need := [.row 4 71 5 (List.map en_api_RoundTower r3.1), .row 5 27 1 (List.map en_Lint r3.2.1), .row 6 50 4 (List.map en_api_RoundWinder r3.2.2.1), .row 7 3 1 (List.map en_int ([0, 1, (-1)] : List Int))]) [1, 2, 3, 0] ⟨rfl, rfl, rfl, rfl, trivial⟩ (sp_call (avs := [.agg [.ref 4, .ref 5, .ref 6, vi r3.2.2.2.1, vi r3.2.2.2.2], .agg [vi 0, .ref 7]]) (need := [.row 4 71 5 (List.map en_api_RoundTower r3.1), .row 5 27 1 (List.map en_Lint r3.2.1), .row 6 50 4 (List.map en_api_RoundWinder r3.2.2.1), .row 7 3 1 (List.map en_int ([0, 1, (-1)] : List Int))]) (v := .tup [vi r4.1, vi r4.2.1, vi r4.2.2.1, vi r4.2.2.2]) (news := []) rfl rfl rfl Tryz.call11 (atJ [(0, 4), (1, 5), (2, 6), (3, 7)] [] (fc_round_Walk h4) rfl rfl) (.inr (fun x hx => nomatch hx))) rfl trivial rfl rfl ?_
  refine op0 (sp_move rfl rfl) rfl trivial rfl rfl ?_
  refine op0 (sp_extract rfl rfl rfl) rfl trivial rfl rfl ?_
  refine op0 (sp_extract rfl rfl rfl) rfl trivial rfl rfl ?_
  refine op0 (sp_extract rfl rfl rfl) rfl trivial rfl rfl ?_
  refine op0 (sp_extract rfl rfl rfl) rfl trivial rfl rfl ?_
  refine op0 (sp_assign rfl rfl) rfl trivial rfl rfl ?_
  refine op0 (sp_assign rfl rfl) rfl trivial rfl rfl ?_
  refine op0 (sp_assign rfl rfl) rfl trivial rfl rfl ?_
  refine op0 (sp_assign rfl rfl) rfl trivial rfl rfl ?_
  refine TL.nil ?_
  refine TC.seq ?_
  refine TC.region ?_
  obtain ⟨r5, h5, h⟩ := bind_inv h
  refine op0 (sp_call (avs := []) (need := []) (v := .agg [.ref 8, .ref 9, .ref 10, vi r5.2.2.2.1, vi r5.2.2.2.2]) (news := [.row 8 71 5 (List.map en_api_RoundTower r5.1), .row 9 27 1 (List.map en_Lint r5.2.1), .row 10 50 4 (List.map en_api_RoundWinder r5.2.2.1)]) rfl rfl rfl Tryz.call22 (atJ [] [(0, 8), (1, 9), (2, 10)] (fc_law11_two h5) rfl rfl) (.inl (roAll rfl))) rfl trivial rfl rfl ?_
  refine op0 (sp_buildSlice (qs := [vi 1, vi 0]) (need := []) (els := List.map en_int ([1, 0] : List Int)) 11 rfl sl27 (by decide) (by decide) rfl rfl rfl (.v (.v (.nil))) (map_len fun _ => rfl) rfl rfl rfl) rfl trivial rfl rfl ?_
  refine TL.freeze 1 rfl ?_
  refine TL.freeze 2 rfl ?_
  refine TL.freeze 3 rfl ?_
  refine TL.freeze 0 rfl ?_
  obtain ⟨r6, h6, h⟩ := bind_inv h
  refine opN (need := [.ro 8 5 (List.map en_api_RoundTower r5.1), .ro 9 1 (List.map en_Lint r5.2.1), .ro 10 4 (List.map en_api_RoundWinder r5.2.2.1), .ro 11 1 (List.map en_int ([1, 0] : List Int))]) [1, 2, 3, 0] ⟨rfl, rfl, rfl, rfl, trivial⟩ (sp_call (avs := [.agg [.ref 8, .ref 9, .ref 10, vi r5.2.2.2.1, vi r5.2.2.2.2], vi 0, .ref 11]) (need := [.ro 8 5 (List.map en_api_RoundTower r5.1), .ro 9 1 (List.map en_Lint r5.2.1), .ro 10 4 (List.map en_api_RoundWinder r5.2.2.1), .ro 11 1 (List.map en_int ([1, 0] : List Int))]) (v := .tup [.ref 12, vi r6.2.1, vi r6.2.2]) (news := [.ro 12 1 (List.map en_int r6.1)]) rfl rfl rfl Tryz.call16 (atJ [(0, 8), (1, 9), (2, 10), (3, 11)] [(0, 12)] (fc_round_Best h6) rfl rfl) (.inl (roAll rfl))) rfl trivial rfl rfl ?_
  refine op0 (sp_move rfl rfl) rfl trivial rfl rfl ?_
  refine op0 (sp_extract rfl rfl rfl) rfl trivial rfl rfl ?_
  refine op0 (sp_extract rfl rfl rfl) rfl trivial rfl rfl ?_
  refine op0 (sp_extract rfl rfl rfl) rfl trivial rfl rfl ?_
  refine op0 (sp_assign rfl rfl) rfl trivial rfl rfl ?_
  refine op0 (sp_assign rfl rfl) rfl trivial rfl rfl ?_
  refine op0 (sp_assign rfl rfl) rfl trivial rfl rfl ?_
  refine TL.nil ?_
  refine TC.seq ?_
  refine TC.region ?_
  obtain ⟨r7, h7, h⟩ := bind_inv h
  refine op0 (sp_call (avs := []) (need := []) (v := .agg [.ref 13, .ref 14, .ref 15, vi r7.2.2.2.1, vi r7.2.2.2.2]) (news := [.row 13 71 5 (List.map en_api_RoundTower r7.1), .row 14 27 1 (List.map en_Lint r7.2.1), .row 15 50 4 (List.map en_api_RoundWinder r7.2.2.1)]) rfl rfl rfl Tryz.call22 (atJ [] [(0, 13), (1, 14), (2, 15)] (fc_law11_two h7) rfl rfl) (.inl (roAll rfl))) rfl trivial rfl rfl ?_
  refine op0 (sp_buildSlice (qs := [vi 1]) (need := []) (els := List.map en_int ([1] : List Int)) 16 rfl sl27 (by decide) (by decide) rfl rfl rfl (.v (.nil)) (map_len fun _ => rfl) rfl rfl rfl) rfl trivial rfl rfl ?_
  refine TL.freeze 1 rfl ?_
  refine TL.freeze 2 rfl ?_
  refine TL.freeze 3 rfl ?_
  refine TL.freeze 0 rfl ?_
  obtain ⟨r8, h8, h⟩ := bind_inv h
  refine opN (need := [.ro 13 5 (List.map en_api_RoundTower r7.1), .ro 14 1 (List.map en_Lint r7.2.1), .ro 15 4 (List.map en_api_RoundWinder r7.2.2.1), .ro 16 1 (List.map en_int ([1] : List Int))]) [1, 2, 3, 0] ⟨rfl, rfl, rfl, rfl, trivial⟩ (sp_call (avs := [.agg [.ref 13, .ref 14, .ref 15, vi r7.2.2.2.1, vi r7.2.2.2.2], vi 1, .ref 16]) (need := [.ro 13 5 (List.map en_api_RoundTower r7.1), .ro 14 1 (List.map en_Lint r7.2.1), .ro 15 4 (List.map en_api_RoundWinder r7.2.2.1), .ro 16 1 (List.map en_int ([1] : List Int))]) (v := .tup [.ref 17, vi r8.2.1, vi r8.2.2]) (news := [.ro 17 1 (List.map en_int r8.1)]) rfl rfl rfl Tryz.call16 (atJ [(0, 13), (1, 14), (2, 15), (3, 16)] [(0, 17)] (fc_round_Best h8) rfl rfl) (.inl (roAll rfl))) rfl trivial rfl rfl ?_
  refine op0 (sp_move rfl rfl) rfl trivial rfl rfl ?_
  refine op0 (sp_extract rfl rfl rfl) rfl trivial rfl rfl ?_
  refine op0 (sp_extract rfl rfl rfl) rfl trivial rfl rfl ?_
  refine op0 (sp_extract rfl rfl rfl) rfl trivial rfl rfl ?_
  refine op0 (sp_assign rfl rfl) rfl trivial rfl rfl ?_
  refine op0 (sp_assign rfl rfl) rfl trivial rfl rfl ?_
  refine op0 (sp_assign rfl rfl) rfl trivial rfl rfl ?_
  refine TL.nil ?_
  refine TC.seq ?_
  refine TC.region ?_
  obtain ⟨r9, h9, h⟩ := bind_inv h
  refine op0 (sp_call (avs := []) (need := []) (v := .agg [.ref 18, .ref 19, .ref 20, vi r9.2.2.2.1, vi r9.2.2.2.2]) (news := [.row 18 71 5 (List.map en_api_RoundTower r9.1), .row 19 27 1 (List.map en_Lint r9.2.1), .row 20 50 4 (List.map en_api_RoundWinder r9.2.2.1)]) rfl rfl rfl Tryz.call22 (atJ [] [(0, 18), (1, 19), (2, 20)] (fc_law11_two h9) rfl rfl) (.inl (roAll rfl))) rfl trivial rfl rfl ?_
  refine op0 (sp_buildSlice (qs := [vi 0, vi 1]) (need := []) (els := List.map en_int ([0, 1] : List Int)) 21 rfl sl27 (by decide) (by decide) rfl rfl rfl (.v (.v (.nil))) (map_len fun _ => rfl) rfl rfl rfl) rfl trivial rfl rfl ?_
  refine TL.freeze 1 rfl ?_
  refine TL.freeze 2 rfl ?_
  refine TL.freeze 3 rfl ?_
  refine TL.freeze 0 rfl ?_
  obtain ⟨r10, h10, h⟩ := bind_inv h
  refine opN (need := [.ro 18 5 (List.map en_api_RoundTower r9.1), .ro 19 1 (List.map en_Lint r9.2.1), .ro 20 4 (List.map en_api_RoundWinder r9.2.2.1), .ro 21 1 (List.map en_int ([0, 1] : List Int))]) [1, 2, 3, 0] ⟨rfl, rfl, rfl, rfl, trivial⟩ (sp_call (avs := [.agg [.ref 18, .ref 19, .ref 20, vi r9.2.2.2.1, vi r9.2.2.2.2], .ref 21]) (need := [.ro 18 5 (List.map en_api_RoundTower r9.1), .ro 19 1 (List.map en_Lint r9.2.1), .ro 20 4 (List.map en_api_RoundWinder r9.2.2.1), .ro 21 1 (List.map en_int ([0, 1] : List Int))]) (v := .tup [.ref 22, vi r10.2.1, vi r10.2.2]) (news := [.ro 22 2 (List.map en_api_RoundTrip r10.1)]) rfl rfl rfl Tryz.call19 (atJ [(0, 18), (1, 19), (2, 20), (3, 21)] [(0, 22)] (fc_round_Fewest h10) rfl rfl) (.inl (roAll rfl))) rfl trivial rfl rfl ?_
  refine op0 (sp_move rfl rfl) rfl trivial rfl rfl ?_
  refine op0 (sp_extract rfl rfl rfl) rfl trivial rfl rfl ?_
  refine op0 (sp_extract rfl rfl rfl) rfl trivial rfl rfl ?_
  refine op0 (sp_extract rfl rfl rfl) rfl trivial rfl rfl ?_
  refine op0 (sp_assign rfl rfl) rfl trivial rfl rfl ?_
  refine op0 (sp_assign rfl rfl) rfl trivial rfl rfl ?_
  refine op0 (sp_assign rfl rfl) rfl trivial rfl rfl ?_
  refine TL.nil ?_
  refine TC.seq ?_
  refine TC.region ?_
  refine op0 (sp_buildSlice (qs := [vi 1]) (need := []) (els := List.map en_int ([1] : List Int)) 23 rfl sl27 (by decide) (by decide) rfl rfl rfl (.v (.nil)) (map_len fun _ => rfl) rfl rfl rfl) rfl trivial rfl rfl ?_
  refine op0 (sp_build (qs := [(0, vi 2), (1, .ref 23)]) rfl bt63 rfl rfl rfl rfl) rfl trivial rfl rfl ?_
  refine op0 (sp_buildSlice (qs := [vi 1]) (need := []) (els := List.map en_int ([1] : List Int)) 24 rfl sl27 (by decide) (by decide) rfl rfl rfl (.v (.nil)) (map_len fun _ => rfl) rfl rfl rfl) rfl trivial rfl rfl ?_
  refine op0 (sp_build (qs := [(0, vi 4), (1, .ref 24)]) rfl bt63 rfl rfl rfl rfl) rfl trivial rfl rfl ?_
  refine TL.freeze 1 rfl ?_
  refine TL.freeze 0 rfl ?_
  refine opN (need := [.ro 23 1 (List.map en_int ([1] : List Int)), .ro 24 1 (List.map en_int ([1] : List Int))]) [1, 0] ⟨rfl, rfl, trivial⟩ (sp_buildSlice (qs := [.agg [vi 2, .ref 23], .agg [vi 4, .ref 24]]) (need := [.ro 23 1 (List.map en_int ([1] : List Int)), .ro 24 1 (List.map en_int ([1] : List Int))]) (els := List.map en_api_RoundDay ([(2, ([1] : List Int)), (4, ([1] : List Int))] : List (Int × (List Int)))) 25 rfl sl64 (by decide) (by decide) rfl rfl rfl (.v (.s (mem_at 0 rfl) (.v (.s (mem_at 1 rfl) (.nil))))) (map_len fun _ => rfl) rfl rfl rfl) rfl trivial rfl rfl ?_
  refine op0 (sp_assign rfl rfl) rfl trivial rfl rfl ?_
  refine TL.nil ?_
  refine TC.seq ?_
  refine TC.region ?_
  obtain ⟨r11, h11, h⟩ := bind_inv h
  refine op0 (sp_call (avs := []) (need := []) (v := .agg [.ref 26, .ref 27, .ref 28, vi r11.2.2.2.1, vi r11.2.2.2.2]) (news := [.row 26 71 5 (List.map en_api_RoundTower r11.1), .row 27 27 1 (List.map en_Lint r11.2.1), .row 28 50 4 (List.map en_api_RoundWinder r11.2.2.1)]) rfl rfl rfl Tryz.call22 (atJ [] [(0, 26), (1, 27), (2, 28)] (fc_law11_two h11) rfl rfl) (.inl (roAll rfl))) rfl trivial rfl rfl ?_
  refine op0 (sp_move rfl rfl) rfl trivial rfl rfl ?_
  obtain ⟨r12, h12, h⟩ := bind_inv h
  refine opN (need := [.row 26 71 5 (List.map en_api_RoundTower r11.1), .row 27 27 1 (List.map en_Lint r11.2.1), .row 28 50 4 (List.map en_api_RoundWinder r11.2.2.1), .row 25 63 2 (List.map en_api_RoundDay ([(2, ([1] : List Int)), (4, ([1] : List Int))] : List (Int × (List Int))))]) [0, 1, 2, 3] ⟨rfl, rfl, rfl, rfl, trivial⟩ (sp_call (avs := [.agg [.ref 26, .ref 27, .ref 28, vi r11.2.2.2.1, vi r11.2.2.2.2], .ref 25, vi 5]) (need := [.row 26 71 5 (List.map en_api_RoundTower r11.1), .row 27 27 1 (List.map en_Lint r11.2.1), .row 28 50 4 (List.map en_api_RoundWinder r11.2.2.1), .row 25 63 2 (List.map en_api_RoundDay ([(2, ([1] : List Int)), (4, ([1] : List Int))] : List (Int × (List Int))))]) (v := .tup [.ref 29, vi r12.2]) (news := [.row 29 3 1 (List.map en_int r12.1)]) rfl rfl rfl Tryz.call23 (atJ [(0, 26), (1, 27), (2, 28), (3, 25)] [(0, 29)] (fc_round_Left h12) rfl rfl) (.inr (List.forall_mem_cons.2 ⟨indep_map en_int_flat, (by simp)⟩))) rfl trivial rfl rfl ?_
  refine op0 (sp_move rfl rfl) rfl trivial rfl rfl ?_
  refine op0 (sp_extract rfl rfl rfl) rfl trivial rfl rfl ?_
  refine op0 (sp_extract rfl rfl rfl) rfl trivial rfl rfl ?_
  refine op0 (sp_assign rfl rfl) rfl trivial rfl rfl ?_
  refine op0 (sp_assign rfl rfl) rfl trivial rfl rfl ?_
  refine TL.nil ?_
  refine TC.seq ?_
  refine TC.region ?_
  obtain ⟨r13, h13, h⟩ := bind_inv h
  refine op0 (sp_call (avs := []) (need := []) (v := .agg [.ref 30, .ref 31, .ref 32, vi r13.2.2.2.1, vi r13.2.2.2.2]) (news := [.row 30 71 5 (List.map en_api_RoundTower r13.1), .row 31 27 1 (List.map en_Lint r13.2.1), .row 32 50 4 (List.map en_api_RoundWinder r13.2.2.1)]) rfl rfl rfl Tryz.call22 (atJ [] [(0, 30), (1, 31), (2, 32)] (fc_law11_two h13) rfl rfl) (.inl (roAll rfl))) rfl trivial rfl rfl ?_
  refine op0 (sp_move rfl rfl) rfl trivial rfl rfl ?_
  obtain ⟨r14, h14, h⟩ := bind_inv h
  refine opN (need := [.row 30 71 5 (List.map en_api_RoundTower r13.1), .row 31 27 1 (List.map en_Lint r13.2.1), .row 32 50 4 (List.map en_api_RoundWinder r13.2.2.1), .row 25 63 2 (List.map en_api_RoundDay ([(2, ([1] : List Int)), (4, ([1] : List Int))] : List (Int × (List Int))))]) [0, 1, 2, 7] ⟨rfl, rfl, rfl, rfl, trivial⟩ (sp_call (avs := [.agg [.ref 30, .ref 31, .ref 32, vi r13.2.2.2.1, vi r13.2.2.2.2], .ref 25, vi 10]) (need := [.row 30 71 5 (List.map en_api_RoundTower r13.1), .row 31 27 1 (List.map en_Lint r13.2.1), .row 32 50 4 (List.map en_api_RoundWinder r13.2.2.1), .row 25 63 2 (List.map en_api_RoundDay ([(2, ([1] : List Int)), (4, ([1] : List Int))] : List (Int × (List Int))))]) (v := .tup [vi r14.1, vi r14.2.1, vi r14.2.2]) (news := []) rfl rfl rfl Tryz.call24 (atJ [(0, 30), (1, 31), (2, 32), (3, 25)] [] (fc_round_Stops h14) rfl rfl) (.inr (fun x hx => nomatch hx))) rfl trivial rfl rfl ?_
  refine op0 (sp_move rfl rfl) rfl trivial rfl rfl ?_
  refine op0 (sp_extract rfl rfl rfl) rfl trivial rfl rfl ?_
  refine op0 (sp_extract rfl rfl rfl) rfl trivial rfl rfl ?_
  refine op0 (sp_extract rfl rfl rfl) rfl trivial rfl rfl ?_
  refine op0 (sp_assign rfl rfl) rfl trivial rfl rfl ?_
  refine op0 (sp_assign rfl rfl) rfl trivial rfl rfl ?_
  refine op0 (sp_assign rfl rfl) rfl trivial rfl rfl ?_
  refine TL.nil ?_
  refine TC.seq ?_
  refine TC.seq ?_
  refine TC.region ?_
  refine op0 (sp_move rfl rfl) rfl trivial rfl rfl ?_
  refine op0 (sp_neq rfl rfl rfl) rfl trivial rfl rfl ?_
  refine op0 (sp_move rfl rfl) rfl trivial rfl rfl ?_
  rcases cond_cases h with ⟨h15, h⟩ | ⟨h15, h⟩
  · refine (boolLit 83 rfl h15).2 ?_
    refine opSkip rfl ⟨_, rfl, .inl rfl⟩ rfl ?_
    refine opSkip rfl ⟨_, rfl, .inl rfl⟩ rfl ?_
    refine op0 (sp_pickT rfl rfl rfl) rfl trivial rfl rfl ?_
    refine op0 (sp_move rfl rfl) rfl trivial rfl rfl ?_
    refine opSkip rfl ⟨_, rfl, .inl rfl⟩ rfl ?_
    refine opSkip rfl ⟨_, rfl, .inl rfl⟩ rfl ?_
    refine op0 (sp_pickT rfl rfl rfl) rfl trivial rfl rfl ?_
    refine op0 (sp_move rfl rfl) rfl trivial rfl rfl ?_
    refine opSkip rfl ⟨_, rfl, .inl rfl⟩ rfl ?_
    refine opSkip rfl ⟨_, rfl, .inl rfl⟩ rfl ?_
    refine op0 (sp_pickT rfl rfl rfl) rfl trivial rfl rfl ?_
    refine op0 (sp_move rfl rfl) rfl trivial rfl rfl ?_
    refine opSkip rfl ⟨_, rfl, .inl rfl⟩ rfl ?_
    refine opSkip rfl ⟨_, rfl, .inl rfl⟩ rfl ?_
    refine op0 (sp_pickT rfl rfl rfl) rfl trivial rfl rfl ?_
    refine op0 (sp_move rfl rfl) rfl trivial rfl rfl ?_
    refine opSkip rfl ⟨_, rfl, .inl rfl⟩ rfl ?_
    refine opSkip rfl ⟨_, rfl, .inl rfl⟩ rfl ?_
    refine op0 (sp_pickT rfl rfl rfl) rfl trivial rfl rfl ?_
    refine op0 (sp_move rfl rfl) rfl trivial rfl rfl ?_
    refine opSkip rfl ⟨_, rfl, .inl rfl⟩ rfl ?_
    refine opSkip rfl ⟨_, rfl, .inl rfl⟩ rfl ?_
    refine op0 (sp_pickT rfl rfl rfl) rfl trivial rfl rfl ?_
    refine TL.nil ?_
    refine TC.condT rfl ?_
    refine TC.seq ?_
    refine TC.region ?_
    refine op0 (sp_assign rfl rfl) rfl trivial rfl rfl ?_
    refine TL.nil ?_
    cases h
    exact retJ [] (.tmp rfl .nil) rfl trivial rfl rfl
  · refine (boolLit 83 rfl h15).2 ?_
    refine op0 (sp_move rfl rfl) rfl ⟨_, rfl, rfl⟩ rfl rfl ?_
    refine op0 (sp_neq rfl rfl rfl) rfl ⟨_, rfl, rfl⟩ rfl rfl ?_
    refine op0 (sp_pickF rfl rfl rfl) rfl trivial rfl rfl ?_
    refine op0 (sp_move rfl rfl) rfl trivial rfl rfl ?_
    rcases cond_cases h with ⟨h16, h⟩ | ⟨h16, h⟩
    · refine (boolLit 87 rfl h16).2 ?_
      refine opSkip rfl ⟨_, rfl, .inl rfl⟩ rfl ?_
      refine opSkip rfl ⟨_, rfl, .inl rfl⟩ rfl ?_
      refine op0 (sp_pickT rfl rfl rfl) rfl trivial rfl rfl ?_
      refine op0 (sp_move rfl rfl) rfl trivial rfl rfl ?_
      refine opSkip rfl ⟨_, rfl, .inl rfl⟩ rfl ?_
      refine opSkip rfl ⟨_, rfl, .inl rfl⟩ rfl ?_
      refine op0 (sp_pickT rfl rfl rfl) rfl trivial rfl rfl ?_
      refine op0 (sp_move rfl rfl) rfl trivial rfl rfl ?_
      refine opSkip rfl ⟨_, rfl, .inl rfl⟩ rfl ?_
      refine opSkip rfl ⟨_, rfl, .inl rfl⟩ rfl ?_
      refine op0 (sp_pickT rfl rfl rfl) rfl trivial rfl rfl ?_
      refine op0 (sp_move rfl rfl) rfl trivial rfl rfl ?_
      refine opSkip rfl ⟨_, rfl, .inl rfl⟩ rfl ?_
      refine opSkip rfl ⟨_, rfl, .inl rfl⟩ rfl ?_
      refine op0 (sp_pickT rfl rfl rfl) rfl trivial rfl rfl ?_
      refine op0 (sp_move rfl rfl) rfl trivial rfl rfl ?_
      refine opSkip rfl ⟨_, rfl, .inl rfl⟩ rfl ?_
      refine opSkip rfl ⟨_, rfl, .inl rfl⟩ rfl ?_
      refine op0 (sp_pickT rfl rfl rfl) rfl trivial rfl rfl ?_
      refine TL.nil ?_
      refine TC.condT rfl ?_
      refine TC.seq ?_
      refine TC.region ?_
      refine op0 (sp_assign rfl rfl) rfl trivial rfl rfl ?_
      refine TL.nil ?_
      cases h
      exact retJ [] (.tmp rfl .nil) rfl trivial rfl rfl
    · refine (boolLit 87 rfl h16).2 ?_
      refine op0 (sp_move rfl rfl) rfl ⟨_, rfl, rfl⟩ rfl rfl ?_
      refine op0 (sp_neq rfl rfl rfl) rfl ⟨_, rfl, rfl⟩ rfl rfl ?_
      refine op0 (sp_pickF rfl rfl rfl) rfl trivial rfl rfl ?_
      refine op0 (sp_move rfl rfl) rfl trivial rfl rfl ?_
      rcases cond_cases h with ⟨h17, h⟩ | ⟨h17, h⟩
      · refine (boolLit 91 rfl h17).2 ?_
        refine opSkip rfl ⟨_, rfl, .inl rfl⟩ rfl ?_
        refine opSkip rfl ⟨_, rfl, .inl rfl⟩ rfl ?_
        refine op0 (sp_pickT rfl rfl rfl) rfl trivial rfl rfl ?_
        refine op0 (sp_move rfl rfl) rfl trivial rfl rfl ?_
        refine opSkip rfl ⟨_, rfl, .inl rfl⟩ rfl ?_
        refine opSkip rfl ⟨_, rfl, .inl rfl⟩ rfl ?_
        refine op0 (sp_pickT rfl rfl rfl) rfl trivial rfl rfl ?_
        refine op0 (sp_move rfl rfl) rfl trivial rfl rfl ?_
        refine opSkip rfl ⟨_, rfl, .inl rfl⟩ rfl ?_
        refine opSkip rfl ⟨_, rfl, .inl rfl⟩ rfl ?_
        refine op0 (sp_pickT rfl rfl rfl) rfl trivial rfl rfl ?_
        refine op0 (sp_move rfl rfl) rfl trivial rfl rfl ?_
        refine opSkip rfl ⟨_, rfl, .inl rfl⟩ rfl ?_
        refine opSkip rfl ⟨_, rfl, .inl rfl⟩ rfl ?_
        refine op0 (sp_pickT rfl rfl rfl) rfl trivial rfl rfl ?_
        refine TL.nil ?_
        refine TC.condT rfl ?_
        refine TC.seq ?_
        refine TC.region ?_
        refine op0 (sp_assign rfl rfl) rfl trivial rfl rfl ?_
        refine TL.nil ?_
        cases h
        exact retJ [] (.tmp rfl .nil) rfl trivial rfl rfl
      · refine (boolLit 91 rfl h17).2 ?_
        refine op0 (sp_move rfl rfl) rfl ⟨_, rfl, rfl⟩ rfl rfl ?_
        refine op0 (sp_neq rfl rfl rfl) rfl ⟨_, rfl, rfl⟩ rfl rfl ?_
        refine op0 (sp_pickF rfl rfl rfl) rfl trivial rfl rfl ?_
        refine op0 (sp_move rfl rfl) rfl trivial rfl rfl ?_
        rcases cond_cases h with ⟨h18, h⟩ | ⟨h18, h⟩
        · refine (boolLit 95 rfl h18).2 ?_
          refine opSkip rfl ⟨_, rfl, .inl rfl⟩ rfl ?_
          refine opSkip rfl ⟨_, rfl, .inl rfl⟩ rfl ?_
          refine op0 (sp_pickT rfl rfl rfl) rfl trivial rfl rfl ?_
          refine op0 (sp_move rfl rfl) rfl trivial rfl rfl ?_
          refine opSkip rfl ⟨_, rfl, .inl rfl⟩ rfl ?_
          refine opSkip rfl ⟨_, rfl, .inl rfl⟩ rfl ?_
          refine op0 (sp_pickT rfl rfl rfl) rfl trivial rfl rfl ?_
          refine op0 (sp_move rfl rfl) rfl trivial rfl rfl ?_
          refine opSkip rfl ⟨_, rfl, .inl rfl⟩ rfl ?_
          refine opSkip rfl ⟨_, rfl, .inl rfl⟩ rfl ?_
          refine op0 (sp_pickT rfl rfl rfl) rfl trivial rfl rfl ?_
          refine TL.nil ?_
          refine TC.condT rfl ?_
          refine TC.seq ?_
          refine TC.region ?_
          refine op0 (sp_assign rfl rfl) rfl trivial rfl rfl ?_
          refine TL.nil ?_
          cases h
          exact retJ [] (.tmp rfl .nil) rfl trivial rfl rfl
        · refine (boolLit 95 rfl h18).2 ?_
          refine op0 (sp_move rfl rfl) rfl ⟨_, rfl, rfl⟩ rfl rfl ?_
          refine op0 (sp_neq rfl rfl rfl) rfl ⟨_, rfl, rfl⟩ rfl rfl ?_
          refine op0 (sp_pickF rfl rfl rfl) rfl trivial rfl rfl ?_
          refine op0 (sp_move rfl rfl) rfl trivial rfl rfl ?_
          rcases cond_cases h with ⟨h19, h⟩ | ⟨h19, h⟩
          · refine (boolLit 99 rfl h19).2 ?_
            refine opSkip rfl ⟨_, rfl, .inl rfl⟩ rfl ?_
            refine opSkip rfl ⟨_, rfl, .inl rfl⟩ rfl ?_
            refine op0 (sp_pickT rfl rfl rfl) rfl trivial rfl rfl ?_
            refine op0 (sp_move rfl rfl) rfl trivial rfl rfl ?_
            refine opSkip rfl ⟨_, rfl, .inl rfl⟩ rfl ?_
            refine opSkip rfl ⟨_, rfl, .inl rfl⟩ rfl ?_
            refine op0 (sp_pickT rfl rfl rfl) rfl trivial rfl rfl ?_
            refine TL.nil ?_
            refine TC.condT rfl ?_
            refine TC.seq ?_
            refine TC.region ?_
            refine op0 (sp_assign rfl rfl) rfl trivial rfl rfl ?_
            refine TL.nil ?_
            cases h
            exact retJ [] (.tmp rfl .nil) rfl trivial rfl rfl
          · refine (boolLit 99 rfl h19).2 ?_
            refine op0 (sp_move rfl rfl) rfl ⟨_, rfl, rfl⟩ rfl rfl ?_
            refine op0 (sp_neq rfl rfl rfl) rfl ⟨_, rfl, rfl⟩ rfl rfl ?_
            refine op0 (sp_pickF rfl rfl rfl) rfl trivial rfl rfl ?_
            refine op0 (sp_move rfl rfl) rfl trivial rfl rfl ?_
            rcases cond_cases h with ⟨h20, h⟩ | ⟨h20, h⟩
            · refine (boolLit 103 rfl h20).2 ?_
              refine opSkip rfl ⟨_, rfl, .inl rfl⟩ rfl ?_
              refine opSkip rfl ⟨_, rfl, .inl rfl⟩ rfl ?_
              refine op0 (sp_pickT rfl rfl rfl) rfl trivial rfl rfl ?_
              refine TL.nil ?_
              refine TC.condT rfl ?_
              refine TC.seq ?_
              refine TC.region ?_
              refine op0 (sp_assign rfl rfl) rfl trivial rfl rfl ?_
              refine TL.nil ?_
              cases h
              exact retJ [] (.tmp rfl .nil) rfl trivial rfl rfl
            · refine (boolLit 103 rfl h20).2 ?_
              refine op0 (sp_move rfl rfl) rfl ⟨_, rfl, rfl⟩ rfl rfl ?_
              refine op0 (sp_neq rfl rfl rfl) rfl ⟨_, rfl, rfl⟩ rfl rfl ?_
              refine op0 (sp_pickF rfl rfl rfl) rfl trivial rfl rfl ?_
              refine TL.nil ?_
              refine TC.cond (b := (r14.2.2 != 0)) rfl (fun h21 => ?_) (fun h21 => ?_)
              · have h := cond_t h h21
                refine TC.seq ?_
                refine TC.region ?_
                refine op0 (sp_assign rfl rfl) rfl trivial rfl rfl ?_
                refine TL.nil ?_
                cases h
                exact retJ [] (.tmp rfl .nil) rfl trivial rfl rfl
              · have h := cond_f h h21
                refine subJ [] (ok_law11_known_j0 h) ?_ ?_ ?_
                · exact ⟨rfl, rfl, rfl, rfl, rfl, rfl, rfl, rfl, rfl, rfl, trivial⟩
                · exact ⟨mem_at 20 rfl, mem_at 15 rfl, mem_at 10 rfl, mem_at 3 rfl, trivial⟩
                · rfl
def ev_law11_ints (n : Nat) (l1 : List Int) : Option ((List Int)) :=
  chk (room 8 (([] : List Int).length + l1.length)) <| some (([] : List Int) ++ l1)
theorem fc_law11_ints {n : Nat} {l1 : List Int} {r : (List Int)} (h : ev_law11_ints n l1 = some r) : FC Tryz.prog 9 [.ref 0] [.ro 0 1 (List.map en_int l1)] (.ref 0) [.row 0 3 1 (List.map en_int r)] := by
  refine introJ (nz := 6) Tryz.func9 rfl rfl rfl (fun w0 R0 env0 => ?_)
  rw [ev_law11_ints] at h
  refine TC.seq ?_
  refine TC.region ?_
  refine op0 (sp_assign rfl rfl) rfl trivial rfl rfl ?_
  refine TL.nil ?_
  refine TC.seq ?_
  refine TC.region ?_
  refine op0 (sp_emptyM 1 (List.map en_int []) rfl rfl sl27) rfl trivial rfl rfl ?_
  refine op0 (sp_move rfl rfl) rfl trivial rfl rfl ?_
  obtain ⟨h1, h⟩ := chk_inv h
  refine appM 0 1 (N := ([] : List Int).length) (N2 := l1.length) 2 rfl rfl trivial rfl rfl rfl rfl rfl isRo rfl sl27 (len_map _ _) (len_map _ _) h1 (map_app _ _ _) rfl ?_
  refine op0 (sp_assign rfl rfl) rfl trivial rfl rfl ?_
  refine TL.nil ?_
  cases h
  exact retJ [(0, 2)] (.tmp rfl .nil) rfl ⟨mem_at 0 rfl, trivial⟩ rfl rfl
def ev_law11_copied_l0 (n : Nat) : Nat → Int → Int → Int → (List (Int × Int × Int × Int × Int)) → (List ((List Int))) → (List (Int × Int × Int × Int)) → Int → Int → (List ((List Int))) → (List (Int × Int × Int × Int × Int)) → (List ((List Int))) → (List (Int × Int × Int × Int)) → Option ((List (Int × Int × Int × Int × Int)) × (List ((List Int))) × (List (Int × Int × Int × Int)) × Int × Int)
  | 0, _, _, _, _, _, _, _, _, _, _, _, _ => none
  | m + 1, i6, i7, i9, l10, l11, l12, i13, i14, l15, l16, l17, l18 => cond (decide (i6 < (l17.length : Int))) (idx l17 i6 fun x19 => (ev_law11_ints n x19).bind fun r20 => chk (room 24 (l15.length + ([r20] : List ((List Int))).length)) <| chk (in64 (i6 + 1)) <| ev_law11_copied_l0 n m (i6 + 1) i7 i9 l10 l11 l12 i13 i14 (l15 ++ ([r20] : List ((List Int)))) l16 l17 l18) (some (l16, l15, l18, i7, i9))
theorem ok_law11_copied_l0 {n : Nat} {w0 : World} {R0 : Nat → Prop} {env0 : Env} {r : (List (Int × Int × Int × Int × Int)) × (List ((List Int))) × (List (Int × Int × Int × Int)) × Int × Int} : ∀ (m : Nat) (i6 : Int) (i7 : Int) (i9 : Int) (l10 : List (Int × Int × Int × Int × Int)) (l11 : List ((List Int))) (l12 : List (Int × Int × Int × Int)) (i13 : Int) (i14 : Int) (l15 : List ((List Int))) (l16 : List (Int × Int × Int × Int × Int)) (l17 : List ((List Int))) (l18 : List (Int × Int × Int × Int)), ev_law11_copied_l0 n m i6 i7 i9 l10 l11 l12 i13 i14 l15 l16 l17 l18 = some r → TC Tryz.prog ⟨w0, fun _ => False, R0⟩ 35 (bodyPost Tryz.prog Tryz.f8 (Post ⟨w0, fun _ => False, R0⟩ env0 (.agg [.ref 0, .ref 1, .ref 2, vi r.2.2.2.1, vi r.2.2.2.2]) [.row 0 71 5 (List.map en_api_RoundTower r.1), .row 1 27 1 (List.map en_Lint r.2.1), .row 2 50 4 (List.map en_api_RoundWinder r.2.2.1)])) [.code (sub (bodyOf Tryz.f8) [1, 1, 1, 0, 1, 0, 0, 0, 0]), .code (sub (bodyOf Tryz.f8) [1, 1, 1, 0, 1, 0, 0, 0, 1]), .code (sub (bodyOf Tryz.f8) [1, 1, 1, 0, 1, 0, 0, 1]), .inLoop (sub (bodyOf Tryz.f8) [1, 1, 1, 0, 1, 0, 0]), .inBlock 0, .code (sub (bodyOf Tryz.f8) [1, 1, 1, 1])] ([(1, .ptr 3 0), (2, .ptr 4 0), (3, .ref 9), (4, vi i6)]) ([.blk 3 [.ref 6, .ref 1, .ref 8, vi i7, vi i9] 26, .row 10 71 5 (List.map en_api_RoundTower l10), .row 11 27 1 (List.map en_Lint l11), .row 12 50 4 (List.map en_api_RoundWinder l12), .blk 4 [.ref 10, .ref 11, .ref 12, vi i13, vi i14] 26, .row 9 27 1 (List.map en_Lint l15), .row 6 71 5 (List.map en_api_RoundTower l16), .ro 1 1 (List.map en_Lint l17), .row 8 50 4 (List.map en_api_RoundWinder l18)]) := by
  intro m
  induction m with
  | zero => intro i6 i7 i9 l10 l11 l12 i13 i14 l15 l16 l17 l18 h; exact none_no h
  | succ m ih =>
    intro i6 i7 i9 l10 l11 l12 i13 i14 l15 l16 l17 l18 h
    rw [ev_law11_copied_l0] at h
    refine TC.region ?_
    refine op0 (sp_move rfl rfl) rfl trivial rfl rfl ?_
    refine op1 0 rfl (sp_fieldAddrB rfl isBlk rfl ft26_1 vt23 (by decide)) rfl trivial rfl rfl ?_
    refine op1 0 rfl (sp_loadB rfl isBlk rfl vt23 rfl) rfl trivial rfl rfl ?_
    refine op1 7 rfl (sp_lenM (N := l17.length) (len_map _ _) rfl rfl isRo Tryz.underlying23) rfl trivial rfl rfl ?_
    refine op0 (sp_lss rfl rfl rfl) rfl trivial rfl rfl ?_
    refine TL.nil ?_
    refine TC.cond (b := (decide (i6 < (l17.length : Int)))) rfl (fun h3 => ?_) (fun h3 => ?_)
    · have h := cond_t h h3
      refine TC.skip ?_
      refine TC.seq ?_
      refine TC.block ?_
      refine TC.region ?_
      refine op0 (sp_move rfl rfl) rfl trivial rfl rfl ?_
      refine op1 0 rfl (sp_fieldAddrB rfl isBlk rfl ft26_1 vt23 (by decide)) rfl trivial rfl rfl ?_
      refine op1 0 rfl (sp_loadB rfl isBlk rfl vt23 rfl) rfl trivial rfl rfl ?_
      refine op0 (sp_move rfl rfl) rfl trivial rfl rfl ?_
      obtain ⟨x19, h4, h5, h⟩ := idx_inv h
      refine op1 7 rfl (sp_indexS rfl rfl rfl isRo sl23 h4 (map_get _ h5)) rfl trivial rfl rfl ?_
      refine op1 7 rfl (sp_loadR (i := (i6 : Int).toNat) (j := 0) (ns := [.ro 13 1 (List.map en_int x19)]) rfl rfl isRo vt27 rfl (map_get _ h5) rfl (.s (.nil)) (nodup_of_B rfl)) rfl trivial rfl rfl ?_
      obtain ⟨r20, h6, h⟩ := bind_inv h
      refine op1 0 rfl (sp_call (avs := [.ref 13]) (need := [.ro 13 1 (List.map en_int x19)]) (v := .ref 14) (news := [.row 14 3 1 (List.map en_int r20)]) rfl rfl rfl Tryz.call9 (atJ [(0, 13)] [(0, 14)] (fc_law11_ints h6) rfl rfl) (.inl (roAll rfl))) rfl trivial rfl rfl ?_
      refine TL.freeze 0 rfl ?_
      refine op1 0 rfl (sp_buildSlice (qs := [.ref 14]) (need := [.ro 14 1 (List.map en_int r20)]) (els := List.map en_Lint ([r20] : List ((List Int)))) 15 rfl sl23 (by decide) (by decide) rfl rfl rfl (.s (mem_at 0 rfl) (.nil)) (map_len fun _ => rfl) rfl rfl rfl) rfl trivial rfl rfl ?_
      obtain ⟨h7, h⟩ := chk_inv h
      refine appM 8 0 (N := l15.length) (N2 := ([r20] : List ((List Int))).length) 16 rfl rfl trivial rfl rfl rfl rfl rfl isOwn rfl sl23 (len_map _ _) (len_map _ _) h7 (map_app _ _ _) rfl ?_
      refine op0 (sp_assign rfl rfl) rfl trivial rfl rfl ?_
      refine TL.nil ?_
      refine TC.inBlock ?_
      refine TC.region ?_
      refine op0 (sp_move rfl rfl) rfl trivial rfl rfl ?_
      obtain ⟨h8, h⟩ := chk_inv h
      refine op0 (sp_add rfl rfl rfl h8) rfl trivial rfl rfl ?_
      refine op0 (sp_assign rfl rfl) rfl trivial rfl rfl ?_
      refine TL.nil ?_
      refine TC.inLoop ?_
      refine TC.seq ?_
      refine TC.seq ?_
      refine subJ [(9, 16)] (ih _ _ _ _ _ _ _ _ _ _ _ _ h) ?_ ?_ ?_
      · exact ⟨rfl, rfl, rfl, rfl, trivial⟩
      · exact ⟨mem_at 4 rfl, mem_at 5 rfl, mem_at 6 rfl, mem_at 7 rfl, mem_at 8 rfl, mem_at 0 rfl, mem_at 9 rfl, mem_at 10 rfl, mem_at 11 rfl, trivial⟩
      · rfl
    · have h := cond_f h h3
      refine TC.exit rfl ?_
      refine TC.seq ?_
      refine TC.region ?_
      refine op0 (sp_move rfl rfl) rfl trivial rfl rfl ?_
      refine op1 0 rfl (sp_fieldAddrB rfl isBlk rfl ft26_1 vt23 (by decide)) rfl trivial rfl rfl ?_
      refine stoB 0 (cells' := [.ref 6, .ref 9, .ref 8, vi i7, vi i9]) rfl rfl trivial rfl rfl rfl rfl vt23 rfl rfl rfl ?_
      refine TL.nil ?_
      refine TC.seq ?_
      refine TC.region ?_
      refine op1 0 rfl (sp_loadBA rfl isBlk rfl vt26 rfl rfl) rfl trivial rfl rfl ?_
      refine stoB 4 (cells' := [.ref 6, .ref 9, .ref 8, vi i7, vi i9]) rfl rfl trivial rfl rfl rfl rfl vt26 rfl rfl rfl ?_
      refine TL.nil ?_
      cases h
      exact retJ [(0, 6), (1, 9), (2, 8)] (.cells rfl (mem_at 4 rfl) isBlk vt26 rfl rfl (.nil)) rfl ⟨mem_at 6 rfl, mem_at 5 rfl, mem_at 8 rfl, trivial⟩ rfl rfl
def ev_law11_copied (n : Nat) (rr1 : List (Int × Int × Int × Int × Int)) (rr2 : List ((List Int))) (rr3 : List (Int × Int × Int × Int)) (rr4 : Int) (rr5 : Int) : Option ((List (Int × Int × Int × Int × Int)) × (List ((List Int))) × (List (Int × Int × Int × Int)) × Int × Int) :=
  chk (room 40 (([] : List (Int × Int × Int × Int × Int)).length + rr1.length)) <| chk (room 32 (([] : List (Int × Int × Int × Int)).length + rr3.length)) <| ev_law11_copied_l0 n n 0 rr4 rr5 ([] : List (Int × Int × Int × Int × Int)) ([] : List ((List Int))) ([] : List (Int × Int × Int × Int)) 0 0 ([] : List ((List Int))) (([] : List (Int × Int × Int × Int × Int)) ++ rr1) rr2 (([] : List (Int × Int × Int × Int)) ++ rr3)
theorem fc_law11_copied {n : Nat} {rr1 : List (Int × Int × Int × Int × Int)} {rr2 : List ((List Int))} {rr3 : List (Int × Int × Int × Int)} {rr4 : Int} {rr5 : Int} {r : (List (Int × Int × Int × Int × Int)) × (List ((List Int))) × (List (Int × Int × Int × Int)) × Int × Int} (h : ev_law11_copied n rr1 rr2 rr3 rr4 rr5 = some r) : FC Tryz.prog 8 [.agg [.ref 0, .ref 1, .ref 2, vi rr4, vi rr5]] [.ro 0 5 (List.map en_api_RoundTower rr1), .ro 1 1 (List.map en_Lint rr2), .ro 2 4 (List.map en_api_RoundWinder rr3)] (.agg [.ref 0, .ref 1, .ref 2, vi r.2.2.2.1, vi r.2.2.2.2]) [.row 0 71 5 (List.map en_api_RoundTower r.1), .row 1 27 1 (List.map en_Lint r.2.1), .row 2 50 4 (List.map en_api_RoundWinder r.2.2.1)] := by
  refine introJ (nz := 35) Tryz.func8 rfl rfl rfl (fun w0 R0 env0 => ?_)
  rw [ev_law11_copied] at h
  refine TC.seq ?_
  refine TC.region ?_
  refine op0 (sp_box 3 rfl rfl rfl rfl rfl) rfl trivial rfl rfl ?_
  refine op0 (sp_alloc 4 rfl Tryz.zeroValue26 rfl) rfl trivial rfl rfl ?_
  refine TL.nil ?_
  refine TC.seq ?_
  obtain ⟨h1, h⟩ := chk_inv h
  obtain ⟨h2, h⟩ := chk_inv h
  refine drawJ 9 [⟨.ref 5, [.row 5 71 5 (List.map en_api_RoundTower ([] : List (Int × Int × Int × Int × Int)))], [], []⟩, ⟨.ptr 3 0, [], [.blk 3 [.ref 0, .ref 1, .ref 2, vi rr4, vi rr5] 26], []⟩, ⟨.ref 0, [], [.blk 3 [.ref 0, .ref 1, .ref 2, vi rr4, vi rr5] 26], []⟩, ⟨.ref 6, [.row 6 71 5 (List.map en_api_RoundTower (([] : List (Int × Int × Int × Int × Int)) ++ rr1))], [.ro 0 5 (List.map en_api_RoundTower rr1)], [.row 5 71 5 (List.map en_api_RoundTower ([] : List (Int × Int × Int × Int × Int)))]⟩, ⟨.ref 7, [.row 7 50 4 (List.map en_api_RoundWinder ([] : List (Int × Int × Int × Int)))], [], []⟩, ⟨.ptr 3 2, [], [.blk 3 [.ref 0, .ref 1, .ref 2, vi rr4, vi rr5] 26], []⟩, ⟨.ref 2, [], [.blk 3 [.ref 0, .ref 1, .ref 2, vi rr4, vi rr5] 26], []⟩, ⟨.ref 8, [.row 8 50 4 (List.map en_api_RoundWinder (([] : List (Int × Int × Int × Int)) ++ rr3))], [.ro 2 4 (List.map en_api_RoundWinder rr3)], [.row 7 50 4 (List.map en_api_RoundWinder ([] : List (Int × Int × Int × Int)))]⟩, ⟨.ptr 3 0, [], [.blk 3 [.ref 0, .ref 1, .ref 2, vi rr4, vi rr5] 26], []⟩] rfl ?_ rfl ?_ rfl ?_ ?_
  · kernel_rfl
  · kernel_rfl
  · exact DAll.op' (sp_emptyM 5 (List.map en_api_RoundTower []) rfl rfl sl22) trivial rfl (From.ok (ps := []) trivial) (DAll.op' (sp_fieldAddrB rfl isBlk rfl ft26_0 vt22 (by decide)) trivial rfl (From.ok (ps := [(none, 1)]) ⟨⟨rfl, by kernel_rfl⟩, trivial⟩) (DAll.op' (sp_loadB rfl isBlk rfl vt22 rfl) trivial rfl (From.ok (ps := [(none, 1)]) ⟨⟨rfl, by kernel_rfl⟩, trivial⟩) (DAll.opT (ts_append (N := ([] : List (Int × Int × Int × Int × Int)).length) (N2 := rr1.length) 6 rfl rfl rfl isRo rfl sl22 (len_map _ _) (len_map _ _) h1 (map_app _ _ _) rfl) trivial (From.ok (ps := [(some 0, 0)]) ⟨⟨_, rfl, by kernel_rfl, rfl, by kernel_rfl⟩, trivial⟩) (From.ok (ps := [(none, 2)]) ⟨⟨rfl, by kernel_rfl⟩, trivial⟩) (DAll.op' (sp_emptyM 7 (List.map en_api_RoundWinder []) rfl rfl sl24) trivial rfl (From.ok (ps := []) trivial) (DAll.op' (sp_fieldAddrB rfl isBlk rfl ft26_2 vt24 (by decide)) trivial rfl (From.ok (ps := [(none, 1)]) ⟨⟨rfl, by kernel_rfl⟩, trivial⟩) (DAll.op' (sp_loadB rfl isBlk rfl vt24 rfl) trivial rfl (From.ok (ps := [(none, 1)]) ⟨⟨rfl, by kernel_rfl⟩, trivial⟩) (DAll.opT (ts_append (N := ([] : List (Int × Int × Int × Int)).length) (N2 := rr3.length) 8 rfl rfl rfl isRo rfl sl24 (len_map _ _) (len_map _ _) h2 (map_app _ _ _) rfl) trivial (From.ok (ps := [(some 4, 0)]) ⟨⟨_, rfl, by kernel_rfl, rfl, by kernel_rfl⟩, trivial⟩) (From.ok (ps := [(none, 4)]) ⟨⟨rfl, by kernel_rfl⟩, trivial⟩) (DAll.op' (sp_fieldAddrB rfl isBlk rfl ft26_0 vt22 (by decide)) trivial rfl (From.ok (ps := [(none, 1)]) ⟨⟨rfl, by kernel_rfl⟩, trivial⟩) (.nil)))))))))
  refine stoB 3 (cells' := [.ref 6, .ref 1, .ref 2, vi rr4, vi rr5]) rfl rfl trivial rfl rfl rfl rfl vt22 rfl rfl rfl ?_
  refine op1 3 rfl (sp_fieldAddrB rfl isBlk rfl ft26_2 vt24 (by decide)) rfl trivial rfl rfl ?_
  refine stoB 3 (cells' := [.ref 6, .ref 1, .ref 8, vi rr4, vi rr5]) rfl rfl trivial rfl rfl rfl rfl vt24 rfl rfl rfl ?_
  refine TL.nil ?_
  refine TC.seq ?_
  refine TC.region ?_
  refine op0 (sp_emptyM 9 (List.map en_Lint []) rfl rfl sl23) rfl trivial rfl rfl ?_
  refine op0 (sp_assign rfl rfl) rfl trivial rfl rfl ?_
  refine TL.nil ?_
  refine TC.seq ?_
  refine TC.seq ?_
  refine TC.region ?_
  refine op0 (sp_assign rfl rfl) rfl trivial rfl rfl ?_
  refine TL.nil ?_
  refine TC.block ?_
  refine TC.loop ?_
  refine TC.seq ?_
  refine TC.seq ?_
  refine nilCellC 3 17 71 5 4 (List.map en_api_RoundTower []) [.ref 17, .val (.slice none 0 0), .val (.slice none 0 0), vi 0, vi 0] rfl rfl rfl ?_
  refine nilCellC 4 18 27 1 4 (List.map en_Lint []) [.ref 17, .ref 18, .val (.slice none 0 0), vi 0, vi 0] rfl rfl rfl ?_
  refine nilCellC 5 19 50 4 4 (List.map en_api_RoundWinder []) [.ref 17, .ref 18, .ref 19, vi 0, vi 0] rfl rfl rfl ?_
  refine subJ [(10, 17), (11, 18), (12, 19)] (ok_law11_copied_l0 _ _ _ _ _ _ _ _ _ _ _ _ _ h) ?_ ?_ ?_
  · exact ⟨rfl, rfl, rfl, rfl, trivial⟩
  · exact ⟨mem_at 7 rfl, mem_at 2 rfl, mem_at 1 rfl, mem_at 0 rfl, mem_at 6 rfl, mem_at 3 rfl, mem_at 5 rfl, mem_at 9 rfl, mem_at 4 rfl, trivial⟩
  · rfl
def ev_law11_same_l3 (n : Nat) (a2 : List ((List Int))) (b7 : List ((List Int))) : Nat → Int → Option Bool
  | 0, _ => none
  | m + 1, i17 => cond (decide (i17 < (a2.length : Int))) (idx a2 i17 fun x18 => idx b7 i17 fun x19 => (ev_ref11_Same n x18 x19).bind fun r20 => cond (!r20) (some false) (chk (in64 (i17 + 1)) <| ev_law11_same_l3 n a2 b7 m (i17 + 1))) (some true)
theorem ok_law11_same_l3 {n : Nat} {w0 : World} {R0 : Nat → Prop} {env0 : Env} {r : Bool} {a4 : Int} {a5 : Int} {b9 : Int} {b10 : Int} {a1 : List (Int × Int × Int × Int × Int)} {a2 : List ((List Int))} {a3 : List (Int × Int × Int × Int)} {b6 : List (Int × Int × Int × Int × Int)} {b7 : List ((List Int))} {b8 : List (Int × Int × Int × Int)} : ∀ (m : Nat) (i17 : Int), ev_law11_same_l3 n a2 b7 m i17 = some r → TC Tryz.prog ⟨w0, fun _ => False, R0⟩ 102 (bodyPost Tryz.prog Tryz.f13 (Post ⟨w0, fun _ => False, R0⟩ env0 (.val (.bool r)) [])) [.code (sub (bodyOf Tryz.f13) [1, 1, 1, 1, 0, 1, 0, 0, 0, 0]), .code (sub (bodyOf Tryz.f13) [1, 1, 1, 1, 0, 1, 0, 0, 0, 1]), .code (sub (bodyOf Tryz.f13) [1, 1, 1, 1, 0, 1, 0, 0, 1]), .inLoop (sub (bodyOf Tryz.f13) [1, 1, 1, 1, 0, 1, 0, 0]), .inBlock 4, .code (sub (bodyOf Tryz.f13) [1, 1, 1, 1, 1])] ([(2, .ptr 6 0), (3, .ptr 7 0), (7, vi i17)]) ([.blk 6 [.ref 0, .ref 1, .ref 2, vi a4, vi a5] 26, .blk 7 [.ref 3, .ref 4, .ref 5, vi b9, vi b10] 26, .ro 0 5 (List.map en_api_RoundTower a1), .ro 1 1 (List.map en_Lint a2), .ro 2 4 (List.map en_api_RoundWinder a3), .ro 3 5 (List.map en_api_RoundTower b6), .ro 4 1 (List.map en_Lint b7), .ro 5 4 (List.map en_api_RoundWinder b8)]) := by
  intro m
  induction m with
  | zero => intro i17 h; exact none_no h
  | succ m ih =>
    intro i17 h
    rw [ev_law11_same_l3] at h
    refine TC.region ?_
    refine op0 (sp_move rfl rfl) rfl trivial rfl rfl ?_
    refine op1 0 rfl (sp_fieldAddrB rfl isBlk rfl ft26_1 vt23 (by decide)) rfl trivial rfl rfl ?_
    refine op1 0 rfl (sp_loadB rfl isBlk rfl vt23 rfl) rfl trivial rfl rfl ?_
    refine op1 3 rfl (sp_lenM (N := a2.length) (len_map _ _) rfl rfl isRo Tryz.underlying23) rfl trivial rfl rfl ?_
    refine op0 (sp_lss rfl rfl rfl) rfl trivial rfl rfl ?_
    refine TL.nil ?_
    refine TC.cond (b := (decide (i17 < (a2.length : Int)))) rfl (fun h20 => ?_) (fun h20 => ?_)
    · have h := cond_t h h20
      refine TC.skip ?_
      refine TC.seq ?_
      refine TC.block ?_
      refine TC.seq ?_
      obtain ⟨x18, h21, h22, h⟩ := idx_inv h
      obtain ⟨x19, h23, h24, h⟩ := idx_inv h
      refine drawJ 10 [⟨.ptr 6 1, [], [.blk 6 [.ref 0, .ref 1, .ref 2, vi a4, vi a5] 26], []⟩, ⟨.ref 1, [], [.blk 6 [.ref 0, .ref 1, .ref 2, vi a4, vi a5] 26], []⟩, ⟨vi i17, [], [], []⟩, ⟨.cell 1 ((i17 : Int).toNat * 1), [], [.ro 1 1 (List.map en_Lint a2)], []⟩, ⟨.ref 8, [.ro 8 1 (List.map en_int x18)], [.ro 1 1 (List.map en_Lint a2)], []⟩, ⟨.ptr 7 1, [], [.blk 7 [.ref 3, .ref 4, .ref 5, vi b9, vi b10] 26], []⟩, ⟨.ref 4, [], [.blk 7 [.ref 3, .ref 4, .ref 5, vi b9, vi b10] 26], []⟩, ⟨vi i17, [], [], []⟩, ⟨.cell 4 ((i17 : Int).toNat * 1), [], [.ro 4 1 (List.map en_Lint b7)], []⟩, ⟨.ref 9, [.ro 9 1 (List.map en_int x19)], [.ro 4 1 (List.map en_Lint b7)], []⟩] rfl ?_ rfl ?_ rfl ?_ ?_
      · kernel_rfl
      · kernel_rfl
      · exact DAll.op' (sp_fieldAddrB rfl isBlk rfl ft26_1 vt23 (by decide)) trivial rfl (From.ok (ps := [(none, 0)]) ⟨⟨rfl, rfl⟩, trivial⟩) (DAll.op' (sp_loadB rfl isBlk rfl vt23 rfl) trivial rfl (From.ok (ps := [(none, 0)]) ⟨⟨rfl, rfl⟩, trivial⟩) (DAll.op' (sp_move rfl rfl) trivial rfl (From.ok (ps := []) trivial) (DAll.op' (sp_indexS rfl rfl rfl isRo sl23 h21 (map_get _ h22)) trivial rfl (From.ok (ps := [(none, 3)]) ⟨⟨rfl, rfl⟩, trivial⟩) (DAll.op' (sp_loadR (i := (i17 : Int).toNat) (j := 0) (ns := [.ro 8 1 (List.map en_int x18)]) rfl rfl isRo vt27 rfl (map_get _ h22) rfl (.s (.nil)) (nodup_of_B rfl)) trivial rfl (From.ok (ps := [(none, 3)]) ⟨⟨rfl, rfl⟩, trivial⟩) (DAll.op' (sp_fieldAddrB rfl isBlk rfl ft26_1 vt23 (by decide)) trivial rfl (From.ok (ps := [(none, 1)]) ⟨⟨rfl, rfl⟩, trivial⟩) (DAll.op' (sp_loadB rfl isBlk rfl vt23 rfl) trivial rfl (From.ok (ps := [(none, 1)]) ⟨⟨rfl, rfl⟩, trivial⟩) (DAll.op' (sp_move rfl rfl) trivial rfl (From.ok (ps := []) trivial) (DAll.op' (sp_indexS rfl rfl rfl isRo sl23 h23 (map_get _ h24)) trivial rfl (From.ok (ps := [(none, 6)]) ⟨⟨rfl, rfl⟩, trivial⟩) (DAll.op' (sp_loadR (i := (i17 : Int).toNat) (j := 0) (ns := [.ro 9 1 (List.map en_int x19)]) rfl rfl isRo vt27 rfl (map_get _ h24) rfl (.s (.nil)) (nodup_of_B rfl)) trivial rfl (From.ok (ps := [(none, 6)]) ⟨⟨rfl, rfl⟩, trivial⟩) (.nil))))))))))
      obtain ⟨r20, h25, h⟩ := bind_inv h
      refine opN (need := [.ro 8 1 (List.map en_int x18), .ro 9 1 (List.map en_int x19)]) [1, 0] ⟨rfl, rfl, trivial⟩ (sp_call (avs := [.ref 8, .ref 9]) (need := [.ro 8 1 (List.map en_int x18), .ro 9 1 (List.map en_int x19)]) (v := .val (.bool r20)) (news := []) rfl rfl rfl Tryz.call14 (atJ [(0, 8), (1, 9)] [] (fc_ref11_Same h25) rfl rfl) (.inl (roAll rfl))) rfl trivial rfl rfl ?_
      refine op0 (sp_not rfl rfl) rfl trivial rfl rfl ?_
      refine TL.nil ?_
      refine TC.cond (b := (!r20)) rfl (fun h26 => ?_) (fun h26 => ?_)
      · have h := cond_t h h26
        refine TC.seq ?_
        refine TC.region ?_
        refine op0 (sp_assign rfl rfl) rfl trivial rfl rfl ?_
        refine TL.nil ?_
        cases h
        exact retJ [] (.tmp rfl .nil) rfl trivial rfl rfl
      · have h := cond_f h h26
        refine TC.skip ?_
        refine TC.inBlock ?_
        refine TC.region ?_
        refine op0 (sp_move rfl rfl) rfl trivial rfl rfl ?_
        obtain ⟨h27, h⟩ := chk_inv h
        refine op0 (sp_add rfl rfl rfl h27) rfl trivial rfl rfl ?_
        refine op0 (sp_assign rfl rfl) rfl trivial rfl rfl ?_
        refine TL.nil ?_
        refine TC.inLoop ?_
        refine TC.seq ?_
        refine TC.seq ?_
        refine subJ [] (ih _ h) ?_ ?_ ?_
        · exact ⟨rfl, rfl, rfl, trivial⟩
        · exact ⟨mem_at 2 rfl, mem_at 3 rfl, mem_at 4 rfl, mem_at 5 rfl, mem_at 6 rfl, mem_at 7 rfl, mem_at 8 rfl, mem_at 9 rfl, trivial⟩
        · rfl
    · have h := cond_f h h20
      refine TC.exit rfl ?_
      refine TC.seq ?_
      refine TC.region ?_
      refine op0 (sp_assign rfl rfl) rfl trivial rfl rfl ?_
      refine TL.nil ?_
      cases h
      exact retJ [] (.tmp rfl .nil) rfl trivial rfl rfl
def ev_law11_same_l2 (n : Nat) (a3 : List (Int × Int × Int × Int)) (b8 : List (Int × Int × Int × Int)) (a2 : List ((List Int))) (b7 : List ((List Int))) : Nat → Int → Option Bool
  | 0, _ => none
  | m + 1, i14 => cond (decide (i14 < (a3.length : Int))) (idx a3 i14 fun x15 => idx b8 i14 fun x16 => cond (!((x15.1 == x16.1) && ((x15.2.1 == x16.2.1) && ((x15.2.2.1 == x16.2.2.1) && (x15.2.2.2 == x16.2.2.2))))) (some false) (chk (in64 (i14 + 1)) <| ev_law11_same_l2 n a3 b8 a2 b7 m (i14 + 1))) (ev_law11_same_l3 n a2 b7 n 0)
theorem ok_law11_same_l2 {n : Nat} {w0 : World} {R0 : Nat → Prop} {env0 : Env} {r : Bool} {a4 : Int} {a5 : Int} {b9 : Int} {b10 : Int} {a1 : List (Int × Int × Int × Int × Int)} {a2 : List ((List Int))} {a3 : List (Int × Int × Int × Int)} {b6 : List (Int × Int × Int × Int × Int)} {b7 : List ((List Int))} {b8 : List (Int × Int × Int × Int)} : ∀ (m : Nat) (i14 : Int), ev_law11_same_l2 n a3 b8 a2 b7 m i14 = some r → TC Tryz.prog ⟨w0, fun _ => False, R0⟩ 102 (bodyPost Tryz.prog Tryz.f13 (Post ⟨w0, fun _ => False, R0⟩ env0 (.val (.bool r)) [])) [.code (sub (bodyOf Tryz.f13) [1, 1, 1, 0, 1, 0, 0, 0, 0]), .code (sub (bodyOf Tryz.f13) [1, 1, 1, 0, 1, 0, 0, 0, 1]), .code (sub (bodyOf Tryz.f13) [1, 1, 1, 0, 1, 0, 0, 1]), .inLoop (sub (bodyOf Tryz.f13) [1, 1, 1, 0, 1, 0, 0]), .inBlock 2, .code (sub (bodyOf Tryz.f13) [1, 1, 1, 1])] ([(2, .ptr 6 0), (3, .ptr 7 0), (6, vi i14)]) ([.blk 6 [.ref 0, .ref 1, .ref 2, vi a4, vi a5] 26, .blk 7 [.ref 3, .ref 4, .ref 5, vi b9, vi b10] 26, .ro 0 5 (List.map en_api_RoundTower a1), .ro 1 1 (List.map en_Lint a2), .ro 2 4 (List.map en_api_RoundWinder a3), .ro 3 5 (List.map en_api_RoundTower b6), .ro 4 1 (List.map en_Lint b7), .ro 5 4 (List.map en_api_RoundWinder b8)]) := by
  intro m
  induction m with
  | zero => intro i14 h; exact none_no h
  | succ m ih =>
    intro i14 h
    rw [ev_law11_same_l2] at h
    refine TC.region ?_
    refine op0 (sp_move rfl rfl) rfl trivial rfl rfl ?_
    refine op1 0 rfl (sp_fieldAddrB rfl isBlk rfl ft26_2 vt24 (by decide)) rfl trivial rfl rfl ?_
    refine op1 0 rfl (sp_loadB rfl isBlk rfl vt24 rfl) rfl trivial rfl rfl ?_
    refine op1 4 rfl (sp_lenM (N := a3.length) (len_map _ _) rfl rfl isRo Tryz.underlying24) rfl trivial rfl rfl ?_
    refine op0 (sp_lss rfl rfl rfl) rfl trivial rfl rfl ?_
    refine TL.nil ?_
    refine TC.cond (b := (decide (i14 < (a3.length : Int)))) rfl (fun h13 => ?_) (fun h13 => ?_)
    · have h := cond_t h h13
      refine TC.skip ?_
      refine TC.seq ?_
      refine TC.block ?_
      refine TC.seq ?_
      obtain ⟨x15, h14, h15, h⟩ := idx_inv h
      obtain ⟨x16, h16, h17, h⟩ := idx_inv h
      refine drawJ 10 [⟨.ptr 6 2, [], [.blk 6 [.ref 0, .ref 1, .ref 2, vi a4, vi a5] 26], []⟩, ⟨.ref 2, [], [.blk 6 [.ref 0, .ref 1, .ref 2, vi a4, vi a5] 26], []⟩, ⟨vi i14, [], [], []⟩, ⟨.cell 2 ((i14 : Int).toNat * 4), [], [.ro 2 4 (List.map en_api_RoundWinder a3)], []⟩, ⟨.agg [.val (.int .u16 x15.1), vi x15.2.1, vi x15.2.2.1, vi x15.2.2.2], [], [.ro 2 4 (List.map en_api_RoundWinder a3)], []⟩, ⟨.ptr 7 2, [], [.blk 7 [.ref 3, .ref 4, .ref 5, vi b9, vi b10] 26], []⟩, ⟨.ref 5, [], [.blk 7 [.ref 3, .ref 4, .ref 5, vi b9, vi b10] 26], []⟩, ⟨vi i14, [], [], []⟩, ⟨.cell 5 ((i14 : Int).toNat * 4), [], [.ro 5 4 (List.map en_api_RoundWinder b8)], []⟩, ⟨.agg [.val (.int .u16 x16.1), vi x16.2.1, vi x16.2.2.1, vi x16.2.2.2], [], [.ro 5 4 (List.map en_api_RoundWinder b8)], []⟩] rfl ?_ rfl ?_ rfl ?_ ?_
      · kernel_rfl
      · kernel_rfl
      · exact DAll.op' (sp_fieldAddrB rfl isBlk rfl ft26_2 vt24 (by decide)) trivial rfl (From.ok (ps := [(none, 0)]) ⟨⟨rfl, rfl⟩, trivial⟩) (DAll.op' (sp_loadB rfl isBlk rfl vt24 rfl) trivial rfl (From.ok (ps := [(none, 0)]) ⟨⟨rfl, rfl⟩, trivial⟩) (DAll.op' (sp_move rfl rfl) trivial rfl (From.ok (ps := []) trivial) (DAll.op' (sp_indexS rfl rfl rfl isRo sl24 h14 (map_get _ h15)) trivial rfl (From.ok (ps := [(none, 4)]) ⟨⟨rfl, rfl⟩, trivial⟩) (DAll.op' (sp_loadRA (i := (i14 : Int).toNat) (j := 0) (as_ := [.val (.int .u16 x15.1), vi x15.2.1, vi x15.2.2.1, vi x15.2.2.2]) (ns := []) rfl rfl isRo vt50 rfl (map_get _ h15) rfl rfl (by decide) (.v (.v (.v (.v (.nil))))) (nodup_of_B rfl)) trivial rfl (From.ok (ps := [(none, 4)]) ⟨⟨rfl, rfl⟩, trivial⟩) (DAll.op' (sp_fieldAddrB rfl isBlk rfl ft26_2 vt24 (by decide)) trivial rfl (From.ok (ps := [(none, 1)]) ⟨⟨rfl, rfl⟩, trivial⟩) (DAll.op' (sp_loadB rfl isBlk rfl vt24 rfl) trivial rfl (From.ok (ps := [(none, 1)]) ⟨⟨rfl, rfl⟩, trivial⟩) (DAll.op' (sp_move rfl rfl) trivial rfl (From.ok (ps := []) trivial) (DAll.op' (sp_indexS rfl rfl rfl isRo sl24 h16 (map_get _ h17)) trivial rfl (From.ok (ps := [(none, 7)]) ⟨⟨rfl, rfl⟩, trivial⟩) (DAll.op' (sp_loadRA (i := (i14 : Int).toNat) (j := 0) (as_ := [.val (.int .u16 x16.1), vi x16.2.1, vi x16.2.2.1, vi x16.2.2.2]) (ns := []) rfl rfl isRo vt50 rfl (map_get _ h17) rfl rfl (by decide) (.v (.v (.v (.v (.nil))))) (nodup_of_B rfl)) trivial rfl (From.ok (ps := [(none, 7)]) ⟨⟨rfl, rfl⟩, trivial⟩) (.nil))))))))))
      refine op0 (sp_neqS rfl rfl rfl rfl rfl (eq50 _ _ _ _ _ _ _ _)) rfl trivial rfl rfl ?_
      refine TL.nil ?_
      refine TC.cond (b := (!((x15.1 == x16.1) && ((x15.2.1 == x16.2.1) && ((x15.2.2.1 == x16.2.2.1) && (x15.2.2.2 == x16.2.2.2)))))) rfl (fun h18 => ?_) (fun h18 => ?_)
      · have h := cond_t h h18
        refine TC.seq ?_
        refine TC.region ?_
        refine op0 (sp_assign rfl rfl) rfl trivial rfl rfl ?_
        refine TL.nil ?_
        cases h
        exact retJ [] (.tmp rfl .nil) rfl trivial rfl rfl
      · have h := cond_f h h18
        refine TC.skip ?_
        refine TC.inBlock ?_
        refine TC.region ?_
        refine op0 (sp_move rfl rfl) rfl trivial rfl rfl ?_
        obtain ⟨h19, h⟩ := chk_inv h
        refine op0 (sp_add rfl rfl rfl h19) rfl trivial rfl rfl ?_
        refine op0 (sp_assign rfl rfl) rfl trivial rfl rfl ?_
        refine TL.nil ?_
        refine TC.inLoop ?_
        refine TC.seq ?_
        refine TC.seq ?_
        refine subJ [] (ih _ h) ?_ ?_ ?_
        · exact ⟨rfl, rfl, rfl, trivial⟩
        · exact ⟨mem_at 0 rfl, mem_at 1 rfl, mem_at 2 rfl, mem_at 3 rfl, mem_at 4 rfl, mem_at 5 rfl, mem_at 6 rfl, mem_at 7 rfl, trivial⟩
        · rfl
    · have h := cond_f h h13
      refine TC.exit rfl ?_
      refine TC.seq ?_
      refine TC.seq ?_
      refine TC.region ?_
      refine op0 (sp_assign rfl rfl) rfl trivial rfl rfl ?_
      refine TL.nil ?_
      refine TC.block ?_
      refine TC.loop ?_
      refine TC.seq ?_
      refine TC.seq ?_
      refine subJ [] (ok_law11_same_l3 (a4 := a4) (a5 := a5) (b9 := b9) (b10 := b10) (a1 := a1) (a3 := a3) (b6 := b6) (b8 := b8) _ _ h) ?_ ?_ ?_
      · exact ⟨rfl, rfl, rfl, trivial⟩
      · exact ⟨mem_at 0 rfl, mem_at 1 rfl, mem_at 2 rfl, mem_at 3 rfl, mem_at 4 rfl, mem_at 5 rfl, mem_at 6 rfl, mem_at 7 rfl, trivial⟩
      · rfl
def ev_law11_same_l1 (n : Nat) (a1 : List (Int × Int × Int × Int × Int)) (b6 : List (Int × Int × Int × Int × Int)) (a3 : List (Int × Int × Int × Int)) (b8 : List (Int × Int × Int × Int)) (a2 : List ((List Int))) (b7 : List ((List Int))) : Nat → Int → Option Bool
  | 0, _ => none
  | m + 1, i11 => cond (decide (i11 < (a1.length : Int))) (idx a1 i11 fun x12 => idx b6 i11 fun x13 => cond (!((x12.1 == x13.1) && ((x12.2.1 == x13.2.1) && ((x12.2.2.1 == x13.2.2.1) && ((x12.2.2.2.1 == x13.2.2.2.1) && (x12.2.2.2.2 == x13.2.2.2.2)))))) (some false) (chk (in64 (i11 + 1)) <| ev_law11_same_l1 n a1 b6 a3 b8 a2 b7 m (i11 + 1))) (ev_law11_same_l2 n a3 b8 a2 b7 n 0)
theorem ok_law11_same_l1 {n : Nat} {w0 : World} {R0 : Nat → Prop} {env0 : Env} {r : Bool} {a4 : Int} {a5 : Int} {b9 : Int} {b10 : Int} {a1 : List (Int × Int × Int × Int × Int)} {a2 : List ((List Int))} {a3 : List (Int × Int × Int × Int)} {b6 : List (Int × Int × Int × Int × Int)} {b7 : List ((List Int))} {b8 : List (Int × Int × Int × Int)} : ∀ (m : Nat) (i11 : Int), ev_law11_same_l1 n a1 b6 a3 b8 a2 b7 m i11 = some r → TC Tryz.prog ⟨w0, fun _ => False, R0⟩ 102 (bodyPost Tryz.prog Tryz.f13 (Post ⟨w0, fun _ => False, R0⟩ env0 (.val (.bool r)) [])) [.code (sub (bodyOf Tryz.f13) [1, 1, 0, 1, 0, 0, 0, 0]), .code (sub (bodyOf Tryz.f13) [1, 1, 0, 1, 0, 0, 0, 1]), .code (sub (bodyOf Tryz.f13) [1, 1, 0, 1, 0, 0, 1]), .inLoop (sub (bodyOf Tryz.f13) [1, 1, 0, 1, 0, 0]), .inBlock 0, .code (sub (bodyOf Tryz.f13) [1, 1, 1])] ([(2, .ptr 6 0), (3, .ptr 7 0), (5, vi i11)]) ([.blk 6 [.ref 0, .ref 1, .ref 2, vi a4, vi a5] 26, .blk 7 [.ref 3, .ref 4, .ref 5, vi b9, vi b10] 26, .ro 0 5 (List.map en_api_RoundTower a1), .ro 1 1 (List.map en_Lint a2), .ro 2 4 (List.map en_api_RoundWinder a3), .ro 3 5 (List.map en_api_RoundTower b6), .ro 4 1 (List.map en_Lint b7), .ro 5 4 (List.map en_api_RoundWinder b8)]) := by
  intro m
  induction m with
  | zero => intro i11 h; exact none_no h
  | succ m ih =>
    intro i11 h
    rw [ev_law11_same_l1] at h
    refine TC.region ?_
    refine op0 (sp_move rfl rfl) rfl trivial rfl rfl ?_
    refine op1 0 rfl (sp_fieldAddrB rfl isBlk rfl ft26_0 vt22 (by decide)) rfl trivial rfl rfl ?_
    refine op1 0 rfl (sp_loadB rfl isBlk rfl vt22 rfl) rfl trivial rfl rfl ?_
    refine op1 2 rfl (sp_lenM (N := a1.length) (len_map _ _) rfl rfl isRo Tryz.underlying22) rfl trivial rfl rfl ?_
    refine op0 (sp_lss rfl rfl rfl) rfl trivial rfl rfl ?_
    refine TL.nil ?_
    refine TC.cond (b := (decide (i11 < (a1.length : Int)))) rfl (fun h6 => ?_) (fun h6 => ?_)
    · have h := cond_t h h6
      refine TC.skip ?_
      refine TC.seq ?_
      refine TC.block ?_
      refine TC.seq ?_
      obtain ⟨x12, h7, h8, h⟩ := idx_inv h
      obtain ⟨x13, h9, h10, h⟩ := idx_inv h
      refine drawJ 10 [⟨.ptr 6 0, [], [.blk 6 [.ref 0, .ref 1, .ref 2, vi a4, vi a5] 26], []⟩, ⟨.ref 0, [], [.blk 6 [.ref 0, .ref 1, .ref 2, vi a4, vi a5] 26], []⟩, ⟨vi i11, [], [], []⟩, ⟨.cell 0 ((i11 : Int).toNat * 5), [], [.ro 0 5 (List.map en_api_RoundTower a1)], []⟩, ⟨.agg [vi x12.1, vi x12.2.1, .val (.int .u16 x12.2.2.1), vi x12.2.2.2.1, vi x12.2.2.2.2], [], [.ro 0 5 (List.map en_api_RoundTower a1)], []⟩, ⟨.ptr 7 0, [], [.blk 7 [.ref 3, .ref 4, .ref 5, vi b9, vi b10] 26], []⟩, ⟨.ref 3, [], [.blk 7 [.ref 3, .ref 4, .ref 5, vi b9, vi b10] 26], []⟩, ⟨vi i11, [], [], []⟩, ⟨.cell 3 ((i11 : Int).toNat * 5), [], [.ro 3 5 (List.map en_api_RoundTower b6)], []⟩, ⟨.agg [vi x13.1, vi x13.2.1, .val (.int .u16 x13.2.2.1), vi x13.2.2.2.1, vi x13.2.2.2.2], [], [.ro 3 5 (List.map en_api_RoundTower b6)], []⟩] rfl ?_ rfl ?_ rfl ?_ ?_
      · kernel_rfl
      · kernel_rfl
      · exact DAll.op' (sp_fieldAddrB rfl isBlk rfl ft26_0 vt22 (by decide)) trivial rfl (From.ok (ps := [(none, 0)]) ⟨⟨rfl, rfl⟩, trivial⟩) (DAll.op' (sp_loadB rfl isBlk rfl vt22 rfl) trivial rfl (From.ok (ps := [(none, 0)]) ⟨⟨rfl, rfl⟩, trivial⟩) (DAll.op' (sp_move rfl rfl) trivial rfl (From.ok (ps := []) trivial) (DAll.op' (sp_indexS rfl rfl rfl isRo sl22 h7 (map_get _ h8)) trivial rfl (From.ok (ps := [(none, 2)]) ⟨⟨rfl, rfl⟩, trivial⟩) (DAll.op' (sp_loadRA (i := (i11 : Int).toNat) (j := 0) (as_ := [vi x12.1, vi x12.2.1, .val (.int .u16 x12.2.2.1), vi x12.2.2.2.1, vi x12.2.2.2.2]) (ns := []) rfl rfl isRo vt71 rfl (map_get _ h8) rfl rfl (by decide) (.v (.v (.v (.v (.v (.nil)))))) (nodup_of_B rfl)) trivial rfl (From.ok (ps := [(none, 2)]) ⟨⟨rfl, rfl⟩, trivial⟩) (DAll.op' (sp_fieldAddrB rfl isBlk rfl ft26_0 vt22 (by decide)) trivial rfl (From.ok (ps := [(none, 1)]) ⟨⟨rfl, rfl⟩, trivial⟩) (DAll.op' (sp_loadB rfl isBlk rfl vt22 rfl) trivial rfl (From.ok (ps := [(none, 1)]) ⟨⟨rfl, rfl⟩, trivial⟩) (DAll.op' (sp_move rfl rfl) trivial rfl (From.ok (ps := []) trivial) (DAll.op' (sp_indexS rfl rfl rfl isRo sl22 h9 (map_get _ h10)) trivial rfl (From.ok (ps := [(none, 5)]) ⟨⟨rfl, rfl⟩, trivial⟩) (DAll.op' (sp_loadRA (i := (i11 : Int).toNat) (j := 0) (as_ := [vi x13.1, vi x13.2.1, .val (.int .u16 x13.2.2.1), vi x13.2.2.2.1, vi x13.2.2.2.2]) (ns := []) rfl rfl isRo vt71 rfl (map_get _ h10) rfl rfl (by decide) (.v (.v (.v (.v (.v (.nil)))))) (nodup_of_B rfl)) trivial rfl (From.ok (ps := [(none, 5)]) ⟨⟨rfl, rfl⟩, trivial⟩) (.nil))))))))))
      refine op0 (sp_neqS rfl rfl rfl rfl rfl (eq71 _ _ _ _ _ _ _ _ _ _)) rfl trivial rfl rfl ?_
      refine TL.nil ?_
      refine TC.cond (b := (!((x12.1 == x13.1) && ((x12.2.1 == x13.2.1) && ((x12.2.2.1 == x13.2.2.1) && ((x12.2.2.2.1 == x13.2.2.2.1) && (x12.2.2.2.2 == x13.2.2.2.2))))))) rfl (fun h11 => ?_) (fun h11 => ?_)
      · have h := cond_t h h11
        refine TC.seq ?_
        refine TC.region ?_
        refine op0 (sp_assign rfl rfl) rfl trivial rfl rfl ?_
        refine TL.nil ?_
        cases h
        exact retJ [] (.tmp rfl .nil) rfl trivial rfl rfl
      · have h := cond_f h h11
        refine TC.skip ?_
        refine TC.inBlock ?_
        refine TC.region ?_
        refine op0 (sp_move rfl rfl) rfl trivial rfl rfl ?_
        obtain ⟨h12, h⟩ := chk_inv h
        refine op0 (sp_add rfl rfl rfl h12) rfl trivial rfl rfl ?_
        refine op0 (sp_assign rfl rfl) rfl trivial rfl rfl ?_
        refine TL.nil ?_
        refine TC.inLoop ?_
        refine TC.seq ?_
        refine TC.seq ?_
        refine subJ [] (ih _ h) ?_ ?_ ?_
        · exact ⟨rfl, rfl, rfl, trivial⟩
        · exact ⟨mem_at 0 rfl, mem_at 1 rfl, mem_at 2 rfl, mem_at 3 rfl, mem_at 4 rfl, mem_at 5 rfl, mem_at 6 rfl, mem_at 7 rfl, trivial⟩
        · rfl
    · have h := cond_f h h6
      refine TC.exit rfl ?_
      refine TC.seq ?_
      refine TC.seq ?_
      refine TC.region ?_
      refine op0 (sp_assign rfl rfl) rfl trivial rfl rfl ?_
      refine TL.nil ?_
      refine TC.block ?_
      refine TC.loop ?_
      refine TC.seq ?_
      refine TC.seq ?_
      refine subJ [] (ok_law11_same_l2 (a4 := a4) (a5 := a5) (b9 := b9) (b10 := b10) (a1 := a1) (b6 := b6) _ _ h) ?_ ?_ ?_
      · exact ⟨rfl, rfl, rfl, trivial⟩
      · exact ⟨mem_at 0 rfl, mem_at 1 rfl, mem_at 2 rfl, mem_at 3 rfl, mem_at 4 rfl, mem_at 5 rfl, mem_at 6 rfl, mem_at 7 rfl, trivial⟩
      · rfl
def ev_law11_same_j0 (n : Nat) (a1 : List (Int × Int × Int × Int × Int)) (b6 : List (Int × Int × Int × Int × Int)) (a3 : List (Int × Int × Int × Int)) (b8 : List (Int × Int × Int × Int)) (a2 : List ((List Int))) (b7 : List ((List Int))) : Option Bool :=
  ev_law11_same_l1 n a1 b6 a3 b8 a2 b7 n 0
theorem ok_law11_same_j0 {n : Nat} {w0 : World} {R0 : Nat → Prop} {env0 : Env} {r : Bool} {a4 : Int} {a5 : Int} {b9 : Int} {b10 : Int} {a1 : List (Int × Int × Int × Int × Int)} {a2 : List ((List Int))} {a3 : List (Int × Int × Int × Int)} {b6 : List (Int × Int × Int × Int × Int)} {b7 : List ((List Int))} {b8 : List (Int × Int × Int × Int)} (h : ev_law11_same_j0 n a1 b6 a3 b8 a2 b7 = some r) : TC Tryz.prog ⟨w0, fun _ => False, R0⟩ 102 (bodyPost Tryz.prog Tryz.f13 (Post ⟨w0, fun _ => False, R0⟩ env0 (.val (.bool r)) [])) [.code (sub (bodyOf Tryz.f13) [1, 0, 1, 1]), .code (sub (bodyOf Tryz.f13) [1, 1])] ([(2, .ptr 6 0), (3, .ptr 7 0)]) ([.blk 6 [.ref 0, .ref 1, .ref 2, vi a4, vi a5] 26, .blk 7 [.ref 3, .ref 4, .ref 5, vi b9, vi b10] 26, .ro 0 5 (List.map en_api_RoundTower a1), .ro 1 1 (List.map en_Lint a2), .ro 2 4 (List.map en_api_RoundWinder a3), .ro 3 5 (List.map en_api_RoundTower b6), .ro 4 1 (List.map en_Lint b7), .ro 5 4 (List.map en_api_RoundWinder b8)]) := by
  rw [ev_law11_same_j0] at h
  refine TC.skip ?_
  refine TC.seq ?_
  refine TC.seq ?_
  refine TC.region ?_
  refine op0 (sp_assign rfl rfl) rfl trivial rfl rfl ?_
  refine TL.nil ?_
  refine TC.block ?_
  refine TC.loop ?_
  refine TC.seq ?_
  refine TC.seq ?_
  refine subJ [] (ok_law11_same_l1 (a4 := a4) (a5 := a5) (b9 := b9) (b10 := b10) _ _ h) ?_ ?_ ?_
  · exact ⟨rfl, rfl, rfl, trivial⟩
  · exact ⟨mem_at 0 rfl, mem_at 1 rfl, mem_at 2 rfl, mem_at 3 rfl, mem_at 4 rfl, mem_at 5 rfl, mem_at 6 rfl, mem_at 7 rfl, trivial⟩
  · rfl
def ev_law11_same (n : Nat) (a1 : List (Int × Int × Int × Int × Int)) (a2 : List ((List Int))) (a3 : List (Int × Int × Int × Int)) (a4 : Int) (a5 : Int) (b6 : List (Int × Int × Int × Int × Int)) (b7 : List ((List Int))) (b8 : List (Int × Int × Int × Int)) (b9 : Int) (b10 : Int) : Option Bool :=
  cond (a4 != b9) (some false) (cond (a5 != b10) (some false) (cond ((a1.length : Int) != (b6.length : Int)) (some false) (cond ((a3.length : Int) != (b8.length : Int)) (some false) (cond ((a2.length : Int) != (b7.length : Int)) (some false) (ev_law11_same_j0 n a1 b6 a3 b8 a2 b7)))))
theorem fc_law11_same {n : Nat} {a1 : List (Int × Int × Int × Int × Int)} {a2 : List ((List Int))} {a3 : List (Int × Int × Int × Int)} {a4 : Int} {a5 : Int} {b6 : List (Int × Int × Int × Int × Int)} {b7 : List ((List Int))} {b8 : List (Int × Int × Int × Int)} {b9 : Int} {b10 : Int} {r : Bool} (h : ev_law11_same n a1 a2 a3 a4 a5 b6 b7 b8 b9 b10 = some r) : FC Tryz.prog 13 [.agg [.ref 0, .ref 1, .ref 2, vi a4, vi a5], .agg [.ref 3, .ref 4, .ref 5, vi b9, vi b10]] [.ro 0 5 (List.map en_api_RoundTower a1), .ro 1 1 (List.map en_Lint a2), .ro 2 4 (List.map en_api_RoundWinder a3), .ro 3 5 (List.map en_api_RoundTower b6), .ro 4 1 (List.map en_Lint b7), .ro 5 4 (List.map en_api_RoundWinder b8)] (.val (.bool r)) [] := by
  refine introJ (nz := 102) Tryz.func13 rfl rfl rfl (fun w0 R0 env0 => ?_)
  rw [ev_law11_same] at h
  refine TC.seq ?_
  refine TC.region ?_
  refine op0 (sp_box 6 rfl rfl rfl rfl rfl) rfl trivial rfl rfl ?_
  refine op0 (sp_box 7 rfl rfl rfl rfl rfl) rfl trivial rfl rfl ?_
  refine op0 (sp_assign rfl rfl) rfl trivial rfl rfl ?_
  refine TL.nil ?_
  refine TC.seq ?_
  refine TC.seq ?_
  refine TC.region ?_
  refine op1 1 rfl (sp_fieldAddrB rfl isBlk rfl ft26_3 vt3 (by decide)) rfl trivial rfl rfl ?_
  refine op1 1 rfl (sp_loadB rfl isBlk rfl vt3 rfl) rfl trivial rfl rfl ?_
  refine op1 0 rfl (sp_fieldAddrB rfl isBlk rfl ft26_3 vt3 (by decide)) rfl trivial rfl rfl ?_
  refine op1 0 rfl (sp_loadB rfl isBlk rfl vt3 rfl) rfl trivial rfl rfl ?_
  refine op0 (sp_neq rfl rfl rfl) rfl trivial rfl rfl ?_
  refine op0 (sp_move rfl rfl) rfl trivial rfl rfl ?_
  rcases cond_cases h with ⟨h1, h⟩ | ⟨h1, h⟩
  · refine (boolLit 13 rfl h1).2 ?_
    refine opSkip rfl ⟨_, rfl, .inl rfl⟩ rfl ?_
    refine opSkip rfl ⟨_, rfl, .inl rfl⟩ rfl ?_
    refine opSkip rfl ⟨_, rfl, .inl rfl⟩ rfl ?_
    refine opSkip rfl ⟨_, rfl, .inl rfl⟩ rfl ?_
    refine opSkip rfl ⟨_, rfl, .inl rfl⟩ rfl ?_
    refine op0 (sp_pickT rfl rfl rfl) rfl trivial rfl rfl ?_
    refine op0 (sp_move rfl rfl) rfl trivial rfl rfl ?_
    refine opSkip rfl ⟨_, rfl, .inl rfl⟩ rfl ?_
    refine opSkip rfl ⟨_, rfl, .inl rfl⟩ rfl ?_
    refine opSkip rfl ⟨_, rfl, .inl rfl⟩ rfl ?_
    refine opSkip rfl ⟨_, rfl, .inl rfl⟩ rfl ?_
    refine opSkip rfl ⟨_, rfl, .inl rfl⟩ rfl ?_
    refine opSkip rfl ⟨_, rfl, .inl rfl⟩ rfl ?_
    refine opSkip rfl ⟨_, rfl, .inl rfl⟩ rfl ?_
    refine op0 (sp_pickT rfl rfl rfl) rfl trivial rfl rfl ?_
    refine op0 (sp_move rfl rfl) rfl trivial rfl rfl ?_
    refine opSkip rfl ⟨_, rfl, .inl rfl⟩ rfl ?_
    refine opSkip rfl ⟨_, rfl, .inl rfl⟩ rfl ?_
    refine opSkip rfl ⟨_, rfl, .inl rfl⟩ rfl ?_
    refine opSkip rfl ⟨_, rfl, .inl rfl⟩ rfl ?_
    refine opSkip rfl ⟨_, rfl, .inl rfl⟩ rfl ?_
    refine opSkip rfl ⟨_, rfl, .inl rfl⟩ rfl ?_
    refine opSkip rfl ⟨_, rfl, .inl rfl⟩ rfl ?_
    refine op0 (sp_pickT rfl rfl rfl) rfl trivial rfl rfl ?_
    refine op0 (sp_move rfl rfl) rfl trivial rfl rfl ?_
    refine opSkip rfl ⟨_, rfl, .inl rfl⟩ rfl ?_
    refine opSkip rfl ⟨_, rfl, .inl rfl⟩ rfl ?_
    refine opSkip rfl ⟨_, rfl, .inl rfl⟩ rfl ?_
    refine opSkip rfl ⟨_, rfl, .inl rfl⟩ rfl ?_
    refine opSkip rfl ⟨_, rfl, .inl rfl⟩ rfl ?_
    refine opSkip rfl ⟨_, rfl, .inl rfl⟩ rfl ?_
    refine opSkip rfl ⟨_, rfl, .inl rfl⟩ rfl ?_
    refine op0 (sp_pickT rfl rfl rfl) rfl trivial rfl rfl ?_
    refine TL.nil ?_
    refine TC.condT rfl ?_
    refine TC.seq ?_
    refine TC.region ?_
    refine op0 (sp_assign rfl rfl) rfl trivial rfl rfl ?_
    refine TL.nil ?_
    cases h
    exact retJ [] (.tmp rfl .nil) rfl trivial rfl rfl
  · refine (boolLit 13 rfl h1).2 ?_
    refine op1 1 rfl (sp_fieldAddrB rfl isBlk rfl ft26_4 vt3 (by decide)) rfl ⟨_, rfl, rfl⟩ rfl rfl ?_
    refine op1 1 rfl (sp_loadB rfl isBlk rfl vt3 rfl) rfl ⟨_, rfl, rfl⟩ rfl rfl ?_
    refine op1 0 rfl (sp_fieldAddrB rfl isBlk rfl ft26_4 vt3 (by decide)) rfl ⟨_, rfl, rfl⟩ rfl rfl ?_
    refine op1 0 rfl (sp_loadB rfl isBlk rfl vt3 rfl) rfl ⟨_, rfl, rfl⟩ rfl rfl ?_
    refine op0 (sp_neq rfl rfl rfl) rfl ⟨_, rfl, rfl⟩ rfl rfl ?_
    refine op0 (sp_pickF rfl rfl rfl) rfl trivial rfl rfl ?_
    refine op0 (sp_move rfl rfl) rfl trivial rfl rfl ?_
    rcases cond_cases h with ⟨h2, h⟩ | ⟨h2, h⟩
    · refine (boolLit 20 rfl h2).2 ?_
      refine opSkip rfl ⟨_, rfl, .inl rfl⟩ rfl ?_
      refine opSkip rfl ⟨_, rfl, .inl rfl⟩ rfl ?_
      refine opSkip rfl ⟨_, rfl, .inl rfl⟩ rfl ?_
      refine opSkip rfl ⟨_, rfl, .inl rfl⟩ rfl ?_
      refine opSkip rfl ⟨_, rfl, .inl rfl⟩ rfl ?_
      refine opSkip rfl ⟨_, rfl, .inl rfl⟩ rfl ?_
      refine opSkip rfl ⟨_, rfl, .inl rfl⟩ rfl ?_
      refine op0 (sp_pickT rfl rfl rfl) rfl trivial rfl rfl ?_
      refine op0 (sp_move rfl rfl) rfl trivial rfl rfl ?_
      refine opSkip rfl ⟨_, rfl, .inl rfl⟩ rfl ?_
      refine opSkip rfl ⟨_, rfl, .inl rfl⟩ rfl ?_
      refine opSkip rfl ⟨_, rfl, .inl rfl⟩ rfl ?_
      refine opSkip rfl ⟨_, rfl, .inl rfl⟩ rfl ?_
      refine opSkip rfl ⟨_, rfl, .inl rfl⟩ rfl ?_
      refine opSkip rfl ⟨_, rfl, .inl rfl⟩ rfl ?_
      refine opSkip rfl ⟨_, rfl, .inl rfl⟩ rfl ?_
      refine op0 (sp_pickT rfl rfl rfl) rfl trivial rfl rfl ?_
      refine op0 (sp_move rfl rfl) rfl trivial rfl rfl ?_
      refine opSkip rfl ⟨_, rfl, .inl rfl⟩ rfl ?_
      refine opSkip rfl ⟨_, rfl, .inl rfl⟩ rfl ?_
      refine opSkip rfl ⟨_, rfl, .inl rfl⟩ rfl ?_
      refine opSkip rfl ⟨_, rfl, .inl rfl⟩ rfl ?_
      refine opSkip rfl ⟨_, rfl, .inl rfl⟩ rfl ?_
      refine opSkip rfl ⟨_, rfl, .inl rfl⟩ rfl ?_
      refine opSkip rfl ⟨_, rfl, .inl rfl⟩ rfl ?_
      refine op0 (sp_pickT rfl rfl rfl) rfl trivial rfl rfl ?_
      refine TL.nil ?_
      refine TC.condT rfl ?_
      refine TC.seq ?_
      refine TC.region ?_
      refine op0 (sp_assign rfl rfl) rfl trivial rfl rfl ?_
      refine TL.nil ?_
      cases h
      exact retJ [] (.tmp rfl .nil) rfl trivial rfl rfl
    · refine (boolLit 20 rfl h2).2 ?_
      refine op1 1 rfl (sp_fieldAddrB rfl isBlk rfl ft26_0 vt22 (by decide)) rfl ⟨_, rfl, rfl⟩ rfl rfl ?_
      refine op1 1 rfl (sp_loadB rfl isBlk rfl vt22 rfl) rfl ⟨_, rfl, rfl⟩ rfl rfl ?_
      refine op1 2 rfl (sp_lenM (N := a1.length) (len_map _ _) rfl rfl isRo Tryz.underlying22) rfl ⟨_, rfl, rfl⟩ rfl rfl ?_
      refine op1 0 rfl (sp_fieldAddrB rfl isBlk rfl ft26_0 vt22 (by decide)) rfl ⟨_, rfl, rfl⟩ rfl rfl ?_
      refine op1 0 rfl (sp_loadB rfl isBlk rfl vt22 rfl) rfl ⟨_, rfl, rfl⟩ rfl rfl ?_
      refine op1 5 rfl (sp_lenM (N := b6.length) (len_map _ _) rfl rfl isRo Tryz.underlying22) rfl ⟨_, rfl, rfl⟩ rfl rfl ?_
      refine op0 (sp_neq rfl rfl rfl) rfl ⟨_, rfl, rfl⟩ rfl rfl ?_
      refine op0 (sp_pickF rfl rfl rfl) rfl trivial rfl rfl ?_
      refine op0 (sp_move rfl rfl) rfl trivial rfl rfl ?_
      rcases cond_cases h with ⟨h3, h⟩ | ⟨h3, h⟩
      · refine (boolLit 29 rfl h3).2 ?_
        refine opSkip rfl ⟨_, rfl, .inl rfl⟩ rfl ?_
        refine opSkip rfl ⟨_, rfl, .inl rfl⟩ rfl ?_
        refine opSkip rfl ⟨_, rfl, .inl rfl⟩ rfl ?_
        refine opSkip rfl ⟨_, rfl, .inl rfl⟩ rfl ?_
        refine opSkip rfl ⟨_, rfl, .inl rfl⟩ rfl ?_
        refine opSkip rfl ⟨_, rfl, .inl rfl⟩ rfl ?_
        refine opSkip rfl ⟨_, rfl, .inl rfl⟩ rfl ?_
        refine op0 (sp_pickT rfl rfl rfl) rfl trivial rfl rfl ?_
        refine op0 (sp_move rfl rfl) rfl trivial rfl rfl ?_
        refine opSkip rfl ⟨_, rfl, .inl rfl⟩ rfl ?_
        refine opSkip rfl ⟨_, rfl, .inl rfl⟩ rfl ?_
        refine opSkip rfl ⟨_, rfl, .inl rfl⟩ rfl ?_
        refine opSkip rfl ⟨_, rfl, .inl rfl⟩ rfl ?_
        refine opSkip rfl ⟨_, rfl, .inl rfl⟩ rfl ?_
        refine opSkip rfl ⟨_, rfl, .inl rfl⟩ rfl ?_
        refine opSkip rfl ⟨_, rfl, .inl rfl⟩ rfl ?_
        refine op0 (sp_pickT rfl rfl rfl) rfl trivial rfl rfl ?_
        refine TL.nil ?_
        refine TC.condT rfl ?_
        refine TC.seq ?_
        refine TC.region ?_
        refine op0 (sp_assign rfl rfl) rfl trivial rfl rfl ?_
        refine TL.nil ?_
        cases h
        exact retJ [] (.tmp rfl .nil) rfl trivial rfl rfl
      · refine (boolLit 29 rfl h3).2 ?_
        refine op1 1 rfl (sp_fieldAddrB rfl isBlk rfl ft26_2 vt24 (by decide)) rfl ⟨_, rfl, rfl⟩ rfl rfl ?_
        refine op1 1 rfl (sp_loadB rfl isBlk rfl vt24 rfl) rfl ⟨_, rfl, rfl⟩ rfl rfl ?_
        refine op1 4 rfl (sp_lenM (N := a3.length) (len_map _ _) rfl rfl isRo Tryz.underlying24) rfl ⟨_, rfl, rfl⟩ rfl rfl ?_
        refine op1 0 rfl (sp_fieldAddrB rfl isBlk rfl ft26_2 vt24 (by decide)) rfl ⟨_, rfl, rfl⟩ rfl rfl ?_
        refine op1 0 rfl (sp_loadB rfl isBlk rfl vt24 rfl) rfl ⟨_, rfl, rfl⟩ rfl rfl ?_
        refine op1 7 rfl (sp_lenM (N := b8.length) (len_map _ _) rfl rfl isRo Tryz.underlying24) rfl ⟨_, rfl, rfl⟩ rfl rfl ?_
        refine op0 (sp_neq rfl rfl rfl) rfl ⟨_, rfl, rfl⟩ rfl rfl ?_
        refine op0 (sp_pickF rfl rfl rfl) rfl trivial rfl rfl ?_
        refine op0 (sp_move rfl rfl) rfl trivial rfl rfl ?_
        rcases cond_cases h with ⟨h4, h⟩ | ⟨h4, h⟩
        · refine (boolLit 38 rfl h4).2 ?_
          refine opSkip rfl ⟨_, rfl, .inl rfl⟩ rfl ?_
          refine opSkip rfl ⟨_, rfl, .inl rfl⟩ rfl ?_
          refine opSkip rfl ⟨_, rfl, .inl rfl⟩ rfl ?_
          refine opSkip rfl ⟨_, rfl, .inl rfl⟩ rfl ?_
          refine opSkip rfl ⟨_, rfl, .inl rfl⟩ rfl ?_
          refine opSkip rfl ⟨_, rfl, .inl rfl⟩ rfl ?_
          refine opSkip rfl ⟨_, rfl, .inl rfl⟩ rfl ?_
          refine op0 (sp_pickT rfl rfl rfl) rfl trivial rfl rfl ?_
          refine TL.nil ?_
          refine TC.condT rfl ?_
          refine TC.seq ?_
          refine TC.region ?_
          refine op0 (sp_assign rfl rfl) rfl trivial rfl rfl ?_
          refine TL.nil ?_
          cases h
          exact retJ [] (.tmp rfl .nil) rfl trivial rfl rfl
        · refine (boolLit 38 rfl h4).2 ?_
          refine op1 1 rfl (sp_fieldAddrB rfl isBlk rfl ft26_1 vt23 (by decide)) rfl ⟨_, rfl, rfl⟩ rfl rfl ?_
          refine op1 1 rfl (sp_loadB rfl isBlk rfl vt23 rfl) rfl ⟨_, rfl, rfl⟩ rfl rfl ?_
          refine op1 3 rfl (sp_lenM (N := a2.length) (len_map _ _) rfl rfl isRo Tryz.underlying23) rfl ⟨_, rfl, rfl⟩ rfl rfl ?_
          refine op1 0 rfl (sp_fieldAddrB rfl isBlk rfl ft26_1 vt23 (by decide)) rfl ⟨_, rfl, rfl⟩ rfl rfl ?_
          refine op1 0 rfl (sp_loadB rfl isBlk rfl vt23 rfl) rfl ⟨_, rfl, rfl⟩ rfl rfl ?_
          refine op1 6 rfl (sp_lenM (N := b7.length) (len_map _ _) rfl rfl isRo Tryz.underlying23) rfl ⟨_, rfl, rfl⟩ rfl rfl ?_
          refine op0 (sp_neq rfl rfl rfl) rfl ⟨_, rfl, rfl⟩ rfl rfl ?_
          refine op0 (sp_pickF rfl rfl rfl) rfl trivial rfl rfl ?_
          refine TL.nil ?_
          refine TC.cond (b := ((a2.length : Int) != (b7.length : Int))) rfl (fun h5 => ?_) (fun h5 => ?_)
          · have h := cond_t h h5
            refine TC.seq ?_
            refine TC.region ?_
            refine op0 (sp_assign rfl rfl) rfl trivial rfl rfl ?_
            refine TL.nil ?_
            cases h
            exact retJ [] (.tmp rfl .nil) rfl trivial rfl rfl
          · have h := cond_f h h5
            refine subJ [] (ok_law11_same_j0 (a4 := a4) (a5 := a5) (b9 := b9) (b10 := b10) h) ?_ ?_ ?_
            · exact ⟨rfl, rfl, trivial⟩
            · exact ⟨mem_at 1 rfl, mem_at 0 rfl, mem_at 2 rfl, mem_at 3 rfl, mem_at 4 rfl, mem_at 5 rfl, mem_at 6 rfl, mem_at 7 rfl, trivial⟩
            · rfl
end
end Go.Proofs.YtohjpfkcahlfkaaGreat.Sy
