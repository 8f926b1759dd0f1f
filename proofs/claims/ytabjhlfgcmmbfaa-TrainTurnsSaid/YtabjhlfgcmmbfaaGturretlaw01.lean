/- What functions of the program compute, and that they do: printed by symgen.py. -/
import Derived.Test.YtabjhlfgcmmbfaaGLib
import Derived.Test.YtabjhlfgcmmbfaaGTrain
import Derived.Test.YtabjhlfgcmmbfaaGTurretref01
set_option linter.unusedSimpArgs false
set_option linter.unusedVariables false
namespace Go.Proofs.Ytabjhlfgcmmbfaa.Sy
open Go.RowKit
noncomputable section

/- law01_shop -/
def ev_law01_shop (n : Nat) : Option ((List Int) × (List Int)) :=
  some (([60, 64, 96] : List Int), ([8, 10, 12] : List Int))
set_option maxRecDepth 100000 in
set_option maxHeartbeats 2000000 in
theorem fc_law01_shop {n : Nat}  {r : (List Int) × (List Int)} (h : ev_law01_shop n = some r) : FC Try.prog 43 [] [] (.agg [.ref 0, .ref 1]) [.row 0 3 1 (List.map en_int r.1), .row 1 3 1 (List.map en_int r.2)] := by
  refine introJ (nz := 4) Try.func43 rfl rfl rfl (fun w0 R0 env0 => ?_)
  rw [ev_law01_shop] at h
  refine TC.seq ?_
  refine TC.region ?_
  refine op0 (sp_alloc 0 rfl Try.zeroValue40 rfl) rfl trivial rfl rfl ?_
  refine TL.nil ?_
  refine TC.seq ?_
  refine TC.region ?_
  refine op0 (sp_buildSlice (qs := [.val (.int .i64 60), .val (.int .i64 64), .val (.int .i64 96)]) (need := []) (els := List.map en_int ([60, 64, 96] : List Int)) 1 rfl sl38 (by decide) (by decide) rfl rfl rfl (.v (.v (.v (.nil)))) (map_len fun _ => rfl) rfl rfl rfl) rfl trivial rfl rfl ?_
  refine op0 (sp_buildSlice (qs := [.val (.int .i64 8), .val (.int .i64 10), .val (.int .i64 12)]) (need := []) (els := List.map en_int ([8, 10, 12] : List Int)) 2 rfl sl38 (by decide) (by decide) rfl rfl rfl (.v (.v (.v (.nil)))) (map_len fun _ => rfl) rfl rfl rfl) rfl trivial rfl rfl ?_
  refine op0 (sp_build (qs := [(0, .ref 1), (1, .ref 2)]) rfl bt40 rfl rfl rfl rfl) rfl trivial rfl rfl ?_
  refine stoB 2 (cells' := [.ref 1, .ref 2]) rfl rfl trivial rfl rfl rfl rfl vt40 rfl rfl rfl ?_
  refine TL.nil ?_
  cases h
  exact retJ [(0, 1), (1, 2)] (.cells rfl (mem_at 2 rfl) isBlk vt40 rfl rfl (.nil)) rfl ⟨mem_at 1 rfl, mem_at 0 rfl, trivial⟩ rfl rfl
/- law01_known -/
def ev_law01_known_j0 (n : Nat) (r1 : Int × Int × Bool × Int) (r2 : Int × Int) (r6 : (List Int) × Int) (r4 : (List ((List Int) × (List Int))) × Int) (r10 : (List Int) × (List Int) × Int) : Option Bool :=
  cond ((r1.1 == 16) && (r1.2.1 == 3)) (cond r1.2.2.1 (cond (r2.1 == 3) ((ev_ref01_Same n r6.1 ([7, 11] : List Int)).bind fun r11 => cond r11 (idx r4.1 0 fun x12 => (ev_ref01_Equal n x12.1 x12.2 ([60, 64] : List Int) ([8, 10] : List Int)).bind fun r13 => cond r13 (idx r4.1 1 fun x14 => (ev_ref01_Equal n x14.1 x14.2 ([60, 96] : List Int) ([10, 12] : List Int)).bind fun r15 => cond r15 ((ev_ref01_Equal n r10.1 r10.2.1 ([60] : List Int) ([10] : List Int)).bind fun r16 => some r16) (some false)) (some false)) (some false)) (some false)) (some false)) (some false)
set_option maxRecDepth 100000 in
set_option maxHeartbeats 2000000 in
theorem ok_law01_known_j0 {n : Nat} {w0 : World} {R0 : Nat → Prop} {env0 : Env} {r : Bool} {r1 : Int × Int × Bool × Int} {r2 : Int × Int} {r4 : (List ((List Int) × (List Int))) × Int} {r6 : (List Int) × Int} {r10 : (List Int) × (List Int) × Int} (h : ev_law01_known_j0 n r1 r2 r6 r4 r10 = some r) : TC Try.prog ⟨w0, fun _ => False, R0⟩ 124 (bodyPost Try.prog Try.f12 (Post ⟨w0, fun _ => False, R0⟩ env0 (.val (.bool r)) [])) [.code (sub (bodyOf Try.f12) [1, 1, 1, 1, 1, 1, 1, 0, 1, 1]), .code (sub (bodyOf Try.f12) [1, 1, 1, 1, 1, 1, 1, 1])] ([(1, .ptr 1 0), (2, .val (.bool r1.2.2.1)), (4, .val (.int .i64 r2.1)), (6, .ref 5), (8, .ref 8), (12, .ptr 16 0)]) ([.blk 1 [.val (.int .i64 r1.1), .val (.int .i64 r1.2.1)] 26, .row 5 57 2 (List.map en_api_Train r4.1), .row 8 3 1 (List.map en_int r6.1), .blk 16 [.ref 14, .ref 15] 57, .ro 14 1 (List.map en_int r10.1), .ro 15 1 (List.map en_int r10.2.1)]) := by
  rw [ev_law01_known_j0] at h
  refine TC.skip ?_
  refine TC.seq ?_
  refine TC.region ?_
  refine op1 0 rfl (sp_loadBA rfl isBlk rfl vt26 rfl rfl) rfl trivial rfl rfl ?_
  refine op0 (sp_build (qs := [(0, .val (.int .i64 16)), (1, .val (.int .i64 3))]) rfl bt26 rfl rfl rfl rfl) rfl trivial rfl rfl ?_
  refine op0 (sp_eqlS rfl rfl rfl rfl rfl (eq26 _ _ _ _)) rfl trivial rfl rfl ?_
  refine op0 (sp_move rfl rfl) rfl trivial rfl rfl ?_
  rcases cond_cases h with ⟨h19, h⟩ | ⟨h19, h⟩
  · refine (boolLit 87 rfl h19).2 ?_
    refine op0 (sp_move rfl rfl) rfl ⟨_, rfl, rfl⟩ rfl rfl ?_
    refine op0 (sp_pickT rfl rfl rfl) rfl trivial rfl rfl ?_
    refine op0 (sp_move rfl rfl) rfl trivial rfl rfl ?_
    rcases cond_cases h with ⟨h20, h⟩ | ⟨h20, h⟩
    · refine (boolLit 90 rfl h20).2 ?_
      refine op0 (sp_move rfl rfl) rfl ⟨_, rfl, rfl⟩ rfl rfl ?_
      refine op0 (sp_eql rfl rfl rfl) rfl ⟨_, rfl, rfl⟩ rfl rfl ?_
      refine op0 (sp_pickT rfl rfl rfl) rfl trivial rfl rfl ?_
      refine op0 (sp_move rfl rfl) rfl trivial rfl rfl ?_
      rcases cond_cases h with ⟨h21, h⟩ | ⟨h21, h⟩
      · refine (boolLit 94 rfl h21).2 ?_
        refine op0 (sp_move rfl rfl) rfl ⟨_, rfl, rfl⟩ rfl rfl ?_
        refine op0 (sp_buildSlice (qs := [.val (.int .i64 7), .val (.int .i64 11)]) (need := []) (els := List.map en_int ([7, 11] : List Int)) 17 rfl sl38 (by decide) (by decide) rfl rfl rfl (.v (.v (.nil))) (map_len fun _ => rfl) rfl rfl rfl) rfl ⟨_, rfl, rfl⟩ rfl rfl ?_
        obtain ⟨r11, h22, h⟩ := bind_inv h
        refine opN (need := [.row 8 3 1 (List.map en_int r6.1), .row 17 3 1 (List.map en_int ([7, 11] : List Int))]) [3, 0] ⟨rfl, rfl, trivial⟩ (sp_call (avs := [.ref 8, .ref 17]) (need := [.row 8 3 1 (List.map en_int r6.1), .row 17 3 1 (List.map en_int ([7, 11] : List Int))]) (v := .val (.bool r11)) (news := []) rfl rfl rfl Try.call27 (atJ [(0, 8), (1, 17)] [] (fc_ref01_Same h22) rfl rfl) (.inr (fun x hx => nomatch hx))) rfl ⟨_, rfl, rfl⟩ rfl rfl ?_
        refine op0 (sp_pickT rfl rfl rfl) rfl trivial rfl rfl ?_
        refine op0 (sp_move rfl rfl) rfl trivial rfl rfl ?_
        rcases cond_cases h with ⟨h23, h⟩ | ⟨h23, h⟩
        · refine (boolLit 99 rfl h23).2 ?_
          refine op0 (sp_move rfl rfl) rfl ⟨_, rfl, rfl⟩ rfl rfl ?_
          obtain ⟨x12, h24, h25, h⟩ := idx_inv h
          refine op1 2 rfl (sp_indexS rfl rfl rfl isOwn sl52 h24 (map_get _ h25)) rfl ⟨_, rfl, rfl⟩ rfl rfl ?_
          refine op1 2 rfl (sp_loadRA (i := (0 : Int).toNat) (j := 0) (as_ := [.ref 18, .ref 19]) (ns := [.ro 18 1 (List.map en_int x12.1), .ro 19 1 (List.map en_int x12.2)]) rfl rfl isOwn vt57 rfl (map_get _ h25) rfl rfl (by decide) (.s (.s (.nil))) (nodup_of_B rfl)) rfl ⟨_, rfl, rfl⟩ rfl rfl ?_
          refine op0 (sp_buildSlice (qs := [.val (.int .i64 60), .val (.int .i64 64)]) (need := []) (els := List.map en_int ([60, 64] : List Int)) 20 rfl sl38 (by decide) (by decide) rfl rfl rfl (.v (.v (.nil))) (map_len fun _ => rfl) rfl rfl rfl) rfl ⟨_, rfl, rfl⟩ rfl rfl ?_
          refine op0 (sp_buildSlice (qs := [.val (.int .i64 8), .val (.int .i64 10)]) (need := []) (els := List.map en_int ([8, 10] : List Int)) 21 rfl sl38 (by decide) (by decide) rfl rfl rfl (.v (.v (.nil))) (map_len fun _ => rfl) rfl rfl rfl) rfl ⟨_, rfl, rfl⟩ rfl rfl ?_
          refine op0 (sp_build (qs := [(0, .ref 20), (1, .ref 21)]) rfl bt57 rfl rfl rfl rfl) rfl ⟨_, rfl, rfl⟩ rfl rfl ?_
          obtain ⟨r13, h26, h⟩ := bind_inv h
          refine opN (need := [.ro 18 1 (List.map en_int x12.1), .ro 19 1 (List.map en_int x12.2), .row 20 3 1 (List.map en_int ([60, 64] : List Int)), .row 21 3 1 (List.map en_int ([8, 10] : List Int))]) [2, 3, 1, 0] ⟨rfl, rfl, rfl, rfl, trivial⟩ (sp_call (avs := [.agg [.ref 18, .ref 19], .agg [.ref 20, .ref 21]]) (need := [.ro 18 1 (List.map en_int x12.1), .ro 19 1 (List.map en_int x12.2), .row 20 3 1 (List.map en_int ([60, 64] : List Int)), .row 21 3 1 (List.map en_int ([8, 10] : List Int))]) (v := .val (.bool r13)) (news := []) rfl rfl rfl Try.call31 (atJ [(0, 18), (1, 19), (2, 20), (3, 21)] [] (fc_ref01_Equal h26) rfl rfl) (.inr (fun x hx => nomatch hx))) rfl ⟨_, rfl, rfl⟩ rfl rfl ?_
          refine op0 (sp_pickT rfl rfl rfl) rfl trivial rfl rfl ?_
          refine op0 (sp_move rfl rfl) rfl trivial rfl rfl ?_
          rcases cond_cases h with ⟨h27, h⟩ | ⟨h27, h⟩
          · refine (boolLit 108 rfl h27).2 ?_
            refine op0 (sp_move rfl rfl) rfl ⟨_, rfl, rfl⟩ rfl rfl ?_
            obtain ⟨x14, h28, h29, h⟩ := idx_inv h
            refine op1 6 rfl (sp_indexS rfl rfl rfl isOwn sl52 h28 (map_get _ h29)) rfl ⟨_, rfl, rfl⟩ rfl rfl ?_
            refine op1 6 rfl (sp_loadRA (i := (1 : Int).toNat) (j := 0) (as_ := [.ref 22, .ref 23]) (ns := [.ro 22 1 (List.map en_int x14.1), .ro 23 1 (List.map en_int x14.2)]) rfl rfl isOwn vt57 rfl (map_get _ h29) rfl rfl (by decide) (.s (.s (.nil))) (nodup_of_B rfl)) rfl ⟨_, rfl, rfl⟩ rfl rfl ?_
            refine op0 (sp_buildSlice (qs := [.val (.int .i64 60), .val (.int .i64 96)]) (need := []) (els := List.map en_int ([60, 96] : List Int)) 24 rfl sl38 (by decide) (by decide) rfl rfl rfl (.v (.v (.nil))) (map_len fun _ => rfl) rfl rfl rfl) rfl ⟨_, rfl, rfl⟩ rfl rfl ?_
            refine op0 (sp_buildSlice (qs := [.val (.int .i64 10), .val (.int .i64 12)]) (need := []) (els := List.map en_int ([10, 12] : List Int)) 25 rfl sl38 (by decide) (by decide) rfl rfl rfl (.v (.v (.nil))) (map_len fun _ => rfl) rfl rfl rfl) rfl ⟨_, rfl, rfl⟩ rfl rfl ?_
            refine op0 (sp_build (qs := [(0, .ref 24), (1, .ref 25)]) rfl bt57 rfl rfl rfl rfl) rfl ⟨_, rfl, rfl⟩ rfl rfl ?_
            obtain ⟨r15, h30, h⟩ := bind_inv h
            refine opN (need := [.ro 22 1 (List.map en_int x14.1), .ro 23 1 (List.map en_int x14.2), .row 24 3 1 (List.map en_int ([60, 96] : List Int)), .row 25 3 1 (List.map en_int ([10, 12] : List Int))]) [2, 3, 1, 0] ⟨rfl, rfl, rfl, rfl, trivial⟩ (sp_call (avs := [.agg [.ref 22, .ref 23], .agg [.ref 24, .ref 25]]) (need := [.ro 22 1 (List.map en_int x14.1), .ro 23 1 (List.map en_int x14.2), .row 24 3 1 (List.map en_int ([60, 96] : List Int)), .row 25 3 1 (List.map en_int ([10, 12] : List Int))]) (v := .val (.bool r15)) (news := []) rfl rfl rfl Try.call31 (atJ [(0, 22), (1, 23), (2, 24), (3, 25)] [] (fc_ref01_Equal h30) rfl rfl) (.inr (fun x hx => nomatch hx))) rfl ⟨_, rfl, rfl⟩ rfl rfl ?_
            refine op0 (sp_pickT rfl rfl rfl) rfl trivial rfl rfl ?_
            refine op0 (sp_move rfl rfl) rfl trivial rfl rfl ?_
            rcases cond_cases h with ⟨h31, h⟩ | ⟨h31, h⟩
            · refine (boolLit 117 rfl h31).2 ?_
              refine op1 12 rfl (sp_loadBA rfl isBlk rfl vt57 rfl rfl) rfl ⟨_, rfl, rfl⟩ rfl rfl ?_
              refine op0 (sp_buildSlice (qs := [.val (.int .i64 60)]) (need := []) (els := List.map en_int ([60] : List Int)) 26 rfl sl38 (by decide) (by decide) rfl rfl rfl (.v (.nil)) (map_len fun _ => rfl) rfl rfl rfl) rfl ⟨_, rfl, rfl⟩ rfl rfl ?_
              refine op0 (sp_buildSlice (qs := [.val (.int .i64 10)]) (need := []) (els := List.map en_int ([10] : List Int)) 27 rfl sl38 (by decide) (by decide) rfl rfl rfl (.v (.nil)) (map_len fun _ => rfl) rfl rfl rfl) rfl ⟨_, rfl, rfl⟩ rfl rfl ?_
              refine op0 (sp_build (qs := [(0, .ref 26), (1, .ref 27)]) rfl bt57 rfl rfl rfl rfl) rfl ⟨_, rfl, rfl⟩ rfl rfl ?_
              obtain ⟨r16, h32, h⟩ := bind_inv h
              refine opN (need := [.ro 14 1 (List.map en_int r10.1), .ro 15 1 (List.map en_int r10.2.1), .row 26 3 1 (List.map en_int ([60] : List Int)), .row 27 3 1 (List.map en_int ([10] : List Int))]) [15, 16, 1, 0] ⟨rfl, rfl, rfl, rfl, trivial⟩ (sp_call (avs := [.agg [.ref 14, .ref 15], .agg [.ref 26, .ref 27]]) (need := [.ro 14 1 (List.map en_int r10.1), .ro 15 1 (List.map en_int r10.2.1), .row 26 3 1 (List.map en_int ([60] : List Int)), .row 27 3 1 (List.map en_int ([10] : List Int))]) (v := .val (.bool r16)) (news := []) rfl rfl rfl Try.call31 (atJ [(0, 14), (1, 15), (2, 26), (3, 27)] [] (fc_ref01_Equal h32) rfl rfl) (.inr (fun x hx => nomatch hx))) rfl ⟨_, rfl, rfl⟩ rfl rfl ?_
              refine op0 (sp_pickT rfl rfl rfl) rfl trivial rfl rfl ?_
              refine op0 (sp_assign rfl rfl) rfl trivial rfl rfl ?_
              refine TL.nil ?_
              cases h
              exact retJ [] (.tmp rfl .nil) rfl trivial rfl rfl
            · refine (boolLit 117 rfl h31).2 ?_
              refine opSkip rfl ⟨_, rfl, .inl rfl⟩ rfl ?_
              refine opSkip rfl ⟨_, rfl, .inl rfl⟩ rfl ?_
              refine opSkip rfl ⟨_, rfl, .inl rfl⟩ rfl ?_
              refine opSkip rfl ⟨_, rfl, .inl rfl⟩ rfl ?_
              refine opSkip rfl ⟨_, rfl, .inl rfl⟩ rfl ?_
              refine op0 (sp_pickF rfl rfl rfl) rfl trivial rfl rfl ?_
              refine op0 (sp_assign rfl rfl) rfl trivial rfl rfl ?_
              refine TL.nil ?_
              cases h
              exact retJ [] (.tmp rfl .nil) rfl trivial rfl rfl
          · refine (boolLit 108 rfl h27).2 ?_
            refine opSkip rfl ⟨_, rfl, .inl rfl⟩ rfl ?_
            refine opSkip rfl ⟨_, rfl, .inl rfl⟩ rfl ?_
            refine opSkip rfl ⟨_, rfl, .inl rfl⟩ rfl ?_
            refine opSkip rfl ⟨_, rfl, .inl rfl⟩ rfl ?_
            refine opSkip rfl ⟨_, rfl, .inl rfl⟩ rfl ?_
            refine opSkip rfl ⟨_, rfl, .inl rfl⟩ rfl ?_
            refine opSkip rfl ⟨_, rfl, .inl rfl⟩ rfl ?_
            refine op0 (sp_pickF rfl rfl rfl) rfl trivial rfl rfl ?_
            refine op0 (sp_move rfl rfl) rfl trivial rfl rfl ?_
            refine opSkip rfl ⟨_, rfl, .inl rfl⟩ rfl ?_
            refine opSkip rfl ⟨_, rfl, .inl rfl⟩ rfl ?_
            refine opSkip rfl ⟨_, rfl, .inl rfl⟩ rfl ?_
            refine opSkip rfl ⟨_, rfl, .inl rfl⟩ rfl ?_
            refine opSkip rfl ⟨_, rfl, .inl rfl⟩ rfl ?_
            refine op0 (sp_pickF rfl rfl rfl) rfl trivial rfl rfl ?_
            refine op0 (sp_assign rfl rfl) rfl trivial rfl rfl ?_
            refine TL.nil ?_
            cases h
            exact retJ [] (.tmp rfl .nil) rfl trivial rfl rfl
        · refine (boolLit 99 rfl h23).2 ?_
          refine opSkip rfl ⟨_, rfl, .inl rfl⟩ rfl ?_
          refine opSkip rfl ⟨_, rfl, .inl rfl⟩ rfl ?_
          refine opSkip rfl ⟨_, rfl, .inl rfl⟩ rfl ?_
          refine opSkip rfl ⟨_, rfl, .inl rfl⟩ rfl ?_
          refine opSkip rfl ⟨_, rfl, .inl rfl⟩ rfl ?_
          refine opSkip rfl ⟨_, rfl, .inl rfl⟩ rfl ?_
          refine opSkip rfl ⟨_, rfl, .inl rfl⟩ rfl ?_
          refine op0 (sp_pickF rfl rfl rfl) rfl trivial rfl rfl ?_
          refine op0 (sp_move rfl rfl) rfl trivial rfl rfl ?_
          refine opSkip rfl ⟨_, rfl, .inl rfl⟩ rfl ?_
          refine opSkip rfl ⟨_, rfl, .inl rfl⟩ rfl ?_
          refine opSkip rfl ⟨_, rfl, .inl rfl⟩ rfl ?_
          refine opSkip rfl ⟨_, rfl, .inl rfl⟩ rfl ?_
          refine opSkip rfl ⟨_, rfl, .inl rfl⟩ rfl ?_
          refine opSkip rfl ⟨_, rfl, .inl rfl⟩ rfl ?_
          refine opSkip rfl ⟨_, rfl, .inl rfl⟩ rfl ?_
          refine op0 (sp_pickF rfl rfl rfl) rfl trivial rfl rfl ?_
          refine op0 (sp_move rfl rfl) rfl trivial rfl rfl ?_
          refine opSkip rfl ⟨_, rfl, .inl rfl⟩ rfl ?_
          refine opSkip rfl ⟨_, rfl, .inl rfl⟩ rfl ?_
          refine opSkip rfl ⟨_, rfl, .inl rfl⟩ rfl ?_
          refine opSkip rfl ⟨_, rfl, .inl rfl⟩ rfl ?_
          refine opSkip rfl ⟨_, rfl, .inl rfl⟩ rfl ?_
          refine op0 (sp_pickF rfl rfl rfl) rfl trivial rfl rfl ?_
          refine op0 (sp_assign rfl rfl) rfl trivial rfl rfl ?_
          refine TL.nil ?_
          cases h
          exact retJ [] (.tmp rfl .nil) rfl trivial rfl rfl
      · refine (boolLit 94 rfl h21).2 ?_
        refine opSkip rfl ⟨_, rfl, .inl rfl⟩ rfl ?_
        refine opSkip rfl ⟨_, rfl, .inl rfl⟩ rfl ?_
        refine opSkip rfl ⟨_, rfl, .inl rfl⟩ rfl ?_
        refine op0 (sp_pickF rfl rfl rfl) rfl trivial rfl rfl ?_
        refine op0 (sp_move rfl rfl) rfl trivial rfl rfl ?_
        refine opSkip rfl ⟨_, rfl, .inl rfl⟩ rfl ?_
        refine opSkip rfl ⟨_, rfl, .inl rfl⟩ rfl ?_
        refine opSkip rfl ⟨_, rfl, .inl rfl⟩ rfl ?_
        refine opSkip rfl ⟨_, rfl, .inl rfl⟩ rfl ?_
        refine opSkip rfl ⟨_, rfl, .inl rfl⟩ rfl ?_
        refine opSkip rfl ⟨_, rfl, .inl rfl⟩ rfl ?_
        refine opSkip rfl ⟨_, rfl, .inl rfl⟩ rfl ?_
        refine op0 (sp_pickF rfl rfl rfl) rfl trivial rfl rfl ?_
        refine op0 (sp_move rfl rfl) rfl trivial rfl rfl ?_
        refine opSkip rfl ⟨_, rfl, .inl rfl⟩ rfl ?_
        refine opSkip rfl ⟨_, rfl, .inl rfl⟩ rfl ?_
        refine opSkip rfl ⟨_, rfl, .inl rfl⟩ rfl ?_
        refine opSkip rfl ⟨_, rfl, .inl rfl⟩ rfl ?_
        refine opSkip rfl ⟨_, rfl, .inl rfl⟩ rfl ?_
        refine opSkip rfl ⟨_, rfl, .inl rfl⟩ rfl ?_
        refine opSkip rfl ⟨_, rfl, .inl rfl⟩ rfl ?_
        refine op0 (sp_pickF rfl rfl rfl) rfl trivial rfl rfl ?_
        refine op0 (sp_move rfl rfl) rfl trivial rfl rfl ?_
        refine opSkip rfl ⟨_, rfl, .inl rfl⟩ rfl ?_
        refine opSkip rfl ⟨_, rfl, .inl rfl⟩ rfl ?_
        refine opSkip rfl ⟨_, rfl, .inl rfl⟩ rfl ?_
        refine opSkip rfl ⟨_, rfl, .inl rfl⟩ rfl ?_
        refine opSkip rfl ⟨_, rfl, .inl rfl⟩ rfl ?_
        refine op0 (sp_pickF rfl rfl rfl) rfl trivial rfl rfl ?_
        refine op0 (sp_assign rfl rfl) rfl trivial rfl rfl ?_
        refine TL.nil ?_
        cases h
        exact retJ [] (.tmp rfl .nil) rfl trivial rfl rfl
    · refine (boolLit 90 rfl h20).2 ?_
      refine opSkip rfl ⟨_, rfl, .inl rfl⟩ rfl ?_
      refine opSkip rfl ⟨_, rfl, .inl rfl⟩ rfl ?_
      refine op0 (sp_pickF rfl rfl rfl) rfl trivial rfl rfl ?_
      refine op0 (sp_move rfl rfl) rfl trivial rfl rfl ?_
      refine opSkip rfl ⟨_, rfl, .inl rfl⟩ rfl ?_
      refine opSkip rfl ⟨_, rfl, .inl rfl⟩ rfl ?_
      refine opSkip rfl ⟨_, rfl, .inl rfl⟩ rfl ?_
      refine op0 (sp_pickF rfl rfl rfl) rfl trivial rfl rfl ?_
      refine op0 (sp_move rfl rfl) rfl trivial rfl rfl ?_
      refine opSkip rfl ⟨_, rfl, .inl rfl⟩ rfl ?_
      refine opSkip rfl ⟨_, rfl, .inl rfl⟩ rfl ?_
      refine opSkip rfl ⟨_, rfl, .inl rfl⟩ rfl ?_
      refine opSkip rfl ⟨_, rfl, .inl rfl⟩ rfl ?_
      refine opSkip rfl ⟨_, rfl, .inl rfl⟩ rfl ?_
      refine opSkip rfl ⟨_, rfl, .inl rfl⟩ rfl ?_
      refine opSkip rfl ⟨_, rfl, .inl rfl⟩ rfl ?_
      refine op0 (sp_pickF rfl rfl rfl) rfl trivial rfl rfl ?_
      refine op0 (sp_move rfl rfl) rfl trivial rfl rfl ?_
      refine opSkip rfl ⟨_, rfl, .inl rfl⟩ rfl ?_
      refine opSkip rfl ⟨_, rfl, .inl rfl⟩ rfl ?_
      refine opSkip rfl ⟨_, rfl, .inl rfl⟩ rfl ?_
      refine opSkip rfl ⟨_, rfl, .inl rfl⟩ rfl ?_
      refine opSkip rfl ⟨_, rfl, .inl rfl⟩ rfl ?_
      refine opSkip rfl ⟨_, rfl, .inl rfl⟩ rfl ?_
      refine opSkip rfl ⟨_, rfl, .inl rfl⟩ rfl ?_
      refine op0 (sp_pickF rfl rfl rfl) rfl trivial rfl rfl ?_
      refine op0 (sp_move rfl rfl) rfl trivial rfl rfl ?_
      refine opSkip rfl ⟨_, rfl, .inl rfl⟩ rfl ?_
      refine opSkip rfl ⟨_, rfl, .inl rfl⟩ rfl ?_
      refine opSkip rfl ⟨_, rfl, .inl rfl⟩ rfl ?_
      refine opSkip rfl ⟨_, rfl, .inl rfl⟩ rfl ?_
      refine opSkip rfl ⟨_, rfl, .inl rfl⟩ rfl ?_
      refine op0 (sp_pickF rfl rfl rfl) rfl trivial rfl rfl ?_
      refine op0 (sp_assign rfl rfl) rfl trivial rfl rfl ?_
      refine TL.nil ?_
      cases h
      exact retJ [] (.tmp rfl .nil) rfl trivial rfl rfl
  · refine (boolLit 87 rfl h19).2 ?_
    refine opSkip rfl ⟨_, rfl, .inl rfl⟩ rfl ?_
    refine op0 (sp_pickF rfl rfl rfl) rfl trivial rfl rfl ?_
    refine op0 (sp_move rfl rfl) rfl trivial rfl rfl ?_
    refine opSkip rfl ⟨_, rfl, .inl rfl⟩ rfl ?_
    refine opSkip rfl ⟨_, rfl, .inl rfl⟩ rfl ?_
    refine op0 (sp_pickF rfl rfl rfl) rfl trivial rfl rfl ?_
    refine op0 (sp_move rfl rfl) rfl trivial rfl rfl ?_
    refine opSkip rfl ⟨_, rfl, .inl rfl⟩ rfl ?_
    refine opSkip rfl ⟨_, rfl, .inl rfl⟩ rfl ?_
    refine opSkip rfl ⟨_, rfl, .inl rfl⟩ rfl ?_
    refine op0 (sp_pickF rfl rfl rfl) rfl trivial rfl rfl ?_
    refine op0 (sp_move rfl rfl) rfl trivial rfl rfl ?_
    refine opSkip rfl ⟨_, rfl, .inl rfl⟩ rfl ?_
    refine opSkip rfl ⟨_, rfl, .inl rfl⟩ rfl ?_
    refine opSkip rfl ⟨_, rfl, .inl rfl⟩ rfl ?_
    refine opSkip rfl ⟨_, rfl, .inl rfl⟩ rfl ?_
    refine opSkip rfl ⟨_, rfl, .inl rfl⟩ rfl ?_
    refine opSkip rfl ⟨_, rfl, .inl rfl⟩ rfl ?_
    refine opSkip rfl ⟨_, rfl, .inl rfl⟩ rfl ?_
    refine op0 (sp_pickF rfl rfl rfl) rfl trivial rfl rfl ?_
    refine op0 (sp_move rfl rfl) rfl trivial rfl rfl ?_
    refine opSkip rfl ⟨_, rfl, .inl rfl⟩ rfl ?_
    refine opSkip rfl ⟨_, rfl, .inl rfl⟩ rfl ?_
    refine opSkip rfl ⟨_, rfl, .inl rfl⟩ rfl ?_
    refine opSkip rfl ⟨_, rfl, .inl rfl⟩ rfl ?_
    refine opSkip rfl ⟨_, rfl, .inl rfl⟩ rfl ?_
    refine opSkip rfl ⟨_, rfl, .inl rfl⟩ rfl ?_
    refine opSkip rfl ⟨_, rfl, .inl rfl⟩ rfl ?_
    refine op0 (sp_pickF rfl rfl rfl) rfl trivial rfl rfl ?_
    refine op0 (sp_move rfl rfl) rfl trivial rfl rfl ?_
    refine opSkip rfl ⟨_, rfl, .inl rfl⟩ rfl ?_
    refine opSkip rfl ⟨_, rfl, .inl rfl⟩ rfl ?_
    refine opSkip rfl ⟨_, rfl, .inl rfl⟩ rfl ?_
    refine opSkip rfl ⟨_, rfl, .inl rfl⟩ rfl ?_
    refine opSkip rfl ⟨_, rfl, .inl rfl⟩ rfl ?_
    refine op0 (sp_pickF rfl rfl rfl) rfl trivial rfl rfl ?_
    refine op0 (sp_assign rfl rfl) rfl trivial rfl rfl ?_
    refine TL.nil ?_
    cases h
    exact retJ [] (.tmp rfl .nil) rfl trivial rfl rfl
def ev_law01_known (n : Nat) : Option Bool :=
  (ev_train_Turns n ([(64, 12)] : List (Int × Int))).bind fun r1 => (ev_train_Cycle n ([(64, 12), (60, 8)] : List (Int × Int))).bind fun r2 => (ev_law01_shop n).bind fun r3 => (ev_train_Fewest n r3.1 r3.2 48 1).bind fun r4 => (ev_law01_shop n).bind fun r5 => (ev_train_Missing n r5.1 r5.2 14 22).bind fun r6 => (ev_law01_shop n).bind fun r7 => (ev_train_Fewest n r7.1 r7.2 9 1).bind fun r8 => (ev_law01_shop n).bind fun r9 => (ev_train_Near n r9.1 r9.2 59 10 1).bind fun r10 => cond (r1.2.2.2 != 0) (some false) (cond (r2.2 != 0) (some false) (cond (r4.2 != 0) (some false) (cond (r6.2 != 0) (some false) (cond (r8.2 != 7) (some false) (cond (r10.2.2 != 0) (some false) (cond ((r4.1.length : Int) != 2) (some false) (cond ((r8.1.length : Int) != 0) (some false) (ev_law01_known_j0 n r1 r2 r6 r4 r10))))))))
set_option maxRecDepth 100000 in
set_option maxHeartbeats 2000000 in
theorem fc_law01_known {n : Nat}  {r : Bool} (h : ev_law01_known n = some r) : FC Try.prog 12 [] [] (.val (.bool r)) [] := by
  refine introJ (nz := 124) Try.func12 rfl rfl rfl (fun w0 R0 env0 => ?_)
  rw [ev_law01_known] at h
  refine TC.seq ?_
  refine TC.region ?_
  refine op0 (sp_assign rfl rfl) rfl trivial rfl rfl ?_
  refine TL.nil ?_
  refine TC.seq ?_
  refine TC.region ?_
  refine op0 (sp_build (qs := [(0, .val (.int .i64 64)), (1, .val (.int .i64 12))]) rfl bt33 rfl rfl rfl rfl) rfl trivial rfl rfl ?_
  refine op0 (sp_buildSlice (qs := [.agg [.val (.int .i64 64), .val (.int .i64 12)]]) (need := []) (els := List.map en_api_TrainPair ([(64, 12)] : List (Int × Int))) 0 rfl sl22 (by decide) (by decide) rfl rfl rfl (.v (.v (.nil))) (map_len fun _ => rfl) rfl rfl rfl) rfl trivial rfl rfl ?_
  obtain ⟨r1, h1, h⟩ := bind_inv h
  refine op1 0 rfl (sp_call (avs := [.ref 0]) (need := [.row 0 33 2 (List.map en_api_TrainPair ([(64, 12)] : List (Int × Int)))]) (v := .tup [.agg [.val (.int .i64 r1.1), .val (.int .i64 r1.2.1)], .val (.bool r1.2.2.1), .val (.int .i64 r1.2.2.2)]) (news := []) rfl rfl rfl Try.call14 (atJ [] [] (fc_train_Turns h1) rfl rfl) (.inr (fun x hx => nomatch hx))) rfl trivial rfl rfl ?_
  refine op0 (sp_move rfl rfl) rfl trivial rfl rfl ?_
  refine op0 (sp_extract rfl rfl rfl) rfl trivial rfl rfl ?_
  refine op0 (sp_extract rfl rfl rfl) rfl trivial rfl rfl ?_
  refine op0 (sp_extract rfl rfl rfl) rfl trivial rfl rfl ?_
  refine op0 (sp_alloc 1 rfl Try.zeroValue26 rfl) rfl trivial rfl rfl ?_
  refine stoB 0 (cells' := [.val (.int .i64 r1.1), .val (.int .i64 r1.2.1)]) rfl rfl trivial rfl rfl rfl rfl vt26 rfl rfl rfl ?_
  refine op0 (sp_assign rfl rfl) rfl trivial rfl rfl ?_
  refine op0 (sp_assign rfl rfl) rfl trivial rfl rfl ?_
  refine TL.nil ?_
  refine TC.seq ?_
  refine TC.region ?_
  refine op0 (sp_build (qs := [(0, .val (.int .i64 64)), (1, .val (.int .i64 12))]) rfl bt33 rfl rfl rfl rfl) rfl trivial rfl rfl ?_
  refine op0 (sp_build (qs := [(0, .val (.int .i64 60)), (1, .val (.int .i64 8))]) rfl bt33 rfl rfl rfl rfl) rfl trivial rfl rfl ?_
  refine op0 (sp_buildSlice (qs := [.agg [.val (.int .i64 64), .val (.int .i64 12)], .agg [.val (.int .i64 60), .val (.int .i64 8)]]) (need := []) (els := List.map en_api_TrainPair ([(64, 12), (60, 8)] : List (Int × Int))) 2 rfl sl22 (by decide) (by decide) rfl rfl rfl (.v (.v (.v (.v (.nil))))) (map_len fun _ => rfl) rfl rfl rfl) rfl trivial rfl rfl ?_
  obtain ⟨r2, h2, h⟩ := bind_inv h
  refine op1 0 rfl (sp_call (avs := [.ref 2]) (need := [.row 2 33 2 (List.map en_api_TrainPair ([(64, 12), (60, 8)] : List (Int × Int)))]) (v := .tup [.val (.int .i64 r2.1), .val (.int .i64 r2.2)]) (news := []) rfl rfl rfl Try.call15 (atJ [(0, 2)] [] (fc_train_Cycle h2) rfl rfl) (.inr (fun x hx => nomatch hx))) rfl trivial rfl rfl ?_
  refine op0 (sp_move rfl rfl) rfl trivial rfl rfl ?_
  refine op0 (sp_extract rfl rfl rfl) rfl trivial rfl rfl ?_
  refine op0 (sp_extract rfl rfl rfl) rfl trivial rfl rfl ?_
  refine op0 (sp_assign rfl rfl) rfl trivial rfl rfl ?_
  refine op0 (sp_assign rfl rfl) rfl trivial rfl rfl ?_
  refine TL.nil ?_
  refine TC.seq ?_
  refine TC.region ?_
  obtain ⟨r3, h3, h⟩ := bind_inv h
  refine op0 (sp_call (avs := []) (need := []) (v := .agg [.ref 3, .ref 4]) (news := [.row 3 3 1 (List.map en_int r3.1), .row 4 3 1 (List.map en_int r3.2)]) rfl rfl rfl Try.call43 (atJ [] [(0, 3), (1, 4)] (fc_law01_shop h3) rfl rfl) (.inl (roAll rfl))) rfl trivial rfl rfl ?_
  refine op0 (sp_build (qs := [(0, .val (.int .i64 48)), (1, .val (.int .i64 1))]) rfl bt26 rfl rfl rfl rfl) rfl trivial rfl rfl ?_
  refine TL.freeze 0 rfl ?_
  refine TL.freeze 1 rfl ?_
  obtain ⟨r4, h4, h⟩ := bind_inv h
  refine opN (need := [.ro 3 1 (List.map en_int r3.1), .ro 4 1 (List.map en_int r3.2)]) [0, 1] ⟨rfl, rfl, trivial⟩ (sp_call (avs := [.agg [.ref 3, .ref 4], .agg [.val (.int .i64 48), .val (.int .i64 1)]]) (need := [.ro 3 1 (List.map en_int r3.1), .ro 4 1 (List.map en_int r3.2)]) (v := .tup [.ref 5, .val (.int .i64 r4.2)]) (news := [.row 5 57 2 (List.map en_api_Train r4.1)]) rfl rfl rfl Try.call29 (atJ [(0, 3), (1, 4)] [(0, 5)] (fc_train_Fewest h4) rfl rfl) (.inl (roAll rfl))) rfl trivial rfl rfl ?_
  refine op0 (sp_move rfl rfl) rfl trivial rfl rfl ?_
  refine op0 (sp_extract rfl rfl rfl) rfl trivial rfl rfl ?_
  refine op0 (sp_extract rfl rfl rfl) rfl trivial rfl rfl ?_
  refine op0 (sp_assign rfl rfl) rfl trivial rfl rfl ?_
  refine op0 (sp_assign rfl rfl) rfl trivial rfl rfl ?_
  refine TL.nil ?_
  refine TC.seq ?_
  refine TC.region ?_
  obtain ⟨r5, h5, h⟩ := bind_inv h
  refine op0 (sp_call (avs := []) (need := []) (v := .agg [.ref 6, .ref 7]) (news := [.row 6 3 1 (List.map en_int r5.1), .row 7 3 1 (List.map en_int r5.2)]) rfl rfl rfl Try.call43 (atJ [] [(0, 6), (1, 7)] (fc_law01_shop h5) rfl rfl) (.inl (roAll rfl))) rfl trivial rfl rfl ?_
  refine op0 (sp_build (qs := [(0, .val (.int .i64 14)), (1, .val (.int .i64 22))]) rfl bt26 rfl rfl rfl rfl) rfl trivial rfl rfl ?_
  obtain ⟨r6, h6, h⟩ := bind_inv h
  refine opN (need := [.row 6 3 1 (List.map en_int r5.1), .row 7 3 1 (List.map en_int r5.2)]) [0, 1] ⟨rfl, rfl, trivial⟩ (sp_call (avs := [.agg [.ref 6, .ref 7], .agg [.val (.int .i64 14), .val (.int .i64 22)]]) (need := [.row 6 3 1 (List.map en_int r5.1), .row 7 3 1 (List.map en_int r5.2)]) (v := .tup [.ref 8, .val (.int .i64 r6.2)]) (news := [.row 8 3 1 (List.map en_int r6.1)]) rfl rfl rfl Try.call21 (atJ [(0, 6), (1, 7)] [(0, 8)] (fc_train_Missing h6) rfl rfl) (.inr (List.forall_mem_cons.2 ⟨indep_map en_int_flat, (by simp)⟩))) rfl trivial rfl rfl ?_
  refine op0 (sp_move rfl rfl) rfl trivial rfl rfl ?_
  refine op0 (sp_extract rfl rfl rfl) rfl trivial rfl rfl ?_
  refine op0 (sp_extract rfl rfl rfl) rfl trivial rfl rfl ?_
  refine op0 (sp_assign rfl rfl) rfl trivial rfl rfl ?_
  refine op0 (sp_assign rfl rfl) rfl trivial rfl rfl ?_
  refine TL.nil ?_
  refine TC.seq ?_
  refine TC.region ?_
  obtain ⟨r7, h7, h⟩ := bind_inv h
  refine op0 (sp_call (avs := []) (need := []) (v := .agg [.ref 9, .ref 10]) (news := [.row 9 3 1 (List.map en_int r7.1), .row 10 3 1 (List.map en_int r7.2)]) rfl rfl rfl Try.call43 (atJ [] [(0, 9), (1, 10)] (fc_law01_shop h7) rfl rfl) (.inl (roAll rfl))) rfl trivial rfl rfl ?_
  refine op0 (sp_build (qs := [(0, .val (.int .i64 9)), (1, .val (.int .i64 1))]) rfl bt26 rfl rfl rfl rfl) rfl trivial rfl rfl ?_
  refine TL.freeze 0 rfl ?_
  refine TL.freeze 1 rfl ?_
  obtain ⟨r8, h8, h⟩ := bind_inv h
  refine opN (need := [.ro 9 1 (List.map en_int r7.1), .ro 10 1 (List.map en_int r7.2)]) [0, 1] ⟨rfl, rfl, trivial⟩ (sp_call (avs := [.agg [.ref 9, .ref 10], .agg [.val (.int .i64 9), .val (.int .i64 1)]]) (need := [.ro 9 1 (List.map en_int r7.1), .ro 10 1 (List.map en_int r7.2)]) (v := .tup [.ref 11, .val (.int .i64 r8.2)]) (news := [.row 11 57 2 (List.map en_api_Train r8.1)]) rfl rfl rfl Try.call29 (atJ [(0, 9), (1, 10)] [(0, 11)] (fc_train_Fewest h8) rfl rfl) (.inl (roAll rfl))) rfl trivial rfl rfl ?_
  refine op0 (sp_move rfl rfl) rfl trivial rfl rfl ?_
  refine op0 (sp_extract rfl rfl rfl) rfl trivial rfl rfl ?_
  refine op0 (sp_extract rfl rfl rfl) rfl trivial rfl rfl ?_
  refine op0 (sp_assign rfl rfl) rfl trivial rfl rfl ?_
  refine op0 (sp_assign rfl rfl) rfl trivial rfl rfl ?_
  refine TL.nil ?_
  refine TC.seq ?_
  refine TC.region ?_
  obtain ⟨r9, h9, h⟩ := bind_inv h
  refine op0 (sp_call (avs := []) (need := []) (v := .agg [.ref 12, .ref 13]) (news := [.row 12 3 1 (List.map en_int r9.1), .row 13 3 1 (List.map en_int r9.2)]) rfl rfl rfl Try.call43 (atJ [] [(0, 12), (1, 13)] (fc_law01_shop h9) rfl rfl) (.inl (roAll rfl))) rfl trivial rfl rfl ?_
  refine op0 (sp_build (qs := [(0, .val (.int .i64 59)), (1, .val (.int .i64 10))]) rfl bt26 rfl rfl rfl rfl) rfl trivial rfl rfl ?_
  refine TL.freeze 0 rfl ?_
  refine TL.freeze 1 rfl ?_
  obtain ⟨r10, h10, h⟩ := bind_inv h
  refine opN (need := [.ro 12 1 (List.map en_int r9.1), .ro 13 1 (List.map en_int r9.2)]) [0, 1] ⟨rfl, rfl, trivial⟩ (sp_call (avs := [.agg [.ref 12, .ref 13], .agg [.val (.int .i64 59), .val (.int .i64 10)], .val (.int .i64 1)]) (need := [.ro 12 1 (List.map en_int r9.1), .ro 13 1 (List.map en_int r9.2)]) (v := .tup [.agg [.ref 14, .ref 15], .val (.int .i64 r10.2.2)]) (news := [.ro 14 1 (List.map en_int r10.1), .ro 15 1 (List.map en_int r10.2.1)]) rfl rfl rfl Try.call32 (atJ [(0, 12), (1, 13)] [(500, 14), (501, 15)] (fc_train_Near h10) rfl rfl) (.inl (roAll rfl))) rfl trivial rfl rfl ?_
  refine op0 (sp_move rfl rfl) rfl trivial rfl rfl ?_
  refine op0 (sp_extract rfl rfl rfl) rfl trivial rfl rfl ?_
  refine op0 (sp_extract rfl rfl rfl) rfl trivial rfl rfl ?_
  refine op0 (sp_alloc 16 rfl Try.zeroValue57 rfl) rfl trivial rfl rfl ?_
  refine stoB 0 (cells' := [.ref 14, .ref 15]) rfl rfl trivial rfl rfl rfl rfl vt57 rfl rfl rfl ?_
  refine op0 (sp_assign rfl rfl) rfl trivial rfl rfl ?_
  refine TL.nil ?_
  refine TC.seq ?_
  refine TC.seq ?_
  refine TC.region ?_
  refine op0 (sp_move rfl rfl) rfl trivial rfl rfl ?_
  refine op0 (sp_neq rfl rfl rfl) rfl trivial rfl rfl ?_
  refine op0 (sp_move rfl rfl) rfl trivial rfl rfl ?_
  rcases cond_cases h with ⟨h11, h⟩ | ⟨h11, h⟩
  · refine (boolLit 54 rfl h11).2 ?_
    refine opSkip rfl ⟨_, rfl, .inl rfl⟩ rfl ?_
    refine opSkip rfl ⟨_, rfl, .inl rfl⟩ rfl ?_
    refine op0 (sp_pickT rfl rfl rfl) rfl trivial rfl rfl ?_
    refine op0 (sp_move rfl rfl) rfl trivial rfl rfl ?_
    refine opSkip rfl ⟨_, rfl, .inl rfl⟩ rfl ?_
    refine opSkip rfl ⟨_, rfl, .inl rfl⟩ rfl ?_
    refine op0 (sp_pickT rfl rfl rfl) rfl trivial rfl rfl ?_
    refine op0 (sp_move rfl rfl) rfl trivial rfl rfl ?_
    refine opSkip rfl ⟨_, rfl, .inl rfl⟩ rfl ?_
    refine opSkip rfl ⟨_, rfl, .inl rfl⟩ rfl ?_
    refine op0 (sp_pickT rfl rfl rfl) rfl trivial rfl rfl ?_
    refine op0 (sp_move rfl rfl) rfl trivial rfl rfl ?_
    refine opSkip rfl ⟨_, rfl, .inl rfl⟩ rfl ?_
    refine opSkip rfl ⟨_, rfl, .inl rfl⟩ rfl ?_
    refine op0 (sp_pickT rfl rfl rfl) rfl trivial rfl rfl ?_
    refine op0 (sp_move rfl rfl) rfl trivial rfl rfl ?_
    refine opSkip rfl ⟨_, rfl, .inl rfl⟩ rfl ?_
    refine opSkip rfl ⟨_, rfl, .inl rfl⟩ rfl ?_
    refine op0 (sp_pickT rfl rfl rfl) rfl trivial rfl rfl ?_
    refine op0 (sp_move rfl rfl) rfl trivial rfl rfl ?_
    refine opSkip rfl ⟨_, rfl, .inl rfl⟩ rfl ?_
    refine opSkip rfl ⟨_, rfl, .inl rfl⟩ rfl ?_
    refine opSkip rfl ⟨_, rfl, .inl rfl⟩ rfl ?_
    refine op0 (sp_pickT rfl rfl rfl) rfl trivial rfl rfl ?_
    refine op0 (sp_move rfl rfl) rfl trivial rfl rfl ?_
    refine opSkip rfl ⟨_, rfl, .inl rfl⟩ rfl ?_
    refine opSkip rfl ⟨_, rfl, .inl rfl⟩ rfl ?_
    refine opSkip rfl ⟨_, rfl, .inl rfl⟩ rfl ?_
    refine op0 (sp_pickT rfl rfl rfl) rfl trivial rfl rfl ?_
    refine TL.nil ?_
    refine TC.condT rfl ?_
    refine TC.seq ?_
    refine TC.region ?_
    refine op0 (sp_assign rfl rfl) rfl trivial rfl rfl ?_
    refine TL.nil ?_
    cases h
    exact retJ [] (.tmp rfl .nil) rfl trivial rfl rfl
  · refine (boolLit 54 rfl h11).2 ?_
    refine op0 (sp_move rfl rfl) rfl ⟨_, rfl, rfl⟩ rfl rfl ?_
    refine op0 (sp_neq rfl rfl rfl) rfl ⟨_, rfl, rfl⟩ rfl rfl ?_
    refine op0 (sp_pickF rfl rfl rfl) rfl trivial rfl rfl ?_
    refine op0 (sp_move rfl rfl) rfl trivial rfl rfl ?_
    rcases cond_cases h with ⟨h12, h⟩ | ⟨h12, h⟩
    · refine (boolLit 58 rfl h12).2 ?_
      refine opSkip rfl ⟨_, rfl, .inl rfl⟩ rfl ?_
      refine opSkip rfl ⟨_, rfl, .inl rfl⟩ rfl ?_
      refine op0 (sp_pickT rfl rfl rfl) rfl trivial rfl rfl ?_
      refine op0 (sp_move rfl rfl) rfl trivial rfl rfl ?_
      refine opSkip rfl ⟨_, rfl, .inl rfl⟩ rfl ?_
      refine opSkip rfl ⟨_, rfl, .inl rfl⟩ rfl ?_
      refine op0 (sp_pickT rfl rfl rfl) rfl trivial rfl rfl ?_
      refine op0 (sp_move rfl rfl) rfl trivial rfl rfl ?_
      refine opSkip rfl ⟨_, rfl, .inl rfl⟩ rfl ?_
      refine opSkip rfl ⟨_, rfl, .inl rfl⟩ rfl ?_
      refine op0 (sp_pickT rfl rfl rfl) rfl trivial rfl rfl ?_
      refine op0 (sp_move rfl rfl) rfl trivial rfl rfl ?_
      refine opSkip rfl ⟨_, rfl, .inl rfl⟩ rfl ?_
      refine opSkip rfl ⟨_, rfl, .inl rfl⟩ rfl ?_
      refine op0 (sp_pickT rfl rfl rfl) rfl trivial rfl rfl ?_
      refine op0 (sp_move rfl rfl) rfl trivial rfl rfl ?_
      refine opSkip rfl ⟨_, rfl, .inl rfl⟩ rfl ?_
      refine opSkip rfl ⟨_, rfl, .inl rfl⟩ rfl ?_
      refine opSkip rfl ⟨_, rfl, .inl rfl⟩ rfl ?_
      refine op0 (sp_pickT rfl rfl rfl) rfl trivial rfl rfl ?_
      refine op0 (sp_move rfl rfl) rfl trivial rfl rfl ?_
      refine opSkip rfl ⟨_, rfl, .inl rfl⟩ rfl ?_
      refine opSkip rfl ⟨_, rfl, .inl rfl⟩ rfl ?_
      refine opSkip rfl ⟨_, rfl, .inl rfl⟩ rfl ?_
      refine op0 (sp_pickT rfl rfl rfl) rfl trivial rfl rfl ?_
      refine TL.nil ?_
      refine TC.condT rfl ?_
      refine TC.seq ?_
      refine TC.region ?_
      refine op0 (sp_assign rfl rfl) rfl trivial rfl rfl ?_
      refine TL.nil ?_
      cases h
      exact retJ [] (.tmp rfl .nil) rfl trivial rfl rfl
    · refine (boolLit 58 rfl h12).2 ?_
      refine op0 (sp_move rfl rfl) rfl ⟨_, rfl, rfl⟩ rfl rfl ?_
      refine op0 (sp_neq rfl rfl rfl) rfl ⟨_, rfl, rfl⟩ rfl rfl ?_
      refine op0 (sp_pickF rfl rfl rfl) rfl trivial rfl rfl ?_
      refine op0 (sp_move rfl rfl) rfl trivial rfl rfl ?_
      rcases cond_cases h with ⟨h13, h⟩ | ⟨h13, h⟩
      · refine (boolLit 62 rfl h13).2 ?_
        refine opSkip rfl ⟨_, rfl, .inl rfl⟩ rfl ?_
        refine opSkip rfl ⟨_, rfl, .inl rfl⟩ rfl ?_
        refine op0 (sp_pickT rfl rfl rfl) rfl trivial rfl rfl ?_
        refine op0 (sp_move rfl rfl) rfl trivial rfl rfl ?_
        refine opSkip rfl ⟨_, rfl, .inl rfl⟩ rfl ?_
        refine opSkip rfl ⟨_, rfl, .inl rfl⟩ rfl ?_
        refine op0 (sp_pickT rfl rfl rfl) rfl trivial rfl rfl ?_
        refine op0 (sp_move rfl rfl) rfl trivial rfl rfl ?_
        refine opSkip rfl ⟨_, rfl, .inl rfl⟩ rfl ?_
        refine opSkip rfl ⟨_, rfl, .inl rfl⟩ rfl ?_
        refine op0 (sp_pickT rfl rfl rfl) rfl trivial rfl rfl ?_
        refine op0 (sp_move rfl rfl) rfl trivial rfl rfl ?_
        refine opSkip rfl ⟨_, rfl, .inl rfl⟩ rfl ?_
        refine opSkip rfl ⟨_, rfl, .inl rfl⟩ rfl ?_
        refine opSkip rfl ⟨_, rfl, .inl rfl⟩ rfl ?_
        refine op0 (sp_pickT rfl rfl rfl) rfl trivial rfl rfl ?_
        refine op0 (sp_move rfl rfl) rfl trivial rfl rfl ?_
        refine opSkip rfl ⟨_, rfl, .inl rfl⟩ rfl ?_
        refine opSkip rfl ⟨_, rfl, .inl rfl⟩ rfl ?_
        refine opSkip rfl ⟨_, rfl, .inl rfl⟩ rfl ?_
        refine op0 (sp_pickT rfl rfl rfl) rfl trivial rfl rfl ?_
        refine TL.nil ?_
        refine TC.condT rfl ?_
        refine TC.seq ?_
        refine TC.region ?_
        refine op0 (sp_assign rfl rfl) rfl trivial rfl rfl ?_
        refine TL.nil ?_
        cases h
        exact retJ [] (.tmp rfl .nil) rfl trivial rfl rfl
      · refine (boolLit 62 rfl h13).2 ?_
        refine op0 (sp_move rfl rfl) rfl ⟨_, rfl, rfl⟩ rfl rfl ?_
        refine op0 (sp_neq rfl rfl rfl) rfl ⟨_, rfl, rfl⟩ rfl rfl ?_
        refine op0 (sp_pickF rfl rfl rfl) rfl trivial rfl rfl ?_
        refine op0 (sp_move rfl rfl) rfl trivial rfl rfl ?_
        rcases cond_cases h with ⟨h14, h⟩ | ⟨h14, h⟩
        · refine (boolLit 66 rfl h14).2 ?_
          refine opSkip rfl ⟨_, rfl, .inl rfl⟩ rfl ?_
          refine opSkip rfl ⟨_, rfl, .inl rfl⟩ rfl ?_
          refine op0 (sp_pickT rfl rfl rfl) rfl trivial rfl rfl ?_
          refine op0 (sp_move rfl rfl) rfl trivial rfl rfl ?_
          refine opSkip rfl ⟨_, rfl, .inl rfl⟩ rfl ?_
          refine opSkip rfl ⟨_, rfl, .inl rfl⟩ rfl ?_
          refine op0 (sp_pickT rfl rfl rfl) rfl trivial rfl rfl ?_
          refine op0 (sp_move rfl rfl) rfl trivial rfl rfl ?_
          refine opSkip rfl ⟨_, rfl, .inl rfl⟩ rfl ?_
          refine opSkip rfl ⟨_, rfl, .inl rfl⟩ rfl ?_
          refine opSkip rfl ⟨_, rfl, .inl rfl⟩ rfl ?_
          refine op0 (sp_pickT rfl rfl rfl) rfl trivial rfl rfl ?_
          refine op0 (sp_move rfl rfl) rfl trivial rfl rfl ?_
          refine opSkip rfl ⟨_, rfl, .inl rfl⟩ rfl ?_
          refine opSkip rfl ⟨_, rfl, .inl rfl⟩ rfl ?_
          refine opSkip rfl ⟨_, rfl, .inl rfl⟩ rfl ?_
          refine op0 (sp_pickT rfl rfl rfl) rfl trivial rfl rfl ?_
          refine TL.nil ?_
          refine TC.condT rfl ?_
          refine TC.seq ?_
          refine TC.region ?_
          refine op0 (sp_assign rfl rfl) rfl trivial rfl rfl ?_
          refine TL.nil ?_
          cases h
          exact retJ [] (.tmp rfl .nil) rfl trivial rfl rfl
        · refine (boolLit 66 rfl h14).2 ?_
          refine op0 (sp_move rfl rfl) rfl ⟨_, rfl, rfl⟩ rfl rfl ?_
          refine op0 (sp_neq rfl rfl rfl) rfl ⟨_, rfl, rfl⟩ rfl rfl ?_
          refine op0 (sp_pickF rfl rfl rfl) rfl trivial rfl rfl ?_
          refine op0 (sp_move rfl rfl) rfl trivial rfl rfl ?_
          rcases cond_cases h with ⟨h15, h⟩ | ⟨h15, h⟩
          · refine (boolLit 70 rfl h15).2 ?_
            refine opSkip rfl ⟨_, rfl, .inl rfl⟩ rfl ?_
            refine opSkip rfl ⟨_, rfl, .inl rfl⟩ rfl ?_
            refine op0 (sp_pickT rfl rfl rfl) rfl trivial rfl rfl ?_
            refine op0 (sp_move rfl rfl) rfl trivial rfl rfl ?_
            refine opSkip rfl ⟨_, rfl, .inl rfl⟩ rfl ?_
            refine opSkip rfl ⟨_, rfl, .inl rfl⟩ rfl ?_
            refine opSkip rfl ⟨_, rfl, .inl rfl⟩ rfl ?_
            refine op0 (sp_pickT rfl rfl rfl) rfl trivial rfl rfl ?_
            refine op0 (sp_move rfl rfl) rfl trivial rfl rfl ?_
            refine opSkip rfl ⟨_, rfl, .inl rfl⟩ rfl ?_
            refine opSkip rfl ⟨_, rfl, .inl rfl⟩ rfl ?_
            refine opSkip rfl ⟨_, rfl, .inl rfl⟩ rfl ?_
            refine op0 (sp_pickT rfl rfl rfl) rfl trivial rfl rfl ?_
            refine TL.nil ?_
            refine TC.condT rfl ?_
            refine TC.seq ?_
            refine TC.region ?_
            refine op0 (sp_assign rfl rfl) rfl trivial rfl rfl ?_
            refine TL.nil ?_
            cases h
            exact retJ [] (.tmp rfl .nil) rfl trivial rfl rfl
          · refine (boolLit 70 rfl h15).2 ?_
            refine op0 (sp_move rfl rfl) rfl ⟨_, rfl, rfl⟩ rfl rfl ?_
            refine op0 (sp_neq rfl rfl rfl) rfl ⟨_, rfl, rfl⟩ rfl rfl ?_
            refine op0 (sp_pickF rfl rfl rfl) rfl trivial rfl rfl ?_
            refine op0 (sp_move rfl rfl) rfl trivial rfl rfl ?_
            rcases cond_cases h with ⟨h16, h⟩ | ⟨h16, h⟩
            · refine (boolLit 74 rfl h16).2 ?_
              refine opSkip rfl ⟨_, rfl, .inl rfl⟩ rfl ?_
              refine opSkip rfl ⟨_, rfl, .inl rfl⟩ rfl ?_
              refine opSkip rfl ⟨_, rfl, .inl rfl⟩ rfl ?_
              refine op0 (sp_pickT rfl rfl rfl) rfl trivial rfl rfl ?_
              refine op0 (sp_move rfl rfl) rfl trivial rfl rfl ?_
              refine opSkip rfl ⟨_, rfl, .inl rfl⟩ rfl ?_
              refine opSkip rfl ⟨_, rfl, .inl rfl⟩ rfl ?_
              refine opSkip rfl ⟨_, rfl, .inl rfl⟩ rfl ?_
              refine op0 (sp_pickT rfl rfl rfl) rfl trivial rfl rfl ?_
              refine TL.nil ?_
              refine TC.condT rfl ?_
              refine TC.seq ?_
              refine TC.region ?_
              refine op0 (sp_assign rfl rfl) rfl trivial rfl rfl ?_
              refine TL.nil ?_
              cases h
              exact retJ [] (.tmp rfl .nil) rfl trivial rfl rfl
            · refine (boolLit 74 rfl h16).2 ?_
              refine op0 (sp_move rfl rfl) rfl ⟨_, rfl, rfl⟩ rfl rfl ?_
              refine op1 11 rfl (sp_lenM (N := r4.1.length) (len_map _ _) rfl rfl isOwn Try.underlying52) rfl ⟨_, rfl, rfl⟩ rfl rfl ?_
              refine op0 (sp_neq rfl rfl rfl) rfl ⟨_, rfl, rfl⟩ rfl rfl ?_
              refine op0 (sp_pickF rfl rfl rfl) rfl trivial rfl rfl ?_
              refine op0 (sp_move rfl rfl) rfl trivial rfl rfl ?_
              rcases cond_cases h with ⟨h17, h⟩ | ⟨h17, h⟩
              · refine (boolLit 79 rfl h17).2 ?_
                refine opSkip rfl ⟨_, rfl, .inl rfl⟩ rfl ?_
                refine opSkip rfl ⟨_, rfl, .inl rfl⟩ rfl ?_
                refine opSkip rfl ⟨_, rfl, .inl rfl⟩ rfl ?_
                refine op0 (sp_pickT rfl rfl rfl) rfl trivial rfl rfl ?_
                refine TL.nil ?_
                refine TC.condT rfl ?_
                refine TC.seq ?_
                refine TC.region ?_
                refine op0 (sp_assign rfl rfl) rfl trivial rfl rfl ?_
                refine TL.nil ?_
                cases h
                exact retJ [] (.tmp rfl .nil) rfl trivial rfl rfl
              · refine (boolLit 79 rfl h17).2 ?_
                refine op0 (sp_move rfl rfl) rfl ⟨_, rfl, rfl⟩ rfl rfl ?_
                refine op1 5 rfl (sp_lenM (N := r8.1.length) (len_map _ _) rfl rfl isOwn Try.underlying52) rfl ⟨_, rfl, rfl⟩ rfl rfl ?_
                refine op0 (sp_neq rfl rfl rfl) rfl ⟨_, rfl, rfl⟩ rfl rfl ?_
                refine op0 (sp_pickF rfl rfl rfl) rfl trivial rfl rfl ?_
                refine TL.nil ?_
                refine TC.cond (b := ((r8.1.length : Int) != 0)) rfl (fun h18 => ?_) (fun h18 => ?_)
                · have h := cond_t h h18
                  refine TC.seq ?_
                  refine TC.region ?_
                  refine op0 (sp_assign rfl rfl) rfl trivial rfl rfl ?_
                  refine TL.nil ?_
                  cases h
                  exact retJ [] (.tmp rfl .nil) rfl trivial rfl rfl
                · have h := cond_f h h18
                  refine subJ [] (ok_law01_known_j0 h) ?_ ?_ ?_
                  · exact ⟨rfl, rfl, rfl, rfl, rfl, rfl, trivial⟩
                  · exact ⟨mem_at 15 rfl, mem_at 11 rfl, mem_at 8 rfl, mem_at 0 rfl, mem_at 1 rfl, mem_at 2 rfl, trivial⟩
                  · rfl
/- law01_pairs -/
def ev_law01_pairs (n : Nat) (l1 : List (Int × Int)) : Option ((List (Int × Int))) :=
  chk (room 16 (([] : List (Int × Int)).length + l1.length)) <| some (([] : List (Int × Int)) ++ l1)
set_option maxRecDepth 100000 in
set_option maxHeartbeats 2000000 in
theorem fc_law01_pairs {n : Nat} {l1 : List (Int × Int)} {r : (List (Int × Int))} (h : ev_law01_pairs n l1 = some r) : FC Try.prog 13 [.ref 0] [.ro 0 2 (List.map en_api_TrainPair l1)] (.ref 0) [.row 0 33 2 (List.map en_api_TrainPair r)] := by
  refine introJ (nz := 6) Try.func13 rfl rfl rfl (fun w0 R0 env0 => ?_)
  rw [ev_law01_pairs] at h
  refine TC.seq ?_
  refine TC.region ?_
  refine op0 (sp_assign rfl rfl) rfl trivial rfl rfl ?_
  refine TL.nil ?_
  refine TC.seq ?_
  refine TC.region ?_
  refine op0 (sp_emptyM 1 (List.map en_api_TrainPair []) rfl rfl sl22) rfl trivial rfl rfl ?_
  refine op0 (sp_move rfl rfl) rfl trivial rfl rfl ?_
  obtain ⟨h1, h⟩ := chk_inv h
  refine appM 0 1 (N := ([] : List (Int × Int)).length) (N2 := l1.length) 2 rfl rfl trivial rfl rfl rfl rfl rfl isRo rfl sl22 (len_map _ _) (len_map _ _) h1 (map_app _ _ _) rfl ?_
  refine op0 (sp_assign rfl rfl) rfl trivial rfl rfl ?_
  refine TL.nil ?_
  cases h
  exact retJ [(0, 2)] (.tmp rfl .nil) rfl ⟨mem_at 0 rfl, trivial⟩ rfl rfl
/- law01_gcd -/
def ev_law01_gcd_l0 (n : Nat) : Nat → Int → Int → Option Int
  | 0, _, _ => none
  | m + 1, i3, i4 => cond (decide ((0 : Int) < i4)) (chk (i4 != 0) <| ev_law01_gcd_l0 n m i4 (Int.tmod i3 i4)) (some i3)
set_option maxRecDepth 100000 in
set_option maxHeartbeats 2000000 in
theorem ok_law01_gcd_l0 {n : Nat} {w0 : World} {R0 : Nat → Prop} {env0 : Env} {r : Int} : ∀ (m : Nat) (i3 : Int) (i4 : Int), ev_law01_gcd_l0 n m i3 i4 = some r → TC Try.prog ⟨w0, fun _ => False, R0⟩ 12 (bodyPost Try.prog Try.f40 (Post ⟨w0, fun _ => False, R0⟩ env0 (.val (.int .i64 r)) [])) [.code (sub (bodyOf Try.f40) [1, 0, 0, 0, 0, 0]), .code (sub (bodyOf Try.f40) [1, 0, 0, 0, 0, 1]), .code (sub (bodyOf Try.f40) [1, 0, 0, 0, 1]), .inLoop (sub (bodyOf Try.f40) [1, 0, 0, 0]), .inBlock 0, .code (sub (bodyOf Try.f40) [1, 1])] ([(0, .val (.int .i64 i3)), (1, .val (.int .i64 i4))]) ([]) := by
  intro m
  induction m with
  | zero => intro i3 i4 h; exact none_no h
  | succ m ih =>
    intro i3 i4 h
    rw [ev_law01_gcd_l0] at h
    refine TC.region ?_
    refine op0 (sp_move rfl rfl) rfl trivial rfl rfl ?_
    refine op0 (sp_gtr rfl rfl rfl) rfl trivial rfl rfl ?_
    refine TL.nil ?_
    refine TC.cond (b := (decide ((0 : Int) < i4))) rfl (fun h1 => ?_) (fun h1 => ?_)
    · have h := cond_t h h1
      refine TC.skip ?_
      refine TC.block ?_
      obtain ⟨h2, h⟩ := chk_inv h
      refine drawJ 5 [⟨.val (.int .i64 i4), [], [], []⟩, ⟨.val (.int .i64 i3), [], [], []⟩, ⟨.val (.int .i64 i4), [], [], []⟩, ⟨.val (.int .i64 (Int.tmod i3 i4)), [], [], []⟩, ⟨.val (.int .i64 i4), [], [], []⟩] rfl ?_ rfl ?_ rfl ?_ ?_
      · kernel_rfl
      · kernel_rfl
      · exact DAll.op' (sp_move rfl rfl) trivial rfl (From.ok (ps := []) trivial) (DAll.op' (sp_move rfl rfl) trivial rfl (From.ok (ps := []) trivial) (DAll.op' (sp_move rfl rfl) trivial rfl (From.ok (ps := []) trivial) (DAll.op' (sp_rem rfl rfl rfl h2) trivial rfl (From.ok (ps := []) trivial) (DAll.op' (sp_assign rfl rfl) trivial rfl (From.ok (ps := []) trivial) (.nil)))))
      refine op0 (sp_assign rfl rfl) rfl trivial rfl rfl ?_
      refine TL.nil ?_
      refine TC.inBlock ?_
      refine TC.inLoop ?_
      refine TC.seq ?_
      refine TC.seq ?_
      refine subJ [] (ih _ _ h) ?_ ?_ ?_
      · exact ⟨rfl, rfl, trivial⟩
      · exact trivial
      · rfl
    · have h := cond_f h h1
      refine TC.exit rfl ?_
      refine TC.seq ?_
      refine TC.region ?_
      refine op0 (sp_move rfl rfl) rfl trivial rfl rfl ?_
      refine op0 (sp_assign rfl rfl) rfl trivial rfl rfl ?_
      refine TL.nil ?_
      cases h
      exact retJ [] (.tmp rfl .nil) rfl trivial rfl rfl
def ev_law01_gcd (n : Nat) (a1 : Int) (b2 : Int) : Option Int :=
  ev_law01_gcd_l0 n n a1 b2
set_option maxRecDepth 100000 in
set_option maxHeartbeats 2000000 in
theorem fc_law01_gcd {n : Nat} {a1 : Int} {b2 : Int} {r : Int} (h : ev_law01_gcd n a1 b2 = some r) : FC Try.prog 40 [.val (.int .i64 a1), .val (.int .i64 b2)] [] (.val (.int .i64 r)) [] := by
  refine introJ (nz := 12) Try.func40 rfl rfl rfl (fun w0 R0 env0 => ?_)
  rw [ev_law01_gcd] at h
  refine TC.seq ?_
  refine TC.region ?_
  refine op0 (sp_assign rfl rfl) rfl trivial rfl rfl ?_
  refine TL.nil ?_
  refine TC.seq ?_
  refine TC.block ?_
  refine TC.loop ?_
  refine TC.seq ?_
  refine TC.seq ?_
  refine subJ [] (ok_law01_gcd_l0 _ _ _ h) ?_ ?_ ?_
  · exact ⟨rfl, rfl, trivial⟩
  · exact trivial
  · rfl
/- law01_copied -/
def ev_law01_copied (n : Nat) (s1 : List Int) (s2 : List Int) : Option ((List Int) × (List Int)) :=
  chk (room 8 (([] : List Int).length + s1.length)) <| chk (room 8 (([] : List Int).length + s2.length)) <| some ((([] : List Int) ++ s1), (([] : List Int) ++ s2))
set_option maxRecDepth 100000 in
set_option maxHeartbeats 2000000 in
theorem fc_law01_copied {n : Nat} {s1 : List Int} {s2 : List Int} {r : (List Int) × (List Int)} (h : ev_law01_copied n s1 s2 = some r) : FC Try.prog 19 [.agg [.ref 0, .ref 1]] [.ro 0 1 (List.map en_int s1), .ro 1 1 (List.map en_int s2)] (.agg [.ref 0, .ref 1]) [.row 0 3 1 (List.map en_int r.1), .row 1 3 1 (List.map en_int r.2)] := by
  refine introJ (nz := 12) Try.func19 rfl rfl rfl (fun w0 R0 env0 => ?_)
  rw [ev_law01_copied] at h
  refine TC.seq ?_
  refine TC.region ?_
  refine op0 (sp_box 2 rfl rfl rfl rfl rfl) rfl trivial rfl rfl ?_
  refine op0 (sp_alloc 3 rfl Try.zeroValue40 rfl) rfl trivial rfl rfl ?_
  refine TL.nil ?_
  refine TC.seq ?_
  obtain ⟨h1, h⟩ := chk_inv h
  refine drawJ 7 [⟨.ref 4, [.row 4 3 1 (List.map en_int ([] : List Int))], [], []⟩, ⟨.ptr 2 0, [], [.blk 2 [.ref 0, .ref 1] 40], []⟩, ⟨.ref 0, [], [.blk 2 [.ref 0, .ref 1] 40], []⟩, ⟨.ref 5, [.row 5 3 1 (List.map en_int (([] : List Int) ++ s1))], [.ro 0 1 (List.map en_int s1)], [.row 4 3 1 (List.map en_int ([] : List Int))]⟩, ⟨.ref 6, [.row 6 3 1 (List.map en_int ([] : List Int))], [], []⟩, ⟨.ptr 2 1, [], [.blk 2 [.ref 0, .ref 1] 40], []⟩, ⟨.ref 1, [], [.blk 2 [.ref 0, .ref 1] 40], []⟩] rfl ?_ rfl ?_ rfl ?_ ?_
  · kernel_rfl
  · kernel_rfl
  · exact DAll.op' (sp_emptyM 4 (List.map en_int []) rfl rfl sl38) trivial rfl (From.ok (ps := []) trivial) (DAll.op' (sp_fieldAddrB rfl isBlk rfl ft40_0 vt38 (by decide)) trivial rfl (From.ok (ps := [(none, 1)]) ⟨⟨rfl, by kernel_rfl⟩, trivial⟩) (DAll.op' (sp_loadB rfl isBlk rfl vt38 rfl) trivial rfl (From.ok (ps := [(none, 1)]) ⟨⟨rfl, by kernel_rfl⟩, trivial⟩) (DAll.opT (ts_append (N := ([] : List Int).length) (N2 := s1.length) 5 rfl rfl rfl isRo rfl sl38 (len_map _ _) (len_map _ _) h1 (map_app _ _ _) rfl) trivial (From.ok (ps := [(some 0, 0)]) ⟨⟨_, rfl, by kernel_rfl, rfl, by kernel_rfl⟩, trivial⟩) (From.ok (ps := [(none, 2)]) ⟨⟨rfl, by kernel_rfl⟩, trivial⟩) (DAll.op' (sp_emptyM 6 (List.map en_int []) rfl rfl sl38) trivial rfl (From.ok (ps := []) trivial) (DAll.op' (sp_fieldAddrB rfl isBlk rfl ft40_1 vt38 (by decide)) trivial rfl (From.ok (ps := [(none, 1)]) ⟨⟨rfl, by kernel_rfl⟩, trivial⟩) (DAll.op' (sp_loadB rfl isBlk rfl vt38 rfl) trivial rfl (From.ok (ps := [(none, 1)]) ⟨⟨rfl, by kernel_rfl⟩, trivial⟩) (.nil)))))))
  obtain ⟨h2, h⟩ := chk_inv h
  refine appM 0 5 (N := ([] : List Int).length) (N2 := s2.length) 7 rfl rfl trivial rfl rfl rfl rfl rfl isRo rfl sl38 (len_map _ _) (len_map _ _) h2 (map_app _ _ _) rfl ?_
  refine op0 (sp_build (qs := [(0, .ref 5), (1, .ref 7)]) rfl bt40 rfl rfl rfl rfl) rfl trivial rfl rfl ?_
  refine stoB 2 (cells' := [.ref 5, .ref 7]) rfl rfl trivial rfl rfl rfl rfl vt40 rfl rfl rfl ?_
  refine TL.nil ?_
  cases h
  exact retJ [(0, 5), (1, 7)] (.cells rfl (mem_at 2 rfl) isBlk vt40 rfl rfl (.nil)) rfl ⟨mem_at 1 rfl, mem_at 0 rfl, trivial⟩ rfl rfl
/- law01_same -/
def ev_law01_same (n : Nat) (a1 : List Int) (a2 : List Int) (b3 : List Int) (b4 : List Int) : Option Bool :=
  (ev_ref01_Same n a1 b3).bind fun r5 => cond r5 ((ev_ref01_Same n a2 b4).bind fun r6 => some r6) (some false)
set_option maxRecDepth 100000 in
set_option maxHeartbeats 2000000 in
theorem fc_law01_same {n : Nat} {a1 : List Int} {a2 : List Int} {b3 : List Int} {b4 : List Int} {r : Bool} (h : ev_law01_same n a1 a2 b3 b4 = some r) : FC Try.prog 22 [.agg [.ref 0, .ref 1], .agg [.ref 2, .ref 3]] [.ro 0 1 (List.map en_int a1), .ro 1 1 (List.map en_int a2), .ro 2 1 (List.map en_int b3), .ro 3 1 (List.map en_int b4)] (.val (.bool r)) [] := by
  refine introJ (nz := 17) Try.func22 rfl rfl rfl (fun w0 R0 env0 => ?_)
  rw [ev_law01_same] at h
  refine TC.seq ?_
  refine TC.region ?_
  refine op0 (sp_box 4 rfl rfl rfl rfl rfl) rfl trivial rfl rfl ?_
  refine op0 (sp_box 5 rfl rfl rfl rfl rfl) rfl trivial rfl rfl ?_
  refine op0 (sp_assign rfl rfl) rfl trivial rfl rfl ?_
  refine TL.nil ?_
  refine TC.seq ?_
  refine TC.region ?_
  refine op1 1 rfl (sp_fieldAddrB rfl isBlk rfl ft40_0 vt38 (by decide)) rfl trivial rfl rfl ?_
  refine op1 1 rfl (sp_loadB rfl isBlk rfl vt38 rfl) rfl trivial rfl rfl ?_
  refine op1 0 rfl (sp_fieldAddrB rfl isBlk rfl ft40_0 vt38 (by decide)) rfl trivial rfl rfl ?_
  refine op1 0 rfl (sp_loadB rfl isBlk rfl vt38 rfl) rfl trivial rfl rfl ?_
  obtain ⟨r5, h1, h⟩ := bind_inv h
  refine opN (need := [.ro 0 1 (List.map en_int a1), .ro 2 1 (List.map en_int b3)]) [2, 4] ⟨rfl, rfl, trivial⟩ (sp_call (avs := [.ref 0, .ref 2]) (need := [.ro 0 1 (List.map en_int a1), .ro 2 1 (List.map en_int b3)]) (v := .val (.bool r5)) (news := []) rfl rfl rfl Try.call27 (atJ [(1, 2)] [] (fc_ref01_Same h1) rfl rfl) (.inl (roAll rfl))) rfl trivial rfl rfl ?_
  refine op0 (sp_move rfl rfl) rfl trivial rfl rfl ?_
  rcases cond_cases h with ⟨h2, h⟩ | ⟨h2, h⟩
  · refine (boolLit 10 rfl h2).2 ?_
    refine op1 1 rfl (sp_fieldAddrB rfl isBlk rfl ft40_1 vt38 (by decide)) rfl ⟨_, rfl, rfl⟩ rfl rfl ?_
    refine op1 1 rfl (sp_loadB rfl isBlk rfl vt38 rfl) rfl ⟨_, rfl, rfl⟩ rfl rfl ?_
    refine op1 0 rfl (sp_fieldAddrB rfl isBlk rfl ft40_1 vt38 (by decide)) rfl ⟨_, rfl, rfl⟩ rfl rfl ?_
    refine op1 0 rfl (sp_loadB rfl isBlk rfl vt38 rfl) rfl ⟨_, rfl, rfl⟩ rfl rfl ?_
    obtain ⟨r6, h3, h⟩ := bind_inv h
    refine opN (need := [.ro 1 1 (List.map en_int a2), .ro 3 1 (List.map en_int b4)]) [3, 5] ⟨rfl, rfl, trivial⟩ (sp_call (avs := [.ref 1, .ref 3]) (need := [.ro 1 1 (List.map en_int a2), .ro 3 1 (List.map en_int b4)]) (v := .val (.bool r6)) (news := []) rfl rfl rfl Try.call27 (atJ [(0, 1), (1, 3)] [] (fc_ref01_Same h3) rfl rfl) (.inl (roAll rfl))) rfl ⟨_, rfl, rfl⟩ rfl rfl ?_
    refine op0 (sp_pickT rfl rfl rfl) rfl trivial rfl rfl ?_
    refine op0 (sp_assign rfl rfl) rfl trivial rfl rfl ?_
    refine TL.nil ?_
    cases h
    exact retJ [] (.tmp rfl .nil) rfl trivial rfl rfl
  · refine (boolLit 10 rfl h2).2 ?_
    refine opSkip rfl ⟨_, rfl, .inl rfl⟩ rfl ?_
    refine opSkip rfl ⟨_, rfl, .inl rfl⟩ rfl ?_
    refine opSkip rfl ⟨_, rfl, .inl rfl⟩ rfl ?_
    refine opSkip rfl ⟨_, rfl, .inl rfl⟩ rfl ?_
    refine opSkip rfl ⟨_, rfl, .inl rfl⟩ rfl ?_
    refine op0 (sp_pickF rfl rfl rfl) rfl trivial rfl rfl ?_
    refine op0 (sp_assign rfl rfl) rfl trivial rfl rfl ?_
    refine TL.nil ?_
    cases h
    exact retJ [] (.tmp rfl .nil) rfl trivial rfl rfl
end
end Go.Proofs.Ytabjhlfgcmmbfaa.Sy
