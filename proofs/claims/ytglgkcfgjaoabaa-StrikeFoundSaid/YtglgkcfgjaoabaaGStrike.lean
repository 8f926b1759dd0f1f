/- What functions of the program compute, and that they do: printed by symgen.py. -/
import Derived.Test.YtglgkcfgjaoabaaGLib
import Derived.Test.YtglgkcfgjaoabaaGStrikeA
set_option linter.unusedSimpArgs false
set_option linter.unusedVariables false
namespace Go.Proofs.Ytglgkcfgjaoabaa.Sy
open Go.RowKit
noncomputable section

/- p_strike_best_from -/
def ev_p_strike_best_from_j2 (n : Nat) (l30 : List ((Int × Int) × Bool)) (i26 : Int) (i27 : Int) (i19 : Int) (i20 : Int) (l28 : List ((Int × Int) × (Int × Int))) (l29 : List ((Int × Int) × (Int × Bool))) (i24 : Int) (b25 : Bool) : Option (Nat × ((List ((Int × Int) × Bool)) × Bool × Int × Int × Int × Int × (List ((Int × Int) × (Int × Int))) × (List ((Int × Int) × (Int × Bool))))) :=
  some (0, (l30, true, i26, i27, i19, i20, (mput l28 (i19, i20) (i26, i27)), (mput l29 (i19, i20) (i24, b25))))
set_option maxRecDepth 100000 in
set_option maxHeartbeats 2000000 in
theorem ok_p_strike_best_from_j2 {n : Nat} {env0 : Env} {w0 : World} {M0 R0 : Nat → Prop} {l0 : Nat} {rec : Loop} {r : Nat × ((List ((Int × Int) × Bool)) × Bool × Int × Int × Int × Int × (List ((Int × Int) × (Int × Int))) × (List ((Int × Int) × (Int × Bool))))} {u14 : Value} {u13 : Value} {u12 : Value} {u11 : Value} {b1 : Bool} {b2 : Bool} {b4 : Int} {b5 : Int} {b3 : List (Int × Int)} {i19 : Int} {i20 : Int} {i21 : Int} {i22 : Int} {b23 : Bool} {i24 : Int} {b25 : Bool} {i26 : Int} {i27 : Int} {l28 : List ((Int × Int) × (Int × Int))} {l29 : List ((Int × Int) × (Int × Bool))} {l30 : List ((Int × Int) × Bool)} (h : ev_p_strike_best_from_j2 n l30 i26 i27 i19 i20 l28 l29 i24 b25 = some r) : TC Try.prog ⟨w0, M0, R0⟩ ⟨127, some l0, []⟩ (RoundQ ⟨w0, M0, R0⟩ (.inv 18 (recI l0 rec) :: [.pin 17 12 u14, .pin 16 11 u13, .pin 15 10 u12, .pin 14 9 u11, .inv 4 (mapI mk99 false en_bool r.2.1), .blk 12 [.val (.bool r.2.2.1)] 4, .blk 11 [.val (.int .i64 r.2.2.2.1), .val (.int .i64 r.2.2.2.2.1)] 105, .blk 10 [.val (.int .i64 r.2.2.2.2.2.1), .val (.int .i64 r.2.2.2.2.2.2.1)] 103, .blk 9 [.ptr 0 0] 96, .pin 6 2 (env0 2), .pin 7 3 (env0 3), .pin 8 4 (env0 4), .inv 2 (mapI mk97 true en_strike_cost r.2.2.2.2.2.2.2.1), .inv 3 (mapI mk98 true en_api_StrikeStep r.2.2.2.2.2.2.2.2), .rob 0 [.val (.bool b1), .val (.bool b2), .ref 1, .val (.int .i64 b4), .val (.int .i64 b5), .ref 2, .ref 3, .ref 4] 101, .ro 1 2 (List.map en_api_Span b3)]) [] r.1) [.code (sub (bodyOf Try.f55) [1, 1, 1, 1, 0, 1, 0, 1, 0, 1, 1, 1, 1, 1, 1, 1, 0, 0]), .code (sub (bodyOf Try.f55) [1, 1, 1, 1, 0, 1, 0, 1, 0, 1, 1, 1, 1, 1, 1, 1, 0, 1]), .inBlock 1] ([(2, .ptr 9 0), (3, .ptr 10 0), (4, .ptr 11 0), (5, .ptr 12 0), (6, .ptr 19 0), (10, .ptr 20 0)]) ([.blk 9 [.ptr 0 0] 96, .blk 10 [.val (.int .i64 i19), .val (.int .i64 i20)] 103, .blk 11 [.val (.int .i64 i21), .val (.int .i64 i22)] 105, .blk 12 [.val (.bool b23)] 4, .blk 19 [.val (.int .i64 i24), .val (.bool b25)] 73, .blk 20 [.val (.int .i64 i26), .val (.int .i64 i27)] 105, .rob 0 [.val (.bool b1), .val (.bool b2), .ref 1, .val (.int .i64 b4), .val (.int .i64 b5), .ref 2, .ref 3, .ref 4] 101, .ro 1 2 (List.map en_api_Span b3), .inv 2 (mapI mk97 true en_strike_cost l28), .inv 3 (mapI mk98 true en_api_StrikeStep l29), .inv 4 (mapI mk99 false en_bool l30), .inv 18 (recI l0 rec), .pin 17 12 u14, .pin 16 11 u13, .pin 15 10 u12, .pin 14 9 u11, .pin 6 2 (env0 2), .pin 7 3 (env0 3), .pin 8 4 (env0 4)]) := by
  rw [ev_p_strike_best_from_j2] at h
  refine TC.region ?_
  refine op1 5 rfl (sp_loadBA rfl isBlk rfl vt105 rfl rfl) rfl trivial rfl rfl ?_
  refine stoB 2 (cells' := [.val (.int .i64 i26), .val (.int .i64 i27)]) rfl rfl trivial rfl rfl rfl rfl vt105 rfl rfl rfl ?_
  refine stoB 3 (cells' := [.val (.bool true)]) rfl rfl trivial rfl rfl rfl rfl vt4 rfl rfl rfl ?_
  refine TL.nil ?_
  refine TC.stamp 8 21 22 (i19, i20) (.agg #[(.int .i64 0), (.int .i64 0)]) rfl rfl (fun u31 w32 v33 => ?_)
  refine TC.stamp 10 25 26 (i19, i20) (.agg #[(.int .i64 0), (.bool false)]) rfl rfl (fun u34 w35 v36 => ?_)
  refine drawJ 17 [⟨.ptr 0 0, [], [.blk 9 [.ptr 0 0] 96], []⟩, ⟨.ptr 0 0, [], [.rob 0 [.val (.bool b1), .val (.bool b2), .ref 1, .val (.int .i64 b4), .val (.int .i64 b5), .ref 2, .ref 3, .ref 4] 101], []⟩, ⟨.ptr 0 5, [], [.rob 0 [.val (.bool b1), .val (.bool b2), .ref 1, .val (.int .i64 b4), .val (.int .i64 b5), .ref 2, .ref 3, .ref 4] 101], []⟩, ⟨.ref 2, [], [.rob 0 [.val (.bool b1), .val (.bool b2), .ref 1, .val (.int .i64 b4), .val (.int .i64 b5), .ref 2, .ref 3, .ref 4] 101], []⟩, ⟨.agg [.val (.int .i64 i19), .val (.int .i64 i20)], [], [.blk 10 [.val (.int .i64 i19), .val (.int .i64 i20)] 103], []⟩, ⟨.ptr 0 0, [], [.blk 9 [.ptr 0 0] 96], []⟩, ⟨.ptr 0 0, [], [.rob 0 [.val (.bool b1), .val (.bool b2), .ref 1, .val (.int .i64 b4), .val (.int .i64 b5), .ref 2, .ref 3, .ref 4] 101], []⟩, ⟨.ptr 0 6, [], [.rob 0 [.val (.bool b1), .val (.bool b2), .ref 1, .val (.int .i64 b4), .val (.int .i64 b5), .ref 2, .ref 3, .ref 4] 101], []⟩, ⟨.ref 3, [], [.rob 0 [.val (.bool b1), .val (.bool b2), .ref 1, .val (.int .i64 b4), .val (.int .i64 b5), .ref 2, .ref 3, .ref 4] 101], []⟩, ⟨.agg [.val (.int .i64 i19), .val (.int .i64 i20)], [], [.blk 10 [.val (.int .i64 i19), .val (.int .i64 i20)] 103], []⟩, ⟨.agg [.val (.int .i64 i26), .val (.int .i64 i27)], [], [.blk 11 [.val (.int .i64 i26), .val (.int .i64 i27)] 105], []⟩, ⟨.agg [.val (.int .i64 i24), .val (.bool b25)], [], [.blk 19 [.val (.int .i64 i24), .val (.bool b25)] 73], []⟩, ⟨.tup [.val (w32), .val (.int .i64 (u31 : Int))], [.inv 27 ((mapV mk97 true en_strike_cost l28 (i19, i20) u31).at v33)], [.pin 22 2 v33], [.inv 21 ((mapU mk97 true en_strike_cost l28 (i19, i20) (.agg #[(.int .i64 0), (.int .i64 0)]) u31 w32).at v33)]⟩, ⟨.val (.int .i64 (u31 : Int)), [], [], []⟩, ⟨.val (undef), [.inv 28 ((mapI mk97 true en_strike_cost (mput l28 (i19, i20) (i26, i27))).at v33)], [.pin 22 2 v33], [.inv 27 ((mapV mk97 true en_strike_cost l28 (i19, i20) u31).at v33)]⟩, ⟨.tup [.val (w35), .val (.int .i64 (u34 : Int))], [.inv 29 ((mapV mk98 true en_api_StrikeStep l29 (i19, i20) u34).at v36)], [.pin 26 3 v36], [.inv 25 ((mapU mk98 true en_api_StrikeStep l29 (i19, i20) (.agg #[(.int .i64 0), (.bool false)]) u34 w35).at v36)]⟩, ⟨.val (.int .i64 (u34 : Int)), [], [], []⟩] rfl ?_ rfl ?_ rfl ?_ ?_
  · kernel_rfl
  · kernel_rfl
  · exact DAll.op' (sp_loadB rfl isBlk rfl vt96 rfl) trivial rfl (From.ok (ps := [(none, 2)]) ⟨⟨rfl, by kernel_rfl⟩, trivial⟩) (DAll.op' (sp_nilCheck rfl isRob rfl) trivial rfl (From.ok (ps := [(none, 8)]) ⟨⟨rfl, by kernel_rfl⟩, trivial⟩) (DAll.op' (sp_fieldAddrB rfl isRob rfl ft101_2 vt97 (by decide)) trivial rfl (From.ok (ps := [(none, 8)]) ⟨⟨rfl, by kernel_rfl⟩, trivial⟩) (DAll.op' (sp_loadB rfl isRob rfl vt97 rfl) trivial rfl (From.ok (ps := [(none, 8)]) ⟨⟨rfl, by kernel_rfl⟩, trivial⟩) (DAll.op' (sp_loadBA rfl isBlk rfl vt103 rfl rfl) trivial rfl (From.ok (ps := [(none, 3)]) ⟨⟨rfl, by kernel_rfl⟩, trivial⟩) (DAll.op' (sp_loadB rfl isBlk rfl vt96 rfl) trivial rfl (From.ok (ps := [(none, 2)]) ⟨⟨rfl, by kernel_rfl⟩, trivial⟩) (DAll.op' (sp_nilCheck rfl isRob rfl) trivial rfl (From.ok (ps := [(none, 8)]) ⟨⟨rfl, by kernel_rfl⟩, trivial⟩) (DAll.op' (sp_fieldAddrB rfl isRob rfl ft101_3 vt98 (by decide)) trivial rfl (From.ok (ps := [(none, 8)]) ⟨⟨rfl, by kernel_rfl⟩, trivial⟩) (DAll.op' (sp_loadB rfl isRob rfl vt98 rfl) trivial rfl (From.ok (ps := [(none, 8)]) ⟨⟨rfl, by kernel_rfl⟩, trivial⟩) (DAll.op' (sp_loadBA rfl isBlk rfl vt103 rfl rfl) trivial rfl (From.ok (ps := [(none, 3)]) ⟨⟨rfl, by kernel_rfl⟩, trivial⟩) (DAll.op' (sp_loadBA rfl isBlk rfl vt105 rfl rfl) trivial rfl (From.ok (ps := [(none, 4)]) ⟨⟨rfl, by kernel_rfl⟩, trivial⟩) (DAll.op' (sp_loadBA rfl isBlk rfl vt73 rfl rfl) trivial rfl (From.ok (ps := [(none, 6)]) ⟨⟨rfl, by kernel_rfl⟩, trivial⟩) (DAll.opT (ts_mapEntry (ek := mk97) (ag := true) (ev := en_strike_cost) (xs := l28) (k := (i19, i20)) (w := w32) 27 (0, 0) rfl rfl rfl (fun _ => rfl) km97 Try.zeroValue105 (fun W R => zok (ZL.v rfl (ZL.v rfl (ZL.nil))) rfl rfl W R) rfl) trivial (From.ok (ps := [(none, 10)]) ⟨⟨rfl, by kernel_rfl⟩, trivial⟩) (From.ok (ps := [(none, 1)]) ⟨⟨rfl, by kernel_rfl⟩, trivial⟩) (DAll.op' (sp_extract rfl rfl rfl) trivial rfl (From.ok (ps := []) trivial) (DAll.opT (ts_entryStore (ek := mk97) (ag := true) (ev := en_strike_cost) (xs := l28) (k := (i19, i20)) (need := []) 28 (i26, i27) rfl rfl rfl rfl rfl rfl (.v (.v (.nil))) (fun _ => .refl _) rfl) trivial (From.ok (ps := [(some 12, 0)]) ⟨⟨_, rfl, by kernel_rfl, rfl, by kernel_rfl⟩, trivial⟩) (From.ok (ps := [(none, 1)]) ⟨⟨rfl, by kernel_rfl⟩, trivial⟩) (DAll.opT (ts_mapEntry (ek := mk98) (ag := true) (ev := en_api_StrikeStep) (xs := l29) (k := (i19, i20)) (w := w35) 29 (0, false) rfl rfl rfl (fun _ => rfl) km98 Try.zeroValue73 (fun W R => zok (ZL.v rfl (ZL.v rfl (ZL.nil))) rfl rfl W R) rfl) trivial (From.ok (ps := [(none, 11)]) ⟨⟨rfl, by kernel_rfl⟩, trivial⟩) (From.ok (ps := [(none, 0)]) ⟨⟨rfl, by kernel_rfl⟩, trivial⟩) (DAll.op' (sp_extract rfl rfl rfl) trivial rfl (From.ok (ps := []) trivial) (.nil)))))))))))))))))
  refine TL.unstamp 1 3 rfl rfl rfl ?_
  refine opT (take := [.inv 29 ((mapV mk98 true en_api_StrikeStep l29 (i19, i20) u34).at v36)]) (need := [.pin 26 3 v36]) (V' := [.inv 30 ((mapI mk98 true en_api_StrikeStep (mput l29 (i19, i20) (i24, b25))).at v36), .inv 2 (mapI mk97 true en_strike_cost (mput l28 (i19, i20) (i26, i27))), .pin 26 3 v36, .pin 22 2 v33, .blk 9 [.ptr 0 0] 96, .blk 10 [.val (.int .i64 i19), .val (.int .i64 i20)] 103, .blk 11 [.val (.int .i64 i26), .val (.int .i64 i27)] 105, .blk 12 [.val (.bool true)] 4, .blk 19 [.val (.int .i64 i24), .val (.bool b25)] 73, .blk 20 [.val (.int .i64 i26), .val (.int .i64 i27)] 105, .rob 0 [.val (.bool b1), .val (.bool b2), .ref 1, .val (.int .i64 b4), .val (.int .i64 b5), .ref 2, .ref 3, .ref 4] 101, .ro 1 2 (List.map en_api_Span b3), .inv 4 (mapI mk99 false en_bool l30), .inv 18 (recI l0 rec), .pin 17 12 u14, .pin 16 11 u13, .pin 15 10 u12, .pin 14 9 u11, .pin 6 2 (env0 2), .pin 7 3 (env0 3), .pin 8 4 (env0 4)]) [0] [2] (ts_entryStore (ek := mk98) (ag := true) (ev := en_api_StrikeStep) (xs := l29) (k := (i19, i20)) (need := []) 30 (i24, b25) rfl rfl rfl rfl rfl rfl (.v (.v (.nil))) (fun _ => .refl _) rfl) trivial rfl ⟨rfl, trivial⟩ ⟨rfl, trivial⟩ rfl rfl ?_
  refine TL.unstamp 0 2 rfl rfl rfl ?_
  refine TL.nil ?_
  refine TC.inBlock ?_
  cases h
  exact bodyEnd [] ⟨mem_at 13 rfl, mem_at 14 rfl, mem_at 15 rfl, mem_at 16 rfl, mem_at 17 rfl, mem_at 12 rfl, mem_at 7 rfl, mem_at 6 rfl, mem_at 5 rfl, mem_at 4 rfl, mem_at 18 rfl, mem_at 19 rfl, mem_at 20 rfl, mem_at 1 rfl, mem_at 0 rfl, mem_at 10 rfl, mem_at 11 rfl, trivial⟩ rfl
def ev_p_strike_best_from_j1 (n : Nat) (i19 : Int) (i20 : Int) (i21 : Int) (i22 : Int) (b23 : Bool) (i24 : Int) (b25 : Bool) (i26 : Int) (i27 : Int) (l28 : List ((Int × Int) × (Int × Int))) (l29 : List ((Int × Int) × (Int × Bool))) (l30 : List ((Int × Int) × Bool)) : Option (Nat × ((List ((Int × Int) × Bool)) × Bool × Int × Int × Int × Int × (List ((Int × Int) × (Int × Int))) × (List ((Int × Int) × (Int × Bool))))) :=
  cond (!b23) (ev_p_strike_best_from_j2 n l30 i26 i27 i19 i20 l28 l29 i24 b25) ((ev_strike_cost_compare n i26 i27 i21 i22).bind fun r37 => cond (decide (r37 < 0)) (ev_p_strike_best_from_j2 n l30 i26 i27 i19 i20 l28 l29 i24 b25) (some (0, (l30, b23, i21, i22, i19, i20, l28, l29))))
set_option maxRecDepth 100000 in
set_option maxHeartbeats 2000000 in
theorem ok_p_strike_best_from_j1 {n : Nat} {env0 : Env} {w0 : World} {M0 R0 : Nat → Prop} {l0 : Nat} {rec : Loop} {r : Nat × ((List ((Int × Int) × Bool)) × Bool × Int × Int × Int × Int × (List ((Int × Int) × (Int × Int))) × (List ((Int × Int) × (Int × Bool))))} {u14 : Value} {u13 : Value} {u12 : Value} {u11 : Value} {b1 : Bool} {b2 : Bool} {b4 : Int} {b5 : Int} {b3 : List (Int × Int)} {i19 : Int} {i20 : Int} {i21 : Int} {i22 : Int} {b23 : Bool} {i24 : Int} {b25 : Bool} {i26 : Int} {i27 : Int} {l28 : List ((Int × Int) × (Int × Int))} {l29 : List ((Int × Int) × (Int × Bool))} {l30 : List ((Int × Int) × Bool)} (h : ev_p_strike_best_from_j1 n i19 i20 i21 i22 b23 i24 b25 i26 i27 l28 l29 l30 = some r) : TC Try.prog ⟨w0, M0, R0⟩ ⟨127, some l0, []⟩ (RoundQ ⟨w0, M0, R0⟩ (.inv 18 (recI l0 rec) :: [.pin 17 12 u14, .pin 16 11 u13, .pin 15 10 u12, .pin 14 9 u11, .inv 4 (mapI mk99 false en_bool r.2.1), .blk 12 [.val (.bool r.2.2.1)] 4, .blk 11 [.val (.int .i64 r.2.2.2.1), .val (.int .i64 r.2.2.2.2.1)] 105, .blk 10 [.val (.int .i64 r.2.2.2.2.2.1), .val (.int .i64 r.2.2.2.2.2.2.1)] 103, .blk 9 [.ptr 0 0] 96, .pin 6 2 (env0 2), .pin 7 3 (env0 3), .pin 8 4 (env0 4), .inv 2 (mapI mk97 true en_strike_cost r.2.2.2.2.2.2.2.1), .inv 3 (mapI mk98 true en_api_StrikeStep r.2.2.2.2.2.2.2.2), .rob 0 [.val (.bool b1), .val (.bool b2), .ref 1, .val (.int .i64 b4), .val (.int .i64 b5), .ref 2, .ref 3, .ref 4] 101, .ro 1 2 (List.map en_api_Span b3)]) [] r.1) [.code (sub (bodyOf Try.f55) [1, 1, 1, 1, 0, 1, 0, 1, 0, 1, 1, 1, 1, 1, 1, 0]), .code (sub (bodyOf Try.f55) [1, 1, 1, 1, 0, 1, 0, 1, 0, 1, 1, 1, 1, 1, 1, 1]), .inBlock 1] ([(2, .ptr 9 0), (3, .ptr 10 0), (4, .ptr 11 0), (5, .ptr 12 0), (6, .ptr 19 0), (10, .ptr 20 0)]) ([.blk 9 [.ptr 0 0] 96, .blk 10 [.val (.int .i64 i19), .val (.int .i64 i20)] 103, .blk 11 [.val (.int .i64 i21), .val (.int .i64 i22)] 105, .blk 12 [.val (.bool b23)] 4, .blk 19 [.val (.int .i64 i24), .val (.bool b25)] 73, .blk 20 [.val (.int .i64 i26), .val (.int .i64 i27)] 105, .rob 0 [.val (.bool b1), .val (.bool b2), .ref 1, .val (.int .i64 b4), .val (.int .i64 b5), .ref 2, .ref 3, .ref 4] 101, .ro 1 2 (List.map en_api_Span b3), .inv 2 (mapI mk97 true en_strike_cost l28), .inv 3 (mapI mk98 true en_api_StrikeStep l29), .inv 4 (mapI mk99 false en_bool l30), .inv 18 (recI l0 rec), .pin 17 12 u14, .pin 16 11 u13, .pin 15 10 u12, .pin 14 9 u11, .pin 6 2 (env0 2), .pin 7 3 (env0 3), .pin 8 4 (env0 4)]) := by
  rw [ev_p_strike_best_from_j1] at h
  refine TC.region ?_
  refine op1 3 rfl (sp_loadB rfl isBlk rfl vt4 rfl) rfl trivial rfl rfl ?_
  refine op0 (sp_not rfl rfl) rfl trivial rfl rfl ?_
  refine op0 (sp_move rfl rfl) rfl trivial rfl rfl ?_
  rcases cond_cases h with ⟨h12, h⟩ | ⟨h12, h⟩
  · refine (boolLit 102 rfl h12).2 ?_
    refine opSkip rfl ⟨_, rfl, .inl rfl⟩ rfl ?_
    refine opSkip rfl ⟨_, rfl, .inl rfl⟩ rfl ?_
    refine opSkip rfl ⟨_, rfl, .inl rfl⟩ rfl ?_
    refine opSkip rfl ⟨_, rfl, .inl rfl⟩ rfl ?_
    refine op0 (sp_pickT rfl rfl rfl) rfl trivial rfl rfl ?_
    refine TL.nil ?_
    refine TC.condT rfl ?_
    refine TC.seq ?_
    refine subJ [] (ok_p_strike_best_from_j2 (u14 := u14) (u13 := u13) (u12 := u12) (u11 := u11) (b1 := b1) (b2 := b2) (b4 := b4) (b5 := b5) (b3 := b3) (i21 := i21) (i22 := i22) (b23 := b23) h) ?_ ?_ ?_
    · exact ⟨rfl, rfl, rfl, rfl, rfl, rfl, trivial⟩
    · exact ⟨mem_at 0 rfl, mem_at 1 rfl, mem_at 2 rfl, mem_at 3 rfl, mem_at 4 rfl, mem_at 5 rfl, mem_at 6 rfl, mem_at 7 rfl, mem_at 8 rfl, mem_at 9 rfl, mem_at 10 rfl, mem_at 11 rfl, mem_at 12 rfl, mem_at 13 rfl, mem_at 14 rfl, mem_at 15 rfl, mem_at 16 rfl, mem_at 17 rfl, mem_at 18 rfl, trivial⟩
    · rfl
  · refine (boolLit 102 rfl h12).2 ?_
    refine op1 5 rfl (sp_loadBA rfl isBlk rfl vt105 rfl rfl) rfl ⟨_, rfl, rfl⟩ rfl rfl ?_
    refine op1 2 rfl (sp_loadBA rfl isBlk rfl vt105 rfl rfl) rfl ⟨_, rfl, rfl⟩ rfl rfl ?_
    obtain ⟨r37, h13, h⟩ := bind_inv h
    refine op0 (sp_call (avs := [.agg [.val (.int .i64 i26), .val (.int .i64 i27)], .agg [.val (.int .i64 i21), .val (.int .i64 i22)]]) (need := []) (v := .val (.int .i64 r37)) (news := []) rfl rfl rfl Try.call67 (atJ [] [] (fc_strike_cost_compare h13) rfl rfl) (.inl (roAll rfl))) rfl ⟨_, rfl, rfl⟩ rfl rfl ?_
    refine op0 (sp_lss rfl rfl rfl) rfl ⟨_, rfl, rfl⟩ rfl rfl ?_
    refine op0 (sp_pickF rfl rfl rfl) rfl trivial rfl rfl ?_
    refine TL.nil ?_
    refine TC.cond (b := (decide (r37 < 0))) rfl (fun h14 => ?_) (fun h14 => ?_)
    · have h := cond_t h h14
      refine TC.seq ?_
      refine subJ [] (ok_p_strike_best_from_j2 (u14 := u14) (u13 := u13) (u12 := u12) (u11 := u11) (b1 := b1) (b2 := b2) (b4 := b4) (b5 := b5) (b3 := b3) (i21 := i21) (i22 := i22) (b23 := b23) h) ?_ ?_ ?_
      · exact ⟨rfl, rfl, rfl, rfl, rfl, rfl, trivial⟩
      · exact ⟨mem_at 0 rfl, mem_at 1 rfl, mem_at 2 rfl, mem_at 3 rfl, mem_at 4 rfl, mem_at 5 rfl, mem_at 6 rfl, mem_at 7 rfl, mem_at 8 rfl, mem_at 9 rfl, mem_at 10 rfl, mem_at 11 rfl, mem_at 12 rfl, mem_at 13 rfl, mem_at 14 rfl, mem_at 15 rfl, mem_at 16 rfl, mem_at 17 rfl, mem_at 18 rfl, trivial⟩
      · rfl
    · have h := cond_f h h14
      refine TC.skip ?_
      refine TC.inBlock ?_
      cases h
      exact bodyEnd [] ⟨mem_at 11 rfl, mem_at 12 rfl, mem_at 13 rfl, mem_at 14 rfl, mem_at 15 rfl, mem_at 10 rfl, mem_at 3 rfl, mem_at 2 rfl, mem_at 1 rfl, mem_at 0 rfl, mem_at 16 rfl, mem_at 17 rfl, mem_at 18 rfl, mem_at 8 rfl, mem_at 9 rfl, mem_at 6 rfl, mem_at 7 rfl, trivial⟩ rfl
def ev_p_strike_best_from_r0 (n : Nat) (b1 : Bool) (b2 : Bool) (b3 : List (Int × Int)) (b4 : Int) (b5 : Int) (self : Bool → Bool → (List (Int × Int)) → Int → Int → (List ((Int × Int) × (Int × Int))) → (List ((Int × Int) × (Int × Bool))) → (List ((Int × Int) × Bool)) → Int → Int → Option (Int × Int × Bool × (List ((Int × Int) × (Int × Int))) × (List ((Int × Int) × (Int × Bool))) × (List ((Int × Int) × Bool)))) (x15 : Int × Bool) (y16 : (List ((Int × Int) × Bool)) × Bool × Int × Int × Int × Int × (List ((Int × Int) × (Int × Int))) × (List ((Int × Int) × (Int × Bool)))) : Option (Nat × ((List ((Int × Int) × Bool)) × Bool × Int × Int × Int × Int × (List ((Int × Int) × (Int × Int))) × (List ((Int × Int) × (Int × Bool))))) :=
  (ev_strike_train_step n b1 b2 b3 b4 y16.2.2.2.2.1 y16.2.2.2.2.2.1 x15.1 x15.2).bind fun r17 => cond (r17.2.2 != 0) (some (0, (y16.1, y16.2.1, y16.2.2.1, y16.2.2.2.1, y16.2.2.2.2.1, y16.2.2.2.2.2.1, y16.2.2.2.2.2.2.1, y16.2.2.2.2.2.2.2))) (chk (in64 (y16.2.2.2.2.1 + 1)) <| (self b1 b2 b3 b4 b5 y16.2.2.2.2.2.2.1 y16.2.2.2.2.2.2.2 y16.1 (y16.2.2.2.2.1 + 1) r17.1).bind fun r18 => cond (!r18.2.2.1) (some (0, (r18.2.2.2.2.2, y16.2.1, y16.2.2.1, y16.2.2.2.1, y16.2.2.2.2.1, y16.2.2.2.2.2.1, r18.2.2.2.1, r18.2.2.2.2.1))) (chk (in64 (r18.1 + r17.2.1)) <| cond x15.2 (chk (in64 (r18.2.1 + 1)) <| ev_p_strike_best_from_j1 n y16.2.2.2.2.1 y16.2.2.2.2.2.1 y16.2.2.1 y16.2.2.2.1 y16.2.1 x15.1 x15.2 (r18.1 + r17.2.1) (r18.2.1 + 1) r18.2.2.2.1 r18.2.2.2.2.1 r18.2.2.2.2.2) (ev_p_strike_best_from_j1 n y16.2.2.2.2.1 y16.2.2.2.2.2.1 y16.2.2.1 y16.2.2.2.1 y16.2.1 x15.1 x15.2 (r18.1 + r17.2.1) r18.2.1 r18.2.2.2.1 r18.2.2.2.2.1 r18.2.2.2.2.2)))
set_option maxRecDepth 100000 in
set_option maxHeartbeats 2000000 in
theorem ok_p_strike_best_from_r0 {n : Nat} {env0 : Env} {u14 : Value} {u13 : Value} {u12 : Value} {u11 : Value} {b1 : Bool} {b2 : Bool} {b4 : Int} {b5 : Int} {b3 : List (Int × Int)} {self : Bool → Bool → (List (Int × Int)) → Int → Int → (List ((Int × Int) × (Int × Int))) → (List ((Int × Int) × (Int × Bool))) → (List ((Int × Int) × Bool)) → Int → Int → Option (Int × Int × Bool × (List ((Int × Int) × (Int × Int))) × (List ((Int × Int) × (Int × Bool))) × (List ((Int × Int) × Bool)))} (hself : ∀ (b1z : Bool) (b2z : Bool) (b3z : List (Int × Int)) (b4z : Int) (b5z : Int) (b6z : List ((Int × Int) × (Int × Int))) (b7z : List ((Int × Int) × (Int × Bool))) (b8z : List ((Int × Int) × Bool)) (p9z : Int) (p10z : Int) (r : Int × Int × Bool × (List ((Int × Int) × (Int × Int))) × (List ((Int × Int) × (Int × Bool))) × (List ((Int × Int) × Bool))), self b1z b2z b3z b4z b5z b6z b7z b8z p9z p10z = some r → FT Try.prog 55 [.ptr 0 0, .agg [.val (.int .i64 p9z), .val (.int .i64 p10z)]] [.inv 2 (mapI mk97 true en_strike_cost b6z), .inv 3 (mapI mk98 true en_api_StrikeStep b7z), .inv 4 (mapI mk99 false en_bool b8z)] [.rob 0 [.val (.bool b1z), .val (.bool b2z), .ref 1, .val (.int .i64 b4z), .val (.int .i64 b5z), .ref 2, .ref 3, .ref 4] 101, .ro 1 2 (List.map en_api_Span b3z)] (.tup [.agg [.val (.int .i64 r.1), .val (.int .i64 r.2.1)], .val (.bool r.2.2.1)]) [.inv 2 (mapI mk97 true en_strike_cost r.2.2.2.1), .inv 3 (mapI mk98 true en_api_StrikeStep r.2.2.2.2.1), .inv 4 (mapI mk99 false en_bool r.2.2.2.2.2)]) {x15 : Int × Bool} {y16 : (List ((Int × Int) × Bool)) × Bool × Int × Int × Int × Int × (List ((Int × Int) × (Int × Int))) × (List ((Int × Int) × (Int × Bool)))} {r : Nat × ((List ((Int × Int) × Bool)) × Bool × Int × Int × Int × Int × (List ((Int × Int) × (Int × Int))) × (List ((Int × Int) × (Int × Bool))))} (h : ev_p_strike_best_from_r0 n b1 b2 b3 b4 b5 self x15 y16 = some r) (l0 : Nat) (rec : Loop) (hrd : rec.state = .ready) (w0 : World) (M0 R0 : Nat → Prop) : TC Try.prog ⟨w0, M0, R0⟩ ⟨127, some l0, []⟩ (RoundQ ⟨w0, M0, R0⟩ (.inv 18 (recI l0 (busyR rec)) :: [.pin 17 12 u14, .pin 16 11 u13, .pin 15 10 u12, .pin 14 9 u11, .inv 4 (mapI mk99 false en_bool r.2.1), .blk 12 [.val (.bool r.2.2.1)] 4, .blk 11 [.val (.int .i64 r.2.2.2.1), .val (.int .i64 r.2.2.2.2.1)] 105, .blk 10 [.val (.int .i64 r.2.2.2.2.2.1), .val (.int .i64 r.2.2.2.2.2.2.1)] 103, .blk 9 [.ptr 0 0] 96, .pin 6 2 (env0 2), .pin 7 3 (env0 3), .pin 8 4 (env0 4), .inv 2 (mapI mk97 true en_strike_cost r.2.2.2.2.2.2.2.1), .inv 3 (mapI mk98 true en_api_StrikeStep r.2.2.2.2.2.2.2.2), .rob 0 [.val (.bool b1), .val (.bool b2), .ref 1, .val (.int .i64 b4), .val (.int .i64 b5), .ref 2, .ref 3, .ref 4] 101, .ro 1 2 (List.map en_api_Span b3)]) [] r.1) [.code (sub (bodyOf Try.f55) [1, 1, 1, 1, 0, 1, 0, 0]), .beginRound, .code (sub (bodyOf Try.f55) [1, 1, 1, 1, 0, 1, 0, 1])] (pSlots [60] (ye_funcapi_StrikeStep_bool x15) [(2, .ptr 9 0), (3, .ptr 10 0), (4, .ptr 11 0), (5, .ptr 12 0)]) (.inv 18 (recI l0 rec) :: yn_funcapi_StrikeStep_bool x15 ++ (fun y16 : (List ((Int × Int) × Bool)) × Bool × Int × Int × Int × Int × (List ((Int × Int) × (Int × Int))) × (List ((Int × Int) × (Int × Bool))) => [.pin 17 12 u14, .pin 16 11 u13, .pin 15 10 u12, .pin 14 9 u11, .inv 4 (mapI mk99 false en_bool y16.1), .blk 12 [.val (.bool y16.2.1)] 4, .blk 11 [.val (.int .i64 y16.2.2.1), .val (.int .i64 y16.2.2.2.1)] 105, .blk 10 [.val (.int .i64 y16.2.2.2.2.1), .val (.int .i64 y16.2.2.2.2.2.1)] 103, .blk 9 [.ptr 0 0] 96, .pin 6 2 (env0 2), .pin 7 3 (env0 3), .pin 8 4 (env0 4), .inv 2 (mapI mk97 true en_strike_cost y16.2.2.2.2.2.2.1), .inv 3 (mapI mk98 true en_api_StrikeStep y16.2.2.2.2.2.2.2), .rob 0 [.val (.bool b1), .val (.bool b2), .ref 1, .val (.int .i64 b4), .val (.int .i64 b5), .ref 2, .ref 3, .ref 4] 101, .ro 1 2 (List.map en_api_Span b3)]) y16) := by
  rw [ev_p_strike_best_from_r0] at h
  refine subJ (s' := [(2, .ptr 9 0), (3, .ptr 10 0), (4, .ptr 11 0), (5, .ptr 12 0), (60, .agg [.val (.int .i64 x15.1), .val (.bool x15.2)])]) (V' := [.inv 18 (recI l0 rec), .pin 17 12 u14, .pin 16 11 u13, .pin 15 10 u12, .pin 14 9 u11, .inv 4 (mapI mk99 false en_bool y16.1), .blk 12 [.val (.bool y16.2.1)] 4, .blk 11 [.val (.int .i64 y16.2.2.1), .val (.int .i64 y16.2.2.2.1)] 105, .blk 10 [.val (.int .i64 y16.2.2.2.2.1), .val (.int .i64 y16.2.2.2.2.2.1)] 103, .blk 9 [.ptr 0 0] 96, .pin 6 2 (env0 2), .pin 7 3 (env0 3), .pin 8 4 (env0 4), .inv 2 (mapI mk97 true en_strike_cost y16.2.2.2.2.2.2.1), .inv 3 (mapI mk98 true en_api_StrikeStep y16.2.2.2.2.2.2.2), .rob 0 [.val (.bool b1), .val (.bool b2), .ref 1, .val (.int .i64 b4), .val (.int .i64 b5), .ref 2, .ref 3, .ref 4] 101, .ro 1 2 (List.map en_api_Span b3)]) [] ?_ ⟨rfl, rfl, rfl, rfl, rfl, trivial⟩ ⟨mem_at 0 rfl, mem_at 1 rfl, mem_at 2 rfl, mem_at 3 rfl, mem_at 4 rfl, mem_at 5 rfl, mem_at 6 rfl, mem_at 7 rfl, mem_at 8 rfl, mem_at 9 rfl, mem_at 10 rfl, mem_at 11 rfl, mem_at 12 rfl, mem_at 13 rfl, mem_at 14 rfl, mem_at 15 rfl, mem_at 16 rfl, trivial⟩ rfl
  refine TC.region ?_
  refine op0 (sp_alloc 19 rfl Try.zeroValue73 rfl) rfl trivial rfl rfl ?_
  refine stoB 0 (cells' := [.val (.int .i64 x15.1), .val (.bool x15.2)]) rfl rfl trivial rfl rfl rfl rfl vt73 rfl rfl rfl ?_
  refine TL.nil ?_
  refine TC.beginRound 1 rfl hrd ?_
  refine TC.block ?_
  refine TC.seq ?_
  obtain ⟨r17, h4, h⟩ := bind_inv h
  refine drawJ 16 [⟨.ptr 0 0, [], [.blk 9 [.ptr 0 0] 96], []⟩, ⟨.ptr 0 0, [], [.rob 0 [.val (.bool b1), .val (.bool b2), .ref 1, .val (.int .i64 b4), .val (.int .i64 b5), .ref 2, .ref 3, .ref 4] 101], []⟩, ⟨.ptr 0 0, [], [.rob 0 [.val (.bool b1), .val (.bool b2), .ref 1, .val (.int .i64 b4), .val (.int .i64 b5), .ref 2, .ref 3, .ref 4] 101], []⟩, ⟨.agg [.val (.bool b1), .val (.bool b2), .ref 1, .val (.int .i64 b4)], [], [.rob 0 [.val (.bool b1), .val (.bool b2), .ref 1, .val (.int .i64 b4), .val (.int .i64 b5), .ref 2, .ref 3, .ref 4] 101], []⟩, ⟨.ptr 10 0, [], [.blk 10 [.val (.int .i64 y16.2.2.2.2.1), .val (.int .i64 y16.2.2.2.2.2.1)] 103], []⟩, ⟨.val (.int .i64 y16.2.2.2.2.1), [], [.blk 10 [.val (.int .i64 y16.2.2.2.2.1), .val (.int .i64 y16.2.2.2.2.2.1)] 103], []⟩, ⟨.ptr 10 1, [], [.blk 10 [.val (.int .i64 y16.2.2.2.2.1), .val (.int .i64 y16.2.2.2.2.2.1)] 103], []⟩, ⟨.val (.int .i64 y16.2.2.2.2.2.1), [], [.blk 10 [.val (.int .i64 y16.2.2.2.2.1), .val (.int .i64 y16.2.2.2.2.2.1)] 103], []⟩, ⟨.agg [.val (.int .i64 x15.1), .val (.bool x15.2)], [], [.blk 19 [.val (.int .i64 x15.1), .val (.bool x15.2)] 73], []⟩, ⟨.tup [.val (.int .i64 r17.1), .val (.int .i64 r17.2.1), .val (.int .i64 r17.2.2)], [], [.ro 1 2 (List.map en_api_Span b3)], []⟩, ⟨.tup [.val (.int .i64 r17.1), .val (.int .i64 r17.2.1), .val (.int .i64 r17.2.2)], [], [], []⟩, ⟨.val (.int .i64 r17.1), [], [], []⟩, ⟨.val (.int .i64 r17.2.1), [], [], []⟩, ⟨.val (.int .i64 r17.2.2), [], [], []⟩, ⟨.val (.int .i64 r17.1), [], [], []⟩, ⟨.val (.int .i64 r17.2.1), [], [], []⟩] rfl ?_ rfl ?_ rfl ?_ ?_
  · kernel_rfl
  · kernel_rfl
  · exact DAll.op' (sp_loadB rfl isBlk rfl vt96 rfl) trivial rfl (From.ok (ps := [(none, 10)]) ⟨⟨rfl, rfl⟩, trivial⟩) (DAll.op' (sp_nilCheck rfl isRob rfl) trivial rfl (From.ok (ps := [(none, 16)]) ⟨⟨rfl, rfl⟩, trivial⟩) (DAll.op' (sp_fieldAddrB rfl isRob rfl ft101_0 vt84 (by decide)) trivial rfl (From.ok (ps := [(none, 16)]) ⟨⟨rfl, rfl⟩, trivial⟩) (DAll.op' (sp_loadBA rfl isRob rfl vt84 rfl rfl) trivial rfl (From.ok (ps := [(none, 16)]) ⟨⟨rfl, rfl⟩, trivial⟩) (DAll.op' (sp_fieldAddrB rfl isBlk rfl ft103_0 vt3 (by decide)) trivial rfl (From.ok (ps := [(none, 9)]) ⟨⟨rfl, rfl⟩, trivial⟩) (DAll.op' (sp_loadB rfl isBlk rfl vt3 rfl) trivial rfl (From.ok (ps := [(none, 9)]) ⟨⟨rfl, rfl⟩, trivial⟩) (DAll.op' (sp_fieldAddrB rfl isBlk rfl ft103_1 vt3 (by decide)) trivial rfl (From.ok (ps := [(none, 9)]) ⟨⟨rfl, rfl⟩, trivial⟩) (DAll.op' (sp_loadB rfl isBlk rfl vt3 rfl) trivial rfl (From.ok (ps := [(none, 9)]) ⟨⟨rfl, rfl⟩, trivial⟩) (DAll.op' (sp_loadBA rfl isBlk rfl vt73 rfl rfl) trivial rfl (From.ok (ps := [(none, 0)]) ⟨⟨rfl, rfl⟩, trivial⟩) (DAll.op' (sp_call (avs := [.agg [.val (.bool b1), .val (.bool b2), .ref 1, .val (.int .i64 b4)], .val (.int .i64 y16.2.2.2.2.1), .val (.int .i64 y16.2.2.2.2.2.1), .agg [.val (.int .i64 x15.1), .val (.bool x15.2)]]) (need := [.ro 1 2 (List.map en_api_Span b3)]) (v := .tup [.val (.int .i64 r17.1), .val (.int .i64 r17.2.1), .val (.int .i64 r17.2.2)]) (news := []) rfl rfl rfl Try.call53 (atJ [(0, 1)] [] (fc_strike_train_step h4) rfl rfl) (.inl (roAll rfl))) trivial rfl (From.ok (ps := [(none, 17)]) ⟨⟨rfl, rfl⟩, trivial⟩) (DAll.op' (sp_move rfl rfl) trivial rfl (From.ok (ps := []) trivial) (DAll.op' (sp_extract rfl rfl rfl) trivial rfl (From.ok (ps := []) trivial) (DAll.op' (sp_extract rfl rfl rfl) trivial rfl (From.ok (ps := []) trivial) (DAll.op' (sp_extract rfl rfl rfl) trivial rfl (From.ok (ps := []) trivial) (DAll.op' (sp_assign rfl rfl) trivial rfl (From.ok (ps := []) trivial) (DAll.op' (sp_assign rfl rfl) trivial rfl (From.ok (ps := []) trivial) (.nil))))))))))))))))
  refine op0 (sp_assign rfl rfl) rfl trivial rfl rfl ?_
  refine TL.nil ?_
  refine TC.seq ?_
  refine TC.seq ?_
  refine TC.region ?_
  refine op0 (sp_move rfl rfl) rfl trivial rfl rfl ?_
  refine op0 (sp_neq rfl rfl rfl) rfl trivial rfl rfl ?_
  refine TL.nil ?_
  refine TC.cond (b := (r17.2.2 != 0)) rfl (fun h5 => ?_) (fun h5 => ?_)
  · have h := cond_t h h5
    refine TC.exit rfl ?_
    cases h
    exact bodyEnd [] ⟨mem_at 1 rfl, mem_at 2 rfl, mem_at 3 rfl, mem_at 4 rfl, mem_at 5 rfl, mem_at 6 rfl, mem_at 7 rfl, mem_at 8 rfl, mem_at 9 rfl, mem_at 10 rfl, mem_at 11 rfl, mem_at 12 rfl, mem_at 13 rfl, mem_at 14 rfl, mem_at 15 rfl, mem_at 16 rfl, mem_at 17 rfl, trivial⟩ rfl
  · have h := cond_f h h5
    refine TC.skip ?_
    refine TC.seq ?_
    refine TC.region ?_
    refine op1 10 rfl (sp_loadB rfl isBlk rfl vt96 rfl) rfl trivial rfl rfl ?_
    refine op1 9 rfl (sp_fieldAddrB rfl isBlk rfl ft103_0 vt3 (by decide)) rfl trivial rfl rfl ?_
    refine op1 9 rfl (sp_loadB rfl isBlk rfl vt3 rfl) rfl trivial rfl rfl ?_
    obtain ⟨h6, h⟩ := chk_inv h
    refine op0 (sp_add rfl rfl rfl h6) rfl trivial rfl rfl ?_
    refine op0 (sp_move rfl rfl) rfl trivial rfl rfl ?_
    refine op0 (sp_build (qs := [(0, .val (.int .i64 (y16.2.2.2.2.1 + 1))), (1, .val (.int .i64 r17.1))]) rfl bt103 rfl rfl rfl rfl) rfl trivial rfl rfl ?_
    obtain ⟨r18, h7, h⟩ := bind_inv h
    refine opT (take := [.inv 2 (mapI mk97 true en_strike_cost y16.2.2.2.2.2.2.1), .inv 3 (mapI mk98 true en_api_StrikeStep y16.2.2.2.2.2.2.2), .inv 4 (mapI mk99 false en_bool y16.1)]) (need := [.rob 0 [.val (.bool b1), .val (.bool b2), .ref 1, .val (.int .i64 b4), .val (.int .i64 b5), .ref 2, .ref 3, .ref 4] 101, .ro 1 2 (List.map en_api_Span b3)]) (V' := [.inv 2 (mapI mk97 true en_strike_cost r18.2.2.2.1), .inv 3 (mapI mk98 true en_api_StrikeStep r18.2.2.2.2.1), .inv 4 (mapI mk99 false en_bool r18.2.2.2.2.2), .blk 19 [.val (.int .i64 x15.1), .val (.bool x15.2)] 73, .inv 18 (recI l0 (busyR rec)), .pin 17 12 u14, .pin 16 11 u13, .pin 15 10 u12, .pin 14 9 u11, .blk 12 [.val (.bool y16.2.1)] 4, .blk 11 [.val (.int .i64 y16.2.2.1), .val (.int .i64 y16.2.2.2.1)] 105, .blk 10 [.val (.int .i64 y16.2.2.2.2.1), .val (.int .i64 y16.2.2.2.2.2.1)] 103, .blk 9 [.ptr 0 0] 96, .pin 6 2 (env0 2), .pin 7 3 (env0 3), .pin 8 4 (env0 4), .rob 0 [.val (.bool b1), .val (.bool b2), .ref 1, .val (.int .i64 b4), .val (.int .i64 b5), .ref 2, .ref 3, .ref 4] 101, .ro 1 2 (List.map en_api_Span b3)]) [14, 15, 6] [16, 17] (ts_call (avs := [.ptr 0 0, .agg [.val (.int .i64 (y16.2.2.2.2.1 + 1)), .val (.int .i64 r17.1)]]) (take := [.inv 2 (mapI mk97 true en_strike_cost y16.2.2.2.2.2.2.1), .inv 3 (mapI mk98 true en_api_StrikeStep y16.2.2.2.2.2.2.2), .inv 4 (mapI mk99 false en_bool y16.1)]) (need := [.rob 0 [.val (.bool b1), .val (.bool b2), .ref 1, .val (.int .i64 b4), .val (.int .i64 b5), .ref 2, .ref 3, .ref 4] 101, .ro 1 2 (List.map en_api_Span b3)]) (v := .tup [.agg [.val (.int .i64 r18.1), .val (.int .i64 r18.2.1)], .val (.bool r18.2.2.1)]) (news := [.inv 2 (mapI mk97 true en_strike_cost r18.2.2.2.1), .inv 3 (mapI mk98 true en_api_StrikeStep r18.2.2.2.2.1), .inv 4 (mapI mk99 false en_bool r18.2.2.2.2.2)]) rfl rfl rfl Try.call55 (atT [] [] (hself _ _ _ _ _ _ _ _ _ _ _ h7) rfl rfl rfl) rfl rfl) trivial rfl ⟨rfl, rfl, rfl, trivial⟩ ⟨rfl, rfl, trivial⟩ rfl rfl ?_
    refine op0 (sp_move rfl rfl) rfl trivial rfl rfl ?_
    refine op0 (sp_extract rfl rfl rfl) rfl trivial rfl rfl ?_
    refine op0 (sp_extract rfl rfl rfl) rfl trivial rfl rfl ?_
    refine op0 (sp_alloc 20 rfl Try.zeroValue105 rfl) rfl trivial rfl rfl ?_
    refine stoB 0 (cells' := [.val (.int .i64 r18.1), .val (.int .i64 r18.2.1)]) rfl rfl trivial rfl rfl rfl rfl vt105 rfl rfl rfl ?_
    refine op0 (sp_assign rfl rfl) rfl trivial rfl rfl ?_
    refine TL.nil ?_
    refine TC.seq ?_
    refine TC.seq ?_
    refine TC.region ?_
    refine op0 (sp_move rfl rfl) rfl trivial rfl rfl ?_
    refine op0 (sp_not rfl rfl) rfl trivial rfl rfl ?_
    refine TL.nil ?_
    refine TC.cond (b := (!r18.2.2.1)) rfl (fun h8 => ?_) (fun h8 => ?_)
    · have h := cond_t h h8
      refine TC.exit rfl ?_
      cases h
      exact bodyEnd [] ⟨mem_at 5 rfl, mem_at 6 rfl, mem_at 7 rfl, mem_at 8 rfl, mem_at 9 rfl, mem_at 3 rfl, mem_at 10 rfl, mem_at 11 rfl, mem_at 12 rfl, mem_at 13 rfl, mem_at 14 rfl, mem_at 15 rfl, mem_at 16 rfl, mem_at 1 rfl, mem_at 2 rfl, mem_at 17 rfl, mem_at 18 rfl, trivial⟩ rfl
    · have h := cond_f h h8
      refine TC.skip ?_
      refine TC.seq ?_
      refine TC.region ?_
      refine op1 0 rfl (sp_fieldAddrB rfl isBlk rfl ft105_0 vt3 (by decide)) rfl trivial rfl rfl ?_
      refine op1 0 rfl (sp_loadB rfl isBlk rfl vt3 rfl) rfl trivial rfl rfl ?_
      refine op0 (sp_move rfl rfl) rfl trivial rfl rfl ?_
      obtain ⟨h9, h⟩ := chk_inv h
      refine op0 (sp_add rfl rfl rfl h9) rfl trivial rfl rfl ?_
      refine op1 0 rfl (sp_fieldAddrB rfl isBlk rfl ft105_0 vt3 (by decide)) rfl trivial rfl rfl ?_
      refine stoB 0 (cells' := [.val (.int .i64 (r18.1 + r17.2.1)), .val (.int .i64 r18.2.1)]) rfl rfl trivial rfl rfl rfl rfl vt3 rfl rfl rfl ?_
      refine TL.nil ?_
      refine TC.seq ?_
      refine TC.seq ?_
      refine TC.region ?_
      refine op1 4 rfl (sp_fieldAddrB rfl isBlk rfl ft73_1 vt4 (by decide)) rfl trivial rfl rfl ?_
      refine op1 4 rfl (sp_loadB rfl isBlk rfl vt4 rfl) rfl trivial rfl rfl ?_
      refine TL.nil ?_
      refine TC.cond (b := x15.2) rfl (fun h10 => ?_) (fun h10 => ?_)
      · have h := cond_t h h10
        refine TC.region ?_
        refine op1 0 rfl (sp_fieldAddrB rfl isBlk rfl ft105_1 vt3 (by decide)) rfl trivial rfl rfl ?_
        refine op1 0 rfl (sp_loadB rfl isBlk rfl vt3 rfl) rfl trivial rfl rfl ?_
        obtain ⟨h11, h⟩ := chk_inv h
        refine op0 (sp_add rfl rfl rfl h11) rfl trivial rfl rfl ?_
        refine op1 0 rfl (sp_fieldAddrB rfl isBlk rfl ft105_1 vt3 (by decide)) rfl trivial rfl rfl ?_
        refine stoB 0 (cells' := [.val (.int .i64 (r18.1 + r17.2.1)), .val (.int .i64 (r18.2.1 + 1))]) rfl rfl trivial rfl rfl rfl rfl vt3 rfl rfl rfl ?_
        refine TL.nil ?_
        refine TC.seq ?_
        refine subJ [] (ok_p_strike_best_from_j1 (u14 := u14) (u13 := u13) (u12 := u12) (u11 := u11) (b1 := b1) (b2 := b2) (b4 := b4) (b5 := b5) (b3 := b3) h) ?_ ?_ ?_
        · exact ⟨rfl, rfl, rfl, rfl, rfl, rfl, trivial⟩
        · exact ⟨mem_at 13 rfl, mem_at 12 rfl, mem_at 11 rfl, mem_at 10 rfl, mem_at 4 rfl, mem_at 0 rfl, mem_at 17 rfl, mem_at 18 rfl, mem_at 1 rfl, mem_at 2 rfl, mem_at 3 rfl, mem_at 5 rfl, mem_at 6 rfl, mem_at 7 rfl, mem_at 8 rfl, mem_at 9 rfl, mem_at 14 rfl, mem_at 15 rfl, mem_at 16 rfl, trivial⟩
        · rfl
      · have h := cond_f h h10
        refine TC.skip ?_
        refine TC.seq ?_
        refine subJ [] (ok_p_strike_best_from_j1 (u14 := u14) (u13 := u13) (u12 := u12) (u11 := u11) (b1 := b1) (b2 := b2) (b4 := b4) (b5 := b5) (b3 := b3) h) ?_ ?_ ?_
        · exact ⟨rfl, rfl, rfl, rfl, rfl, rfl, trivial⟩
        · exact ⟨mem_at 13 rfl, mem_at 12 rfl, mem_at 11 rfl, mem_at 10 rfl, mem_at 4 rfl, mem_at 0 rfl, mem_at 17 rfl, mem_at 18 rfl, mem_at 1 rfl, mem_at 2 rfl, mem_at 3 rfl, mem_at 5 rfl, mem_at 6 rfl, mem_at 7 rfl, mem_at 8 rfl, mem_at 9 rfl, mem_at 14 rfl, mem_at 15 rfl, mem_at 16 rfl, trivial⟩
        · rfl
def ev_p_strike_best_from : Nat → Bool → Bool → (List (Int × Int)) → Int → Int → (List ((Int × Int) × (Int × Int))) → (List ((Int × Int) × (Int × Bool))) → (List ((Int × Int) × Bool)) → Int → Int → Option (Int × Int × Bool × (List ((Int × Int) × (Int × Int))) × (List ((Int × Int) × (Int × Bool))) × (List ((Int × Int) × Bool)))
  | 0, _, _, _, _, _, _, _, _, _, _ => none
  | n + 1, b1, b2, b3, b4, b5, b6, b7, b8, p9, p10 => cond (p9 == b5) (chk (b4 != 0) <| some (0, 0, (p10 == (Int.tmod b5 b4)), b6, b7, b8)) (cond ((mlook b8 (p9, p10)).getD false) (some (((mlook b6 (p9, p10)).getD (0, 0)).1, ((mlook b6 (p9, p10)).getD (0, 0)).2, (mlook b6 (p9, p10)).isSome, b6, b7, b8)) ((ev_strike_train_steps (loopStep (ev_p_strike_best_from_r0 n b1 b2 b3 b4 b5 (ev_p_strike_best_from n))) n b1 b2 b3 b4 (((mput b8 (p9, p10) true), false, 0, 0, p9, p10, b6, b7), 0)).bind fun q38 => cond (q38.2 == 0) (some (q38.1.2.2.1, q38.1.2.2.2.1, q38.1.2.1, q38.1.2.2.2.2.2.2.1, q38.1.2.2.2.2.2.2.2, q38.1.1)) (none)))
set_option maxRecDepth 100000 in
set_option maxHeartbeats 2000000 in
theorem fcr_p_strike_best_from : ∀ (n : Nat) (b1 : Bool) (b2 : Bool) (b3 : List (Int × Int)) (b4 : Int) (b5 : Int) (b6 : List ((Int × Int) × (Int × Int))) (b7 : List ((Int × Int) × (Int × Bool))) (b8 : List ((Int × Int) × Bool)) (p9 : Int) (p10 : Int) (r : Int × Int × Bool × (List ((Int × Int) × (Int × Int))) × (List ((Int × Int) × (Int × Bool))) × (List ((Int × Int) × Bool))), ev_p_strike_best_from n b1 b2 b3 b4 b5 b6 b7 b8 p9 p10 = some r → FT Try.prog 55 [.ptr 0 0, .agg [.val (.int .i64 p9), .val (.int .i64 p10)]] [.inv 2 (mapI mk97 true en_strike_cost b6), .inv 3 (mapI mk98 true en_api_StrikeStep b7), .inv 4 (mapI mk99 false en_bool b8)] [.rob 0 [.val (.bool b1), .val (.bool b2), .ref 1, .val (.int .i64 b4), .val (.int .i64 b5), .ref 2, .ref 3, .ref 4] 101, .ro 1 2 (List.map en_api_Span b3)] (.tup [.agg [.val (.int .i64 r.1), .val (.int .i64 r.2.1)], .val (.bool r.2.2.1)]) [.inv 2 (mapI mk97 true en_strike_cost r.2.2.2.1), .inv 3 (mapI mk98 true en_api_StrikeStep r.2.2.2.2.1), .inv 4 (mapI mk99 false en_bool r.2.2.2.2.2)] := by
  intro n
  induction n with
  | zero => intro _ _ _ _ _ _ _ _ _ _ r h; exact none_no h
  | succ n ih =>
    intro b1 b2 b3 b4 b5 b6 b7 b8 p9 p10 r h
    refine introM (nz := 127) 5 [(6, 2), (7, 3), (8, 4)] Try.func55 rfl rfl rfl rfl (fun w0 M0 R0 env0 => ?_)
    rw [ev_p_strike_best_from] at h
    refine TC.seq ?_
    refine TC.region ?_
    refine op0 (sp_box 9 rfl rfl rfl rfl rfl) rfl trivial rfl rfl ?_
    refine op0 (sp_box 10 rfl rfl rfl rfl rfl) rfl trivial rfl rfl ?_
    refine op0 (sp_alloc 11 rfl Try.zeroValue105 rfl) rfl trivial rfl rfl ?_
    refine op0 (sp_alloc 12 rfl Try.zeroValue4 rfl) rfl trivial rfl rfl ?_
    refine TL.nil ?_
    refine TC.seq ?_
    refine TC.seq ?_
    refine drawJ 6 [⟨.ptr 10 0, [], [.blk 10 [.val (.int .i64 p9), .val (.int .i64 p10)] 103], []⟩, ⟨.val (.int .i64 p9), [], [.blk 10 [.val (.int .i64 p9), .val (.int .i64 p10)] 103], []⟩, ⟨.ptr 0 0, [], [.blk 9 [.ptr 0 0] 96], []⟩, ⟨.ptr 0 0, [], [.rob 0 [.val (.bool b1), .val (.bool b2), .ref 1, .val (.int .i64 b4), .val (.int .i64 b5), .ref 2, .ref 3, .ref 4] 101], []⟩, ⟨.ptr 0 4, [], [.rob 0 [.val (.bool b1), .val (.bool b2), .ref 1, .val (.int .i64 b4), .val (.int .i64 b5), .ref 2, .ref 3, .ref 4] 101], []⟩, ⟨.val (.int .i64 b5), [], [.rob 0 [.val (.bool b1), .val (.bool b2), .ref 1, .val (.int .i64 b4), .val (.int .i64 b5), .ref 2, .ref 3, .ref 4] 101], []⟩] rfl ?_ rfl ?_ rfl ?_ ?_
    · kernel_rfl
    · kernel_rfl
    · exact DAll.op' (sp_fieldAddrB rfl isBlk rfl ft103_0 vt3 (by decide)) trivial rfl (From.ok (ps := [(none, 2)]) ⟨⟨rfl, rfl⟩, trivial⟩) (DAll.op' (sp_loadB rfl isBlk rfl vt3 rfl) trivial rfl (From.ok (ps := [(none, 2)]) ⟨⟨rfl, rfl⟩, trivial⟩) (DAll.op' (sp_loadB rfl isBlk rfl vt96 rfl) trivial rfl (From.ok (ps := [(none, 3)]) ⟨⟨rfl, rfl⟩, trivial⟩) (DAll.op' (sp_nilCheck rfl isRob rfl) trivial rfl (From.ok (ps := [(none, 11)]) ⟨⟨rfl, rfl⟩, trivial⟩) (DAll.op' (sp_fieldAddrB rfl isRob rfl ft101_1 vt3 (by decide)) trivial rfl (From.ok (ps := [(none, 11)]) ⟨⟨rfl, rfl⟩, trivial⟩) (DAll.op' (sp_loadB rfl isRob rfl vt3 rfl) trivial rfl (From.ok (ps := [(none, 11)]) ⟨⟨rfl, rfl⟩, trivial⟩) (.nil))))))
    refine op0 (sp_eql rfl rfl rfl) rfl trivial rfl rfl ?_
    refine TL.nil ?_
    refine TC.cond (b := (p9 == b5)) rfl (fun h1 => ?_) (fun h1 => ?_)
    · have h := cond_t h h1
      refine TC.seq ?_
      obtain ⟨h2, h⟩ := chk_inv h
      refine drawJ 15 [⟨.agg [.val (.int .i64 0), .val (.int .i64 0)], [], [], []⟩, ⟨.ptr 10 1, [], [.blk 10 [.val (.int .i64 p9), .val (.int .i64 p10)] 103], []⟩, ⟨.val (.int .i64 p10), [], [.blk 10 [.val (.int .i64 p9), .val (.int .i64 p10)] 103], []⟩, ⟨.ptr 0 0, [], [.blk 9 [.ptr 0 0] 96], []⟩, ⟨.ptr 0 0, [], [.rob 0 [.val (.bool b1), .val (.bool b2), .ref 1, .val (.int .i64 b4), .val (.int .i64 b5), .ref 2, .ref 3, .ref 4] 101], []⟩, ⟨.ptr 0 4, [], [.rob 0 [.val (.bool b1), .val (.bool b2), .ref 1, .val (.int .i64 b4), .val (.int .i64 b5), .ref 2, .ref 3, .ref 4] 101], []⟩, ⟨.val (.int .i64 b5), [], [.rob 0 [.val (.bool b1), .val (.bool b2), .ref 1, .val (.int .i64 b4), .val (.int .i64 b5), .ref 2, .ref 3, .ref 4] 101], []⟩, ⟨.ptr 0 0, [], [.blk 9 [.ptr 0 0] 96], []⟩, ⟨.ptr 0 0, [], [.rob 0 [.val (.bool b1), .val (.bool b2), .ref 1, .val (.int .i64 b4), .val (.int .i64 b5), .ref 2, .ref 3, .ref 4] 101], []⟩, ⟨.ptr 0 0, [], [.rob 0 [.val (.bool b1), .val (.bool b2), .ref 1, .val (.int .i64 b4), .val (.int .i64 b5), .ref 2, .ref 3, .ref 4] 101], []⟩, ⟨.ptr 0 3, [], [.rob 0 [.val (.bool b1), .val (.bool b2), .ref 1, .val (.int .i64 b4), .val (.int .i64 b5), .ref 2, .ref 3, .ref 4] 101], []⟩, ⟨.val (.int .i64 b4), [], [.rob 0 [.val (.bool b1), .val (.bool b2), .ref 1, .val (.int .i64 b4), .val (.int .i64 b5), .ref 2, .ref 3, .ref 4] 101], []⟩, ⟨.val (.int .i64 (Int.tmod b5 b4)), [], [], []⟩, ⟨.val (.bool (p10 == (Int.tmod b5 b4))), [], [], []⟩, ⟨.val (undef), [.blk 11 [.val (.int .i64 0), .val (.int .i64 0)] 105], [], [.blk 11 [.val (.int .i64 0), .val (.int .i64 0)] 105]⟩] rfl ?_ rfl ?_ rfl ?_ ?_
      · kernel_rfl
      · kernel_rfl
      · exact DAll.op' (sp_build (qs := []) rfl bt105 rfl rfl rfl rfl) trivial rfl (From.ok (ps := []) trivial) (DAll.op' (sp_fieldAddrB rfl isBlk rfl ft103_1 vt3 (by decide)) trivial rfl (From.ok (ps := [(none, 2)]) ⟨⟨rfl, by kernel_rfl⟩, trivial⟩) (DAll.op' (sp_loadB rfl isBlk rfl vt3 rfl) trivial rfl (From.ok (ps := [(none, 2)]) ⟨⟨rfl, by kernel_rfl⟩, trivial⟩) (DAll.op' (sp_loadB rfl isBlk rfl vt96 rfl) trivial rfl (From.ok (ps := [(none, 3)]) ⟨⟨rfl, by kernel_rfl⟩, trivial⟩) (DAll.op' (sp_nilCheck rfl isRob rfl) trivial rfl (From.ok (ps := [(none, 11)]) ⟨⟨rfl, by kernel_rfl⟩, trivial⟩) (DAll.op' (sp_fieldAddrB rfl isRob rfl ft101_1 vt3 (by decide)) trivial rfl (From.ok (ps := [(none, 11)]) ⟨⟨rfl, by kernel_rfl⟩, trivial⟩) (DAll.op' (sp_loadB rfl isRob rfl vt3 rfl) trivial rfl (From.ok (ps := [(none, 11)]) ⟨⟨rfl, by kernel_rfl⟩, trivial⟩) (DAll.op' (sp_loadB rfl isBlk rfl vt96 rfl) trivial rfl (From.ok (ps := [(none, 3)]) ⟨⟨rfl, by kernel_rfl⟩, trivial⟩) (DAll.op' (sp_nilCheck rfl isRob rfl) trivial rfl (From.ok (ps := [(none, 11)]) ⟨⟨rfl, by kernel_rfl⟩, trivial⟩) (DAll.op' (sp_fieldAddrB rfl isRob rfl ft101_0 vt84 (by decide)) trivial rfl (From.ok (ps := [(none, 11)]) ⟨⟨rfl, by kernel_rfl⟩, trivial⟩) (DAll.op' (sp_fieldAddrB rfl isRob rfl ft84_1 vt3 (by decide)) trivial rfl (From.ok (ps := [(none, 11)]) ⟨⟨rfl, by kernel_rfl⟩, trivial⟩) (DAll.op' (sp_loadB rfl isRob rfl vt3 rfl) trivial rfl (From.ok (ps := [(none, 11)]) ⟨⟨rfl, by kernel_rfl⟩, trivial⟩) (DAll.op' (sp_rem rfl rfl rfl h2) trivial rfl (From.ok (ps := []) trivial) (DAll.op' (sp_eql rfl rfl rfl) trivial rfl (From.ok (ps := []) trivial) (DAll.opT (ts_storeB (off := 0) (cells' := [.val (.int .i64 0), .val (.int .i64 0)]) rfl rfl rfl rfl vt105 rfl rfl rfl) trivial (From.ok (ps := [(none, 1)]) ⟨⟨rfl, by kernel_rfl⟩, trivial⟩) (From.ok (ps := []) trivial) (.nil)))))))))))))))
      refine stoB 1 (cells' := [.val (.bool (p10 == (Int.tmod b5 b4)))]) rfl rfl trivial rfl rfl rfl rfl vt4 rfl rfl rfl ?_
      refine TL.nil ?_
      cases h
      exact retM [] 4 5 [2, 3, 4] rfl (.cells rfl (mem_at 0 rfl) isBlk vt105 rfl rfl (.cell rfl (mem_at 1 rfl) isBlk vt4 rfl (.nil))) rfl ⟨mem_at 7 rfl, mem_at 8 rfl, mem_at 9 rfl, trivial⟩ rfl rfl ⟨⟨_, mem_at 4 rfl⟩, ⟨_, mem_at 5 rfl⟩, ⟨_, mem_at 6 rfl⟩, trivial⟩ rfl
    · have h := cond_f h h1
      refine TC.skip ?_
      refine TC.seq ?_
      refine TC.seq ?_
      refine drawJ 5 [⟨.ptr 0 0, [], [.blk 9 [.ptr 0 0] 96], []⟩, ⟨.ptr 0 0, [], [.rob 0 [.val (.bool b1), .val (.bool b2), .ref 1, .val (.int .i64 b4), .val (.int .i64 b5), .ref 2, .ref 3, .ref 4] 101], []⟩, ⟨.ptr 0 7, [], [.rob 0 [.val (.bool b1), .val (.bool b2), .ref 1, .val (.int .i64 b4), .val (.int .i64 b5), .ref 2, .ref 3, .ref 4] 101], []⟩, ⟨.ref 4, [], [.rob 0 [.val (.bool b1), .val (.bool b2), .ref 1, .val (.int .i64 b4), .val (.int .i64 b5), .ref 2, .ref 3, .ref 4] 101], []⟩, ⟨.agg [.val (.int .i64 p9), .val (.int .i64 p10)], [], [.blk 10 [.val (.int .i64 p9), .val (.int .i64 p10)] 103], []⟩] rfl ?_ rfl ?_ rfl ?_ ?_
      · kernel_rfl
      · kernel_rfl
      · exact DAll.op' (sp_loadB rfl isBlk rfl vt96 rfl) trivial rfl (From.ok (ps := [(none, 3)]) ⟨⟨rfl, rfl⟩, trivial⟩) (DAll.op' (sp_nilCheck rfl isRob rfl) trivial rfl (From.ok (ps := [(none, 11)]) ⟨⟨rfl, rfl⟩, trivial⟩) (DAll.op' (sp_fieldAddrB rfl isRob rfl ft101_4 vt99 (by decide)) trivial rfl (From.ok (ps := [(none, 11)]) ⟨⟨rfl, rfl⟩, trivial⟩) (DAll.op' (sp_loadB rfl isRob rfl vt99 rfl) trivial rfl (From.ok (ps := [(none, 11)]) ⟨⟨rfl, rfl⟩, trivial⟩) (DAll.op' (sp_loadBA rfl isBlk rfl vt103 rfl rfl) trivial rfl (From.ok (ps := [(none, 2)]) ⟨⟨rfl, rfl⟩, trivial⟩) (.nil)))))
      refine op1 10 rfl (sp_lookup (cm := false) (v := .val (.bool ((mlook b8 (p9, p10)).getD false))) (ns := []) (p9, p10) false rfl rfl rfl (fun _ => rfl) isMapO km99 Try.zeroValue4 (fun W R => zok (ZL.v rfl (ZL.nil)) rfl rfl W R) (.v (.nil)) rfl rfl) rfl trivial rfl rfl ?_
      refine TL.nil ?_
      refine TC.cond (b := ((mlook b8 (p9, p10)).getD false)) rfl (fun h3 => ?_) (fun h3 => ?_)
      · have h := cond_t h h3
        refine TC.seq ?_
        refine drawJ 10 [⟨.ptr 0 0, [], [.blk 9 [.ptr 0 0] 96], []⟩, ⟨.ptr 0 0, [], [.rob 0 [.val (.bool b1), .val (.bool b2), .ref 1, .val (.int .i64 b4), .val (.int .i64 b5), .ref 2, .ref 3, .ref 4] 101], []⟩, ⟨.ptr 0 5, [], [.rob 0 [.val (.bool b1), .val (.bool b2), .ref 1, .val (.int .i64 b4), .val (.int .i64 b5), .ref 2, .ref 3, .ref 4] 101], []⟩, ⟨.ref 2, [], [.rob 0 [.val (.bool b1), .val (.bool b2), .ref 1, .val (.int .i64 b4), .val (.int .i64 b5), .ref 2, .ref 3, .ref 4] 101], []⟩, ⟨.agg [.val (.int .i64 p9), .val (.int .i64 p10)], [], [.blk 10 [.val (.int .i64 p9), .val (.int .i64 p10)] 103], []⟩, ⟨.tup [.agg [.val (.int .i64 (((mlook b6 (p9, p10)).getD (0, 0)).1)), .val (.int .i64 (((mlook b6 (p9, p10)).getD (0, 0)).2))], .val (.bool ((mlook b6 (p9, p10)).isSome))], [], [.inv 2 (mapI mk97 true en_strike_cost b6)], []⟩, ⟨.tup [.agg [.val (.int .i64 (((mlook b6 (p9, p10)).getD (0, 0)).1)), .val (.int .i64 (((mlook b6 (p9, p10)).getD (0, 0)).2))], .val (.bool ((mlook b6 (p9, p10)).isSome))], [], [], []⟩, ⟨.agg [.val (.int .i64 (((mlook b6 (p9, p10)).getD (0, 0)).1)), .val (.int .i64 (((mlook b6 (p9, p10)).getD (0, 0)).2))], [], [], []⟩, ⟨.val (.bool ((mlook b6 (p9, p10)).isSome)), [], [], []⟩, ⟨.val (undef), [.blk 11 [.val (.int .i64 (((mlook b6 (p9, p10)).getD (0, 0)).1)), .val (.int .i64 (((mlook b6 (p9, p10)).getD (0, 0)).2))] 105], [], [.blk 11 [.val (.int .i64 0), .val (.int .i64 0)] 105]⟩] rfl ?_ rfl ?_ rfl ?_ ?_
        · kernel_rfl
        · kernel_rfl
        · exact DAll.op' (sp_loadB rfl isBlk rfl vt96 rfl) trivial rfl (From.ok (ps := [(none, 3)]) ⟨⟨rfl, by kernel_rfl⟩, trivial⟩) (DAll.op' (sp_nilCheck rfl isRob rfl) trivial rfl (From.ok (ps := [(none, 11)]) ⟨⟨rfl, by kernel_rfl⟩, trivial⟩) (DAll.op' (sp_fieldAddrB rfl isRob rfl ft101_2 vt97 (by decide)) trivial rfl (From.ok (ps := [(none, 11)]) ⟨⟨rfl, by kernel_rfl⟩, trivial⟩) (DAll.op' (sp_loadB rfl isRob rfl vt97 rfl) trivial rfl (From.ok (ps := [(none, 11)]) ⟨⟨rfl, by kernel_rfl⟩, trivial⟩) (DAll.op' (sp_loadBA rfl isBlk rfl vt103 rfl rfl) trivial rfl (From.ok (ps := [(none, 2)]) ⟨⟨rfl, by kernel_rfl⟩, trivial⟩) (DAll.op' (sp_lookup (cm := true) (v := .tup [.agg [.val (.int .i64 (((mlook b6 (p9, p10)).getD (0, 0)).1)), .val (.int .i64 (((mlook b6 (p9, p10)).getD (0, 0)).2))], .val (.bool ((mlook b6 (p9, p10)).isSome))]) (ns := []) (p9, p10) (0, 0) rfl rfl rfl (fun _ => rfl) isMapO km97 Try.zeroValue105 (fun W R => zok (ZL.v rfl (ZL.v rfl (ZL.nil))) rfl rfl W R) (.v (.v (.nil))) rfl rfl) trivial rfl (From.ok (ps := [(none, 8)]) ⟨⟨rfl, by kernel_rfl⟩, trivial⟩) (DAll.op' (sp_move rfl rfl) trivial rfl (From.ok (ps := []) trivial) (DAll.op' (sp_extract rfl rfl rfl) trivial rfl (From.ok (ps := []) trivial) (DAll.op' (sp_extract rfl rfl rfl) trivial rfl (From.ok (ps := []) trivial) (DAll.opT (ts_storeB (off := 0) (cells' := [.val (.int .i64 (((mlook b6 (p9, p10)).getD (0, 0)).1)), .val (.int .i64 (((mlook b6 (p9, p10)).getD (0, 0)).2))]) rfl rfl rfl rfl vt105 rfl rfl rfl) trivial (From.ok (ps := [(none, 1)]) ⟨⟨rfl, by kernel_rfl⟩, trivial⟩) (From.ok (ps := []) trivial) (.nil))))))))))
        refine stoB 1 (cells' := [.val (.bool ((mlook b6 (p9, p10)).isSome))]) rfl rfl trivial rfl rfl rfl rfl vt4 rfl rfl rfl ?_
        refine TL.nil ?_
        refine TC.seq ?_
        refine drawJ 3 [⟨.agg [.val (.int .i64 (((mlook b6 (p9, p10)).getD (0, 0)).1)), .val (.int .i64 (((mlook b6 (p9, p10)).getD (0, 0)).2))], [], [.blk 11 [.val (.int .i64 (((mlook b6 (p9, p10)).getD (0, 0)).1)), .val (.int .i64 (((mlook b6 (p9, p10)).getD (0, 0)).2))] 105], []⟩, ⟨.val (.bool ((mlook b6 (p9, p10)).isSome)), [], [.blk 12 [.val (.bool ((mlook b6 (p9, p10)).isSome))] 4], []⟩, ⟨.val (undef), [.blk 11 [.val (.int .i64 (((mlook b6 (p9, p10)).getD (0, 0)).1)), .val (.int .i64 (((mlook b6 (p9, p10)).getD (0, 0)).2))] 105], [], [.blk 11 [.val (.int .i64 (((mlook b6 (p9, p10)).getD (0, 0)).1)), .val (.int .i64 (((mlook b6 (p9, p10)).getD (0, 0)).2))] 105]⟩] rfl ?_ rfl ?_ rfl ?_ ?_
        · kernel_rfl
        · kernel_rfl
        · exact DAll.op' (sp_loadBA rfl isBlk rfl vt105 rfl rfl) trivial rfl (From.ok (ps := [(none, 0)]) ⟨⟨rfl, by kernel_rfl⟩, trivial⟩) (DAll.op' (sp_loadB rfl isBlk rfl vt4 rfl) trivial rfl (From.ok (ps := [(none, 1)]) ⟨⟨rfl, by kernel_rfl⟩, trivial⟩) (DAll.opT (ts_storeB (off := 0) (cells' := [.val (.int .i64 (((mlook b6 (p9, p10)).getD (0, 0)).1)), .val (.int .i64 (((mlook b6 (p9, p10)).getD (0, 0)).2))]) rfl rfl rfl rfl vt105 rfl rfl rfl) trivial (From.ok (ps := [(none, 0)]) ⟨⟨rfl, by kernel_rfl⟩, trivial⟩) (From.ok (ps := []) trivial) (.nil)))
        refine stoB 1 (cells' := [.val (.bool ((mlook b6 (p9, p10)).isSome))]) rfl rfl trivial rfl rfl rfl rfl vt4 rfl rfl rfl ?_
        refine TL.nil ?_
        cases h
        exact retM [] 4 5 [2, 3, 4] rfl (.cells rfl (mem_at 0 rfl) isBlk vt105 rfl rfl (.cell rfl (mem_at 1 rfl) isBlk vt4 rfl (.nil))) rfl ⟨mem_at 7 rfl, mem_at 8 rfl, mem_at 9 rfl, trivial⟩ rfl rfl ⟨⟨_, mem_at 4 rfl⟩, ⟨_, mem_at 5 rfl⟩, ⟨_, mem_at 6 rfl⟩, trivial⟩ rfl
      · have h := cond_f h h3
        refine TC.skip ?_
        refine TC.seq ?_
        refine drawJ 5 [⟨.ptr 0 0, [], [.blk 9 [.ptr 0 0] 96], []⟩, ⟨.ptr 0 0, [], [.rob 0 [.val (.bool b1), .val (.bool b2), .ref 1, .val (.int .i64 b4), .val (.int .i64 b5), .ref 2, .ref 3, .ref 4] 101], []⟩, ⟨.ptr 0 7, [], [.rob 0 [.val (.bool b1), .val (.bool b2), .ref 1, .val (.int .i64 b4), .val (.int .i64 b5), .ref 2, .ref 3, .ref 4] 101], []⟩, ⟨.ref 4, [], [.rob 0 [.val (.bool b1), .val (.bool b2), .ref 1, .val (.int .i64 b4), .val (.int .i64 b5), .ref 2, .ref 3, .ref 4] 101], []⟩, ⟨.agg [.val (.int .i64 p9), .val (.int .i64 p10)], [], [.blk 10 [.val (.int .i64 p9), .val (.int .i64 p10)] 103], []⟩] rfl ?_ rfl ?_ rfl ?_ ?_
        · kernel_rfl
        · kernel_rfl
        · exact DAll.op' (sp_loadB rfl isBlk rfl vt96 rfl) trivial rfl (From.ok (ps := [(none, 3)]) ⟨⟨rfl, rfl⟩, trivial⟩) (DAll.op' (sp_nilCheck rfl isRob rfl) trivial rfl (From.ok (ps := [(none, 11)]) ⟨⟨rfl, rfl⟩, trivial⟩) (DAll.op' (sp_fieldAddrB rfl isRob rfl ft101_4 vt99 (by decide)) trivial rfl (From.ok (ps := [(none, 11)]) ⟨⟨rfl, rfl⟩, trivial⟩) (DAll.op' (sp_loadB rfl isRob rfl vt99 rfl) trivial rfl (From.ok (ps := [(none, 11)]) ⟨⟨rfl, rfl⟩, trivial⟩) (DAll.op' (sp_loadBA rfl isBlk rfl vt103 rfl rfl) trivial rfl (From.ok (ps := [(none, 2)]) ⟨⟨rfl, rfl⟩, trivial⟩) (.nil)))))
        refine opT (take := [.inv 4 (mapI mk99 false en_bool b8)]) (need := []) (V' := [.inv 4 (mapI mk99 false en_bool (mput b8 (p9, p10) true)), .blk 12 [.val (.bool false)] 4, .blk 11 [.val (.int .i64 0), .val (.int .i64 0)] 105, .blk 10 [.val (.int .i64 p9), .val (.int .i64 p10)] 103, .blk 9 [.ptr 0 0] 96, .inv 5 (marksI []), .pin 6 2 (env0 2), .pin 7 3 (env0 3), .pin 8 4 (env0 4), .inv 2 (mapI mk97 true en_strike_cost b6), .inv 3 (mapI mk98 true en_api_StrikeStep b7), .rob 0 [.val (.bool b1), .val (.bool b2), .ref 1, .val (.int .i64 b4), .val (.int .i64 b5), .ref 2, .ref 3, .ref 4] 101, .ro 1 2 (List.map en_api_Span b3)]) [10] [] (ts_mapUpdate (need := []) (p9, p10) true rfl rfl rfl (fun _ => rfl) rfl rfl rfl (.v (.nil)) km99 (fun _ => .refl _)) trivial rfl ⟨rfl, trivial⟩ trivial rfl rfl ?_
        refine TL.nil ?_
        refine TC.seq ?_
        refine TC.seq ?_
        refine TC.region ?_
        refine op1 4 rfl (sp_loadB rfl isBlk rfl vt96 rfl) rfl trivial rfl rfl ?_
        refine op1 11 rfl (sp_nilCheck rfl isRob rfl) rfl trivial rfl rfl ?_
        refine op1 11 rfl (sp_fieldAddrB rfl isRob rfl ft101_0 vt84 (by decide)) rfl trivial rfl rfl ?_
        refine op1 11 rfl (sp_loadBA rfl isRob rfl vt84 rfl rfl) rfl trivial rfl rfl ?_
        refine op0 (sp_makeFunc (fi := [.tmp 58]) (ca := []) (fa := [.agg [.val (.bool b1), .val (.bool b2), .ref 1, .val (.int .i64 b4)]]) (cb := []) rfl rfl rfl) rfl trivial rfl rfl ?_
        refine TL.nil ?_
        refine TC.block ?_
        refine TC.pin 14 9 rfl rfl fun u11 => ?_
        refine TC.pin 15 10 rfl rfl fun u12 => ?_
        refine TC.pin 16 11 rfl rfl fun u13 => ?_
        refine TC.pin 17 12 rfl rfl fun u14 => ?_
        obtain ⟨q38, h15, h⟩ := bind_inv h
        refine rangeO (T := []) (T' := []) (k := 13) (gm := 5) (grec := 18) (S := [(2, .ptr 9 0), (3, .ptr 10 0), (4, .ptr 11 0), (5, .ptr 12 0)]) (V0 := (fun y16 : (List ((Int × Int) × Bool)) × Bool × Int × Int × Int × Int × (List ((Int × Int) × (Int × Int))) × (List ((Int × Int) × (Int × Bool))) => [.pin 17 12 u14, .pin 16 11 u13, .pin 15 10 u12, .pin 14 9 u11, .inv 4 (mapI mk99 false en_bool y16.1), .blk 12 [.val (.bool y16.2.1)] 4, .blk 11 [.val (.int .i64 y16.2.2.1), .val (.int .i64 y16.2.2.2.1)] 105, .blk 10 [.val (.int .i64 y16.2.2.2.2.1), .val (.int .i64 y16.2.2.2.2.2.1)] 103, .blk 9 [.ptr 0 0] 96, .pin 6 2 (env0 2), .pin 7 3 (env0 3), .pin 8 4 (env0 4), .inv 2 (mapI mk97 true en_strike_cost y16.2.2.2.2.2.2.1), .inv 3 (mapI mk98 true en_api_StrikeStep y16.2.2.2.2.2.2.2), .rob 0 [.val (.bool b1), .val (.bool b2), .ref 1, .val (.int .i64 b4), .val (.int .i64 b5), .ref 2, .ref 3, .ref 4] 101, .ro 1 2 (List.map en_api_Span b3)])) (needI := [.ro 1 2 (List.map en_api_Span b3)]) (ps := [60]) (jl := []) (ea := ye_funcapi_StrikeStep_bool) (en := yn_funcapi_StrikeStep_bool) (f := (ev_p_strike_best_from_r0 n b1 b2 b3 b4 b5 (ev_p_strike_best_from n))) (s0 := (((mput b8 (p9, p10) true), false, 0, 0, p9, p10, b6, b7), 0)) (yf := q38) (v := .tup []) (fi := [.agg [.val (.bool b1), .val (.bool b2), .ref 1, .val (.int .i64 b4)]]) (caps := [])
          ⟨fun x y r hr l rec hrd w0 M0 R0 => ok_p_strike_best_from_r0 (u14 := u14) (u13 := u13) (u12 := u12) (u11 := u11) ih hr l rec hrd w0 M0 R0, ⟨rfl, rfl, rfl, rfl, trivial⟩, At.mem (is := [0, 1, 2, 3, 4, 5, 6, 7, 8, 10, 11, 12, 13, 14, 15, 16]) ⟨rfl, rfl, rfl, rfl, rfl, rfl, rfl, rfl, rfl, rfl, rfl, rfl, rfl, rfl, rfl, rfl, trivial⟩, At.mem (is := [16]) ⟨rfl, trivial⟩, rfl, pinsIn [9, 10, 11, 12] [3, 2, 1, 0] ⟨⟨_, _, fun _ => rfl⟩, ⟨_, _, fun _ => rfl⟩, ⟨_, _, fun _ => rfl⟩, ⟨_, _, fun _ => rfl⟩, trivial⟩ rfl, rfl, fun _ => rfl, fun _ _ => rfl, fun _ => rfl, fun _ _ => rfl, fun _ => rfl, fun _ => rfl, fun _ => rfl, rfl, rfl, fun _ => rfl, rfl⟩
          rfl rfl Try.call66 (takesNil rfl) 9 rfl (fun I hI => atT [(1, 13), (0, 1)] [(1, 13)] (ft_strike_train_steps hI h15) rfl rfl rfl) (fun d => ?_)
        rcases cond_cases h with ⟨h16, h⟩ | ⟨h16, h⟩
        · refine done0 h16 ?_
          refine TC.inBlock ?_
          refine TC.seq ?_
          refine drawJ 3 [⟨.agg [.val (.int .i64 q38.1.2.2.1), .val (.int .i64 q38.1.2.2.2.1)], [], [.blk 11 [.val (.int .i64 q38.1.2.2.1), .val (.int .i64 q38.1.2.2.2.1)] 105], []⟩, ⟨.val (.bool q38.1.2.1), [], [.blk 12 [.val (.bool q38.1.2.1)] 4], []⟩, ⟨.val (undef), [.blk 11 [.val (.int .i64 q38.1.2.2.1), .val (.int .i64 q38.1.2.2.2.1)] 105], [], [.blk 11 [.val (.int .i64 q38.1.2.2.1), .val (.int .i64 q38.1.2.2.2.1)] 105]⟩] rfl ?_ rfl ?_ rfl ?_ ?_
          · kernel_rfl
          · kernel_rfl
          · exact DAll.op' (sp_loadBA rfl isBlk rfl vt105 rfl rfl) trivial rfl (From.ok (ps := [(none, 7)]) ⟨⟨rfl, by kernel_rfl⟩, trivial⟩) (DAll.op' (sp_loadB rfl isBlk rfl vt4 rfl) trivial rfl (From.ok (ps := [(none, 6)]) ⟨⟨rfl, by kernel_rfl⟩, trivial⟩) (DAll.opT (ts_storeB (off := 0) (cells' := [.val (.int .i64 q38.1.2.2.1), .val (.int .i64 q38.1.2.2.2.1)]) rfl rfl rfl rfl vt105 rfl rfl rfl) trivial (From.ok (ps := [(none, 7)]) ⟨⟨rfl, by kernel_rfl⟩, trivial⟩) (From.ok (ps := []) trivial) (.nil)))
          refine stoB 7 (cells' := [.val (.bool q38.1.2.1)]) rfl rfl trivial rfl rfl rfl rfl vt4 rfl rfl rfl ?_
          refine TL.nil ?_
          cases h
          exact retM [] 1 5 [2, 3, 4] rfl (.cells rfl (mem_at 0 rfl) isBlk vt105 rfl rfl (.cell rfl (mem_at 6 rfl) isBlk vt4 rfl (.nil))) rfl ⟨mem_at 12 rfl, mem_at 13 rfl, mem_at 5 rfl, trivial⟩ rfl rfl ⟨⟨_, mem_at 9 rfl⟩, ⟨_, mem_at 10 rfl⟩, ⟨_, mem_at 11 rfl⟩, trivial⟩ rfl
        · exact none_no h
theorem ft_p_strike_best_from {n : Nat} {b1 : Bool} {b2 : Bool} {b3 : List (Int × Int)} {b4 : Int} {b5 : Int} {b6 : List ((Int × Int) × (Int × Int))} {b7 : List ((Int × Int) × (Int × Bool))} {b8 : List ((Int × Int) × Bool)} {p9 : Int} {p10 : Int} {r : Int × Int × Bool × (List ((Int × Int) × (Int × Int))) × (List ((Int × Int) × (Int × Bool))) × (List ((Int × Int) × Bool))} (h : ev_p_strike_best_from n b1 b2 b3 b4 b5 b6 b7 b8 p9 p10 = some r) : FT Try.prog 55 [.ptr 0 0, .agg [.val (.int .i64 p9), .val (.int .i64 p10)]] [.inv 2 (mapI mk97 true en_strike_cost b6), .inv 3 (mapI mk98 true en_api_StrikeStep b7), .inv 4 (mapI mk99 false en_bool b8)] [.rob 0 [.val (.bool b1), .val (.bool b2), .ref 1, .val (.int .i64 b4), .val (.int .i64 b5), .ref 2, .ref 3, .ref 4] 101, .ro 1 2 (List.map en_api_Span b3)] (.tup [.agg [.val (.int .i64 r.1), .val (.int .i64 r.2.1)], .val (.bool r.2.2.1)]) [.inv 2 (mapI mk97 true en_strike_cost r.2.2.2.1), .inv 3 (mapI mk98 true en_api_StrikeStep r.2.2.2.2.1), .inv 4 (mapI mk99 false en_bool r.2.2.2.2.2)] := fcr_p_strike_best_from n b1 b2 b3 b4 b5 b6 b7 b8 p9 p10 r h
/- strike_Bring -/
def ev_strike_Bring_l0 (n : Nat) (until6 : Int) : Nat → (List (Int × Bool)) → Bool → Bool → Int → Bool → Bool → Int → Int → Int → Int → Int → Int → (List (Int × Int)) → (List ((Int × Int) × (Int × Int))) → (List ((Int × Int) × (Int × Bool))) → (List ((Int × Int) × Bool)) → Option ((List (Int × Bool)) × Int × Int)
  | 0, _, _, _, _, _, _, _, _, _, _, _, _, _, _, _, _ => none
  | m + 1, l10, b11, b12, i13, b14, b15, i16, i17, i18, i19, i20, i21, l22, l23, l24, l25 => cond (decide (i18 < until6)) ((ev_strike_train_step n b11 b12 l22 i13 i18 i19 (((mlook l24 (i18, i19)).getD (0, false)).1) (((mlook l24 (i18, i19)).getD (0, false)).2)).bind fun r26 => chk (room 16 (l10.length + ([(((mlook l24 (i18, i19)).getD (0, false)).1, ((mlook l24 (i18, i19)).getD (0, false)).2)] : List (Int × Bool)).length)) <| chk (in64 (i18 + 1)) <| ev_strike_Bring_l0 n until6 m (l10 ++ ([(((mlook l24 (i18, i19)).getD (0, false)).1, ((mlook l24 (i18, i19)).getD (0, false)).2)] : List (Int × Bool))) b11 b12 i13 b14 b15 i16 i17 (i18 + 1) r26.1 i20 i21 l22 l23 l24 l25) (some (l10, i20, 0))
set_option maxRecDepth 100000 in
set_option maxHeartbeats 2000000 in
theorem ok_strike_Bring_l0 {n : Nat} {w0 : World} {R0 : Nat → Prop} {env0 : Env} {r : (List (Int × Bool)) × Int × Int} {until6 : Int} : ∀ (m : Nat) (l10 : List (Int × Bool)) (b11 : Bool) (b12 : Bool) (i13 : Int) (b14 : Bool) (b15 : Bool) (i16 : Int) (i17 : Int) (i18 : Int) (i19 : Int) (i20 : Int) (i21 : Int) (l22 : List (Int × Int)) (l23 : List ((Int × Int) × (Int × Int))) (l24 : List ((Int × Int) × (Int × Bool))) (l25 : List ((Int × Int) × Bool)), ev_strike_Bring_l0 n until6 m l10 b11 b12 i13 b14 b15 i16 i17 i18 i19 i20 i21 l22 l23 l24 l25 = some r → TC Try.prog ⟨w0, fun _ => False, R0⟩ 90 (bodyPost Try.prog Try.f32 (Post ⟨w0, fun _ => False, R0⟩ env0 (.tup [.ref 0, .val (.int .i64 r.2.1), .val (.int .i64 r.2.2)]) [.row 0 73 2 (List.map en_api_StrikeStep r.1)])) [.code (sub (bodyOf Try.f32) [1, 1, 1, 1, 1, 1, 1, 0, 0, 0, 0, 0]), .code (sub (bodyOf Try.f32) [1, 1, 1, 1, 1, 1, 1, 0, 0, 0, 0, 1]), .code (sub (bodyOf Try.f32) [1, 1, 1, 1, 1, 1, 1, 0, 0, 0, 1]), .inLoop (sub (bodyOf Try.f32) [1, 1, 1, 1, 1, 1, 1, 0, 0, 0]), .inBlock 1, .code (sub (bodyOf Try.f32) [1, 1, 1, 1, 1, 1, 1, 1])] ([(3, .val (.int .i64 until6)), (8, .ref 14), (11, .ptr 3 0), (12, .ptr 10 0), (13, .ptr 11 0), (14, .ptr 12 0)]) ([.row 14 73 2 (List.map en_api_StrikeStep l10), .blk 3 [.val (.bool b11), .val (.bool b12), .ref 2, .val (.int .i64 i13)] 84, .rob 10 [.val (.bool b14), .val (.bool b15), .ref 2, .val (.int .i64 i16), .val (.int .i64 i17), .ref 7, .ref 8, .ref 9] 101, .blk 11 [.val (.int .i64 i18), .val (.int .i64 i19)] 103, .blk 12 [.val (.int .i64 i20), .val (.int .i64 i21)] 105, .ro 2 2 (List.map en_api_Span l22), .inv 7 (mapI mk97 true en_strike_cost l23), .inv 8 (mapI mk98 true en_api_StrikeStep l24), .inv 9 (mapI mk99 false en_bool l25)]) := by
  intro m
  induction m with
  | zero => intro l10 b11 b12 i13 b14 b15 i16 i17 i18 i19 i20 i21 l22 l23 l24 l25 h; exact none_no h
  | succ m ih =>
    intro l10 b11 b12 i13 b14 b15 i16 i17 i18 i19 i20 i21 l22 l23 l24 l25 h
    rw [ev_strike_Bring_l0] at h
    refine TC.region ?_
    refine op1 3 rfl (sp_fieldAddrB rfl isBlk rfl ft103_0 vt3 (by decide)) rfl trivial rfl rfl ?_
    refine op1 3 rfl (sp_loadB rfl isBlk rfl vt3 rfl) rfl trivial rfl rfl ?_
    refine op0 (sp_move rfl rfl) rfl trivial rfl rfl ?_
    refine op0 (sp_lss rfl rfl rfl) rfl trivial rfl rfl ?_
    refine TL.nil ?_
    refine TC.cond (b := (decide (i18 < until6))) rfl (fun h8 => ?_) (fun h8 => ?_)
    · have h := cond_t h h8
      refine TC.skip ?_
      refine TC.block ?_
      refine TC.seq ?_
      refine drawJ 7 [⟨.ptr 10 0, [], [], []⟩, ⟨.ptr 10 0, [], [.rob 10 [.val (.bool b14), .val (.bool b15), .ref 2, .val (.int .i64 i16), .val (.int .i64 i17), .ref 7, .ref 8, .ref 9] 101], []⟩, ⟨.ptr 10 6, [], [.rob 10 [.val (.bool b14), .val (.bool b15), .ref 2, .val (.int .i64 i16), .val (.int .i64 i17), .ref 7, .ref 8, .ref 9] 101], []⟩, ⟨.ref 8, [], [.rob 10 [.val (.bool b14), .val (.bool b15), .ref 2, .val (.int .i64 i16), .val (.int .i64 i17), .ref 7, .ref 8, .ref 9] 101], []⟩, ⟨.agg [.val (.int .i64 i18), .val (.int .i64 i19)], [], [.blk 11 [.val (.int .i64 i18), .val (.int .i64 i19)] 103], []⟩, ⟨.agg [.val (.int .i64 (((mlook l24 (i18, i19)).getD (0, false)).1)), .val (.bool (((mlook l24 (i18, i19)).getD (0, false)).2))], [], [.inv 8 (mapI mk98 true en_api_StrikeStep l24)], []⟩, ⟨.ptr 15 0, [.blk 15 [.val (.int .i64 0), .val (.bool false)] 73], [], []⟩] rfl ?_ rfl ?_ rfl ?_ ?_
      · kernel_rfl
      · kernel_rfl
      · exact DAll.op' (sp_move rfl rfl) trivial rfl (From.ok (ps := []) trivial) (DAll.op' (sp_nilCheck rfl isRob rfl) trivial rfl (From.ok (ps := [(none, 2)]) ⟨⟨rfl, rfl⟩, trivial⟩) (DAll.op' (sp_fieldAddrB rfl isRob rfl ft101_3 vt98 (by decide)) trivial rfl (From.ok (ps := [(none, 2)]) ⟨⟨rfl, rfl⟩, trivial⟩) (DAll.op' (sp_loadB rfl isRob rfl vt98 rfl) trivial rfl (From.ok (ps := [(none, 2)]) ⟨⟨rfl, rfl⟩, trivial⟩) (DAll.op' (sp_loadBA rfl isBlk rfl vt103 rfl rfl) trivial rfl (From.ok (ps := [(none, 3)]) ⟨⟨rfl, rfl⟩, trivial⟩) (DAll.op' (sp_lookup (cm := false) (v := .agg [.val (.int .i64 (((mlook l24 (i18, i19)).getD (0, false)).1)), .val (.bool (((mlook l24 (i18, i19)).getD (0, false)).2))]) (ns := []) (i18, i19) (0, false) rfl rfl rfl (fun _ => rfl) isMapO km98 Try.zeroValue73 (fun W R => zok (ZL.v rfl (ZL.v rfl (ZL.nil))) rfl rfl W R) (.v (.v (.nil))) rfl rfl) trivial rfl (From.ok (ps := [(none, 7)]) ⟨⟨rfl, rfl⟩, trivial⟩) (DAll.op' (sp_alloc 15 rfl Try.zeroValue73 rfl) trivial rfl (From.ok (ps := []) trivial) (.nil)))))))
      refine stoB 0 (cells' := [.val (.int .i64 (((mlook l24 (i18, i19)).getD (0, false)).1)), .val (.bool (((mlook l24 (i18, i19)).getD (0, false)).2))]) rfl rfl trivial rfl rfl rfl rfl vt73 rfl rfl rfl ?_
      refine TL.nil ?_
      refine TC.seq ?_
      refine TC.region ?_
      refine op1 2 rfl (sp_loadBA rfl isBlk rfl vt84 rfl rfl) rfl trivial rfl rfl ?_
      refine op1 4 rfl (sp_fieldAddrB rfl isBlk rfl ft103_0 vt3 (by decide)) rfl trivial rfl rfl ?_
      refine op1 4 rfl (sp_loadB rfl isBlk rfl vt3 rfl) rfl trivial rfl rfl ?_
      refine op1 4 rfl (sp_fieldAddrB rfl isBlk rfl ft103_1 vt3 (by decide)) rfl trivial rfl rfl ?_
      refine op1 4 rfl (sp_loadB rfl isBlk rfl vt3 rfl) rfl trivial rfl rfl ?_
      refine op1 0 rfl (sp_loadBA rfl isBlk rfl vt73 rfl rfl) rfl trivial rfl rfl ?_
      obtain ⟨r26, h9, h⟩ := bind_inv h
      refine op1 6 rfl (sp_call (avs := [.agg [.val (.bool b11), .val (.bool b12), .ref 2, .val (.int .i64 i13)], .val (.int .i64 i18), .val (.int .i64 i19), .agg [.val (.int .i64 (((mlook l24 (i18, i19)).getD (0, false)).1)), .val (.bool (((mlook l24 (i18, i19)).getD (0, false)).2))]]) (need := [.ro 2 2 (List.map en_api_Span l22)]) (v := .tup [.val (.int .i64 r26.1), .val (.int .i64 r26.2.1), .val (.int .i64 r26.2.2)]) (news := []) rfl rfl rfl Try.call53 (atJ [(0, 2)] [] (fc_strike_train_step h9) rfl rfl) (.inl (roAll rfl))) rfl trivial rfl rfl ?_
      refine op0 (sp_move rfl rfl) rfl trivial rfl rfl ?_
      refine op0 (sp_extract rfl rfl rfl) rfl trivial rfl rfl ?_
      refine op0 (sp_extract rfl rfl rfl) rfl trivial rfl rfl ?_
      refine op0 (sp_extract rfl rfl rfl) rfl trivial rfl rfl ?_
      refine op0 (sp_assign rfl rfl) rfl trivial rfl rfl ?_
      refine op0 (sp_assign rfl rfl) rfl trivial rfl rfl ?_
      refine op0 (sp_assign rfl rfl) rfl trivial rfl rfl ?_
      refine TL.nil ?_
      obtain ⟨h10, h⟩ := chk_inv h
      obtain ⟨h11, h⟩ := chk_inv h
      refine drawJ 10 [⟨.ref 14, [], [], []⟩, ⟨.agg [.val (.int .i64 (((mlook l24 (i18, i19)).getD (0, false)).1)), .val (.bool (((mlook l24 (i18, i19)).getD (0, false)).2))], [], [.blk 15 [.val (.int .i64 (((mlook l24 (i18, i19)).getD (0, false)).1)), .val (.bool (((mlook l24 (i18, i19)).getD (0, false)).2))] 73], []⟩, ⟨.ref 16, [.row 16 73 2 (List.map en_api_StrikeStep ([(((mlook l24 (i18, i19)).getD (0, false)).1, ((mlook l24 (i18, i19)).getD (0, false)).2)] : List (Int × Bool)))], [], []⟩, ⟨.ref 17, [.row 17 73 2 (List.map en_api_StrikeStep (l10 ++ ([(((mlook l24 (i18, i19)).getD (0, false)).1, ((mlook l24 (i18, i19)).getD (0, false)).2)] : List (Int × Bool))))], [.row 16 73 2 (List.map en_api_StrikeStep ([(((mlook l24 (i18, i19)).getD (0, false)).1, ((mlook l24 (i18, i19)).getD (0, false)).2)] : List (Int × Bool)))], [.row 14 73 2 (List.map en_api_StrikeStep l10)]⟩, ⟨.ptr 11 0, [], [.blk 11 [.val (.int .i64 i18), .val (.int .i64 i19)] 103], []⟩, ⟨.val (.int .i64 i18), [], [.blk 11 [.val (.int .i64 i18), .val (.int .i64 i19)] 103], []⟩, ⟨.val (.int .i64 (i18 + 1)), [], [], []⟩, ⟨.val (.int .i64 r26.1), [], [], []⟩, ⟨.agg [.val (.int .i64 (i18 + 1)), .val (.int .i64 r26.1)], [], [], []⟩, ⟨.ref 17, [], [], []⟩] rfl ?_ rfl ?_ rfl ?_ ?_
      · kernel_rfl
      · kernel_rfl
      · exact DAll.op' (sp_move rfl rfl) trivial rfl (From.ok (ps := []) trivial) (DAll.op' (sp_loadBA rfl isBlk rfl vt73 rfl rfl) trivial rfl (From.ok (ps := [(none, 0)]) ⟨⟨rfl, by kernel_rfl⟩, trivial⟩) (DAll.op' (sp_buildSlice (qs := [.agg [.val (.int .i64 (((mlook l24 (i18, i19)).getD (0, false)).1)), .val (.bool (((mlook l24 (i18, i19)).getD (0, false)).2))]]) (need := []) (els := List.map en_api_StrikeStep ([(((mlook l24 (i18, i19)).getD (0, false)).1, ((mlook l24 (i18, i19)).getD (0, false)).2)] : List (Int × Bool))) 16 rfl sl50 (by decide) (by decide) rfl rfl rfl (.v (.v (.nil))) (map_len fun _ => rfl) rfl rfl rfl) trivial rfl (From.ok (ps := []) trivial) (DAll.opT (ts_append (N := l10.length) (N2 := ([(((mlook l24 (i18, i19)).getD (0, false)).1, ((mlook l24 (i18, i19)).getD (0, false)).2)] : List (Int × Bool)).length) 17 rfl rfl rfl isOwn rfl sl50 (len_map _ _) (len_map _ _) h10 (map_app _ _ _) rfl) trivial (From.ok (ps := [(none, 1)]) ⟨⟨rfl, by kernel_rfl⟩, trivial⟩) (From.ok (ps := [(some 2, 0)]) ⟨⟨_, rfl, by kernel_rfl, rfl, by kernel_rfl⟩, trivial⟩) (DAll.op' (sp_fieldAddrB rfl isBlk rfl ft103_0 vt3 (by decide)) trivial rfl (From.ok (ps := [(none, 4)]) ⟨⟨rfl, by kernel_rfl⟩, trivial⟩) (DAll.op' (sp_loadB rfl isBlk rfl vt3 rfl) trivial rfl (From.ok (ps := [(none, 4)]) ⟨⟨rfl, by kernel_rfl⟩, trivial⟩) (DAll.op' (sp_add rfl rfl rfl h11) trivial rfl (From.ok (ps := []) trivial) (DAll.op' (sp_move rfl rfl) trivial rfl (From.ok (ps := []) trivial) (DAll.op' (sp_build (qs := [(0, .val (.int .i64 (i18 + 1))), (1, .val (.int .i64 r26.1))]) rfl bt103 rfl rfl rfl rfl) trivial rfl (From.ok (ps := []) trivial) (DAll.op' (sp_assign rfl rfl) trivial rfl (From.ok (ps := []) trivial) (.nil))))))))))
      refine stoB 5 (cells' := [.val (.int .i64 (i18 + 1)), .val (.int .i64 r26.1)]) rfl rfl trivial rfl rfl rfl rfl vt103 rfl rfl rfl ?_
      refine TL.nil ?_
      refine TC.inBlock ?_
      refine TC.inLoop ?_
      refine TC.seq ?_
      refine TC.seq ?_
      refine subJ [(14, 17)] (ih _ _ _ _ _ _ _ _ _ _ _ _ _ _ _ _ h) ?_ ?_ ?_
      · exact ⟨rfl, rfl, rfl, rfl, rfl, rfl, trivial⟩
      · exact ⟨mem_at 0 rfl, mem_at 3 rfl, mem_at 4 rfl, mem_at 5 rfl, mem_at 6 rfl, mem_at 7 rfl, mem_at 8 rfl, mem_at 9 rfl, mem_at 10 rfl, trivial⟩
      · rfl
    · have h := cond_f h h8
      refine TC.exit rfl ?_
      refine TC.seq ?_
      refine drawJ 4 [⟨.ref 14, [], [], []⟩, ⟨.ptr 12 0, [], [.blk 12 [.val (.int .i64 i20), .val (.int .i64 i21)] 105], []⟩, ⟨.val (.int .i64 i20), [], [.blk 12 [.val (.int .i64 i20), .val (.int .i64 i21)] 105], []⟩, ⟨.ref 14, [], [], []⟩] rfl ?_ rfl ?_ rfl ?_ ?_
      · kernel_rfl
      · kernel_rfl
      · exact DAll.op' (sp_move rfl rfl) trivial rfl (From.ok (ps := []) trivial) (DAll.op' (sp_fieldAddrB rfl isBlk rfl ft105_0 vt3 (by decide)) trivial rfl (From.ok (ps := [(none, 4)]) ⟨⟨rfl, rfl⟩, trivial⟩) (DAll.op' (sp_loadB rfl isBlk rfl vt3 rfl) trivial rfl (From.ok (ps := [(none, 4)]) ⟨⟨rfl, rfl⟩, trivial⟩) (DAll.op' (sp_assign rfl rfl) trivial rfl (From.ok (ps := []) trivial) (.nil))))
      refine op0 (sp_assign rfl rfl) rfl trivial rfl rfl ?_
      refine op0 (sp_assign rfl rfl) rfl trivial rfl rfl ?_
      refine TL.nil ?_
      cases h
      exact retJ [(0, 14)] (.tmp rfl (.tmp rfl (.tmp rfl .nil))) rfl ⟨mem_at 0 rfl, trivial⟩ rfl rfl
def ev_strike_Bring (n : Nat) (rr1 : Bool) (rr2 : Bool) (rr3 : List (Int × Int)) (slot4 : Int) (place5 : Int) (until6 : Int) : Option ((List (Int × Bool)) × Int × Int) :=
  (ev_strike_begin n rr1 rr2 rr3 slot4 place5).bind fun r7 => cond (r7.2.2.2.2 != 0) (some (([] : List (Int × Bool)), 0, r7.2.2.2.2)) (chk (in64 (slot4 + 96)) <| (ev_strike_within n slot4 (slot4 + 96) ([until6] : List Int)).bind fun r8 => cond (!r8) (some (([] : List (Int × Bool)), 0, 3)) ((ev_p_strike_best_from n r7.1 r7.2.1 r7.2.2.1 r7.2.2.2.1 until6 ([] : List ((Int × Int) × (Int × Int))) ([] : List ((Int × Int) × (Int × Bool))) ([] : List ((Int × Int) × Bool)) slot4 place5).bind fun r9 => cond (!r9.2.2.1) (some (([] : List (Int × Bool)), 0, 7)) (ev_strike_Bring_l0 n until6 n ([] : List (Int × Bool)) r7.1 r7.2.1 r7.2.2.2.1 r7.1 r7.2.1 r7.2.2.2.1 until6 slot4 place5 r9.1 r9.2.1 r7.2.2.1 r9.2.2.2.1 r9.2.2.2.2.1 r9.2.2.2.2.2)))
set_option maxRecDepth 100000 in
set_option maxHeartbeats 2000000 in
theorem fc_strike_Bring {n : Nat} {rr1 : Bool} {rr2 : Bool} {rr3 : List (Int × Int)} {slot4 : Int} {place5 : Int} {until6 : Int} {r : (List (Int × Bool)) × Int × Int} (h : ev_strike_Bring n rr1 rr2 rr3 slot4 place5 until6 = some r) : FC Try.prog 32 [.agg [.val (.bool rr1), .val (.bool rr2), .ref 0], .val (.int .i64 slot4), .val (.int .i64 place5), .val (.int .i64 until6)] [.ro 0 2 (List.map en_api_Span rr3)] (.tup [.ref 0, .val (.int .i64 r.2.1), .val (.int .i64 r.2.2)]) [.row 0 73 2 (List.map en_api_StrikeStep r.1)] := by
  refine introJ (nz := 90) Try.func32 rfl rfl rfl (fun w0 R0 env0 => ?_)
  rw [ev_strike_Bring] at h
  refine TC.seq ?_
  refine TC.region ?_
  refine op0 (sp_box 1 rfl rfl rfl rfl rfl) rfl trivial rfl rfl ?_
  refine op0 (sp_assign rfl rfl) rfl trivial rfl rfl ?_
  refine op0 (sp_assign rfl rfl) rfl trivial rfl rfl ?_
  refine op0 (sp_assign rfl rfl) rfl trivial rfl rfl ?_
  refine TL.nil ?_
  refine TC.seq ?_
  refine TC.region ?_
  refine op1 0 rfl (sp_loadBA rfl isBlk rfl vt24 rfl rfl) rfl trivial rfl rfl ?_
  refine op0 (sp_move rfl rfl) rfl trivial rfl rfl ?_
  refine op0 (sp_move rfl rfl) rfl trivial rfl rfl ?_
  obtain ⟨r7, h1, h⟩ := bind_inv h
  refine op1 1 rfl (sp_call (avs := [.agg [.val (.bool rr1), .val (.bool rr2), .ref 0], .val (.int .i64 slot4), .val (.int .i64 place5)]) (need := [.ro 0 2 (List.map en_api_Span rr3)]) (v := .tup [.agg [.val (.bool r7.1), .val (.bool r7.2.1), .ref 2, .val (.int .i64 r7.2.2.2.1)], .val (.int .i64 r7.2.2.2.2)]) (news := [.ro 2 2 (List.map en_api_Span r7.2.2.1)]) rfl rfl rfl Try.call52 (atJ [] [(0, 2)] (fc_strike_begin h1) rfl rfl) (.inl (roAll rfl))) rfl trivial rfl rfl ?_
  refine op0 (sp_move rfl rfl) rfl trivial rfl rfl ?_
  refine op0 (sp_extract rfl rfl rfl) rfl trivial rfl rfl ?_
  refine op0 (sp_extract rfl rfl rfl) rfl trivial rfl rfl ?_
  refine op0 (sp_alloc 3 rfl Try.zeroValue84 rfl) rfl trivial rfl rfl ?_
  refine stoB 0 (cells' := [.val (.bool r7.1), .val (.bool r7.2.1), .ref 2, .val (.int .i64 r7.2.2.2.1)]) rfl rfl trivial rfl rfl rfl rfl vt84 rfl rfl rfl ?_
  refine op0 (sp_assign rfl rfl) rfl trivial rfl rfl ?_
  refine TL.nil ?_
  refine TC.seq ?_
  refine TC.block ?_
  refine TC.seq ?_
  refine TC.region ?_
  refine op0 (sp_move rfl rfl) rfl trivial rfl rfl ?_
  refine op0 (sp_neq rfl rfl rfl) rfl trivial rfl rfl ?_
  refine op0 (sp_assign rfl rfl) rfl trivial rfl rfl ?_
  refine TL.nil ?_
  refine TC.cond (b := (r7.2.2.2.2 != 0)) rfl (fun h2 => ?_) (fun h2 => ?_)
  · have h := cond_t h h2
    refine TC.seq ?_
    refine TC.region ?_
    refine op0 (sp_move rfl rfl) rfl trivial rfl rfl ?_
    refine op0 (sp_assign rfl rfl) rfl trivial rfl rfl ?_
    refine op0 (sp_assign rfl rfl) rfl trivial rfl rfl ?_
    refine op0 (sp_assign rfl rfl) rfl trivial rfl rfl ?_
    refine TL.nil ?_
    refine nilRowC 8 4 73 2 (List.map en_api_StrikeStep []) rfl rfl rfl ?_
    cases h
    exact retJ [(0, 4)] (.tmp rfl (.tmp rfl (.tmp rfl .nil))) rfl ⟨mem_at 0 rfl, trivial⟩ rfl rfl
  · have h := cond_f h h2
    refine TC.seq ?_
    refine TC.region ?_
    refine op0 (sp_move rfl rfl) rfl trivial rfl rfl ?_
    refine op0 (sp_move rfl rfl) rfl trivial rfl rfl ?_
    obtain ⟨h3, h⟩ := chk_inv h
    refine op0 (sp_add rfl rfl rfl h3) rfl trivial rfl rfl ?_
    refine op0 (sp_move rfl rfl) rfl trivial rfl rfl ?_
    refine op0 (sp_buildSlice (qs := [.val (.int .i64 until6)]) (need := []) (els := List.map en_int ([until6] : List Int)) 5 rfl sl39 (by decide) (by decide) rfl rfl rfl (.v (.nil)) (map_len fun _ => rfl) rfl rfl rfl) rfl trivial rfl rfl ?_
    obtain ⟨r8, h4, h⟩ := bind_inv h
    refine op1 0 rfl (sp_call (avs := [.val (.int .i64 slot4), .val (.int .i64 (slot4 + 96)), .ref 5]) (need := [.row 5 3 1 (List.map en_int ([until6] : List Int))]) (v := .val (.bool r8)) (news := []) rfl rfl rfl Try.call40 (atJ [(0, 5)] [] (fc_strike_within h4) rfl rfl) (.inr (fun x hx => nomatch hx))) rfl trivial rfl rfl ?_
    refine op0 (sp_not rfl rfl) rfl trivial rfl rfl ?_
    refine op0 (sp_assign rfl rfl) rfl trivial rfl rfl ?_
    refine TL.nil ?_
    refine TC.cond (b := (!r8)) rfl (fun h5 => ?_) (fun h5 => ?_)
    · have h := cond_t h h5
      refine TC.seq ?_
      refine TC.region ?_
      refine op0 (sp_assign rfl rfl) rfl trivial rfl rfl ?_
      refine op0 (sp_assign rfl rfl) rfl trivial rfl rfl ?_
      refine op0 (sp_assign rfl rfl) rfl trivial rfl rfl ?_
      refine TL.nil ?_
      refine nilRowC 8 6 73 2 (List.map en_api_StrikeStep []) rfl rfl rfl ?_
      cases h
      exact retJ [(0, 6)] (.tmp rfl (.tmp rfl (.tmp rfl .nil))) rfl ⟨mem_at 0 rfl, trivial⟩ rfl rfl
    · have h := cond_f h h5
      refine TC.skip ?_
      refine TC.inBlock ?_
      refine TC.seq ?_
      refine TC.region ?_
      refine op1 1 rfl (sp_loadBA rfl isBlk rfl vt84 rfl rfl) rfl trivial rfl rfl ?_
      refine op0 (sp_move rfl rfl) rfl trivial rfl rfl ?_
      refine op0 (sp_makeMap (ek := mk97) (ag := true) (ev := en_strike_cost) 7 ([] : List ((Int × Int) × (Int × Int))) rfl rfl) rfl trivial rfl rfl ?_
      refine op0 (sp_makeMap (ek := mk98) (ag := true) (ev := en_api_StrikeStep) 8 ([] : List ((Int × Int) × (Int × Bool))) rfl rfl) rfl trivial rfl rfl ?_
      refine op0 (sp_makeMap (ek := mk99) (ag := false) (ev := en_bool) 9 ([] : List ((Int × Int) × Bool)) rfl rfl) rfl trivial rfl rfl ?_
      refine op0 (sp_build (qs := [(0, .agg [.val (.bool r7.1), .val (.bool r7.2.1), .ref 2, .val (.int .i64 r7.2.2.2.1)]), (1, .val (.int .i64 until6)), (2, .ref 7), (3, .ref 8), (4, .ref 9)]) rfl bt101 rfl rfl rfl rfl) rfl trivial rfl rfl ?_
      refine op0 (sp_box 10 rfl rfl rfl rfl rfl) rfl trivial rfl rfl ?_
      refine op0 (sp_assign rfl rfl) rfl trivial rfl rfl ?_
      refine TL.nil ?_
      refine TC.seq ?_
      refine TC.region ?_
      refine op0 (sp_move rfl rfl) rfl trivial rfl rfl ?_
      refine op0 (sp_move rfl rfl) rfl trivial rfl rfl ?_
      refine op0 (sp_build (qs := [(0, .val (.int .i64 slot4)), (1, .val (.int .i64 place5))]) rfl bt103 rfl rfl rfl rfl) rfl trivial rfl rfl ?_
      refine op0 (sp_alloc 11 rfl Try.zeroValue103 rfl) rfl trivial rfl rfl ?_
      refine stoB 0 (cells' := [.val (.int .i64 slot4), .val (.int .i64 place5)]) rfl rfl trivial rfl rfl rfl rfl vt103 rfl rfl rfl ?_
      refine TL.nil ?_
      refine TC.seq ?_
      refine TC.region ?_
      refine op0 (sp_move rfl rfl) rfl trivial rfl rfl ?_
      refine op1 0 rfl (sp_loadBA rfl isBlk rfl vt103 rfl rfl) rfl trivial rfl rfl ?_
      refine TL.freeze 1 rfl ?_
      obtain ⟨r9, h6, h⟩ := bind_inv h
      refine opT (take := [.inv 7 (mapI mk97 true en_strike_cost ([] : List ((Int × Int) × (Int × Int)))), .inv 8 (mapI mk98 true en_api_StrikeStep ([] : List ((Int × Int) × (Int × Bool)))), .inv 9 (mapI mk99 false en_bool ([] : List ((Int × Int) × Bool)))]) (need := [.rob 10 [.val (.bool r7.1), .val (.bool r7.2.1), .ref 2, .val (.int .i64 r7.2.2.2.1), .val (.int .i64 until6), .ref 7, .ref 8, .ref 9] 101, .ro 2 2 (List.map en_api_Span r7.2.2.1)]) (V' := [.inv 7 (mapI mk97 true en_strike_cost r9.2.2.2.1), .inv 8 (mapI mk98 true en_api_StrikeStep r9.2.2.2.2.1), .inv 9 (mapI mk99 false en_bool r9.2.2.2.2.2), .blk 11 [.val (.int .i64 slot4), .val (.int .i64 place5)] 103, .rob 10 [.val (.bool r7.1), .val (.bool r7.2.1), .ref 2, .val (.int .i64 r7.2.2.2.1), .val (.int .i64 until6), .ref 7, .ref 8, .ref 9] 101, .row 5 3 1 (List.map en_int ([until6] : List Int)), .blk 3 [.val (.bool r7.1), .val (.bool r7.2.1), .ref 2, .val (.int .i64 r7.2.2.2.1)] 84, .ro 2 2 (List.map en_api_Span r7.2.2.1), .blk 1 [.val (.bool rr1), .val (.bool rr2), .ref 0] 24, .ro 0 2 (List.map en_api_Span rr3)]) [4, 3, 2] [1, 7] (ts_call (avs := [.ptr 10 0, .agg [.val (.int .i64 slot4), .val (.int .i64 place5)]]) (take := [.inv 7 (mapI mk97 true en_strike_cost ([] : List ((Int × Int) × (Int × Int)))), .inv 8 (mapI mk98 true en_api_StrikeStep ([] : List ((Int × Int) × (Int × Bool)))), .inv 9 (mapI mk99 false en_bool ([] : List ((Int × Int) × Bool)))]) (need := [.rob 10 [.val (.bool r7.1), .val (.bool r7.2.1), .ref 2, .val (.int .i64 r7.2.2.2.1), .val (.int .i64 until6), .ref 7, .ref 8, .ref 9] 101, .ro 2 2 (List.map en_api_Span r7.2.2.1)]) (v := .tup [.agg [.val (.int .i64 r9.1), .val (.int .i64 r9.2.1)], .val (.bool r9.2.2.1)]) (news := [.inv 7 (mapI mk97 true en_strike_cost r9.2.2.2.1), .inv 8 (mapI mk98 true en_api_StrikeStep r9.2.2.2.2.1), .inv 9 (mapI mk99 false en_bool r9.2.2.2.2.2)]) rfl rfl rfl Try.call55 (atT [(0, 10), (1, 2), (2, 7), (3, 8), (4, 9)] [(2, 7), (3, 8), (4, 9)] (ft_p_strike_best_from h6) rfl rfl rfl) rfl rfl) trivial rfl ⟨rfl, rfl, rfl, trivial⟩ ⟨rfl, rfl, trivial⟩ rfl rfl ?_
      refine op0 (sp_move rfl rfl) rfl trivial rfl rfl ?_
      refine op0 (sp_extract rfl rfl rfl) rfl trivial rfl rfl ?_
      refine op0 (sp_extract rfl rfl rfl) rfl trivial rfl rfl ?_
      refine op0 (sp_alloc 12 rfl Try.zeroValue105 rfl) rfl trivial rfl rfl ?_
      refine stoB 0 (cells' := [.val (.int .i64 r9.1), .val (.int .i64 r9.2.1)]) rfl rfl trivial rfl rfl rfl rfl vt105 rfl rfl rfl ?_
      refine op0 (sp_assign rfl rfl) rfl trivial rfl rfl ?_
      refine TL.nil ?_
      refine TC.seq ?_
      refine TC.seq ?_
      refine TC.region ?_
      refine op0 (sp_move rfl rfl) rfl trivial rfl rfl ?_
      refine op0 (sp_not rfl rfl) rfl trivial rfl rfl ?_
      refine TL.nil ?_
      refine TC.cond (b := (!r9.2.2.1)) rfl (fun h7 => ?_) (fun h7 => ?_)
      · have h := cond_t h h7
        refine TC.seq ?_
        refine TC.region ?_
        refine op0 (sp_assign rfl rfl) rfl trivial rfl rfl ?_
        refine op0 (sp_assign rfl rfl) rfl trivial rfl rfl ?_
        refine op0 (sp_assign rfl rfl) rfl trivial rfl rfl ?_
        refine TL.nil ?_
        refine nilRowC 8 13 73 2 (List.map en_api_StrikeStep []) rfl rfl rfl ?_
        cases h
        exact retJ [(0, 13)] (.tmp rfl (.tmp rfl (.tmp rfl .nil))) rfl ⟨mem_at 0 rfl, trivial⟩ rfl rfl
      · have h := cond_f h h7
        refine TC.skip ?_
        refine TC.seq ?_
        refine TC.block ?_
        refine TC.loop ?_
        refine TC.seq ?_
        refine TC.seq ?_
        refine nilRowC 8 18 73 2 (List.map en_api_StrikeStep []) rfl rfl rfl ?_
        refine subJ [(14, 18)] (ok_strike_Bring_l0 _ _ _ _ _ _ _ _ _ _ _ _ _ _ _ _ _ h) ?_ ?_ ?_
        · exact ⟨rfl, rfl, rfl, rfl, rfl, rfl, trivial⟩
        · exact ⟨mem_at 0 rfl, mem_at 8 rfl, mem_at 6 rfl, mem_at 5 rfl, mem_at 1 rfl, mem_at 9 rfl, mem_at 2 rfl, mem_at 3 rfl, mem_at 4 rfl, trivial⟩
        · rfl
/- strike_Play -/
def ev_strike_Play_l0 (n : Nat) (plan6 : List (Int × Bool)) (slot4 : Int) : Nat → Int → Int → Int → Bool → Bool → Int → (List (Int × Bool)) → (List (Int × Int)) → Option (Int × Int × Int)
  | 0, _, _, _, _, _, _, _, _ => none
  | m + 1, i8, i9, i10, b11, b12, i13, l14, l15 => cond (decide (i10 < (plan6.length : Int))) (idx l14 i10 fun x16 => chk (in64 (slot4 + i10)) <| (ev_strike_train_step n b11 b12 l15 i13 (slot4 + i10) i8 x16.1 x16.2).bind fun r17 => cond (r17.2.2 != 0) (some (0, 0, r17.2.2)) (chk (in64 (i9 + r17.2.1)) <| chk (in64 (i10 + 1)) <| ev_strike_Play_l0 n plan6 slot4 m r17.1 (i9 + r17.2.1) (i10 + 1) b11 b12 i13 l14 l15)) (some (i8, i9, 0))
set_option maxRecDepth 100000 in
set_option maxHeartbeats 2000000 in
theorem ok_strike_Play_l0 {n : Nat} {w0 : World} {R0 : Nat → Prop} {env0 : Env} {r : Int × Int × Int} {slot4 : Int} {plan6 : List (Int × Bool)} : ∀ (m : Nat) (i8 : Int) (i9 : Int) (i10 : Int) (b11 : Bool) (b12 : Bool) (i13 : Int) (l14 : List (Int × Bool)) (l15 : List (Int × Int)), ev_strike_Play_l0 n plan6 slot4 m i8 i9 i10 b11 b12 i13 l14 l15 = some r → TC Try.prog ⟨w0, fun _ => False, R0⟩ 61 (bodyPost Try.prog Try.f28 (Post ⟨w0, fun _ => False, R0⟩ env0 (.tup [.val (.int .i64 r.1), .val (.int .i64 r.2.1), .val (.int .i64 r.2.2)]) [])) [.code (sub (bodyOf Try.f28) [1, 1, 1, 1, 0, 1, 0, 0, 0]), .code (sub (bodyOf Try.f28) [1, 1, 1, 1, 0, 1, 0, 0, 1]), .inLoop (sub (bodyOf Try.f28) [1, 1, 1, 1, 0, 1, 0, 0]), .inBlock 1, .code (sub (bodyOf Try.f28) [1, 1, 1, 1, 1])] ([(1, .val (.int .i64 slot4)), (8, .val (.int .i64 i8)), (9, .val (.int .i64 i9)), (11, .ptr 4 0), (33, .ref 1), (34, .val (.int .i64 (plan6.length : Int))), (35, .val (.int .i64 i10))]) ([.blk 4 [.val (.bool b11), .val (.bool b12), .ref 3, .val (.int .i64 i13)] 84, .ro 1 2 (List.map en_api_StrikeStep l14), .ro 3 2 (List.map en_api_Span l15)]) := by
  intro m
  induction m with
  | zero => intro i8 i9 i10 b11 b12 i13 l14 l15 h; exact none_no h
  | succ m ih =>
    intro i8 i9 i10 b11 b12 i13 l14 l15 h
    rw [ev_strike_Play_l0] at h
    refine TC.region ?_
    refine op0 (sp_lss rfl rfl rfl) rfl trivial rfl rfl ?_
    refine TL.nil ?_
    refine TC.seq ?_
    refine TC.cond (b := (decide (i10 < (plan6.length : Int)))) rfl (fun h4 => ?_) (fun h4 => ?_)
    · have h := cond_t h h4
      refine TC.skip ?_
      refine TC.seq ?_
      refine TC.block ?_
      refine TC.seq ?_
      refine TC.region ?_
      refine op0 (sp_move rfl rfl) rfl trivial rfl rfl ?_
      obtain ⟨x16, h5, h6, h⟩ := idx_inv h
      refine op1 1 rfl (sp_indexS rfl rfl rfl isRo sl50 h5 (map_get _ h6)) rfl trivial rfl rfl ?_
      refine op1 1 rfl (sp_loadRA (i := (i10 : Int).toNat) (j := 0) (as_ := [.val (.int .i64 x16.1), .val (.bool x16.2)]) (ns := []) rfl rfl isRo vt73 rfl (map_get _ h6) rfl rfl (by decide) (.v (.v (.nil))) (nodup_of_B rfl)) rfl trivial rfl rfl ?_
      refine op0 (sp_alloc 5 rfl Try.zeroValue73 rfl) rfl trivial rfl rfl ?_
      refine op0 (sp_assign rfl rfl) rfl trivial rfl rfl ?_
      refine stoB 0 (cells' := [.val (.int .i64 x16.1), .val (.bool x16.2)]) rfl rfl trivial rfl rfl rfl rfl vt73 rfl rfl rfl ?_
      refine TL.nil ?_
      refine TC.seq ?_
      refine TC.region ?_
      refine op1 1 rfl (sp_loadBA rfl isBlk rfl vt84 rfl rfl) rfl trivial rfl rfl ?_
      refine op0 (sp_move rfl rfl) rfl trivial rfl rfl ?_
      refine op0 (sp_move rfl rfl) rfl trivial rfl rfl ?_
      obtain ⟨h7, h⟩ := chk_inv h
      refine op0 (sp_add rfl rfl rfl h7) rfl trivial rfl rfl ?_
      refine op0 (sp_move rfl rfl) rfl trivial rfl rfl ?_
      refine op1 0 rfl (sp_loadBA rfl isBlk rfl vt73 rfl rfl) rfl trivial rfl rfl ?_
      obtain ⟨r17, h8, h⟩ := bind_inv h
      refine op1 3 rfl (sp_call (avs := [.agg [.val (.bool b11), .val (.bool b12), .ref 3, .val (.int .i64 i13)], .val (.int .i64 (slot4 + i10)), .val (.int .i64 i8), .agg [.val (.int .i64 x16.1), .val (.bool x16.2)]]) (need := [.ro 3 2 (List.map en_api_Span l15)]) (v := .tup [.val (.int .i64 r17.1), .val (.int .i64 r17.2.1), .val (.int .i64 r17.2.2)]) (news := []) rfl rfl rfl Try.call53 (atJ [(0, 3)] [] (fc_strike_train_step h8) rfl rfl) (.inl (roAll rfl))) rfl trivial rfl rfl ?_
      refine op0 (sp_move rfl rfl) rfl trivial rfl rfl ?_
      refine op0 (sp_extract rfl rfl rfl) rfl trivial rfl rfl ?_
      refine op0 (sp_extract rfl rfl rfl) rfl trivial rfl rfl ?_
      refine op0 (sp_extract rfl rfl rfl) rfl trivial rfl rfl ?_
      refine op0 (sp_assign rfl rfl) rfl trivial rfl rfl ?_
      refine op0 (sp_assign rfl rfl) rfl trivial rfl rfl ?_
      refine op0 (sp_assign rfl rfl) rfl trivial rfl rfl ?_
      refine TL.nil ?_
      refine TC.seq ?_
      refine TC.seq ?_
      refine TC.region ?_
      refine op0 (sp_move rfl rfl) rfl trivial rfl rfl ?_
      refine op0 (sp_neq rfl rfl rfl) rfl trivial rfl rfl ?_
      refine TL.nil ?_
      refine TC.cond (b := (r17.2.2 != 0)) rfl (fun h9 => ?_) (fun h9 => ?_)
      · have h := cond_t h h9
        refine TC.seq ?_
        refine TC.region ?_
        refine op0 (sp_move rfl rfl) rfl trivial rfl rfl ?_
        refine op0 (sp_assign rfl rfl) rfl trivial rfl rfl ?_
        refine op0 (sp_assign rfl rfl) rfl trivial rfl rfl ?_
        refine op0 (sp_assign rfl rfl) rfl trivial rfl rfl ?_
        refine TL.nil ?_
        cases h
        exact retJ [] (.tmp rfl (.tmp rfl (.tmp rfl .nil))) rfl trivial rfl rfl
      · have h := cond_f h h9
        refine TC.skip ?_
        refine TC.region ?_
        refine op0 (sp_move rfl rfl) rfl trivial rfl rfl ?_
        refine op0 (sp_move rfl rfl) rfl trivial rfl rfl ?_
        refine op0 (sp_move rfl rfl) rfl trivial rfl rfl ?_
        obtain ⟨h10, h⟩ := chk_inv h
        refine op0 (sp_add rfl rfl rfl h10) rfl trivial rfl rfl ?_
        refine op0 (sp_assign rfl rfl) rfl trivial rfl rfl ?_
        refine op0 (sp_assign rfl rfl) rfl trivial rfl rfl ?_
        refine TL.nil ?_
        refine TC.inBlock ?_
        refine TC.region ?_
        obtain ⟨h11, h⟩ := chk_inv h
        refine op0 (sp_add rfl rfl rfl h11) rfl trivial rfl rfl ?_
        refine op0 (sp_move rfl rfl) rfl trivial rfl rfl ?_
        refine TL.nil ?_
        refine TC.inLoop ?_
        refine TC.seq ?_
        refine subJ [] (ih _ _ _ _ _ _ _ _ h) ?_ ?_ ?_
        · exact ⟨rfl, rfl, rfl, rfl, rfl, rfl, rfl, trivial⟩
        · exact ⟨mem_at 1 rfl, mem_at 2 rfl, mem_at 3 rfl, trivial⟩
        · rfl
    · have h := cond_f h h4
      refine TC.exit rfl ?_
      refine TC.seq ?_
      refine TC.region ?_
      refine op0 (sp_move rfl rfl) rfl trivial rfl rfl ?_
      refine op0 (sp_move rfl rfl) rfl trivial rfl rfl ?_
      refine op0 (sp_assign rfl rfl) rfl trivial rfl rfl ?_
      refine op0 (sp_assign rfl rfl) rfl trivial rfl rfl ?_
      refine op0 (sp_assign rfl rfl) rfl trivial rfl rfl ?_
      refine TL.nil ?_
      cases h
      exact retJ [] (.tmp rfl (.tmp rfl (.tmp rfl .nil))) rfl trivial rfl rfl
def ev_strike_Play (n : Nat) (rr1 : Bool) (rr2 : Bool) (rr3 : List (Int × Int)) (slot4 : Int) (place5 : Int) (plan6 : List (Int × Bool)) : Option (Int × Int × Int) :=
  (ev_strike_begin n rr1 rr2 rr3 slot4 place5).bind fun r7 => cond (r7.2.2.2.2 != 0) (some (0, 0, r7.2.2.2.2)) (cond (decide ((96 : Int) < (plan6.length : Int))) (some (0, 0, 5)) (ev_strike_Play_l0 n plan6 slot4 n place5 0 0 r7.1 r7.2.1 r7.2.2.2.1 plan6 r7.2.2.1))
set_option maxRecDepth 100000 in
set_option maxHeartbeats 2000000 in
theorem fc_strike_Play {n : Nat} {rr1 : Bool} {rr2 : Bool} {rr3 : List (Int × Int)} {slot4 : Int} {place5 : Int} {plan6 : List (Int × Bool)} {r : Int × Int × Int} (h : ev_strike_Play n rr1 rr2 rr3 slot4 place5 plan6 = some r) : FC Try.prog 28 [.agg [.val (.bool rr1), .val (.bool rr2), .ref 0], .val (.int .i64 slot4), .val (.int .i64 place5), .ref 1] [.ro 0 2 (List.map en_api_Span rr3), .ro 1 2 (List.map en_api_StrikeStep plan6)] (.tup [.val (.int .i64 r.1), .val (.int .i64 r.2.1), .val (.int .i64 r.2.2)]) [] := by
  refine introJ (nz := 61) Try.func28 rfl rfl rfl (fun w0 R0 env0 => ?_)
  rw [ev_strike_Play] at h
  refine TC.seq ?_
  refine TC.region ?_
  refine op0 (sp_box 2 rfl rfl rfl rfl rfl) rfl trivial rfl rfl ?_
  refine op0 (sp_assign rfl rfl) rfl trivial rfl rfl ?_
  refine op0 (sp_assign rfl rfl) rfl trivial rfl rfl ?_
  refine op0 (sp_assign rfl rfl) rfl trivial rfl rfl ?_
  refine TL.nil ?_
  refine TC.seq ?_
  refine TC.region ?_
  refine op1 0 rfl (sp_loadBA rfl isBlk rfl vt24 rfl rfl) rfl trivial rfl rfl ?_
  refine op0 (sp_move rfl rfl) rfl trivial rfl rfl ?_
  refine op0 (sp_move rfl rfl) rfl trivial rfl rfl ?_
  obtain ⟨r7, h1, h⟩ := bind_inv h
  refine op1 1 rfl (sp_call (avs := [.agg [.val (.bool rr1), .val (.bool rr2), .ref 0], .val (.int .i64 slot4), .val (.int .i64 place5)]) (need := [.ro 0 2 (List.map en_api_Span rr3)]) (v := .tup [.agg [.val (.bool r7.1), .val (.bool r7.2.1), .ref 3, .val (.int .i64 r7.2.2.2.1)], .val (.int .i64 r7.2.2.2.2)]) (news := [.ro 3 2 (List.map en_api_Span r7.2.2.1)]) rfl rfl rfl Try.call52 (atJ [] [(0, 3)] (fc_strike_begin h1) rfl rfl) (.inl (roAll rfl))) rfl trivial rfl rfl ?_
  refine op0 (sp_move rfl rfl) rfl trivial rfl rfl ?_
  refine op0 (sp_extract rfl rfl rfl) rfl trivial rfl rfl ?_
  refine op0 (sp_extract rfl rfl rfl) rfl trivial rfl rfl ?_
  refine op0 (sp_alloc 4 rfl Try.zeroValue84 rfl) rfl trivial rfl rfl ?_
  refine stoB 0 (cells' := [.val (.bool r7.1), .val (.bool r7.2.1), .ref 3, .val (.int .i64 r7.2.2.2.1)]) rfl rfl trivial rfl rfl rfl rfl vt84 rfl rfl rfl ?_
  refine op0 (sp_assign rfl rfl) rfl trivial rfl rfl ?_
  refine TL.nil ?_
  refine TC.seq ?_
  refine TC.block ?_
  refine TC.seq ?_
  refine TC.region ?_
  refine op0 (sp_move rfl rfl) rfl trivial rfl rfl ?_
  refine op0 (sp_neq rfl rfl rfl) rfl trivial rfl rfl ?_
  refine op0 (sp_assign rfl rfl) rfl trivial rfl rfl ?_
  refine TL.nil ?_
  refine TC.cond (b := (r7.2.2.2.2 != 0)) rfl (fun h2 => ?_) (fun h2 => ?_)
  · have h := cond_t h h2
    refine TC.seq ?_
    refine TC.region ?_
    refine op0 (sp_move rfl rfl) rfl trivial rfl rfl ?_
    refine op0 (sp_assign rfl rfl) rfl trivial rfl rfl ?_
    refine op0 (sp_assign rfl rfl) rfl trivial rfl rfl ?_
    refine op0 (sp_assign rfl rfl) rfl trivial rfl rfl ?_
    refine TL.nil ?_
    cases h
    exact retJ [] (.tmp rfl (.tmp rfl (.tmp rfl .nil))) rfl trivial rfl rfl
  · have h := cond_f h h2
    refine TC.seq ?_
    refine TC.region ?_
    refine op0 (sp_move rfl rfl) rfl trivial rfl rfl ?_
    refine op1 4 rfl (sp_lenM (N := plan6.length) (len_map _ _) rfl rfl isRo Try.underlying50) rfl trivial rfl rfl ?_
    refine op0 (sp_gtr rfl rfl rfl) rfl trivial rfl rfl ?_
    refine op0 (sp_assign rfl rfl) rfl trivial rfl rfl ?_
    refine TL.nil ?_
    refine TC.cond (b := (decide ((96 : Int) < (plan6.length : Int)))) rfl (fun h3 => ?_) (fun h3 => ?_)
    · have h := cond_t h h3
      refine TC.seq ?_
      refine TC.region ?_
      refine op0 (sp_assign rfl rfl) rfl trivial rfl rfl ?_
      refine op0 (sp_assign rfl rfl) rfl trivial rfl rfl ?_
      refine op0 (sp_assign rfl rfl) rfl trivial rfl rfl ?_
      refine TL.nil ?_
      cases h
      exact retJ [] (.tmp rfl (.tmp rfl (.tmp rfl .nil))) rfl trivial rfl rfl
    · have h := cond_f h h3
      refine TC.skip ?_
      refine TC.inBlock ?_
      refine TC.seq ?_
      refine TC.region ?_
      refine op0 (sp_move rfl rfl) rfl trivial rfl rfl ?_
      refine op0 (sp_assign rfl rfl) rfl trivial rfl rfl ?_
      refine TL.nil ?_
      refine TC.seq ?_
      refine TC.seq ?_
      refine TC.region ?_
      refine op0 (sp_move rfl rfl) rfl trivial rfl rfl ?_
      refine op1 4 rfl (sp_lenM (N := plan6.length) (len_map _ _) rfl rfl isRo Try.underlying50) rfl trivial rfl rfl ?_
      refine op0 (sp_move rfl rfl) rfl trivial rfl rfl ?_
      refine TL.nil ?_
      refine TC.block ?_
      refine TC.loop ?_
      refine TC.seq ?_
      refine subJ [] (ok_strike_Play_l0 _ _ _ _ _ _ _ _ _ h) ?_ ?_ ?_
      · exact ⟨rfl, rfl, rfl, rfl, rfl, rfl, rfl, trivial⟩
      · exact ⟨mem_at 0 rfl, mem_at 4 rfl, mem_at 1 rfl, trivial⟩
      · rfl
end
end Go.Proofs.Ytglgkcfgjaoabaa.Sy
