/- What functions of the program compute, and that they do: printed by symgen.py. -/
import Derived.Test.YtohjpfkcahlfkaaPlGLib
import Derived.Test.YtohjpfkcahlfkaaPlGRoundB
set_option linter.unusedSimpArgs false
set_option linter.unusedVariables false
namespace Go.Proofs.Ytohjpfkcahlfkaa.Sy
open Go.RowKit
noncomputable section
set_option maxRecDepth 100000
set_option maxHeartbeats 2000000
def ev_p_round_office_shares_v1_j1 (n : Nat) (o1 : List (Int × Int × Int × Int × Int)) (o2 : List ((List Int))) (o3 : List (Int × Int × Int × Int)) (o4 : Int) (o5 : Int) (x19 : Int × Int) (y20 : (List (Int × (List Int))) × Int × Int × (List ((Int × Int) × (((Int × (List Int) × Int × Bool))))) × Bool × Int) (i23 : Int) (i24 : Int) (i25 : Int) (l26 : List ((Int × Int) × (((Int × (List Int) × Int × Bool))))) (b27 : Bool) (i28 : Int) (l29 : List (Int × (List Int))) : Option (Nat × ((List (Int × (List Int))) × Int × Int × (List ((Int × Int) × (((Int × (List Int) × Int × Bool))))) × Bool × Int)) :=
  chk (in64 (i23 + 1)) <| (ev_p_round_office_shares n o1 o2 o3 o4 o5 l26 (i23 + 1) x19.2 l29 i24 b27 y20.1 i28).bind fun r30 => some (0, (r30.2.2.1, i25, i23, r30.1, r30.2.1, r30.2.2.2))
theorem ok_p_round_office_shares_v1_j1 {n : Nat} {env0 : Env} {w0 : World} {M0 R0 : Nat → Prop} {l0 : Nat} {rec : Loop} {r : Nat × ((List (Int × (List Int))) × Int × Int × (List ((Int × Int) × (((Int × (List Int) × Int × Bool))))) × Bool × Int)} {u18 : Value} {u17 : Value} {u15 : Value} {u14 : Value} {o4 : Int} {o5 : Int} {o1 : List (Int × Int × Int × Int × Int)} {o2 : List ((List Int))} {o3 : List (Int × Int × Int × Int)} {now9 : List (Int × (List Int))} {x19 : Int × Int} {y20 : (List (Int × (List Int))) × Int × Int × (List ((Int × Int) × (((Int × (List Int) × Int × Bool))))) × Bool × Int} {i23 : Int} {i24 : Int} {i25 : Int} {l26 : List ((Int × Int) × (((Int × (List Int) × Int × Bool))))} {b27 : Bool} {i28 : Int} {l29 : List (Int × (List Int))} (h : ev_p_round_office_shares_v1_j1 n o1 o2 o3 o4 o5 x19 y20 i23 i24 i25 l26 b27 i28 l29 = some r) : TC Try.prog ⟨w0, M0, R0⟩ ⟨69, some l0, []⟩ (RoundQ ⟨w0, M0, R0⟩ (.inv 24 (recI l0 rec) :: [.pin 23 15 u18, .pin 22 14 u17, .pin 21 13 u15, .pin 20 12 u14, .ro 18 2 (List.map en_api_RoundTrip r.2.1), .blk 15 [.fn 41 [] [.ptr 6 0, .ptr 7 0]] 112, .blk 14 [.ref 5, vi r.2.2.1] 105, .blk 13 [vi r.2.2.2.1] 3, .blk 12 [.ptr 0 0] 106, .pin 9 4 (env0 4), .pin 10 6 (env0 6), .pin 11 7 (env0 7), .inv 4 (mapI mk107 false en_p_round_search r.2.2.2.2.1), .blk 6 [.val (.bool r.2.2.2.2.2.1)] 4, .blk 7 [.ref 18, vi r.2.2.2.2.2.2] 105, .rob 0 [.ref 1, .ref 2, .ref 3, vi o4, vi o5, .ref 4] 109, .ro 1 5 (List.map en_api_RoundTower o1), .ro 2 1 (List.map en_Lint o2), .ro 3 4 (List.map en_api_RoundWinder o3), .ro 5 2 (List.map en_api_RoundTrip now9)]) [] r.1) [.code (sub (bodyOf Try.f40) [1, 1, 1, 1, 0, 1, 0, 1, 1]), .inBlock 1] ([(5, .ptr 12 0), (6, .ptr 13 0), (9, .ptr 15 0), (11, vi x19.2), (12, .ptr 25 0)]) ([.blk 12 [.ptr 0 0] 106, .blk 13 [vi i23] 3, .blk 15 [.fn 41 [] [.ptr 6 0, .ptr 7 0]] 112, .blk 25 [.ref 30, vi i24] 105, .blk 14 [.ref 5, vi i25] 105, .inv 4 (mapI mk107 false en_p_round_search l26), .blk 6 [.val (.bool b27)] 4, .blk 7 [.ref 18, vi i28] 105, .rob 0 [.ref 1, .ref 2, .ref 3, vi o4, vi o5, .ref 4] 109, .ro 30 2 (List.map en_api_RoundTrip l29), .ro 5 2 (List.map en_api_RoundTrip now9), .ro 18 2 (List.map en_api_RoundTrip y20.1), .ro 1 5 (List.map en_api_RoundTower o1), .ro 2 1 (List.map en_Lint o2), .ro 3 4 (List.map en_api_RoundWinder o3), .inv 24 (recI l0 rec), .pin 23 15 u18, .pin 22 14 u17, .pin 21 13 u15, .pin 20 12 u14, .pin 9 4 (env0 4), .pin 10 6 (env0 6), .pin 11 7 (env0 7)]) := by
  rw [ev_p_round_office_shares_v1_j1] at h
  refine TC.region ?_
  refine op1 0 rfl (sp_loadB rfl isBlk rfl vt106 rfl) rfl trivial rfl rfl ?_
  refine op1 1 rfl (sp_loadB rfl isBlk rfl vt3 rfl) rfl trivial rfl rfl ?_
  obtain ⟨h11, h⟩ := chk_inv h
  refine op0 (sp_add rfl rfl rfl h11) rfl trivial rfl rfl ?_
  refine op0 (sp_move rfl rfl) rfl trivial rfl rfl ?_
  refine op1 3 rfl (sp_loadBA rfl isBlk rfl vt105 rfl rfl) rfl trivial rfl rfl ?_
  refine op1 2 rfl (sp_loadB rfl isBlk rfl vt112 rfl) rfl trivial rfl rfl ?_
  obtain ⟨r30, h12, h⟩ := bind_inv h
  refine opT (take := [.inv 4 (mapI mk107 false en_p_round_search l26), .blk 6 [.val (.bool b27)] 4, .blk 7 [.ref 18, vi i28] 105]) (need := [.rob 0 [.ref 1, .ref 2, .ref 3, vi o4, vi o5, .ref 4] 109, .ro 1 5 (List.map en_api_RoundTower o1), .ro 2 1 (List.map en_Lint o2), .ro 3 4 (List.map en_api_RoundWinder o3), .ro 30 2 (List.map en_api_RoundTrip l29), .ro 18 2 (List.map en_api_RoundTrip y20.1)]) (V' := [.inv 4 (mapI mk107 false en_p_round_search r30.1), .blk 6 [.val (.bool r30.2.1)] 4, .ro 31 2 (List.map en_api_RoundTrip r30.2.2.1), .blk 7 [.ref 31, vi r30.2.2.2] 105, .blk 12 [.ptr 0 0] 106, .blk 13 [vi i23] 3, .blk 15 [.fn 41 [] [.ptr 6 0, .ptr 7 0]] 112, .blk 25 [.ref 30, vi i24] 105, .blk 14 [.ref 5, vi i25] 105, .rob 0 [.ref 1, .ref 2, .ref 3, vi o4, vi o5, .ref 4] 109, .ro 30 2 (List.map en_api_RoundTrip l29), .ro 5 2 (List.map en_api_RoundTrip now9), .ro 18 2 (List.map en_api_RoundTrip y20.1), .ro 1 5 (List.map en_api_RoundTower o1), .ro 2 1 (List.map en_Lint o2), .ro 3 4 (List.map en_api_RoundWinder o3), .inv 24 (recI l0 rec), .pin 23 15 u18, .pin 22 14 u17, .pin 21 13 u15, .pin 20 12 u14, .pin 9 4 (env0 4), .pin 10 6 (env0 6), .pin 11 7 (env0 7)]) [5, 6, 7] [8, 12, 13, 14, 9, 11] (ts_call (avs := [.ptr 0 0, vi (i23 + 1), vi x19.2, .agg [.ref 30, vi i24], .fn 41 [] [.ptr 6 0, .ptr 7 0]]) (take := [.inv 4 (mapI mk107 false en_p_round_search l26), .blk 6 [.val (.bool b27)] 4, .blk 7 [.ref 18, vi i28] 105]) (need := [.rob 0 [.ref 1, .ref 2, .ref 3, vi o4, vi o5, .ref 4] 109, .ro 1 5 (List.map en_api_RoundTower o1), .ro 2 1 (List.map en_Lint o2), .ro 3 4 (List.map en_api_RoundWinder o3), .ro 30 2 (List.map en_api_RoundTrip l29), .ro 18 2 (List.map en_api_RoundTrip y20.1)]) (v := .tup []) (news := [.inv 4 (mapI mk107 false en_p_round_search r30.1), .blk 6 [.val (.bool r30.2.1)] 4, .ro 31 2 (List.map en_api_RoundTrip r30.2.2.1), .blk 7 [.ref 31, vi r30.2.2.2] 105]) rfl rfl rfl Try.call40 (atT [(5, 30), (8, 18)] [(500, 31)] (ft_p_round_office_shares h12) rfl rfl rfl) rfl rfl) trivial rfl ⟨rfl, rfl, rfl, trivial⟩ ⟨rfl, rfl, rfl, rfl, rfl, rfl, trivial⟩ rfl rfl ?_
  refine TL.nil ?_
  refine TC.inBlock ?_
  cases h
  exact bodyEnd [(18, 31)] ⟨mem_at 16 rfl, mem_at 17 rfl, mem_at 18 rfl, mem_at 19 rfl, mem_at 20 rfl, mem_at 2 rfl, mem_at 6 rfl, mem_at 8 rfl, mem_at 5 rfl, mem_at 4 rfl, mem_at 21 rfl, mem_at 22 rfl, mem_at 23 rfl, mem_at 0 rfl, mem_at 1 rfl, mem_at 3 rfl, mem_at 9 rfl, mem_at 13 rfl, mem_at 14 rfl, mem_at 15 rfl, mem_at 11 rfl, trivial⟩ rfl
def ev_p_round_office_shares_v1_r0 (n : Nat) (o1 : List (Int × Int × Int × Int × Int)) (o2 : List ((List Int))) (o3 : List (Int × Int × Int × Int)) (o4 : Int) (o5 : Int) (now9 : List (Int × (List Int))) (x19 : Int × Int) (y20 : (List (Int × (List Int))) × Int × Int × (List ((Int × Int) × (((Int × (List Int) × Int × Bool))))) × Bool × Int) : Option (Nat × ((List (Int × (List Int))) × Int × Int × (List ((Int × Int) × (((Int × (List Int) × Int × Bool))))) × Bool × Int)) :=
  cond (decide ((0 : Int) < x19.1)) ((ev_p_round_office_best n o1 o2 o3 o4 o5 y20.2.2.2.1 y20.2.2.1 x19.1).bind fun r21 => cond (!r21.2.2.2.1) (some (0, (y20.1, y20.2.1, y20.2.2.1, r21.2.2.2.2, y20.2.2.2.2.1, y20.2.2.2.2.2))) ((ev_slices_Clip_Lapi_RoundTrip_api_RoundTrip n now9).bind fun r22 => chk (Nat.blt 0 ([(y20.2.2.1, r21.2.1)] : List (Int × (List Int))).length) <| chk (room 32 (r22.length + ([(y20.2.2.1, r21.2.1)] : List (Int × (List Int))).length)) <| chk (in64 (y20.2.1 + r21.2.2.1)) <| ev_p_round_office_shares_v1_j1 n o1 o2 o3 o4 o5 x19 y20 y20.2.2.1 (y20.2.1 + r21.2.2.1) y20.2.1 r21.2.2.2.2 y20.2.2.2.2.1 y20.2.2.2.2.2 (r22 ++ ([(y20.2.2.1, r21.2.1)] : List (Int × (List Int)))))) (ev_p_round_office_shares_v1_j1 n o1 o2 o3 o4 o5 x19 y20 y20.2.2.1 y20.2.1 y20.2.1 y20.2.2.2.1 y20.2.2.2.2.1 y20.2.2.2.2.2 now9)
theorem ok_p_round_office_shares_v1_r0 {n : Nat} {env0 : Env} {u18 : Value} {u17 : Value} {u15 : Value} {u14 : Value} {o4 : Int} {o5 : Int} {o1 : List (Int × Int × Int × Int × Int)} {o2 : List ((List Int))} {o3 : List (Int × Int × Int × Int)} {now9 : List (Int × (List Int))} {x19 : Int × Int} {y20 : (List (Int × (List Int))) × Int × Int × (List ((Int × Int) × (((Int × (List Int) × Int × Bool))))) × Bool × Int} {r : Nat × ((List (Int × (List Int))) × Int × Int × (List ((Int × Int) × (((Int × (List Int) × Int × Bool))))) × Bool × Int)} (h : ev_p_round_office_shares_v1_r0 n o1 o2 o3 o4 o5 now9 x19 y20 = some r) (l0 : Nat) (rec : Loop) (hrd : rec.state = .ready) (w0 : World) (M0 R0 : Nat → Prop) : TC Try.prog ⟨w0, M0, R0⟩ ⟨69, some l0, []⟩ (RoundQ ⟨w0, M0, R0⟩ (.inv 24 (recI l0 (busyR rec)) :: [.pin 23 15 u18, .pin 22 14 u17, .pin 21 13 u15, .pin 20 12 u14, .ro 18 2 (List.map en_api_RoundTrip r.2.1), .blk 15 [.fn 41 [] [.ptr 6 0, .ptr 7 0]] 112, .blk 14 [.ref 5, vi r.2.2.1] 105, .blk 13 [vi r.2.2.2.1] 3, .blk 12 [.ptr 0 0] 106, .pin 9 4 (env0 4), .pin 10 6 (env0 6), .pin 11 7 (env0 7), .inv 4 (mapI mk107 false en_p_round_search r.2.2.2.2.1), .blk 6 [.val (.bool r.2.2.2.2.2.1)] 4, .blk 7 [.ref 18, vi r.2.2.2.2.2.2] 105, .rob 0 [.ref 1, .ref 2, .ref 3, vi o4, vi o5, .ref 4] 109, .ro 1 5 (List.map en_api_RoundTower o1), .ro 2 1 (List.map en_Lint o2), .ro 3 4 (List.map en_api_RoundWinder o3), .ro 5 2 (List.map en_api_RoundTrip now9)]) [] r.1) [.code (sub (bodyOf Try.f40) [1, 1, 1, 1, 0, 0]), .beginRound, .code (sub (bodyOf Try.f40) [1, 1, 1, 1, 0, 1])] (pSlots [29, 30] (ye_funcround_set_round_set_bool x19) [(5, .ptr 12 0), (6, .ptr 13 0), (8, .ptr 14 0), (9, .ptr 15 0)]) (.inv 24 (recI l0 rec) :: yn_funcround_set_round_set_bool x19 ++ (fun y20 : (List (Int × (List Int))) × Int × Int × (List ((Int × Int) × (((Int × (List Int) × Int × Bool))))) × Bool × Int => [.pin 23 15 u18, .pin 22 14 u17, .pin 21 13 u15, .pin 20 12 u14, .ro 18 2 (List.map en_api_RoundTrip y20.1), .blk 15 [.fn 41 [] [.ptr 6 0, .ptr 7 0]] 112, .blk 14 [.ref 5, vi y20.2.1] 105, .blk 13 [vi y20.2.2.1] 3, .blk 12 [.ptr 0 0] 106, .pin 9 4 (env0 4), .pin 10 6 (env0 6), .pin 11 7 (env0 7), .inv 4 (mapI mk107 false en_p_round_search y20.2.2.2.1), .blk 6 [.val (.bool y20.2.2.2.2.1)] 4, .blk 7 [.ref 18, vi y20.2.2.2.2.2] 105, .rob 0 [.ref 1, .ref 2, .ref 3, vi o4, vi o5, .ref 4] 109, .ro 1 5 (List.map en_api_RoundTower o1), .ro 2 1 (List.map en_Lint o2), .ro 3 4 (List.map en_api_RoundWinder o3), .ro 5 2 (List.map en_api_RoundTrip now9)]) y20) := by
  rw [ev_p_round_office_shares_v1_r0] at h
  refine subJ (s' := [(5, .ptr 12 0), (6, .ptr 13 0), (8, .ptr 14 0), (9, .ptr 15 0), (29, vi x19.1), (30, vi x19.2)]) (V' := [.inv 24 (recI l0 rec), .pin 23 15 u18, .pin 22 14 u17, .pin 21 13 u15, .pin 20 12 u14, .ro 18 2 (List.map en_api_RoundTrip y20.1), .blk 15 [.fn 41 [] [.ptr 6 0, .ptr 7 0]] 112, .blk 14 [.ref 5, vi y20.2.1] 105, .blk 13 [vi y20.2.2.1] 3, .blk 12 [.ptr 0 0] 106, .pin 9 4 (env0 4), .pin 10 6 (env0 6), .pin 11 7 (env0 7), .inv 4 (mapI mk107 false en_p_round_search y20.2.2.2.1), .blk 6 [.val (.bool y20.2.2.2.2.1)] 4, .blk 7 [.ref 18, vi y20.2.2.2.2.2] 105, .rob 0 [.ref 1, .ref 2, .ref 3, vi o4, vi o5, .ref 4] 109, .ro 1 5 (List.map en_api_RoundTower o1), .ro 2 1 (List.map en_Lint o2), .ro 3 4 (List.map en_api_RoundWinder o3), .ro 5 2 (List.map en_api_RoundTrip now9)]) [] ?_ ⟨rfl, rfl, rfl, rfl, rfl, rfl, trivial⟩ ⟨mem_at 0 rfl, mem_at 1 rfl, mem_at 2 rfl, mem_at 3 rfl, mem_at 4 rfl, mem_at 5 rfl, mem_at 6 rfl, mem_at 7 rfl, mem_at 8 rfl, mem_at 9 rfl, mem_at 10 rfl, mem_at 11 rfl, mem_at 12 rfl, mem_at 13 rfl, mem_at 14 rfl, mem_at 15 rfl, mem_at 16 rfl, mem_at 17 rfl, mem_at 18 rfl, mem_at 19 rfl, mem_at 20 rfl, trivial⟩ rfl
  refine TC.seq ?_
  refine TC.region ?_
  refine op0 (sp_assign rfl rfl) rfl trivial rfl rfl ?_
  refine TL.nil ?_
  refine TC.region ?_
  refine op0 (sp_assign rfl rfl) rfl trivial rfl rfl ?_
  refine TL.nil ?_
  refine TC.beginRound 0 rfl hrd ?_
  refine TC.block ?_
  refine TC.seq ?_
  refine TC.region ?_
  refine op1 7 rfl (sp_loadBA rfl isBlk rfl vt105 rfl rfl) rfl trivial rfl rfl ?_
  refine op0 (sp_alloc 25 rfl Try.zeroValue105 rfl) rfl trivial rfl rfl ?_
  refine stoB 0 (cells' := [.ref 5, vi y20.2.1]) rfl rfl trivial rfl rfl rfl rfl vt105 rfl rfl rfl ?_
  refine TL.nil ?_
  refine TC.seq ?_
  refine TC.seq ?_
  refine TC.region ?_
  refine op0 (sp_move rfl rfl) rfl trivial rfl rfl ?_
  refine op0 (sp_gtr rfl rfl rfl) rfl trivial rfl rfl ?_
  refine TL.nil ?_
  refine TC.cond (b := (decide ((0 : Int) < x19.1))) rfl (fun h4 => ?_) (fun h4 => ?_)
  · have h := cond_t h h4
    refine TC.seq ?_
    refine TC.region ?_
    refine op1 10 rfl (sp_loadB rfl isBlk rfl vt106 rfl) rfl trivial rfl rfl ?_
    refine op1 9 rfl (sp_loadB rfl isBlk rfl vt3 rfl) rfl trivial rfl rfl ?_
    refine op0 (sp_move rfl rfl) rfl trivial rfl rfl ?_
    obtain ⟨r21, h5, h⟩ := bind_inv h
    refine opT (take := [.inv 4 (mapI mk107 false en_p_round_search y20.2.2.2.1)]) (need := [.rob 0 [.ref 1, .ref 2, .ref 3, vi o4, vi o5, .ref 4] 109, .ro 1 5 (List.map en_api_RoundTower o1), .ro 2 1 (List.map en_Lint o2), .ro 3 4 (List.map en_api_RoundWinder o3)]) (V' := [.rob 26 [vi r21.1, .ref 27, vi r21.2.2.1, .val (.bool r21.2.2.2.1)] 97, .ro 27 1 (List.map en_int r21.2.1), .inv 4 (mapI mk107 false en_p_round_search r21.2.2.2.2), .blk 25 [.ref 5, vi y20.2.1] 105, .inv 24 (recI l0 (busyR rec)), .pin 23 15 u18, .pin 22 14 u17, .pin 21 13 u15, .pin 20 12 u14, .ro 18 2 (List.map en_api_RoundTrip y20.1), .blk 15 [.fn 41 [] [.ptr 6 0, .ptr 7 0]] 112, .blk 14 [.ref 5, vi y20.2.1] 105, .blk 13 [vi y20.2.2.1] 3, .blk 12 [.ptr 0 0] 106, .pin 9 4 (env0 4), .pin 10 6 (env0 6), .pin 11 7 (env0 7), .blk 6 [.val (.bool y20.2.2.2.2.1)] 4, .blk 7 [.ref 18, vi y20.2.2.2.2.2] 105, .rob 0 [.ref 1, .ref 2, .ref 3, vi o4, vi o5, .ref 4] 109, .ro 1 5 (List.map en_api_RoundTower o1), .ro 2 1 (List.map en_Lint o2), .ro 3 4 (List.map en_api_RoundWinder o3), .ro 5 2 (List.map en_api_RoundTrip now9)]) [14] [17, 18, 19, 20] (ts_call (avs := [.ptr 0 0, vi y20.2.2.1, vi x19.1]) (take := [.inv 4 (mapI mk107 false en_p_round_search y20.2.2.2.1)]) (need := [.rob 0 [.ref 1, .ref 2, .ref 3, vi o4, vi o5, .ref 4] 109, .ro 1 5 (List.map en_api_RoundTower o1), .ro 2 1 (List.map en_Lint o2), .ro 3 4 (List.map en_api_RoundWinder o3)]) (v := .ptr 26 0) (news := [.rob 26 [vi r21.1, .ref 27, vi r21.2.2.1, .val (.bool r21.2.2.2.1)] 97, .ro 27 1 (List.map en_int r21.2.1), .inv 4 (mapI mk107 false en_p_round_search r21.2.2.2.2)]) rfl rfl rfl Try.call64 (atT [] [(500, 26), (501, 27)] (ft_p_round_office_best h5) rfl rfl rfl) rfl rfl) trivial rfl ⟨rfl, trivial⟩ ⟨rfl, rfl, rfl, rfl, trivial⟩ rfl rfl ?_
    refine op0 (sp_assign rfl rfl) rfl trivial rfl rfl ?_
    refine TL.nil ?_
    refine TC.seq ?_
    refine TC.seq ?_
    refine TC.region ?_
    refine op0 (sp_move rfl rfl) rfl trivial rfl rfl ?_
    refine op1 0 rfl (sp_nilCheck rfl isRob rfl) rfl trivial rfl rfl ?_
    refine op1 0 rfl (sp_fieldAddrB rfl isRob rfl ft97_3 vt4 (by decide)) rfl trivial rfl rfl ?_
    refine op1 0 rfl (sp_loadB rfl isRob rfl vt4 rfl) rfl trivial rfl rfl ?_
    refine op0 (sp_not rfl rfl) rfl trivial rfl rfl ?_
    refine TL.nil ?_
    refine TC.cond (b := (!r21.2.2.2.1)) rfl (fun h6 => ?_) (fun h6 => ?_)
    · have h := cond_t h h6
      refine TC.exit rfl ?_
      cases h
      exact bodyEnd [] ⟨mem_at 4 rfl, mem_at 5 rfl, mem_at 6 rfl, mem_at 7 rfl, mem_at 8 rfl, mem_at 9 rfl, mem_at 10 rfl, mem_at 11 rfl, mem_at 12 rfl, mem_at 13 rfl, mem_at 14 rfl, mem_at 15 rfl, mem_at 16 rfl, mem_at 2 rfl, mem_at 17 rfl, mem_at 18 rfl, mem_at 19 rfl, mem_at 20 rfl, mem_at 21 rfl, mem_at 22 rfl, mem_at 23 rfl, trivial⟩ rfl
    · have h := cond_f h h6
      refine TC.skip ?_
      obtain ⟨r22, h7, h⟩ := bind_inv h
      obtain ⟨h8, h⟩ := chk_inv h
      obtain ⟨h9, h⟩ := chk_inv h
      obtain ⟨h10, h⟩ := chk_inv h
      refine drawJ 18 [⟨.ptr 14 0, [], [.blk 14 [.ref 5, vi y20.2.1] 105], []⟩, ⟨.ref 5, [], [.blk 14 [.ref 5, vi y20.2.1] 105], []⟩, ⟨.ref 28, [.any 28 (D.clip 2 (List.map en_api_RoundTrip r22))], [.ro 5 2 (List.map en_api_RoundTrip now9)], []⟩, ⟨vi y20.2.2.1, [], [.blk 13 [vi y20.2.2.1] 3], []⟩, ⟨.ptr 26 0, [], [], []⟩, ⟨.ptr 26 0, [], [.rob 26 [vi r21.1, .ref 27, vi r21.2.2.1, .val (.bool r21.2.2.2.1)] 97], []⟩, ⟨.ptr 26 1, [], [.rob 26 [vi r21.1, .ref 27, vi r21.2.2.1, .val (.bool r21.2.2.2.1)] 97], []⟩, ⟨.ref 27, [], [.rob 26 [vi r21.1, .ref 27, vi r21.2.2.1, .val (.bool r21.2.2.2.1)] 97], []⟩, ⟨.agg [vi y20.2.2.1, .ref 27], [], [], []⟩, ⟨.ref 29, [.row 29 65 2 (List.map en_api_RoundTrip ([(y20.2.2.1, r21.2.1)] : List (Int × (List Int))))], [.ro 27 1 (List.map en_int r21.2.1)], []⟩, ⟨.ref 30, [.row 30 65 2 (List.map en_api_RoundTrip (r22 ++ ([(y20.2.2.1, r21.2.1)] : List (Int × (List Int)))))], [.any 28 (D.clip 2 (List.map en_api_RoundTrip r22)), .row 29 65 2 (List.map en_api_RoundTrip ([(y20.2.2.1, r21.2.1)] : List (Int × (List Int))))], []⟩, ⟨.ptr 14 1, [], [.blk 14 [.ref 5, vi y20.2.1] 105], []⟩, ⟨vi y20.2.1, [], [.blk 14 [.ref 5, vi y20.2.1] 105], []⟩, ⟨.ptr 26 0, [], [], []⟩, ⟨.ptr 26 0, [], [.rob 26 [vi r21.1, .ref 27, vi r21.2.2.1, .val (.bool r21.2.2.2.1)] 97], []⟩, ⟨.ptr 26 2, [], [.rob 26 [vi r21.1, .ref 27, vi r21.2.2.1, .val (.bool r21.2.2.2.1)] 97], []⟩, ⟨vi r21.2.2.1, [], [.rob 26 [vi r21.1, .ref 27, vi r21.2.2.1, .val (.bool r21.2.2.2.1)] 97], []⟩, ⟨vi (y20.2.1 + r21.2.2.1), [], [], []⟩] rfl ?_ rfl ?_ rfl ?_ ?_
      · kernel_rfl
      · kernel_rfl
      · exact DAll.op' (sp_fieldAddrB rfl isBlk rfl ft105_0 vt68 (by decide)) trivial rfl (From.ok (ps := [(none, 11)]) ⟨⟨rfl, by kernel_rfl⟩, trivial⟩) (DAll.op' (sp_loadB rfl isBlk rfl vt68 rfl) trivial rfl (From.ok (ps := [(none, 11)]) ⟨⟨rfl, by kernel_rfl⟩, trivial⟩) (DAll.op' (sp_call (avs := [.ref 5]) (need := [.ro 5 2 (List.map en_api_RoundTrip now9)]) (v := .ref 28) (news := [.any 28 (D.clip 2 (List.map en_api_RoundTrip r22))]) rfl rfl rfl Try.call65 (atJ [(0, 5)] [(0, 28)] (fc_slices_Clip_Lapi_RoundTrip_api_RoundTrip h7) rfl rfl) (.inl (roAll rfl))) trivial rfl (From.ok (ps := [(none, 23)]) ⟨⟨rfl, by kernel_rfl⟩, trivial⟩) (DAll.op' (sp_loadB rfl isBlk rfl vt3 rfl) trivial rfl (From.ok (ps := [(none, 12)]) ⟨⟨rfl, by kernel_rfl⟩, trivial⟩) (DAll.op' (sp_move rfl rfl) trivial rfl (From.ok (ps := []) trivial) (DAll.op' (sp_nilCheck rfl isRob rfl) trivial rfl (From.ok (ps := [(none, 0)]) ⟨⟨rfl, by kernel_rfl⟩, trivial⟩) (DAll.op' (sp_fieldAddrB rfl isRob rfl ft97_1 vt30 (by decide)) trivial rfl (From.ok (ps := [(none, 0)]) ⟨⟨rfl, by kernel_rfl⟩, trivial⟩) (DAll.op' (sp_loadB rfl isRob rfl vt30 rfl) trivial rfl (From.ok (ps := [(none, 0)]) ⟨⟨rfl, by kernel_rfl⟩, trivial⟩) (DAll.op' (sp_build (qs := [(0, vi y20.2.2.1), (1, .ref 27)]) rfl bt65 rfl rfl rfl rfl) trivial rfl (From.ok (ps := []) trivial) (DAll.op' (sp_buildSlice (qs := [.agg [vi y20.2.2.1, .ref 27]]) (need := [.ro 27 1 (List.map en_int r21.2.1)]) (els := List.map en_api_RoundTrip ([(y20.2.2.1, r21.2.1)] : List (Int × (List Int)))) 29 rfl sl68 (by decide) (by decide) rfl rfl rfl (.v (.s (mem_at 0 rfl) (.nil))) (map_len fun _ => rfl) rfl rfl rfl) trivial rfl (From.ok (ps := [(none, 1)]) ⟨⟨rfl, by kernel_rfl⟩, trivial⟩) (DAll.op' (sp_appClip (N := r22.length) (N2 := ([(y20.2.2.1, r21.2.1)] : List (Int × (List Int))).length) 30 rfl rfl rfl isOwn sl68 (len_map _ _) (len_map _ _) h8 h9 (map_app _ _ _)) trivial rfl (From.ok (ps := [(some 2, 0), (some 9, 0)]) ⟨⟨_, rfl, by kernel_rfl, rfl, by kernel_rfl⟩, ⟨_, rfl, by kernel_rfl, rfl, by kernel_rfl⟩, trivial⟩) (DAll.op' (sp_fieldAddrB rfl isBlk rfl ft105_1 vt3 (by decide)) trivial rfl (From.ok (ps := [(none, 11)]) ⟨⟨rfl, by kernel_rfl⟩, trivial⟩) (DAll.op' (sp_loadB rfl isBlk rfl vt3 rfl) trivial rfl (From.ok (ps := [(none, 11)]) ⟨⟨rfl, by kernel_rfl⟩, trivial⟩) (DAll.op' (sp_move rfl rfl) trivial rfl (From.ok (ps := []) trivial) (DAll.op' (sp_nilCheck rfl isRob rfl) trivial rfl (From.ok (ps := [(none, 0)]) ⟨⟨rfl, by kernel_rfl⟩, trivial⟩) (DAll.op' (sp_fieldAddrB rfl isRob rfl ft97_2 vt3 (by decide)) trivial rfl (From.ok (ps := [(none, 0)]) ⟨⟨rfl, by kernel_rfl⟩, trivial⟩) (DAll.op' (sp_loadB rfl isRob rfl vt3 rfl) trivial rfl (From.ok (ps := [(none, 0)]) ⟨⟨rfl, by kernel_rfl⟩, trivial⟩) (DAll.op' (sp_add rfl rfl rfl h10) trivial rfl (From.ok (ps := []) trivial) (.nil))))))))))))))))))
      refine op0 (sp_build (qs := [(0, .ref 30), (1, vi (y20.2.1 + r21.2.2.1))]) rfl bt105 rfl rfl rfl rfl) rfl trivial rfl rfl ?_
      refine stoB 6 (cells' := [.ref 30, vi (y20.2.1 + r21.2.2.1)]) rfl rfl trivial rfl rfl rfl rfl vt105 rfl rfl rfl ?_
      refine TL.nil ?_
      refine TC.freeze 0 rfl ?_
      refine subJ [] (ok_p_round_office_shares_v1_j1 (u18 := u18) (u17 := u17) (u15 := u15) (u14 := u14) (now9 := now9) h) ?_ ?_ ?_
      · exact ⟨rfl, rfl, rfl, rfl, rfl, trivial⟩
      · exact ⟨mem_at 16 rfl, mem_at 15 rfl, mem_at 13 rfl, mem_at 6 rfl, mem_at 14 rfl, mem_at 5 rfl, mem_at 20 rfl, mem_at 21 rfl, mem_at 22 rfl, mem_at 0 rfl, mem_at 26 rfl, mem_at 12 rfl, mem_at 23 rfl, mem_at 24 rfl, mem_at 25 rfl, mem_at 7 rfl, mem_at 8 rfl, mem_at 9 rfl, mem_at 10 rfl, mem_at 11 rfl, mem_at 17 rfl, mem_at 18 rfl, mem_at 19 rfl, trivial⟩
      · rfl
  · have h := cond_f h h4
    refine TC.skip ?_
    refine aliasB 8 21 32 14 5 2 [.ref 32, vi y20.2.1] rfl rfl rfl rfl ?_
    refine subJ [(5, 32), (30, 5)] (ok_p_round_office_shares_v1_j1 (u18 := u18) (u17 := u17) (u15 := u15) (u14 := u14) (now9 := now9) h) ?_ ?_ ?_
    · exact ⟨rfl, rfl, rfl, rfl, rfl, trivial⟩
    · exact ⟨mem_at 11 rfl, mem_at 10 rfl, mem_at 8 rfl, mem_at 1 rfl, mem_at 9 rfl, mem_at 15 rfl, mem_at 16 rfl, mem_at 17 rfl, mem_at 18 rfl, mem_at 22 rfl, mem_at 0 rfl, mem_at 7 rfl, mem_at 19 rfl, mem_at 20 rfl, mem_at 21 rfl, mem_at 2 rfl, mem_at 3 rfl, mem_at 4 rfl, mem_at 5 rfl, mem_at 6 rfl, mem_at 12 rfl, mem_at 13 rfl, mem_at 14 rfl, trivial⟩
    · rfl
def ev_p_round_office_shares_v1 (n : Nat) (o1 : List (Int × Int × Int × Int × Int)) (o2 : List ((List Int))) (o3 : List (Int × Int × Int × Int)) (o4 : Int) (o5 : Int) (o6 : List ((Int × Int) × (((Int × (List Int) × Int × Bool))))) (winder7 : Int) (goal8 : Int) (now9 : List (Int × (List Int))) (now10 : Int) (yield11 : Bool) (yield12 : Int) : Option ((List ((Int × Int) × (((Int × (List Int) × Int × Bool))))) × Bool × (List (Int × (List Int))) × Int) :=
  cond (goal8 == 0) ((ev_round_Fewest_1 n now9 now10 yield11 yield12).bind fun r13 => some (o6, r13.1, r13.2.1, r13.2.2)) (cond (winder7 == (o3.length : Int)) (some (o6, yield11, ([] : List (Int × (List Int))), yield12)) ((ev_round_set_parts (loopStep (ev_p_round_office_shares_v1_r0 n o1 o2 o3 o4 o5 now9)) n goal8 ((([] : List (Int × (List Int))), now10, winder7, o6, yield11, yield12), 0)).bind fun q31 => cond (q31.2 == 0) (some (q31.1.2.2.2.1, q31.1.2.2.2.2.1, q31.1.1, q31.1.2.2.2.2.2)) (none)))
theorem ft_p_round_office_shares_v1 {n : Nat} {o1 : List (Int × Int × Int × Int × Int)} {o2 : List ((List Int))} {o3 : List (Int × Int × Int × Int)} {o4 : Int} {o5 : Int} {o6 : List ((Int × Int) × (((Int × (List Int) × Int × Bool))))} {winder7 : Int} {goal8 : Int} {now9 : List (Int × (List Int))} {now10 : Int} {yield11 : Bool} {yield12 : Int} {r : (List ((Int × Int) × (((Int × (List Int) × Int × Bool))))) × Bool × (List (Int × (List Int))) × Int} (h : ev_p_round_office_shares_v1 n o1 o2 o3 o4 o5 o6 winder7 goal8 now9 now10 yield11 yield12 = some r) : FT Try.prog 40 [.ptr 0 0, vi winder7, vi goal8, .agg [.ref 5, vi now10], .fn 41 [] [.ptr 6 0, .ptr 7 0]] [.inv 4 (mapI mk107 false en_p_round_search o6), .blk 6 [.val (.bool yield11)] 4, .blk 7 [.val (.slice none 0 0), vi yield12] 105] [.rob 0 [.ref 1, .ref 2, .ref 3, vi o4, vi o5, .ref 4] 109, .ro 1 5 (List.map en_api_RoundTower o1), .ro 2 1 (List.map en_Lint o2), .ro 3 4 (List.map en_api_RoundWinder o3), .ro 5 2 (List.map en_api_RoundTrip now9)] (.tup []) [.inv 4 (mapI mk107 false en_p_round_search r.1), .blk 6 [.val (.bool r.2.1)] 4, .ro 500 2 (List.map en_api_RoundTrip r.2.2.1), .blk 7 [.ref 500, vi r.2.2.2] 105] := by
  refine introM (nz := 69) 8 [(9, 4), (10, 6), (11, 7)] Try.func40 rfl rfl rfl rfl (fun w0 M0 R0 env0 => ?_)
  rw [ev_p_round_office_shares_v1] at h
  refine TC.seq ?_
  refine TC.region ?_
  refine op0 (sp_box 12 rfl rfl rfl rfl rfl) rfl trivial rfl rfl ?_
  refine op0 (sp_box 13 rfl rfl rfl rfl rfl) rfl trivial rfl rfl ?_
  refine op0 (sp_box 14 rfl rfl rfl rfl rfl) rfl trivial rfl rfl ?_
  refine op0 (sp_box 15 rfl rfl rfl rfl rfl) rfl trivial rfl rfl ?_
  refine TL.nil ?_
  refine TC.seq ?_
  refine TC.seq ?_
  refine TC.region ?_
  refine op0 (sp_move rfl rfl) rfl trivial rfl rfl ?_
  refine op0 (sp_eql rfl rfl rfl) rfl trivial rfl rfl ?_
  refine TL.nil ?_
  refine TC.cond (b := (goal8 == 0)) rfl (fun h1 => ?_) (fun h1 => ?_)
  · have h := cond_t h h1
    refine TC.seq ?_
    refine TC.region ?_
    refine op1 0 rfl (sp_loadB rfl isBlk rfl vt112 rfl) rfl trivial rfl rfl ?_
    refine op1 1 rfl (sp_loadBA rfl isBlk rfl vt105 rfl rfl) rfl trivial rfl rfl ?_
    obtain ⟨r13, h2, h⟩ := bind_inv h
    refine opT (take := [.blk 6 [.val (.bool yield11)] 4, .blk 7 [.val (.slice none 0 0), vi yield12] 105]) (need := [.ro 5 2 (List.map en_api_RoundTrip now9)]) (V' := [.blk 6 [.val (.bool r13.1)] 4, .ro 16 2 (List.map en_api_RoundTrip r13.2.1), .blk 7 [.ref 16, vi r13.2.2] 105, .blk 15 [.fn 41 [] [.ptr 6 0, .ptr 7 0]] 112, .blk 14 [.ref 5, vi now10] 105, .blk 13 [vi winder7] 3, .blk 12 [.ptr 0 0] 106, .inv 8 (marksI []), .pin 9 4 (env0 4), .pin 10 6 (env0 6), .pin 11 7 (env0 7), .inv 4 (mapI mk107 false en_p_round_search o6), .rob 0 [.ref 1, .ref 2, .ref 3, vi o4, vi o5, .ref 4] 109, .ro 1 5 (List.map en_api_RoundTower o1), .ro 2 1 (List.map en_Lint o2), .ro 3 4 (List.map en_api_RoundWinder o3), .ro 5 2 (List.map en_api_RoundTrip now9)]) [9, 10] [15] (ts_call (avs := [.agg [.ref 5, vi now10]]) (take := [.blk 6 [.val (.bool yield11)] 4, .blk 7 [.val (.slice none 0 0), vi yield12] 105]) (need := [.ro 5 2 (List.map en_api_RoundTrip now9)]) (v := .tup []) (news := [.blk 6 [.val (.bool r13.1)] 4, .ro 16 2 (List.map en_api_RoundTrip r13.2.1), .blk 7 [.ref 16, vi r13.2.2] 105]) rfl rfl rfl Try.call41 (atT [(0, 5), (1, 6), (2, 7)] [(1, 6), (500, 16), (2, 7)] (ft_round_Fewest_1 h2) rfl rfl rfl) rfl rfl) trivial rfl ⟨rfl, rfl, trivial⟩ ⟨rfl, trivial⟩ rfl rfl ?_
    refine TL.nil ?_
    cases h
    exact retM [(500, 16)] 7 8 [4, 6, 7] rfl (.nil) rfl ⟨mem_at 10 rfl, mem_at 0 rfl, mem_at 1 rfl, mem_at 2 rfl, trivial⟩ rfl rfl ⟨⟨_, mem_at 7 rfl⟩, ⟨_, mem_at 8 rfl⟩, ⟨_, mem_at 9 rfl⟩, trivial⟩ rfl
  · have h := cond_f h h1
    refine TC.skip ?_
    refine TC.seq ?_
    refine TC.seq ?_
    refine drawJ 7 [⟨vi winder7, [], [.blk 13 [vi winder7] 3], []⟩, ⟨.ptr 0 0, [], [.blk 12 [.ptr 0 0] 106], []⟩, ⟨.ptr 0 0, [], [.rob 0 [.ref 1, .ref 2, .ref 3, vi o4, vi o5, .ref 4] 109], []⟩, ⟨.ptr 0 0, [], [.rob 0 [.ref 1, .ref 2, .ref 3, vi o4, vi o5, .ref 4] 109], []⟩, ⟨.ptr 0 2, [], [.rob 0 [.ref 1, .ref 2, .ref 3, vi o4, vi o5, .ref 4] 109], []⟩, ⟨.ref 3, [], [.rob 0 [.ref 1, .ref 2, .ref 3, vi o4, vi o5, .ref 4] 109], []⟩, ⟨vi (o3.length : Int), [], [.ro 3 4 (List.map en_api_RoundWinder o3)], []⟩] rfl ?_ rfl ?_ rfl ?_ ?_
    · kernel_rfl
    · kernel_rfl
    · exact DAll.op' (sp_loadB rfl isBlk rfl vt3 rfl) trivial rfl (From.ok (ps := [(none, 2)]) ⟨⟨rfl, rfl⟩, trivial⟩) (DAll.op' (sp_loadB rfl isBlk rfl vt106 rfl) trivial rfl (From.ok (ps := [(none, 3)]) ⟨⟨rfl, rfl⟩, trivial⟩) (DAll.op' (sp_nilCheck rfl isRob rfl) trivial rfl (From.ok (ps := [(none, 11)]) ⟨⟨rfl, rfl⟩, trivial⟩) (DAll.op' (sp_fieldAddrB rfl isRob rfl ft109_0 vt26 (by decide)) trivial rfl (From.ok (ps := [(none, 11)]) ⟨⟨rfl, rfl⟩, trivial⟩) (DAll.op' (sp_fieldAddrB rfl isRob rfl ft26_2 vt24 (by decide)) trivial rfl (From.ok (ps := [(none, 11)]) ⟨⟨rfl, rfl⟩, trivial⟩) (DAll.op' (sp_loadB rfl isRob rfl vt24 rfl) trivial rfl (From.ok (ps := [(none, 11)]) ⟨⟨rfl, rfl⟩, trivial⟩) (DAll.op' (sp_lenM (N := o3.length) (len_map _ _) rfl rfl isRo Try.underlying24) trivial rfl (From.ok (ps := [(none, 14)]) ⟨⟨rfl, rfl⟩, trivial⟩) (.nil)))))))
    refine op0 (sp_eql rfl rfl rfl) rfl trivial rfl rfl ?_
    refine TL.nil ?_
    refine TC.cond (b := (winder7 == (o3.length : Int))) rfl (fun h3 => ?_) (fun h3 => ?_)
    · have h := cond_t h h3
      refine nilCellC 10 17 65 2 7 (List.map en_api_RoundTrip []) [.ref 17, vi yield12] rfl rfl rfl ?_
      refine TC.freeze 0 rfl ?_
      cases h
      exact retM [(500, 17)] 5 8 [4, 6, 7] rfl (.nil) rfl ⟨mem_at 8 rfl, mem_at 9 rfl, mem_at 0 rfl, mem_at 10 rfl, trivial⟩ rfl rfl ⟨⟨_, mem_at 5 rfl⟩, ⟨_, mem_at 6 rfl⟩, ⟨_, mem_at 7 rfl⟩, trivial⟩ rfl
    · have h := cond_f h h3
      refine TC.skip ?_
      refine TC.seq ?_
      refine TC.region ?_
      refine op0 (sp_move rfl rfl) rfl trivial rfl rfl ?_
      refine op0 (sp_makeFunc (fi := [.tmp 27]) (ca := []) (fa := [vi goal8]) (cb := []) rfl rfl rfl) rfl trivial rfl rfl ?_
      refine TL.nil ?_
      refine TC.block ?_
      refine nilCellC 10 18 65 2 7 (List.map en_api_RoundTrip []) [.ref 18, vi yield12] rfl rfl rfl ?_
      refine TC.freeze 0 rfl ?_
      refine TC.pin 20 12 rfl rfl fun u14 => ?_
      refine TC.pin 21 13 rfl rfl fun u15 => ?_
      refine TC.pin 22 14 rfl rfl fun u17 => ?_
      refine TC.pin 23 15 rfl rfl fun u18 => ?_
      obtain ⟨q31, h13, h⟩ := bind_inv h
      refine rangeO (T := []) (T' := []) (k := 19) (gm := 8) (grec := 24) (S := [(5, .ptr 12 0), (6, .ptr 13 0), (8, .ptr 14 0), (9, .ptr 15 0)]) (V0 := (fun y20 : (List (Int × (List Int))) × Int × Int × (List ((Int × Int) × (((Int × (List Int) × Int × Bool))))) × Bool × Int => [.pin 23 15 u18, .pin 22 14 u17, .pin 21 13 u15, .pin 20 12 u14, .ro 18 2 (List.map en_api_RoundTrip y20.1), .blk 15 [.fn 41 [] [.ptr 6 0, .ptr 7 0]] 112, .blk 14 [.ref 5, vi y20.2.1] 105, .blk 13 [vi y20.2.2.1] 3, .blk 12 [.ptr 0 0] 106, .pin 9 4 (env0 4), .pin 10 6 (env0 6), .pin 11 7 (env0 7), .inv 4 (mapI mk107 false en_p_round_search y20.2.2.2.1), .blk 6 [.val (.bool y20.2.2.2.2.1)] 4, .blk 7 [.ref 18, vi y20.2.2.2.2.2] 105, .rob 0 [.ref 1, .ref 2, .ref 3, vi o4, vi o5, .ref 4] 109, .ro 1 5 (List.map en_api_RoundTower o1), .ro 2 1 (List.map en_Lint o2), .ro 3 4 (List.map en_api_RoundWinder o3), .ro 5 2 (List.map en_api_RoundTrip now9)])) (needI := []) (ps := [29, 30]) (jl := []) (ea := ye_funcround_set_round_set_bool) (en := yn_funcround_set_round_set_bool) (f := (ev_p_round_office_shares_v1_r0 n o1 o2 o3 o4 o5 now9)) (s0 := ((([] : List (Int × (List Int))), now10, winder7, o6, yield11, yield12), 0)) (yf := q31) (v := .tup []) (fi := [vi goal8]) (caps := [])
        ⟨fun x y r hr l rec hrd w0 M0 R0 => ok_p_round_office_shares_v1_r0 (u18 := u18) (u17 := u17) (u15 := u15) (u14 := u14) hr l rec hrd w0 M0 R0, ⟨rfl, rfl, rfl, rfl, trivial⟩, At.mem (is := [0, 1, 2, 3, 4, 5, 6, 7, 8, 10, 11, 12, 13, 14, 15, 16, 17, 18, 19, 20]) ⟨rfl, rfl, rfl, rfl, rfl, rfl, rfl, rfl, rfl, rfl, rfl, rfl, rfl, rfl, rfl, rfl, rfl, rfl, rfl, rfl, trivial⟩, At.mem (is := []) trivial, rfl, pinsIn [12, 13, 14, 15] [3, 2, 1, 0] ⟨⟨_, _, fun _ => rfl⟩, ⟨_, _, fun _ => rfl⟩, ⟨_, _, fun _ => rfl⟩, ⟨_, _, fun _ => rfl⟩, trivial⟩ rfl, rfl, fun _ => rfl, fun _ _ => rfl, fun _ => rfl, fun _ _ => rfl, fun _ => rfl, fun _ => rfl, fun _ => rfl, rfl, rfl, fun _ => rfl, rfl⟩
        rfl rfl Try.call63 (takesNil rfl) 9 rfl (fun I hI => atT [(0, 19)] [(0, 19)] (ft_round_set_parts hI h13) rfl rfl rfl) (fun d => ?_)
      rcases cond_cases h with ⟨h14, h⟩ | ⟨h14, h⟩
      · refine done0 h14 ?_
        refine TC.inBlock ?_
        cases h
        exact endM [(500, 18)] 0 8 [4, 6, 7] rfl (.nil) rfl ⟨mem_at 12 rfl, mem_at 13 rfl, mem_at 4 rfl, mem_at 14 rfl, trivial⟩ rfl rfl ⟨⟨_, mem_at 9 rfl⟩, ⟨_, mem_at 10 rfl⟩, ⟨_, mem_at 11 rfl⟩, trivial⟩ rfl
      · exact none_no h
def ev_round_Fewest (n : Nat) (rr1 : List (Int × Int × Int × Int × Int)) (rr2 : List ((List Int))) (rr3 : List (Int × Int × Int × Int)) (rr4 : Int) (rr5 : Int) (towers6 : List Int) : Option ((List (Int × (List Int))) × Int × Int) :=
  (ev_round_Check n rr1 rr2 rr3 rr4 rr5).bind fun r7 => cond (r7 != 0) (some (([] : List (Int × (List Int))), 0, r7)) ((ev_round_checkTowers n rr1 rr2 rr3 rr4 rr5 towers6).bind fun r8 => cond (r8.2 != 0) (some (([] : List (Int × (List Int))), 0, r8.2)) ((ev_p_round_office_shares_v1 n rr1 rr2 rr3 rr4 rr5 ([] : List ((Int × Int) × (((Int × (List Int) × Int × Bool))))) 0 r8.1 ([]) 0 false 0).bind fun r9 => cond (!r9.2.1) (some (([] : List (Int × (List Int))), 0, 7)) (some (r9.2.2.1, r9.2.2.2, 0))))
theorem fc_round_Fewest {n : Nat} {rr1 : List (Int × Int × Int × Int × Int)} {rr2 : List ((List Int))} {rr3 : List (Int × Int × Int × Int)} {rr4 : Int} {rr5 : Int} {towers6 : List Int} {r : (List (Int × (List Int))) × Int × Int} (h : ev_round_Fewest n rr1 rr2 rr3 rr4 rr5 towers6 = some r) : FC Try.prog 25 [.agg [.ref 0, .ref 1, .ref 2, vi rr4, vi rr5], .ref 3] [.ro 0 5 (List.map en_api_RoundTower rr1), .ro 1 1 (List.map en_Lint rr2), .ro 2 4 (List.map en_api_RoundWinder rr3), .ro 3 1 (List.map en_int towers6)] (.tup [.ref 0, vi r.2.1, vi r.2.2]) [.ro 0 2 (List.map en_api_RoundTrip r.1)] := by
  refine introJ (nz := 41) Try.func25 rfl rfl rfl (fun w0 R0 env0 => ?_)
  rw [ev_round_Fewest] at h
  refine TC.seq ?_
  refine TC.region ?_
  refine op0 (sp_box 4 rfl rfl rfl rfl rfl) rfl trivial rfl rfl ?_
  refine op0 (sp_assign rfl rfl) rfl trivial rfl rfl ?_
  refine op0 (sp_assign rfl rfl) rfl trivial rfl rfl ?_
  refine op0 (sp_assign rfl rfl) rfl trivial rfl rfl ?_
  refine TL.nil ?_
  refine TC.seq ?_
  refine TC.seq ?_
  refine TC.region ?_
  refine op1 0 rfl (sp_loadBA rfl isBlk rfl vt26 rfl rfl) rfl trivial rfl rfl ?_
  obtain ⟨r7, h1, h⟩ := bind_inv h
  refine opN (need := [.ro 0 5 (List.map en_api_RoundTower rr1), .ro 1 1 (List.map en_Lint rr2), .ro 2 4 (List.map en_api_RoundWinder rr3)]) [1, 2, 3] ⟨rfl, rfl, rfl, trivial⟩ (sp_call (avs := [.agg [.ref 0, .ref 1, .ref 2, vi rr4, vi rr5]]) (need := [.ro 0 5 (List.map en_api_RoundTower rr1), .ro 1 1 (List.map en_Lint rr2), .ro 2 4 (List.map en_api_RoundWinder rr3)]) (v := vi r7) (news := []) rfl rfl rfl Try.call33 (atJ [] [] (fc_round_Check h1) rfl rfl) (.inl (roAll rfl))) rfl trivial rfl rfl ?_
  refine op0 (sp_assign rfl rfl) rfl trivial rfl rfl ?_
  refine TL.nil ?_
  refine TC.seq ?_
  refine TC.region ?_
  refine op0 (sp_move rfl rfl) rfl trivial rfl rfl ?_
  refine op0 (sp_neq rfl rfl rfl) rfl trivial rfl rfl ?_
  refine TL.nil ?_
  refine TC.cond (b := (r7 != 0)) rfl (fun h2 => ?_) (fun h2 => ?_)
  · have h := cond_t h h2
    refine TC.seq ?_
    refine TC.region ?_
    refine op0 (sp_move rfl rfl) rfl trivial rfl rfl ?_
    refine op0 (sp_assign rfl rfl) rfl trivial rfl rfl ?_
    refine op0 (sp_assign rfl rfl) rfl trivial rfl rfl ?_
    refine op0 (sp_assign rfl rfl) rfl trivial rfl rfl ?_
    refine TL.nil ?_
    refine nilRowC 4 5 65 2 (List.map en_api_RoundTrip []) rfl rfl rfl ?_
    refine TC.freeze 0 rfl ?_
    cases h
    exact retJ [(0, 5)] (.tmp rfl (.tmp rfl (.tmp rfl .nil))) rfl ⟨mem_at 0 rfl, trivial⟩ rfl rfl
  · have h := cond_f h h2
    refine TC.skip ?_
    refine TC.seq ?_
    refine TC.region ?_
    refine op1 0 rfl (sp_loadBA rfl isBlk rfl vt26 rfl rfl) rfl trivial rfl rfl ?_
    refine op0 (sp_move rfl rfl) rfl trivial rfl rfl ?_
    obtain ⟨r8, h3, h⟩ := bind_inv h
    refine opN (need := [.ro 0 5 (List.map en_api_RoundTower rr1), .ro 1 1 (List.map en_Lint rr2), .ro 2 4 (List.map en_api_RoundWinder rr3), .ro 3 1 (List.map en_int towers6)]) [1, 2, 3, 4] ⟨rfl, rfl, rfl, rfl, trivial⟩ (sp_call (avs := [.agg [.ref 0, .ref 1, .ref 2, vi rr4, vi rr5], .ref 3]) (need := [.ro 0 5 (List.map en_api_RoundTower rr1), .ro 1 1 (List.map en_Lint rr2), .ro 2 4 (List.map en_api_RoundWinder rr3), .ro 3 1 (List.map en_int towers6)]) (v := .tup [vi r8.1, vi r8.2]) (news := []) rfl rfl rfl Try.call35 (atJ [] [] (fc_round_checkTowers h3) rfl rfl) (.inl (roAll rfl))) rfl trivial rfl rfl ?_
    refine op0 (sp_move rfl rfl) rfl trivial rfl rfl ?_
    refine op0 (sp_extract rfl rfl rfl) rfl trivial rfl rfl ?_
    refine op0 (sp_extract rfl rfl rfl) rfl trivial rfl rfl ?_
    refine op0 (sp_assign rfl rfl) rfl trivial rfl rfl ?_
    refine op0 (sp_assign rfl rfl) rfl trivial rfl rfl ?_
    refine TL.nil ?_
    refine TC.seq ?_
    refine TC.seq ?_
    refine TC.region ?_
    refine op0 (sp_move rfl rfl) rfl trivial rfl rfl ?_
    refine op0 (sp_neq rfl rfl rfl) rfl trivial rfl rfl ?_
    refine TL.nil ?_
    refine TC.cond (b := (r8.2 != 0)) rfl (fun h4 => ?_) (fun h4 => ?_)
    · have h := cond_t h h4
      refine TC.seq ?_
      refine TC.region ?_
      refine op0 (sp_move rfl rfl) rfl trivial rfl rfl ?_
      refine op0 (sp_assign rfl rfl) rfl trivial rfl rfl ?_
      refine op0 (sp_assign rfl rfl) rfl trivial rfl rfl ?_
      refine op0 (sp_assign rfl rfl) rfl trivial rfl rfl ?_
      refine TL.nil ?_
      refine nilRowC 4 6 65 2 (List.map en_api_RoundTrip []) rfl rfl rfl ?_
      refine TC.freeze 0 rfl ?_
      cases h
      exact retJ [(0, 6)] (.tmp rfl (.tmp rfl (.tmp rfl .nil))) rfl ⟨mem_at 0 rfl, trivial⟩ rfl rfl
    · have h := cond_f h h4
      refine TC.skip ?_
      refine TC.seq ?_
      refine TC.region ?_
      refine op0 (sp_alloc 7 rfl Try.zeroValue105 rfl) rfl trivial rfl rfl ?_
      refine TL.nil ?_
      refine TC.seq ?_
      refine TC.region ?_
      refine op0 (sp_alloc 8 rfl Try.zeroValue4 rfl) rfl trivial rfl rfl ?_
      refine stoB 0 (cells' := [.val (.bool false)]) rfl rfl trivial rfl rfl rfl rfl vt4 rfl rfl rfl ?_
      refine TL.nil ?_
      refine TC.seq ?_
      refine TC.region ?_
      refine op1 2 rfl (sp_loadBA rfl isBlk rfl vt26 rfl rfl) rfl trivial rfl rfl ?_
      refine op0 (sp_makeMap (ek := mk107) (ag := false) (ev := en_p_round_search) 9 ([] : List ((Int × Int) × (((Int × (List Int) × Int × Bool))))) rfl rfl) rfl trivial rfl rfl ?_
      refine op0 (sp_build (qs := [(0, .agg [.ref 0, .ref 1, .ref 2, vi rr4, vi rr5]), (1, .ref 9)]) rfl bt109 rfl rfl rfl rfl) rfl trivial rfl rfl ?_
      refine op0 (sp_box 10 rfl rfl rfl rfl rfl) rfl trivial rfl rfl ?_
      refine op0 (sp_assign rfl rfl) rfl trivial rfl rfl ?_
      refine TL.nil ?_
      refine TC.seq ?_
      refine TC.region ?_
      refine op0 (sp_move rfl rfl) rfl trivial rfl rfl ?_
      refine op0 (sp_move rfl rfl) rfl trivial rfl rfl ?_
      refine op0 (sp_build (qs := []) rfl bt105 rfl rfl rfl rfl) rfl trivial rfl rfl ?_
      refine op0 (sp_makeFunc (fi := []) (ca := [.tmp 10, .tmp 9]) (fa := []) (cb := [.ptr 8 0, .ptr 7 0]) rfl rfl rfl) rfl trivial rfl rfl ?_
      refine TL.freeze 0 rfl ?_
      obtain ⟨r9, h5, h⟩ := bind_inv h
      refine opT (take := [.inv 9 (mapI mk107 false en_p_round_search ([] : List ((Int × Int) × (((Int × (List Int) × Int × Bool)))))), .blk 8 [.val (.bool false)] 4, .blk 7 [.val (.slice none 0 0), vi 0] 105]) (need := [.rob 10 [.ref 0, .ref 1, .ref 2, vi rr4, vi rr5, .ref 9] 109, .ro 0 5 (List.map en_api_RoundTower rr1), .ro 1 1 (List.map en_Lint rr2), .ro 2 4 (List.map en_api_RoundWinder rr3)]) (V' := [.inv 9 (mapI mk107 false en_p_round_search r9.1), .blk 8 [.val (.bool r9.2.1)] 4, .ro 12 2 (List.map en_api_RoundTrip r9.2.2.1), .blk 7 [.ref 12, vi r9.2.2.2] 105, .rob 10 [.ref 0, .ref 1, .ref 2, vi rr4, vi rr5, .ref 9] 109, .blk 4 [.ref 0, .ref 1, .ref 2, vi rr4, vi rr5] 26, .ro 0 5 (List.map en_api_RoundTower rr1), .ro 1 1 (List.map en_Lint rr2), .ro 2 4 (List.map en_api_RoundWinder rr3), .ro 3 1 (List.map en_int towers6)]) [1, 2, 3] [0, 5, 6, 7] (ts_call (avs := [.ptr 10 0, vi 0, vi r8.1, .agg [.val (.slice none 0 0), vi 0], .fn 41 [] [.ptr 8 0, .ptr 7 0]]) (take := [.inv 9 (mapI mk107 false en_p_round_search ([] : List ((Int × Int) × (((Int × (List Int) × Int × Bool)))))), .blk 8 [.val (.bool false)] 4, .blk 7 [.val (.slice none 0 0), vi 0] 105]) (need := [.rob 10 [.ref 0, .ref 1, .ref 2, vi rr4, vi rr5, .ref 9] 109, .ro 0 5 (List.map en_api_RoundTower rr1), .ro 1 1 (List.map en_Lint rr2), .ro 2 4 (List.map en_api_RoundWinder rr3)]) (v := .tup []) (news := [.inv 9 (mapI mk107 false en_p_round_search r9.1), .blk 8 [.val (.bool r9.2.1)] 4, .ro 12 2 (List.map en_api_RoundTrip r9.2.2.1), .blk 7 [.ref 12, vi r9.2.2.2] 105]) rfl rfl rfl Try.call40 (FT.nil (args := [.ptr 10 0, vi 0, vi r8.1, .agg [.ref 11, vi 0], .fn 41 [] [.ptr 8 0, .ptr 7 0]]) 11 2 (FT.needJ (need := [.ro 11 2 (List.map en_api_RoundTrip ([])), .rob 10 [.ref 0, .ref 1, .ref 2, vi rr4, vi rr5, .ref 9] 109, .ro 0 5 (List.map en_api_RoundTower rr1), .ro 1 1 (List.map en_Lint rr2), .ro 2 4 (List.map en_api_RoundWinder rr3)]) (need' := [.rob 10 [.ref 0, .ref 1, .ref 2, vi rr4, vi rr5, .ref 9] 109, .ro 0 5 (List.map en_api_RoundTower rr1), .ro 1 1 (List.map en_Lint rr2), .ro 2 4 (List.map en_api_RoundWinder rr3), .ro 11 2 (List.map en_api_RoundTrip ([]))]) [1, 2, 3, 4, 0] ⟨rfl, rfl, rfl, rfl, rfl, trivial⟩ (atT [(0, 10), (1, 0), (2, 1), (3, 2), (4, 9), (5, 11), (6, 8)] [(4, 9), (6, 8), (500, 12)] (ft_p_round_office_shares_v1 h5) rfl rfl rfl)) rfl rfl rfl rfl) rfl rfl) trivial rfl ⟨rfl, rfl, rfl, trivial⟩ ⟨rfl, rfl, rfl, rfl, trivial⟩ rfl rfl ?_
      refine TL.nil ?_
      refine TC.seq ?_
      refine TC.seq ?_
      refine TC.region ?_
      refine op1 1 rfl (sp_loadB rfl isBlk rfl vt4 rfl) rfl trivial rfl rfl ?_
      refine op0 (sp_not rfl rfl) rfl trivial rfl rfl ?_
      refine TL.nil ?_
      refine TC.cond (b := (!r9.2.1)) rfl (fun h6 => ?_) (fun h6 => ?_)
      · have h := cond_t h h6
        refine TC.seq ?_
        refine TC.region ?_
        refine op0 (sp_assign rfl rfl) rfl trivial rfl rfl ?_
        refine op0 (sp_assign rfl rfl) rfl trivial rfl rfl ?_
        refine op0 (sp_assign rfl rfl) rfl trivial rfl rfl ?_
        refine TL.nil ?_
        refine nilRowC 4 13 65 2 (List.map en_api_RoundTrip []) rfl rfl rfl ?_
        refine TC.freeze 0 rfl ?_
        cases h
        exact retJ [(0, 13)] (.tmp rfl (.tmp rfl (.tmp rfl .nil))) rfl ⟨mem_at 0 rfl, trivial⟩ rfl rfl
      · have h := cond_f h h6
        refine TC.skip ?_
        refine TC.seq ?_
        refine drawJ 5 [⟨.ptr 7 0, [], [.blk 7 [.ref 12, vi r9.2.2.2] 105], []⟩, ⟨.ref 12, [], [.blk 7 [.ref 12, vi r9.2.2.2] 105], []⟩, ⟨.ptr 7 1, [], [.blk 7 [.ref 12, vi r9.2.2.2] 105], []⟩, ⟨vi r9.2.2.2, [], [.blk 7 [.ref 12, vi r9.2.2.2] 105], []⟩, ⟨.ref 12, [], [], []⟩] rfl ?_ rfl ?_ rfl ?_ ?_
        · kernel_rfl
        · kernel_rfl
        · exact DAll.op' (sp_fieldAddrB rfl isBlk rfl ft105_0 vt68 (by decide)) trivial rfl (From.ok (ps := [(none, 3)]) ⟨⟨rfl, rfl⟩, trivial⟩) (DAll.op' (sp_loadB rfl isBlk rfl vt68 rfl) trivial rfl (From.ok (ps := [(none, 3)]) ⟨⟨rfl, rfl⟩, trivial⟩) (DAll.op' (sp_fieldAddrB rfl isBlk rfl ft105_1 vt3 (by decide)) trivial rfl (From.ok (ps := [(none, 3)]) ⟨⟨rfl, rfl⟩, trivial⟩) (DAll.op' (sp_loadB rfl isBlk rfl vt3 rfl) trivial rfl (From.ok (ps := [(none, 3)]) ⟨⟨rfl, rfl⟩, trivial⟩) (DAll.op' (sp_assign rfl rfl) trivial rfl (From.ok (ps := []) trivial) (.nil)))))
        refine op0 (sp_assign rfl rfl) rfl trivial rfl rfl ?_
        refine op0 (sp_assign rfl rfl) rfl trivial rfl rfl ?_
        refine TL.nil ?_
        cases h
        exact retJ [(0, 12)] (.tmp rfl (.tmp rfl (.tmp rfl .nil))) rfl ⟨mem_at 2 rfl, trivial⟩ rfl rfl
def ev_round_checkDays_j1 (n : Nat) (x16 : Int × (List Int)) (i9 : Int) (i10 : Int) (i11 : Int) (l12 : List (Int × (List Int))) (l13 : List (Int × Int × Int × Int × Int)) (l14 : List ((List Int))) (l15 : List (Int × Int × Int × Int)) (k_round_checkDays_l0 : Int → Int → Int → Int → (List (Int × (List Int))) → (List (Int × Int × Int × Int × Int)) → (List ((List Int))) → (List (Int × Int × Int × Int)) → Option Int) : Option Int :=
  (ev_slices_Values_Lint_int n x16.2).bind fun r19 => (ev_slices_Sorted_int n r19).bind fun r20 => (ev_slices_Compact_Lint_int n r20).bind fun r21 => cond (decide ((r21.length : Int) < (x16.2.length : Int))) (some 2) (chk (in64 (i9 + 1)) <| k_round_checkDays_l0 x16.1 (i9 + 1) i10 i11 l12 l13 l14 l15)
theorem ok_round_checkDays_j1 {n : Nat} {w0 : World} {R0 : Nat → Prop} {env0 : Env} {r : Int} {days6 : List (Int × (List Int))} {x16 : Int × (List Int)} {i9 : Int} {i10 : Int} {i11 : Int} {l12 : List (Int × (List Int))} {l13 : List (Int × Int × Int × Int × Int)} {l14 : List ((List Int))} {l15 : List (Int × Int × Int × Int)} {k_round_checkDays_l0 : Int → Int → Int → Int → (List (Int × (List Int))) → (List (Int × Int × Int × Int × Int)) → (List ((List Int))) → (List (Int × Int × Int × Int)) → Option Int} (hk_round_checkDays_l0 : ∀ (i7 : Int) (i9 : Int) (i10 : Int) (i11 : Int) (l12 : List (Int × (List Int))) (l13 : List (Int × Int × Int × Int × Int)) (l14 : List ((List Int))) (l15 : List (Int × Int × Int × Int)), k_round_checkDays_l0 i7 i9 i10 i11 l12 l13 l14 l15 = some r → TC Try.prog ⟨w0, fun _ => False, R0⟩ 49 (bodyPost Try.prog Try.f43 (Post ⟨w0, fun _ => False, R0⟩ env0 (vi r) [])) [.code (sub (bodyOf Try.f43) [1, 1, 1, 0, 1, 0, 0, 0]), .code (sub (bodyOf Try.f43) [1, 1, 1, 0, 1, 0, 0, 1]), .inLoop (sub (bodyOf Try.f43) [1, 1, 1, 0, 1, 0, 0]), .inBlock 0, .code (sub (bodyOf Try.f43) [1, 1, 1, 1])] ([(2, .ptr 4 0), (5, vi i7), (12, .ref 3), (13, vi (days6.length : Int)), (14, vi i9)]) ([.blk 4 [.ref 0, .ref 1, .ref 2, vi i10, vi i11] 26, .ro 3 2 (List.map en_api_RoundDay l12), .ro 0 5 (List.map en_api_RoundTower l13), .ro 1 1 (List.map en_Lint l14), .ro 2 4 (List.map en_api_RoundWinder l15)])) (h : ev_round_checkDays_j1 n x16 i9 i10 i11 l12 l13 l14 l15 k_round_checkDays_l0 = some r) : TC Try.prog ⟨w0, fun _ => False, R0⟩ 49 (bodyPost Try.prog Try.f43 (Post ⟨w0, fun _ => False, R0⟩ env0 (vi r) [])) [.code (sub (bodyOf Try.f43) [1, 1, 1, 0, 1, 0, 0, 1, 1, 0, 0, 1, 0, 1, 1]), .code (sub (bodyOf Try.f43) [1, 1, 1, 0, 1, 0, 0, 1, 1, 0, 0, 1, 1]), .inBlock 1, .code (sub (bodyOf Try.f43) [1, 1, 1, 0, 1, 0, 0, 1, 1, 1]), .inLoop (sub (bodyOf Try.f43) [1, 1, 1, 0, 1, 0, 0]), .inBlock 0, .code (sub (bodyOf Try.f43) [1, 1, 1, 1])] ([(2, .ptr 4 0), (7, .ptr 6 0), (12, .ref 3), (13, vi (days6.length : Int)), (14, vi i9)]) ([.blk 4 [.ref 0, .ref 1, .ref 2, vi i10, vi i11] 26, .blk 6 [vi x16.1, .ref 5] 32, .ro 3 2 (List.map en_api_RoundDay l12), .ro 0 5 (List.map en_api_RoundTower l13), .ro 1 1 (List.map en_Lint l14), .ro 2 4 (List.map en_api_RoundWinder l15), .ro 5 1 (List.map en_int x16.2)]) := by
  rw [ev_round_checkDays_j1] at h
  refine TC.skip ?_
  refine TC.seq ?_
  refine TC.seq ?_
  refine TC.region ?_
  refine op1 1 rfl (sp_fieldAddrB rfl isBlk rfl ft32_1 vt30 (by decide)) rfl trivial rfl rfl ?_
  refine op1 1 rfl (sp_loadB rfl isBlk rfl vt30 rfl) rfl trivial rfl rfl ?_
  obtain ⟨r19, h11, h⟩ := bind_inv h
  refine op1 6 rfl (sp_call (avs := [.ref 5]) (need := [.ro 5 1 (List.map en_int x16.2)]) (v := .fn 87 [] [.ptr 8 0]) (news := [.blk 8 [.ref 9] 30, .ro 9 1 (List.map en_int r19)]) rfl rfl rfl Try.call73 (atJ [(0, 5)] [(0, 8), (1, 9)] (fc_slices_Values_Lint_int h11) rfl rfl) (.inl (roAll rfl))) rfl trivial rfl rfl ?_
  obtain ⟨r20, h12, h⟩ := bind_inv h
  refine opN (need := [.blk 8 [.ref 9] 30, .ro 9 1 (List.map en_int r19)]) [0, 1] ⟨rfl, rfl, trivial⟩ (sp_call (avs := [.fn 87 [] [.ptr 8 0]]) (need := [.blk 8 [.ref 9] 30, .ro 9 1 (List.map en_int r19)]) (v := .ref 10) (news := [.row 10 3 1 (List.map en_int r20)]) rfl rfl rfl Try.call72 (atJ [(0, 8), (1, 9)] [(0, 10)] (fc_slices_Sorted_int h12) rfl rfl) (.inr (List.forall_mem_cons.2 ⟨indep_map en_int_flat, (by simp)⟩))) rfl trivial rfl rfl ?_
  refine op0 (sp_assign rfl rfl) rfl trivial rfl rfl ?_
  refine TL.nil ?_
  refine TC.seq ?_
  obtain ⟨r21, h13, h⟩ := bind_inv h
  refine drawJ 6 [⟨.ref 10, [], [], []⟩, ⟨.ref 11, [.row 11 3 1 (List.map en_int r21)], [], [.row 10 3 1 (List.map en_int r20)]⟩, ⟨vi (r21.length : Int), [], [.row 11 3 1 (List.map en_int r21)], []⟩, ⟨.ptr 6 1, [], [.blk 6 [vi x16.1, .ref 5] 32], []⟩, ⟨.ref 5, [], [.blk 6 [vi x16.1, .ref 5] 32], []⟩, ⟨vi (x16.2.length : Int), [], [.ro 5 1 (List.map en_int x16.2)], []⟩] rfl ?_ rfl ?_ rfl ?_ ?_
  · kernel_rfl
  · kernel_rfl
  · exact DAll.op' (sp_move rfl rfl) trivial rfl (From.ok (ps := []) trivial) (DAll.opT (ts_call (avs := [.ref 10]) (take := [.row 10 3 1 (List.map en_int r20)]) (need := []) (v := .ref 11) (news := [.row 11 3 1 (List.map en_int r21)]) rfl rfl rfl Try.call74 (atT [(0, 10)] [(500, 11)] (ft_slices_Compact_Lint_int h13) rfl rfl rfl) rfl rfl) trivial (From.ok (ps := [(none, 0)]) ⟨⟨rfl, by kernel_rfl⟩, trivial⟩) (From.ok (ps := []) trivial) (DAll.op' (sp_lenM (N := r21.length) (len_map _ _) rfl rfl isOwn Try.underlying30) trivial rfl (From.ok (ps := [(some 1, 0)]) ⟨⟨_, rfl, by kernel_rfl, rfl, by kernel_rfl⟩, trivial⟩) (DAll.op' (sp_fieldAddrB rfl isBlk rfl ft32_1 vt30 (by decide)) trivial rfl (From.ok (ps := [(none, 4)]) ⟨⟨rfl, by kernel_rfl⟩, trivial⟩) (DAll.op' (sp_loadB rfl isBlk rfl vt30 rfl) trivial rfl (From.ok (ps := [(none, 4)]) ⟨⟨rfl, by kernel_rfl⟩, trivial⟩) (DAll.op' (sp_lenM (N := x16.2.length) (len_map _ _) rfl rfl isRo Try.underlying30) trivial rfl (From.ok (ps := [(none, 9)]) ⟨⟨rfl, by kernel_rfl⟩, trivial⟩) (.nil))))))
  refine op0 (sp_lss rfl rfl rfl) rfl trivial rfl rfl ?_
  refine TL.nil ?_
  refine TC.cond (b := (decide ((r21.length : Int) < (x16.2.length : Int)))) rfl (fun h14 => ?_) (fun h14 => ?_)
  · have h := cond_t h h14
    refine TC.seq ?_
    refine TC.region ?_
    refine op0 (sp_assign rfl rfl) rfl trivial rfl rfl ?_
    refine TL.nil ?_
    cases h
    exact retJ [] (.tmp rfl .nil) rfl trivial rfl rfl
  · have h := cond_f h h14
    refine TC.skip ?_
    refine TC.region ?_
    refine op1 4 rfl (sp_fieldAddrB rfl isBlk rfl ft32_0 vt3 (by decide)) rfl trivial rfl rfl ?_
    refine op1 4 rfl (sp_loadB rfl isBlk rfl vt3 rfl) rfl trivial rfl rfl ?_
    refine op0 (sp_assign rfl rfl) rfl trivial rfl rfl ?_
    refine TL.nil ?_
    refine TC.inBlock ?_
    refine TC.region ?_
    obtain ⟨h15, h⟩ := chk_inv h
    refine op0 (sp_add rfl rfl rfl h15) rfl trivial rfl rfl ?_
    refine op0 (sp_move rfl rfl) rfl trivial rfl rfl ?_
    refine TL.nil ?_
    refine TC.inLoop ?_
    refine TC.seq ?_
    refine subJ [] (hk_round_checkDays_l0 _ _ _ _ _ _ _ _ h) ?_ ?_ ?_
    · exact ⟨rfl, rfl, rfl, rfl, rfl, trivial⟩
    · exact ⟨mem_at 3 rfl, mem_at 5 rfl, mem_at 6 rfl, mem_at 7 rfl, mem_at 8 rfl, trivial⟩
    · rfl
def ev_round_checkDays_l0 (n : Nat) (days6 : List (Int × (List Int))) : Nat → Int → Int → Int → Int → (List (Int × (List Int))) → (List (Int × Int × Int × Int × Int)) → (List ((List Int))) → (List (Int × Int × Int × Int)) → Option Int
  | 0, _, _, _, _, _, _, _, _ => none
  | m + 1, i7, i9, i10, i11, l12, l13, l14, l15 => cond (decide (i9 < (days6.length : Int))) (idx l12 i9 fun x16 => chk (in64 (i7 + 1)) <| (ev_round_within n (i7 + 1) 36524 ([x16.1] : List Int)).bind fun r17 => cond (!r17) (some 2) (chk (in64 ((l13.length : Int) - 1)) <| (ev_round_within n 0 ((l13.length : Int) - 1) x16.2).bind fun r18 => cond (!r18) (some 2) (ev_round_checkDays_j1 n x16 i9 i10 i11 l12 l13 l14 l15 (fun i7q i9q i10q i11q l12q l13q l14q l15q => ev_round_checkDays_l0 n days6 m i7q i9q i10q i11q l12q l13q l14q l15q)))) (some 0)
theorem ok_round_checkDays_l0 {n : Nat} {w0 : World} {R0 : Nat → Prop} {env0 : Env} {r : Int} {days6 : List (Int × (List Int))} : ∀ (m : Nat) (i7 : Int) (i9 : Int) (i10 : Int) (i11 : Int) (l12 : List (Int × (List Int))) (l13 : List (Int × Int × Int × Int × Int)) (l14 : List ((List Int))) (l15 : List (Int × Int × Int × Int)), ev_round_checkDays_l0 n days6 m i7 i9 i10 i11 l12 l13 l14 l15 = some r → TC Try.prog ⟨w0, fun _ => False, R0⟩ 49 (bodyPost Try.prog Try.f43 (Post ⟨w0, fun _ => False, R0⟩ env0 (vi r) [])) [.code (sub (bodyOf Try.f43) [1, 1, 1, 0, 1, 0, 0, 0]), .code (sub (bodyOf Try.f43) [1, 1, 1, 0, 1, 0, 0, 1]), .inLoop (sub (bodyOf Try.f43) [1, 1, 1, 0, 1, 0, 0]), .inBlock 0, .code (sub (bodyOf Try.f43) [1, 1, 1, 1])] ([(2, .ptr 4 0), (5, vi i7), (12, .ref 3), (13, vi (days6.length : Int)), (14, vi i9)]) ([.blk 4 [.ref 0, .ref 1, .ref 2, vi i10, vi i11] 26, .ro 3 2 (List.map en_api_RoundDay l12), .ro 0 5 (List.map en_api_RoundTower l13), .ro 1 1 (List.map en_Lint l14), .ro 2 4 (List.map en_api_RoundWinder l15)]) := by
  intro m
  induction m with
  | zero => intro i7 i9 i10 i11 l12 l13 l14 l15 h; exact none_no h
  | succ m ih =>
    intro i7 i9 i10 i11 l12 l13 l14 l15 h
    rw [ev_round_checkDays_l0] at h
    refine TC.region ?_
    refine op0 (sp_lss rfl rfl rfl) rfl trivial rfl rfl ?_
    refine TL.nil ?_
    refine TC.seq ?_
    refine TC.cond (b := (decide (i9 < (days6.length : Int)))) rfl (fun h2 => ?_) (fun h2 => ?_)
    · have h := cond_t h h2
      refine TC.skip ?_
      refine TC.seq ?_
      refine TC.block ?_
      refine TC.seq ?_
      refine TC.region ?_
      obtain ⟨x16, h3, h4, h⟩ := idx_inv h
      refine op1 1 rfl (sp_indexS rfl rfl rfl isRo sl27 h3 (map_get _ h4)) rfl trivial rfl rfl ?_
      refine op1 1 rfl (sp_loadRA (i := (i9 : Int).toNat) (j := 0) (as_ := [vi x16.1, .ref 5]) (ns := [.ro 5 1 (List.map en_int x16.2)]) rfl rfl isRo vt32 rfl (map_get _ h4) rfl rfl (by decide) (.v (.s (.nil))) (nodup_of_B rfl)) rfl trivial rfl rfl ?_
      refine op0 (sp_alloc 6 rfl Try.zeroValue32 rfl) rfl trivial rfl rfl ?_
      refine stoB 0 (cells' := [vi x16.1, .ref 5]) rfl rfl trivial rfl rfl rfl rfl vt32 rfl rfl rfl ?_
      refine TL.nil ?_
      refine TC.seq ?_
      refine TC.seq ?_
      refine TC.region ?_
      refine op0 (sp_move rfl rfl) rfl trivial rfl rfl ?_
      obtain ⟨h5, h⟩ := chk_inv h
      refine op0 (sp_add rfl rfl rfl h5) rfl trivial rfl rfl ?_
      refine op1 0 rfl (sp_fieldAddrB rfl isBlk rfl ft32_0 vt3 (by decide)) rfl trivial rfl rfl ?_
      refine op1 0 rfl (sp_loadB rfl isBlk rfl vt3 rfl) rfl trivial rfl rfl ?_
      refine op0 (sp_buildSlice (qs := [vi x16.1]) (need := []) (els := List.map en_int ([x16.1] : List Int)) 7 rfl sl30 (by decide) (by decide) rfl rfl rfl (.v (.nil)) (map_len fun _ => rfl) rfl rfl rfl) rfl trivial rfl rfl ?_
      obtain ⟨r17, h6, h⟩ := bind_inv h
      refine op1 0 rfl (sp_call (avs := [vi (i7 + 1), vi 36524, .ref 7]) (need := [.row 7 3 1 (List.map en_int ([x16.1] : List Int))]) (v := .val (.bool r17)) (news := []) rfl rfl rfl Try.call48 (atJ [(0, 7)] [] (fc_round_within h6) rfl rfl) (.inr (fun x hx => nomatch hx))) rfl trivial rfl rfl ?_
      refine op0 (sp_not rfl rfl) rfl trivial rfl rfl ?_
      refine op0 (sp_move rfl rfl) rfl trivial rfl rfl ?_
      rcases cond_cases h with ⟨h7, h⟩ | ⟨h7, h⟩
      · refine (boolLit 25 rfl h7).2 ?_
        refine opSkip rfl ⟨_, rfl, .inl rfl⟩ rfl ?_
        refine opSkip rfl ⟨_, rfl, .inl rfl⟩ rfl ?_
        refine opSkip rfl ⟨_, rfl, .inl rfl⟩ rfl ?_
        refine opSkip rfl ⟨_, rfl, .inl rfl⟩ rfl ?_
        refine opSkip rfl ⟨_, rfl, .inl rfl⟩ rfl ?_
        refine opSkip rfl ⟨_, rfl, .inl rfl⟩ rfl ?_
        refine opSkip rfl ⟨_, rfl, .inl rfl⟩ rfl ?_
        refine opSkip rfl ⟨_, rfl, .inl rfl⟩ rfl ?_
        refine op0 (sp_pickT rfl rfl rfl) rfl trivial rfl rfl ?_
        refine TL.nil ?_
        refine TC.condT rfl ?_
        refine TC.seq ?_
        refine TC.region ?_
        refine op0 (sp_assign rfl rfl) rfl trivial rfl rfl ?_
        refine TL.nil ?_
        cases h
        exact retJ [] (.tmp rfl .nil) rfl trivial rfl rfl
      · refine (boolLit 25 rfl h7).2 ?_
        refine op1 3 rfl (sp_fieldAddrB rfl isBlk rfl ft26_0 vt22 (by decide)) rfl ⟨_, rfl, rfl⟩ rfl rfl ?_
        refine op1 3 rfl (sp_loadB rfl isBlk rfl vt22 rfl) rfl ⟨_, rfl, rfl⟩ rfl rfl ?_
        refine op1 5 rfl (sp_lenM (N := l13.length) (len_map _ _) rfl rfl isRo Try.underlying22) rfl ⟨_, rfl, rfl⟩ rfl rfl ?_
        obtain ⟨h8, h⟩ := chk_inv h
        refine op0 (sp_sub rfl rfl rfl h8) rfl ⟨_, rfl, rfl⟩ rfl rfl ?_
        refine op1 1 rfl (sp_fieldAddrB rfl isBlk rfl ft32_1 vt30 (by decide)) rfl ⟨_, rfl, rfl⟩ rfl rfl ?_
        refine op1 1 rfl (sp_loadB rfl isBlk rfl vt30 rfl) rfl ⟨_, rfl, rfl⟩ rfl rfl ?_
        obtain ⟨r18, h9, h⟩ := bind_inv h
        refine op1 2 rfl (sp_call (avs := [vi 0, vi ((l13.length : Int) - 1), .ref 5]) (need := [.ro 5 1 (List.map en_int x16.2)]) (v := .val (.bool r18)) (news := []) rfl rfl rfl Try.call48 (atJ [(0, 5)] [] (fc_round_within h9) rfl rfl) (.inl (roAll rfl))) rfl ⟨_, rfl, rfl⟩ rfl rfl ?_
        refine op0 (sp_not rfl rfl) rfl ⟨_, rfl, rfl⟩ rfl rfl ?_
        refine op0 (sp_pickF rfl rfl rfl) rfl trivial rfl rfl ?_
        refine TL.nil ?_
        refine TC.cond (b := (!r18)) rfl (fun h10 => ?_) (fun h10 => ?_)
        · have h := cond_t h h10
          refine TC.seq ?_
          refine TC.region ?_
          refine op0 (sp_assign rfl rfl) rfl trivial rfl rfl ?_
          refine TL.nil ?_
          cases h
          exact retJ [] (.tmp rfl .nil) rfl trivial rfl rfl
        · have h := cond_f h h10
          refine subJ [] (ok_round_checkDays_j1 (days6 := days6) ih h) ?_ ?_ ?_
          · exact ⟨rfl, rfl, rfl, rfl, rfl, trivial⟩
          · exact ⟨mem_at 3 rfl, mem_at 1 rfl, mem_at 4 rfl, mem_at 5 rfl, mem_at 6 rfl, mem_at 7 rfl, mem_at 2 rfl, trivial⟩
          · rfl
    · have h := cond_f h h2
      refine TC.exit rfl ?_
      refine TC.seq ?_
      refine TC.region ?_
      refine op0 (sp_assign rfl rfl) rfl trivial rfl rfl ?_
      refine TL.nil ?_
      cases h
      exact retJ [] (.tmp rfl .nil) rfl trivial rfl rfl
def ev_round_checkDays (n : Nat) (rr1 : List (Int × Int × Int × Int × Int)) (rr2 : List ((List Int))) (rr3 : List (Int × Int × Int × Int)) (rr4 : Int) (rr5 : Int) (days6 : List (Int × (List Int))) : Option Int :=
  cond (decide ((400 : Int) < (days6.length : Int))) (some 5) (ev_round_checkDays_l0 n days6 n 0 0 rr4 rr5 days6 rr1 rr2 rr3)
theorem fc_round_checkDays {n : Nat} {rr1 : List (Int × Int × Int × Int × Int)} {rr2 : List ((List Int))} {rr3 : List (Int × Int × Int × Int)} {rr4 : Int} {rr5 : Int} {days6 : List (Int × (List Int))} {r : Int} (h : ev_round_checkDays n rr1 rr2 rr3 rr4 rr5 days6 = some r) : FC Try.prog 43 [.agg [.ref 0, .ref 1, .ref 2, vi rr4, vi rr5], .ref 3] [.ro 0 5 (List.map en_api_RoundTower rr1), .ro 1 1 (List.map en_Lint rr2), .ro 2 4 (List.map en_api_RoundWinder rr3), .ro 3 2 (List.map en_api_RoundDay days6)] (vi r) [] := by
  refine introJ (nz := 49) Try.func43 rfl rfl rfl (fun w0 R0 env0 => ?_)
  rw [ev_round_checkDays] at h
  refine TC.seq ?_
  refine TC.region ?_
  refine op0 (sp_box 4 rfl rfl rfl rfl rfl) rfl trivial rfl rfl ?_
  refine op0 (sp_assign rfl rfl) rfl trivial rfl rfl ?_
  refine TL.nil ?_
  refine TC.seq ?_
  refine TC.seq ?_
  refine TC.region ?_
  refine op0 (sp_move rfl rfl) rfl trivial rfl rfl ?_
  refine op1 4 rfl (sp_lenM (N := days6.length) (len_map _ _) rfl rfl isRo Try.underlying27) rfl trivial rfl rfl ?_
  refine op0 (sp_gtr rfl rfl rfl) rfl trivial rfl rfl ?_
  refine TL.nil ?_
  refine TC.cond (b := (decide ((400 : Int) < (days6.length : Int)))) rfl (fun h1 => ?_) (fun h1 => ?_)
  · have h := cond_t h h1
    refine TC.seq ?_
    refine TC.region ?_
    refine op0 (sp_assign rfl rfl) rfl trivial rfl rfl ?_
    refine TL.nil ?_
    cases h
    exact retJ [] (.tmp rfl .nil) rfl trivial rfl rfl
  · have h := cond_f h h1
    refine TC.skip ?_
    refine TC.seq ?_
    refine TC.region ?_
    refine op0 (sp_assign rfl rfl) rfl trivial rfl rfl ?_
    refine TL.nil ?_
    refine TC.seq ?_
    refine TC.seq ?_
    refine TC.region ?_
    refine op0 (sp_move rfl rfl) rfl trivial rfl rfl ?_
    refine op1 4 rfl (sp_lenM (N := days6.length) (len_map _ _) rfl rfl isRo Try.underlying27) rfl trivial rfl rfl ?_
    refine op0 (sp_move rfl rfl) rfl trivial rfl rfl ?_
    refine TL.nil ?_
    refine TC.block ?_
    refine TC.loop ?_
    refine TC.seq ?_
    refine subJ [] (ok_round_checkDays_l0 _ _ _ _ _ _ _ _ _ h) ?_ ?_ ?_
    · exact ⟨rfl, rfl, rfl, rfl, rfl, trivial⟩
    · exact ⟨mem_at 0 rfl, mem_at 4 rfl, mem_at 1 rfl, mem_at 2 rfl, mem_at 3 rfl, trivial⟩
    · rfl
def ev_round_isDay (n : Nat) (nn1 : Int) : Option Bool :=
  (ev_round_within n 0 36524 ([nn1] : List Int)).bind fun r2 => some r2
theorem fc_round_isDay {n : Nat} {nn1 : Int} {r : Bool} (h : ev_round_isDay n nn1 = some r) : FC Try.prog 44 [vi nn1] [] (.val (.bool r)) [] := by
  refine introJ (nz := 6) Try.func44 rfl rfl rfl (fun w0 R0 env0 => ?_)
  rw [ev_round_isDay] at h
  refine TC.seq ?_
  refine TC.region ?_
  refine op0 (sp_assign rfl rfl) rfl trivial rfl rfl ?_
  refine TL.nil ?_
  refine TC.seq ?_
  refine TC.region ?_
  refine op0 (sp_move rfl rfl) rfl trivial rfl rfl ?_
  refine op0 (sp_buildSlice (qs := [vi nn1]) (need := []) (els := List.map en_int ([nn1] : List Int)) 0 rfl sl30 (by decide) (by decide) rfl rfl rfl (.v (.nil)) (map_len fun _ => rfl) rfl rfl rfl) rfl trivial rfl rfl ?_
  obtain ⟨r2, h1, h⟩ := bind_inv h
  refine op1 0 rfl (sp_call (avs := [vi 0, vi 36524, .ref 0]) (need := [.row 0 3 1 (List.map en_int ([nn1] : List Int))]) (v := .val (.bool r2)) (news := []) rfl rfl rfl Try.call48 (atJ [] [] (fc_round_within h1) rfl rfl) (.inr (fun x hx => nomatch hx))) rfl trivial rfl rfl ?_
  refine op0 (sp_assign rfl rfl) rfl trivial rfl rfl ?_
  refine TL.nil ?_
  cases h
  exact retJ [] (.tmp rfl .nil) rfl trivial rfl rfl
def ev_round_open_l3 (n : Nat) (rr1 : List (Int × Int × Int × Int × Int)) : Nat → (List Int) → Int → (List (Int × Int × Int × Int × Int)) → Option ((List Int) × Int)
  | 0, _, _, _ => none
  | m + 1, l13, i14, l15 => cond (decide (i14 < (rr1.length : Int))) (idx l15 i14 fun x16 => chk (room 8 (l13.length + ([x16.2.2.2.2] : List Int).length)) <| chk (in64 (i14 + 1)) <| ev_round_open_l3 n rr1 m (l13 ++ ([x16.2.2.2.2] : List Int)) (i14 + 1) l15) (some (l13, 0))
theorem ok_round_open_l3 {n : Nat} {w0 : World} {R0 : Nat → Prop} {env0 : Env} {r : (List Int) × Int} {rr1 : List (Int × Int × Int × Int × Int)} : ∀ (m : Nat) (l13 : List Int) (i14 : Int) (l15 : List (Int × Int × Int × Int × Int)), ev_round_open_l3 n rr1 m l13 i14 l15 = some r → TC Try.prog ⟨w0, fun _ => False, R0⟩ 41 (bodyPost Try.prog Try.f28 (Post ⟨w0, fun _ => False, R0⟩ env0 (.tup [.ref 0, vi r.2]) [.row 0 3 1 (List.map en_int r.1)])) [.code (sub (bodyOf Try.f28) [1, 1, 1, 1, 1, 0, 1, 0, 0, 0]), .code (sub (bodyOf Try.f28) [1, 1, 1, 1, 1, 0, 1, 0, 0, 1]), .inLoop (sub (bodyOf Try.f28) [1, 1, 1, 1, 1, 0, 1, 0, 0]), .inBlock 0, .code (sub (bodyOf Try.f28) [1, 1, 1, 1, 1, 1])] ([(6, .ref 6), (28, .ref 0), (29, vi (rr1.length : Int)), (30, vi i14)]) ([.row 6 3 1 (List.map en_int l13), .ro 0 5 (List.map en_api_RoundTower l15)]) := by
  intro m
  induction m with
  | zero => intro l13 i14 l15 h; exact none_no h
  | succ m ih =>
    intro l13 i14 l15 h
    rw [ev_round_open_l3] at h
    refine TC.region ?_
    refine op0 (sp_lss rfl rfl rfl) rfl trivial rfl rfl ?_
    refine TL.nil ?_
    refine TC.seq ?_
    refine TC.cond (b := (decide (i14 < (rr1.length : Int)))) rfl (fun h8 => ?_) (fun h8 => ?_)
    · have h := cond_t h h8
      refine TC.skip ?_
      refine TC.seq ?_
      refine TC.block ?_
      refine TC.seq ?_
      refine TC.region ?_
      obtain ⟨x16, h9, h10, h⟩ := idx_inv h
      refine op1 1 rfl (sp_indexS rfl rfl rfl isRo sl22 h9 (map_get _ h10)) rfl trivial rfl rfl ?_
      refine op1 1 rfl (sp_loadRA (i := (i14 : Int).toNat) (j := 0) (as_ := [vi x16.1, vi x16.2.1, .val (.int .u16 x16.2.2.1), vi x16.2.2.2.1, vi x16.2.2.2.2]) (ns := []) rfl rfl isRo vt46 rfl (map_get _ h10) rfl rfl (by decide) (.v (.v (.v (.v (.v (.nil)))))) (nodup_of_B rfl)) rfl trivial rfl rfl ?_
      refine op0 (sp_alloc 7 rfl Try.zeroValue46 rfl) rfl trivial rfl rfl ?_
      refine stoB 0 (cells' := [vi x16.1, vi x16.2.1, .val (.int .u16 x16.2.2.1), vi x16.2.2.2.1, vi x16.2.2.2.2]) rfl rfl trivial rfl rfl rfl rfl vt46 rfl rfl rfl ?_
      refine TL.nil ?_
      refine TC.region ?_
      refine op0 (sp_move rfl rfl) rfl trivial rfl rfl ?_
      refine op1 0 rfl (sp_fieldAddrB rfl isBlk rfl ft46_4 vt3 (by decide)) rfl trivial rfl rfl ?_
      refine op1 0 rfl (sp_loadB rfl isBlk rfl vt3 rfl) rfl trivial rfl rfl ?_
      refine op0 (sp_buildSlice (qs := [vi x16.2.2.2.2]) (need := []) (els := List.map en_int ([x16.2.2.2.2] : List Int)) 8 rfl sl83 (by decide) (by decide) rfl rfl rfl (.v (.nil)) (map_len fun _ => rfl) rfl rfl rfl) rfl trivial rfl rfl ?_
      obtain ⟨h11, h⟩ := chk_inv h
      refine appM 2 0 (N := l13.length) (N2 := ([x16.2.2.2.2] : List Int).length) 9 rfl rfl trivial rfl rfl rfl rfl rfl isOwn rfl sl83 (len_map _ _) (len_map _ _) h11 (map_app _ _ _) rfl ?_
      refine op0 (sp_assign rfl rfl) rfl trivial rfl rfl ?_
      refine TL.nil ?_
      refine TC.inBlock ?_
      refine TC.region ?_
      obtain ⟨h12, h⟩ := chk_inv h
      refine op0 (sp_add rfl rfl rfl h12) rfl trivial rfl rfl ?_
      refine op0 (sp_move rfl rfl) rfl trivial rfl rfl ?_
      refine TL.nil ?_
      refine TC.inLoop ?_
      refine TC.seq ?_
      refine subJ [(6, 9)] (ih _ _ _ h) ?_ ?_ ?_
      · exact ⟨rfl, rfl, rfl, rfl, trivial⟩
      · exact ⟨mem_at 0 rfl, mem_at 3 rfl, trivial⟩
      · rfl
    · have h := cond_f h h8
      refine TC.exit rfl ?_
      refine TC.seq ?_
      refine TC.region ?_
      refine op0 (sp_move rfl rfl) rfl trivial rfl rfl ?_
      refine op0 (sp_assign rfl rfl) rfl trivial rfl rfl ?_
      refine op0 (sp_assign rfl rfl) rfl trivial rfl rfl ?_
      refine TL.nil ?_
      cases h
      exact retJ [(0, 6)] (.tmp rfl (.tmp rfl .nil)) rfl ⟨mem_at 0 rfl, trivial⟩ rfl rfl
def ev_round_open_j2 (n : Nat) (rr1 : List (Int × Int × Int × Int × Int)) (i12 : Int) : Option ((List Int) × Int) :=
  cond (i12 != 0) (some (([] : List Int), i12)) (ev_round_open_l3 n rr1 n ([] : List Int) 0 rr1)
theorem ok_round_open_j2 {n : Nat} {w0 : World} {R0 : Nat → Prop} {env0 : Env} {r : (List Int) × Int} {rr4 : Int} {rr5 : Int} {rr1 : List (Int × Int × Int × Int × Int)} {rr2 : List ((List Int))} {rr3 : List (Int × Int × Int × Int)} {i12 : Int} (h : ev_round_open_j2 n rr1 i12 = some r) : TC Try.prog ⟨w0, fun _ => False, R0⟩ 41 (bodyPost Try.prog Try.f28 (Post ⟨w0, fun _ => False, R0⟩ env0 (.tup [.ref 0, vi r.2]) [.row 0 3 1 (List.map en_int r.1)])) [.code (sub (bodyOf Try.f28) [1, 1, 1, 1, 0, 0]), .code (sub (bodyOf Try.f28) [1, 1, 1, 1, 0, 1]), .code (sub (bodyOf Try.f28) [1, 1, 1, 1, 1])] ([(3, .ptr 4 0), (6, .val (.slice none 0 0)), (7, vi i12)]) ([.blk 4 [.ref 0, .ref 1, .ref 2, vi rr4, vi rr5] 26, .ro 0 5 (List.map en_api_RoundTower rr1), .ro 1 1 (List.map en_Lint rr2), .ro 2 4 (List.map en_api_RoundWinder rr3)]) := by
  rw [ev_round_open_j2] at h
  refine TC.region ?_
  refine op0 (sp_move rfl rfl) rfl trivial rfl rfl ?_
  refine op0 (sp_neq rfl rfl rfl) rfl trivial rfl rfl ?_
  refine TL.nil ?_
  refine TC.cond (b := (i12 != 0)) rfl (fun h7 => ?_) (fun h7 => ?_)
  · have h := cond_t h h7
    refine TC.seq ?_
    refine TC.region ?_
    refine op0 (sp_move rfl rfl) rfl trivial rfl rfl ?_
    refine op0 (sp_assign rfl rfl) rfl trivial rfl rfl ?_
    refine op0 (sp_assign rfl rfl) rfl trivial rfl rfl ?_
    refine TL.nil ?_
    refine nilRowC 6 5 3 1 (List.map en_int []) rfl rfl rfl ?_
    cases h
    exact retJ [(0, 5)] (.tmp rfl (.tmp rfl .nil)) rfl ⟨mem_at 0 rfl, trivial⟩ rfl rfl
  · have h := cond_f h h7
    refine TC.skip ?_
    refine TC.seq ?_
    refine TC.seq ?_
    refine TC.region ?_
    refine op1 0 rfl (sp_fieldAddrB rfl isBlk rfl ft26_0 vt22 (by decide)) rfl trivial rfl rfl ?_
    refine op1 0 rfl (sp_loadB rfl isBlk rfl vt22 rfl) rfl trivial rfl rfl ?_
    refine op1 1 rfl (sp_lenM (N := rr1.length) (len_map _ _) rfl rfl isRo Try.underlying22) rfl trivial rfl rfl ?_
    refine op0 (sp_move rfl rfl) rfl trivial rfl rfl ?_
    refine TL.nil ?_
    refine TC.block ?_
    refine TC.loop ?_
    refine TC.seq ?_
    refine nilRowC 6 10 3 1 (List.map en_int []) rfl rfl rfl ?_
    refine subJ [(6, 10)] (ok_round_open_l3 _ _ _ _ h) ?_ ?_ ?_
    · exact ⟨rfl, rfl, rfl, rfl, trivial⟩
    · exact ⟨mem_at 0 rfl, mem_at 2 rfl, trivial⟩
    · rfl
def ev_round_open_j1 (n : Nat) (rr1 : List (Int × Int × Int × Int × Int)) : Option ((List Int) × Int) :=
  ev_round_open_j2 n rr1 3
theorem ok_round_open_j1 {n : Nat} {w0 : World} {R0 : Nat → Prop} {env0 : Env} {r : (List Int) × Int} {rr4 : Int} {rr5 : Int} {rr1 : List (Int × Int × Int × Int × Int)} {rr2 : List ((List Int))} {rr3 : List (Int × Int × Int × Int)} (h : ev_round_open_j1 n rr1 = some r) : TC Try.prog ⟨w0, fun _ => False, R0⟩ 41 (bodyPost Try.prog Try.f28 (Post ⟨w0, fun _ => False, R0⟩ env0 (.tup [.ref 0, vi r.2]) [.row 0 3 1 (List.map en_int r.1)])) [.code (sub (bodyOf Try.f28) [1, 1, 1, 0, 1, 0]), .code (sub (bodyOf Try.f28) [1, 1, 1, 1])] ([(3, .ptr 4 0), (6, .val (.slice none 0 0))]) ([.blk 4 [.ref 0, .ref 1, .ref 2, vi rr4, vi rr5] 26, .ro 0 5 (List.map en_api_RoundTower rr1), .ro 1 1 (List.map en_Lint rr2), .ro 2 4 (List.map en_api_RoundWinder rr3)]) := by
  rw [ev_round_open_j1] at h
  refine TC.region ?_
  refine op0 (sp_assign rfl rfl) rfl trivial rfl rfl ?_
  refine TL.nil ?_
  refine TC.seq ?_
  refine TC.seq ?_
  refine subJ [] (ok_round_open_j2 (rr4 := rr4) (rr5 := rr5) (rr2 := rr2) (rr3 := rr3) h) ?_ ?_ ?_
  · exact ⟨rfl, rfl, rfl, trivial⟩
  · exact ⟨mem_at 0 rfl, mem_at 1 rfl, mem_at 2 rfl, mem_at 3 rfl, trivial⟩
  · rfl
def ev_round_open_j4 (n : Nat) (rr1 : List (Int × Int × Int × Int × Int)) (i10 : Int) : Option ((List Int) × Int) :=
  ev_round_open_j2 n rr1 i10
theorem ok_round_open_j4 {n : Nat} {w0 : World} {R0 : Nat → Prop} {env0 : Env} {r : (List Int) × Int} {i10 : Int} {rr4 : Int} {rr5 : Int} {rr1 : List (Int × Int × Int × Int × Int)} {rr2 : List ((List Int))} {rr3 : List (Int × Int × Int × Int)} (h : ev_round_open_j4 n rr1 i10 = some r) : TC Try.prog ⟨w0, fun _ => False, R0⟩ 41 (bodyPost Try.prog Try.f28 (Post ⟨w0, fun _ => False, R0⟩ env0 (.tup [.ref 0, vi r.2]) [.row 0 3 1 (List.map en_int r.1)])) [.code (sub (bodyOf Try.f28) [1, 1, 1, 0, 1, 1]), .code (sub (bodyOf Try.f28) [1, 1, 1, 1])] ([(3, .ptr 4 0), (6, .val (.slice none 0 0)), (7, vi i10)]) ([.blk 4 [.ref 0, .ref 1, .ref 2, vi rr4, vi rr5] 26, .ro 0 5 (List.map en_api_RoundTower rr1), .ro 1 1 (List.map en_Lint rr2), .ro 2 4 (List.map en_api_RoundWinder rr3)]) := by
  rw [ev_round_open_j4] at h
  refine TC.skip ?_
  refine TC.seq ?_
  refine TC.seq ?_
  refine subJ [] (ok_round_open_j2 (rr4 := rr4) (rr5 := rr5) (rr2 := rr2) (rr3 := rr3) h) ?_ ?_ ?_
  · exact ⟨rfl, rfl, rfl, trivial⟩
  · exact ⟨mem_at 0 rfl, mem_at 1 rfl, mem_at 2 rfl, mem_at 3 rfl, trivial⟩
  · rfl
def ev_round_open_j0 (n : Nat) (day7 : Int) (rr1 : List (Int × Int × Int × Int × Int)) (i10 : Int) : Option ((List Int) × Int) :=
  cond (i10 == 0) ((ev_round_isDay n day7).bind fun r11 => cond (!r11) (ev_round_open_j1 n rr1) (ev_round_open_j4 n rr1 i10)) (ev_round_open_j4 n rr1 i10)
theorem ok_round_open_j0 {n : Nat} {w0 : World} {R0 : Nat → Prop} {env0 : Env} {r : (List Int) × Int} {day7 : Int} {rr4 : Int} {rr5 : Int} {rr1 : List (Int × Int × Int × Int × Int)} {rr2 : List ((List Int))} {rr3 : List (Int × Int × Int × Int)} {i10 : Int} (h : ev_round_open_j0 n day7 rr1 i10 = some r) : TC Try.prog ⟨w0, fun _ => False, R0⟩ 41 (bodyPost Try.prog Try.f28 (Post ⟨w0, fun _ => False, R0⟩ env0 (.tup [.ref 0, vi r.2]) [.row 0 3 1 (List.map en_int r.1)])) [.code (sub (bodyOf Try.f28) [1, 1, 1, 0, 0]), .code (sub (bodyOf Try.f28) [1, 1, 1, 0, 1]), .code (sub (bodyOf Try.f28) [1, 1, 1, 1])] ([(2, vi day7), (3, .ptr 4 0), (6, .val (.slice none 0 0)), (7, vi i10)]) ([.blk 4 [.ref 0, .ref 1, .ref 2, vi rr4, vi rr5] 26, .ro 0 5 (List.map en_api_RoundTower rr1), .ro 1 1 (List.map en_Lint rr2), .ro 2 4 (List.map en_api_RoundWinder rr3)]) := by
  rw [ev_round_open_j0] at h
  refine TC.region ?_
  refine op0 (sp_move rfl rfl) rfl trivial rfl rfl ?_
  refine op0 (sp_eql rfl rfl rfl) rfl trivial rfl rfl ?_
  refine op0 (sp_move rfl rfl) rfl trivial rfl rfl ?_
  rcases cond_cases h with ⟨h4, h⟩ | ⟨h4, h⟩
  · refine (boolLit 19 rfl h4).2 ?_
    refine op0 (sp_move rfl rfl) rfl ⟨_, rfl, rfl⟩ rfl rfl ?_
    obtain ⟨r11, h5, h⟩ := bind_inv h
    refine op0 (sp_call (avs := [vi day7]) (need := []) (v := .val (.bool r11)) (news := []) rfl rfl rfl Try.call44 (atJ [] [] (fc_round_isDay h5) rfl rfl) (.inl (roAll rfl))) rfl ⟨_, rfl, rfl⟩ rfl rfl ?_
    refine op0 (sp_not rfl rfl) rfl ⟨_, rfl, rfl⟩ rfl rfl ?_
    refine op0 (sp_pickT rfl rfl rfl) rfl trivial rfl rfl ?_
    refine TL.nil ?_
    refine TC.cond (b := (!r11)) rfl (fun h6 => ?_) (fun h6 => ?_)
    · have h := cond_t h h6
      refine subJ [] (ok_round_open_j1 (rr4 := rr4) (rr5 := rr5) (rr2 := rr2) (rr3 := rr3) h) ?_ ?_ ?_
      · exact ⟨rfl, rfl, trivial⟩
      · exact ⟨mem_at 0 rfl, mem_at 1 rfl, mem_at 2 rfl, mem_at 3 rfl, trivial⟩
      · rfl
    · have h := cond_f h h6
      refine subJ [] (ok_round_open_j4 (rr4 := rr4) (rr5 := rr5) (rr2 := rr2) (rr3 := rr3) h) ?_ ?_ ?_
      · exact ⟨rfl, rfl, rfl, trivial⟩
      · exact ⟨mem_at 0 rfl, mem_at 1 rfl, mem_at 2 rfl, mem_at 3 rfl, trivial⟩
      · rfl
  · refine (boolLit 19 rfl h4).2 ?_
    refine opSkip rfl ⟨_, rfl, .inl rfl⟩ rfl ?_
    refine opSkip rfl ⟨_, rfl, .inl rfl⟩ rfl ?_
    refine opSkip rfl ⟨_, rfl, .inl rfl⟩ rfl ?_
    refine op0 (sp_pickF rfl rfl rfl) rfl trivial rfl rfl ?_
    refine TL.nil ?_
    refine TC.condF rfl ?_
    refine subJ [] (ok_round_open_j4 (rr4 := rr4) (rr5 := rr5) (rr2 := rr2) (rr3 := rr3) h) ?_ ?_ ?_
    · exact ⟨rfl, rfl, rfl, trivial⟩
    · exact ⟨mem_at 0 rfl, mem_at 1 rfl, mem_at 2 rfl, mem_at 3 rfl, trivial⟩
    · rfl
def ev_round_open (n : Nat) (rr1 : List (Int × Int × Int × Int × Int)) (rr2 : List ((List Int))) (rr3 : List (Int × Int × Int × Int)) (rr4 : Int) (rr5 : Int) (days6 : List (Int × (List Int))) (day7 : Int) : Option ((List Int) × Int) :=
  (ev_round_Check n rr1 rr2 rr3 rr4 rr5).bind fun r8 => cond (r8 == 0) ((ev_round_checkDays n rr1 rr2 rr3 rr4 rr5 days6).bind fun r9 => ev_round_open_j0 n day7 rr1 r9) (ev_round_open_j0 n day7 rr1 r8)
theorem fc_round_open {n : Nat} {rr1 : List (Int × Int × Int × Int × Int)} {rr2 : List ((List Int))} {rr3 : List (Int × Int × Int × Int)} {rr4 : Int} {rr5 : Int} {days6 : List (Int × (List Int))} {day7 : Int} {r : (List Int) × Int} (h : ev_round_open n rr1 rr2 rr3 rr4 rr5 days6 day7 = some r) : FC Try.prog 28 [.agg [.ref 0, .ref 1, .ref 2, vi rr4, vi rr5], .ref 3, vi day7] [.ro 0 5 (List.map en_api_RoundTower rr1), .ro 1 1 (List.map en_Lint rr2), .ro 2 4 (List.map en_api_RoundWinder rr3), .ro 3 2 (List.map en_api_RoundDay days6)] (.tup [.ref 0, vi r.2]) [.row 0 3 1 (List.map en_int r.1)] := by
  refine introJ (nz := 41) Try.func28 rfl rfl rfl (fun w0 R0 env0 => ?_)
  rw [ev_round_open] at h
  refine TC.seq ?_
  refine TC.region ?_
  refine op0 (sp_box 4 rfl rfl rfl rfl rfl) rfl trivial rfl rfl ?_
  refine op0 (sp_assign rfl rfl) rfl trivial rfl rfl ?_
  refine op0 (sp_assign rfl rfl) rfl trivial rfl rfl ?_
  refine TL.nil ?_
  refine TC.seq ?_
  refine TC.region ?_
  refine op1 0 rfl (sp_loadBA rfl isBlk rfl vt26 rfl rfl) rfl trivial rfl rfl ?_
  obtain ⟨r8, h1, h⟩ := bind_inv h
  refine opN (need := [.ro 0 5 (List.map en_api_RoundTower rr1), .ro 1 1 (List.map en_Lint rr2), .ro 2 4 (List.map en_api_RoundWinder rr3)]) [1, 2, 3] ⟨rfl, rfl, rfl, trivial⟩ (sp_call (avs := [.agg [.ref 0, .ref 1, .ref 2, vi rr4, vi rr5]]) (need := [.ro 0 5 (List.map en_api_RoundTower rr1), .ro 1 1 (List.map en_Lint rr2), .ro 2 4 (List.map en_api_RoundWinder rr3)]) (v := vi r8) (news := []) rfl rfl rfl Try.call33 (atJ [] [] (fc_round_Check h1) rfl rfl) (.inl (roAll rfl))) rfl trivial rfl rfl ?_
  refine op0 (sp_assign rfl rfl) rfl trivial rfl rfl ?_
  refine TL.nil ?_
  refine TC.seq ?_
  refine TC.seq ?_
  refine TC.region ?_
  refine op0 (sp_move rfl rfl) rfl trivial rfl rfl ?_
  refine op0 (sp_eql rfl rfl rfl) rfl trivial rfl rfl ?_
  refine TL.nil ?_
  refine TC.cond (b := (r8 == 0)) rfl (fun h2 => ?_) (fun h2 => ?_)
  · have h := cond_t h h2
    refine TC.region ?_
    refine op1 0 rfl (sp_loadBA rfl isBlk rfl vt26 rfl rfl) rfl trivial rfl rfl ?_
    refine op0 (sp_move rfl rfl) rfl trivial rfl rfl ?_
    obtain ⟨r9, h3, h⟩ := bind_inv h
    refine opN (need := [.ro 0 5 (List.map en_api_RoundTower rr1), .ro 1 1 (List.map en_Lint rr2), .ro 2 4 (List.map en_api_RoundWinder rr3), .ro 3 2 (List.map en_api_RoundDay days6)]) [1, 2, 3, 4] ⟨rfl, rfl, rfl, rfl, trivial⟩ (sp_call (avs := [.agg [.ref 0, .ref 1, .ref 2, vi rr4, vi rr5], .ref 3]) (need := [.ro 0 5 (List.map en_api_RoundTower rr1), .ro 1 1 (List.map en_Lint rr2), .ro 2 4 (List.map en_api_RoundWinder rr3), .ro 3 2 (List.map en_api_RoundDay days6)]) (v := vi r9) (news := []) rfl rfl rfl Try.call43 (atJ [] [] (fc_round_checkDays h3) rfl rfl) (.inl (roAll rfl))) rfl trivial rfl rfl ?_
    refine op0 (sp_assign rfl rfl) rfl trivial rfl rfl ?_
    refine TL.nil ?_
    refine TC.seq ?_
    refine TC.seq ?_
    refine subJ [] (ok_round_open_j0 (rr4 := rr4) (rr5 := rr5) (rr2 := rr2) (rr3 := rr3) h) ?_ ?_ ?_
    · exact ⟨rfl, rfl, rfl, rfl, trivial⟩
    · exact ⟨mem_at 0 rfl, mem_at 1 rfl, mem_at 2 rfl, mem_at 3 rfl, trivial⟩
    · rfl
  · have h := cond_f h h2
    refine TC.skip ?_
    refine TC.seq ?_
    refine TC.seq ?_
    refine subJ [] (ok_round_open_j0 (rr4 := rr4) (rr5 := rr5) (rr2 := rr2) (rr3 := rr3) h) ?_ ?_ ?_
    · exact ⟨rfl, rfl, rfl, rfl, trivial⟩
    · exact ⟨mem_at 0 rfl, mem_at 1 rfl, mem_at 2 rfl, mem_at 3 rfl, trivial⟩
    · rfl
def ev_round_clocks_wind_l0 (n : Nat) (d8 : List Int) : Nat → Int → (List Int) → Int → Int → Int → (List Int) → (List (Int × Int × Int × Int × Int)) → (List ((List Int))) → (List (Int × Int × Int × Int)) → Option ((List Int))
  | 0, _, _, _, _, _, _, _, _, _ => none
  | m + 1, i9, l10, i11, i12, i13, l14, l15, l16, l17 => cond (decide (i9 < (d8.length : Int))) (idx l14 i9 fun x18 => idx l15 x18 fun x19 => chk (in64 (i13 + x19.2.2.2.2)) <| idx l10 x18 fun x20 => chk (in64 (i9 + 1)) <| ev_round_clocks_wind_l0 n d8 m (i9 + 1) (List.set l10 (x18 : Int).toNat (i13 + x19.2.2.2.2)) i11 i12 i13 l14 l15 l16 l17) (some l10)
theorem ok_round_clocks_wind_l0 {n : Nat} {w0 : World} {M0 R0 : Nat → Prop} {env0 : Env} {df : List Deferred} {r : (List Int)} {d8 : List Int} : ∀ (m : Nat) (i9 : Int) (l10 : List Int) (i11 : Int) (i12 : Int) (i13 : Int) (l14 : List Int) (l15 : List (Int × Int × Int × Int × Int)) (l16 : List ((List Int))) (l17 : List (Int × Int × Int × Int)), ev_round_clocks_wind_l0 n d8 m i9 l10 i11 i12 i13 l14 l15 l16 l17 = some r → TC Try.prog ⟨w0, M0, R0⟩ ⟨28, none, df⟩ (bodyPostM Fence.wide 0 Try.prog Try.f29 (PostT ⟨w0, M0, R0⟩ env0 [0] (.tup []) [.row 0 3 1 (List.map en_int r)])) [.code (sub (bodyOf Try.f29) [1, 1, 0, 0, 0]), .code (sub (bodyOf Try.f29) [1, 1, 0, 0, 1]), .inLoop (sub (bodyOf Try.f29) [1, 1, 0, 0]), .inBlock 0] ([(0, .ref 0), (4, .ptr 7 0), (5, .ptr 8 0), (9, .ref 4), (10, vi (d8.length : Int)), (11, vi i9)]) ([.row 0 3 1 (List.map en_int l10), .blk 7 [.ref 1, .ref 2, .ref 3, vi i11, vi i12] 26, .blk 8 [vi i13, .ref 4] 32, .ro 4 1 (List.map en_int l14), .ro 1 5 (List.map en_api_RoundTower l15), .ro 2 1 (List.map en_Lint l16), .ro 3 4 (List.map en_api_RoundWinder l17), .inv 5 (marksI df), .pin 6 0 (env0 0)]) := by
  intro m
  induction m with
  | zero => intro i9 l10 i11 i12 i13 l14 l15 l16 l17 h; exact none_no h
  | succ m ih =>
    intro i9 l10 i11 i12 i13 l14 l15 l16 l17 h
    rw [ev_round_clocks_wind_l0] at h
    refine TC.region ?_
    refine op0 (sp_lss rfl rfl rfl) rfl trivial rfl rfl ?_
    refine TL.nil ?_
    refine TC.seq ?_
    refine TC.cond (b := (decide (i9 < (d8.length : Int)))) rfl (fun h1 => ?_) (fun h1 => ?_)
    · have h := cond_t h h1
      refine TC.skip ?_
      refine TC.seq ?_
      refine TC.block ?_
      refine TC.seq ?_
      refine TC.region ?_
      obtain ⟨x18, h2, h3, h⟩ := idx_inv h
      refine op1 3 rfl (sp_indexS rfl rfl rfl isRo sl30 h2 (map_get _ h3)) rfl trivial rfl rfl ?_
      refine op1 3 rfl (sp_loadR (i := (i9 : Int).toNat) (j := 0) rfl rfl isRo vt3 rfl (map_get _ h3) rfl (.v (.nil)) (nodup_of_B rfl)) rfl trivial rfl rfl ?_
      refine op0 (sp_assign rfl rfl) rfl trivial rfl rfl ?_
      refine TL.nil ?_
      obtain ⟨x19, h4, h5, h⟩ := idx_inv h
      obtain ⟨h6, h⟩ := chk_inv h
      refine drawJ 11 [⟨.ref 0, [], [], []⟩, ⟨vi x18, [], [], []⟩, ⟨.ptr 8 0, [], [.blk 8 [vi i13, .ref 4] 32], []⟩, ⟨vi i13, [], [.blk 8 [vi i13, .ref 4] 32], []⟩, ⟨.ptr 7 0, [], [.blk 7 [.ref 1, .ref 2, .ref 3, vi i11, vi i12] 26], []⟩, ⟨.ref 1, [], [.blk 7 [.ref 1, .ref 2, .ref 3, vi i11, vi i12] 26], []⟩, ⟨vi x18, [], [], []⟩, ⟨.cell 1 ((x18 : Int).toNat * 5), [], [.ro 1 5 (List.map en_api_RoundTower l15)], []⟩, ⟨.cell 1 ((x18 : Int).toNat * 5 + 4), [], [.ro 1 5 (List.map en_api_RoundTower l15)], []⟩, ⟨vi x19.2.2.2.2, [], [.ro 1 5 (List.map en_api_RoundTower l15)], []⟩, ⟨vi (i13 + x19.2.2.2.2), [], [], []⟩] rfl ?_ rfl ?_ rfl ?_ ?_
      · kernel_rfl
      · kernel_rfl
      · exact DAll.op' (sp_move rfl rfl) trivial rfl (From.ok (ps := []) trivial) (DAll.op' (sp_move rfl rfl) trivial rfl (From.ok (ps := []) trivial) (DAll.op' (sp_fieldAddrB rfl isBlk rfl ft32_0 vt3 (by decide)) trivial rfl (From.ok (ps := [(none, 2)]) ⟨⟨rfl, rfl⟩, trivial⟩) (DAll.op' (sp_loadB rfl isBlk rfl vt3 rfl) trivial rfl (From.ok (ps := [(none, 2)]) ⟨⟨rfl, rfl⟩, trivial⟩) (DAll.op' (sp_fieldAddrB rfl isBlk rfl ft26_0 vt22 (by decide)) trivial rfl (From.ok (ps := [(none, 1)]) ⟨⟨rfl, rfl⟩, trivial⟩) (DAll.op' (sp_loadB rfl isBlk rfl vt22 rfl) trivial rfl (From.ok (ps := [(none, 1)]) ⟨⟨rfl, rfl⟩, trivial⟩) (DAll.op' (sp_move rfl rfl) trivial rfl (From.ok (ps := []) trivial) (DAll.op' (sp_indexS rfl rfl rfl isRo sl22 h4 (map_get _ h5)) trivial rfl (From.ok (ps := [(none, 4)]) ⟨⟨rfl, rfl⟩, trivial⟩) (DAll.op' (sp_fieldAddrR (i := (x18 : Int).toNat) rfl rfl isRo ft46_4 vt3 (by decide) (map_get _ h5) (fun h => nomatch h)) trivial rfl (From.ok (ps := [(none, 4)]) ⟨⟨rfl, rfl⟩, trivial⟩) (DAll.op' (sp_loadR (i := (x18 : Int).toNat) (j := 4) rfl rfl isRo vt3 rfl (map_get _ h5) rfl (.v (.nil)) (nodup_of_B rfl)) trivial rfl (From.ok (ps := [(none, 4)]) ⟨⟨rfl, rfl⟩, trivial⟩) (DAll.op' (sp_add rfl rfl rfl h6) trivial rfl (From.ok (ps := []) trivial) (.nil)))))))))))
      obtain ⟨x20, h7, h8, h⟩ := idx_inv h
      refine op1 0 rfl (sp_indexS rfl rfl rfl isOwn sl83 h7 (map_get _ h8)) rfl trivial rfl rfl ?_
      refine stoR 0 ((x18 : Int).toNat) 0 (need := []) [] rfl rfl trivial rfl rfl rfl rfl vt3 rfl rfl (map_get _ h8) rfl rfl trivial (.v (.nil)) (map_set l10 en_int ((x18 : Int).toNat) (i13 + x19.2.2.2.2)) ?_
      refine TL.nil ?_
      refine TC.inBlock ?_
      refine TC.region ?_
      obtain ⟨h9, h⟩ := chk_inv h
      refine op0 (sp_add rfl rfl rfl h9) rfl trivial rfl rfl ?_
      refine op0 (sp_move rfl rfl) rfl trivial rfl rfl ?_
      refine TL.nil ?_
      refine TC.inLoop ?_
      refine TC.seq ?_
      refine subJ [] (ih _ _ _ _ _ _ _ _ _ h) ?_ ?_ ?_
      · exact ⟨rfl, rfl, rfl, rfl, rfl, rfl, trivial⟩
      · exact ⟨mem_at 0 rfl, mem_at 1 rfl, mem_at 2 rfl, mem_at 3 rfl, mem_at 4 rfl, mem_at 5 rfl, mem_at 6 rfl, mem_at 7 rfl, mem_at 8 rfl, trivial⟩
      · rfl
    · have h := cond_f h h1
      refine TC.exit rfl ?_
      cases h
      exact endM [] 7 5 [0] rfl (.nil) rfl ⟨mem_at 0 rfl, trivial⟩ rfl rfl ⟨⟨_, mem_at 7 rfl⟩, trivial⟩ rfl
def ev_round_clocks_wind (n : Nat) (c1 : List Int) (rr2 : List (Int × Int × Int × Int × Int)) (rr3 : List ((List Int))) (rr4 : List (Int × Int × Int × Int)) (rr5 : Int) (rr6 : Int) (d7 : Int) (d8 : List Int) : Option ((List Int)) :=
  ev_round_clocks_wind_l0 n d8 n 0 c1 rr5 rr6 d7 d8 rr2 rr3 rr4
theorem ft_round_clocks_wind {n : Nat} {c1 : List Int} {rr2 : List (Int × Int × Int × Int × Int)} {rr3 : List ((List Int))} {rr4 : List (Int × Int × Int × Int)} {rr5 : Int} {rr6 : Int} {d7 : Int} {d8 : List Int} {r : (List Int)} (h : ev_round_clocks_wind n c1 rr2 rr3 rr4 rr5 rr6 d7 d8 = some r) : FT Try.prog 29 [.ref 0, .agg [.ref 1, .ref 2, .ref 3, vi rr5, vi rr6], .agg [vi d7, .ref 4]] [.row 0 3 1 (List.map en_int c1)] [.ro 1 5 (List.map en_api_RoundTower rr2), .ro 2 1 (List.map en_Lint rr3), .ro 3 4 (List.map en_api_RoundWinder rr4), .ro 4 1 (List.map en_int d8)] (.tup []) [.row 0 3 1 (List.map en_int r)] := by
  refine introM (nz := 28) 5 [(6, 0)] Try.func29 rfl rfl rfl rfl (fun w0 M0 R0 env0 => ?_)
  rw [ev_round_clocks_wind] at h
  refine TC.seq ?_
  refine TC.region ?_
  refine op0 (sp_box 7 rfl rfl rfl rfl rfl) rfl trivial rfl rfl ?_
  refine op0 (sp_box 8 rfl rfl rfl rfl rfl) rfl trivial rfl rfl ?_
  refine TL.nil ?_
  refine TC.seq ?_
  refine TC.region ?_
  refine op1 0 rfl (sp_fieldAddrB rfl isBlk rfl ft32_1 vt30 (by decide)) rfl trivial rfl rfl ?_
  refine op1 0 rfl (sp_loadB rfl isBlk rfl vt30 rfl) rfl trivial rfl rfl ?_
  refine op1 8 rfl (sp_lenM (N := d8.length) (len_map _ _) rfl rfl isRo Try.underlying30) rfl trivial rfl rfl ?_
  refine op0 (sp_move rfl rfl) rfl trivial rfl rfl ?_
  refine TL.nil ?_
  refine TC.block ?_
  refine TC.loop ?_
  refine TC.seq ?_
  refine subJ [] (ok_round_clocks_wind_l0 _ _ _ _ _ _ _ _ _ _ h) ?_ ?_ ?_
  · exact ⟨rfl, rfl, rfl, rfl, rfl, rfl, trivial⟩
  · exact ⟨mem_at 4 rfl, mem_at 1 rfl, mem_at 0 rfl, mem_at 8 rfl, mem_at 5 rfl, mem_at 6 rfl, mem_at 7 rfl, mem_at 2 rfl, mem_at 3 rfl, trivial⟩
  · rfl
def ev_round_Left_l1 (n : Nat) (l12 : List Int) (day7 : Int) : Nat → Int → (List Int) → Option ((List Int) × Int)
  | 0, _, _ => none
  | m + 1, i19, l20 => cond (decide (i19 < (l12.length : Int))) (idx l20 i19 fun x21 => chk (in64 (x21 - day7)) <| chk (in64 (i19 + 1)) <| ev_round_Left_l1 n l12 day7 m (i19 + 1) (List.set l20 (i19 : Int).toNat (x21 - day7))) (some (l20, 0))
theorem ok_round_Left_l1 {n : Nat} {w0 : World} {R0 : Nat → Prop} {env0 : Env} {r : (List Int) × Int} {day7 : Int} {l12 : List Int} : ∀ (m : Nat) (i19 : Int) (l20 : List Int), ev_round_Left_l1 n l12 day7 m i19 l20 = some r → TC Try.prog ⟨w0, fun _ => False, R0⟩ 52 (bodyPost Try.prog Try.f11 (Post ⟨w0, fun _ => False, R0⟩ env0 (.tup [.ref 0, vi r.2]) [.row 0 3 1 (List.map en_int r.1)])) [.code (sub (bodyOf Try.f11) [1, 1, 1, 1, 0, 1, 0, 0, 0]), .code (sub (bodyOf Try.f11) [1, 1, 1, 1, 0, 1, 0, 0, 1]), .inLoop (sub (bodyOf Try.f11) [1, 1, 1, 1, 0, 1, 0, 0]), .inBlock 2, .code (sub (bodyOf Try.f11) [1, 1, 1, 1, 1])] ([(2, vi day7), (8, .ref 5), (39, vi (l12.length : Int)), (40, vi i19)]) ([.row 5 3 1 (List.map en_int l20)]) := by
  intro m
  induction m with
  | zero => intro i19 l20 h; exact none_no h
  | succ m ih =>
    intro i19 l20 h
    rw [ev_round_Left_l1] at h
    refine TC.region ?_
    refine op0 (sp_lss rfl rfl rfl) rfl trivial rfl rfl ?_
    refine TL.nil ?_
    refine TC.seq ?_
    refine TC.cond (b := (decide (i19 < (l12.length : Int)))) rfl (fun h10 => ?_) (fun h10 => ?_)
    · have h := cond_t h h10
      refine TC.skip ?_
      refine TC.seq ?_
      refine TC.block ?_
      refine TC.seq ?_
      refine TC.region ?_
      refine op0 (sp_move rfl rfl) rfl trivial rfl rfl ?_
      refine op0 (sp_assign rfl rfl) rfl trivial rfl rfl ?_
      refine TL.nil ?_
      refine TC.region ?_
      refine op0 (sp_move rfl rfl) rfl trivial rfl rfl ?_
      refine op0 (sp_move rfl rfl) rfl trivial rfl rfl ?_
      obtain ⟨x21, h11, h12, h⟩ := idx_inv h
      refine op1 0 rfl (sp_indexS rfl rfl rfl isOwn sl83 h11 (map_get _ h12)) rfl trivial rfl rfl ?_
      refine op1 0 rfl (sp_loadR (i := (i19 : Int).toNat) (j := 0) rfl rfl isOwn vt3 rfl (map_get _ h12) rfl (.v (.nil)) (nodup_of_B rfl)) rfl trivial rfl rfl ?_
      refine op0 (sp_move rfl rfl) rfl trivial rfl rfl ?_
      obtain ⟨h13, h⟩ := chk_inv h
      refine op0 (sp_sub rfl rfl rfl h13) rfl trivial rfl rfl ?_
      refine op1 0 rfl (sp_indexS rfl rfl rfl isOwn sl83 h11 (map_get _ h12)) rfl trivial rfl rfl ?_
      refine stoR 0 ((i19 : Int).toNat) 0 (need := []) [] rfl rfl trivial rfl rfl rfl rfl vt3 rfl rfl (map_get _ h12) rfl rfl trivial (.v (.nil)) (map_set l20 en_int ((i19 : Int).toNat) (x21 - day7)) ?_
      refine TL.nil ?_
      refine TC.inBlock ?_
      refine TC.region ?_
      obtain ⟨h14, h⟩ := chk_inv h
      refine op0 (sp_add rfl rfl rfl h14) rfl trivial rfl rfl ?_
      refine op0 (sp_move rfl rfl) rfl trivial rfl rfl ?_
      refine TL.nil ?_
      refine TC.inLoop ?_
      refine TC.seq ?_
      refine subJ [] (ih _ _ h) ?_ ?_ ?_
      · exact ⟨rfl, rfl, rfl, rfl, trivial⟩
      · exact ⟨mem_at 0 rfl, trivial⟩
      · rfl
    · have h := cond_f h h10
      refine TC.exit rfl ?_
      refine TC.seq ?_
      refine TC.region ?_
      refine op0 (sp_move rfl rfl) rfl trivial rfl rfl ?_
      refine op0 (sp_assign rfl rfl) rfl trivial rfl rfl ?_
      refine op0 (sp_assign rfl rfl) rfl trivial rfl rfl ?_
      refine TL.nil ?_
      cases h
      exact retJ [(0, 5)] (.tmp rfl (.tmp rfl .nil)) rfl ⟨mem_at 0 rfl, trivial⟩ rfl rfl
def ev_round_Left_l0 (n : Nat) (days6 : List (Int × (List Int))) (day7 : Int) : Nat → Int → Int → Int → (List Int) → (List (Int × (List Int))) → (List (Int × Int × Int × Int × Int)) → (List ((List Int))) → (List (Int × Int × Int × Int)) → Option ((List Int) × Int)
  | 0, _, _, _, _, _, _, _, _ => none
  | m + 1, i9, i10, i11, l12, l13, l14, l15, l16 => cond (decide (i9 < (days6.length : Int))) (idx l13 i9 fun x17 => cond (decide (x17.1 ≤ day7)) ((ev_round_clocks_wind n l12 l14 l15 l16 i10 i11 x17.1 x17.2).bind fun r18 => chk (in64 (i9 + 1)) <| ev_round_Left_l0 n days6 day7 m (i9 + 1) i10 i11 r18 l13 l14 l15 l16) (chk (in64 (i9 + 1)) <| ev_round_Left_l0 n days6 day7 m (i9 + 1) i10 i11 l12 l13 l14 l15 l16)) (ev_round_Left_l1 n l12 day7 n 0 l12)
theorem ok_round_Left_l0 {n : Nat} {w0 : World} {R0 : Nat → Prop} {env0 : Env} {r : (List Int) × Int} {day7 : Int} {days6 : List (Int × (List Int))} : ∀ (m : Nat) (i9 : Int) (i10 : Int) (i11 : Int) (l12 : List Int) (l13 : List (Int × (List Int))) (l14 : List (Int × Int × Int × Int × Int)) (l15 : List ((List Int))) (l16 : List (Int × Int × Int × Int)), ev_round_Left_l0 n days6 day7 m i9 i10 i11 l12 l13 l14 l15 l16 = some r → TC Try.prog ⟨w0, fun _ => False, R0⟩ 52 (bodyPost Try.prog Try.f11 (Post ⟨w0, fun _ => False, R0⟩ env0 (.tup [.ref 0, vi r.2]) [.row 0 3 1 (List.map en_int r.1)])) [.code (sub (bodyOf Try.f11) [1, 1, 1, 0, 1, 0, 0, 0]), .code (sub (bodyOf Try.f11) [1, 1, 1, 0, 1, 0, 0, 1]), .inLoop (sub (bodyOf Try.f11) [1, 1, 1, 0, 1, 0, 0]), .inBlock 0, .code (sub (bodyOf Try.f11) [1, 1, 1, 1])] ([(2, vi day7), (3, .ptr 4 0), (8, .ref 5), (23, .ref 3), (24, vi (days6.length : Int)), (25, vi i9)]) ([.blk 4 [.ref 0, .ref 1, .ref 2, vi i10, vi i11] 26, .row 5 3 1 (List.map en_int l12), .ro 3 2 (List.map en_api_RoundDay l13), .ro 0 5 (List.map en_api_RoundTower l14), .ro 1 1 (List.map en_Lint l15), .ro 2 4 (List.map en_api_RoundWinder l16)]) := by
  intro m
  induction m with
  | zero => intro i9 i10 i11 l12 l13 l14 l15 l16 h; exact none_no h
  | succ m ih =>
    intro i9 i10 i11 l12 l13 l14 l15 l16 h
    rw [ev_round_Left_l0] at h
    refine TC.region ?_
    refine op0 (sp_lss rfl rfl rfl) rfl trivial rfl rfl ?_
    refine TL.nil ?_
    refine TC.seq ?_
    refine TC.cond (b := (decide (i9 < (days6.length : Int)))) rfl (fun h3 => ?_) (fun h3 => ?_)
    · have h := cond_t h h3
      refine TC.skip ?_
      refine TC.seq ?_
      refine TC.block ?_
      refine TC.seq ?_
      refine TC.region ?_
      obtain ⟨x17, h4, h5, h⟩ := idx_inv h
      refine op1 2 rfl (sp_indexS rfl rfl rfl isRo sl27 h4 (map_get _ h5)) rfl trivial rfl rfl ?_
      refine op1 2 rfl (sp_loadRA (i := (i9 : Int).toNat) (j := 0) (as_ := [vi x17.1, .ref 7]) (ns := [.ro 7 1 (List.map en_int x17.2)]) rfl rfl isRo vt32 rfl (map_get _ h5) rfl rfl (by decide) (.v (.s (.nil))) (nodup_of_B rfl)) rfl trivial rfl rfl ?_
      refine op0 (sp_alloc 8 rfl Try.zeroValue32 rfl) rfl trivial rfl rfl ?_
      refine stoB 0 (cells' := [vi x17.1, .ref 7]) rfl rfl trivial rfl rfl rfl rfl vt32 rfl rfl rfl ?_
      refine TL.nil ?_
      refine TC.seq ?_
      refine TC.region ?_
      refine op1 0 rfl (sp_fieldAddrB rfl isBlk rfl ft32_0 vt3 (by decide)) rfl trivial rfl rfl ?_
      refine op1 0 rfl (sp_loadB rfl isBlk rfl vt3 rfl) rfl trivial rfl rfl ?_
      refine op0 (sp_move rfl rfl) rfl trivial rfl rfl ?_
      refine op0 (sp_leq rfl rfl rfl) rfl trivial rfl rfl ?_
      refine TL.nil ?_
      refine TC.cond (b := (decide (x17.1 ≤ day7))) rfl (fun h6 => ?_) (fun h6 => ?_)
      · have h := cond_t h h6
        refine TC.region ?_
        refine op0 (sp_move rfl rfl) rfl trivial rfl rfl ?_
        refine op1 2 rfl (sp_loadBA rfl isBlk rfl vt26 rfl rfl) rfl trivial rfl rfl ?_
        refine op1 0 rfl (sp_loadBA rfl isBlk rfl vt32 rfl rfl) rfl trivial rfl rfl ?_
        obtain ⟨r18, h7, h⟩ := bind_inv h
        refine opT (take := [.row 5 3 1 (List.map en_int l12)]) (need := [.ro 0 5 (List.map en_api_RoundTower l14), .ro 1 1 (List.map en_Lint l15), .ro 2 4 (List.map en_api_RoundWinder l16), .ro 7 1 (List.map en_int x17.2)]) (V' := [.row 5 3 1 (List.map en_int r18), .blk 8 [vi x17.1, .ref 7] 32, .ro 7 1 (List.map en_int x17.2), .blk 4 [.ref 0, .ref 1, .ref 2, vi i10, vi i11] 26, .ro 3 2 (List.map en_api_RoundDay l13), .ro 0 5 (List.map en_api_RoundTower l14), .ro 1 1 (List.map en_Lint l15), .ro 2 4 (List.map en_api_RoundWinder l16)]) [3] [5, 6, 7, 1] (ts_call (avs := [.ref 5, .agg [.ref 0, .ref 1, .ref 2, vi i10, vi i11], .agg [vi x17.1, .ref 7]]) (take := [.row 5 3 1 (List.map en_int l12)]) (need := [.ro 0 5 (List.map en_api_RoundTower l14), .ro 1 1 (List.map en_Lint l15), .ro 2 4 (List.map en_api_RoundWinder l16), .ro 7 1 (List.map en_int x17.2)]) (v := .tup []) (news := [.row 5 3 1 (List.map en_int r18)]) rfl rfl rfl Try.call29 (atT [(0, 5), (1, 0), (2, 1), (3, 2), (4, 7)] [(0, 5)] (ft_round_clocks_wind h7) rfl rfl rfl) rfl rfl) trivial rfl ⟨rfl, trivial⟩ ⟨rfl, rfl, rfl, rfl, trivial⟩ rfl rfl ?_
        refine TL.nil ?_
        refine TC.inBlock ?_
        refine TC.region ?_
        obtain ⟨h8, h⟩ := chk_inv h
        refine op0 (sp_add rfl rfl rfl h8) rfl trivial rfl rfl ?_
        refine op0 (sp_move rfl rfl) rfl trivial rfl rfl ?_
        refine TL.nil ?_
        refine TC.inLoop ?_
        refine TC.seq ?_
        refine subJ [] (ih _ _ _ _ _ _ _ _ h) ?_ ?_ ?_
        · exact ⟨rfl, rfl, rfl, rfl, rfl, rfl, trivial⟩
        · exact ⟨mem_at 3 rfl, mem_at 0 rfl, mem_at 4 rfl, mem_at 5 rfl, mem_at 6 rfl, mem_at 7 rfl, trivial⟩
        · rfl
      · have h := cond_f h h6
        refine TC.skip ?_
        refine TC.inBlock ?_
        refine TC.region ?_
        obtain ⟨h9, h⟩ := chk_inv h
        refine op0 (sp_add rfl rfl rfl h9) rfl trivial rfl rfl ?_
        refine op0 (sp_move rfl rfl) rfl trivial rfl rfl ?_
        refine TL.nil ?_
        refine TC.inLoop ?_
        refine TC.seq ?_
        refine subJ [] (ih _ _ _ _ _ _ _ _ h) ?_ ?_ ?_
        · exact ⟨rfl, rfl, rfl, rfl, rfl, rfl, trivial⟩
        · exact ⟨mem_at 2 rfl, mem_at 3 rfl, mem_at 4 rfl, mem_at 5 rfl, mem_at 6 rfl, mem_at 7 rfl, trivial⟩
        · rfl
    · have h := cond_f h h3
      refine TC.exit rfl ?_
      refine TC.seq ?_
      refine TC.seq ?_
      refine TC.region ?_
      refine op0 (sp_move rfl rfl) rfl trivial rfl rfl ?_
      refine op1 1 rfl (sp_lenM (N := l12.length) (len_map _ _) rfl rfl isOwn Try.underlying83) rfl trivial rfl rfl ?_
      refine op0 (sp_move rfl rfl) rfl trivial rfl rfl ?_
      refine TL.nil ?_
      refine TC.block ?_
      refine TC.loop ?_
      refine TC.seq ?_
      refine subJ [] (ok_round_Left_l1 _ _ _ h) ?_ ?_ ?_
      · exact ⟨rfl, rfl, rfl, rfl, trivial⟩
      · exact ⟨mem_at 1 rfl, trivial⟩
      · rfl
def ev_round_Left (n : Nat) (rr1 : List (Int × Int × Int × Int × Int)) (rr2 : List ((List Int))) (rr3 : List (Int × Int × Int × Int)) (rr4 : Int) (rr5 : Int) (days6 : List (Int × (List Int))) (day7 : Int) : Option ((List Int) × Int) :=
  (ev_round_open n rr1 rr2 rr3 rr4 rr5 days6 day7).bind fun r8 => cond (r8.2 != 0) (some (([] : List Int), r8.2)) (ev_round_Left_l0 n days6 day7 n 0 rr4 rr5 r8.1 days6 rr1 rr2 rr3)
theorem fc_round_Left {n : Nat} {rr1 : List (Int × Int × Int × Int × Int)} {rr2 : List ((List Int))} {rr3 : List (Int × Int × Int × Int)} {rr4 : Int} {rr5 : Int} {days6 : List (Int × (List Int))} {day7 : Int} {r : (List Int) × Int} (h : ev_round_Left n rr1 rr2 rr3 rr4 rr5 days6 day7 = some r) : FC Try.prog 11 [.agg [.ref 0, .ref 1, .ref 2, vi rr4, vi rr5], .ref 3, vi day7] [.ro 0 5 (List.map en_api_RoundTower rr1), .ro 1 1 (List.map en_Lint rr2), .ro 2 4 (List.map en_api_RoundWinder rr3), .ro 3 2 (List.map en_api_RoundDay days6)] (.tup [.ref 0, vi r.2]) [.row 0 3 1 (List.map en_int r.1)] := by
  refine introJ (nz := 52) Try.func11 rfl rfl rfl (fun w0 R0 env0 => ?_)
  rw [ev_round_Left] at h
  refine TC.seq ?_
  refine TC.region ?_
  refine op0 (sp_box 4 rfl rfl rfl rfl rfl) rfl trivial rfl rfl ?_
  refine op0 (sp_assign rfl rfl) rfl trivial rfl rfl ?_
  refine op0 (sp_assign rfl rfl) rfl trivial rfl rfl ?_
  refine TL.nil ?_
  refine TC.seq ?_
  refine TC.region ?_
  refine op1 0 rfl (sp_loadBA rfl isBlk rfl vt26 rfl rfl) rfl trivial rfl rfl ?_
  refine op0 (sp_move rfl rfl) rfl trivial rfl rfl ?_
  refine op0 (sp_move rfl rfl) rfl trivial rfl rfl ?_
  obtain ⟨r8, h1, h⟩ := bind_inv h
  refine opN (need := [.ro 0 5 (List.map en_api_RoundTower rr1), .ro 1 1 (List.map en_Lint rr2), .ro 2 4 (List.map en_api_RoundWinder rr3), .ro 3 2 (List.map en_api_RoundDay days6)]) [1, 2, 3, 4] ⟨rfl, rfl, rfl, rfl, trivial⟩ (sp_call (avs := [.agg [.ref 0, .ref 1, .ref 2, vi rr4, vi rr5], .ref 3, vi day7]) (need := [.ro 0 5 (List.map en_api_RoundTower rr1), .ro 1 1 (List.map en_Lint rr2), .ro 2 4 (List.map en_api_RoundWinder rr3), .ro 3 2 (List.map en_api_RoundDay days6)]) (v := .tup [.ref 5, vi r8.2]) (news := [.row 5 3 1 (List.map en_int r8.1)]) rfl rfl rfl Try.call28 (atJ [] [(0, 5)] (fc_round_open h1) rfl rfl) (.inl (roAll rfl))) rfl trivial rfl rfl ?_
  refine op0 (sp_move rfl rfl) rfl trivial rfl rfl ?_
  refine op0 (sp_extract rfl rfl rfl) rfl trivial rfl rfl ?_
  refine op0 (sp_extract rfl rfl rfl) rfl trivial rfl rfl ?_
  refine op0 (sp_assign rfl rfl) rfl trivial rfl rfl ?_
  refine op0 (sp_assign rfl rfl) rfl trivial rfl rfl ?_
  refine TL.nil ?_
  refine TC.seq ?_
  refine TC.seq ?_
  refine TC.region ?_
  refine op0 (sp_move rfl rfl) rfl trivial rfl rfl ?_
  refine op0 (sp_neq rfl rfl rfl) rfl trivial rfl rfl ?_
  refine TL.nil ?_
  refine TC.cond (b := (r8.2 != 0)) rfl (fun h2 => ?_) (fun h2 => ?_)
  · have h := cond_t h h2
    refine TC.seq ?_
    refine TC.region ?_
    refine op0 (sp_move rfl rfl) rfl trivial rfl rfl ?_
    refine op0 (sp_assign rfl rfl) rfl trivial rfl rfl ?_
    refine op0 (sp_assign rfl rfl) rfl trivial rfl rfl ?_
    refine TL.nil ?_
    refine nilRowC 6 6 3 1 (List.map en_int []) rfl rfl rfl ?_
    cases h
    exact retJ [(0, 6)] (.tmp rfl (.tmp rfl .nil)) rfl ⟨mem_at 0 rfl, trivial⟩ rfl rfl
  · have h := cond_f h h2
    refine TC.skip ?_
    refine TC.seq ?_
    refine TC.seq ?_
    refine TC.region ?_
    refine op0 (sp_move rfl rfl) rfl trivial rfl rfl ?_
    refine op1 5 rfl (sp_lenM (N := days6.length) (len_map _ _) rfl rfl isRo Try.underlying27) rfl trivial rfl rfl ?_
    refine op0 (sp_move rfl rfl) rfl trivial rfl rfl ?_
    refine TL.nil ?_
    refine TC.block ?_
    refine TC.loop ?_
    refine TC.seq ?_
    refine subJ [] (ok_round_Left_l0 _ _ _ _ _ _ _ _ _ h) ?_ ?_ ?_
    · exact ⟨rfl, rfl, rfl, rfl, rfl, rfl, trivial⟩
    · exact ⟨mem_at 1 rfl, mem_at 0 rfl, mem_at 5 rfl, mem_at 2 rfl, mem_at 3 rfl, mem_at 4 rfl, trivial⟩
    · rfl
def ev_round_clocks_first (n : Nat) (c1 : List Int) : Option (Int × Int) :=
  (ev_slices_Min_round_clocks_int n c1).bind fun r2 => (ev_slices_Index_round_clocks_int n c1 r2).bind fun r3 => some (r3, r2)
theorem fc_round_clocks_first {n : Nat} {c1 : List Int} {r : Int × Int} (h : ev_round_clocks_first n c1 = some r) : FC Try.prog 30 [.ref 0] [.ro 0 1 (List.map en_int c1)] (.tup [vi r.1, vi r.2]) [] := by
  refine introJ (nz := 10) Try.func30 rfl rfl rfl (fun w0 R0 env0 => ?_)
  rw [ev_round_clocks_first] at h
  refine TC.seq ?_
  refine TC.region ?_
  refine op0 (sp_assign rfl rfl) rfl trivial rfl rfl ?_
  refine op0 (sp_assign rfl rfl) rfl trivial rfl rfl ?_
  refine TL.nil ?_
  refine TC.seq ?_
  refine TC.region ?_
  refine op0 (sp_move rfl rfl) rfl trivial rfl rfl ?_
  obtain ⟨r2, h1, h⟩ := bind_inv h
  refine op1 0 rfl (sp_call (avs := [.ref 0]) (need := [.ro 0 1 (List.map en_int c1)]) (v := vi r2) (news := []) rfl rfl rfl Try.call45 (atJ [] [] (fc_slices_Min_round_clocks_int h1) rfl rfl) (.inl (roAll rfl))) rfl trivial rfl rfl ?_
  refine op0 (sp_assign rfl rfl) rfl trivial rfl rfl ?_
  refine TL.nil ?_
  refine TC.seq ?_
  refine TC.region ?_
  refine op0 (sp_move rfl rfl) rfl trivial rfl rfl ?_
  refine op0 (sp_move rfl rfl) rfl trivial rfl rfl ?_
  obtain ⟨r3, h2, h⟩ := bind_inv h
  refine op1 0 rfl (sp_call (avs := [.ref 0, vi r2]) (need := [.ro 0 1 (List.map en_int c1)]) (v := vi r3) (news := []) rfl rfl rfl Try.call46 (atJ [] [] (fc_slices_Index_round_clocks_int h2) rfl rfl) (.inl (roAll rfl))) rfl trivial rfl rfl ?_
  refine op0 (sp_move rfl rfl) rfl trivial rfl rfl ?_
  refine op0 (sp_assign rfl rfl) rfl trivial rfl rfl ?_
  refine op0 (sp_assign rfl rfl) rfl trivial rfl rfl ?_
  refine TL.nil ?_
  cases h
  exact retJ [] (.tmp rfl (.tmp rfl .nil)) rfl trivial rfl rfl
def ev_round_Stops_j1 (n : Nat) (until7 : Int) (l19 : List Int) : Option (Int × Int × Int) :=
  (ev_round_clocks_first n l19).bind fun r20 => cond (decide (until7 < r20.2)) (some ((-1), 0, 0)) (some (r20.1, r20.2, 0))
theorem ok_round_Stops_j1 {n : Nat} {w0 : World} {R0 : Nat → Prop} {env0 : Env} {r : Int × Int × Int} {until7 : Int} {l19 : List Int} (h : ev_round_Stops_j1 n until7 l19 = some r) : TC Try.prog ⟨w0, fun _ => False, R0⟩ 71 (bodyPost Try.prog Try.f13 (Post ⟨w0, fun _ => False, R0⟩ env0 (.tup [vi r.1, vi r.2.1, vi r.2.2]) [])) [.code (sub (bodyOf Try.f13) [1, 1, 1, 1, 0, 0]), .code (sub (bodyOf Try.f13) [1, 1, 1, 1, 0, 1]), .code (sub (bodyOf Try.f13) [1, 1, 1, 1, 1])] ([(2, vi until7), (9, .ref 5)]) ([.row 5 3 1 (List.map en_int l19)]) := by
  rw [ev_round_Stops_j1] at h
  refine TC.region ?_
  refine op0 (sp_move rfl rfl) rfl trivial rfl rfl ?_
  obtain ⟨r20, h8, h⟩ := bind_inv h
  refine op1 0 rfl (sp_call (avs := [.ref 5]) (need := [.row 5 3 1 (List.map en_int l19)]) (v := .tup [vi r20.1, vi r20.2]) (news := []) rfl rfl rfl Try.call30 (atJ [(0, 5)] [] (fc_round_clocks_first h8) rfl rfl) (.inr (fun x hx => nomatch hx))) rfl trivial rfl rfl ?_
  refine op0 (sp_move rfl rfl) rfl trivial rfl rfl ?_
  refine op0 (sp_extract rfl rfl rfl) rfl trivial rfl rfl ?_
  refine op0 (sp_extract rfl rfl rfl) rfl trivial rfl rfl ?_
  refine op0 (sp_assign rfl rfl) rfl trivial rfl rfl ?_
  refine op0 (sp_assign rfl rfl) rfl trivial rfl rfl ?_
  refine TL.nil ?_
  refine TC.seq ?_
  refine TC.region ?_
  refine op0 (sp_move rfl rfl) rfl trivial rfl rfl ?_
  refine op0 (sp_move rfl rfl) rfl trivial rfl rfl ?_
  refine op0 (sp_gtr rfl rfl rfl) rfl trivial rfl rfl ?_
  refine TL.nil ?_
  refine TC.cond (b := (decide (until7 < r20.2))) rfl (fun h9 => ?_) (fun h9 => ?_)
  · have h := cond_t h h9
    refine TC.seq ?_
    refine TC.region ?_
    refine op0 (sp_assign rfl rfl) rfl trivial rfl rfl ?_
    refine op0 (sp_assign rfl rfl) rfl trivial rfl rfl ?_
    refine op0 (sp_assign rfl rfl) rfl trivial rfl rfl ?_
    refine TL.nil ?_
    cases h
    exact retJ [] (.tmp rfl (.tmp rfl (.tmp rfl .nil))) rfl trivial rfl rfl
  · have h := cond_f h h9
    refine TC.skip ?_
    refine TC.seq ?_
    refine TC.region ?_
    refine op0 (sp_move rfl rfl) rfl trivial rfl rfl ?_
    refine op0 (sp_move rfl rfl) rfl trivial rfl rfl ?_
    refine op0 (sp_assign rfl rfl) rfl trivial rfl rfl ?_
    refine op0 (sp_assign rfl rfl) rfl trivial rfl rfl ?_
    refine op0 (sp_assign rfl rfl) rfl trivial rfl rfl ?_
    refine TL.nil ?_
    cases h
    exact retJ [] (.tmp rfl (.tmp rfl (.tmp rfl .nil))) rfl trivial rfl rfl
def ev_round_Stops_l0 (n : Nat) (days6 : List (Int × (List Int))) (until7 : Int) : Nat → Int → Int → Int → (List Int) → (List (Int × (List Int))) → (List (Int × Int × Int × Int × Int)) → (List ((List Int))) → (List (Int × Int × Int × Int)) → Option (Int × Int × Int)
  | 0, _, _, _, _, _, _, _, _ => none
  | m + 1, i9, i10, i11, l12, l13, l14, l15, l16 => cond (decide (i9 < (days6.length : Int))) (idx l13 i9 fun x17 => (ev_round_clocks_first n l12).bind fun r18 => cond (decide (r18.2 < x17.1)) (ev_round_Stops_j1 n until7 l12) (cond (decide (until7 < x17.1)) (ev_round_Stops_j1 n until7 l12) ((ev_round_clocks_wind n l12 l14 l15 l16 i10 i11 x17.1 x17.2).bind fun r21 => (ev_round_clocks_first n r21).bind fun r22 => cond (decide (r22.2 ≤ x17.1)) (some (r22.1, r22.2, 0)) (chk (in64 (i9 + 1)) <| ev_round_Stops_l0 n days6 until7 m (i9 + 1) i10 i11 r21 l13 l14 l15 l16)))) (ev_round_Stops_j1 n until7 l12)
theorem ok_round_Stops_l0 {n : Nat} {w0 : World} {R0 : Nat → Prop} {env0 : Env} {r : Int × Int × Int} {until7 : Int} {days6 : List (Int × (List Int))} : ∀ (m : Nat) (i9 : Int) (i10 : Int) (i11 : Int) (l12 : List Int) (l13 : List (Int × (List Int))) (l14 : List (Int × Int × Int × Int × Int)) (l15 : List ((List Int))) (l16 : List (Int × Int × Int × Int)), ev_round_Stops_l0 n days6 until7 m i9 i10 i11 l12 l13 l14 l15 l16 = some r → TC Try.prog ⟨w0, fun _ => False, R0⟩ 71 (bodyPost Try.prog Try.f13 (Post ⟨w0, fun _ => False, R0⟩ env0 (.tup [vi r.1, vi r.2.1, vi r.2.2]) [])) [.code (sub (bodyOf Try.f13) [1, 1, 1, 0, 1, 0, 0, 0]), .code (sub (bodyOf Try.f13) [1, 1, 1, 0, 1, 0, 0, 1]), .inLoop (sub (bodyOf Try.f13) [1, 1, 1, 0, 1, 0, 0]), .inBlock 0, .code (sub (bodyOf Try.f13) [1, 1, 1, 1])] ([(2, vi until7), (3, .ptr 4 0), (9, .ref 5), (26, .ref 3), (27, vi (days6.length : Int)), (28, vi i9)]) ([.blk 4 [.ref 0, .ref 1, .ref 2, vi i10, vi i11] 26, .row 5 3 1 (List.map en_int l12), .ro 3 2 (List.map en_api_RoundDay l13), .ro 0 5 (List.map en_api_RoundTower l14), .ro 1 1 (List.map en_Lint l15), .ro 2 4 (List.map en_api_RoundWinder l16)]) := by
  intro m
  induction m with
  | zero => intro i9 i10 i11 l12 l13 l14 l15 l16 h; exact none_no h
  | succ m ih =>
    intro i9 i10 i11 l12 l13 l14 l15 l16 h
    rw [ev_round_Stops_l0] at h
    refine TC.region ?_
    refine op0 (sp_lss rfl rfl rfl) rfl trivial rfl rfl ?_
    refine TL.nil ?_
    refine TC.seq ?_
    refine TC.cond (b := (decide (i9 < (days6.length : Int)))) rfl (fun h3 => ?_) (fun h3 => ?_)
    · have h := cond_t h h3
      refine TC.skip ?_
      refine TC.seq ?_
      refine TC.block ?_
      refine TC.seq ?_
      refine TC.region ?_
      obtain ⟨x17, h4, h5, h⟩ := idx_inv h
      refine op1 2 rfl (sp_indexS rfl rfl rfl isRo sl27 h4 (map_get _ h5)) rfl trivial rfl rfl ?_
      refine op1 2 rfl (sp_loadRA (i := (i9 : Int).toNat) (j := 0) (as_ := [vi x17.1, .ref 6]) (ns := [.ro 6 1 (List.map en_int x17.2)]) rfl rfl isRo vt32 rfl (map_get _ h5) rfl rfl (by decide) (.v (.s (.nil))) (nodup_of_B rfl)) rfl trivial rfl rfl ?_
      refine op0 (sp_alloc 7 rfl Try.zeroValue32 rfl) rfl trivial rfl rfl ?_
      refine stoB 0 (cells' := [vi x17.1, .ref 6]) rfl rfl trivial rfl rfl rfl rfl vt32 rfl rfl rfl ?_
      refine TL.nil ?_
      refine TC.seq ?_
      refine TC.seq ?_
      refine TC.region ?_
      refine op0 (sp_move rfl rfl) rfl trivial rfl rfl ?_
      obtain ⟨r18, h6, h⟩ := bind_inv h
      refine op1 3 rfl (sp_call (avs := [.ref 5]) (need := [.row 5 3 1 (List.map en_int l12)]) (v := .tup [vi r18.1, vi r18.2]) (news := []) rfl rfl rfl Try.call30 (atJ [(0, 5)] [] (fc_round_clocks_first h6) rfl rfl) (.inr (fun x hx => nomatch hx))) rfl trivial rfl rfl ?_
      refine op0 (sp_move rfl rfl) rfl trivial rfl rfl ?_
      refine op0 (sp_extract rfl rfl rfl) rfl trivial rfl rfl ?_
      refine op0 (sp_extract rfl rfl rfl) rfl trivial rfl rfl ?_
      refine op0 (sp_assign rfl rfl) rfl trivial rfl rfl ?_
      refine op0 (sp_assign rfl rfl) rfl trivial rfl rfl ?_
      refine TL.nil ?_
      refine TC.seq ?_
      refine TC.region ?_
      refine op0 (sp_move rfl rfl) rfl trivial rfl rfl ?_
      refine op1 0 rfl (sp_fieldAddrB rfl isBlk rfl ft32_0 vt3 (by decide)) rfl trivial rfl rfl ?_
      refine op1 0 rfl (sp_loadB rfl isBlk rfl vt3 rfl) rfl trivial rfl rfl ?_
      refine op0 (sp_lss rfl rfl rfl) rfl trivial rfl rfl ?_
      refine TL.nil ?_
      refine TC.cond (b := (decide (r18.2 < x17.1))) rfl (fun h7 => ?_) (fun h7 => ?_)
      · have h := cond_t h h7
        refine TC.exit rfl ?_
        refine TC.seq ?_
        refine TC.seq ?_
        refine subJ [] (ok_round_Stops_j1 h) ?_ ?_ ?_
        · exact ⟨rfl, rfl, trivial⟩
        · exact ⟨mem_at 3 rfl, trivial⟩
        · rfl
      · have h := cond_f h h7
        refine TC.skip ?_
        refine TC.seq ?_
        refine TC.seq ?_
        refine TC.region ?_
        refine op1 0 rfl (sp_fieldAddrB rfl isBlk rfl ft32_0 vt3 (by decide)) rfl trivial rfl rfl ?_
        refine op1 0 rfl (sp_loadB rfl isBlk rfl vt3 rfl) rfl trivial rfl rfl ?_
        refine op0 (sp_move rfl rfl) rfl trivial rfl rfl ?_
        refine op0 (sp_gtr rfl rfl rfl) rfl trivial rfl rfl ?_
        refine TL.nil ?_
        refine TC.cond (b := (decide (until7 < x17.1))) rfl (fun h10 => ?_) (fun h10 => ?_)
        · have h := cond_t h h10
          refine TC.exit rfl ?_
          refine TC.seq ?_
          refine TC.seq ?_
          refine subJ [] (ok_round_Stops_j1 h) ?_ ?_ ?_
          · exact ⟨rfl, rfl, trivial⟩
          · exact ⟨mem_at 3 rfl, trivial⟩
          · rfl
        · have h := cond_f h h10
          refine TC.skip ?_
          refine TC.seq ?_
          refine TC.region ?_
          refine op0 (sp_move rfl rfl) rfl trivial rfl rfl ?_
          refine op1 2 rfl (sp_loadBA rfl isBlk rfl vt26 rfl rfl) rfl trivial rfl rfl ?_
          refine op1 0 rfl (sp_loadBA rfl isBlk rfl vt32 rfl rfl) rfl trivial rfl rfl ?_
          obtain ⟨r21, h11, h⟩ := bind_inv h
          refine opT (take := [.row 5 3 1 (List.map en_int l12)]) (need := [.ro 0 5 (List.map en_api_RoundTower l14), .ro 1 1 (List.map en_Lint l15), .ro 2 4 (List.map en_api_RoundWinder l16), .ro 6 1 (List.map en_int x17.2)]) (V' := [.row 5 3 1 (List.map en_int r21), .blk 7 [vi x17.1, .ref 6] 32, .ro 6 1 (List.map en_int x17.2), .blk 4 [.ref 0, .ref 1, .ref 2, vi i10, vi i11] 26, .ro 3 2 (List.map en_api_RoundDay l13), .ro 0 5 (List.map en_api_RoundTower l14), .ro 1 1 (List.map en_Lint l15), .ro 2 4 (List.map en_api_RoundWinder l16)]) [3] [5, 6, 7, 1] (ts_call (avs := [.ref 5, .agg [.ref 0, .ref 1, .ref 2, vi i10, vi i11], .agg [vi x17.1, .ref 6]]) (take := [.row 5 3 1 (List.map en_int l12)]) (need := [.ro 0 5 (List.map en_api_RoundTower l14), .ro 1 1 (List.map en_Lint l15), .ro 2 4 (List.map en_api_RoundWinder l16), .ro 6 1 (List.map en_int x17.2)]) (v := .tup []) (news := [.row 5 3 1 (List.map en_int r21)]) rfl rfl rfl Try.call29 (atT [(0, 5), (1, 0), (2, 1), (3, 2), (4, 6)] [(0, 5)] (ft_round_clocks_wind h11) rfl rfl rfl) rfl rfl) trivial rfl ⟨rfl, trivial⟩ ⟨rfl, rfl, rfl, rfl, trivial⟩ rfl rfl ?_
          refine TL.nil ?_
          refine TC.seq ?_
          refine TC.region ?_
          refine op0 (sp_move rfl rfl) rfl trivial rfl rfl ?_
          obtain ⟨r22, h12, h⟩ := bind_inv h
          refine op1 0 rfl (sp_call (avs := [.ref 5]) (need := [.row 5 3 1 (List.map en_int r21)]) (v := .tup [vi r22.1, vi r22.2]) (news := []) rfl rfl rfl Try.call30 (atJ [(0, 5)] [] (fc_round_clocks_first h12) rfl rfl) (.inr (fun x hx => nomatch hx))) rfl trivial rfl rfl ?_
          refine op0 (sp_move rfl rfl) rfl trivial rfl rfl ?_
          refine op0 (sp_extract rfl rfl rfl) rfl trivial rfl rfl ?_
          refine op0 (sp_extract rfl rfl rfl) rfl trivial rfl rfl ?_
          refine op0 (sp_assign rfl rfl) rfl trivial rfl rfl ?_
          refine op0 (sp_assign rfl rfl) rfl trivial rfl rfl ?_
          refine TL.nil ?_
          refine TC.seq ?_
          refine TC.region ?_
          refine op0 (sp_move rfl rfl) rfl trivial rfl rfl ?_
          refine op1 1 rfl (sp_fieldAddrB rfl isBlk rfl ft32_0 vt3 (by decide)) rfl trivial rfl rfl ?_
          refine op1 1 rfl (sp_loadB rfl isBlk rfl vt3 rfl) rfl trivial rfl rfl ?_
          refine op0 (sp_leq rfl rfl rfl) rfl trivial rfl rfl ?_
          refine TL.nil ?_
          refine TC.cond (b := (decide (r22.2 ≤ x17.1))) rfl (fun h13 => ?_) (fun h13 => ?_)
          · have h := cond_t h h13
            refine TC.seq ?_
            refine TC.region ?_
            refine op0 (sp_move rfl rfl) rfl trivial rfl rfl ?_
            refine op0 (sp_move rfl rfl) rfl trivial rfl rfl ?_
            refine op0 (sp_assign rfl rfl) rfl trivial rfl rfl ?_
            refine op0 (sp_assign rfl rfl) rfl trivial rfl rfl ?_
            refine op0 (sp_assign rfl rfl) rfl trivial rfl rfl ?_
            refine TL.nil ?_
            cases h
            exact retJ [] (.tmp rfl (.tmp rfl (.tmp rfl .nil))) rfl trivial rfl rfl
          · have h := cond_f h h13
            refine TC.skip ?_
            refine TC.inBlock ?_
            refine TC.region ?_
            obtain ⟨h14, h⟩ := chk_inv h
            refine op0 (sp_add rfl rfl rfl h14) rfl trivial rfl rfl ?_
            refine op0 (sp_move rfl rfl) rfl trivial rfl rfl ?_
            refine TL.nil ?_
            refine TC.inLoop ?_
            refine TC.seq ?_
            refine subJ [] (ih _ _ _ _ _ _ _ _ h) ?_ ?_ ?_
            · exact ⟨rfl, rfl, rfl, rfl, rfl, rfl, trivial⟩
            · exact ⟨mem_at 3 rfl, mem_at 0 rfl, mem_at 4 rfl, mem_at 5 rfl, mem_at 6 rfl, mem_at 7 rfl, trivial⟩
            · rfl
    · have h := cond_f h h3
      refine TC.exit rfl ?_
      refine TC.seq ?_
      refine TC.seq ?_
      refine subJ [] (ok_round_Stops_j1 h) ?_ ?_ ?_
      · exact ⟨rfl, rfl, trivial⟩
      · exact ⟨mem_at 1 rfl, trivial⟩
      · rfl
def ev_round_Stops (n : Nat) (rr1 : List (Int × Int × Int × Int × Int)) (rr2 : List ((List Int))) (rr3 : List (Int × Int × Int × Int)) (rr4 : Int) (rr5 : Int) (days6 : List (Int × (List Int))) (until7 : Int) : Option (Int × Int × Int) :=
  (ev_round_open n rr1 rr2 rr3 rr4 rr5 days6 until7).bind fun r8 => cond (r8.2 != 0) (some (0, 0, r8.2)) (ev_round_Stops_l0 n days6 until7 n 0 rr4 rr5 r8.1 days6 rr1 rr2 rr3)
theorem fc_round_Stops {n : Nat} {rr1 : List (Int × Int × Int × Int × Int)} {rr2 : List ((List Int))} {rr3 : List (Int × Int × Int × Int)} {rr4 : Int} {rr5 : Int} {days6 : List (Int × (List Int))} {until7 : Int} {r : Int × Int × Int} (h : ev_round_Stops n rr1 rr2 rr3 rr4 rr5 days6 until7 = some r) : FC Try.prog 13 [.agg [.ref 0, .ref 1, .ref 2, vi rr4, vi rr5], .ref 3, vi until7] [.ro 0 5 (List.map en_api_RoundTower rr1), .ro 1 1 (List.map en_Lint rr2), .ro 2 4 (List.map en_api_RoundWinder rr3), .ro 3 2 (List.map en_api_RoundDay days6)] (.tup [vi r.1, vi r.2.1, vi r.2.2]) [] := by
  refine introJ (nz := 71) Try.func13 rfl rfl rfl (fun w0 R0 env0 => ?_)
  rw [ev_round_Stops] at h
  refine TC.seq ?_
  refine TC.region ?_
  refine op0 (sp_box 4 rfl rfl rfl rfl rfl) rfl trivial rfl rfl ?_
  refine op0 (sp_assign rfl rfl) rfl trivial rfl rfl ?_
  refine op0 (sp_assign rfl rfl) rfl trivial rfl rfl ?_
  refine op0 (sp_assign rfl rfl) rfl trivial rfl rfl ?_
  refine TL.nil ?_
  refine TC.seq ?_
  refine TC.region ?_
  refine op1 0 rfl (sp_loadBA rfl isBlk rfl vt26 rfl rfl) rfl trivial rfl rfl ?_
  refine op0 (sp_move rfl rfl) rfl trivial rfl rfl ?_
  refine op0 (sp_move rfl rfl) rfl trivial rfl rfl ?_
  obtain ⟨r8, h1, h⟩ := bind_inv h
  refine opN (need := [.ro 0 5 (List.map en_api_RoundTower rr1), .ro 1 1 (List.map en_Lint rr2), .ro 2 4 (List.map en_api_RoundWinder rr3), .ro 3 2 (List.map en_api_RoundDay days6)]) [1, 2, 3, 4] ⟨rfl, rfl, rfl, rfl, trivial⟩ (sp_call (avs := [.agg [.ref 0, .ref 1, .ref 2, vi rr4, vi rr5], .ref 3, vi until7]) (need := [.ro 0 5 (List.map en_api_RoundTower rr1), .ro 1 1 (List.map en_Lint rr2), .ro 2 4 (List.map en_api_RoundWinder rr3), .ro 3 2 (List.map en_api_RoundDay days6)]) (v := .tup [.ref 5, vi r8.2]) (news := [.row 5 3 1 (List.map en_int r8.1)]) rfl rfl rfl Try.call28 (atJ [] [(0, 5)] (fc_round_open h1) rfl rfl) (.inl (roAll rfl))) rfl trivial rfl rfl ?_
  refine op0 (sp_move rfl rfl) rfl trivial rfl rfl ?_
  refine op0 (sp_extract rfl rfl rfl) rfl trivial rfl rfl ?_
  refine op0 (sp_extract rfl rfl rfl) rfl trivial rfl rfl ?_
  refine op0 (sp_assign rfl rfl) rfl trivial rfl rfl ?_
  refine op0 (sp_assign rfl rfl) rfl trivial rfl rfl ?_
  refine TL.nil ?_
  refine TC.seq ?_
  refine TC.seq ?_
  refine TC.region ?_
  refine op0 (sp_move rfl rfl) rfl trivial rfl rfl ?_
  refine op0 (sp_neq rfl rfl rfl) rfl trivial rfl rfl ?_
  refine TL.nil ?_
  refine TC.cond (b := (r8.2 != 0)) rfl (fun h2 => ?_) (fun h2 => ?_)
  · have h := cond_t h h2
    refine TC.seq ?_
    refine TC.region ?_
    refine op0 (sp_move rfl rfl) rfl trivial rfl rfl ?_
    refine op0 (sp_assign rfl rfl) rfl trivial rfl rfl ?_
    refine op0 (sp_assign rfl rfl) rfl trivial rfl rfl ?_
    refine op0 (sp_assign rfl rfl) rfl trivial rfl rfl ?_
    refine TL.nil ?_
    cases h
    exact retJ [] (.tmp rfl (.tmp rfl (.tmp rfl .nil))) rfl trivial rfl rfl
  · have h := cond_f h h2
    refine TC.skip ?_
    refine TC.seq ?_
    refine TC.seq ?_
    refine TC.region ?_
    refine op0 (sp_move rfl rfl) rfl trivial rfl rfl ?_
    refine op1 5 rfl (sp_lenM (N := days6.length) (len_map _ _) rfl rfl isRo Try.underlying27) rfl trivial rfl rfl ?_
    refine op0 (sp_move rfl rfl) rfl trivial rfl rfl ?_
    refine TL.nil ?_
    refine TC.block ?_
    refine TC.loop ?_
    refine TC.seq ?_
    refine subJ [] (ok_round_Stops_l0 _ _ _ _ _ _ _ _ _ h) ?_ ?_ ?_
    · exact ⟨rfl, rfl, rfl, rfl, rfl, rfl, trivial⟩
    · exact ⟨mem_at 1 rfl, mem_at 0 rfl, mem_at 5 rfl, mem_at 2 rfl, mem_at 3 rfl, mem_at 4 rfl, trivial⟩
    · rfl
end
end Go.Proofs.Ytohjpfkcahlfkaa.Sy
