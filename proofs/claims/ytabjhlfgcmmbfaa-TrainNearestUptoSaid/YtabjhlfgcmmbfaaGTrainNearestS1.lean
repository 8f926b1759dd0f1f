/- What functions of the program compute, and that they do: printed by symgen.py. -/
import Derived.Test.YtabjhlfgcmmbfaaGLib
import Derived.Test.YtabjhlfgcmmbfaaGturretlaw01
set_option linter.unusedSimpArgs false
set_option linter.unusedVariables false
namespace Go.Proofs.Ytabjhlfgcmmbfaa.Sy
open Go.RowKit
noncomputable section

/- law01_TrainNearest_1 -/
def ev_law01_TrainNearest_1 (n : Nat) (t1 : List Int) (t2 : List Int) (c3 : Int) (c4 : Int) : Option (Int × Int) :=
  (ev_law01_product n t1).bind fun r5 => chk (in64 (r5 * c4)) <| (ev_law01_product n t2).bind fun r6 => chk (in64 (r6 * c3)) <| chk (in64 ((r5 * c4) - (r6 * c3))) <| chk (in64 (0 - ((r5 * c4) - (r6 * c3)))) <| (ev_law01_product n t2).bind fun r7 => some ((max ((r5 * c4) - (r6 * c3)) (0 - ((r5 * c4) - (r6 * c3)))), r7)
set_option maxRecDepth 100000 in
set_option maxHeartbeats 2000000 in
theorem fc_law01_TrainNearest_1 {n : Nat} {t1 : List Int} {t2 : List Int} {c3 : Int} {c4 : Int} {r : Int × Int} (h : ev_law01_TrainNearest_1 n t1 t2 c3 c4 = some r) : FC Try.prog 42 [.agg [.ref 0, .ref 1], .ptr 2 0] [.ro 0 1 (List.map en_int t1), .ro 1 1 (List.map en_int t2), .rob 2 [.val (.int .i64 c3), .val (.int .i64 c4)] 26] (.tup [.val (.int .i64 r.1), .val (.int .i64 r.2)]) [] := by
  refine introJ (nz := 26) Try.func42 rfl rfl rfl (fun w0 R0 env0 => ?_)
  rw [ev_law01_TrainNearest_1] at h
  refine TC.seq ?_
  refine TC.region ?_
  refine op0 (sp_box 3 rfl rfl rfl rfl rfl) rfl trivial rfl rfl ?_
  refine op0 (sp_assign rfl rfl) rfl trivial rfl rfl ?_
  refine op0 (sp_assign rfl rfl) rfl trivial rfl rfl ?_
  refine TL.nil ?_
  refine TC.seq ?_
  obtain ⟨r5, h1, h⟩ := bind_inv h
  obtain ⟨h2, h⟩ := chk_inv h
  obtain ⟨r6, h3, h⟩ := bind_inv h
  obtain ⟨h4, h⟩ := chk_inv h
  refine drawJ 12 [⟨.ptr 3 0, [], [.blk 3 [.ref 0, .ref 1] 57], []⟩, ⟨.ref 0, [], [.blk 3 [.ref 0, .ref 1] 57], []⟩, ⟨.val (.int .i64 r5), [], [.ro 0 1 (List.map en_int t1)], []⟩, ⟨.ptr 2 1, [], [.rob 2 [.val (.int .i64 c3), .val (.int .i64 c4)] 26], []⟩, ⟨.val (.int .i64 c4), [], [.rob 2 [.val (.int .i64 c3), .val (.int .i64 c4)] 26], []⟩, ⟨.val (.int .i64 (r5 * c4)), [], [], []⟩, ⟨.ptr 3 1, [], [.blk 3 [.ref 0, .ref 1] 57], []⟩, ⟨.ref 1, [], [.blk 3 [.ref 0, .ref 1] 57], []⟩, ⟨.val (.int .i64 r6), [], [.ro 1 1 (List.map en_int t2)], []⟩, ⟨.ptr 2 0, [], [.rob 2 [.val (.int .i64 c3), .val (.int .i64 c4)] 26], []⟩, ⟨.val (.int .i64 c3), [], [.rob 2 [.val (.int .i64 c3), .val (.int .i64 c4)] 26], []⟩, ⟨.val (.int .i64 (r6 * c3)), [], [], []⟩] rfl ?_ rfl ?_ rfl ?_ ?_
  · kernel_rfl
  · kernel_rfl
  · exact DAll.op' (sp_fieldAddrB rfl isBlk rfl ft57_0 vt38 (by decide)) trivial rfl (From.ok (ps := [(none, 0)]) ⟨⟨rfl, rfl⟩, trivial⟩) (DAll.op' (sp_loadB rfl isBlk rfl vt38 rfl) trivial rfl (From.ok (ps := [(none, 0)]) ⟨⟨rfl, rfl⟩, trivial⟩) (DAll.op' (sp_call (avs := [.ref 0]) (need := [.ro 0 1 (List.map en_int t1)]) (v := .val (.int .i64 r5)) (news := []) rfl rfl rfl Try.call37 (atJ [] [] (fc_law01_product h1) rfl rfl) (.inl (roAll rfl))) trivial rfl (From.ok (ps := [(none, 1)]) ⟨⟨rfl, rfl⟩, trivial⟩) (DAll.op' (sp_fieldAddrB rfl isRob rfl ft26_1 vt3 (by decide)) trivial rfl (From.ok (ps := [(none, 3)]) ⟨⟨rfl, rfl⟩, trivial⟩) (DAll.op' (sp_loadB rfl isRob rfl vt3 rfl) trivial rfl (From.ok (ps := [(none, 3)]) ⟨⟨rfl, rfl⟩, trivial⟩) (DAll.op' (sp_mul rfl rfl rfl h2) trivial rfl (From.ok (ps := []) trivial) (DAll.op' (sp_fieldAddrB rfl isBlk rfl ft57_1 vt38 (by decide)) trivial rfl (From.ok (ps := [(none, 0)]) ⟨⟨rfl, rfl⟩, trivial⟩) (DAll.op' (sp_loadB rfl isBlk rfl vt38 rfl) trivial rfl (From.ok (ps := [(none, 0)]) ⟨⟨rfl, rfl⟩, trivial⟩) (DAll.op' (sp_call (avs := [.ref 1]) (need := [.ro 1 1 (List.map en_int t2)]) (v := .val (.int .i64 r6)) (news := []) rfl rfl rfl Try.call37 (atJ [(0, 1)] [] (fc_law01_product h3) rfl rfl) (.inl (roAll rfl))) trivial rfl (From.ok (ps := [(none, 2)]) ⟨⟨rfl, rfl⟩, trivial⟩) (DAll.op' (sp_fieldAddrB rfl isRob rfl ft26_0 vt3 (by decide)) trivial rfl (From.ok (ps := [(none, 3)]) ⟨⟨rfl, rfl⟩, trivial⟩) (DAll.op' (sp_loadB rfl isRob rfl vt3 rfl) trivial rfl (From.ok (ps := [(none, 3)]) ⟨⟨rfl, rfl⟩, trivial⟩) (DAll.op' (sp_mul rfl rfl rfl h4) trivial rfl (From.ok (ps := []) trivial) (.nil))))))))))))
  obtain ⟨h5, h⟩ := chk_inv h
  refine op0 (sp_sub rfl rfl rfl h5) rfl trivial rfl rfl ?_
  refine op0 (sp_assign rfl rfl) rfl trivial rfl rfl ?_
  refine TL.nil ?_
  refine TC.seq ?_
  refine TC.region ?_
  refine op0 (sp_move rfl rfl) rfl trivial rfl rfl ?_
  refine op0 (sp_move rfl rfl) rfl trivial rfl rfl ?_
  obtain ⟨h6, h⟩ := chk_inv h
  refine op0 (sp_neg rfl rfl h6) rfl trivial rfl rfl ?_
  refine op0 (sp_max rfl rfl rfl) rfl trivial rfl rfl ?_
  refine op1 0 rfl (sp_fieldAddrB rfl isBlk rfl ft57_1 vt38 (by decide)) rfl trivial rfl rfl ?_
  refine op1 0 rfl (sp_loadB rfl isBlk rfl vt38 rfl) rfl trivial rfl rfl ?_
  obtain ⟨r7, h7, h⟩ := bind_inv h
  refine op1 2 rfl (sp_call (avs := [.ref 1]) (need := [.ro 1 1 (List.map en_int t2)]) (v := .val (.int .i64 r7)) (news := []) rfl rfl rfl Try.call37 (atJ [(0, 1)] [] (fc_law01_product h7) rfl rfl) (.inl (roAll rfl))) rfl trivial rfl rfl ?_
  refine op0 (sp_assign rfl rfl) rfl trivial rfl rfl ?_
  refine op0 (sp_assign rfl rfl) rfl trivial rfl rfl ?_
  refine TL.nil ?_
  cases h
  exact retJ [] (.tmp rfl (.tmp rfl .nil)) rfl trivial rfl rfl
end
end Go.Proofs.Ytabjhlfgcmmbfaa.Sy
