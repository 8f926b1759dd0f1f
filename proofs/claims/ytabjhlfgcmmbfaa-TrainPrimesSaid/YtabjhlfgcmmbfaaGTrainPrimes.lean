/- What functions of the program compute, and that they do: printed by symgen.py. -/
import Derived.Test.YtabjhlfgcmmbfaaGLib
import Derived.Test.YtabjhlfgcmmbfaaGturretlaw01
import Derived.Test.YtabjhlfgcmmbfaaGTrain
set_option linter.unusedSimpArgs false
set_option linter.unusedVariables false
namespace Go.Proofs.Ytabjhlfgcmmbfaa.Sy
open Go.RowKit
noncomputable section

/- law01_TrainPrimes -/
def ev_law01_TrainPrimes_l4 (n : Nat) (l17 : List Int) (x15 : Int) (i14 : Int) (k_law01_TrainPrimes_l1 : Int → Option Bool) : Nat → Int → Option Bool
  | 0, _ => none
  | m + 1, i18 => cond (decide (i18 < (l17.length : Int))) (idx l17 i18 fun x19 => chk (x15 != 0) <| cond ((Int.tmod x19 x15) == 0) (some false) (chk (in64 (i18 + 1)) <| ev_law01_TrainPrimes_l4 n l17 x15 i14 k_law01_TrainPrimes_l1 m (i18 + 1))) (chk (in64 (i14 + 1)) <| k_law01_TrainPrimes_l1 (i14 + 1))
set_option maxRecDepth 100000 in
set_option maxHeartbeats 2000000 in
theorem ok_law01_TrainPrimes_l4 {n : Nat} {w0 : World} {R0 : Nat → Prop} {env0 : Env} {r : Bool} {r13 : (List ((List Int) × (List Int))) × Int} {x15 : Int} {by_5 : List Int} {r7 : Int × Int × Bool} {r9 : (List Int) × Int} {l17 : List Int} {r6 : (List Int) × (List Int)} {i14 : Int} {k_law01_TrainPrimes_l1 : Int → Option Bool} (hk_law01_TrainPrimes_l1 : ∀ (i14 : Int), k_law01_TrainPrimes_l1 i14 = some r → TC Try.prog ⟨w0, fun _ => False, R0⟩ 161 (bodyPost Try.prog Try.f8 (Post ⟨w0, fun _ => False, R0⟩ env0 (.val (.bool r)) [])) [.code (sub (bodyOf Try.f8) [1, 1, 1, 1, 1, 1, 0, 1, 0, 0, 0, 0]), .code (sub (bodyOf Try.f8) [1, 1, 1, 1, 1, 1, 0, 1, 0, 0, 0, 1]), .code (sub (bodyOf Try.f8) [1, 1, 1, 1, 1, 1, 0, 1, 0, 0, 1]), .inLoop (sub (bodyOf Try.f8) [1, 1, 1, 1, 1, 1, 0, 1, 0, 0]), .inBlock 0, .code (sub (bodyOf Try.f8) [1, 1, 1, 1, 1, 1, 1])] ([(2, .ref 2), (7, .ptr 7 0), (8, .ptr 8 0), (10, .ref 11), (13, .val (.int .i64 r13.2)), (14, .val (.int .i64 i14))]) ([.ro 2 1 (List.map en_uint8 by_5), .blk 7 [.ref 5, .ref 6] 40, .blk 8 [.val (.int .i64 r7.1), .val (.int .i64 r7.2.1)] 26, .row 11 3 1 (List.map en_int r9.1), .ro 5 1 (List.map en_int r6.1), .ro 6 1 (List.map en_int r6.2)])) : ∀ (m : Nat) (i18 : Int), ev_law01_TrainPrimes_l4 n l17 x15 i14 k_law01_TrainPrimes_l1 m i18 = some r → TC Try.prog ⟨w0, fun _ => False, R0⟩ 161 (bodyPost Try.prog Try.f8 (Post ⟨w0, fun _ => False, R0⟩ env0 (.val (.bool r)) [])) [.code (sub (bodyOf Try.f8) [1, 1, 1, 1, 1, 1, 0, 1, 0, 0, 1, 0, 0, 1, 1, 1, 1, 1, 1, 0, 0, 0, 0]), .code (sub (bodyOf Try.f8) [1, 1, 1, 1, 1, 1, 0, 1, 0, 0, 1, 0, 0, 1, 1, 1, 1, 1, 1, 0, 0, 0, 1]), .code (sub (bodyOf Try.f8) [1, 1, 1, 1, 1, 1, 0, 1, 0, 0, 1, 0, 0, 1, 1, 1, 1, 1, 1, 0, 0, 1]), .inLoop (sub (bodyOf Try.f8) [1, 1, 1, 1, 1, 1, 0, 1, 0, 0, 1, 0, 0, 1, 1, 1, 1, 1, 1, 0, 0]), .inBlock 2, .inBlock 1, .code (sub (bodyOf Try.f8) [1, 1, 1, 1, 1, 1, 0, 1, 0, 0, 1, 1]), .inLoop (sub (bodyOf Try.f8) [1, 1, 1, 1, 1, 1, 0, 1, 0, 0]), .inBlock 0, .code (sub (bodyOf Try.f8) [1, 1, 1, 1, 1, 1, 1])] ([(2, .ref 2), (7, .ptr 7 0), (8, .ptr 8 0), (10, .ref 11), (13, .val (.int .i64 r13.2)), (14, .val (.int .i64 i14)), (15, .val (.int .i64 x15)), (17, .ref 19), (18, .val (.int .i64 i18))]) ([.ro 2 1 (List.map en_uint8 by_5), .blk 7 [.ref 5, .ref 6] 40, .blk 8 [.val (.int .i64 r7.1), .val (.int .i64 r7.2.1)] 26, .row 11 3 1 (List.map en_int r9.1), .ro 19 1 (List.map en_int l17), .ro 5 1 (List.map en_int r6.1), .ro 6 1 (List.map en_int r6.2)]) := by
  intro m
  induction m with
  | zero => intro i18 h; exact none_no h
  | succ m ih =>
    intro i18 h
    rw [ev_law01_TrainPrimes_l4] at h
    refine TC.region ?_
    refine op0 (sp_move rfl rfl) rfl trivial rfl rfl ?_
    refine op0 (sp_move rfl rfl) rfl trivial rfl rfl ?_
    refine op1 4 rfl (sp_lenM (N := l17.length) (len_map _ _) rfl rfl isRo Try.underlying38) rfl trivial rfl rfl ?_
    refine op0 (sp_lss rfl rfl rfl) rfl trivial rfl rfl ?_
    refine TL.nil ?_
    refine TC.cond (b := (decide (i18 < (l17.length : Int)))) rfl (fun h32 => ?_) (fun h32 => ?_)
    · have h := cond_t h h32
      refine TC.skip ?_
      refine TC.seq ?_
      refine TC.block ?_
      refine TC.seq ?_
      refine TC.region ?_
      refine op0 (sp_move rfl rfl) rfl trivial rfl rfl ?_
      refine op0 (sp_move rfl rfl) rfl trivial rfl rfl ?_
      obtain ⟨x19, h33, h34, h⟩ := idx_inv h
      refine op1 4 rfl (sp_indexS rfl rfl rfl isRo sl38 h33 (map_get _ h34)) rfl trivial rfl rfl ?_
      refine op1 4 rfl (sp_loadR (i := (i18 : Int).toNat) (j := 0) rfl rfl isRo vt3 rfl (map_get _ h34) rfl (.v (.nil)) (nodup_of_B rfl)) rfl trivial rfl rfl ?_
      refine op0 (sp_move rfl rfl) rfl trivial rfl rfl ?_
      obtain ⟨h35, h⟩ := chk_inv h
      refine op0 (sp_rem rfl rfl rfl h35) rfl trivial rfl rfl ?_
      refine op0 (sp_eql rfl rfl rfl) rfl trivial rfl rfl ?_
      refine TL.nil ?_
      refine TC.cond (b := ((Int.tmod x19 x15) == 0)) rfl (fun h36 => ?_) (fun h36 => ?_)
      · have h := cond_t h h36
        refine TC.seq ?_
        refine TC.region ?_
        refine op0 (sp_assign rfl rfl) rfl trivial rfl rfl ?_
        refine TL.nil ?_
        cases h
        exact retJ [] (.tmp rfl .nil) rfl trivial rfl rfl
      · have h := cond_f h h36
        refine TC.skip ?_
        refine TC.inBlock ?_
        refine TC.region ?_
        refine op0 (sp_move rfl rfl) rfl trivial rfl rfl ?_
        obtain ⟨h37, h⟩ := chk_inv h
        refine op0 (sp_add rfl rfl rfl h37) rfl trivial rfl rfl ?_
        refine op0 (sp_assign rfl rfl) rfl trivial rfl rfl ?_
        refine TL.nil ?_
        refine TC.inLoop ?_
        refine TC.seq ?_
        refine TC.seq ?_
        refine subJ [] (ih _ h) ?_ ?_ ?_
        · exact ⟨rfl, rfl, rfl, rfl, rfl, rfl, rfl, rfl, rfl, trivial⟩
        · exact ⟨mem_at 0 rfl, mem_at 1 rfl, mem_at 2 rfl, mem_at 3 rfl, mem_at 4 rfl, mem_at 5 rfl, mem_at 6 rfl, trivial⟩
        · rfl
    · have h := cond_f h h32
      refine TC.exit rfl ?_
      refine TC.inBlock ?_
      refine TC.region ?_
      refine op0 (sp_move rfl rfl) rfl trivial rfl rfl ?_
      obtain ⟨h38, h⟩ := chk_inv h
      refine op0 (sp_add rfl rfl rfl h38) rfl trivial rfl rfl ?_
      refine op0 (sp_assign rfl rfl) rfl trivial rfl rfl ?_
      refine TL.nil ?_
      refine TC.inLoop ?_
      refine TC.seq ?_
      refine TC.seq ?_
      refine subJ [] (hk_law01_TrainPrimes_l1 _ h) ?_ ?_ ?_
      · exact ⟨rfl, rfl, rfl, rfl, rfl, rfl, trivial⟩
      · exact ⟨mem_at 0 rfl, mem_at 1 rfl, mem_at 2 rfl, mem_at 3 rfl, mem_at 5 rfl, mem_at 6 rfl, trivial⟩
      · rfl
def ev_law01_TrainPrimes_j3 (n : Nat) (x15 : Int) (i14 : Int) (k_law01_TrainPrimes_l1 : Int → Option Bool) (l17 : List Int) : Option Bool :=
  ev_law01_TrainPrimes_l4 n l17 x15 i14 k_law01_TrainPrimes_l1 n 0
set_option maxRecDepth 100000 in
set_option maxHeartbeats 2000000 in
theorem ok_law01_TrainPrimes_j3 {n : Nat} {w0 : World} {R0 : Nat → Prop} {env0 : Env} {r : Bool} {r13 : (List ((List Int) × (List Int))) × Int} {x15 : Int} {by_5 : List Int} {r7 : Int × Int × Bool} {r9 : (List Int) × Int} {r6 : (List Int) × (List Int)} {i14 : Int} {k_law01_TrainPrimes_l1 : Int → Option Bool} {l17 : List Int} (hk_law01_TrainPrimes_l1 : ∀ (i14 : Int), k_law01_TrainPrimes_l1 i14 = some r → TC Try.prog ⟨w0, fun _ => False, R0⟩ 161 (bodyPost Try.prog Try.f8 (Post ⟨w0, fun _ => False, R0⟩ env0 (.val (.bool r)) [])) [.code (sub (bodyOf Try.f8) [1, 1, 1, 1, 1, 1, 0, 1, 0, 0, 0, 0]), .code (sub (bodyOf Try.f8) [1, 1, 1, 1, 1, 1, 0, 1, 0, 0, 0, 1]), .code (sub (bodyOf Try.f8) [1, 1, 1, 1, 1, 1, 0, 1, 0, 0, 1]), .inLoop (sub (bodyOf Try.f8) [1, 1, 1, 1, 1, 1, 0, 1, 0, 0]), .inBlock 0, .code (sub (bodyOf Try.f8) [1, 1, 1, 1, 1, 1, 1])] ([(2, .ref 2), (7, .ptr 7 0), (8, .ptr 8 0), (10, .ref 11), (13, .val (.int .i64 r13.2)), (14, .val (.int .i64 i14))]) ([.ro 2 1 (List.map en_uint8 by_5), .blk 7 [.ref 5, .ref 6] 40, .blk 8 [.val (.int .i64 r7.1), .val (.int .i64 r7.2.1)] 26, .row 11 3 1 (List.map en_int r9.1), .ro 5 1 (List.map en_int r6.1), .ro 6 1 (List.map en_int r6.2)])) (h : ev_law01_TrainPrimes_j3 n x15 i14 k_law01_TrainPrimes_l1 l17 = some r) : TC Try.prog ⟨w0, fun _ => False, R0⟩ 161 (bodyPost Try.prog Try.f8 (Post ⟨w0, fun _ => False, R0⟩ env0 (.val (.bool r)) [])) [.code (sub (bodyOf Try.f8) [1, 1, 1, 1, 1, 1, 0, 1, 0, 0, 1, 0, 0, 1, 1, 1, 1, 1, 0]), .code (sub (bodyOf Try.f8) [1, 1, 1, 1, 1, 1, 0, 1, 0, 0, 1, 0, 0, 1, 1, 1, 1, 1, 1]), .inBlock 1, .code (sub (bodyOf Try.f8) [1, 1, 1, 1, 1, 1, 0, 1, 0, 0, 1, 1]), .inLoop (sub (bodyOf Try.f8) [1, 1, 1, 1, 1, 1, 0, 1, 0, 0]), .inBlock 0, .code (sub (bodyOf Try.f8) [1, 1, 1, 1, 1, 1, 1])] ([(2, .ref 2), (7, .ptr 7 0), (8, .ptr 8 0), (10, .ref 11), (13, .val (.int .i64 r13.2)), (14, .val (.int .i64 i14)), (15, .val (.int .i64 x15)), (17, .ref 19)]) ([.ro 19 1 (List.map en_int l17), .ro 2 1 (List.map en_uint8 by_5), .blk 7 [.ref 5, .ref 6] 40, .blk 8 [.val (.int .i64 r7.1), .val (.int .i64 r7.2.1)] 26, .row 11 3 1 (List.map en_int r9.1), .ro 5 1 (List.map en_int r6.1), .ro 6 1 (List.map en_int r6.2)]) := by
  rw [ev_law01_TrainPrimes_j3] at h
  refine TC.region ?_
  refine op0 (sp_assign rfl rfl) rfl trivial rfl rfl ?_
  refine TL.nil ?_
  refine TC.block ?_
  refine TC.loop ?_
  refine TC.seq ?_
  refine TC.seq ?_
  refine subJ [] (ok_law01_TrainPrimes_l4 (r13 := r13) (by_5 := by_5) (r7 := r7) (r9 := r9) (r6 := r6) hk_law01_TrainPrimes_l1 _ _ h) ?_ ?_ ?_
  · exact ⟨rfl, rfl, rfl, rfl, rfl, rfl, rfl, rfl, rfl, trivial⟩
  · exact ⟨mem_at 1 rfl, mem_at 2 rfl, mem_at 3 rfl, mem_at 4 rfl, mem_at 0 rfl, mem_at 5 rfl, mem_at 6 rfl, trivial⟩
  · rfl
def ev_law01_TrainPrimes_j2 (n : Nat) (x15 : Int) (r7 : Int × Int × Bool) (i14 : Int) (r6 : (List Int) × (List Int)) (k_law01_TrainPrimes_l1 : Int → Option Bool) : Option Bool :=
  chk (x15 != 0) <| cond (!((Int.tmod r7.1 x15) == 0)) (ev_law01_TrainPrimes_j3 n x15 i14 k_law01_TrainPrimes_l1 r6.2) (ev_law01_TrainPrimes_j3 n x15 i14 k_law01_TrainPrimes_l1 r6.1)
set_option maxRecDepth 100000 in
set_option maxHeartbeats 2000000 in
theorem ok_law01_TrainPrimes_j2 {n : Nat} {w0 : World} {R0 : Nat → Prop} {env0 : Env} {r : Bool} {r13 : (List ((List Int) × (List Int))) × Int} {x15 : Int} {by_5 : List Int} {r7 : Int × Int × Bool} {r9 : (List Int) × Int} {r6 : (List Int) × (List Int)} {i14 : Int} {k_law01_TrainPrimes_l1 : Int → Option Bool} (hk_law01_TrainPrimes_l1 : ∀ (i14 : Int), k_law01_TrainPrimes_l1 i14 = some r → TC Try.prog ⟨w0, fun _ => False, R0⟩ 161 (bodyPost Try.prog Try.f8 (Post ⟨w0, fun _ => False, R0⟩ env0 (.val (.bool r)) [])) [.code (sub (bodyOf Try.f8) [1, 1, 1, 1, 1, 1, 0, 1, 0, 0, 0, 0]), .code (sub (bodyOf Try.f8) [1, 1, 1, 1, 1, 1, 0, 1, 0, 0, 0, 1]), .code (sub (bodyOf Try.f8) [1, 1, 1, 1, 1, 1, 0, 1, 0, 0, 1]), .inLoop (sub (bodyOf Try.f8) [1, 1, 1, 1, 1, 1, 0, 1, 0, 0]), .inBlock 0, .code (sub (bodyOf Try.f8) [1, 1, 1, 1, 1, 1, 1])] ([(2, .ref 2), (7, .ptr 7 0), (8, .ptr 8 0), (10, .ref 11), (13, .val (.int .i64 r13.2)), (14, .val (.int .i64 i14))]) ([.ro 2 1 (List.map en_uint8 by_5), .blk 7 [.ref 5, .ref 6] 40, .blk 8 [.val (.int .i64 r7.1), .val (.int .i64 r7.2.1)] 26, .row 11 3 1 (List.map en_int r9.1), .ro 5 1 (List.map en_int r6.1), .ro 6 1 (List.map en_int r6.2)])) (h : ev_law01_TrainPrimes_j2 n x15 r7 i14 r6 k_law01_TrainPrimes_l1 = some r) : TC Try.prog ⟨w0, fun _ => False, R0⟩ 161 (bodyPost Try.prog Try.f8 (Post ⟨w0, fun _ => False, R0⟩ env0 (.val (.bool r)) [])) [.code (sub (bodyOf Try.f8) [1, 1, 1, 1, 1, 1, 0, 1, 0, 0, 1, 0, 0, 1, 0, 1, 1]), .code (sub (bodyOf Try.f8) [1, 1, 1, 1, 1, 1, 0, 1, 0, 0, 1, 0, 0, 1, 1]), .inBlock 1, .code (sub (bodyOf Try.f8) [1, 1, 1, 1, 1, 1, 0, 1, 0, 0, 1, 1]), .inLoop (sub (bodyOf Try.f8) [1, 1, 1, 1, 1, 1, 0, 1, 0, 0]), .inBlock 0, .code (sub (bodyOf Try.f8) [1, 1, 1, 1, 1, 1, 1])] ([(2, .ref 2), (7, .ptr 7 0), (8, .ptr 8 0), (10, .ref 11), (13, .val (.int .i64 r13.2)), (14, .val (.int .i64 i14)), (15, .val (.int .i64 x15))]) ([.ro 2 1 (List.map en_uint8 by_5), .blk 7 [.ref 5, .ref 6] 40, .blk 8 [.val (.int .i64 r7.1), .val (.int .i64 r7.2.1)] 26, .row 11 3 1 (List.map en_int r9.1), .ro 5 1 (List.map en_int r6.1), .ro 6 1 (List.map en_int r6.2)]) := by
  rw [ev_law01_TrainPrimes_j2] at h
  refine TC.skip ?_
  refine TC.seq ?_
  refine TC.region ?_
  refine op1 2 rfl (sp_fieldAddrB rfl isBlk rfl ft26_0 vt3 (by decide)) rfl trivial rfl rfl ?_
  refine op1 2 rfl (sp_loadB rfl isBlk rfl vt3 rfl) rfl trivial rfl rfl ?_
  refine op0 (sp_move rfl rfl) rfl trivial rfl rfl ?_
  obtain ⟨h30, h⟩ := chk_inv h
  refine op0 (sp_rem rfl rfl rfl h30) rfl trivial rfl rfl ?_
  refine op0 (sp_eql rfl rfl rfl) rfl trivial rfl rfl ?_
  refine op0 (sp_assign rfl rfl) rfl trivial rfl rfl ?_
  refine TL.nil ?_
  refine TC.seq ?_
  refine TC.region ?_
  refine op1 1 rfl (sp_fieldAddrB rfl isBlk rfl ft40_0 vt38 (by decide)) rfl trivial rfl rfl ?_
  refine op1 1 rfl (sp_loadB rfl isBlk rfl vt38 rfl) rfl trivial rfl rfl ?_
  refine op0 (sp_assign rfl rfl) rfl trivial rfl rfl ?_
  refine TL.nil ?_
  refine TC.seq ?_
  refine TC.seq ?_
  refine TC.region ?_
  refine op0 (sp_move rfl rfl) rfl trivial rfl rfl ?_
  refine op0 (sp_not rfl rfl) rfl trivial rfl rfl ?_
  refine TL.nil ?_
  refine TC.cond (b := (!((Int.tmod r7.1 x15) == 0))) rfl (fun h31 => ?_) (fun h31 => ?_)
  · have h := cond_t h h31
    refine TC.region ?_
    refine op1 1 rfl (sp_fieldAddrB rfl isBlk rfl ft40_1 vt38 (by decide)) rfl trivial rfl rfl ?_
    refine op1 1 rfl (sp_loadB rfl isBlk rfl vt38 rfl) rfl trivial rfl rfl ?_
    refine op0 (sp_assign rfl rfl) rfl trivial rfl rfl ?_
    refine TL.nil ?_
    refine TC.seq ?_
    refine aliasC 17 6 20 5 1 rfl rfl rfl ?_
    refine subJ [(19, 20)] (ok_law01_TrainPrimes_j3 (r13 := r13) (by_5 := by_5) (r7 := r7) (r9 := r9) (r6 := r6) hk_law01_TrainPrimes_l1 h) ?_ ?_ ?_
    · exact ⟨rfl, rfl, rfl, rfl, rfl, rfl, rfl, rfl, trivial⟩
    · exact ⟨mem_at 0 rfl, mem_at 1 rfl, mem_at 2 rfl, mem_at 3 rfl, mem_at 4 rfl, mem_at 5 rfl, mem_at 6 rfl, trivial⟩
    · rfl
  · have h := cond_f h h31
    refine TC.skip ?_
    refine TC.seq ?_
    refine aliasC 17 5 21 4 1 rfl rfl rfl ?_
    refine subJ [(19, 21)] (ok_law01_TrainPrimes_j3 (r13 := r13) (by_5 := by_5) (r7 := r7) (r9 := r9) (r6 := r6) hk_law01_TrainPrimes_l1 h) ?_ ?_ ?_
    · exact ⟨rfl, rfl, rfl, rfl, rfl, rfl, rfl, rfl, trivial⟩
    · exact ⟨mem_at 0 rfl, mem_at 1 rfl, mem_at 2 rfl, mem_at 3 rfl, mem_at 4 rfl, mem_at 5 rfl, mem_at 6 rfl, trivial⟩
    · rfl
def ev_law01_TrainPrimes_l1 (n : Nat) (r9 : (List Int) × Int) (r7 : Int × Int × Bool) (r6 : (List Int) × (List Int)) (by_5 : List Int) (r13 : (List ((List Int) × (List Int))) × Int) : Nat → Int → Option Bool
  | 0, _ => none
  | m + 1, i14 => cond (decide (i14 < (r9.1.length : Int))) (idx r9.1 i14 fun x15 => cond (decide (x15 < 2)) (some false) (cond (decide ((0 : Int) < i14)) (chk (in64 (i14 - 1)) <| idx r9.1 (i14 - 1) fun x16 => cond (decide (x15 ≤ x16)) (some false) (chk (x15 != 0) <| cond (decide ((0 : Int) < (Int.tmod r7.1 x15))) (chk (x15 != 0) <| cond (decide ((0 : Int) < (Int.tmod r7.2.1 x15))) (some false) (ev_law01_TrainPrimes_j2 n x15 r7 i14 r6 (fun i14q => ev_law01_TrainPrimes_l1 n r9 r7 r6 by_5 r13 m i14q))) (ev_law01_TrainPrimes_j2 n x15 r7 i14 r6 (fun i14q => ev_law01_TrainPrimes_l1 n r9 r7 r6 by_5 r13 m i14q)))) (chk (x15 != 0) <| cond (decide ((0 : Int) < (Int.tmod r7.1 x15))) (chk (x15 != 0) <| cond (decide ((0 : Int) < (Int.tmod r7.2.1 x15))) (some false) (ev_law01_TrainPrimes_j2 n x15 r7 i14 r6 (fun i14q => ev_law01_TrainPrimes_l1 n r9 r7 r6 by_5 r13 m i14q))) (ev_law01_TrainPrimes_j2 n x15 r7 i14 r6 (fun i14q => ev_law01_TrainPrimes_l1 n r9 r7 r6 by_5 r13 m i14q))))) (chk (in64 ((1 : Int) + (Int.tmod (by_5.length : Int) 4))) <| (ev_law01_picked n r6.1 r6.2 by_5 ((1 : Int) + (Int.tmod (by_5.length : Int) 4))).bind fun r20 => (ev_law01_product n r20.1).bind fun r21 => (ev_law01_product n r20.2).bind fun r22 => (ev_law01_lowest n r21 r22).bind fun r23 => cond (!((r23.1 == r7.1) && (r23.2.1 == r7.2.1))) ((ev_law01_known n).bind fun r24 => some r24) (cond ((r9.1.length : Int) == 0) (cond (r13.2 != 7) ((ev_law01_known n).bind fun r25 => some r25) (some false)) (some false)))
set_option maxRecDepth 100000 in
set_option maxHeartbeats 2000000 in
theorem ok_law01_TrainPrimes_l1 {n : Nat} {w0 : World} {R0 : Nat → Prop} {env0 : Env} {r : Bool} {r13 : (List ((List Int) × (List Int))) × Int} {by_5 : List Int} {r7 : Int × Int × Bool} {r9 : (List Int) × Int} {r6 : (List Int) × (List Int)} : ∀ (m : Nat) (i14 : Int), ev_law01_TrainPrimes_l1 n r9 r7 r6 by_5 r13 m i14 = some r → TC Try.prog ⟨w0, fun _ => False, R0⟩ 161 (bodyPost Try.prog Try.f8 (Post ⟨w0, fun _ => False, R0⟩ env0 (.val (.bool r)) [])) [.code (sub (bodyOf Try.f8) [1, 1, 1, 1, 1, 1, 0, 1, 0, 0, 0, 0]), .code (sub (bodyOf Try.f8) [1, 1, 1, 1, 1, 1, 0, 1, 0, 0, 0, 1]), .code (sub (bodyOf Try.f8) [1, 1, 1, 1, 1, 1, 0, 1, 0, 0, 1]), .inLoop (sub (bodyOf Try.f8) [1, 1, 1, 1, 1, 1, 0, 1, 0, 0]), .inBlock 0, .code (sub (bodyOf Try.f8) [1, 1, 1, 1, 1, 1, 1])] ([(2, .ref 2), (7, .ptr 7 0), (8, .ptr 8 0), (10, .ref 11), (13, .val (.int .i64 r13.2)), (14, .val (.int .i64 i14))]) ([.ro 2 1 (List.map en_uint8 by_5), .blk 7 [.ref 5, .ref 6] 40, .blk 8 [.val (.int .i64 r7.1), .val (.int .i64 r7.2.1)] 26, .row 11 3 1 (List.map en_int r9.1), .ro 5 1 (List.map en_int r6.1), .ro 6 1 (List.map en_int r6.2)]) := by
  intro m
  induction m with
  | zero => intro i14 h; exact none_no h
  | succ m ih =>
    intro i14 h
    rw [ev_law01_TrainPrimes_l1] at h
    refine TC.region ?_
    refine op0 (sp_move rfl rfl) rfl trivial rfl rfl ?_
    refine op0 (sp_move rfl rfl) rfl trivial rfl rfl ?_
    refine op1 3 rfl (sp_lenM (N := r9.1.length) (len_map _ _) rfl rfl isOwn Try.underlying38) rfl trivial rfl rfl ?_
    refine op0 (sp_lss rfl rfl rfl) rfl trivial rfl rfl ?_
    refine TL.nil ?_
    refine TC.cond (b := (decide (i14 < (r9.1.length : Int)))) rfl (fun h17 => ?_) (fun h17 => ?_)
    · have h := cond_t h h17
      refine TC.skip ?_
      refine TC.seq ?_
      refine TC.block ?_
      refine TC.seq ?_
      refine TC.region ?_
      refine op0 (sp_move rfl rfl) rfl trivial rfl rfl ?_
      refine op0 (sp_move rfl rfl) rfl trivial rfl rfl ?_
      obtain ⟨x15, h18, h19, h⟩ := idx_inv h
      refine op1 3 rfl (sp_indexS rfl rfl rfl isOwn sl38 h18 (map_get _ h19)) rfl trivial rfl rfl ?_
      refine op1 3 rfl (sp_loadR (i := (i14 : Int).toNat) (j := 0) rfl rfl isOwn vt3 rfl (map_get _ h19) rfl (.v (.nil)) (nodup_of_B rfl)) rfl trivial rfl rfl ?_
      refine op0 (sp_assign rfl rfl) rfl trivial rfl rfl ?_
      refine op0 (sp_assign rfl rfl) rfl trivial rfl rfl ?_
      refine TL.nil ?_
      refine TC.seq ?_
      refine TC.seq ?_
      refine TC.region ?_
      refine op0 (sp_move rfl rfl) rfl trivial rfl rfl ?_
      refine op0 (sp_lss rfl rfl rfl) rfl trivial rfl rfl ?_
      refine op0 (sp_move rfl rfl) rfl trivial rfl rfl ?_
      rcases cond_cases h with ⟨h20, h⟩ | ⟨h20, h⟩
      · refine (boolLit 78 rfl h20).2 ?_
        refine opSkip rfl ⟨_, rfl, .inl rfl⟩ rfl ?_
        refine opSkip rfl ⟨_, rfl, .inl rfl⟩ rfl ?_
        refine opSkip rfl ⟨_, rfl, .inl rfl⟩ rfl ?_
        refine opSkip rfl ⟨_, rfl, .inr rfl⟩ rfl ?_
        refine opSkip rfl ⟨_, rfl, .inr rfl⟩ rfl ?_
        refine opSkip rfl ⟨_, rfl, .inr rfl⟩ rfl ?_
        refine opSkip rfl ⟨_, rfl, .inr rfl⟩ rfl ?_
        refine opSkip rfl ⟨_, rfl, .inr rfl⟩ rfl ?_
        refine opSkip rfl ⟨_, rfl, .inr rfl⟩ rfl ?_
        refine opSkip rfl ⟨_, rfl, .inr rfl⟩ rfl ?_
        refine opSkip rfl ⟨_, rfl, .inl rfl⟩ rfl ?_
        refine op0 (sp_pickT rfl rfl rfl) rfl trivial rfl rfl ?_
        refine op0 (sp_move rfl rfl) rfl trivial rfl rfl ?_
        refine opSkip rfl ⟨_, rfl, .inl rfl⟩ rfl ?_
        refine opSkip rfl ⟨_, rfl, .inl rfl⟩ rfl ?_
        refine opSkip rfl ⟨_, rfl, .inl rfl⟩ rfl ?_
        refine opSkip rfl ⟨_, rfl, .inl rfl⟩ rfl ?_
        refine opSkip rfl ⟨_, rfl, .inl rfl⟩ rfl ?_
        refine opSkip rfl ⟨_, rfl, .inl rfl⟩ rfl ?_
        refine opSkip rfl ⟨_, rfl, .inr rfl⟩ rfl ?_
        refine opSkip rfl ⟨_, rfl, .inr rfl⟩ rfl ?_
        refine opSkip rfl ⟨_, rfl, .inr rfl⟩ rfl ?_
        refine opSkip rfl ⟨_, rfl, .inr rfl⟩ rfl ?_
        refine opSkip rfl ⟨_, rfl, .inr rfl⟩ rfl ?_
        refine opSkip rfl ⟨_, rfl, .inl rfl⟩ rfl ?_
        refine op0 (sp_pickT rfl rfl rfl) rfl trivial rfl rfl ?_
        refine TL.nil ?_
        refine TC.condT rfl ?_
        refine TC.seq ?_
        refine TC.region ?_
        refine op0 (sp_assign rfl rfl) rfl trivial rfl rfl ?_
        refine TL.nil ?_
        cases h
        exact retJ [] (.tmp rfl .nil) rfl trivial rfl rfl
      · refine (boolLit 78 rfl h20).2 ?_
        refine op0 (sp_move rfl rfl) rfl ⟨_, rfl, rfl⟩ rfl rfl ?_
        refine op0 (sp_gtr rfl rfl rfl) rfl ⟨_, rfl, rfl⟩ rfl rfl ?_
        refine op0 (sp_move rfl rfl) rfl ⟨_, rfl, rfl⟩ rfl rfl ?_
        rcases cond_cases h with ⟨h21, h⟩ | ⟨h21, h⟩
        · refine (boolLit 81 rfl h21).2 ?_
          refine op0 (sp_move rfl rfl) rfl ⟨_, rfl, rfl⟩ rfl rfl ?_
          refine op0 (sp_move rfl rfl) rfl ⟨_, rfl, rfl⟩ rfl rfl ?_
          refine op0 (sp_move rfl rfl) rfl ⟨_, rfl, rfl⟩ rfl rfl ?_
          obtain ⟨h22, h⟩ := chk_inv h
          refine op0 (sp_sub rfl rfl rfl h22) rfl ⟨_, rfl, rfl⟩ rfl rfl ?_
          obtain ⟨x16, h23, h24, h⟩ := idx_inv h
          refine op1 3 rfl (sp_indexS rfl rfl rfl isOwn sl38 h23 (map_get _ h24)) rfl ⟨_, rfl, rfl⟩ rfl rfl ?_
          refine op1 3 rfl (sp_loadR (i := ((i14 - 1) : Int).toNat) (j := 0) rfl rfl isOwn vt3 rfl (map_get _ h24) rfl (.v (.nil)) (nodup_of_B rfl)) rfl ⟨_, rfl, rfl⟩ rfl rfl ?_
          refine op0 (sp_leq rfl rfl rfl) rfl ⟨_, rfl, rfl⟩ rfl rfl ?_
          refine op0 (sp_pickT rfl rfl rfl) rfl ⟨_, rfl, rfl⟩ rfl rfl ?_
          refine op0 (sp_pickF rfl rfl rfl) rfl trivial rfl rfl ?_
          refine op0 (sp_move rfl rfl) rfl trivial rfl rfl ?_
          rcases cond_cases h with ⟨h25, h⟩ | ⟨h25, h⟩
          · refine (boolLit 91 rfl h25).2 ?_
            refine opSkip rfl ⟨_, rfl, .inl rfl⟩ rfl ?_
            refine opSkip rfl ⟨_, rfl, .inl rfl⟩ rfl ?_
            refine opSkip rfl ⟨_, rfl, .inl rfl⟩ rfl ?_
            refine opSkip rfl ⟨_, rfl, .inl rfl⟩ rfl ?_
            refine opSkip rfl ⟨_, rfl, .inl rfl⟩ rfl ?_
            refine opSkip rfl ⟨_, rfl, .inl rfl⟩ rfl ?_
            refine opSkip rfl ⟨_, rfl, .inr rfl⟩ rfl ?_
            refine opSkip rfl ⟨_, rfl, .inr rfl⟩ rfl ?_
            refine opSkip rfl ⟨_, rfl, .inr rfl⟩ rfl ?_
            refine opSkip rfl ⟨_, rfl, .inr rfl⟩ rfl ?_
            refine opSkip rfl ⟨_, rfl, .inr rfl⟩ rfl ?_
            refine opSkip rfl ⟨_, rfl, .inl rfl⟩ rfl ?_
            refine op0 (sp_pickT rfl rfl rfl) rfl trivial rfl rfl ?_
            refine TL.nil ?_
            refine TC.condT rfl ?_
            refine TC.seq ?_
            refine TC.region ?_
            refine op0 (sp_assign rfl rfl) rfl trivial rfl rfl ?_
            refine TL.nil ?_
            cases h
            exact retJ [] (.tmp rfl .nil) rfl trivial rfl rfl
          · refine (boolLit 91 rfl h25).2 ?_
            refine op1 2 rfl (sp_fieldAddrB rfl isBlk rfl ft26_0 vt3 (by decide)) rfl ⟨_, rfl, rfl⟩ rfl rfl ?_
            refine op1 2 rfl (sp_loadB rfl isBlk rfl vt3 rfl) rfl ⟨_, rfl, rfl⟩ rfl rfl ?_
            refine op0 (sp_move rfl rfl) rfl ⟨_, rfl, rfl⟩ rfl rfl ?_
            obtain ⟨h26, h⟩ := chk_inv h
            refine op0 (sp_rem rfl rfl rfl h26) rfl ⟨_, rfl, rfl⟩ rfl rfl ?_
            refine op0 (sp_gtr rfl rfl rfl) rfl ⟨_, rfl, rfl⟩ rfl rfl ?_
            refine op0 (sp_move rfl rfl) rfl ⟨_, rfl, rfl⟩ rfl rfl ?_
            rcases cond_cases h with ⟨h27, h⟩ | ⟨h27, h⟩
            · refine (boolLit 97 rfl h27).2 ?_
              refine op1 2 rfl (sp_fieldAddrB rfl isBlk rfl ft26_1 vt3 (by decide)) rfl ⟨_, rfl, rfl⟩ rfl rfl ?_
              refine op1 2 rfl (sp_loadB rfl isBlk rfl vt3 rfl) rfl ⟨_, rfl, rfl⟩ rfl rfl ?_
              refine op0 (sp_move rfl rfl) rfl ⟨_, rfl, rfl⟩ rfl rfl ?_
              obtain ⟨h28, h⟩ := chk_inv h
              refine op0 (sp_rem rfl rfl rfl h28) rfl ⟨_, rfl, rfl⟩ rfl rfl ?_
              refine op0 (sp_gtr rfl rfl rfl) rfl ⟨_, rfl, rfl⟩ rfl rfl ?_
              refine op0 (sp_pickT rfl rfl rfl) rfl ⟨_, rfl, rfl⟩ rfl rfl ?_
              refine op0 (sp_pickF rfl rfl rfl) rfl trivial rfl rfl ?_
              refine TL.nil ?_
              refine TC.cond (b := (decide ((0 : Int) < (Int.tmod r7.2.1 x15)))) rfl (fun h29 => ?_) (fun h29 => ?_)
              · have h := cond_t h h29
                refine TC.seq ?_
                refine TC.region ?_
                refine op0 (sp_assign rfl rfl) rfl trivial rfl rfl ?_
                refine TL.nil ?_
                cases h
                exact retJ [] (.tmp rfl .nil) rfl trivial rfl rfl
              · have h := cond_f h h29
                refine subJ [] (ok_law01_TrainPrimes_j2 (r13 := r13) (by_5 := by_5) (r9 := r9) ih h) ?_ ?_ ?_
                · exact ⟨rfl, rfl, rfl, rfl, rfl, rfl, rfl, trivial⟩
                · exact ⟨mem_at 0 rfl, mem_at 1 rfl, mem_at 2 rfl, mem_at 3 rfl, mem_at 4 rfl, mem_at 5 rfl, trivial⟩
                · rfl
            · refine (boolLit 97 rfl h27).2 ?_
              refine opSkip rfl ⟨_, rfl, .inl rfl⟩ rfl ?_
              refine opSkip rfl ⟨_, rfl, .inl rfl⟩ rfl ?_
              refine opSkip rfl ⟨_, rfl, .inl rfl⟩ rfl ?_
              refine opSkip rfl ⟨_, rfl, .inl rfl⟩ rfl ?_
              refine opSkip rfl ⟨_, rfl, .inl rfl⟩ rfl ?_
              refine op0 (sp_pickF rfl rfl rfl) rfl ⟨_, rfl, rfl⟩ rfl rfl ?_
              refine op0 (sp_pickF rfl rfl rfl) rfl trivial rfl rfl ?_
              refine TL.nil ?_
              refine TC.condF rfl ?_
              refine subJ [] (ok_law01_TrainPrimes_j2 (r13 := r13) (by_5 := by_5) (r9 := r9) ih h) ?_ ?_ ?_
              · exact ⟨rfl, rfl, rfl, rfl, rfl, rfl, rfl, trivial⟩
              · exact ⟨mem_at 0 rfl, mem_at 1 rfl, mem_at 2 rfl, mem_at 3 rfl, mem_at 4 rfl, mem_at 5 rfl, trivial⟩
              · rfl
        · refine (boolLit 81 rfl h21).2 ?_
          refine opSkip rfl ⟨_, rfl, .inl rfl⟩ rfl ?_
          refine opSkip rfl ⟨_, rfl, .inl rfl⟩ rfl ?_
          refine opSkip rfl ⟨_, rfl, .inl rfl⟩ rfl ?_
          refine opSkip rfl ⟨_, rfl, .inl rfl⟩ rfl ?_
          refine opSkip rfl ⟨_, rfl, .inl rfl⟩ rfl ?_
          refine opSkip rfl ⟨_, rfl, .inl rfl⟩ rfl ?_
          refine opSkip rfl ⟨_, rfl, .inl rfl⟩ rfl ?_
          refine op0 (sp_pickF rfl rfl rfl) rfl ⟨_, rfl, rfl⟩ rfl rfl ?_
          refine op0 (sp_pickF rfl rfl rfl) rfl trivial rfl rfl ?_
          refine op0 (sp_move rfl rfl) rfl trivial rfl rfl ?_
          refine op1 2 rfl (sp_fieldAddrB rfl isBlk rfl ft26_0 vt3 (by decide)) rfl ⟨_, rfl, rfl⟩ rfl rfl ?_
          refine op1 2 rfl (sp_loadB rfl isBlk rfl vt3 rfl) rfl ⟨_, rfl, rfl⟩ rfl rfl ?_
          refine op0 (sp_move rfl rfl) rfl ⟨_, rfl, rfl⟩ rfl rfl ?_
          obtain ⟨h39, h⟩ := chk_inv h
          refine op0 (sp_rem rfl rfl rfl h39) rfl ⟨_, rfl, rfl⟩ rfl rfl ?_
          refine op0 (sp_gtr rfl rfl rfl) rfl ⟨_, rfl, rfl⟩ rfl rfl ?_
          refine op0 (sp_move rfl rfl) rfl ⟨_, rfl, rfl⟩ rfl rfl ?_
          rcases cond_cases h with ⟨h40, h⟩ | ⟨h40, h⟩
          · refine (boolLit 97 rfl h40).2 ?_
            refine op1 2 rfl (sp_fieldAddrB rfl isBlk rfl ft26_1 vt3 (by decide)) rfl ⟨_, rfl, rfl⟩ rfl rfl ?_
            refine op1 2 rfl (sp_loadB rfl isBlk rfl vt3 rfl) rfl ⟨_, rfl, rfl⟩ rfl rfl ?_
            refine op0 (sp_move rfl rfl) rfl ⟨_, rfl, rfl⟩ rfl rfl ?_
            obtain ⟨h41, h⟩ := chk_inv h
            refine op0 (sp_rem rfl rfl rfl h41) rfl ⟨_, rfl, rfl⟩ rfl rfl ?_
            refine op0 (sp_gtr rfl rfl rfl) rfl ⟨_, rfl, rfl⟩ rfl rfl ?_
            refine op0 (sp_pickT rfl rfl rfl) rfl ⟨_, rfl, rfl⟩ rfl rfl ?_
            refine op0 (sp_pickF rfl rfl rfl) rfl trivial rfl rfl ?_
            refine TL.nil ?_
            refine TC.cond (b := (decide ((0 : Int) < (Int.tmod r7.2.1 x15)))) rfl (fun h42 => ?_) (fun h42 => ?_)
            · have h := cond_t h h42
              refine TC.seq ?_
              refine TC.region ?_
              refine op0 (sp_assign rfl rfl) rfl trivial rfl rfl ?_
              refine TL.nil ?_
              cases h
              exact retJ [] (.tmp rfl .nil) rfl trivial rfl rfl
            · have h := cond_f h h42
              refine subJ [] (ok_law01_TrainPrimes_j2 (r13 := r13) (by_5 := by_5) (r9 := r9) ih h) ?_ ?_ ?_
              · exact ⟨rfl, rfl, rfl, rfl, rfl, rfl, rfl, trivial⟩
              · exact ⟨mem_at 0 rfl, mem_at 1 rfl, mem_at 2 rfl, mem_at 3 rfl, mem_at 4 rfl, mem_at 5 rfl, trivial⟩
              · rfl
          · refine (boolLit 97 rfl h40).2 ?_
            refine opSkip rfl ⟨_, rfl, .inl rfl⟩ rfl ?_
            refine opSkip rfl ⟨_, rfl, .inl rfl⟩ rfl ?_
            refine opSkip rfl ⟨_, rfl, .inl rfl⟩ rfl ?_
            refine opSkip rfl ⟨_, rfl, .inl rfl⟩ rfl ?_
            refine opSkip rfl ⟨_, rfl, .inl rfl⟩ rfl ?_
            refine op0 (sp_pickF rfl rfl rfl) rfl ⟨_, rfl, rfl⟩ rfl rfl ?_
            refine op0 (sp_pickF rfl rfl rfl) rfl trivial rfl rfl ?_
            refine TL.nil ?_
            refine TC.condF rfl ?_
            refine subJ [] (ok_law01_TrainPrimes_j2 (r13 := r13) (by_5 := by_5) (r9 := r9) ih h) ?_ ?_ ?_
            · exact ⟨rfl, rfl, rfl, rfl, rfl, rfl, rfl, trivial⟩
            · exact ⟨mem_at 0 rfl, mem_at 1 rfl, mem_at 2 rfl, mem_at 3 rfl, mem_at 4 rfl, mem_at 5 rfl, trivial⟩
            · rfl
    · have h := cond_f h h17
      refine TC.exit rfl ?_
      refine TC.seq ?_
      refine TC.region ?_
      refine op1 1 rfl (sp_loadBA rfl isBlk rfl vt40 rfl rfl) rfl trivial rfl rfl ?_
      refine op0 (sp_move rfl rfl) rfl trivial rfl rfl ?_
      refine op0 (sp_move rfl rfl) rfl trivial rfl rfl ?_
      refine op1 0 rfl (sp_lenM (N := by_5.length) (len_map _ _) rfl rfl isRo Try.underlying62) rfl trivial rfl rfl ?_
      refine op0 (sp_rem rfl rfl rfl (by decide)) rfl trivial rfl rfl ?_
      obtain ⟨h43, h⟩ := chk_inv h
      refine op0 (sp_add rfl rfl rfl h43) rfl trivial rfl rfl ?_
      obtain ⟨r20, h44, h⟩ := bind_inv h
      refine opN (need := [.ro 5 1 (List.map en_int r6.1), .ro 6 1 (List.map en_int r6.2), .ro 2 1 (List.map en_uint8 by_5)]) [4, 5, 0] ⟨rfl, rfl, rfl, trivial⟩ (sp_call (avs := [.agg [.ref 5, .ref 6], .ref 2, .val (.int .i64 ((1 : Int) + (Int.tmod (by_5.length : Int) 4)))]) (need := [.ro 5 1 (List.map en_int r6.1), .ro 6 1 (List.map en_int r6.2), .ro 2 1 (List.map en_uint8 by_5)]) (v := .agg [.ref 22, .ref 23]) (news := [.row 22 3 1 (List.map en_int r20.1), .row 23 3 1 (List.map en_int r20.2)]) rfl rfl rfl Try.call35 (atJ [(0, 5), (1, 6)] [(0, 22), (1, 23)] (fc_law01_picked h44) rfl rfl) (.inl (roAll rfl))) rfl trivial rfl rfl ?_
      refine op0 (sp_alloc 24 rfl Try.zeroValue57 rfl) rfl trivial rfl rfl ?_
      refine stoB 0 (cells' := [.ref 22, .ref 23]) rfl rfl trivial rfl rfl rfl rfl vt57 rfl rfl rfl ?_
      refine TL.nil ?_
      refine TC.seq ?_
      obtain ⟨r21, h45, h⟩ := bind_inv h
      obtain ⟨r22, h46, h⟩ := bind_inv h
      obtain ⟨r23, h47, h⟩ := bind_inv h
      refine drawJ 12 [⟨.ptr 24 0, [], [.blk 24 [.ref 22, .ref 23] 57], []⟩, ⟨.ref 22, [], [.blk 24 [.ref 22, .ref 23] 57], []⟩, ⟨.val (.int .i64 r21), [], [.row 22 3 1 (List.map en_int r20.1)], []⟩, ⟨.ptr 24 1, [], [.blk 24 [.ref 22, .ref 23] 57], []⟩, ⟨.ref 23, [], [.blk 24 [.ref 22, .ref 23] 57], []⟩, ⟨.val (.int .i64 r22), [], [.row 23 3 1 (List.map en_int r20.2)], []⟩, ⟨.tup [.agg [.val (.int .i64 r23.1), .val (.int .i64 r23.2.1)], .val (.bool r23.2.2)], [], [], []⟩, ⟨.tup [.agg [.val (.int .i64 r23.1), .val (.int .i64 r23.2.1)], .val (.bool r23.2.2)], [], [], []⟩, ⟨.agg [.val (.int .i64 r23.1), .val (.int .i64 r23.2.1)], [], [], []⟩, ⟨.val (.bool r23.2.2), [], [], []⟩, ⟨.ptr 25 0, [.blk 25 [.val (.int .i64 0), .val (.int .i64 0)] 26], [], []⟩, ⟨.val (undef), [.blk 25 [.val (.int .i64 r23.1), .val (.int .i64 r23.2.1)] 26], [], [.blk 25 [.val (.int .i64 0), .val (.int .i64 0)] 26]⟩] rfl ?_ rfl ?_ rfl ?_ ?_
      · kernel_rfl
      · kernel_rfl
      · exact DAll.op' (sp_fieldAddrB rfl isBlk rfl ft57_0 vt38 (by decide)) trivial rfl (From.ok (ps := [(none, 0)]) ⟨⟨rfl, by kernel_rfl⟩, trivial⟩) (DAll.op' (sp_loadB rfl isBlk rfl vt38 rfl) trivial rfl (From.ok (ps := [(none, 0)]) ⟨⟨rfl, by kernel_rfl⟩, trivial⟩) (DAll.op' (sp_call (avs := [.ref 22]) (need := [.row 22 3 1 (List.map en_int r20.1)]) (v := .val (.int .i64 r21)) (news := []) rfl rfl rfl Try.call37 (atJ [(0, 22)] [] (fc_law01_product h45) rfl rfl) (.inr (fun x hx => nomatch hx))) trivial rfl (From.ok (ps := [(none, 1)]) ⟨⟨rfl, by kernel_rfl⟩, trivial⟩) (DAll.op' (sp_fieldAddrB rfl isBlk rfl ft57_1 vt38 (by decide)) trivial rfl (From.ok (ps := [(none, 0)]) ⟨⟨rfl, by kernel_rfl⟩, trivial⟩) (DAll.op' (sp_loadB rfl isBlk rfl vt38 rfl) trivial rfl (From.ok (ps := [(none, 0)]) ⟨⟨rfl, by kernel_rfl⟩, trivial⟩) (DAll.op' (sp_call (avs := [.ref 23]) (need := [.row 23 3 1 (List.map en_int r20.2)]) (v := .val (.int .i64 r22)) (news := []) rfl rfl rfl Try.call37 (atJ [(0, 23)] [] (fc_law01_product h46) rfl rfl) (.inr (fun x hx => nomatch hx))) trivial rfl (From.ok (ps := [(none, 2)]) ⟨⟨rfl, by kernel_rfl⟩, trivial⟩) (DAll.op' (sp_call (avs := [.val (.int .i64 r21), .val (.int .i64 r22)]) (need := []) (v := .tup [.agg [.val (.int .i64 r23.1), .val (.int .i64 r23.2.1)], .val (.bool r23.2.2)]) (news := []) rfl rfl rfl Try.call36 (atJ [] [] (fc_law01_lowest h47) rfl rfl) (.inl (roAll rfl))) trivial rfl (From.ok (ps := []) trivial) (DAll.op' (sp_move rfl rfl) trivial rfl (From.ok (ps := []) trivial) (DAll.op' (sp_extract rfl rfl rfl) trivial rfl (From.ok (ps := []) trivial) (DAll.op' (sp_extract rfl rfl rfl) trivial rfl (From.ok (ps := []) trivial) (DAll.op' (sp_alloc 25 rfl Try.zeroValue26 rfl) trivial rfl (From.ok (ps := []) trivial) (DAll.opT (ts_storeB (off := 0) (cells' := [.val (.int .i64 r23.1), .val (.int .i64 r23.2.1)]) rfl rfl rfl rfl vt26 rfl rfl rfl) trivial (From.ok (ps := [(some 10, 0)]) ⟨⟨_, rfl, by kernel_rfl, rfl, by kernel_rfl⟩, trivial⟩) (From.ok (ps := []) trivial) (.nil))))))))))))
      refine op0 (sp_assign rfl rfl) rfl trivial rfl rfl ?_
      refine TL.nil ?_
      refine TC.seq ?_
      refine TC.region ?_
      refine op1 0 rfl (sp_loadBA rfl isBlk rfl vt26 rfl rfl) rfl trivial rfl rfl ?_
      refine op1 6 rfl (sp_loadBA rfl isBlk rfl vt26 rfl rfl) rfl trivial rfl rfl ?_
      refine op0 (sp_neqS rfl rfl rfl rfl rfl (eq26 _ _ _ _)) rfl trivial rfl rfl ?_
      refine op0 (sp_move rfl rfl) rfl trivial rfl rfl ?_
      rcases cond_cases h with ⟨h48, h⟩ | ⟨h48, h⟩
      · refine (boolLit 149 rfl h48).2 ?_
        refine opSkip rfl ⟨_, rfl, .inl rfl⟩ rfl ?_
        refine opSkip rfl ⟨_, rfl, .inl rfl⟩ rfl ?_
        refine opSkip rfl ⟨_, rfl, .inl rfl⟩ rfl ?_
        refine opSkip rfl ⟨_, rfl, .inl rfl⟩ rfl ?_
        refine opSkip rfl ⟨_, rfl, .inr rfl⟩ rfl ?_
        refine opSkip rfl ⟨_, rfl, .inr rfl⟩ rfl ?_
        refine opSkip rfl ⟨_, rfl, .inl rfl⟩ rfl ?_
        refine op0 (sp_pickT rfl rfl rfl) rfl trivial rfl rfl ?_
        refine op0 (sp_move rfl rfl) rfl trivial rfl rfl ?_
        obtain ⟨r24, h49, h⟩ := bind_inv h
        refine op0 (sp_call (avs := []) (need := []) (v := .val (.bool r24)) (news := []) rfl rfl rfl Try.call12 (atJ [] [] (fc_law01_known h49) rfl rfl) (.inl (roAll rfl))) rfl ⟨_, rfl, rfl⟩ rfl rfl ?_
        refine op0 (sp_pickT rfl rfl rfl) rfl trivial rfl rfl ?_
        refine op0 (sp_assign rfl rfl) rfl trivial rfl rfl ?_
        refine TL.nil ?_
        cases h
        exact retJ [] (.tmp rfl .nil) rfl trivial rfl rfl
      · refine (boolLit 149 rfl h48).2 ?_
        refine op0 (sp_move rfl rfl) rfl ⟨_, rfl, rfl⟩ rfl rfl ?_
        refine op1 7 rfl (sp_lenM (N := r9.1.length) (len_map _ _) rfl rfl isOwn Try.underlying38) rfl ⟨_, rfl, rfl⟩ rfl rfl ?_
        refine op0 (sp_eql rfl rfl rfl) rfl ⟨_, rfl, rfl⟩ rfl rfl ?_
        refine op0 (sp_move rfl rfl) rfl ⟨_, rfl, rfl⟩ rfl rfl ?_
        rcases cond_cases h with ⟨h50, h⟩ | ⟨h50, h⟩
        · refine (boolLit 153 rfl h50).2 ?_
          refine op0 (sp_move rfl rfl) rfl ⟨_, rfl, rfl⟩ rfl rfl ?_
          refine op0 (sp_neq rfl rfl rfl) rfl ⟨_, rfl, rfl⟩ rfl rfl ?_
          refine op0 (sp_pickT rfl rfl rfl) rfl ⟨_, rfl, rfl⟩ rfl rfl ?_
          refine op0 (sp_pickF rfl rfl rfl) rfl trivial rfl rfl ?_
          refine op0 (sp_move rfl rfl) rfl trivial rfl rfl ?_
          rcases cond_cases h with ⟨h51, h⟩ | ⟨h51, h⟩
          · refine (boolLit 158 rfl h51).2 ?_
            obtain ⟨r25, h52, h⟩ := bind_inv h
            refine op0 (sp_call (avs := []) (need := []) (v := .val (.bool r25)) (news := []) rfl rfl rfl Try.call12 (atJ [] [] (fc_law01_known h52) rfl rfl) (.inl (roAll rfl))) rfl ⟨_, rfl, rfl⟩ rfl rfl ?_
            refine op0 (sp_pickT rfl rfl rfl) rfl trivial rfl rfl ?_
            refine op0 (sp_assign rfl rfl) rfl trivial rfl rfl ?_
            refine TL.nil ?_
            cases h
            exact retJ [] (.tmp rfl .nil) rfl trivial rfl rfl
          · refine (boolLit 158 rfl h51).2 ?_
            refine opSkip rfl ⟨_, rfl, .inl rfl⟩ rfl ?_
            refine op0 (sp_pickF rfl rfl rfl) rfl trivial rfl rfl ?_
            refine op0 (sp_assign rfl rfl) rfl trivial rfl rfl ?_
            refine TL.nil ?_
            cases h
            exact retJ [] (.tmp rfl .nil) rfl trivial rfl rfl
        · refine (boolLit 153 rfl h50).2 ?_
          refine opSkip rfl ⟨_, rfl, .inl rfl⟩ rfl ?_
          refine opSkip rfl ⟨_, rfl, .inl rfl⟩ rfl ?_
          refine op0 (sp_pickF rfl rfl rfl) rfl ⟨_, rfl, rfl⟩ rfl rfl ?_
          refine op0 (sp_pickF rfl rfl rfl) rfl trivial rfl rfl ?_
          refine op0 (sp_move rfl rfl) rfl trivial rfl rfl ?_
          refine opSkip rfl ⟨_, rfl, .inl rfl⟩ rfl ?_
          refine op0 (sp_pickF rfl rfl rfl) rfl trivial rfl rfl ?_
          refine op0 (sp_assign rfl rfl) rfl trivial rfl rfl ?_
          refine TL.nil ?_
          cases h
          exact retJ [] (.tmp rfl .nil) rfl trivial rfl rfl
def ev_law01_TrainPrimes_j0 (n : Nat) (r9 : (List Int) × Int) (r7 : Int × Int × Bool) (r6 : (List Int) × (List Int)) (by_5 : List Int) (r13 : (List ((List Int) × (List Int))) × Int) : Option Bool :=
  ev_law01_TrainPrimes_l1 n r9 r7 r6 by_5 r13 n 0
set_option maxRecDepth 100000 in
set_option maxHeartbeats 2000000 in
theorem ok_law01_TrainPrimes_j0 {n : Nat} {w0 : World} {R0 : Nat → Prop} {env0 : Env} {r : Bool} {r13 : (List ((List Int) × (List Int))) × Int} {by_5 : List Int} {r7 : Int × Int × Bool} {r9 : (List Int) × Int} {r6 : (List Int) × (List Int)} (h : ev_law01_TrainPrimes_j0 n r9 r7 r6 by_5 r13 = some r) : TC Try.prog ⟨w0, fun _ => False, R0⟩ 161 (bodyPost Try.prog Try.f8 (Post ⟨w0, fun _ => False, R0⟩ env0 (.val (.bool r)) [])) [.code (sub (bodyOf Try.f8) [1, 1, 1, 1, 1, 0, 1, 1]), .code (sub (bodyOf Try.f8) [1, 1, 1, 1, 1, 1])] ([(2, .ref 2), (7, .ptr 7 0), (8, .ptr 8 0), (10, .ref 11), (13, .val (.int .i64 r13.2))]) ([.ro 2 1 (List.map en_uint8 by_5), .blk 7 [.ref 5, .ref 6] 40, .blk 8 [.val (.int .i64 r7.1), .val (.int .i64 r7.2.1)] 26, .row 11 3 1 (List.map en_int r9.1), .row 5 3 1 (List.map en_int r6.1), .row 6 3 1 (List.map en_int r6.2)]) := by
  rw [ev_law01_TrainPrimes_j0] at h
  refine TC.skip ?_
  refine TC.seq ?_
  refine TC.seq ?_
  refine TC.region ?_
  refine op0 (sp_assign rfl rfl) rfl trivial rfl rfl ?_
  refine TL.nil ?_
  refine TC.block ?_
  refine TC.loop ?_
  refine TC.seq ?_
  refine TC.seq ?_
  refine TC.freeze 4 rfl ?_
  refine TC.freeze 5 rfl ?_
  refine subJ [] (ok_law01_TrainPrimes_l1 _ _ h) ?_ ?_ ?_
  · exact ⟨rfl, rfl, rfl, rfl, rfl, rfl, trivial⟩
  · exact ⟨mem_at 0 rfl, mem_at 1 rfl, mem_at 2 rfl, mem_at 3 rfl, mem_at 4 rfl, mem_at 5 rfl, trivial⟩
  · rfl
def ev_law01_TrainPrimes (n : Nat) (c1 : List Int) (c2 : List Int) (want3 : Int) (want4 : Int) (by_5 : List Int) : Option Bool :=
  (ev_law01_Cutters_shop n c1 c2).bind fun r6 => chk (in64 want3) <| chk (in64 ((1 : Int) + want3)) <| chk (in64 want4) <| chk (in64 ((1 : Int) + want4)) <| (ev_law01_lowest n ((1 : Int) + want3) ((1 : Int) + want4)).bind fun r7 => (ev_law01_copied n r6.1 r6.2).bind fun r8 => (ev_train_Missing n r8.1 r8.2 r7.1 r7.2.1).bind fun r9 => (ev_law01_copied n r6.1 r6.2).bind fun r12 => (ev_train_Fewest n r12.1 r12.2 r7.1 r7.2.1).bind fun r13 => cond (r9.2 != 0) (some false) (cond (decide ((0 : Int) < (r9.1.length : Int))) (cond (r13.2 != 7) (some false) (cond ((r13.1.length : Int) != 0) (some false) (ev_law01_TrainPrimes_j0 n r9 r7 r6 by_5 r13))) (ev_law01_TrainPrimes_j0 n r9 r7 r6 by_5 r13))
set_option maxRecDepth 100000 in
set_option maxHeartbeats 2000000 in
theorem fc_law01_TrainPrimes {n : Nat} {c1 : List Int} {c2 : List Int} {want3 : Int} {want4 : Int} {by_5 : List Int} {r : Bool} (h : ev_law01_TrainPrimes n c1 c2 want3 want4 by_5 = some r) : FC Try.prog 8 [.agg [.ref 0, .ref 1], .agg [.val (.int .u16 want3), .val (.int .u16 want4)], .ref 2] [.ro 0 1 (List.map en_uint8 c1), .ro 1 1 (List.map en_uint8 c2), .ro 2 1 (List.map en_uint8 by_5)] (.val (.bool r)) [] := by
  refine introJ (nz := 161) Try.func8 rfl rfl rfl (fun w0 R0 env0 => ?_)
  rw [ev_law01_TrainPrimes] at h
  refine TC.seq ?_
  refine TC.region ?_
  refine op0 (sp_box 3 rfl rfl rfl rfl rfl) rfl trivial rfl rfl ?_
  refine op0 (sp_box 4 rfl rfl rfl rfl rfl) rfl trivial rfl rfl ?_
  refine op0 (sp_assign rfl rfl) rfl trivial rfl rfl ?_
  refine TL.nil ?_
  refine TC.seq ?_
  refine TC.region ?_
  refine op1 1 rfl (sp_loadBA rfl isBlk rfl vt64 rfl rfl) rfl trivial rfl rfl ?_
  obtain ⟨r6, h1, h⟩ := bind_inv h
  refine opN (need := [.ro 0 1 (List.map en_uint8 c1), .ro 1 1 (List.map en_uint8 c2)]) [2, 3] ⟨rfl, rfl, trivial⟩ (sp_call (avs := [.agg [.ref 0, .ref 1]]) (need := [.ro 0 1 (List.map en_uint8 c1), .ro 1 1 (List.map en_uint8 c2)]) (v := .agg [.ref 5, .ref 6]) (news := [.row 5 3 1 (List.map en_int r6.1), .row 6 3 1 (List.map en_int r6.2)]) rfl rfl rfl Try.call34 (atJ [] [(0, 5), (1, 6)] (fc_law01_Cutters_shop h1) rfl rfl) (.inl (roAll rfl))) rfl trivial rfl rfl ?_
  refine op0 (sp_alloc 7 rfl Try.zeroValue40 rfl) rfl trivial rfl rfl ?_
  refine stoB 0 (cells' := [.ref 5, .ref 6]) rfl rfl trivial rfl rfl rfl rfl vt40 rfl rfl rfl ?_
  refine TL.nil ?_
  refine TC.seq ?_
  refine TC.region ?_
  refine op1 3 rfl (sp_indexA (len := 2) (iv := 0) rfl isBlk rfl rfl Try.underlying73 vt72 (by decide)) rfl trivial rfl rfl ?_
  refine op1 3 rfl (sp_loadB rfl isBlk rfl vt72 rfl) rfl trivial rfl rfl ?_
  obtain ⟨h2, h⟩ := chk_inv h
  refine op0 (sp_conv rfl Try.underlying72 Try.underlying3 rfl h2) rfl trivial rfl rfl ?_
  obtain ⟨h3, h⟩ := chk_inv h
  refine op0 (sp_add rfl rfl rfl h3) rfl trivial rfl rfl ?_
  refine op1 3 rfl (sp_indexA (len := 2) (iv := 1) rfl isBlk rfl rfl Try.underlying73 vt72 (by decide)) rfl trivial rfl rfl ?_
  refine op1 3 rfl (sp_loadB rfl isBlk rfl vt72 rfl) rfl trivial rfl rfl ?_
  obtain ⟨h4, h⟩ := chk_inv h
  refine op0 (sp_conv rfl Try.underlying72 Try.underlying3 rfl h4) rfl trivial rfl rfl ?_
  obtain ⟨h5, h⟩ := chk_inv h
  refine op0 (sp_add rfl rfl rfl h5) rfl trivial rfl rfl ?_
  obtain ⟨r7, h6, h⟩ := bind_inv h
  refine op0 (sp_call (avs := [.val (.int .i64 ((1 : Int) + want3)), .val (.int .i64 ((1 : Int) + want4))]) (need := []) (v := .tup [.agg [.val (.int .i64 r7.1), .val (.int .i64 r7.2.1)], .val (.bool r7.2.2)]) (news := []) rfl rfl rfl Try.call36 (atJ [] [] (fc_law01_lowest h6) rfl rfl) (.inl (roAll rfl))) rfl trivial rfl rfl ?_
  refine op0 (sp_move rfl rfl) rfl trivial rfl rfl ?_
  refine op0 (sp_extract rfl rfl rfl) rfl trivial rfl rfl ?_
  refine op0 (sp_extract rfl rfl rfl) rfl trivial rfl rfl ?_
  refine op0 (sp_alloc 8 rfl Try.zeroValue26 rfl) rfl trivial rfl rfl ?_
  refine stoB 0 (cells' := [.val (.int .i64 r7.1), .val (.int .i64 r7.2.1)]) rfl rfl trivial rfl rfl rfl rfl vt26 rfl rfl rfl ?_
  refine op0 (sp_assign rfl rfl) rfl trivial rfl rfl ?_
  refine TL.nil ?_
  refine TC.seq ?_
  obtain ⟨r8, h7, h⟩ := bind_inv h
  obtain ⟨r9, h8, h⟩ := bind_inv h
  refine drawJ 8 [⟨.agg [.ref 5, .ref 6], [], [.blk 7 [.ref 5, .ref 6] 40], []⟩, ⟨.agg [.ref 9, .ref 10], [.row 9 3 1 (List.map en_int r8.1), .row 10 3 1 (List.map en_int r8.2)], [.row 5 3 1 (List.map en_int r6.1), .row 6 3 1 (List.map en_int r6.2)], []⟩, ⟨.agg [.val (.int .i64 r7.1), .val (.int .i64 r7.2.1)], [], [.blk 8 [.val (.int .i64 r7.1), .val (.int .i64 r7.2.1)] 26], []⟩, ⟨.tup [.ref 11, .val (.int .i64 r9.2)], [.row 11 3 1 (List.map en_int r9.1)], [.row 9 3 1 (List.map en_int r8.1), .row 10 3 1 (List.map en_int r8.2)], []⟩, ⟨.tup [.ref 11, .val (.int .i64 r9.2)], [], [], []⟩, ⟨.ref 11, [], [], []⟩, ⟨.val (.int .i64 r9.2), [], [], []⟩, ⟨.ref 11, [], [], []⟩] rfl ?_ rfl ?_ rfl ?_ ?_
  · kernel_rfl
  · kernel_rfl
  · exact DAll.op' (sp_loadBA rfl isBlk rfl vt40 rfl rfl) trivial rfl (From.ok (ps := [(none, 1)]) ⟨⟨rfl, rfl⟩, trivial⟩) (DAll.op' (sp_call (avs := [.agg [.ref 5, .ref 6]]) (need := [.row 5 3 1 (List.map en_int r6.1), .row 6 3 1 (List.map en_int r6.2)]) (v := .agg [.ref 9, .ref 10]) (news := [.row 9 3 1 (List.map en_int r8.1), .row 10 3 1 (List.map en_int r8.2)]) rfl rfl rfl Try.call19 (atJ [(0, 5), (1, 6)] [(0, 9), (1, 10)] (fc_law01_copied h7) rfl rfl) (.inr (List.forall_mem_cons.2 ⟨indep_map en_int_flat, List.forall_mem_cons.2 ⟨indep_map en_int_flat, (by simp)⟩⟩))) trivial rfl (From.ok (ps := [(none, 2), (none, 3)]) ⟨⟨rfl, rfl⟩, ⟨rfl, rfl⟩, trivial⟩) (DAll.op' (sp_loadBA rfl isBlk rfl vt26 rfl rfl) trivial rfl (From.ok (ps := [(none, 0)]) ⟨⟨rfl, rfl⟩, trivial⟩) (DAll.op' (sp_call (avs := [.agg [.ref 9, .ref 10], .agg [.val (.int .i64 r7.1), .val (.int .i64 r7.2.1)]]) (need := [.row 9 3 1 (List.map en_int r8.1), .row 10 3 1 (List.map en_int r8.2)]) (v := .tup [.ref 11, .val (.int .i64 r9.2)]) (news := [.row 11 3 1 (List.map en_int r9.1)]) rfl rfl rfl Try.call21 (atJ [(0, 9), (1, 10)] [(0, 11)] (fc_train_Missing h8) rfl rfl) (.inr (List.forall_mem_cons.2 ⟨indep_map en_int_flat, (by simp)⟩))) trivial rfl (From.ok (ps := [(some 1, 0), (some 1, 1)]) ⟨⟨_, rfl, rfl, rfl, rfl⟩, ⟨_, rfl, rfl, rfl, rfl⟩, trivial⟩) (DAll.op' (sp_move rfl rfl) trivial rfl (From.ok (ps := []) trivial) (DAll.op' (sp_extract rfl rfl rfl) trivial rfl (From.ok (ps := []) trivial) (DAll.op' (sp_extract rfl rfl rfl) trivial rfl (From.ok (ps := []) trivial) (DAll.op' (sp_assign rfl rfl) trivial rfl (From.ok (ps := []) trivial) (.nil))))))))
  refine op0 (sp_assign rfl rfl) rfl trivial rfl rfl ?_
  refine TL.nil ?_
  refine TC.seq ?_
  obtain ⟨r12, h11, h⟩ := bind_inv h
  obtain ⟨r13, h12, h⟩ := bind_inv h
  refine drawJ 8 [⟨.agg [.ref 5, .ref 6], [], [.blk 7 [.ref 5, .ref 6] 40], []⟩, ⟨.agg [.ref 16, .ref 17], [.ro 16 1 (List.map en_int r12.1), .ro 17 1 (List.map en_int r12.2)], [.row 5 3 1 (List.map en_int r6.1), .row 6 3 1 (List.map en_int r6.2)], []⟩, ⟨.agg [.val (.int .i64 r7.1), .val (.int .i64 r7.2.1)], [], [.blk 8 [.val (.int .i64 r7.1), .val (.int .i64 r7.2.1)] 26], []⟩, ⟨.tup [.ref 18, .val (.int .i64 r13.2)], [.row 18 57 2 (List.map en_api_Train r13.1)], [.ro 16 1 (List.map en_int r12.1), .ro 17 1 (List.map en_int r12.2)], []⟩, ⟨.tup [.ref 18, .val (.int .i64 r13.2)], [], [], []⟩, ⟨.ref 18, [], [], []⟩, ⟨.val (.int .i64 r13.2), [], [], []⟩, ⟨.ref 18, [], [], []⟩] rfl ?_ rfl ?_ rfl ?_ ?_
  · kernel_rfl
  · kernel_rfl
  · exact DAll.op' (sp_loadBA rfl isBlk rfl vt40 rfl rfl) trivial rfl (From.ok (ps := [(none, 4)]) ⟨⟨rfl, rfl⟩, trivial⟩) (DAll.op' (OpSpec.froz (news := [.ro 16 1 (List.map en_int r12.1), .row 17 3 1 (List.map en_int r12.2)]) 1 rfl (OpSpec.froz (news := [.row 16 3 1 (List.map en_int r12.1), .row 17 3 1 (List.map en_int r12.2)]) 0 rfl (sp_call (avs := [.agg [.ref 5, .ref 6]]) (need := [.row 5 3 1 (List.map en_int r6.1), .row 6 3 1 (List.map en_int r6.2)]) (v := .agg [.ref 16, .ref 17]) (news := [.row 16 3 1 (List.map en_int r12.1), .row 17 3 1 (List.map en_int r12.2)]) rfl rfl rfl Try.call19 (atJ [(0, 5), (1, 6)] [(0, 16), (1, 17)] (fc_law01_copied h11) rfl rfl) (.inr (List.forall_mem_cons.2 ⟨indep_map en_int_flat, List.forall_mem_cons.2 ⟨indep_map en_int_flat, (by simp)⟩⟩))))) trivial rfl (From.ok (ps := [(none, 5), (none, 6)]) ⟨⟨rfl, rfl⟩, ⟨rfl, rfl⟩, trivial⟩) (DAll.op' (sp_loadBA rfl isBlk rfl vt26 rfl rfl) trivial rfl (From.ok (ps := [(none, 3)]) ⟨⟨rfl, rfl⟩, trivial⟩) (DAll.op' (sp_call (avs := [.agg [.ref 16, .ref 17], .agg [.val (.int .i64 r7.1), .val (.int .i64 r7.2.1)]]) (need := [.ro 16 1 (List.map en_int r12.1), .ro 17 1 (List.map en_int r12.2)]) (v := .tup [.ref 18, .val (.int .i64 r13.2)]) (news := [.row 18 57 2 (List.map en_api_Train r13.1)]) rfl rfl rfl Try.call29 (atJ [(0, 16), (1, 17)] [(0, 18)] (fc_train_Fewest h12) rfl rfl) (.inl (roAll rfl))) trivial rfl (From.ok (ps := [(some 1, 0), (some 1, 1)]) ⟨⟨_, rfl, rfl, rfl, rfl⟩, ⟨_, rfl, rfl, rfl, rfl⟩, trivial⟩) (DAll.op' (sp_move rfl rfl) trivial rfl (From.ok (ps := []) trivial) (DAll.op' (sp_extract rfl rfl rfl) trivial rfl (From.ok (ps := []) trivial) (DAll.op' (sp_extract rfl rfl rfl) trivial rfl (From.ok (ps := []) trivial) (DAll.op' (sp_assign rfl rfl) trivial rfl (From.ok (ps := []) trivial) (.nil))))))))
  refine op0 (sp_assign rfl rfl) rfl trivial rfl rfl ?_
  refine TL.nil ?_
  refine TC.seq ?_
  refine TC.seq ?_
  refine TC.region ?_
  refine op0 (sp_move rfl rfl) rfl trivial rfl rfl ?_
  refine op0 (sp_neq rfl rfl rfl) rfl trivial rfl rfl ?_
  refine op0 (sp_move rfl rfl) rfl trivial rfl rfl ?_
  rcases cond_cases h with ⟨h13, h⟩ | ⟨h13, h⟩
  · refine (boolLit 52 rfl h13).2 ?_
    refine opSkip rfl ⟨_, rfl, .inl rfl⟩ rfl ?_
    refine opSkip rfl ⟨_, rfl, .inl rfl⟩ rfl ?_
    refine opSkip rfl ⟨_, rfl, .inl rfl⟩ rfl ?_
    refine opSkip rfl ⟨_, rfl, .inl rfl⟩ rfl ?_
    refine opSkip rfl ⟨_, rfl, .inr rfl⟩ rfl ?_
    refine opSkip rfl ⟨_, rfl, .inr rfl⟩ rfl ?_
    refine opSkip rfl ⟨_, rfl, .inr rfl⟩ rfl ?_
    refine opSkip rfl ⟨_, rfl, .inr rfl⟩ rfl ?_
    refine opSkip rfl ⟨_, rfl, .inr rfl⟩ rfl ?_
    refine opSkip rfl ⟨_, rfl, .inr rfl⟩ rfl ?_
    refine opSkip rfl ⟨_, rfl, .inr rfl⟩ rfl ?_
    refine opSkip rfl ⟨_, rfl, .inl rfl⟩ rfl ?_
    refine op0 (sp_pickT rfl rfl rfl) rfl trivial rfl rfl ?_
    refine TL.nil ?_
    refine TC.condT rfl ?_
    refine TC.seq ?_
    refine TC.region ?_
    refine op0 (sp_assign rfl rfl) rfl trivial rfl rfl ?_
    refine TL.nil ?_
    cases h
    exact retJ [] (.tmp rfl .nil) rfl trivial rfl rfl
  · refine (boolLit 52 rfl h13).2 ?_
    refine op0 (sp_move rfl rfl) rfl ⟨_, rfl, rfl⟩ rfl rfl ?_
    refine op1 3 rfl (sp_lenM (N := r9.1.length) (len_map _ _) rfl rfl isOwn Try.underlying38) rfl ⟨_, rfl, rfl⟩ rfl rfl ?_
    refine op0 (sp_gtr rfl rfl rfl) rfl ⟨_, rfl, rfl⟩ rfl rfl ?_
    refine op0 (sp_move rfl rfl) rfl ⟨_, rfl, rfl⟩ rfl rfl ?_
    rcases cond_cases h with ⟨h14, h⟩ | ⟨h14, h⟩
    · refine (boolLit 56 rfl h14).2 ?_
      refine op0 (sp_move rfl rfl) rfl ⟨_, rfl, rfl⟩ rfl rfl ?_
      refine op0 (sp_neq rfl rfl rfl) rfl ⟨_, rfl, rfl⟩ rfl rfl ?_
      refine op0 (sp_move rfl rfl) rfl ⟨_, rfl, rfl⟩ rfl rfl ?_
      rcases cond_cases h with ⟨h15, h⟩ | ⟨h15, h⟩
      · refine (boolLit 59 rfl h15).2 ?_
        refine opSkip rfl ⟨_, rfl, .inl rfl⟩ rfl ?_
        refine opSkip rfl ⟨_, rfl, .inl rfl⟩ rfl ?_
        refine opSkip rfl ⟨_, rfl, .inl rfl⟩ rfl ?_
        refine op0 (sp_pickT rfl rfl rfl) rfl ⟨_, rfl, rfl⟩ rfl rfl ?_
        refine op0 (sp_pickT rfl rfl rfl) rfl ⟨_, rfl, rfl⟩ rfl rfl ?_
        refine op0 (sp_pickF rfl rfl rfl) rfl trivial rfl rfl ?_
        refine TL.nil ?_
        refine TC.condT rfl ?_
        refine TC.seq ?_
        refine TC.region ?_
        refine op0 (sp_assign rfl rfl) rfl trivial rfl rfl ?_
        refine TL.nil ?_
        cases h
        exact retJ [] (.tmp rfl .nil) rfl trivial rfl rfl
      · refine (boolLit 59 rfl h15).2 ?_
        refine op0 (sp_move rfl rfl) rfl ⟨_, rfl, rfl⟩ rfl rfl ?_
        refine op1 0 rfl (sp_lenM (N := r13.1.length) (len_map _ _) rfl rfl isOwn Try.underlying52) rfl ⟨_, rfl, rfl⟩ rfl rfl ?_
        refine op0 (sp_neq rfl rfl rfl) rfl ⟨_, rfl, rfl⟩ rfl rfl ?_
        refine op0 (sp_pickF rfl rfl rfl) rfl ⟨_, rfl, rfl⟩ rfl rfl ?_
        refine op0 (sp_pickT rfl rfl rfl) rfl ⟨_, rfl, rfl⟩ rfl rfl ?_
        refine op0 (sp_pickF rfl rfl rfl) rfl trivial rfl rfl ?_
        refine TL.nil ?_
        refine TC.cond (b := ((r13.1.length : Int) != 0)) rfl (fun h16 => ?_) (fun h16 => ?_)
        · have h := cond_t h h16
          refine TC.seq ?_
          refine TC.region ?_
          refine op0 (sp_assign rfl rfl) rfl trivial rfl rfl ?_
          refine TL.nil ?_
          cases h
          exact retJ [] (.tmp rfl .nil) rfl trivial rfl rfl
        · have h := cond_f h h16
          refine subJ [] (ok_law01_TrainPrimes_j0 h) ?_ ?_ ?_
          · exact ⟨rfl, rfl, rfl, rfl, rfl, trivial⟩
          · exact ⟨mem_at 14 rfl, mem_at 7 rfl, mem_at 6 rfl, mem_at 3 rfl, mem_at 8 rfl, mem_at 9 rfl, trivial⟩
          · rfl
    · refine (boolLit 56 rfl h14).2 ?_
      refine opSkip rfl ⟨_, rfl, .inl rfl⟩ rfl ?_
      refine opSkip rfl ⟨_, rfl, .inl rfl⟩ rfl ?_
      refine opSkip rfl ⟨_, rfl, .inl rfl⟩ rfl ?_
      refine opSkip rfl ⟨_, rfl, .inr rfl⟩ rfl ?_
      refine opSkip rfl ⟨_, rfl, .inr rfl⟩ rfl ?_
      refine opSkip rfl ⟨_, rfl, .inr rfl⟩ rfl ?_
      refine opSkip rfl ⟨_, rfl, .inl rfl⟩ rfl ?_
      refine op0 (sp_pickF rfl rfl rfl) rfl ⟨_, rfl, rfl⟩ rfl rfl ?_
      refine op0 (sp_pickF rfl rfl rfl) rfl trivial rfl rfl ?_
      refine TL.nil ?_
      refine TC.condF rfl ?_
      refine subJ [] (ok_law01_TrainPrimes_j0 h) ?_ ?_ ?_
      · exact ⟨rfl, rfl, rfl, rfl, rfl, trivial⟩
      · exact ⟨mem_at 14 rfl, mem_at 7 rfl, mem_at 6 rfl, mem_at 3 rfl, mem_at 8 rfl, mem_at 9 rfl, trivial⟩
      · rfl
end
end Go.Proofs.Ytabjhlfgcmmbfaa.Sy
