/- What functions of the program compute, and that they do: printed by symgen.py. -/
import Derived.Test.YtohjpfkcahlfkaaPlGLib
import Derived.Test.YtohjpfkcahlfkaaPlGturretlaw11
import Derived.Test.YtohjpfkcahlfkaaPlGRound
set_option linter.unusedSimpArgs false
set_option linter.unusedVariables false
namespace Go.Proofs.Ytohjpfkcahlfkaa.Sy
open Go.RowKit
noncomputable section
set_option maxRecDepth 100000
set_option maxHeartbeats 2000000
def ev_law11_RoundLaw_j1 (n : Nat) (i14 : Int) (k_law11_RoundLaw_l0 : Int → Int → Int → (List Int) → (List Int) → (List Int) → (List Int) → (List Int) → (List (Int × Int × Int × Int × Int)) → (List ((List Int))) → (List (Int × Int × Int × Int)) → Option Bool) (i27 : Int) (i28 : Int) (l29 : List Int) (l30 : List Int) (l31 : List Int) (l32 : List Int) (l33 : List Int) (l34 : List (Int × Int × Int × Int × Int)) (l35 : List ((List Int))) (l36 : List (Int × Int × Int × Int)) : Option Bool :=
  cond (decide (i14 < (l29.length : Int))) ((ev_law11_byteOf n l33 9).bind fun r37 => chk (in64 (i14 + r37)) <| chk ((l29.length : Int) != 0) <| idx l29 (Int.tmod (i14 + r37) (l29.length : Int)) fun x38 => chk (room 8 (l31.length + ([x38] : List Int).length)) <| chk (in64 (i14 + 1)) <| k_law11_RoundLaw_l0 (i14 + 1) i27 i28 l29 l30 (l31 ++ ([x38] : List Int)) l32 l33 l34 l35 l36) (chk (in64 (i14 + 1)) <| k_law11_RoundLaw_l0 (i14 + 1) i27 i28 l29 l30 l31 l32 l33 l34 l35 l36)
theorem ok_law11_RoundLaw_j1 {n : Nat} {w0 : World} {R0 : Nat → Prop} {env0 : Env} {r : Bool} {who6 : Int} {r9 : (List (Int × Int × Int × Int × Int)) × (List ((List Int))) × (List (Int × Int × Int × Int)) × Int × Int} {r13 : (List Int) × Int × Int} {i14 : Int} {k_law11_RoundLaw_l0 : Int → Int → Int → (List Int) → (List Int) → (List Int) → (List Int) → (List Int) → (List (Int × Int × Int × Int × Int)) → (List ((List Int))) → (List (Int × Int × Int × Int)) → Option Bool} {i27 : Int} {i28 : Int} {l29 : List Int} {l30 : List Int} {l31 : List Int} {l32 : List Int} {l33 : List Int} {l34 : List (Int × Int × Int × Int × Int)} {l35 : List ((List Int))} {l36 : List (Int × Int × Int × Int)} (hk_law11_RoundLaw_l0 : ∀ (i14 : Int) (i15 : Int) (i17 : Int) (l18 : List Int) (l19 : List Int) (l20 : List Int) (l21 : List Int) (l22 : List Int) (l23 : List (Int × Int × Int × Int × Int)) (l24 : List ((List Int))) (l25 : List (Int × Int × Int × Int)), k_law11_RoundLaw_l0 i14 i15 i17 l18 l19 l20 l21 l22 l23 l24 l25 = some r → TC Try.prog ⟨w0, fun _ => False, R0⟩ 200 (bodyPost Try.prog Try.f4 (Post ⟨w0, fun _ => False, R0⟩ env0 (.val (.bool r)) [])) [.code (sub (bodyOf Try.f4) [1, 1, 1, 1, 1, 0, 1, 0, 0, 0, 0]), .code (sub (bodyOf Try.f4) [1, 1, 1, 1, 1, 0, 1, 0, 0, 0, 1]), .code (sub (bodyOf Try.f4) [1, 1, 1, 1, 1, 0, 1, 0, 0, 1]), .inLoop (sub (bodyOf Try.f4) [1, 1, 1, 1, 1, 0, 1, 0, 0]), .inBlock 0, .code (sub (bodyOf Try.f4) [1, 1, 1, 1, 1, 1])] ([(5, .ptr 6 0), (7, .ptr 10 0), (8, vi (Int.tmod who6 (r9.2.2.1.length : Int))), (9, .ref 11), (10, .ref 16), (11, vi r13.2.1), (12, vi r13.2.2), (13, .ref 17), (14, vi i14)]) ([.blk 6 [.ref 3, .ref 4] 55, .blk 10 [.ref 7, .ref 8, .ref 9, vi i15, vi i17] 26, .row 11 3 1 (List.map en_int l18), .ro 16 1 (List.map en_int l19), .row 17 3 1 (List.map en_int l20), .ro 3 1 (List.map en_uint8 l21), .ro 4 1 (List.map en_uint8 l22), .ro 7 5 (List.map en_api_RoundTower l23), .ro 8 1 (List.map en_Lint l24), .ro 9 4 (List.map en_api_RoundWinder l25)])) (h : ev_law11_RoundLaw_j1 n i14 k_law11_RoundLaw_l0 i27 i28 l29 l30 l31 l32 l33 l34 l35 l36 = some r) : TC Try.prog ⟨w0, fun _ => False, R0⟩ 200 (bodyPost Try.prog Try.f4 (Post ⟨w0, fun _ => False, R0⟩ env0 (.val (.bool r)) [])) [.code (sub (bodyOf Try.f4) [1, 1, 1, 1, 1, 0, 1, 0, 0, 1, 0, 0, 1, 0]), .code (sub (bodyOf Try.f4) [1, 1, 1, 1, 1, 0, 1, 0, 0, 1, 0, 0, 1, 1]), .inBlock 1, .code (sub (bodyOf Try.f4) [1, 1, 1, 1, 1, 0, 1, 0, 0, 1, 1]), .inLoop (sub (bodyOf Try.f4) [1, 1, 1, 1, 1, 0, 1, 0, 0]), .inBlock 0, .code (sub (bodyOf Try.f4) [1, 1, 1, 1, 1, 1])] ([(5, .ptr 6 0), (7, .ptr 10 0), (8, vi (Int.tmod who6 (r9.2.2.1.length : Int))), (9, .ref 11), (10, .ref 16), (11, vi r13.2.1), (12, vi r13.2.2), (13, .ref 19), (14, vi i14)]) ([.blk 6 [.ref 3, .ref 4] 55, .blk 10 [.ref 7, .ref 8, .ref 9, vi i27, vi i28] 26, .row 11 3 1 (List.map en_int l29), .ro 16 1 (List.map en_int l30), .row 19 3 1 (List.map en_int l31), .ro 3 1 (List.map en_uint8 l32), .ro 4 1 (List.map en_uint8 l33), .ro 7 5 (List.map en_api_RoundTower l34), .ro 8 1 (List.map en_Lint l35), .ro 9 4 (List.map en_api_RoundWinder l36)]) := by
  rw [ev_law11_RoundLaw_j1] at h
  refine TC.region ?_
  refine op0 (sp_move rfl rfl) rfl trivial rfl rfl ?_
  refine op0 (sp_move rfl rfl) rfl trivial rfl rfl ?_
  refine op1 2 rfl (sp_lenM (N := l29.length) (len_map _ _) rfl rfl isOwn Try.underlying30) rfl trivial rfl rfl ?_
  refine op0 (sp_lss rfl rfl rfl) rfl trivial rfl rfl ?_
  refine TL.nil ?_
  refine TC.cond (b := (decide (i14 < (l29.length : Int)))) rfl (fun h12 => ?_) (fun h12 => ?_)
  · have h := cond_t h h12
    refine TC.region ?_
    refine op0 (sp_move rfl rfl) rfl trivial rfl rfl ?_
    refine op0 (sp_move rfl rfl) rfl trivial rfl rfl ?_
    refine op0 (sp_move rfl rfl) rfl trivial rfl rfl ?_
    refine op1 0 rfl (sp_indexA (len := 2) (iv := 1) rfl isBlk rfl rfl Try.underlying55 vt51 (by decide)) rfl trivial rfl rfl ?_
    refine op1 0 rfl (sp_loadB rfl isBlk rfl vt51 rfl) rfl trivial rfl rfl ?_
    obtain ⟨r37, h13, h⟩ := bind_inv h
    refine op1 6 rfl (sp_call (avs := [.ref 4, vi 9]) (need := [.ro 4 1 (List.map en_uint8 l33)]) (v := vi r37) (news := []) rfl rfl rfl Try.call23 (atJ [(0, 4)] [] (fc_law11_byteOf h13) rfl rfl) (.inl (roAll rfl))) rfl trivial rfl rfl ?_
    obtain ⟨h14, h⟩ := chk_inv h
    refine op0 (sp_add rfl rfl rfl h14) rfl trivial rfl rfl ?_
    refine op0 (sp_move rfl rfl) rfl trivial rfl rfl ?_
    refine op1 2 rfl (sp_lenM (N := l29.length) (len_map _ _) rfl rfl isOwn Try.underlying30) rfl trivial rfl rfl ?_
    obtain ⟨h15, h⟩ := chk_inv h
    refine op0 (sp_rem rfl rfl rfl h15) rfl trivial rfl rfl ?_
    obtain ⟨x38, h16, h17, h⟩ := idx_inv h
    refine op1 2 rfl (sp_indexS rfl rfl rfl isOwn sl30 h16 (map_get _ h17)) rfl trivial rfl rfl ?_
    refine op1 2 rfl (sp_loadR (i := ((Int.tmod (i14 + r37) (l29.length : Int)) : Int).toNat) (j := 0) rfl rfl isOwn vt3 rfl (map_get _ h17) rfl (.v (.nil)) (nodup_of_B rfl)) rfl trivial rfl rfl ?_
    refine op0 (sp_buildSlice (qs := [vi x38]) (need := []) (els := List.map en_int ([x38] : List Int)) 20 rfl sl30 (by decide) (by decide) rfl rfl rfl (.v (.nil)) (map_len fun _ => rfl) rfl rfl rfl) rfl trivial rfl rfl ?_
    obtain ⟨h18, h⟩ := chk_inv h
    refine appM 5 0 (N := l31.length) (N2 := ([x38] : List Int).length) 21 rfl rfl trivial rfl rfl rfl rfl rfl isOwn rfl sl30 (len_map _ _) (len_map _ _) h18 (map_app _ _ _) rfl ?_
    refine op0 (sp_assign rfl rfl) rfl trivial rfl rfl ?_
    refine TL.nil ?_
    refine TC.inBlock ?_
    refine TC.region ?_
    refine op0 (sp_move rfl rfl) rfl trivial rfl rfl ?_
    obtain ⟨h19, h⟩ := chk_inv h
    refine op0 (sp_add rfl rfl rfl h19) rfl trivial rfl rfl ?_
    refine op0 (sp_assign rfl rfl) rfl trivial rfl rfl ?_
    refine TL.nil ?_
    refine TC.inLoop ?_
    refine TC.seq ?_
    refine TC.seq ?_
    refine subJ [(17, 21)] (hk_law11_RoundLaw_l0 _ _ _ _ _ _ _ _ _ _ _ h) ?_ ?_ ?_
    · exact ⟨rfl, rfl, rfl, rfl, rfl, rfl, rfl, rfl, rfl, trivial⟩
    · exact ⟨mem_at 2 rfl, mem_at 3 rfl, mem_at 4 rfl, mem_at 5 rfl, mem_at 0 rfl, mem_at 6 rfl, mem_at 7 rfl, mem_at 8 rfl, mem_at 9 rfl, mem_at 10 rfl, trivial⟩
    · rfl
  · have h := cond_f h h12
    refine TC.skip ?_
    refine TC.inBlock ?_
    refine TC.region ?_
    refine op0 (sp_move rfl rfl) rfl trivial rfl rfl ?_
    obtain ⟨h20, h⟩ := chk_inv h
    refine op0 (sp_add rfl rfl rfl h20) rfl trivial rfl rfl ?_
    refine op0 (sp_assign rfl rfl) rfl trivial rfl rfl ?_
    refine TL.nil ?_
    refine TC.inLoop ?_
    refine TC.seq ?_
    refine TC.seq ?_
    refine subJ [(17, 19)] (hk_law11_RoundLaw_l0 _ _ _ _ _ _ _ _ _ _ _ h) ?_ ?_ ?_
    · exact ⟨rfl, rfl, rfl, rfl, rfl, rfl, rfl, rfl, rfl, trivial⟩
    · exact ⟨mem_at 0 rfl, mem_at 1 rfl, mem_at 2 rfl, mem_at 3 rfl, mem_at 4 rfl, mem_at 5 rfl, mem_at 6 rfl, mem_at 7 rfl, mem_at 8 rfl, mem_at 9 rfl, trivial⟩
    · rfl
def ev_law11_RoundLaw_l5 (n : Nat) (l47 : List Int) (l49 : List Bool) (i45 : Int) : Nat → Int → Option Bool
  | 0, _ => none
  | m + 1, i52 => cond (decide (i52 < (l47.length : Int))) (idx l47 i52 fun x53 => chk (decide (0 ≤ x53) && decide (x53 < 8)) <| idx l49 x53 fun x54 => cond (!x54) (some false) (chk (in64 (i52 + 1)) <| ev_law11_RoundLaw_l5 n l47 l49 i45 m (i52 + 1))) (cond (i45 == (l47.length : Int)) ((ev_law11_known n).bind fun r55 => some r55) (some false))
theorem ok_law11_RoundLaw_l5 {n : Nat} {w0 : World} {R0 : Nat → Prop} {env0 : Env} {r : Bool} {i45 : Int} {l47 : List Int} {l49 : List Bool} : ∀ (m : Nat) (i52 : Int), ev_law11_RoundLaw_l5 n l47 l49 i45 m i52 = some r → TC Try.prog ⟨w0, fun _ => False, R0⟩ 200 (bodyPost Try.prog Try.f4 (Post ⟨w0, fun _ => False, R0⟩ env0 (.val (.bool r)) [])) [.code (sub (bodyOf Try.f4) [1, 1, 1, 1, 1, 1, 1, 1, 1, 1, 1, 1, 1, 0, 1, 0, 0, 0, 0]), .code (sub (bodyOf Try.f4) [1, 1, 1, 1, 1, 1, 1, 1, 1, 1, 1, 1, 1, 0, 1, 0, 0, 0, 1]), .code (sub (bodyOf Try.f4) [1, 1, 1, 1, 1, 1, 1, 1, 1, 1, 1, 1, 1, 0, 1, 0, 0, 1]), .inLoop (sub (bodyOf Try.f4) [1, 1, 1, 1, 1, 1, 1, 1, 1, 1, 1, 1, 1, 0, 1, 0, 0]), .inBlock 4, .code (sub (bodyOf Try.f4) [1, 1, 1, 1, 1, 1, 1, 1, 1, 1, 1, 1, 1, 1])] ([(9, .ref 11), (21, .ptr 29 0), (22, vi i45), (24, vi i52)]) ([.row 11 3 1 (List.map en_int l47), .inv 29 (arrI 66 vx_bool l49)]) := by
  intro m
  induction m with
  | zero => intro i52 h; exact none_no h
  | succ m ih =>
    intro i52 h
    rw [ev_law11_RoundLaw_l5] at h
    refine TC.region ?_
    refine op0 (sp_move rfl rfl) rfl trivial rfl rfl ?_
    refine op0 (sp_move rfl rfl) rfl trivial rfl rfl ?_
    refine op1 0 rfl (sp_lenM (N := l47.length) (len_map _ _) rfl rfl isOwn Try.underlying30) rfl trivial rfl rfl ?_
    refine op0 (sp_lss rfl rfl rfl) rfl trivial rfl rfl ?_
    refine TL.nil ?_
    refine TC.cond (b := (decide (i52 < (l47.length : Int)))) rfl (fun h52 => ?_) (fun h52 => ?_)
    · have h := cond_t h h52
      refine TC.skip ?_
      refine TC.seq ?_
      refine TC.block ?_
      refine TC.seq ?_
      refine TC.region ?_
      refine op0 (sp_move rfl rfl) rfl trivial rfl rfl ?_
      refine op0 (sp_move rfl rfl) rfl trivial rfl rfl ?_
      obtain ⟨x53, h53, h54, h⟩ := idx_inv h
      refine op1 0 rfl (sp_indexS rfl rfl rfl isOwn sl30 h53 (map_get _ h54)) rfl trivial rfl rfl ?_
      refine op1 0 rfl (sp_loadR (i := (i52 : Int).toNat) (j := 0) rfl rfl isOwn vt3 rfl (map_get _ h54) rfl (.v (.nil)) (nodup_of_B rfl)) rfl trivial rfl rfl ?_
      obtain ⟨h55, h⟩ := chk_inv h
      obtain ⟨x54, h56, h57, h⟩ := idx_inv h
      refine op1 1 rfl (sp_indexX (len := 8) rfl isArrO rfl rfl Try.underlying66 vt4 h55) rfl trivial rfl rfl ?_
      refine op1 1 rfl (sp_loadX (i := (x53 : Int).toNat) (j := 0) rfl isArrO rfl vt4 (fun _ => rfl) rfl h57 rfl) rfl trivial rfl rfl ?_
      refine op0 (sp_not rfl rfl) rfl trivial rfl rfl ?_
      refine TL.nil ?_
      refine TC.cond (b := (!x54)) rfl (fun h58 => ?_) (fun h58 => ?_)
      · have h := cond_t h h58
        refine TC.seq ?_
        refine TC.region ?_
        refine op0 (sp_assign rfl rfl) rfl trivial rfl rfl ?_
        refine TL.nil ?_
        cases h
        exact retJ [] (.tmp rfl .nil) rfl trivial rfl rfl
      · have h := cond_f h h58
        refine TC.skip ?_
        refine TC.inBlock ?_
        refine TC.region ?_
        refine op0 (sp_move rfl rfl) rfl trivial rfl rfl ?_
        obtain ⟨h59, h⟩ := chk_inv h
        refine op0 (sp_add rfl rfl rfl h59) rfl trivial rfl rfl ?_
        refine op0 (sp_assign rfl rfl) rfl trivial rfl rfl ?_
        refine TL.nil ?_
        refine TC.inLoop ?_
        refine TC.seq ?_
        refine TC.seq ?_
        refine subJ [] (ih _ h) ?_ ?_ ?_
        · exact ⟨rfl, rfl, rfl, rfl, trivial⟩
        · exact ⟨mem_at 0 rfl, mem_at 1 rfl, trivial⟩
        · rfl
    · have h := cond_f h h52
      refine TC.exit rfl ?_
      refine TC.seq ?_
      refine TC.region ?_
      refine op0 (sp_move rfl rfl) rfl trivial rfl rfl ?_
      refine op0 (sp_move rfl rfl) rfl trivial rfl rfl ?_
      refine op1 0 rfl (sp_lenM (N := l47.length) (len_map _ _) rfl rfl isOwn Try.underlying30) rfl trivial rfl rfl ?_
      refine op0 (sp_eql rfl rfl rfl) rfl trivial rfl rfl ?_
      refine op0 (sp_move rfl rfl) rfl trivial rfl rfl ?_
      rcases cond_cases h with ⟨h60, h⟩ | ⟨h60, h⟩
      · refine (boolLit 197 rfl h60).2 ?_
        obtain ⟨r55, h61, h⟩ := bind_inv h
        refine op0 (sp_call (avs := []) (need := []) (v := .val (.bool r55)) (news := []) rfl rfl rfl Try.call9 (atJ [] [] (fc_law11_known h61) rfl rfl) (.inl (roAll rfl))) rfl ⟨_, rfl, rfl⟩ rfl rfl ?_
        refine op0 (sp_pickT rfl rfl rfl) rfl trivial rfl rfl ?_
        refine op0 (sp_assign rfl rfl) rfl trivial rfl rfl ?_
        refine TL.nil ?_
        cases h
        exact retJ [] (.tmp rfl .nil) rfl trivial rfl rfl
      · refine (boolLit 197 rfl h60).2 ?_
        refine opSkip rfl ⟨_, rfl, .inl rfl⟩ rfl ?_
        refine op0 (sp_pickF rfl rfl rfl) rfl trivial rfl rfl ?_
        refine op0 (sp_assign rfl rfl) rfl trivial rfl rfl ?_
        refine TL.nil ?_
        cases h
        exact retJ [] (.tmp rfl .nil) rfl trivial rfl rfl
def ev_law11_RoundLaw_l4 (n : Nat) : Nat → Int → Int → (List Int) → (List Int) → (List Bool) → Option Bool
  | 0, _, _, _, _, _ => none
  | m + 1, i45, i46, l47, l48, l49 => cond (decide (i46 < (l48.length : Int))) (idx l48 i46 fun x50 => cond (decide ((0 : Int) ≤ x50)) (cond (decide (x50 < 8)) (chk (in64 (i45 + 1)) <| chk (decide (0 ≤ x50) && decide (x50 < 8)) <| idx l49 x50 fun x51 => chk (in64 (i46 + 1)) <| ev_law11_RoundLaw_l4 n m (i45 + 1) (i46 + 1) l47 l48 (List.set l49 ((x50 : Int).toNat) true)) (chk (in64 (i46 + 1)) <| ev_law11_RoundLaw_l4 n m i45 (i46 + 1) l47 l48 l49)) (chk (in64 (i46 + 1)) <| ev_law11_RoundLaw_l4 n m i45 (i46 + 1) l47 l48 l49)) (ev_law11_RoundLaw_l5 n l47 l49 i45 n 0)
theorem ok_law11_RoundLaw_l4 {n : Nat} {w0 : World} {R0 : Nat → Prop} {env0 : Env} {r : Bool} : ∀ (m : Nat) (i45 : Int) (i46 : Int) (l47 : List Int) (l48 : List Int) (l49 : List Bool), ev_law11_RoundLaw_l4 n m i45 i46 l47 l48 l49 = some r → TC Try.prog ⟨w0, fun _ => False, R0⟩ 200 (bodyPost Try.prog Try.f4 (Post ⟨w0, fun _ => False, R0⟩ env0 (.val (.bool r)) [])) [.code (sub (bodyOf Try.f4) [1, 1, 1, 1, 1, 1, 1, 1, 1, 1, 1, 1, 0, 1, 0, 0, 0, 0]), .code (sub (bodyOf Try.f4) [1, 1, 1, 1, 1, 1, 1, 1, 1, 1, 1, 1, 0, 1, 0, 0, 0, 1]), .code (sub (bodyOf Try.f4) [1, 1, 1, 1, 1, 1, 1, 1, 1, 1, 1, 1, 0, 1, 0, 0, 1]), .inLoop (sub (bodyOf Try.f4) [1, 1, 1, 1, 1, 1, 1, 1, 1, 1, 1, 1, 0, 1, 0, 0]), .inBlock 2, .code (sub (bodyOf Try.f4) [1, 1, 1, 1, 1, 1, 1, 1, 1, 1, 1, 1, 1])] ([(9, .ref 11), (10, .ref 16), (21, .ptr 29 0), (22, vi i45), (23, vi i46)]) ([.row 11 3 1 (List.map en_int l47), .ro 16 1 (List.map en_int l48), .inv 29 (arrI 66 vx_bool l49)]) := by
  intro m
  induction m with
  | zero => intro i45 i46 l47 l48 l49 h; exact none_no h
  | succ m ih =>
    intro i45 i46 l47 l48 l49 h
    rw [ev_law11_RoundLaw_l4] at h
    refine TC.region ?_
    refine op0 (sp_move rfl rfl) rfl trivial rfl rfl ?_
    refine op0 (sp_move rfl rfl) rfl trivial rfl rfl ?_
    refine op1 1 rfl (sp_lenM (N := l48.length) (len_map _ _) rfl rfl isRo Try.underlying30) rfl trivial rfl rfl ?_
    refine op0 (sp_lss rfl rfl rfl) rfl trivial rfl rfl ?_
    refine TL.nil ?_
    refine TC.cond (b := (decide (i46 < (l48.length : Int)))) rfl (fun h40 => ?_) (fun h40 => ?_)
    · have h := cond_t h h40
      refine TC.skip ?_
      refine TC.seq ?_
      refine TC.block ?_
      refine TC.seq ?_
      refine TC.region ?_
      refine op0 (sp_move rfl rfl) rfl trivial rfl rfl ?_
      refine op0 (sp_move rfl rfl) rfl trivial rfl rfl ?_
      obtain ⟨x50, h41, h42, h⟩ := idx_inv h
      refine op1 1 rfl (sp_indexS rfl rfl rfl isRo sl30 h41 (map_get _ h42)) rfl trivial rfl rfl ?_
      refine op1 1 rfl (sp_loadR (i := (i46 : Int).toNat) (j := 0) rfl rfl isRo vt3 rfl (map_get _ h42) rfl (.v (.nil)) (nodup_of_B rfl)) rfl trivial rfl rfl ?_
      refine op0 (sp_geq rfl rfl rfl) rfl trivial rfl rfl ?_
      refine op0 (sp_move rfl rfl) rfl trivial rfl rfl ?_
      rcases cond_cases h with ⟨h43, h⟩ | ⟨h43, h⟩
      · refine (boolLit 166 rfl h43).2 ?_
        refine op0 (sp_move rfl rfl) rfl ⟨_, rfl, rfl⟩ rfl rfl ?_
        refine op0 (sp_move rfl rfl) rfl ⟨_, rfl, rfl⟩ rfl rfl ?_
        refine op1 1 rfl (sp_indexS rfl rfl rfl isRo sl30 h41 (map_get _ h42)) rfl ⟨_, rfl, rfl⟩ rfl rfl ?_
        refine op1 1 rfl (sp_loadR (i := (i46 : Int).toNat) (j := 0) rfl rfl isRo vt3 rfl (map_get _ h42) rfl (.v (.nil)) (nodup_of_B rfl)) rfl ⟨_, rfl, rfl⟩ rfl rfl ?_
        refine op0 (sp_lss rfl rfl rfl) rfl ⟨_, rfl, rfl⟩ rfl rfl ?_
        refine op0 (sp_pickT rfl rfl rfl) rfl trivial rfl rfl ?_
        refine TL.nil ?_
        refine TC.cond (b := (decide (x50 < 8))) rfl (fun h44 => ?_) (fun h44 => ?_)
        · have h := cond_t h h44
          refine TC.region ?_
          refine op0 (sp_move rfl rfl) rfl trivial rfl rfl ?_
          refine op0 (sp_move rfl rfl) rfl trivial rfl rfl ?_
          refine op1 1 rfl (sp_indexS rfl rfl rfl isRo sl30 h41 (map_get _ h42)) rfl trivial rfl rfl ?_
          refine op1 1 rfl (sp_loadR (i := (i46 : Int).toNat) (j := 0) rfl rfl isRo vt3 rfl (map_get _ h42) rfl (.v (.nil)) (nodup_of_B rfl)) rfl trivial rfl rfl ?_
          refine op0 (sp_move rfl rfl) rfl trivial rfl rfl ?_
          obtain ⟨h45, h⟩ := chk_inv h
          refine op0 (sp_add rfl rfl rfl h45) rfl trivial rfl rfl ?_
          obtain ⟨h46, h⟩ := chk_inv h
          obtain ⟨x51, h47, h48, h⟩ := idx_inv h
          refine op1 2 rfl (sp_indexX (len := 8) rfl isArrO rfl rfl Try.underlying66 vt4 h46) rfl trivial rfl rfl ?_
          refine opT (take := [.inv 29 (arrI 66 vx_bool l49)]) (need := []) (V' := [.inv 29 (arrI 66 vx_bool (List.set l49 ((x50 : Int).toNat) true)), .row 11 3 1 (List.map en_int l47), .ro 16 1 (List.map en_int l48)]) [2] [] (ts_storeX (i := (x50 : Int).toNat) (j := 0) (z' := true) (vs := [.bool true]) rfl rfl rfl rfl rfl vt4 rfl (fun _ => rfl) rfl h48 rfl rfl) trivial rfl ⟨rfl, trivial⟩ trivial rfl rfl ?_
          refine op0 (sp_assign rfl rfl) rfl trivial rfl rfl ?_
          refine TL.nil ?_
          refine TC.inBlock ?_
          refine TC.region ?_
          refine op0 (sp_move rfl rfl) rfl trivial rfl rfl ?_
          obtain ⟨h49, h⟩ := chk_inv h
          refine op0 (sp_add rfl rfl rfl h49) rfl trivial rfl rfl ?_
          refine op0 (sp_assign rfl rfl) rfl trivial rfl rfl ?_
          refine TL.nil ?_
          refine TC.inLoop ?_
          refine TC.seq ?_
          refine TC.seq ?_
          refine subJ [] (ih _ _ _ _ _ h) ?_ ?_ ?_
          · exact ⟨rfl, rfl, rfl, rfl, rfl, trivial⟩
          · exact ⟨mem_at 1 rfl, mem_at 2 rfl, mem_at 0 rfl, trivial⟩
          · rfl
        · have h := cond_f h h44
          refine TC.skip ?_
          refine TC.inBlock ?_
          refine TC.region ?_
          refine op0 (sp_move rfl rfl) rfl trivial rfl rfl ?_
          obtain ⟨h50, h⟩ := chk_inv h
          refine op0 (sp_add rfl rfl rfl h50) rfl trivial rfl rfl ?_
          refine op0 (sp_assign rfl rfl) rfl trivial rfl rfl ?_
          refine TL.nil ?_
          refine TC.inLoop ?_
          refine TC.seq ?_
          refine TC.seq ?_
          refine subJ [] (ih _ _ _ _ _ h) ?_ ?_ ?_
          · exact ⟨rfl, rfl, rfl, rfl, rfl, trivial⟩
          · exact ⟨mem_at 0 rfl, mem_at 1 rfl, mem_at 2 rfl, trivial⟩
          · rfl
      · refine (boolLit 166 rfl h43).2 ?_
        refine opSkip rfl ⟨_, rfl, .inl rfl⟩ rfl ?_
        refine opSkip rfl ⟨_, rfl, .inl rfl⟩ rfl ?_
        refine opSkip rfl ⟨_, rfl, .inl rfl⟩ rfl ?_
        refine opSkip rfl ⟨_, rfl, .inl rfl⟩ rfl ?_
        refine opSkip rfl ⟨_, rfl, .inl rfl⟩ rfl ?_
        refine op0 (sp_pickF rfl rfl rfl) rfl trivial rfl rfl ?_
        refine TL.nil ?_
        refine TC.condF rfl ?_
        refine TC.skip ?_
        refine TC.inBlock ?_
        refine TC.region ?_
        refine op0 (sp_move rfl rfl) rfl trivial rfl rfl ?_
        obtain ⟨h51, h⟩ := chk_inv h
        refine op0 (sp_add rfl rfl rfl h51) rfl trivial rfl rfl ?_
        refine op0 (sp_assign rfl rfl) rfl trivial rfl rfl ?_
        refine TL.nil ?_
        refine TC.inLoop ?_
        refine TC.seq ?_
        refine TC.seq ?_
        refine subJ [] (ih _ _ _ _ _ h) ?_ ?_ ?_
        · exact ⟨rfl, rfl, rfl, rfl, rfl, trivial⟩
        · exact ⟨mem_at 0 rfl, mem_at 1 rfl, mem_at 2 rfl, trivial⟩
        · rfl
    · have h := cond_f h h40
      refine TC.exit rfl ?_
      refine TC.seq ?_
      refine TC.seq ?_
      refine TC.region ?_
      refine op0 (sp_assign rfl rfl) rfl trivial rfl rfl ?_
      refine TL.nil ?_
      refine TC.block ?_
      refine TC.loop ?_
      refine TC.seq ?_
      refine TC.seq ?_
      refine subJ [] (ok_law11_RoundLaw_l5 _ _ h) ?_ ?_ ?_
      · exact ⟨rfl, rfl, rfl, rfl, trivial⟩
      · exact ⟨mem_at 0 rfl, mem_at 2 rfl, trivial⟩
      · rfl
def ev_law11_RoundLaw_j3 (n : Nat) (l18 : List Int) (l19 : List Int) : Option Bool :=
  ev_law11_RoundLaw_l4 n n 0 0 l18 l19 ([false, false, false, false, false, false, false, false] : List Bool)
theorem ok_law11_RoundLaw_j3 {n : Nat} {w0 : World} {R0 : Nat → Prop} {env0 : Env} {r : Bool} {l18 : List Int} {l19 : List Int} (h : ev_law11_RoundLaw_j3 n l18 l19 = some r) : TC Try.prog ⟨w0, fun _ => False, R0⟩ 200 (bodyPost Try.prog Try.f4 (Post ⟨w0, fun _ => False, R0⟩ env0 (.val (.bool r)) [])) [.code (sub (bodyOf Try.f4) [1, 1, 1, 1, 1, 1, 1, 1, 1, 1, 0, 1, 1]), .code (sub (bodyOf Try.f4) [1, 1, 1, 1, 1, 1, 1, 1, 1, 1, 1])] ([(9, .ref 11), (10, .ref 16)]) ([.row 11 3 1 (List.map en_int l18), .ro 16 1 (List.map en_int l19)]) := by
  rw [ev_law11_RoundLaw_j3] at h
  refine TC.skip ?_
  refine TC.seq ?_
  refine TC.region ?_
  refine op0 (sp_build (qs := []) rfl bt66 rfl rfl rfl rfl) rfl trivial rfl rfl ?_
  refine op0 (sp_alloc 29 rfl Try.zeroValue66 rfl) rfl trivial rfl rfl ?_
  refine stoB 0 (cells' := [.val (.bool false), .val (.bool false), .val (.bool false), .val (.bool false), .val (.bool false), .val (.bool false), .val (.bool false), .val (.bool false)]) rfl rfl trivial rfl rfl rfl rfl vt66 rfl rfl rfl ?_
  refine op0 (sp_assign rfl rfl) rfl trivial rfl rfl ?_
  refine TL.nil ?_
  refine TC.seq ?_
  refine TC.seq ?_
  refine TC.region ?_
  refine op0 (sp_assign rfl rfl) rfl trivial rfl rfl ?_
  refine TL.nil ?_
  refine TC.block ?_
  refine TC.loop ?_
  refine TC.toArr 0 ([false, false, false, false, false, false, false, false] : List Bool) vx_bool rfl (by kernel_rfl) ?_
  refine TC.seq ?_
  refine TC.seq ?_
  refine subJ [] (ok_law11_RoundLaw_l4 _ _ _ _ _ _ h) ?_ ?_ ?_
  · exact ⟨rfl, rfl, rfl, rfl, rfl, trivial⟩
  · exact ⟨mem_at 1 rfl, mem_at 2 rfl, mem_at 0 rfl, trivial⟩
  · rfl
def ev_law11_RoundLaw_j2 (n : Nat) (r13 : (List Int) × Int × Int) (l19 : List Int) (l23 : List (Int × Int × Int × Int × Int)) (l24 : List ((List Int))) (l25 : List (Int × Int × Int × Int)) (i15 : Int) (i17 : Int) (who6 : Int) (r9 : (List (Int × Int × Int × Int × Int)) × (List ((List Int))) × (List (Int × Int × Int × Int)) × Int × Int) (l18 : List Int) : Option Bool :=
  cond (r13.2.2 != 0) (cond (r13.2.2 == 7) (cond ((l19.length : Int) == 0) (cond (r13.2.1 == 0) ((ev_law11_known n).bind fun r41 => some r41) (some false)) (some false)) (some false)) ((ev_law11_copied n l23 l24 l25 i15 i17).bind fun r42 => (ev_law11_ints n l19).bind fun r43 => (ev_round_Walk n r42.1 r42.2.1 r42.2.2.1 r42.2.2.2.1 r42.2.2.2.2 (Int.tmod who6 (r9.2.2.1.length : Int)) r43).bind fun r44 => cond (r44.2.2.2 != 0) (some false) (cond (r44.1 != r13.2.1) (some false) (chk (in64 (r13.2.1 * i17)) <| cond (r44.2.1 != (r13.2.1 * i17)) (some false) (ev_law11_RoundLaw_j3 n l18 l19))))
theorem ok_law11_RoundLaw_j2 {n : Nat} {w0 : World} {R0 : Nat → Prop} {env0 : Env} {r : Bool} {who6 : Int} {r9 : (List (Int × Int × Int × Int × Int)) × (List ((List Int))) × (List (Int × Int × Int × Int)) × Int × Int} {r13 : (List Int) × Int × Int} {i15 : Int} {i17 : Int} {l18 : List Int} {l19 : List Int} {l23 : List (Int × Int × Int × Int × Int)} {l24 : List ((List Int))} {l25 : List (Int × Int × Int × Int)} (h : ev_law11_RoundLaw_j2 n r13 l19 l23 l24 l25 i15 i17 who6 r9 l18 = some r) : TC Try.prog ⟨w0, fun _ => False, R0⟩ 200 (bodyPost Try.prog Try.f4 (Post ⟨w0, fun _ => False, R0⟩ env0 (.val (.bool r)) [])) [.code (sub (bodyOf Try.f4) [1, 1, 1, 1, 1, 1, 1, 0, 1, 1]), .code (sub (bodyOf Try.f4) [1, 1, 1, 1, 1, 1, 1, 1])] ([(7, .ptr 10 0), (8, vi (Int.tmod who6 (r9.2.2.1.length : Int))), (9, .ref 11), (10, .ref 16), (11, vi r13.2.1), (12, vi r13.2.2)]) ([.blk 10 [.ref 7, .ref 8, .ref 9, vi i15, vi i17] 26, .row 11 3 1 (List.map en_int l18), .ro 16 1 (List.map en_int l19), .ro 7 5 (List.map en_api_RoundTower l23), .ro 8 1 (List.map en_Lint l24), .ro 9 4 (List.map en_api_RoundWinder l25)]) := by
  rw [ev_law11_RoundLaw_j2] at h
  refine TC.skip ?_
  refine TC.seq ?_
  refine TC.seq ?_
  refine TC.region ?_
  refine op0 (sp_move rfl rfl) rfl trivial rfl rfl ?_
  refine op0 (sp_neq rfl rfl rfl) rfl trivial rfl rfl ?_
  refine TL.nil ?_
  refine TC.cond (b := (r13.2.2 != 0)) rfl (fun h28 => ?_) (fun h28 => ?_)
  · have h := cond_t h h28
    refine TC.seq ?_
    refine TC.region ?_
    refine op0 (sp_move rfl rfl) rfl trivial rfl rfl ?_
    refine op0 (sp_eql rfl rfl rfl) rfl trivial rfl rfl ?_
    refine op0 (sp_move rfl rfl) rfl trivial rfl rfl ?_
    rcases cond_cases h with ⟨h29, h⟩ | ⟨h29, h⟩
    · refine (boolLit 115 rfl h29).2 ?_
      refine op0 (sp_move rfl rfl) rfl ⟨_, rfl, rfl⟩ rfl rfl ?_
      refine op1 2 rfl (sp_lenM (N := l19.length) (len_map _ _) rfl rfl isRo Try.underlying30) rfl ⟨_, rfl, rfl⟩ rfl rfl ?_
      refine op0 (sp_eql rfl rfl rfl) rfl ⟨_, rfl, rfl⟩ rfl rfl ?_
      refine op0 (sp_pickT rfl rfl rfl) rfl trivial rfl rfl ?_
      refine op0 (sp_move rfl rfl) rfl trivial rfl rfl ?_
      rcases cond_cases h with ⟨h30, h⟩ | ⟨h30, h⟩
      · refine (boolLit 120 rfl h30).2 ?_
        refine op0 (sp_move rfl rfl) rfl ⟨_, rfl, rfl⟩ rfl rfl ?_
        refine op0 (sp_eql rfl rfl rfl) rfl ⟨_, rfl, rfl⟩ rfl rfl ?_
        refine op0 (sp_pickT rfl rfl rfl) rfl trivial rfl rfl ?_
        refine op0 (sp_move rfl rfl) rfl trivial rfl rfl ?_
        rcases cond_cases h with ⟨h31, h⟩ | ⟨h31, h⟩
        · refine (boolLit 124 rfl h31).2 ?_
          obtain ⟨r41, h32, h⟩ := bind_inv h
          refine op0 (sp_call (avs := []) (need := []) (v := .val (.bool r41)) (news := []) rfl rfl rfl Try.call9 (atJ [] [] (fc_law11_known h32) rfl rfl) (.inl (roAll rfl))) rfl ⟨_, rfl, rfl⟩ rfl rfl ?_
          refine op0 (sp_pickT rfl rfl rfl) rfl trivial rfl rfl ?_
          refine op0 (sp_assign rfl rfl) rfl trivial rfl rfl ?_
          refine TL.nil ?_
          cases h
          exact retJ [] (.tmp rfl .nil) rfl trivial rfl rfl
        · refine (boolLit 124 rfl h31).2 ?_
          refine opSkip rfl ⟨_, rfl, .inl rfl⟩ rfl ?_
          refine op0 (sp_pickF rfl rfl rfl) rfl trivial rfl rfl ?_
          refine op0 (sp_assign rfl rfl) rfl trivial rfl rfl ?_
          refine TL.nil ?_
          cases h
          exact retJ [] (.tmp rfl .nil) rfl trivial rfl rfl
      · refine (boolLit 120 rfl h30).2 ?_
        refine opSkip rfl ⟨_, rfl, .inl rfl⟩ rfl ?_
        refine opSkip rfl ⟨_, rfl, .inl rfl⟩ rfl ?_
        refine op0 (sp_pickF rfl rfl rfl) rfl trivial rfl rfl ?_
        refine op0 (sp_move rfl rfl) rfl trivial rfl rfl ?_
        refine opSkip rfl ⟨_, rfl, .inl rfl⟩ rfl ?_
        refine op0 (sp_pickF rfl rfl rfl) rfl trivial rfl rfl ?_
        refine op0 (sp_assign rfl rfl) rfl trivial rfl rfl ?_
        refine TL.nil ?_
        cases h
        exact retJ [] (.tmp rfl .nil) rfl trivial rfl rfl
    · refine (boolLit 115 rfl h29).2 ?_
      refine opSkip rfl ⟨_, rfl, .inl rfl⟩ rfl ?_
      refine opSkip rfl ⟨_, rfl, .inl rfl⟩ rfl ?_
      refine opSkip rfl ⟨_, rfl, .inl rfl⟩ rfl ?_
      refine op0 (sp_pickF rfl rfl rfl) rfl trivial rfl rfl ?_
      refine op0 (sp_move rfl rfl) rfl trivial rfl rfl ?_
      refine opSkip rfl ⟨_, rfl, .inl rfl⟩ rfl ?_
      refine opSkip rfl ⟨_, rfl, .inl rfl⟩ rfl ?_
      refine op0 (sp_pickF rfl rfl rfl) rfl trivial rfl rfl ?_
      refine op0 (sp_move rfl rfl) rfl trivial rfl rfl ?_
      refine opSkip rfl ⟨_, rfl, .inl rfl⟩ rfl ?_
      refine op0 (sp_pickF rfl rfl rfl) rfl trivial rfl rfl ?_
      refine op0 (sp_assign rfl rfl) rfl trivial rfl rfl ?_
      refine TL.nil ?_
      cases h
      exact retJ [] (.tmp rfl .nil) rfl trivial rfl rfl
  · have h := cond_f h h28
    refine TC.skip ?_
    refine TC.seq ?_
    refine TC.region ?_
    refine op1 0 rfl (sp_loadBA rfl isBlk rfl vt26 rfl rfl) rfl trivial rfl rfl ?_
    obtain ⟨r42, h33, h⟩ := bind_inv h
    refine opN (need := [.ro 7 5 (List.map en_api_RoundTower l23), .ro 8 1 (List.map en_Lint l24), .ro 9 4 (List.map en_api_RoundWinder l25)]) [3, 4, 5] ⟨rfl, rfl, rfl, trivial⟩ (sp_call (avs := [.agg [.ref 7, .ref 8, .ref 9, vi i15, vi i17]]) (need := [.ro 7 5 (List.map en_api_RoundTower l23), .ro 8 1 (List.map en_Lint l24), .ro 9 4 (List.map en_api_RoundWinder l25)]) (v := .agg [.ref 25, .ref 26, .ref 27, vi r42.2.2.2.1, vi r42.2.2.2.2]) (news := [.row 25 46 5 (List.map en_api_RoundTower r42.1), .row 26 30 1 (List.map en_Lint r42.2.1), .row 27 76 4 (List.map en_api_RoundWinder r42.2.2.1)]) rfl rfl rfl Try.call12 (atJ [(0, 7), (1, 8), (2, 9)] [(0, 25), (1, 26), (2, 27)] (fc_law11_copied h33) rfl rfl) (.inl (roAll rfl))) rfl trivial rfl rfl ?_
    refine op0 (sp_move rfl rfl) rfl trivial rfl rfl ?_
    refine op0 (sp_move rfl rfl) rfl trivial rfl rfl ?_
    obtain ⟨r43, h34, h⟩ := bind_inv h
    refine op1 5 rfl (sp_call (avs := [.ref 16]) (need := [.ro 16 1 (List.map en_int l19)]) (v := .ref 28) (news := [.row 28 3 1 (List.map en_int r43)]) rfl rfl rfl Try.call22 (atJ [(0, 16)] [(0, 28)] (fc_law11_ints h34) rfl rfl) (.inl (roAll rfl))) rfl trivial rfl rfl ?_
    refine op0 (sp_build (qs := [(0, vi (Int.tmod who6 (r9.2.2.1.length : Int))), (1, .ref 28)]) rfl bt65 rfl rfl rfl rfl) rfl trivial rfl rfl ?_
    obtain ⟨r44, h35, h⟩ := bind_inv h
    refine opN (need := [.row 25 46 5 (List.map en_api_RoundTower r42.1), .row 26 30 1 (List.map en_Lint r42.2.1), .row 27 76 4 (List.map en_api_RoundWinder r42.2.2.1), .row 28 3 1 (List.map en_int r43)]) [1, 2, 3, 0] ⟨rfl, rfl, rfl, rfl, trivial⟩ (sp_call (avs := [.agg [.ref 25, .ref 26, .ref 27, vi r42.2.2.2.1, vi r42.2.2.2.2], .agg [vi (Int.tmod who6 (r9.2.2.1.length : Int)), .ref 28]]) (need := [.row 25 46 5 (List.map en_api_RoundTower r42.1), .row 26 30 1 (List.map en_Lint r42.2.1), .row 27 76 4 (List.map en_api_RoundWinder r42.2.2.1), .row 28 3 1 (List.map en_int r43)]) (v := .tup [vi r44.1, vi r44.2.1, vi r44.2.2.1, vi r44.2.2.2]) (news := []) rfl rfl rfl Try.call24 (atJ [(0, 25), (1, 26), (2, 27), (3, 28)] [] (fc_round_Walk h35) rfl rfl) (.inr (fun x hx => nomatch hx))) rfl trivial rfl rfl ?_
    refine op0 (sp_move rfl rfl) rfl trivial rfl rfl ?_
    refine op0 (sp_extract rfl rfl rfl) rfl trivial rfl rfl ?_
    refine op0 (sp_extract rfl rfl rfl) rfl trivial rfl rfl ?_
    refine op0 (sp_extract rfl rfl rfl) rfl trivial rfl rfl ?_
    refine op0 (sp_extract rfl rfl rfl) rfl trivial rfl rfl ?_
    refine op0 (sp_assign rfl rfl) rfl trivial rfl rfl ?_
    refine op0 (sp_assign rfl rfl) rfl trivial rfl rfl ?_
    refine op0 (sp_assign rfl rfl) rfl trivial rfl rfl ?_
    refine op0 (sp_assign rfl rfl) rfl trivial rfl rfl ?_
    refine TL.nil ?_
    refine TC.seq ?_
    refine TC.seq ?_
    refine TC.region ?_
    refine op0 (sp_move rfl rfl) rfl trivial rfl rfl ?_
    refine op0 (sp_neq rfl rfl rfl) rfl trivial rfl rfl ?_
    refine op0 (sp_move rfl rfl) rfl trivial rfl rfl ?_
    rcases cond_cases h with ⟨h36, h⟩ | ⟨h36, h⟩
    · refine (boolLit 141 rfl h36).2 ?_
      refine opSkip rfl ⟨_, rfl, .inl rfl⟩ rfl ?_
      refine opSkip rfl ⟨_, rfl, .inl rfl⟩ rfl ?_
      refine opSkip rfl ⟨_, rfl, .inl rfl⟩ rfl ?_
      refine op0 (sp_pickT rfl rfl rfl) rfl trivial rfl rfl ?_
      refine op0 (sp_move rfl rfl) rfl trivial rfl rfl ?_
      refine opSkip rfl ⟨_, rfl, .inl rfl⟩ rfl ?_
      refine opSkip rfl ⟨_, rfl, .inl rfl⟩ rfl ?_
      refine opSkip rfl ⟨_, rfl, .inl rfl⟩ rfl ?_
      refine opSkip rfl ⟨_, rfl, .inl rfl⟩ rfl ?_
      refine opSkip rfl ⟨_, rfl, .inl rfl⟩ rfl ?_
      refine opSkip rfl ⟨_, rfl, .inl rfl⟩ rfl ?_
      refine op0 (sp_pickT rfl rfl rfl) rfl trivial rfl rfl ?_
      refine TL.nil ?_
      refine TC.condT rfl ?_
      refine TC.seq ?_
      refine TC.region ?_
      refine op0 (sp_assign rfl rfl) rfl trivial rfl rfl ?_
      refine TL.nil ?_
      cases h
      exact retJ [] (.tmp rfl .nil) rfl trivial rfl rfl
    · refine (boolLit 141 rfl h36).2 ?_
      refine op0 (sp_move rfl rfl) rfl ⟨_, rfl, rfl⟩ rfl rfl ?_
      refine op0 (sp_move rfl rfl) rfl ⟨_, rfl, rfl⟩ rfl rfl ?_
      refine op0 (sp_neq rfl rfl rfl) rfl ⟨_, rfl, rfl⟩ rfl rfl ?_
      refine op0 (sp_pickF rfl rfl rfl) rfl trivial rfl rfl ?_
      refine op0 (sp_move rfl rfl) rfl trivial rfl rfl ?_
      rcases cond_cases h with ⟨h37, h⟩ | ⟨h37, h⟩
      · refine (boolLit 146 rfl h37).2 ?_
        refine opSkip rfl ⟨_, rfl, .inl rfl⟩ rfl ?_
        refine opSkip rfl ⟨_, rfl, .inl rfl⟩ rfl ?_
        refine opSkip rfl ⟨_, rfl, .inl rfl⟩ rfl ?_
        refine opSkip rfl ⟨_, rfl, .inl rfl⟩ rfl ?_
        refine opSkip rfl ⟨_, rfl, .inl rfl⟩ rfl ?_
        refine opSkip rfl ⟨_, rfl, .inl rfl⟩ rfl ?_
        refine op0 (sp_pickT rfl rfl rfl) rfl trivial rfl rfl ?_
        refine TL.nil ?_
        refine TC.condT rfl ?_
        refine TC.seq ?_
        refine TC.region ?_
        refine op0 (sp_assign rfl rfl) rfl trivial rfl rfl ?_
        refine TL.nil ?_
        cases h
        exact retJ [] (.tmp rfl .nil) rfl trivial rfl rfl
      · refine (boolLit 146 rfl h37).2 ?_
        refine op0 (sp_move rfl rfl) rfl ⟨_, rfl, rfl⟩ rfl rfl ?_
        refine op0 (sp_move rfl rfl) rfl ⟨_, rfl, rfl⟩ rfl rfl ?_
        refine op1 4 rfl (sp_fieldAddrB rfl isBlk rfl ft26_4 vt3 (by decide)) rfl ⟨_, rfl, rfl⟩ rfl rfl ?_
        refine op1 4 rfl (sp_loadB rfl isBlk rfl vt3 rfl) rfl ⟨_, rfl, rfl⟩ rfl rfl ?_
        obtain ⟨h38, h⟩ := chk_inv h
        refine op0 (sp_mul rfl rfl rfl h38) rfl ⟨_, rfl, rfl⟩ rfl rfl ?_
        refine op0 (sp_neq rfl rfl rfl) rfl ⟨_, rfl, rfl⟩ rfl rfl ?_
        refine op0 (sp_pickF rfl rfl rfl) rfl trivial rfl rfl ?_
        refine TL.nil ?_
        refine TC.cond (b := (r44.2.1 != (r13.2.1 * i17))) rfl (fun h39 => ?_) (fun h39 => ?_)
        · have h := cond_t h h39
          refine TC.seq ?_
          refine TC.region ?_
          refine op0 (sp_assign rfl rfl) rfl trivial rfl rfl ?_
          refine TL.nil ?_
          cases h
          exact retJ [] (.tmp rfl .nil) rfl trivial rfl rfl
        · have h := cond_f h h39
          refine subJ [] (ok_law11_RoundLaw_j3 h) ?_ ?_ ?_
          · exact ⟨rfl, rfl, trivial⟩
          · exact ⟨mem_at 5 rfl, mem_at 6 rfl, trivial⟩
          · rfl
def ev_law11_RoundLaw_l0 (n : Nat) (who6 : Int) (r9 : (List (Int × Int × Int × Int × Int)) × (List ((List Int))) × (List (Int × Int × Int × Int)) × Int × Int) (r13 : (List Int) × Int × Int) : Nat → Int → Int → Int → (List Int) → (List Int) → (List Int) → (List Int) → (List Int) → (List (Int × Int × Int × Int × Int)) → (List ((List Int))) → (List (Int × Int × Int × Int)) → Option Bool
  | 0, _, _, _, _, _, _, _, _, _, _, _ => none
  | m + 1, i14, i15, i17, l18, l19, l20, l21, l22, l23, l24, l25 => cond (decide (i14 ≤ (l18.length : Int))) ((ev_law11_byteOf n l22 i14).bind fun r26 => cond ((Int.tmod r26 2) == 1) (chk (room 8 (l20.length + ([(-1)] : List Int).length)) <| ev_law11_RoundLaw_j1 n i14 (fun i14q i15q i17q l18q l19q l20q l21q l22q l23q l24q l25q => ev_law11_RoundLaw_l0 n who6 r9 r13 m i14q i15q i17q l18q l19q l20q l21q l22q l23q l24q l25q) i15 i17 l18 l19 (l20 ++ ([(-1)] : List Int)) l21 l22 l23 l24 l25) (ev_law11_RoundLaw_j1 n i14 (fun i14q i15q i17q l18q l19q l20q l21q l22q l23q l24q l25q => ev_law11_RoundLaw_l0 n who6 r9 r13 m i14q i15q i17q l18q l19q l20q l21q l22q l23q l24q l25q) i15 i17 l18 l19 l20 l21 l22 l23 l24 l25)) ((ev_law11_copied n l23 l24 l25 i15 i17).bind fun r39 => (ev_round_Walk n r39.1 r39.2.1 r39.2.2.1 r39.2.2.2.1 r39.2.2.2.2 (Int.tmod who6 (r9.2.2.1.length : Int)) l20).bind fun r40 => cond (r40.2.2.2 == 0) (cond (r13.2.2 != 0) (some false) (cond (decide (r40.1 < r13.2.1)) (some false) (chk (in64 (r40.1 * i17)) <| cond (r40.2.1 != (r40.1 * i17)) (some false) (ev_law11_RoundLaw_j2 n r13 l19 l23 l24 l25 i15 i17 who6 r9 l18)))) (ev_law11_RoundLaw_j2 n r13 l19 l23 l24 l25 i15 i17 who6 r9 l18))
theorem ok_law11_RoundLaw_l0 {n : Nat} {w0 : World} {R0 : Nat → Prop} {env0 : Env} {r : Bool} {who6 : Int} {r9 : (List (Int × Int × Int × Int × Int)) × (List ((List Int))) × (List (Int × Int × Int × Int)) × Int × Int} {r13 : (List Int) × Int × Int} : ∀ (m : Nat) (i14 : Int) (i15 : Int) (i17 : Int) (l18 : List Int) (l19 : List Int) (l20 : List Int) (l21 : List Int) (l22 : List Int) (l23 : List (Int × Int × Int × Int × Int)) (l24 : List ((List Int))) (l25 : List (Int × Int × Int × Int)), ev_law11_RoundLaw_l0 n who6 r9 r13 m i14 i15 i17 l18 l19 l20 l21 l22 l23 l24 l25 = some r → TC Try.prog ⟨w0, fun _ => False, R0⟩ 200 (bodyPost Try.prog Try.f4 (Post ⟨w0, fun _ => False, R0⟩ env0 (.val (.bool r)) [])) [.code (sub (bodyOf Try.f4) [1, 1, 1, 1, 1, 0, 1, 0, 0, 0, 0]), .code (sub (bodyOf Try.f4) [1, 1, 1, 1, 1, 0, 1, 0, 0, 0, 1]), .code (sub (bodyOf Try.f4) [1, 1, 1, 1, 1, 0, 1, 0, 0, 1]), .inLoop (sub (bodyOf Try.f4) [1, 1, 1, 1, 1, 0, 1, 0, 0]), .inBlock 0, .code (sub (bodyOf Try.f4) [1, 1, 1, 1, 1, 1])] ([(5, .ptr 6 0), (7, .ptr 10 0), (8, vi (Int.tmod who6 (r9.2.2.1.length : Int))), (9, .ref 11), (10, .ref 16), (11, vi r13.2.1), (12, vi r13.2.2), (13, .ref 17), (14, vi i14)]) ([.blk 6 [.ref 3, .ref 4] 55, .blk 10 [.ref 7, .ref 8, .ref 9, vi i15, vi i17] 26, .row 11 3 1 (List.map en_int l18), .ro 16 1 (List.map en_int l19), .row 17 3 1 (List.map en_int l20), .ro 3 1 (List.map en_uint8 l21), .ro 4 1 (List.map en_uint8 l22), .ro 7 5 (List.map en_api_RoundTower l23), .ro 8 1 (List.map en_Lint l24), .ro 9 4 (List.map en_api_RoundWinder l25)]) := by
  intro m
  induction m with
  | zero => intro i14 i15 i17 l18 l19 l20 l21 l22 l23 l24 l25 h; exact none_no h
  | succ m ih =>
    intro i14 i15 i17 l18 l19 l20 l21 l22 l23 l24 l25 h
    rw [ev_law11_RoundLaw_l0] at h
    refine TC.region ?_
    refine op0 (sp_move rfl rfl) rfl trivial rfl rfl ?_
    refine op0 (sp_move rfl rfl) rfl trivial rfl rfl ?_
    refine op1 2 rfl (sp_lenM (N := l18.length) (len_map _ _) rfl rfl isOwn Try.underlying30) rfl trivial rfl rfl ?_
    refine op0 (sp_leq rfl rfl rfl) rfl trivial rfl rfl ?_
    refine TL.nil ?_
    refine TC.cond (b := (decide (i14 ≤ (l18.length : Int)))) rfl (fun h8 => ?_) (fun h8 => ?_)
    · have h := cond_t h h8
      refine TC.skip ?_
      refine TC.seq ?_
      refine TC.block ?_
      refine TC.seq ?_
      refine TC.seq ?_
      refine TC.region ?_
      refine op1 0 rfl (sp_indexA (len := 2) (iv := 1) rfl isBlk rfl rfl Try.underlying55 vt51 (by decide)) rfl trivial rfl rfl ?_
      refine op1 0 rfl (sp_loadB rfl isBlk rfl vt51 rfl) rfl trivial rfl rfl ?_
      refine op0 (sp_move rfl rfl) rfl trivial rfl rfl ?_
      obtain ⟨r26, h9, h⟩ := bind_inv h
      refine op1 6 rfl (sp_call (avs := [.ref 4, vi i14]) (need := [.ro 4 1 (List.map en_uint8 l22)]) (v := vi r26) (news := []) rfl rfl rfl Try.call23 (atJ [(0, 4)] [] (fc_law11_byteOf h9) rfl rfl) (.inl (roAll rfl))) rfl trivial rfl rfl ?_
      refine op0 (sp_rem rfl rfl rfl (by decide)) rfl trivial rfl rfl ?_
      refine op0 (sp_eql rfl rfl rfl) rfl trivial rfl rfl ?_
      refine TL.nil ?_
      refine TC.cond (b := ((Int.tmod r26 2) == 1)) rfl (fun h10 => ?_) (fun h10 => ?_)
      · have h := cond_t h h10
        refine TC.region ?_
        refine op0 (sp_move rfl rfl) rfl trivial rfl rfl ?_
        refine op0 (sp_buildSlice (qs := [vi (-1)]) (need := []) (els := List.map en_int ([(-1)] : List Int)) 18 rfl sl30 (by decide) (by decide) rfl rfl rfl (.v (.nil)) (map_len fun _ => rfl) rfl rfl rfl) rfl trivial rfl rfl ?_
        obtain ⟨h11, h⟩ := chk_inv h
        refine appM 5 0 (N := l20.length) (N2 := ([(-1)] : List Int).length) 19 rfl rfl trivial rfl rfl rfl rfl rfl isOwn rfl sl30 (len_map _ _) (len_map _ _) h11 (map_app _ _ _) rfl ?_
        refine op0 (sp_assign rfl rfl) rfl trivial rfl rfl ?_
        refine TL.nil ?_
        refine TC.seq ?_
        refine subJ [] (ok_law11_RoundLaw_j1 (who6 := who6) (r9 := r9) (r13 := r13) ih h) ?_ ?_ ?_
        · exact ⟨rfl, rfl, rfl, rfl, rfl, rfl, rfl, rfl, rfl, trivial⟩
        · exact ⟨mem_at 2 rfl, mem_at 3 rfl, mem_at 4 rfl, mem_at 5 rfl, mem_at 0 rfl, mem_at 6 rfl, mem_at 7 rfl, mem_at 8 rfl, mem_at 9 rfl, mem_at 10 rfl, trivial⟩
        · rfl
      · have h := cond_f h h10
        refine TC.skip ?_
        refine TC.seq ?_
        refine subJ [(19, 17)] (ok_law11_RoundLaw_j1 (who6 := who6) (r9 := r9) (r13 := r13) ih h) ?_ ?_ ?_
        · exact ⟨rfl, rfl, rfl, rfl, rfl, rfl, rfl, rfl, rfl, trivial⟩
        · exact ⟨mem_at 0 rfl, mem_at 1 rfl, mem_at 2 rfl, mem_at 3 rfl, mem_at 4 rfl, mem_at 5 rfl, mem_at 6 rfl, mem_at 7 rfl, mem_at 8 rfl, mem_at 9 rfl, trivial⟩
        · rfl
    · have h := cond_f h h8
      refine TC.exit rfl ?_
      refine TC.seq ?_
      refine TC.region ?_
      refine op1 1 rfl (sp_loadBA rfl isBlk rfl vt26 rfl rfl) rfl trivial rfl rfl ?_
      obtain ⟨r39, h21, h⟩ := bind_inv h
      refine opN (need := [.ro 7 5 (List.map en_api_RoundTower l23), .ro 8 1 (List.map en_Lint l24), .ro 9 4 (List.map en_api_RoundWinder l25)]) [7, 8, 9] ⟨rfl, rfl, rfl, trivial⟩ (sp_call (avs := [.agg [.ref 7, .ref 8, .ref 9, vi i15, vi i17]]) (need := [.ro 7 5 (List.map en_api_RoundTower l23), .ro 8 1 (List.map en_Lint l24), .ro 9 4 (List.map en_api_RoundWinder l25)]) (v := .agg [.ref 22, .ref 23, .ref 24, vi r39.2.2.2.1, vi r39.2.2.2.2]) (news := [.row 22 46 5 (List.map en_api_RoundTower r39.1), .row 23 30 1 (List.map en_Lint r39.2.1), .row 24 76 4 (List.map en_api_RoundWinder r39.2.2.1)]) rfl rfl rfl Try.call12 (atJ [(0, 7), (1, 8), (2, 9)] [(0, 22), (1, 23), (2, 24)] (fc_law11_copied h21) rfl rfl) (.inl (roAll rfl))) rfl trivial rfl rfl ?_
      refine op0 (sp_move rfl rfl) rfl trivial rfl rfl ?_
      refine op0 (sp_move rfl rfl) rfl trivial rfl rfl ?_
      refine op0 (sp_build (qs := [(0, vi (Int.tmod who6 (r9.2.2.1.length : Int))), (1, .ref 17)]) rfl bt65 rfl rfl rfl rfl) rfl trivial rfl rfl ?_
      obtain ⟨r40, h22, h⟩ := bind_inv h
      refine opN (need := [.row 22 46 5 (List.map en_api_RoundTower r39.1), .row 23 30 1 (List.map en_Lint r39.2.1), .row 24 76 4 (List.map en_api_RoundWinder r39.2.2.1), .row 17 3 1 (List.map en_int l20)]) [0, 1, 2, 7] ⟨rfl, rfl, rfl, rfl, trivial⟩ (sp_call (avs := [.agg [.ref 22, .ref 23, .ref 24, vi r39.2.2.2.1, vi r39.2.2.2.2], .agg [vi (Int.tmod who6 (r9.2.2.1.length : Int)), .ref 17]]) (need := [.row 22 46 5 (List.map en_api_RoundTower r39.1), .row 23 30 1 (List.map en_Lint r39.2.1), .row 24 76 4 (List.map en_api_RoundWinder r39.2.2.1), .row 17 3 1 (List.map en_int l20)]) (v := .tup [vi r40.1, vi r40.2.1, vi r40.2.2.1, vi r40.2.2.2]) (news := []) rfl rfl rfl Try.call24 (atJ [(0, 22), (1, 23), (2, 24), (3, 17)] [] (fc_round_Walk h22) rfl rfl) (.inr (fun x hx => nomatch hx))) rfl trivial rfl rfl ?_
      refine op0 (sp_move rfl rfl) rfl trivial rfl rfl ?_
      refine op0 (sp_extract rfl rfl rfl) rfl trivial rfl rfl ?_
      refine op0 (sp_extract rfl rfl rfl) rfl trivial rfl rfl ?_
      refine op0 (sp_extract rfl rfl rfl) rfl trivial rfl rfl ?_
      refine op0 (sp_extract rfl rfl rfl) rfl trivial rfl rfl ?_
      refine op0 (sp_assign rfl rfl) rfl trivial rfl rfl ?_
      refine op0 (sp_assign rfl rfl) rfl trivial rfl rfl ?_
      refine op0 (sp_assign rfl rfl) rfl trivial rfl rfl ?_
      refine op0 (sp_assign rfl rfl) rfl trivial rfl rfl ?_
      refine TL.nil ?_
      refine TC.seq ?_
      refine TC.seq ?_
      refine TC.region ?_
      refine op0 (sp_move rfl rfl) rfl trivial rfl rfl ?_
      refine op0 (sp_eql rfl rfl rfl) rfl trivial rfl rfl ?_
      refine op0 (sp_move rfl rfl) rfl trivial rfl rfl ?_
      rcases cond_cases h with ⟨h23, h⟩ | ⟨h23, h⟩
      · refine (boolLit 94 rfl h23).2 ?_
        refine op0 (sp_move rfl rfl) rfl ⟨_, rfl, rfl⟩ rfl rfl ?_
        refine op0 (sp_neq rfl rfl rfl) rfl ⟨_, rfl, rfl⟩ rfl rfl ?_
        refine op0 (sp_move rfl rfl) rfl ⟨_, rfl, rfl⟩ rfl rfl ?_
        rcases cond_cases h with ⟨h24, h⟩ | ⟨h24, h⟩
        · refine (boolLit 97 rfl h24).2 ?_
          refine opSkip rfl ⟨_, rfl, .inl rfl⟩ rfl ?_
          refine opSkip rfl ⟨_, rfl, .inl rfl⟩ rfl ?_
          refine opSkip rfl ⟨_, rfl, .inl rfl⟩ rfl ?_
          refine op0 (sp_pickT rfl rfl rfl) rfl ⟨_, rfl, rfl⟩ rfl rfl ?_
          refine op0 (sp_move rfl rfl) rfl ⟨_, rfl, rfl⟩ rfl rfl ?_
          refine opSkip rfl ⟨_, rfl, .inl rfl⟩ rfl ?_
          refine opSkip rfl ⟨_, rfl, .inl rfl⟩ rfl ?_
          refine opSkip rfl ⟨_, rfl, .inl rfl⟩ rfl ?_
          refine opSkip rfl ⟨_, rfl, .inl rfl⟩ rfl ?_
          refine opSkip rfl ⟨_, rfl, .inl rfl⟩ rfl ?_
          refine opSkip rfl ⟨_, rfl, .inl rfl⟩ rfl ?_
          refine op0 (sp_pickT rfl rfl rfl) rfl ⟨_, rfl, rfl⟩ rfl rfl ?_
          refine op0 (sp_pickT rfl rfl rfl) rfl trivial rfl rfl ?_
          refine TL.nil ?_
          refine TC.condT rfl ?_
          refine TC.seq ?_
          refine TC.region ?_
          refine op0 (sp_assign rfl rfl) rfl trivial rfl rfl ?_
          refine TL.nil ?_
          cases h
          exact retJ [] (.tmp rfl .nil) rfl trivial rfl rfl
        · refine (boolLit 97 rfl h24).2 ?_
          refine op0 (sp_move rfl rfl) rfl ⟨_, rfl, rfl⟩ rfl rfl ?_
          refine op0 (sp_move rfl rfl) rfl ⟨_, rfl, rfl⟩ rfl rfl ?_
          refine op0 (sp_lss rfl rfl rfl) rfl ⟨_, rfl, rfl⟩ rfl rfl ?_
          refine op0 (sp_pickF rfl rfl rfl) rfl ⟨_, rfl, rfl⟩ rfl rfl ?_
          refine op0 (sp_move rfl rfl) rfl ⟨_, rfl, rfl⟩ rfl rfl ?_
          rcases cond_cases h with ⟨h25, h⟩ | ⟨h25, h⟩
          · refine (boolLit 102 rfl h25).2 ?_
            refine opSkip rfl ⟨_, rfl, .inl rfl⟩ rfl ?_
            refine opSkip rfl ⟨_, rfl, .inl rfl⟩ rfl ?_
            refine opSkip rfl ⟨_, rfl, .inl rfl⟩ rfl ?_
            refine opSkip rfl ⟨_, rfl, .inl rfl⟩ rfl ?_
            refine opSkip rfl ⟨_, rfl, .inl rfl⟩ rfl ?_
            refine opSkip rfl ⟨_, rfl, .inl rfl⟩ rfl ?_
            refine op0 (sp_pickT rfl rfl rfl) rfl ⟨_, rfl, rfl⟩ rfl rfl ?_
            refine op0 (sp_pickT rfl rfl rfl) rfl trivial rfl rfl ?_
            refine TL.nil ?_
            refine TC.condT rfl ?_
            refine TC.seq ?_
            refine TC.region ?_
            refine op0 (sp_assign rfl rfl) rfl trivial rfl rfl ?_
            refine TL.nil ?_
            cases h
            exact retJ [] (.tmp rfl .nil) rfl trivial rfl rfl
          · refine (boolLit 102 rfl h25).2 ?_
            refine op0 (sp_move rfl rfl) rfl ⟨_, rfl, rfl⟩ rfl rfl ?_
            refine op0 (sp_move rfl rfl) rfl ⟨_, rfl, rfl⟩ rfl rfl ?_
            refine op1 4 rfl (sp_fieldAddrB rfl isBlk rfl ft26_4 vt3 (by decide)) rfl ⟨_, rfl, rfl⟩ rfl rfl ?_
            refine op1 4 rfl (sp_loadB rfl isBlk rfl vt3 rfl) rfl ⟨_, rfl, rfl⟩ rfl rfl ?_
            obtain ⟨h26, h⟩ := chk_inv h
            refine op0 (sp_mul rfl rfl rfl h26) rfl ⟨_, rfl, rfl⟩ rfl rfl ?_
            refine op0 (sp_neq rfl rfl rfl) rfl ⟨_, rfl, rfl⟩ rfl rfl ?_
            refine op0 (sp_pickF rfl rfl rfl) rfl ⟨_, rfl, rfl⟩ rfl rfl ?_
            refine op0 (sp_pickT rfl rfl rfl) rfl trivial rfl rfl ?_
            refine TL.nil ?_
            refine TC.cond (b := (r40.2.1 != (r40.1 * i17))) rfl (fun h27 => ?_) (fun h27 => ?_)
            · have h := cond_t h h27
              refine TC.seq ?_
              refine TC.region ?_
              refine op0 (sp_assign rfl rfl) rfl trivial rfl rfl ?_
              refine TL.nil ?_
              cases h
              exact retJ [] (.tmp rfl .nil) rfl trivial rfl rfl
            · have h := cond_f h h27
              refine subJ [] (ok_law11_RoundLaw_j2 h) ?_ ?_ ?_
              · exact ⟨rfl, rfl, rfl, rfl, rfl, rfl, trivial⟩
              · exact ⟨mem_at 4 rfl, mem_at 5 rfl, mem_at 6 rfl, mem_at 10 rfl, mem_at 11 rfl, mem_at 12 rfl, trivial⟩
              · rfl
      · refine (boolLit 94 rfl h23).2 ?_
        refine opSkip rfl ⟨_, rfl, .inl rfl⟩ rfl ?_
        refine opSkip rfl ⟨_, rfl, .inl rfl⟩ rfl ?_
        refine opSkip rfl ⟨_, rfl, .inl rfl⟩ rfl ?_
        refine opSkip rfl ⟨_, rfl, .inr rfl⟩ rfl ?_
        refine opSkip rfl ⟨_, rfl, .inr rfl⟩ rfl ?_
        refine opSkip rfl ⟨_, rfl, .inr rfl⟩ rfl ?_
        refine opSkip rfl ⟨_, rfl, .inl rfl⟩ rfl ?_
        refine opSkip rfl ⟨_, rfl, .inl rfl⟩ rfl ?_
        refine opSkip rfl ⟨_, rfl, .inr rfl⟩ rfl ?_
        refine opSkip rfl ⟨_, rfl, .inr rfl⟩ rfl ?_
        refine opSkip rfl ⟨_, rfl, .inr rfl⟩ rfl ?_
        refine opSkip rfl ⟨_, rfl, .inr rfl⟩ rfl ?_
        refine opSkip rfl ⟨_, rfl, .inr rfl⟩ rfl ?_
        refine opSkip rfl ⟨_, rfl, .inr rfl⟩ rfl ?_
        refine opSkip rfl ⟨_, rfl, .inl rfl⟩ rfl ?_
        refine op0 (sp_pickF rfl rfl rfl) rfl trivial rfl rfl ?_
        refine TL.nil ?_
        refine TC.condF rfl ?_
        refine subJ [] (ok_law11_RoundLaw_j2 h) ?_ ?_ ?_
        · exact ⟨rfl, rfl, rfl, rfl, rfl, rfl, trivial⟩
        · exact ⟨mem_at 4 rfl, mem_at 5 rfl, mem_at 6 rfl, mem_at 10 rfl, mem_at 11 rfl, mem_at 12 rfl, trivial⟩
        · rfl
def ev_law11_RoundLaw (n : Nat) (x1 : List (Int × Int × Int × Int × Int)) (x2 : List Int) (x3 : List (Int × Int × Int × Int)) (x4 : Int) (x5 : Int) (who6 : Int) (by_7 : List Int) (by_8 : List Int) : Option Bool :=
  (ev_law11_Town_rules n x1 x2 x3 x4 x5).bind fun r9 => chk (in64 who6) <| chk ((r9.2.2.1.length : Int) != 0) <| (ev_law11_some n r9.1 r9.2.1 r9.2.2.1 r9.2.2.2.1 r9.2.2.2.2 by_7 5).bind fun r10 => (ev_law11_copied n r9.1 r9.2.1 r9.2.2.1 r9.2.2.2.1 r9.2.2.2.2).bind fun r11 => (ev_law11_ints n r10).bind fun r12 => (ev_round_Best n r11.1 r11.2.1 r11.2.2.1 r11.2.2.2.1 r11.2.2.2.2 (Int.tmod who6 (r9.2.2.1.length : Int)) r12).bind fun r13 => ev_law11_RoundLaw_l0 n who6 r9 r13 n 0 r9.2.2.2.1 r9.2.2.2.2 r10 r13.1 ([] : List Int) by_7 by_8 r9.1 r9.2.1 r9.2.2.1
theorem fc_law11_RoundLaw {n : Nat} {x1 : List (Int × Int × Int × Int × Int)} {x2 : List Int} {x3 : List (Int × Int × Int × Int)} {x4 : Int} {x5 : Int} {who6 : Int} {by_7 : List Int} {by_8 : List Int} {r : Bool} (h : ev_law11_RoundLaw n x1 x2 x3 x4 x5 who6 by_7 by_8 = some r) : FC Try.prog 4 [.agg [.ref 0, .ref 1, .ref 2, .val (.int .u8 x4), .val (.int .u8 x5)], .val (.int .u8 who6), .agg [.ref 3, .ref 4]] [.ro 0 5 (List.map en_5_uint8 x1), .ro 1 1 (List.map en_uint8 x2), .ro 2 4 (List.map en_4_uint8 x3), .ro 3 1 (List.map en_uint8 by_7), .ro 4 1 (List.map en_uint8 by_8)] (.val (.bool r)) [] := by
  refine introJ (nz := 200) Try.func4 rfl rfl rfl (fun w0 R0 env0 => ?_)
  rw [ev_law11_RoundLaw] at h
  refine TC.seq ?_
  refine TC.region ?_
  refine op0 (sp_box 5 rfl rfl rfl rfl rfl) rfl trivial rfl rfl ?_
  refine op0 (sp_box 6 rfl rfl rfl rfl rfl) rfl trivial rfl rfl ?_
  refine op0 (sp_assign rfl rfl) rfl trivial rfl rfl ?_
  refine TL.nil ?_
  refine TC.seq ?_
  refine TC.region ?_
  refine op1 1 rfl (sp_loadBA rfl isBlk rfl vt54 rfl rfl) rfl trivial rfl rfl ?_
  obtain ⟨r9, h1, h⟩ := bind_inv h
  refine opN (need := [.ro 0 5 (List.map en_5_uint8 x1), .ro 1 1 (List.map en_uint8 x2), .ro 2 4 (List.map en_4_uint8 x3)]) [2, 3, 4] ⟨rfl, rfl, rfl, trivial⟩ (sp_call (avs := [.agg [.ref 0, .ref 1, .ref 2, .val (.int .u8 x4), .val (.int .u8 x5)]]) (need := [.ro 0 5 (List.map en_5_uint8 x1), .ro 1 1 (List.map en_uint8 x2), .ro 2 4 (List.map en_4_uint8 x3)]) (v := .agg [.ref 7, .ref 8, .ref 9, vi r9.2.2.2.1, vi r9.2.2.2.2]) (news := [.row 7 46 5 (List.map en_api_RoundTower r9.1), .row 8 30 1 (List.map en_Lint r9.2.1), .row 9 76 4 (List.map en_api_RoundWinder r9.2.2.1)]) rfl rfl rfl Try.call19 (atJ [] [(0, 7), (1, 8), (2, 9)] (fc_law11_Town_rules h1) rfl rfl) (.inl (roAll rfl))) rfl trivial rfl rfl ?_
  refine op0 (sp_alloc 10 rfl Try.zeroValue26 rfl) rfl trivial rfl rfl ?_
  refine stoB 0 (cells' := [.ref 7, .ref 8, .ref 9, vi r9.2.2.2.1, vi r9.2.2.2.2]) rfl rfl trivial rfl rfl rfl rfl vt26 rfl rfl rfl ?_
  refine TL.nil ?_
  refine TC.seq ?_
  obtain ⟨h2, h⟩ := chk_inv h
  obtain ⟨h3, h⟩ := chk_inv h
  obtain ⟨r10, h4, h⟩ := bind_inv h
  refine drawJ 10 [⟨.val (.int .u8 who6), [], [], []⟩, ⟨vi who6, [], [], []⟩, ⟨.ptr 10 2, [], [.blk 10 [.ref 7, .ref 8, .ref 9, vi r9.2.2.2.1, vi r9.2.2.2.2] 26], []⟩, ⟨.ref 9, [], [.blk 10 [.ref 7, .ref 8, .ref 9, vi r9.2.2.2.1, vi r9.2.2.2.2] 26], []⟩, ⟨vi (r9.2.2.1.length : Int), [], [.row 9 76 4 (List.map en_api_RoundWinder r9.2.2.1)], []⟩, ⟨vi (Int.tmod who6 (r9.2.2.1.length : Int)), [], [], []⟩, ⟨.agg [.ref 7, .ref 8, .ref 9, vi r9.2.2.2.1, vi r9.2.2.2.2], [], [.blk 10 [.ref 7, .ref 8, .ref 9, vi r9.2.2.2.1, vi r9.2.2.2.2] 26], []⟩, ⟨.ptr 6 0, [], [.blk 6 [.ref 3, .ref 4] 55], []⟩, ⟨.ref 3, [], [.blk 6 [.ref 3, .ref 4] 55], []⟩, ⟨.ref 11, [.row 11 3 1 (List.map en_int r10)], [.row 7 46 5 (List.map en_api_RoundTower r9.1), .row 8 30 1 (List.map en_Lint r9.2.1), .row 9 76 4 (List.map en_api_RoundWinder r9.2.2.1), .ro 3 1 (List.map en_uint8 by_7)], []⟩] rfl ?_ rfl ?_ rfl ?_ ?_
  · kernel_rfl
  · kernel_rfl
  · exact DAll.op' (sp_move rfl rfl) trivial rfl (From.ok (ps := []) trivial) (DAll.op' (sp_conv rfl Try.underlying5 Try.underlying3 rfl h2) trivial rfl (From.ok (ps := []) trivial) (DAll.op' (sp_fieldAddrB rfl isBlk rfl ft26_2 vt24 (by decide)) trivial rfl (From.ok (ps := [(none, 0)]) ⟨⟨rfl, rfl⟩, trivial⟩) (DAll.op' (sp_loadB rfl isBlk rfl vt24 rfl) trivial rfl (From.ok (ps := [(none, 0)]) ⟨⟨rfl, rfl⟩, trivial⟩) (DAll.op' (sp_lenM (N := r9.2.2.1.length) (len_map _ _) rfl rfl isOwn Try.underlying24) trivial rfl (From.ok (ps := [(none, 3)]) ⟨⟨rfl, rfl⟩, trivial⟩) (DAll.op' (sp_rem rfl rfl rfl h3) trivial rfl (From.ok (ps := []) trivial) (DAll.op' (sp_loadBA rfl isBlk rfl vt26 rfl rfl) trivial rfl (From.ok (ps := [(none, 0)]) ⟨⟨rfl, rfl⟩, trivial⟩) (DAll.op' (sp_indexA (len := 2) (iv := 0) rfl isBlk rfl rfl Try.underlying55 vt51 (by decide)) trivial rfl (From.ok (ps := [(none, 4)]) ⟨⟨rfl, rfl⟩, trivial⟩) (DAll.op' (sp_loadB rfl isBlk rfl vt51 rfl) trivial rfl (From.ok (ps := [(none, 4)]) ⟨⟨rfl, rfl⟩, trivial⟩) (DAll.op' (sp_call (avs := [.agg [.ref 7, .ref 8, .ref 9, vi r9.2.2.2.1, vi r9.2.2.2.2], .ref 3, vi 5]) (need := [.row 7 46 5 (List.map en_api_RoundTower r9.1), .row 8 30 1 (List.map en_Lint r9.2.1), .row 9 76 4 (List.map en_api_RoundWinder r9.2.2.1), .ro 3 1 (List.map en_uint8 by_7)]) (v := .ref 11) (news := [.row 11 3 1 (List.map en_int r10)]) rfl rfl rfl Try.call20 (atJ [(0, 7), (1, 8), (2, 9)] [(0, 11)] (fc_law11_some h4) rfl rfl) (.inr (List.forall_mem_cons.2 ⟨indep_map en_int_flat, (by simp)⟩))) trivial rfl (From.ok (ps := [(none, 1), (none, 2), (none, 3), (none, 9)]) ⟨⟨rfl, rfl⟩, ⟨rfl, rfl⟩, ⟨rfl, rfl⟩, ⟨rfl, rfl⟩, trivial⟩) (.nil))))))))))
  refine op0 (sp_assign rfl rfl) rfl trivial rfl rfl ?_
  refine op0 (sp_assign rfl rfl) rfl trivial rfl rfl ?_
  refine TL.nil ?_
  refine TC.seq ?_
  refine TC.region ?_
  refine op1 1 rfl (sp_loadBA rfl isBlk rfl vt26 rfl rfl) rfl trivial rfl rfl ?_
  refine TL.freeze 2 rfl ?_
  refine TL.freeze 3 rfl ?_
  refine TL.freeze 4 rfl ?_
  obtain ⟨r11, h5, h⟩ := bind_inv h
  refine opN (need := [.ro 7 5 (List.map en_api_RoundTower r9.1), .ro 8 1 (List.map en_Lint r9.2.1), .ro 9 4 (List.map en_api_RoundWinder r9.2.2.1)]) [2, 3, 4] ⟨rfl, rfl, rfl, trivial⟩ (sp_call (avs := [.agg [.ref 7, .ref 8, .ref 9, vi r9.2.2.2.1, vi r9.2.2.2.2]]) (need := [.ro 7 5 (List.map en_api_RoundTower r9.1), .ro 8 1 (List.map en_Lint r9.2.1), .ro 9 4 (List.map en_api_RoundWinder r9.2.2.1)]) (v := .agg [.ref 12, .ref 13, .ref 14, vi r11.2.2.2.1, vi r11.2.2.2.2]) (news := [.row 12 46 5 (List.map en_api_RoundTower r11.1), .row 13 30 1 (List.map en_Lint r11.2.1), .row 14 76 4 (List.map en_api_RoundWinder r11.2.2.1)]) rfl rfl rfl Try.call12 (atJ [(0, 7), (1, 8), (2, 9)] [(0, 12), (1, 13), (2, 14)] (fc_law11_copied h5) rfl rfl) (.inl (roAll rfl))) rfl trivial rfl rfl ?_
  refine op0 (sp_move rfl rfl) rfl trivial rfl rfl ?_
  refine op0 (sp_move rfl rfl) rfl trivial rfl rfl ?_
  obtain ⟨r12, h6, h⟩ := bind_inv h
  refine op1 3 rfl (sp_call (avs := [.ref 11]) (need := [.row 11 3 1 (List.map en_int r10)]) (v := .ref 15) (news := [.row 15 3 1 (List.map en_int r12)]) rfl rfl rfl Try.call22 (atJ [(0, 11)] [(0, 15)] (fc_law11_ints h6) rfl rfl) (.inr (List.forall_mem_cons.2 ⟨indep_map en_int_flat, (by simp)⟩))) rfl trivial rfl rfl ?_
  refine TL.freeze 1 rfl ?_
  refine TL.freeze 2 rfl ?_
  refine TL.freeze 3 rfl ?_
  refine TL.freeze 0 rfl ?_
  obtain ⟨r13, h7, h⟩ := bind_inv h
  refine opN (need := [.ro 12 5 (List.map en_api_RoundTower r11.1), .ro 13 1 (List.map en_Lint r11.2.1), .ro 14 4 (List.map en_api_RoundWinder r11.2.2.1), .ro 15 1 (List.map en_int r12)]) [1, 2, 3, 0] ⟨rfl, rfl, rfl, rfl, trivial⟩ (sp_call (avs := [.agg [.ref 12, .ref 13, .ref 14, vi r11.2.2.2.1, vi r11.2.2.2.2], vi (Int.tmod who6 (r9.2.2.1.length : Int)), .ref 15]) (need := [.ro 12 5 (List.map en_api_RoundTower r11.1), .ro 13 1 (List.map en_Lint r11.2.1), .ro 14 4 (List.map en_api_RoundWinder r11.2.2.1), .ro 15 1 (List.map en_int r12)]) (v := .tup [.ref 16, vi r13.2.1, vi r13.2.2]) (news := [.ro 16 1 (List.map en_int r13.1)]) rfl rfl rfl Try.call21 (atJ [(0, 12), (1, 13), (2, 14), (3, 15)] [(0, 16)] (fc_round_Best h7) rfl rfl) (.inl (roAll rfl))) rfl trivial rfl rfl ?_
  refine op0 (sp_move rfl rfl) rfl trivial rfl rfl ?_
  refine op0 (sp_extract rfl rfl rfl) rfl trivial rfl rfl ?_
  refine op0 (sp_extract rfl rfl rfl) rfl trivial rfl rfl ?_
  refine op0 (sp_extract rfl rfl rfl) rfl trivial rfl rfl ?_
  refine op0 (sp_assign rfl rfl) rfl trivial rfl rfl ?_
  refine op0 (sp_assign rfl rfl) rfl trivial rfl rfl ?_
  refine op0 (sp_assign rfl rfl) rfl trivial rfl rfl ?_
  refine TL.nil ?_
  refine TC.seq ?_
  refine TC.region ?_
  refine op0 (sp_emptyM 17 (List.map en_int []) rfl rfl sl30) rfl trivial rfl rfl ?_
  refine op0 (sp_assign rfl rfl) rfl trivial rfl rfl ?_
  refine TL.nil ?_
  refine TC.seq ?_
  refine TC.seq ?_
  refine TC.region ?_
  refine op0 (sp_assign rfl rfl) rfl trivial rfl rfl ?_
  refine TL.nil ?_
  refine TC.block ?_
  refine TC.loop ?_
  refine TC.seq ?_
  refine TC.seq ?_
  refine subJ [] (ok_law11_RoundLaw_l0 _ _ _ _ _ _ _ _ _ _ _ _ h) ?_ ?_ ?_
  · exact ⟨rfl, rfl, rfl, rfl, rfl, rfl, rfl, rfl, rfl, trivial⟩
  · exact ⟨mem_at 11 rfl, mem_at 7 rfl, mem_at 6 rfl, mem_at 1 rfl, mem_at 0 rfl, mem_at 16 rfl, mem_at 17 rfl, mem_at 8 rfl, mem_at 9 rfl, mem_at 10 rfl, trivial⟩
  · rfl
end
end Go.Proofs.Ytohjpfkcahlfkaa.Sy
