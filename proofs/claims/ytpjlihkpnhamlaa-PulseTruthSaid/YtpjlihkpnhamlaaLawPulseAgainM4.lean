/- LawPulseAgain: texts joined into one: GenP, EvL, Open, Copies, LawList, PulseFolRun, PulseRefCor, CorPlain. -/
import Derived.Test.YtpjlihkpnhamlaaProg
import Derived.ProofKit
import Derived.OpenShut
import Derived.Lib.SmallJoins
import Derived.Deep.SlicePairs
import Derived.Deep.DeepMust
import Derived.Test.YtpjlihkpnhamlaaLawPulseAgainM1
import Derived.Test.YtpjlihkpnhamlaaLawPulseAgainM2
import Derived.Test.YtpjlihkpnhamlaaLawPulseAgainM3

/- What functions of the program compute, and that they do: printed by symgen.py. -/
section
set_option linter.unusedSimpArgs false
set_option linter.unusedVariables false
namespace Go.Proofs.Ytpjlihkpnhamlaa.Sy
open Go.RowKit
noncomputable section

def en_api_PulseFault : Int × Int → List D := fun x => [D.v (.int .i64 x.1), D.v (.int .i64 x.2)]
theorem en_api_PulseFault_flat : ∀ a, ∀ d ∈ en_api_PulseFault a, ∃ x, d = D.v x := by
  intro a d h
  simp only [en_api_PulseFault, List.mem_cons, List.not_mem_nil, or_false] at h
  rcases h with rfl | rfl <;> exact ⟨_, rfl⟩
def en_api_PulseSeen : Int × Int → List D := fun x => [D.v (.int .i64 x.1), D.v (.int .i64 x.2)]
theorem en_api_PulseSeen_flat : ∀ a, ∀ d ∈ en_api_PulseSeen a, ∃ x, d = D.v x := by
  intro a d h
  simp only [en_api_PulseSeen, List.mem_cons, List.not_mem_nil, or_false] at h
  rcases h with rfl | rfl <;> exact ⟨_, rfl⟩
def en_uint8 : Int → List D := fun x => [D.v (.int .u8 x)]
theorem en_uint8_flat : ∀ a, ∀ d ∈ en_uint8 a, ∃ x, d = D.v x := by
  intro a d h
  simp only [en_uint8, List.mem_cons, List.not_mem_nil, or_false] at h
  rcases h with rfl <;> exact ⟨_, rfl⟩
theorem vt59 : VarT Try.prog 59 3 true := ⟨Try.isAgg59, Try.sizeOf59⟩
theorem ft59_0 : FieldT Try.prog 59 0 0 5 := ⟨_, _, Try.underlying59, rfl, rfl, rfl⟩
theorem vt5 : VarT Try.prog 5 1 false := ⟨Try.isAgg5, Try.sizeOf5⟩
theorem bt107 : ∀ parts, Try.prog.built 107 parts = Instr.fill (fun i => some (i * 1, 1)) (AV.denL (fun _ => undef) [.val (.int .i64 0), .val (.int .i64 0), .val (.int .i64 0), .val (.int .i64 0), .val (.int .i64 0), .val (.int .i64 0), .val (.int .i64 0), .val (.int .i64 0)]).toArray parts := fun _ => by kernel_rfl
theorem ft59_1 : FieldT Try.prog 59 1 1 5 := ⟨_, _, Try.underlying59, rfl, rfl, rfl⟩
theorem vt3 : VarT Try.prog 3 1 false := ⟨Try.isAgg3, Try.sizeOf3⟩
theorem bt24 : ∀ parts, Try.prog.built 24 parts = Instr.fill (fun i => (#[(0, 1), (1, 1), (2, 1)] : Array (Nat × Nat))[i]?) (AV.denL (fun _ => undef) [.val (.int .i64 0), .val (.int .i64 0), .val (.int .i64 0)]).toArray parts := fun _ => by kernel_rfl
theorem vt24 : VarT Try.prog 24 3 true := ⟨Try.isAgg24, Try.sizeOf24⟩
theorem ft59_2 : FieldT Try.prog 59 2 2 5 := ⟨_, _, Try.underlying59, rfl, rfl, rfl⟩
theorem ft24_1 : FieldT Try.prog 24 1 1 3 := ⟨_, _, Try.underlying24, rfl, rfl, rfl⟩
theorem ft24_2 : FieldT Try.prog 24 2 2 3 := ⟨_, _, Try.underlying24, rfl, rfl, rfl⟩
theorem sl26 : SlT Try.prog 26 67 2 16 := ⟨Try.underlying26, ⟨Try.t67, _, by kernel_rfl, rfl, rfl, rfl, rfl⟩, by decide⟩
theorem sl60 : SlT Try.prog 60 5 1 1 := ⟨Try.underlying60, ⟨Try.t5, _, by kernel_rfl, rfl, rfl, rfl, rfl⟩, by decide⟩
theorem ft24_0 : FieldT Try.prog 24 0 0 22 := ⟨_, _, Try.underlying24, rfl, rfl, rfl⟩
theorem vt22 : VarT Try.prog 22 1 false := ⟨Try.isAgg22, Try.sizeOf22⟩
theorem bt67 : ∀ parts, Try.prog.built 67 parts = Instr.fill (fun i => (#[(0, 1), (1, 1)] : Array (Nat × Nat))[i]?) (AV.denL (fun _ => undef) [.val (.int .i64 0), .val (.int .i64 0)]).toArray parts := fun _ => by kernel_rfl
theorem ft67_1 : FieldT Try.prog 67 1 1 65 := ⟨_, _, Try.underlying67, rfl, rfl, rfl⟩
theorem vt65 : VarT Try.prog 65 1 false := ⟨Try.isAgg65, Try.sizeOf65⟩
theorem ft67_0 : FieldT Try.prog 67 0 0 3 := ⟨_, _, Try.underlying67, rfl, rfl, rfl⟩
theorem vt69 : VarT Try.prog 69 1 false := ⟨Try.isAgg69, Try.sizeOf69⟩
theorem vt67 : VarT Try.prog 67 2 true := ⟨Try.isAgg67, Try.sizeOf67⟩
theorem ft76_0 : FieldT Try.prog 76 0 0 59 := ⟨_, _, Try.underlying76, rfl, rfl, rfl⟩
theorem ft76_1 : FieldT Try.prog 76 1 3 74 := ⟨_, _, Try.underlying76, rfl, rfl, rfl⟩
theorem vt74 : VarT Try.prog 74 2 true := ⟨Try.isAgg74, Try.sizeOf74⟩
theorem ft76_2 : FieldT Try.prog 76 2 5 60 := ⟨_, _, Try.underlying76, rfl, rfl, rfl⟩
theorem vt60 : VarT Try.prog 60 1 false := ⟨Try.isAgg60, Try.sizeOf60⟩
theorem ft76_3 : FieldT Try.prog 76 3 6 60 := ⟨_, _, Try.underlying76, rfl, rfl, rfl⟩
theorem sl50 : SlT Try.prog 50 53 2 16 := ⟨Try.underlying50, ⟨Try.t53, _, by kernel_rfl, rfl, rfl, rfl, rfl⟩, by decide⟩
theorem bt53 : ∀ parts, Try.prog.built 53 parts = Instr.fill (fun i => (#[(0, 1), (1, 1)] : Array (Nat × Nat))[i]?) (AV.denL (fun _ => undef) [.val (.int .i64 0), .val (.int .i64 0)]).toArray parts := fun _ => by kernel_rfl
theorem vt53 : VarT Try.prog 53 2 true := ⟨Try.isAgg53, Try.sizeOf53⟩
/- law09_Wired_line -/
def ev_law09_Wired_line (n : Nat) (w1 : Int) (w2 : Int) (w3 : Int) : Option (Int × Int × Int) :=
  chk (inK .u8 ((1 : Int) + (Int.tmod w1 3))) <| chk (in64 ((1 : Int) + (Int.tmod w1 3))) <| chk (decide (0 ≤ (Int.tmod w2 8)) && decide ((Int.tmod w2 8) < 8)) <| idx ([5, 6, 10, 12, 30, 60, 120, 2] : List Int) (Int.tmod w2 8) fun x4 => chk (in64 w3) <| chk (in64 (x4 - 1)) <| chk (in64 (Int.tdiv (x4 - 1) 2)) <| chk (in64 ((Int.tdiv (x4 - 1) 2) + 1)) <| chk (((Int.tdiv (x4 - 1) 2) + 1) != 0) <| some (((1 : Int) + (Int.tmod w1 3)), x4, (Int.tmod w3 ((Int.tdiv (x4 - 1) 2) + 1)))
set_option maxRecDepth 100000 in
set_option maxHeartbeats 2000000 in
theorem fc_law09_Wired_line {n : Nat} {w1 : Int} {w2 : Int} {w3 : Int} {r : Int × Int × Int} (h : ev_law09_Wired_line n w1 w2 w3 = some r) : FC Try.prog 29 [.agg [.val (.int .u8 w1), .val (.int .u8 w2), .val (.int .u8 w3)]] [] (.agg [.val (.int .i64 r.1), .val (.int .i64 r.2.1), .val (.int .i64 r.2.2)]) [] := by
  refine introJ (sz := 26) Try.func29 rfl rfl rfl (fun w0 R0 env0 => ?_)
  rw [ev_law09_Wired_line] at h
  refine TC.seq ?_
  refine TC.region ?_
  refine op0 (sp_box 0 rfl rfl rfl rfl rfl) rfl trivial rfl rfl ?_
  refine op0 (sp_alloc 1 rfl Try.zeroValue24 rfl) rfl trivial rfl rfl ?_
  refine TL.nil ?_
  refine TC.seq ?_
  obtain ⟨h1, h⟩ := chk_inv h
  obtain ⟨h2, h⟩ := chk_inv h
  obtain ⟨h5, h⟩ := chk_inv h
  obtain ⟨x4, h3, h4, h⟩ := idx_inv h
  refine drawJ 12 [⟨.ptr 0 0, [], [.blk 0 [.val (.int .u8 w1), .val (.int .u8 w2), .val (.int .u8 w3)] 59], []⟩, ⟨.val (.int .u8 w1), [], [.blk 0 [.val (.int .u8 w1), .val (.int .u8 w2), .val (.int .u8 w3)] 59], []⟩, ⟨.val (.int .u8 (Int.tmod w1 3)), [], [], []⟩, ⟨.val (.int .u8 ((1 : Int) + (Int.tmod w1 3))), [], [], []⟩, ⟨.val (.int .i64 ((1 : Int) + (Int.tmod w1 3))), [], [], []⟩, ⟨.agg [.val (.int .i64 5), .val (.int .i64 6), .val (.int .i64 10), .val (.int .i64 12), .val (.int .i64 30), .val (.int .i64 60), .val (.int .i64 120), .val (.int .i64 2)], [], [], []⟩, ⟨.ptr 0 1, [], [.blk 0 [.val (.int .u8 w1), .val (.int .u8 w2), .val (.int .u8 w3)] 59], []⟩, ⟨.val (.int .u8 w2), [], [.blk 0 [.val (.int .u8 w1), .val (.int .u8 w2), .val (.int .u8 w3)] 59], []⟩, ⟨.val (.int .u8 (Int.tmod w2 8)), [], [], []⟩, ⟨.val (.int .i64 x4), [], [], []⟩, ⟨.agg [.val (.int .i64 ((1 : Int) + (Int.tmod w1 3))), .val (.int .i64 x4), .val (.int .i64 0)], [], [], []⟩, ⟨.ptr 2 0, [.blk 2 [.val (.int .i64 0), .val (.int .i64 0), .val (.int .i64 0)] 24], [], []⟩] rfl ?_ rfl ?_ rfl ?_ ?_
  · kernel_rfl
  · kernel_rfl
  · exact DAll.op' (sp_fieldAddrB rfl isBlk rfl ft59_0 vt5 (by decide)) trivial rfl (From.ok (ps := [(none, 1)]) ⟨⟨rfl, rfl⟩, trivial⟩) (DAll.op' (sp_loadB rfl isBlk rfl vt5 rfl) trivial rfl (From.ok (ps := [(none, 1)]) ⟨⟨rfl, rfl⟩, trivial⟩) (DAll.op' (sp_rem rfl rfl rfl (by decide)) trivial rfl (From.ok (ps := []) trivial) (DAll.op' (sp_add rfl rfl rfl h1) trivial rfl (From.ok (ps := []) trivial) (DAll.op' (sp_conv rfl Try.underlying5 Try.underlying22 rfl h2) trivial rfl (From.ok (ps := []) trivial) (DAll.op' (sp_build (qs := [(0, .val (.int .i64 5)), (1, .val (.int .i64 6)), (2, .val (.int .i64 10)), (3, .val (.int .i64 12)), (4, .val (.int .i64 30)), (5, .val (.int .i64 60)), (6, .val (.int .i64 120)), (7, .val (.int .i64 2))]) rfl bt107 rfl rfl rfl rfl) trivial rfl (From.ok (ps := []) trivial) (DAll.op' (sp_fieldAddrB rfl isBlk rfl ft59_1 vt5 (by decide)) trivial rfl (From.ok (ps := [(none, 1)]) ⟨⟨rfl, rfl⟩, trivial⟩) (DAll.op' (sp_loadB rfl isBlk rfl vt5 rfl) trivial rfl (From.ok (ps := [(none, 1)]) ⟨⟨rfl, rfl⟩, trivial⟩) (DAll.op' (sp_rem rfl rfl rfl (by decide)) trivial rfl (From.ok (ps := []) trivial) (DAll.op' (sp_index rfl rfl rfl Try.underlying107 vt3 h5 (map_get (fun z => AV.val (.int .i64 z)) h4)) trivial rfl (From.ok (ps := []) trivial) (DAll.op' (sp_build (qs := [(0, .val (.int .i64 ((1 : Int) + (Int.tmod w1 3)))), (1, .val (.int .i64 x4))]) rfl bt24 rfl rfl rfl rfl) trivial rfl (From.ok (ps := []) trivial) (DAll.op' (sp_alloc 2 rfl Try.zeroValue24 rfl) trivial rfl (From.ok (ps := []) trivial) (.nil))))))))))))
  refine stoB 0 (cells' := [.val (.int .i64 ((1 : Int) + (Int.tmod w1 3))), .val (.int .i64 x4), .val (.int .i64 0)]) rfl rfl trivial rfl rfl rfl rfl vt24 rfl rfl rfl ?_
  refine TL.nil ?_
  refine TC.seq ?_
  refine TC.region ?_
  refine op1 2 rfl (sp_fieldAddrB rfl isBlk rfl ft59_2 vt5 (by decide)) rfl trivial rfl rfl ?_
  refine op1 2 rfl (sp_loadB rfl isBlk rfl vt5 rfl) rfl trivial rfl rfl ?_
  obtain ⟨h6, h⟩ := chk_inv h
  refine op0 (sp_conv rfl Try.underlying5 Try.underlying3 rfl h6) rfl trivial rfl rfl ?_
  refine op1 0 rfl (sp_fieldAddrB rfl isBlk rfl ft24_1 vt3 (by decide)) rfl trivial rfl rfl ?_
  refine op1 0 rfl (sp_loadB rfl isBlk rfl vt3 rfl) rfl trivial rfl rfl ?_
  obtain ⟨h7, h⟩ := chk_inv h
  refine op0 (sp_sub rfl rfl rfl h7) rfl trivial rfl rfl ?_
  obtain ⟨h8, h⟩ := chk_inv h
  refine op0 (sp_quo rfl rfl rfl (by decide) h8) rfl trivial rfl rfl ?_
  obtain ⟨h9, h⟩ := chk_inv h
  refine op0 (sp_add rfl rfl rfl h9) rfl trivial rfl rfl ?_
  obtain ⟨h10, h⟩ := chk_inv h
  refine op0 (sp_rem rfl rfl rfl h10) rfl trivial rfl rfl ?_
  refine op1 0 rfl (sp_fieldAddrB rfl isBlk rfl ft24_2 vt3 (by decide)) rfl trivial rfl rfl ?_
  refine stoB 0 (cells' := [.val (.int .i64 ((1 : Int) + (Int.tmod w1 3))), .val (.int .i64 x4), .val (.int .i64 (Int.tmod w3 ((Int.tdiv (x4 - 1) 2) + 1)))]) rfl rfl trivial rfl rfl rfl rfl vt3 rfl rfl rfl ?_
  refine TL.nil ?_
  refine TC.seq ?_
  refine TC.region ?_
  refine op1 0 rfl (sp_loadBA rfl isBlk rfl vt24 rfl rfl) rfl trivial rfl rfl ?_
  refine stoB 1 (cells' := [.val (.int .i64 ((1 : Int) + (Int.tmod w1 3))), .val (.int .i64 x4), .val (.int .i64 (Int.tmod w3 ((Int.tdiv (x4 - 1) 2) + 1)))]) rfl rfl trivial rfl rfl rfl rfl vt24 rfl rfl rfl ?_
  refine TL.nil ?_
  cases h
  exact retJ [] (.cells rfl (mem_at 1 rfl) isBlk vt24 rfl rfl (.nil)) rfl trivial rfl rfl
/- law09_list -/
def ev_law09_list_j1 (n : Nat) (l9 : List Int) (i8 : Int) (i7 : Int) (until5 : Int) (l13 : List (Int × Int)) (i10 : Int) (i11 : Int) (i12 : Int) (k_law09_list_l0 : Int → Int → (List Int) → Int → Int → Int → (List (Int × Int)) → Option ((List (Int × Int)))) : Option ((List (Int × Int))) :=
  idx l9 i8 fun x14 => chk (in64 x14) <| chk (in64 (Int.tdiv x14 4)) <| chk (in64 ((1 : Int) + (Int.tmod (Int.tdiv x14 4) 8))) <| chk (in64 (i7 + ((1 : Int) + (Int.tmod (Int.tdiv x14 4) 8)))) <| cond (decide (until5 < (i7 + ((1 : Int) + (Int.tmod (Int.tdiv x14 4) 8))))) (some l13) (cond (i10 != 0) (chk (i11 != 0) <| cond ((Int.tmod (i7 + ((1 : Int) + (Int.tmod (Int.tdiv x14 4) 8))) i11) == 0) (chk (in64 (i8 + 1)) <| k_law09_list_l0 (i7 + ((1 : Int) + (Int.tmod (Int.tdiv x14 4) 8))) (i8 + 1) l9 i10 i11 i12 l13) (chk (inK .u8 ((1 : Int) + (Int.tmod x14 2))) <| chk (in64 ((1 : Int) + (Int.tmod x14 2))) <| chk (room 16 (l13.length + ([((i7 + ((1 : Int) + (Int.tmod (Int.tdiv x14 4) 8))), ((1 : Int) + (Int.tmod x14 2)))] : List (Int × Int)).length)) <| chk (in64 (i8 + 1)) <| k_law09_list_l0 (i7 + ((1 : Int) + (Int.tmod (Int.tdiv x14 4) 8))) (i8 + 1) l9 i10 i11 i12 (l13 ++ ([((i7 + ((1 : Int) + (Int.tmod (Int.tdiv x14 4) 8))), ((1 : Int) + (Int.tmod x14 2)))] : List (Int × Int))))) (chk (inK .u8 ((1 : Int) + (Int.tmod x14 2))) <| chk (in64 ((1 : Int) + (Int.tmod x14 2))) <| chk (room 16 (l13.length + ([((i7 + ((1 : Int) + (Int.tmod (Int.tdiv x14 4) 8))), ((1 : Int) + (Int.tmod x14 2)))] : List (Int × Int)).length)) <| chk (in64 (i8 + 1)) <| k_law09_list_l0 (i7 + ((1 : Int) + (Int.tmod (Int.tdiv x14 4) 8))) (i8 + 1) l9 i10 i11 i12 (l13 ++ ([((i7 + ((1 : Int) + (Int.tmod (Int.tdiv x14 4) 8))), ((1 : Int) + (Int.tmod x14 2)))] : List (Int × Int)))))
set_option maxRecDepth 100000 in
set_option maxHeartbeats 2000000 in
theorem ok_law09_list_j1 {n : Nat} {w0 : World} {R0 : Nat → Prop} {env0 : Env} {r : (List (Int × Int))} {until5 : Int} {l9 : List Int} {i8 : Int} {i7 : Int} {l13 : List (Int × Int)} {i10 : Int} {i11 : Int} {i12 : Int} {k_law09_list_l0 : Int → Int → (List Int) → Int → Int → Int → (List (Int × Int)) → Option ((List (Int × Int)))} (hk_law09_list_l0 : ∀ (i7 : Int) (i8 : Int) (l9 : List Int) (i10 : Int) (i11 : Int) (i12 : Int) (l13 : List (Int × Int)), k_law09_list_l0 i7 i8 l9 i10 i11 i12 l13 = some r → TC Try.prog ⟨w0, fun _ => False, R0⟩ 61 (bodyPost Try.prog Try.f30 (Post ⟨w0, fun _ => False, R0⟩ env0 (.ref 0) [.row 0 67 2 (List.map en_api_PulseFault r)])) [.code (sub (bodyOf Try.f30) [1, 1, 0, 1, 0, 0, 0, 0]), .code (sub (bodyOf Try.f30) [1, 1, 0, 1, 0, 0, 0, 1]), .code (sub (bodyOf Try.f30) [1, 1, 0, 1, 0, 0, 1]), .inLoop (sub (bodyOf Try.f30) [1, 1, 0, 1, 0, 0]), .inBlock 0, .code (sub (bodyOf Try.f30) [1, 1, 1])] [(2, .val (.int .i64 until5)), (3, .ref 0), (4, .ptr 1 0), (9, .ref 2), (10, .val (.int .i64 i7)), (11, .val (.int .i64 i8))] [.ro 0 1 (List.map en_uint8 l9), .blk 1 [.val (.int .i64 i10), .val (.int .i64 i11), .val (.int .i64 i12)] 24, .row 2 67 2 (List.map en_api_PulseFault l13)]) (h : ev_law09_list_j1 n l9 i8 i7 until5 l13 i10 i11 i12 k_law09_list_l0 = some r) : TC Try.prog ⟨w0, fun _ => False, R0⟩ 61 (bodyPost Try.prog Try.f30 (Post ⟨w0, fun _ => False, R0⟩ env0 (.ref 0) [.row 0 67 2 (List.map en_api_PulseFault r)])) [.code (sub (bodyOf Try.f30) [1, 1, 0, 1, 0, 0, 0, 1, 0]), .code (sub (bodyOf Try.f30) [1, 1, 0, 1, 0, 0, 1]), .inLoop (sub (bodyOf Try.f30) [1, 1, 0, 1, 0, 0]), .inBlock 0, .code (sub (bodyOf Try.f30) [1, 1, 1])] [(2, .val (.int .i64 until5)), (3, .ref 0), (4, .ptr 1 0), (9, .ref 2), (10, .val (.int .i64 i7)), (11, .val (.int .i64 i8))] [.ro 0 1 (List.map en_uint8 l9), .blk 1 [.val (.int .i64 i10), .val (.int .i64 i11), .val (.int .i64 i12)] 24, .row 2 67 2 (List.map en_api_PulseFault l13)] := by
  rw [ev_law09_list_j1] at h
  refine TC.skip ?_
  refine TC.seq ?_
  refine TC.block ?_
  refine TC.seq ?_
  refine TC.region ?_
  refine op0 (sp_move rfl rfl) rfl trivial rfl rfl ?_
  refine op0 (sp_move rfl rfl) rfl trivial rfl rfl ?_
  refine op0 (sp_move rfl rfl) rfl trivial rfl rfl ?_
  obtain ⟨x14, h3, h4, h⟩ := idx_inv h
  refine op1 0 rfl (sp_indexS rfl rfl rfl isRo sl60 h3 (map_get _ h4)) rfl trivial rfl rfl ?_
  refine op1 0 rfl (sp_loadR (i := (i8 : Int).toNat) (j := 0) rfl rfl isRo vt5 rfl (map_get _ h4) rfl (.v (.nil)) (nodup_of_B rfl)) rfl trivial rfl rfl ?_
  obtain ⟨h5, h⟩ := chk_inv h
  refine op0 (sp_conv rfl Try.underlying5 Try.underlying3 rfl h5) rfl trivial rfl rfl ?_
  obtain ⟨h6, h⟩ := chk_inv h
  refine op0 (sp_quo rfl rfl rfl (by decide) h6) rfl trivial rfl rfl ?_
  refine op0 (sp_rem rfl rfl rfl (by decide)) rfl trivial rfl rfl ?_
  obtain ⟨h7, h⟩ := chk_inv h
  refine op0 (sp_add rfl rfl rfl h7) rfl trivial rfl rfl ?_
  obtain ⟨h8, h⟩ := chk_inv h
  refine op0 (sp_add rfl rfl rfl h8) rfl trivial rfl rfl ?_
  refine op0 (sp_assign rfl rfl) rfl trivial rfl rfl ?_
  refine TL.nil ?_
  refine TC.seq ?_
  refine TC.seq ?_
  refine TC.region ?_
  refine op0 (sp_move rfl rfl) rfl trivial rfl rfl ?_
  refine op0 (sp_move rfl rfl) rfl trivial rfl rfl ?_
  refine op0 (sp_gtr rfl rfl rfl) rfl trivial rfl rfl ?_
  refine TL.nil ?_
  refine TC.cond (b := (decide (until5 < (i7 + ((1 : Int) + (Int.tmod (Int.tdiv x14 4) 8)))))) rfl (fun h9 => ?_) (fun h9 => ?_)
  · have h := cond_t h h9
    refine TC.exit rfl ?_
    refine TC.seq ?_
    refine TC.region ?_
    refine op0 (sp_move rfl rfl) rfl trivial rfl rfl ?_
    refine op0 (sp_assign rfl rfl) rfl trivial rfl rfl ?_
    refine TL.nil ?_
    cases h
    exact retJ [(0, 2)] (.tmp rfl .nil) rfl ⟨mem_at 2 rfl, trivial⟩ rfl rfl
  · have h := cond_f h h9
    refine TC.skip ?_
    refine TC.seq ?_
    refine TC.seq ?_
    refine TC.region ?_
    refine op1 1 rfl (sp_fieldAddrB rfl isBlk rfl ft24_0 vt22 (by decide)) rfl trivial rfl rfl ?_
    refine op1 1 rfl (sp_loadB rfl isBlk rfl vt22 rfl) rfl trivial rfl rfl ?_
    refine op0 (sp_neq rfl rfl rfl) rfl trivial rfl rfl ?_
    refine op0 (sp_move rfl rfl) rfl trivial rfl rfl ?_
    rcases cond_cases h with ⟨h10, h⟩ | ⟨h10, h⟩
    · refine (boolLit 41 rfl h10).2 ?_
      refine op0 (sp_move rfl rfl) rfl ⟨_, rfl, rfl⟩ rfl rfl ?_
      refine op1 1 rfl (sp_fieldAddrB rfl isBlk rfl ft24_1 vt3 (by decide)) rfl ⟨_, rfl, rfl⟩ rfl rfl ?_
      refine op1 1 rfl (sp_loadB rfl isBlk rfl vt3 rfl) rfl ⟨_, rfl, rfl⟩ rfl rfl ?_
      obtain ⟨h11, h⟩ := chk_inv h
      refine op0 (sp_rem rfl rfl rfl h11) rfl ⟨_, rfl, rfl⟩ rfl rfl ?_
      refine op0 (sp_eql rfl rfl rfl) rfl ⟨_, rfl, rfl⟩ rfl rfl ?_
      refine op0 (sp_pickT rfl rfl rfl) rfl trivial rfl rfl ?_
      refine TL.nil ?_
      refine TC.cond (b := ((Int.tmod (i7 + ((1 : Int) + (Int.tmod (Int.tdiv x14 4) 8))) i11) == 0)) rfl (fun h12 => ?_) (fun h12 => ?_)
      · have h := cond_t h h12
        refine TC.exit rfl ?_
        refine TC.region ?_
        refine op0 (sp_move rfl rfl) rfl trivial rfl rfl ?_
        obtain ⟨h13, h⟩ := chk_inv h
        refine op0 (sp_add rfl rfl rfl h13) rfl trivial rfl rfl ?_
        refine op0 (sp_assign rfl rfl) rfl trivial rfl rfl ?_
        refine TL.nil ?_
        refine TC.inLoop ?_
        refine TC.seq ?_
        refine TC.seq ?_
        refine subJ [] (hk_law09_list_l0 _ _ _ _ _ _ _ h) ?_ ?_ ?_
        · exact ⟨rfl, rfl, rfl, rfl, rfl, rfl, trivial⟩
        · exact ⟨mem_at 0 rfl, mem_at 1 rfl, mem_at 2 rfl, trivial⟩
        · rfl
      · have h := cond_f h h12
        refine TC.skip ?_
        refine TC.region ?_
        refine op0 (sp_move rfl rfl) rfl trivial rfl rfl ?_
        refine op0 (sp_move rfl rfl) rfl trivial rfl rfl ?_
        refine op0 (sp_move rfl rfl) rfl trivial rfl rfl ?_
        refine op0 (sp_move rfl rfl) rfl trivial rfl rfl ?_
        refine op1 0 rfl (sp_indexS rfl rfl rfl isRo sl60 h3 (map_get _ h4)) rfl trivial rfl rfl ?_
        refine op1 0 rfl (sp_loadR (i := (i8 : Int).toNat) (j := 0) rfl rfl isRo vt5 rfl (map_get _ h4) rfl (.v (.nil)) (nodup_of_B rfl)) rfl trivial rfl rfl ?_
        refine op0 (sp_rem rfl rfl rfl (by decide)) rfl trivial rfl rfl ?_
        obtain ⟨h14, h⟩ := chk_inv h
        refine op0 (sp_add rfl rfl rfl h14) rfl trivial rfl rfl ?_
        obtain ⟨h15, h⟩ := chk_inv h
        refine op0 (sp_conv rfl Try.underlying5 Try.underlying65 rfl h15) rfl trivial rfl rfl ?_
        refine op0 (sp_build (qs := [(0, .val (.int .i64 (i7 + ((1 : Int) + (Int.tmod (Int.tdiv x14 4) 8))))), (1, .val (.int .i64 ((1 : Int) + (Int.tmod x14 2))))]) rfl bt67 rfl rfl rfl rfl) rfl trivial rfl rfl ?_
        refine op0 (sp_buildSlice (qs := [.agg [.val (.int .i64 (i7 + ((1 : Int) + (Int.tmod (Int.tdiv x14 4) 8)))), .val (.int .i64 ((1 : Int) + (Int.tmod x14 2)))]]) (need := []) (els := List.map en_api_PulseFault ([((i7 + ((1 : Int) + (Int.tmod (Int.tdiv x14 4) 8))), ((1 : Int) + (Int.tmod x14 2)))] : List (Int × Int))) 3 rfl sl26 (by decide) (by decide) rfl rfl rfl (.v (.v (.nil))) (map_len fun _ => rfl) rfl rfl rfl) rfl trivial rfl rfl ?_
        obtain ⟨h16, h⟩ := chk_inv h
        refine appM 3 0 (N := l13.length) (N2 := ([((i7 + ((1 : Int) + (Int.tmod (Int.tdiv x14 4) 8))), ((1 : Int) + (Int.tmod x14 2)))] : List (Int × Int)).length) 4 rfl rfl trivial rfl rfl rfl rfl rfl isOwn rfl sl26 (len_map _ _) (len_map _ _) h16 (map_app _ _ _) rfl ?_
        refine op0 (sp_assign rfl rfl) rfl trivial rfl rfl ?_
        refine TL.nil ?_
        refine TC.inBlock ?_
        refine TC.region ?_
        refine op0 (sp_move rfl rfl) rfl trivial rfl rfl ?_
        obtain ⟨h17, h⟩ := chk_inv h
        refine op0 (sp_add rfl rfl rfl h17) rfl trivial rfl rfl ?_
        refine op0 (sp_assign rfl rfl) rfl trivial rfl rfl ?_
        refine TL.nil ?_
        refine TC.inLoop ?_
        refine TC.seq ?_
        refine TC.seq ?_
        refine subJ [(2, 4)] (hk_law09_list_l0 _ _ _ _ _ _ _ h) ?_ ?_ ?_
        · exact ⟨rfl, rfl, rfl, rfl, rfl, rfl, trivial⟩
        · exact ⟨mem_at 2 rfl, mem_at 3 rfl, mem_at 0 rfl, trivial⟩
        · rfl
    · refine (boolLit 41 rfl h10).2 ?_
      refine opSkip rfl ⟨_, rfl, .inl rfl⟩ rfl ?_
      refine opSkip rfl ⟨_, rfl, .inl rfl⟩ rfl ?_
      refine opSkip rfl ⟨_, rfl, .inl rfl⟩ rfl ?_
      refine opSkip rfl ⟨_, rfl, .inl rfl⟩ rfl ?_
      refine opSkip rfl ⟨_, rfl, .inl rfl⟩ rfl ?_
      refine op0 (sp_pickF rfl rfl rfl) rfl trivial rfl rfl ?_
      refine TL.nil ?_
      refine TC.condF rfl ?_
      refine TC.skip ?_
      refine TC.region ?_
      refine op0 (sp_move rfl rfl) rfl trivial rfl rfl ?_
      refine op0 (sp_move rfl rfl) rfl trivial rfl rfl ?_
      refine op0 (sp_move rfl rfl) rfl trivial rfl rfl ?_
      refine op0 (sp_move rfl rfl) rfl trivial rfl rfl ?_
      refine op1 0 rfl (sp_indexS rfl rfl rfl isRo sl60 h3 (map_get _ h4)) rfl trivial rfl rfl ?_
      refine op1 0 rfl (sp_loadR (i := (i8 : Int).toNat) (j := 0) rfl rfl isRo vt5 rfl (map_get _ h4) rfl (.v (.nil)) (nodup_of_B rfl)) rfl trivial rfl rfl ?_
      refine op0 (sp_rem rfl rfl rfl (by decide)) rfl trivial rfl rfl ?_
      obtain ⟨h18, h⟩ := chk_inv h
      refine op0 (sp_add rfl rfl rfl h18) rfl trivial rfl rfl ?_
      obtain ⟨h19, h⟩ := chk_inv h
      refine op0 (sp_conv rfl Try.underlying5 Try.underlying65 rfl h19) rfl trivial rfl rfl ?_
      refine op0 (sp_build (qs := [(0, .val (.int .i64 (i7 + ((1 : Int) + (Int.tmod (Int.tdiv x14 4) 8))))), (1, .val (.int .i64 ((1 : Int) + (Int.tmod x14 2))))]) rfl bt67 rfl rfl rfl rfl) rfl trivial rfl rfl ?_
      refine op0 (sp_buildSlice (qs := [.agg [.val (.int .i64 (i7 + ((1 : Int) + (Int.tmod (Int.tdiv x14 4) 8)))), .val (.int .i64 ((1 : Int) + (Int.tmod x14 2)))]]) (need := []) (els := List.map en_api_PulseFault ([((i7 + ((1 : Int) + (Int.tmod (Int.tdiv x14 4) 8))), ((1 : Int) + (Int.tmod x14 2)))] : List (Int × Int))) 5 rfl sl26 (by decide) (by decide) rfl rfl rfl (.v (.v (.nil))) (map_len fun _ => rfl) rfl rfl rfl) rfl trivial rfl rfl ?_
      obtain ⟨h20, h⟩ := chk_inv h
      refine appM 3 0 (N := l13.length) (N2 := ([((i7 + ((1 : Int) + (Int.tmod (Int.tdiv x14 4) 8))), ((1 : Int) + (Int.tmod x14 2)))] : List (Int × Int)).length) 6 rfl rfl trivial rfl rfl rfl rfl rfl isOwn rfl sl26 (len_map _ _) (len_map _ _) h20 (map_app _ _ _) rfl ?_
      refine op0 (sp_assign rfl rfl) rfl trivial rfl rfl ?_
      refine TL.nil ?_
      refine TC.inBlock ?_
      refine TC.region ?_
      refine op0 (sp_move rfl rfl) rfl trivial rfl rfl ?_
      obtain ⟨h21, h⟩ := chk_inv h
      refine op0 (sp_add rfl rfl rfl h21) rfl trivial rfl rfl ?_
      refine op0 (sp_assign rfl rfl) rfl trivial rfl rfl ?_
      refine TL.nil ?_
      refine TC.inLoop ?_
      refine TC.seq ?_
      refine TC.seq ?_
      refine subJ [(2, 6)] (hk_law09_list_l0 _ _ _ _ _ _ _ h) ?_ ?_ ?_
      · exact ⟨rfl, rfl, rfl, rfl, rfl, rfl, trivial⟩
      · exact ⟨mem_at 2 rfl, mem_at 3 rfl, mem_at 0 rfl, trivial⟩
      · rfl
def ev_law09_list_l0 (n : Nat) (until5 : Int) : Nat → Int → Int → (List Int) → Int → Int → Int → (List (Int × Int)) → Option ((List (Int × Int)))
  | 0, _, _, _, _, _, _, _ => none
  | m + 1, i7, i8, l9, i10, i11, i12, l13 => cond (decide (i8 < (l9.length : Int))) (cond (decide ((l13.length : Int) < 20)) (ev_law09_list_j1 n l9 i8 i7 until5 l13 i10 i11 i12 (fun i7q i8q l9q i10q i11q i12q l13q => ev_law09_list_l0 n until5 m i7q i8q l9q i10q i11q i12q l13q)) (some l13)) (some l13)
set_option maxRecDepth 100000 in
set_option maxHeartbeats 2000000 in
theorem ok_law09_list_l0 {n : Nat} {w0 : World} {R0 : Nat → Prop} {env0 : Env} {r : (List (Int × Int))} {until5 : Int} : ∀ (m : Nat) (i7 : Int) (i8 : Int) (l9 : List Int) (i10 : Int) (i11 : Int) (i12 : Int) (l13 : List (Int × Int)), ev_law09_list_l0 n until5 m i7 i8 l9 i10 i11 i12 l13 = some r → TC Try.prog ⟨w0, fun _ => False, R0⟩ 61 (bodyPost Try.prog Try.f30 (Post ⟨w0, fun _ => False, R0⟩ env0 (.ref 0) [.row 0 67 2 (List.map en_api_PulseFault r)])) [.code (sub (bodyOf Try.f30) [1, 1, 0, 1, 0, 0, 0, 0]), .code (sub (bodyOf Try.f30) [1, 1, 0, 1, 0, 0, 0, 1]), .code (sub (bodyOf Try.f30) [1, 1, 0, 1, 0, 0, 1]), .inLoop (sub (bodyOf Try.f30) [1, 1, 0, 1, 0, 0]), .inBlock 0, .code (sub (bodyOf Try.f30) [1, 1, 1])] [(2, .val (.int .i64 until5)), (3, .ref 0), (4, .ptr 1 0), (9, .ref 2), (10, .val (.int .i64 i7)), (11, .val (.int .i64 i8))] [.ro 0 1 (List.map en_uint8 l9), .blk 1 [.val (.int .i64 i10), .val (.int .i64 i11), .val (.int .i64 i12)] 24, .row 2 67 2 (List.map en_api_PulseFault l13)] := by
  intro m
  induction m with
  | zero => intro i7 i8 l9 i10 i11 i12 l13 h; exact none_no h
  | succ m ih =>
    intro i7 i8 l9 i10 i11 i12 l13 h
    rw [ev_law09_list_l0] at h
    refine TC.region ?_
    refine op0 (sp_move rfl rfl) rfl trivial rfl rfl ?_
    refine op0 (sp_move rfl rfl) rfl trivial rfl rfl ?_
    refine op1 0 rfl (sp_lenM (N := l9.length) (len_map _ _) rfl rfl isRo Try.underlying60) rfl trivial rfl rfl ?_
    refine op0 (sp_lss rfl rfl rfl) rfl trivial rfl rfl ?_
    refine op0 (sp_move rfl rfl) rfl trivial rfl rfl ?_
    rcases cond_cases h with ⟨h1, h⟩ | ⟨h1, h⟩
    · refine (boolLit 18 rfl h1).2 ?_
      refine op0 (sp_move rfl rfl) rfl ⟨_, rfl, rfl⟩ rfl rfl ?_
      refine op1 2 rfl (sp_lenM (N := l13.length) (len_map _ _) rfl rfl isOwn Try.underlying26) rfl ⟨_, rfl, rfl⟩ rfl rfl ?_
      refine op0 (sp_lss rfl rfl rfl) rfl ⟨_, rfl, rfl⟩ rfl rfl ?_
      refine op0 (sp_pickT rfl rfl rfl) rfl trivial rfl rfl ?_
      refine TL.nil ?_
      refine TC.cond (b := (decide ((l13.length : Int) < 20))) rfl (fun h2 => ?_) (fun h2 => ?_)
      · have h := cond_t h h2
        refine subJ [] (ok_law09_list_j1 ih h) ?_ ?_ ?_
        · exact ⟨rfl, rfl, rfl, rfl, rfl, rfl, trivial⟩
        · exact ⟨mem_at 0 rfl, mem_at 1 rfl, mem_at 2 rfl, trivial⟩
        · rfl
      · have h := cond_f h h2
        refine TC.exit rfl ?_
        refine TC.seq ?_
        refine TC.region ?_
        refine op0 (sp_move rfl rfl) rfl trivial rfl rfl ?_
        refine op0 (sp_assign rfl rfl) rfl trivial rfl rfl ?_
        refine TL.nil ?_
        cases h
        exact retJ [(0, 2)] (.tmp rfl .nil) rfl ⟨mem_at 2 rfl, trivial⟩ rfl rfl
    · refine (boolLit 18 rfl h1).2 ?_
      refine opSkip rfl ⟨_, rfl, .inl rfl⟩ rfl ?_
      refine opSkip rfl ⟨_, rfl, .inl rfl⟩ rfl ?_
      refine opSkip rfl ⟨_, rfl, .inl rfl⟩ rfl ?_
      refine op0 (sp_pickF rfl rfl rfl) rfl trivial rfl rfl ?_
      refine TL.nil ?_
      refine TC.condF rfl ?_
      refine TC.exit rfl ?_
      refine TC.seq ?_
      refine TC.region ?_
      refine op0 (sp_move rfl rfl) rfl trivial rfl rfl ?_
      refine op0 (sp_assign rfl rfl) rfl trivial rfl rfl ?_
      refine TL.nil ?_
      cases h
      exact retJ [(0, 2)] (.tmp rfl .nil) rfl ⟨mem_at 2 rfl, trivial⟩ rfl rfl
def ev_law09_list (n : Nat) (l1 : Int) (l2 : Int) (l3 : Int) (from_4 : Int) (until5 : Int) (by_6 : List Int) : Option ((List (Int × Int))) :=
  ev_law09_list_l0 n until5 n from_4 0 by_6 l1 l2 l3 ([] : List (Int × Int))
set_option maxRecDepth 100000 in
set_option maxHeartbeats 2000000 in
theorem fc_law09_list {n : Nat} {l1 : Int} {l2 : Int} {l3 : Int} {from_4 : Int} {until5 : Int} {by_6 : List Int} {r : (List (Int × Int))} (h : ev_law09_list n l1 l2 l3 from_4 until5 by_6 = some r) : FC Try.prog 30 [.agg [.val (.int .i64 l1), .val (.int .i64 l2), .val (.int .i64 l3)], .val (.int .i64 from_4), .val (.int .i64 until5), .ref 0] [.ro 0 1 (List.map en_uint8 by_6)] (.ref 0) [.row 0 67 2 (List.map en_api_PulseFault r)] := by
  refine introJ (sz := 61) Try.func30 rfl rfl rfl (fun w0 R0 env0 => ?_)
  rw [ev_law09_list] at h
  refine TC.seq ?_
  refine TC.region ?_
  refine op0 (sp_box 1 rfl rfl rfl rfl rfl) rfl trivial rfl rfl ?_
  refine op0 (sp_assign rfl rfl) rfl trivial rfl rfl ?_
  refine TL.nil ?_
  refine TC.seq ?_
  refine TC.region ?_
  refine op0 (sp_emptyM 2 (List.map en_api_PulseFault []) rfl rfl sl26) rfl trivial rfl rfl ?_
  refine op0 (sp_move rfl rfl) rfl trivial rfl rfl ?_
  refine op0 (sp_assign rfl rfl) rfl trivial rfl rfl ?_
  refine op0 (sp_assign rfl rfl) rfl trivial rfl rfl ?_
  refine TL.nil ?_
  refine TC.seq ?_
  refine TC.seq ?_
  refine TC.region ?_
  refine op0 (sp_assign rfl rfl) rfl trivial rfl rfl ?_
  refine TL.nil ?_
  refine TC.block ?_
  refine TC.loop ?_
  refine TC.seq ?_
  refine TC.seq ?_
  refine subJ [] (ok_law09_list_l0 _ _ _ _ _ _ _ _ h) ?_ ?_ ?_
  · exact ⟨rfl, rfl, rfl, rfl, rfl, rfl, trivial⟩
  · exact ⟨mem_at 2 rfl, mem_at 1 rfl, mem_at 0 rfl, trivial⟩
  · rfl
/- law09_counts -/
def ev_law09_counts_l0 (n : Nat) (list1 : List (Int × Int)) : Nat → Int → Int → Int → Option (Int × Int)
  | 0, _, _, _ => none
  | m + 1, i2, i3, i4 => cond (decide (i4 < (list1.length : Int))) (idx list1 i4 fun x5 => cond (x5.2 == 1) (chk (in64 (i2 + 1)) <| chk (in64 (i4 + 1)) <| ev_law09_counts_l0 n list1 m (i2 + 1) i3 (i4 + 1)) (chk (in64 (i3 + 1)) <| chk (in64 (i4 + 1)) <| ev_law09_counts_l0 n list1 m i2 (i3 + 1) (i4 + 1))) (some (i2, i3))
set_option maxRecDepth 100000 in
set_option maxHeartbeats 2000000 in
theorem ok_law09_counts_l0 {n : Nat} {w0 : World} {R0 : Nat → Prop} {env0 : Env} {r : Int × Int} {list1 : List (Int × Int)} : ∀ (m : Nat) (i2 : Int) (i3 : Int) (i4 : Int), ev_law09_counts_l0 n list1 m i2 i3 i4 = some r → TC Try.prog ⟨w0, fun _ => False, R0⟩ 25 (bodyPost Try.prog Try.f31 (Post ⟨w0, fun _ => False, R0⟩ env0 (.tup [.val (.int .i64 r.1), .val (.int .i64 r.2)]) [])) [.code (sub (bodyOf Try.f31) [1, 1, 0, 1, 0, 0, 0, 0]), .code (sub (bodyOf Try.f31) [1, 1, 0, 1, 0, 0, 0, 1]), .code (sub (bodyOf Try.f31) [1, 1, 0, 1, 0, 0, 1]), .inLoop (sub (bodyOf Try.f31) [1, 1, 0, 1, 0, 0]), .inBlock 0, .code (sub (bodyOf Try.f31) [1, 1, 1])] [(0, .ref 0), (4, .val (.int .i64 i2)), (5, .val (.int .i64 i3)), (6, .val (.int .i64 i4))] [.ro 0 2 (List.map en_api_PulseFault list1)] := by
  intro m
  induction m with
  | zero => intro i2 i3 i4 h; exact none_no h
  | succ m ih =>
    intro i2 i3 i4 h
    rw [ev_law09_counts_l0] at h
    refine TC.region ?_
    refine op0 (sp_move rfl rfl) rfl trivial rfl rfl ?_
    refine op0 (sp_move rfl rfl) rfl trivial rfl rfl ?_
    refine op1 0 rfl (sp_lenM (N := list1.length) (len_map _ _) rfl rfl isRo Try.underlying26) rfl trivial rfl rfl ?_
    refine op0 (sp_lss rfl rfl rfl) rfl trivial rfl rfl ?_
    refine TL.nil ?_
    refine TC.cond (b := (decide (i4 < (list1.length : Int)))) rfl (fun h1 => ?_) (fun h1 => ?_)
    · have h := cond_t h h1
      refine TC.skip ?_
      refine TC.seq ?_
      refine TC.block ?_
      refine TC.seq ?_
      refine TC.region ?_
      refine op0 (sp_move rfl rfl) rfl trivial rfl rfl ?_
      refine op0 (sp_move rfl rfl) rfl trivial rfl rfl ?_
      obtain ⟨x5, h2, h3, h⟩ := idx_inv h
      refine op1 0 rfl (sp_indexS rfl rfl rfl isRo sl26 h2 (map_get _ h3)) rfl trivial rfl rfl ?_
      refine op1 0 rfl (sp_fieldAddrR (i := (i4 : Int).toNat) rfl rfl isRo ft67_1 vt65 (by decide) (map_get _ h3) (fun h => nomatch h)) rfl trivial rfl rfl ?_
      refine op1 0 rfl (sp_loadR (i := (i4 : Int).toNat) (j := 1) rfl rfl isRo vt65 rfl (map_get _ h3) rfl (.v (.nil)) (nodup_of_B rfl)) rfl trivial rfl rfl ?_
      refine op0 (sp_eql rfl rfl rfl) rfl trivial rfl rfl ?_
      refine TL.nil ?_
      refine TC.cond (b := (x5.2 == 1)) rfl (fun h4 => ?_) (fun h4 => ?_)
      · have h := cond_t h h4
        refine TC.region ?_
        refine op0 (sp_move rfl rfl) rfl trivial rfl rfl ?_
        obtain ⟨h5, h⟩ := chk_inv h
        refine op0 (sp_add rfl rfl rfl h5) rfl trivial rfl rfl ?_
        refine op0 (sp_assign rfl rfl) rfl trivial rfl rfl ?_
        refine TL.nil ?_
        refine TC.inBlock ?_
        refine TC.region ?_
        refine op0 (sp_move rfl rfl) rfl trivial rfl rfl ?_
        obtain ⟨h6, h⟩ := chk_inv h
        refine op0 (sp_add rfl rfl rfl h6) rfl trivial rfl rfl ?_
        refine op0 (sp_assign rfl rfl) rfl trivial rfl rfl ?_
        refine TL.nil ?_
        refine TC.inLoop ?_
        refine TC.seq ?_
        refine TC.seq ?_
        refine subJ [] (ih _ _ _ h) ?_ ?_ ?_
        · exact ⟨rfl, rfl, rfl, rfl, trivial⟩
        · exact ⟨mem_at 0 rfl, trivial⟩
        · rfl
      · have h := cond_f h h4
        refine TC.region ?_
        refine op0 (sp_move rfl rfl) rfl trivial rfl rfl ?_
        obtain ⟨h7, h⟩ := chk_inv h
        refine op0 (sp_add rfl rfl rfl h7) rfl trivial rfl rfl ?_
        refine op0 (sp_assign rfl rfl) rfl trivial rfl rfl ?_
        refine TL.nil ?_
        refine TC.inBlock ?_
        refine TC.region ?_
        refine op0 (sp_move rfl rfl) rfl trivial rfl rfl ?_
        obtain ⟨h8, h⟩ := chk_inv h
        refine op0 (sp_add rfl rfl rfl h8) rfl trivial rfl rfl ?_
        refine op0 (sp_assign rfl rfl) rfl trivial rfl rfl ?_
        refine TL.nil ?_
        refine TC.inLoop ?_
        refine TC.seq ?_
        refine TC.seq ?_
        refine subJ [] (ih _ _ _ h) ?_ ?_ ?_
        · exact ⟨rfl, rfl, rfl, rfl, trivial⟩
        · exact ⟨mem_at 0 rfl, trivial⟩
        · rfl
    · have h := cond_f h h1
      refine TC.exit rfl ?_
      refine TC.seq ?_
      refine TC.region ?_
      refine op0 (sp_move rfl rfl) rfl trivial rfl rfl ?_
      refine op0 (sp_move rfl rfl) rfl trivial rfl rfl ?_
      refine op0 (sp_assign rfl rfl) rfl trivial rfl rfl ?_
      refine op0 (sp_assign rfl rfl) rfl trivial rfl rfl ?_
      refine TL.nil ?_
      cases h
      exact retJ [] (.tmp rfl (.tmp rfl .nil)) rfl trivial rfl rfl
def ev_law09_counts (n : Nat) (list1 : List (Int × Int)) : Option (Int × Int) :=
  ev_law09_counts_l0 n list1 n 0 0 0
set_option maxRecDepth 100000 in
set_option maxHeartbeats 2000000 in
theorem fc_law09_counts {n : Nat} {list1 : List (Int × Int)} {r : Int × Int} (h : ev_law09_counts n list1 = some r) : FC Try.prog 31 [.ref 0] [.ro 0 2 (List.map en_api_PulseFault list1)] (.tup [.val (.int .i64 r.1), .val (.int .i64 r.2)]) [] := by
  refine introJ (sz := 25) Try.func31 rfl rfl rfl (fun w0 R0 env0 => ?_)
  rw [ev_law09_counts] at h
  refine TC.seq ?_
  refine TC.region ?_
  refine op0 (sp_assign rfl rfl) rfl trivial rfl rfl ?_
  refine op0 (sp_assign rfl rfl) rfl trivial rfl rfl ?_
  refine TL.nil ?_
  refine TC.seq ?_
  refine TC.region ?_
  refine op0 (sp_assign rfl rfl) rfl trivial rfl rfl ?_
  refine op0 (sp_assign rfl rfl) rfl trivial rfl rfl ?_
  refine TL.nil ?_
  refine TC.seq ?_
  refine TC.seq ?_
  refine TC.region ?_
  refine op0 (sp_assign rfl rfl) rfl trivial rfl rfl ?_
  refine TL.nil ?_
  refine TC.block ?_
  refine TC.loop ?_
  refine TC.seq ?_
  refine TC.seq ?_
  refine subJ [] (ok_law09_counts_l0 _ _ _ _ h) ?_ ?_ ?_
  · exact ⟨rfl, rfl, rfl, rfl, trivial⟩
  · exact ⟨mem_at 0 rfl, trivial⟩
  · rfl
/- law09_faults -/
def ev_law09_faults (n : Nat) (l1 : List (Int × Int)) : Option ((List (Int × Int))) :=
  chk (room 16 (([] : List (Int × Int)).length + l1.length)) <| some (([] : List (Int × Int)) ++ l1)
set_option maxRecDepth 100000 in
set_option maxHeartbeats 2000000 in
theorem fc_law09_faults {n : Nat} {l1 : List (Int × Int)} {r : (List (Int × Int))} (h : ev_law09_faults n l1 = some r) : FC Try.prog 12 [.ref 0] [.ro 0 2 (List.map en_api_PulseFault l1)] (.ref 0) [.row 0 67 2 (List.map en_api_PulseFault r)] := by
  refine introJ (sz := 6) Try.func12 rfl rfl rfl (fun w0 R0 env0 => ?_)
  rw [ev_law09_faults] at h
  refine TC.seq ?_
  refine TC.region ?_
  refine op0 (sp_assign rfl rfl) rfl trivial rfl rfl ?_
  refine TL.nil ?_
  refine TC.seq ?_
  refine TC.region ?_
  refine op0 (sp_emptyM 1 (List.map en_api_PulseFault []) rfl rfl sl26) rfl trivial rfl rfl ?_
  refine op0 (sp_move rfl rfl) rfl trivial rfl rfl ?_
  obtain ⟨h1, h⟩ := chk_inv h
  refine appM 0 1 (N := ([] : List (Int × Int)).length) (N2 := l1.length) 2 rfl rfl trivial rfl rfl rfl rfl rfl isRo rfl sl26 (len_map _ _) (len_map _ _) h1 (map_app _ _ _) rfl ?_
  refine op0 (sp_assign rfl rfl) rfl trivial rfl rfl ?_
  refine TL.nil ?_
  cases h
  exact retJ [(0, 2)] (.tmp rfl .nil) rfl ⟨mem_at 0 rfl, trivial⟩ rfl rfl
/- law09_PulseAgain -/
def ev_law09_PulseAgain_j5 (n : Nat) (r11 : Int × Int) (r6 : Int × Int × Int) (turn4 : Int) (i14 : Int) (i13 : Int) (r16 : Int × Int) (k_law09_PulseAgain_l2 : Int → Option Bool) : Option Bool :=
  cond (r11.2 == 7) (chk (in64 ((3 : Int) * r6.2.1)) <| chk (in64 ((r6.2.1 * (Int.tmod turn4 40)) + ((3 : Int) * r6.2.1))) <| cond (i14 == ((r6.2.1 * (Int.tmod turn4 40)) + ((3 : Int) * r6.2.1))) (cond (decide (r6.2.1 ≤ 120)) (chk (in64 ((2 : Int) * r6.2.1)) <| chk (in64 (i13 + ((2 : Int) * r6.2.1))) <| cond (decide ((i13 + ((2 : Int) * r6.2.1)) ≤ i14)) (cond (r16.1 == (Int.tmod i14 720)) (some false) (chk (in64 (i14 + 1)) <| k_law09_PulseAgain_l2 (i14 + 1))) (chk (in64 (i14 + 1)) <| k_law09_PulseAgain_l2 (i14 + 1))) (chk (in64 (i14 + 1)) <| k_law09_PulseAgain_l2 (i14 + 1))) (chk (in64 (i14 + 1)) <| k_law09_PulseAgain_l2 (i14 + 1))) (chk (in64 (i14 + 1)) <| k_law09_PulseAgain_l2 (i14 + 1))
set_option maxRecDepth 100000 in
set_option maxHeartbeats 2000000 in
theorem ok_law09_PulseAgain_j5 {n : Nat} {w0 : World} {R0 : Nat → Prop} {env0 : Env} {r : Bool} {r6 : Int × Int × Int} {turn4 : Int} {r11 : Int × Int} {i13 : Int} {r16 : Int × Int} {r7 : (List (Int × Int))} {i14 : Int} {k_law09_PulseAgain_l2 : Int → Option Bool} (hk_law09_PulseAgain_l2 : ∀ (i14 : Int), k_law09_PulseAgain_l2 i14 = some r → TC Try.prog ⟨w0, fun _ => False, R0⟩ 199 (bodyPost Try.prog Try.f7 (Post ⟨w0, fun _ => False, R0⟩ env0 (.val (.bool r)) [])) [.code (sub (bodyOf Try.f7) [1, 1, 1, 1, 1, 1, 1, 1, 1, 1, 0, 1, 0, 0, 0, 0]), .code (sub (bodyOf Try.f7) [1, 1, 1, 1, 1, 1, 1, 1, 1, 1, 0, 1, 0, 0, 0, 1]), .code (sub (bodyOf Try.f7) [1, 1, 1, 1, 1, 1, 1, 1, 1, 1, 0, 1, 0, 0, 1]), .inLoop (sub (bodyOf Try.f7) [1, 1, 1, 1, 1, 1, 1, 1, 1, 1, 0, 1, 0, 0]), .inBlock 0, .code (sub (bodyOf Try.f7) [1, 1, 1, 1, 1, 1, 1, 1, 1, 1, 1])] [(7, .ptr 2 0), (8, .val (.int .i64 (r6.2.1 * (Int.tmod turn4 40)))), (9, .ref 3), (14, .val (.int .i64 r11.1)), (15, .val (.int .i64 r11.2)), (16, .val (.int .i64 i13)), (17, .val (.int .i64 i14))] [.blk 2 [.val (.int .i64 r6.1), .val (.int .i64 r6.2.1), .val (.int .i64 r6.2.2)] 24, .row 3 67 2 (List.map en_api_PulseFault r7)]) (h : ev_law09_PulseAgain_j5 n r11 r6 turn4 i14 i13 r16 k_law09_PulseAgain_l2 = some r) : TC Try.prog ⟨w0, fun _ => False, R0⟩ 199 (bodyPost Try.prog Try.f7 (Post ⟨w0, fun _ => False, R0⟩ env0 (.val (.bool r)) [])) [.code (sub (bodyOf Try.f7) [1, 1, 1, 1, 1, 1, 1, 1, 1, 1, 0, 1, 0, 0, 1, 0, 0, 1, 1, 1, 0, 1, 1]), .code (sub (bodyOf Try.f7) [1, 1, 1, 1, 1, 1, 1, 1, 1, 1, 0, 1, 0, 0, 1, 0, 0, 1, 1, 1, 1]), .inBlock 1, .code (sub (bodyOf Try.f7) [1, 1, 1, 1, 1, 1, 1, 1, 1, 1, 0, 1, 0, 0, 1, 1]), .inLoop (sub (bodyOf Try.f7) [1, 1, 1, 1, 1, 1, 1, 1, 1, 1, 0, 1, 0, 0]), .inBlock 0, .code (sub (bodyOf Try.f7) [1, 1, 1, 1, 1, 1, 1, 1, 1, 1, 1])] [(7, .ptr 2 0), (8, .val (.int .i64 (r6.2.1 * (Int.tmod turn4 40)))), (9, .ref 3), (14, .val (.int .i64 r11.1)), (15, .val (.int .i64 r11.2)), (16, .val (.int .i64 i13)), (17, .val (.int .i64 i14)), (20, .val (.bool (r16.1 == (Int.tmod i14 720))))] [.blk 2 [.val (.int .i64 r6.1), .val (.int .i64 r6.2.1), .val (.int .i64 r6.2.2)] 24, .row 3 67 2 (List.map en_api_PulseFault r7)] := by
  rw [ev_law09_PulseAgain_j5] at h
  refine TC.skip ?_
  refine TC.seq ?_
  refine TC.region ?_
  refine op0 (sp_move rfl rfl) rfl trivial rfl rfl ?_
  refine op0 (sp_eql rfl rfl rfl) rfl trivial rfl rfl ?_
  refine op0 (sp_move rfl rfl) rfl trivial rfl rfl ?_
  rcases cond_cases h with ⟨h40, h⟩ | ⟨h40, h⟩
  · refine (boolLit 163 rfl h40).2 ?_
    refine op0 (sp_move rfl rfl) rfl ⟨_, rfl, rfl⟩ rfl rfl ?_
    refine op0 (sp_move rfl rfl) rfl ⟨_, rfl, rfl⟩ rfl rfl ?_
    refine op1 0 rfl (sp_fieldAddrB rfl isBlk rfl ft24_1 vt3 (by decide)) rfl ⟨_, rfl, rfl⟩ rfl rfl ?_
    refine op1 0 rfl (sp_loadB rfl isBlk rfl vt3 rfl) rfl ⟨_, rfl, rfl⟩ rfl rfl ?_
    obtain ⟨h41, h⟩ := chk_inv h
    refine op0 (sp_mul rfl rfl rfl h41) rfl ⟨_, rfl, rfl⟩ rfl rfl ?_
    obtain ⟨h42, h⟩ := chk_inv h
    refine op0 (sp_add rfl rfl rfl h42) rfl ⟨_, rfl, rfl⟩ rfl rfl ?_
    refine op0 (sp_eql rfl rfl rfl) rfl ⟨_, rfl, rfl⟩ rfl rfl ?_
    refine op0 (sp_pickT rfl rfl rfl) rfl trivial rfl rfl ?_
    refine op0 (sp_move rfl rfl) rfl trivial rfl rfl ?_
    rcases cond_cases h with ⟨h43, h⟩ | ⟨h43, h⟩
    · refine (boolLit 172 rfl h43).2 ?_
      refine op1 0 rfl (sp_fieldAddrB rfl isBlk rfl ft24_1 vt3 (by decide)) rfl ⟨_, rfl, rfl⟩ rfl rfl ?_
      refine op1 0 rfl (sp_loadB rfl isBlk rfl vt3 rfl) rfl ⟨_, rfl, rfl⟩ rfl rfl ?_
      refine op0 (sp_leq rfl rfl rfl) rfl ⟨_, rfl, rfl⟩ rfl rfl ?_
      refine op0 (sp_pickT rfl rfl rfl) rfl trivial rfl rfl ?_
      refine op0 (sp_move rfl rfl) rfl trivial rfl rfl ?_
      rcases cond_cases h with ⟨h44, h⟩ | ⟨h44, h⟩
      · refine (boolLit 177 rfl h44).2 ?_
        refine op0 (sp_move rfl rfl) rfl ⟨_, rfl, rfl⟩ rfl rfl ?_
        refine op0 (sp_move rfl rfl) rfl ⟨_, rfl, rfl⟩ rfl rfl ?_
        refine op1 0 rfl (sp_fieldAddrB rfl isBlk rfl ft24_1 vt3 (by decide)) rfl ⟨_, rfl, rfl⟩ rfl rfl ?_
        refine op1 0 rfl (sp_loadB rfl isBlk rfl vt3 rfl) rfl ⟨_, rfl, rfl⟩ rfl rfl ?_
        obtain ⟨h45, h⟩ := chk_inv h
        refine op0 (sp_mul rfl rfl rfl h45) rfl ⟨_, rfl, rfl⟩ rfl rfl ?_
        obtain ⟨h46, h⟩ := chk_inv h
        refine op0 (sp_add rfl rfl rfl h46) rfl ⟨_, rfl, rfl⟩ rfl rfl ?_
        refine op0 (sp_geq rfl rfl rfl) rfl ⟨_, rfl, rfl⟩ rfl rfl ?_
        refine op0 (sp_pickT rfl rfl rfl) rfl trivial rfl rfl ?_
        refine op0 (sp_move rfl rfl) rfl trivial rfl rfl ?_
        rcases cond_cases h with ⟨h47, h⟩ | ⟨h47, h⟩
        · refine (boolLit 186 rfl h47).2 ?_
          refine op0 (sp_move rfl rfl) rfl ⟨_, rfl, rfl⟩ rfl rfl ?_
          refine op0 (sp_pickT rfl rfl rfl) rfl trivial rfl rfl ?_
          refine TL.nil ?_
          refine TC.cond (b := (r16.1 == (Int.tmod i14 720))) rfl (fun h48 => ?_) (fun h48 => ?_)
          · have h := cond_t h h48
            refine TC.seq ?_
            refine TC.region ?_
            refine op0 (sp_assign rfl rfl) rfl trivial rfl rfl ?_
            refine TL.nil ?_
            cases h
            exact retJ [] (.tmp rfl .nil) rfl trivial rfl rfl
          · have h := cond_f h h48
            refine TC.skip ?_
            refine TC.inBlock ?_
            refine TC.region ?_
            refine op0 (sp_move rfl rfl) rfl trivial rfl rfl ?_
            obtain ⟨h49, h⟩ := chk_inv h
            refine op0 (sp_add rfl rfl rfl h49) rfl trivial rfl rfl ?_
            refine op0 (sp_assign rfl rfl) rfl trivial rfl rfl ?_
            refine TL.nil ?_
            refine TC.inLoop ?_
            refine TC.seq ?_
            refine TC.seq ?_
            refine subJ [] (hk_law09_PulseAgain_l2 _ h) ?_ ?_ ?_
            · exact ⟨rfl, rfl, rfl, rfl, rfl, rfl, rfl, trivial⟩
            · exact ⟨mem_at 0 rfl, mem_at 1 rfl, trivial⟩
            · rfl
        · refine (boolLit 186 rfl h47).2 ?_
          refine opSkip rfl ⟨_, rfl, .inl rfl⟩ rfl ?_
          refine op0 (sp_pickF rfl rfl rfl) rfl trivial rfl rfl ?_
          refine TL.nil ?_
          refine TC.condF rfl ?_
          refine TC.skip ?_
          refine TC.inBlock ?_
          refine TC.region ?_
          refine op0 (sp_move rfl rfl) rfl trivial rfl rfl ?_
          obtain ⟨h50, h⟩ := chk_inv h
          refine op0 (sp_add rfl rfl rfl h50) rfl trivial rfl rfl ?_
          refine op0 (sp_assign rfl rfl) rfl trivial rfl rfl ?_
          refine TL.nil ?_
          refine TC.inLoop ?_
          refine TC.seq ?_
          refine TC.seq ?_
          refine subJ [] (hk_law09_PulseAgain_l2 _ h) ?_ ?_ ?_
          · exact ⟨rfl, rfl, rfl, rfl, rfl, rfl, rfl, trivial⟩
          · exact ⟨mem_at 0 rfl, mem_at 1 rfl, trivial⟩
          · rfl
      · refine (boolLit 177 rfl h44).2 ?_
        refine opSkip rfl ⟨_, rfl, .inl rfl⟩ rfl ?_
        refine opSkip rfl ⟨_, rfl, .inl rfl⟩ rfl ?_
        refine opSkip rfl ⟨_, rfl, .inl rfl⟩ rfl ?_
        refine opSkip rfl ⟨_, rfl, .inl rfl⟩ rfl ?_
        refine opSkip rfl ⟨_, rfl, .inl rfl⟩ rfl ?_
        refine opSkip rfl ⟨_, rfl, .inl rfl⟩ rfl ?_
        refine opSkip rfl ⟨_, rfl, .inl rfl⟩ rfl ?_
        refine op0 (sp_pickF rfl rfl rfl) rfl trivial rfl rfl ?_
        refine op0 (sp_move rfl rfl) rfl trivial rfl rfl ?_
        refine opSkip rfl ⟨_, rfl, .inl rfl⟩ rfl ?_
        refine op0 (sp_pickF rfl rfl rfl) rfl trivial rfl rfl ?_
        refine TL.nil ?_
        refine TC.condF rfl ?_
        refine TC.skip ?_
        refine TC.inBlock ?_
        refine TC.region ?_
        refine op0 (sp_move rfl rfl) rfl trivial rfl rfl ?_
        obtain ⟨h51, h⟩ := chk_inv h
        refine op0 (sp_add rfl rfl rfl h51) rfl trivial rfl rfl ?_
        refine op0 (sp_assign rfl rfl) rfl trivial rfl rfl ?_
        refine TL.nil ?_
        refine TC.inLoop ?_
        refine TC.seq ?_
        refine TC.seq ?_
        refine subJ [] (hk_law09_PulseAgain_l2 _ h) ?_ ?_ ?_
        · exact ⟨rfl, rfl, rfl, rfl, rfl, rfl, rfl, trivial⟩
        · exact ⟨mem_at 0 rfl, mem_at 1 rfl, trivial⟩
        · rfl
    · refine (boolLit 172 rfl h43).2 ?_
      refine opSkip rfl ⟨_, rfl, .inl rfl⟩ rfl ?_
      refine opSkip rfl ⟨_, rfl, .inl rfl⟩ rfl ?_
      refine opSkip rfl ⟨_, rfl, .inl rfl⟩ rfl ?_
      refine op0 (sp_pickF rfl rfl rfl) rfl trivial rfl rfl ?_
      refine op0 (sp_move rfl rfl) rfl trivial rfl rfl ?_
      refine opSkip rfl ⟨_, rfl, .inl rfl⟩ rfl ?_
      refine opSkip rfl ⟨_, rfl, .inl rfl⟩ rfl ?_
      refine opSkip rfl ⟨_, rfl, .inl rfl⟩ rfl ?_
      refine opSkip rfl ⟨_, rfl, .inl rfl⟩ rfl ?_
      refine opSkip rfl ⟨_, rfl, .inl rfl⟩ rfl ?_
      refine opSkip rfl ⟨_, rfl, .inl rfl⟩ rfl ?_
      refine opSkip rfl ⟨_, rfl, .inl rfl⟩ rfl ?_
      refine op0 (sp_pickF rfl rfl rfl) rfl trivial rfl rfl ?_
      refine op0 (sp_move rfl rfl) rfl trivial rfl rfl ?_
      refine opSkip rfl ⟨_, rfl, .inl rfl⟩ rfl ?_
      refine op0 (sp_pickF rfl rfl rfl) rfl trivial rfl rfl ?_
      refine TL.nil ?_
      refine TC.condF rfl ?_
      refine TC.skip ?_
      refine TC.inBlock ?_
      refine TC.region ?_
      refine op0 (sp_move rfl rfl) rfl trivial rfl rfl ?_
      obtain ⟨h52, h⟩ := chk_inv h
      refine op0 (sp_add rfl rfl rfl h52) rfl trivial rfl rfl ?_
      refine op0 (sp_assign rfl rfl) rfl trivial rfl rfl ?_
      refine TL.nil ?_
      refine TC.inLoop ?_
      refine TC.seq ?_
      refine TC.seq ?_
      refine subJ [] (hk_law09_PulseAgain_l2 _ h) ?_ ?_ ?_
      · exact ⟨rfl, rfl, rfl, rfl, rfl, rfl, rfl, trivial⟩
      · exact ⟨mem_at 0 rfl, mem_at 1 rfl, trivial⟩
      · rfl
  · refine (boolLit 163 rfl h40).2 ?_
    refine opSkip rfl ⟨_, rfl, .inl rfl⟩ rfl ?_
    refine opSkip rfl ⟨_, rfl, .inl rfl⟩ rfl ?_
    refine opSkip rfl ⟨_, rfl, .inl rfl⟩ rfl ?_
    refine opSkip rfl ⟨_, rfl, .inl rfl⟩ rfl ?_
    refine opSkip rfl ⟨_, rfl, .inl rfl⟩ rfl ?_
    refine opSkip rfl ⟨_, rfl, .inl rfl⟩ rfl ?_
    refine opSkip rfl ⟨_, rfl, .inl rfl⟩ rfl ?_
    refine op0 (sp_pickF rfl rfl rfl) rfl trivial rfl rfl ?_
    refine op0 (sp_move rfl rfl) rfl trivial rfl rfl ?_
    refine opSkip rfl ⟨_, rfl, .inl rfl⟩ rfl ?_
    refine opSkip rfl ⟨_, rfl, .inl rfl⟩ rfl ?_
    refine opSkip rfl ⟨_, rfl, .inl rfl⟩ rfl ?_
    refine op0 (sp_pickF rfl rfl rfl) rfl trivial rfl rfl ?_
    refine op0 (sp_move rfl rfl) rfl trivial rfl rfl ?_
    refine opSkip rfl ⟨_, rfl, .inl rfl⟩ rfl ?_
    refine opSkip rfl ⟨_, rfl, .inl rfl⟩ rfl ?_
    refine opSkip rfl ⟨_, rfl, .inl rfl⟩ rfl ?_
    refine opSkip rfl ⟨_, rfl, .inl rfl⟩ rfl ?_
    refine opSkip rfl ⟨_, rfl, .inl rfl⟩ rfl ?_
    refine opSkip rfl ⟨_, rfl, .inl rfl⟩ rfl ?_
    refine opSkip rfl ⟨_, rfl, .inl rfl⟩ rfl ?_
    refine op0 (sp_pickF rfl rfl rfl) rfl trivial rfl rfl ?_
    refine op0 (sp_move rfl rfl) rfl trivial rfl rfl ?_
    refine opSkip rfl ⟨_, rfl, .inl rfl⟩ rfl ?_
    refine op0 (sp_pickF rfl rfl rfl) rfl trivial rfl rfl ?_
    refine TL.nil ?_
    refine TC.condF rfl ?_
    refine TC.skip ?_
    refine TC.inBlock ?_
    refine TC.region ?_
    refine op0 (sp_move rfl rfl) rfl trivial rfl rfl ?_
    obtain ⟨h53, h⟩ := chk_inv h
    refine op0 (sp_add rfl rfl rfl h53) rfl trivial rfl rfl ?_
    refine op0 (sp_assign rfl rfl) rfl trivial rfl rfl ?_
    refine TL.nil ?_
    refine TC.inLoop ?_
    refine TC.seq ?_
    refine TC.seq ?_
    refine subJ [] (hk_law09_PulseAgain_l2 _ h) ?_ ?_ ?_
    · exact ⟨rfl, rfl, rfl, rfl, rfl, rfl, rfl, trivial⟩
    · exact ⟨mem_at 0 rfl, mem_at 1 rfl, trivial⟩
    · rfl
def ev_law09_PulseAgain_j4 (n : Nat) (r11 : Int × Int) (i14 : Int) (r16 : Int × Int) (i13 : Int) (r6 : Int × Int × Int) (turn4 : Int) (k_law09_PulseAgain_l2 : Int → Option Bool) : Option Bool :=
  cond (r11.2 == 0) (cond (decide (r11.1 ≤ i14)) (cond (!(r16.1 == (Int.tmod i14 720))) (some false) (chk (in64 (r11.1 - 1)) <| cond (i14 == (r11.1 - 1)) (cond (decide (i13 ≤ i14)) (cond (r16.1 == (Int.tmod i14 720)) (some false) (ev_law09_PulseAgain_j5 n r11 r6 turn4 i14 i13 r16 k_law09_PulseAgain_l2)) (ev_law09_PulseAgain_j5 n r11 r6 turn4 i14 i13 r16 k_law09_PulseAgain_l2)) (ev_law09_PulseAgain_j5 n r11 r6 turn4 i14 i13 r16 k_law09_PulseAgain_l2))) (chk (in64 (r11.1 - 1)) <| cond (i14 == (r11.1 - 1)) (cond (decide (i13 ≤ i14)) (cond (r16.1 == (Int.tmod i14 720)) (some false) (ev_law09_PulseAgain_j5 n r11 r6 turn4 i14 i13 r16 k_law09_PulseAgain_l2)) (ev_law09_PulseAgain_j5 n r11 r6 turn4 i14 i13 r16 k_law09_PulseAgain_l2)) (ev_law09_PulseAgain_j5 n r11 r6 turn4 i14 i13 r16 k_law09_PulseAgain_l2))) (ev_law09_PulseAgain_j5 n r11 r6 turn4 i14 i13 r16 k_law09_PulseAgain_l2)
set_option maxRecDepth 100000 in
set_option maxHeartbeats 2000000 in
theorem ok_law09_PulseAgain_j4 {n : Nat} {w0 : World} {R0 : Nat → Prop} {env0 : Env} {r : Bool} {r6 : Int × Int × Int} {turn4 : Int} {r11 : Int × Int} {i13 : Int} {r16 : Int × Int} {r7 : (List (Int × Int))} {i14 : Int} {k_law09_PulseAgain_l2 : Int → Option Bool} (hk_law09_PulseAgain_l2 : ∀ (i14 : Int), k_law09_PulseAgain_l2 i14 = some r → TC Try.prog ⟨w0, fun _ => False, R0⟩ 199 (bodyPost Try.prog Try.f7 (Post ⟨w0, fun _ => False, R0⟩ env0 (.val (.bool r)) [])) [.code (sub (bodyOf Try.f7) [1, 1, 1, 1, 1, 1, 1, 1, 1, 1, 0, 1, 0, 0, 0, 0]), .code (sub (bodyOf Try.f7) [1, 1, 1, 1, 1, 1, 1, 1, 1, 1, 0, 1, 0, 0, 0, 1]), .code (sub (bodyOf Try.f7) [1, 1, 1, 1, 1, 1, 1, 1, 1, 1, 0, 1, 0, 0, 1]), .inLoop (sub (bodyOf Try.f7) [1, 1, 1, 1, 1, 1, 1, 1, 1, 1, 0, 1, 0, 0]), .inBlock 0, .code (sub (bodyOf Try.f7) [1, 1, 1, 1, 1, 1, 1, 1, 1, 1, 1])] [(7, .ptr 2 0), (8, .val (.int .i64 (r6.2.1 * (Int.tmod turn4 40)))), (9, .ref 3), (14, .val (.int .i64 r11.1)), (15, .val (.int .i64 r11.2)), (16, .val (.int .i64 i13)), (17, .val (.int .i64 i14))] [.blk 2 [.val (.int .i64 r6.1), .val (.int .i64 r6.2.1), .val (.int .i64 r6.2.2)] 24, .row 3 67 2 (List.map en_api_PulseFault r7)]) (h : ev_law09_PulseAgain_j4 n r11 i14 r16 i13 r6 turn4 k_law09_PulseAgain_l2 = some r) : TC Try.prog ⟨w0, fun _ => False, R0⟩ 199 (bodyPost Try.prog Try.f7 (Post ⟨w0, fun _ => False, R0⟩ env0 (.val (.bool r)) [])) [.code (sub (bodyOf Try.f7) [1, 1, 1, 1, 1, 1, 1, 1, 1, 1, 0, 1, 0, 0, 1, 0, 0, 1, 0, 1, 1]), .code (sub (bodyOf Try.f7) [1, 1, 1, 1, 1, 1, 1, 1, 1, 1, 0, 1, 0, 0, 1, 0, 0, 1, 1]), .inBlock 1, .code (sub (bodyOf Try.f7) [1, 1, 1, 1, 1, 1, 1, 1, 1, 1, 0, 1, 0, 0, 1, 1]), .inLoop (sub (bodyOf Try.f7) [1, 1, 1, 1, 1, 1, 1, 1, 1, 1, 0, 1, 0, 0]), .inBlock 0, .code (sub (bodyOf Try.f7) [1, 1, 1, 1, 1, 1, 1, 1, 1, 1, 1])] [(7, .ptr 2 0), (8, .val (.int .i64 (r6.2.1 * (Int.tmod turn4 40)))), (9, .ref 3), (14, .val (.int .i64 r11.1)), (15, .val (.int .i64 r11.2)), (16, .val (.int .i64 i13)), (17, .val (.int .i64 i14)), (18, .val (.int .i64 r16.1))] [.blk 2 [.val (.int .i64 r6.1), .val (.int .i64 r6.2.1), .val (.int .i64 r6.2.2)] 24, .row 3 67 2 (List.map en_api_PulseFault r7)] := by
  rw [ev_law09_PulseAgain_j4] at h
  refine TC.skip ?_
  refine TC.seq ?_
  refine TC.region ?_
  refine op0 (sp_move rfl rfl) rfl trivial rfl rfl ?_
  refine op0 (sp_move rfl rfl) rfl trivial rfl rfl ?_
  refine op0 (sp_rem rfl rfl rfl (by decide)) rfl trivial rfl rfl ?_
  refine op0 (sp_eql rfl rfl rfl) rfl trivial rfl rfl ?_
  refine op0 (sp_assign rfl rfl) rfl trivial rfl rfl ?_
  refine TL.nil ?_
  refine TC.seq ?_
  refine TC.seq ?_
  refine TC.region ?_
  refine op0 (sp_move rfl rfl) rfl trivial rfl rfl ?_
  refine op0 (sp_eql rfl rfl rfl) rfl trivial rfl rfl ?_
  refine op0 (sp_move rfl rfl) rfl trivial rfl rfl ?_
  rcases cond_cases h with ⟨h33, h⟩ | ⟨h33, h⟩
  · refine (boolLit 138 rfl h33).2 ?_
    refine op0 (sp_move rfl rfl) rfl ⟨_, rfl, rfl⟩ rfl rfl ?_
    refine op0 (sp_move rfl rfl) rfl ⟨_, rfl, rfl⟩ rfl rfl ?_
    refine op0 (sp_geq rfl rfl rfl) rfl ⟨_, rfl, rfl⟩ rfl rfl ?_
    refine op0 (sp_move rfl rfl) rfl ⟨_, rfl, rfl⟩ rfl rfl ?_
    rcases cond_cases h with ⟨h34, h⟩ | ⟨h34, h⟩
    · refine (boolLit 142 rfl h34).2 ?_
      refine op0 (sp_move rfl rfl) rfl ⟨_, rfl, rfl⟩ rfl rfl ?_
      refine op0 (sp_not rfl rfl) rfl ⟨_, rfl, rfl⟩ rfl rfl ?_
      refine op0 (sp_pickT rfl rfl rfl) rfl ⟨_, rfl, rfl⟩ rfl rfl ?_
      refine op0 (sp_move rfl rfl) rfl ⟨_, rfl, rfl⟩ rfl rfl ?_
      rcases cond_cases h with ⟨h35, h⟩ | ⟨h35, h⟩
      · refine (boolLit 146 rfl h35).2 ?_
        refine opSkip rfl ⟨_, rfl, .inl rfl⟩ rfl ?_
        refine opSkip rfl ⟨_, rfl, .inl rfl⟩ rfl ?_
        refine opSkip rfl ⟨_, rfl, .inl rfl⟩ rfl ?_
        refine opSkip rfl ⟨_, rfl, .inl rfl⟩ rfl ?_
        refine opSkip rfl ⟨_, rfl, .inl rfl⟩ rfl ?_
        refine opSkip rfl ⟨_, rfl, .inr rfl⟩ rfl ?_
        refine opSkip rfl ⟨_, rfl, .inr rfl⟩ rfl ?_
        refine opSkip rfl ⟨_, rfl, .inr rfl⟩ rfl ?_
        refine opSkip rfl ⟨_, rfl, .inl rfl⟩ rfl ?_
        refine opSkip rfl ⟨_, rfl, .inl rfl⟩ rfl ?_
        refine opSkip rfl ⟨_, rfl, .inr rfl⟩ rfl ?_
        refine opSkip rfl ⟨_, rfl, .inl rfl⟩ rfl ?_
        refine op0 (sp_pickT rfl rfl rfl) rfl ⟨_, rfl, rfl⟩ rfl rfl ?_
        refine op0 (sp_pickT rfl rfl rfl) rfl trivial rfl rfl ?_
        refine TL.nil ?_
        refine TC.condT rfl ?_
        refine TC.seq ?_
        refine TC.region ?_
        refine op0 (sp_assign rfl rfl) rfl trivial rfl rfl ?_
        refine TL.nil ?_
        cases h
        exact retJ [] (.tmp rfl .nil) rfl trivial rfl rfl
      · refine (boolLit 146 rfl h35).2 ?_
        refine op0 (sp_move rfl rfl) rfl ⟨_, rfl, rfl⟩ rfl rfl ?_
        refine op0 (sp_move rfl rfl) rfl ⟨_, rfl, rfl⟩ rfl rfl ?_
        obtain ⟨h36, h⟩ := chk_inv h
        refine op0 (sp_sub rfl rfl rfl h36) rfl ⟨_, rfl, rfl⟩ rfl rfl ?_
        refine op0 (sp_eql rfl rfl rfl) rfl ⟨_, rfl, rfl⟩ rfl rfl ?_
        refine op0 (sp_move rfl rfl) rfl ⟨_, rfl, rfl⟩ rfl rfl ?_
        rcases cond_cases h with ⟨h37, h⟩ | ⟨h37, h⟩
        · refine (boolLit 151 rfl h37).2 ?_
          refine op0 (sp_move rfl rfl) rfl ⟨_, rfl, rfl⟩ rfl rfl ?_
          refine op0 (sp_move rfl rfl) rfl ⟨_, rfl, rfl⟩ rfl rfl ?_
          refine op0 (sp_geq rfl rfl rfl) rfl ⟨_, rfl, rfl⟩ rfl rfl ?_
          refine op0 (sp_pickT rfl rfl rfl) rfl ⟨_, rfl, rfl⟩ rfl rfl ?_
          refine op0 (sp_move rfl rfl) rfl ⟨_, rfl, rfl⟩ rfl rfl ?_
          rcases cond_cases h with ⟨h38, h⟩ | ⟨h38, h⟩
          · refine (boolLit 156 rfl h38).2 ?_
            refine op0 (sp_move rfl rfl) rfl ⟨_, rfl, rfl⟩ rfl rfl ?_
            refine op0 (sp_pickT rfl rfl rfl) rfl ⟨_, rfl, rfl⟩ rfl rfl ?_
            refine op0 (sp_pickF rfl rfl rfl) rfl ⟨_, rfl, rfl⟩ rfl rfl ?_
            refine op0 (sp_pickT rfl rfl rfl) rfl trivial rfl rfl ?_
            refine TL.nil ?_
            refine TC.cond (b := (r16.1 == (Int.tmod i14 720))) rfl (fun h39 => ?_) (fun h39 => ?_)
            · have h := cond_t h h39
              refine TC.seq ?_
              refine TC.region ?_
              refine op0 (sp_assign rfl rfl) rfl trivial rfl rfl ?_
              refine TL.nil ?_
              cases h
              exact retJ [] (.tmp rfl .nil) rfl trivial rfl rfl
            · have h := cond_f h h39
              refine subJ [] (ok_law09_PulseAgain_j5 (r7 := r7) hk_law09_PulseAgain_l2 h) ?_ ?_ ?_
              · exact ⟨rfl, rfl, rfl, rfl, rfl, rfl, rfl, rfl, trivial⟩
              · exact ⟨mem_at 0 rfl, mem_at 1 rfl, trivial⟩
              · rfl
          · refine (boolLit 156 rfl h38).2 ?_
            refine opSkip rfl ⟨_, rfl, .inl rfl⟩ rfl ?_
            refine op0 (sp_pickF rfl rfl rfl) rfl ⟨_, rfl, rfl⟩ rfl rfl ?_
            refine op0 (sp_pickF rfl rfl rfl) rfl ⟨_, rfl, rfl⟩ rfl rfl ?_
            refine op0 (sp_pickT rfl rfl rfl) rfl trivial rfl rfl ?_
            refine TL.nil ?_
            refine TC.condF rfl ?_
            refine subJ [] (ok_law09_PulseAgain_j5 (r7 := r7) hk_law09_PulseAgain_l2 h) ?_ ?_ ?_
            · exact ⟨rfl, rfl, rfl, rfl, rfl, rfl, rfl, rfl, trivial⟩
            · exact ⟨mem_at 0 rfl, mem_at 1 rfl, trivial⟩
            · rfl
        · refine (boolLit 151 rfl h37).2 ?_
          refine opSkip rfl ⟨_, rfl, .inl rfl⟩ rfl ?_
          refine opSkip rfl ⟨_, rfl, .inl rfl⟩ rfl ?_
          refine opSkip rfl ⟨_, rfl, .inl rfl⟩ rfl ?_
          refine op0 (sp_pickF rfl rfl rfl) rfl ⟨_, rfl, rfl⟩ rfl rfl ?_
          refine op0 (sp_move rfl rfl) rfl ⟨_, rfl, rfl⟩ rfl rfl ?_
          refine opSkip rfl ⟨_, rfl, .inl rfl⟩ rfl ?_
          refine op0 (sp_pickF rfl rfl rfl) rfl ⟨_, rfl, rfl⟩ rfl rfl ?_
          refine op0 (sp_pickF rfl rfl rfl) rfl ⟨_, rfl, rfl⟩ rfl rfl ?_
          refine op0 (sp_pickT rfl rfl rfl) rfl trivial rfl rfl ?_
          refine TL.nil ?_
          refine TC.condF rfl ?_
          refine subJ [] (ok_law09_PulseAgain_j5 (r7 := r7) hk_law09_PulseAgain_l2 h) ?_ ?_ ?_
          · exact ⟨rfl, rfl, rfl, rfl, rfl, rfl, rfl, rfl, trivial⟩
          · exact ⟨mem_at 0 rfl, mem_at 1 rfl, trivial⟩
          · rfl
    · refine (boolLit 142 rfl h34).2 ?_
      refine opSkip rfl ⟨_, rfl, .inl rfl⟩ rfl ?_
      refine opSkip rfl ⟨_, rfl, .inl rfl⟩ rfl ?_
      refine op0 (sp_pickF rfl rfl rfl) rfl ⟨_, rfl, rfl⟩ rfl rfl ?_
      refine op0 (sp_move rfl rfl) rfl ⟨_, rfl, rfl⟩ rfl rfl ?_
      refine op0 (sp_move rfl rfl) rfl ⟨_, rfl, rfl⟩ rfl rfl ?_
      refine op0 (sp_move rfl rfl) rfl ⟨_, rfl, rfl⟩ rfl rfl ?_
      obtain ⟨h54, h⟩ := chk_inv h
      refine op0 (sp_sub rfl rfl rfl h54) rfl ⟨_, rfl, rfl⟩ rfl rfl ?_
      refine op0 (sp_eql rfl rfl rfl) rfl ⟨_, rfl, rfl⟩ rfl rfl ?_
      refine op0 (sp_move rfl rfl) rfl ⟨_, rfl, rfl⟩ rfl rfl ?_
      rcases cond_cases h with ⟨h55, h⟩ | ⟨h55, h⟩
      · refine (boolLit 151 rfl h55).2 ?_
        refine op0 (sp_move rfl rfl) rfl ⟨_, rfl, rfl⟩ rfl rfl ?_
        refine op0 (sp_move rfl rfl) rfl ⟨_, rfl, rfl⟩ rfl rfl ?_
        refine op0 (sp_geq rfl rfl rfl) rfl ⟨_, rfl, rfl⟩ rfl rfl ?_
        refine op0 (sp_pickT rfl rfl rfl) rfl ⟨_, rfl, rfl⟩ rfl rfl ?_
        refine op0 (sp_move rfl rfl) rfl ⟨_, rfl, rfl⟩ rfl rfl ?_
        rcases cond_cases h with ⟨h56, h⟩ | ⟨h56, h⟩
        · refine (boolLit 156 rfl h56).2 ?_
          refine op0 (sp_move rfl rfl) rfl ⟨_, rfl, rfl⟩ rfl rfl ?_
          refine op0 (sp_pickT rfl rfl rfl) rfl ⟨_, rfl, rfl⟩ rfl rfl ?_
          refine op0 (sp_pickF rfl rfl rfl) rfl ⟨_, rfl, rfl⟩ rfl rfl ?_
          refine op0 (sp_pickT rfl rfl rfl) rfl trivial rfl rfl ?_
          refine TL.nil ?_
          refine TC.cond (b := (r16.1 == (Int.tmod i14 720))) rfl (fun h57 => ?_) (fun h57 => ?_)
          · have h := cond_t h h57
            refine TC.seq ?_
            refine TC.region ?_
            refine op0 (sp_assign rfl rfl) rfl trivial rfl rfl ?_
            refine TL.nil ?_
            cases h
            exact retJ [] (.tmp rfl .nil) rfl trivial rfl rfl
          · have h := cond_f h h57
            refine subJ [] (ok_law09_PulseAgain_j5 (r7 := r7) hk_law09_PulseAgain_l2 h) ?_ ?_ ?_
            · exact ⟨rfl, rfl, rfl, rfl, rfl, rfl, rfl, rfl, trivial⟩
            · exact ⟨mem_at 0 rfl, mem_at 1 rfl, trivial⟩
            · rfl
        · refine (boolLit 156 rfl h56).2 ?_
          refine opSkip rfl ⟨_, rfl, .inl rfl⟩ rfl ?_
          refine op0 (sp_pickF rfl rfl rfl) rfl ⟨_, rfl, rfl⟩ rfl rfl ?_
          refine op0 (sp_pickF rfl rfl rfl) rfl ⟨_, rfl, rfl⟩ rfl rfl ?_
          refine op0 (sp_pickT rfl rfl rfl) rfl trivial rfl rfl ?_
          refine TL.nil ?_
          refine TC.condF rfl ?_
          refine subJ [] (ok_law09_PulseAgain_j5 (r7 := r7) hk_law09_PulseAgain_l2 h) ?_ ?_ ?_
          · exact ⟨rfl, rfl, rfl, rfl, rfl, rfl, rfl, rfl, trivial⟩
          · exact ⟨mem_at 0 rfl, mem_at 1 rfl, trivial⟩
          · rfl
      · refine (boolLit 151 rfl h55).2 ?_
        refine opSkip rfl ⟨_, rfl, .inl rfl⟩ rfl ?_
        refine opSkip rfl ⟨_, rfl, .inl rfl⟩ rfl ?_
        refine opSkip rfl ⟨_, rfl, .inl rfl⟩ rfl ?_
        refine op0 (sp_pickF rfl rfl rfl) rfl ⟨_, rfl, rfl⟩ rfl rfl ?_
        refine op0 (sp_move rfl rfl) rfl ⟨_, rfl, rfl⟩ rfl rfl ?_
        refine opSkip rfl ⟨_, rfl, .inl rfl⟩ rfl ?_
        refine op0 (sp_pickF rfl rfl rfl) rfl ⟨_, rfl, rfl⟩ rfl rfl ?_
        refine op0 (sp_pickF rfl rfl rfl) rfl ⟨_, rfl, rfl⟩ rfl rfl ?_
        refine op0 (sp_pickT rfl rfl rfl) rfl trivial rfl rfl ?_
        refine TL.nil ?_
        refine TC.condF rfl ?_
        refine subJ [] (ok_law09_PulseAgain_j5 (r7 := r7) hk_law09_PulseAgain_l2 h) ?_ ?_ ?_
        · exact ⟨rfl, rfl, rfl, rfl, rfl, rfl, rfl, rfl, trivial⟩
        · exact ⟨mem_at 0 rfl, mem_at 1 rfl, trivial⟩
        · rfl
  · refine (boolLit 138 rfl h33).2 ?_
    refine opSkip rfl ⟨_, rfl, .inl rfl⟩ rfl ?_
    refine opSkip rfl ⟨_, rfl, .inl rfl⟩ rfl ?_
    refine opSkip rfl ⟨_, rfl, .inl rfl⟩ rfl ?_
    refine opSkip rfl ⟨_, rfl, .inl rfl⟩ rfl ?_
    refine opSkip rfl ⟨_, rfl, .inr rfl⟩ rfl ?_
    refine opSkip rfl ⟨_, rfl, .inr rfl⟩ rfl ?_
    refine opSkip rfl ⟨_, rfl, .inl rfl⟩ rfl ?_
    refine opSkip rfl ⟨_, rfl, .inl rfl⟩ rfl ?_
    refine opSkip rfl ⟨_, rfl, .inr rfl⟩ rfl ?_
    refine opSkip rfl ⟨_, rfl, .inr rfl⟩ rfl ?_
    refine opSkip rfl ⟨_, rfl, .inr rfl⟩ rfl ?_
    refine opSkip rfl ⟨_, rfl, .inr rfl⟩ rfl ?_
    refine opSkip rfl ⟨_, rfl, .inr rfl⟩ rfl ?_
    refine opSkip rfl ⟨_, rfl, .inr rfl⟩ rfl ?_
    refine opSkip rfl ⟨_, rfl, .inr rfl⟩ rfl ?_
    refine opSkip rfl ⟨_, rfl, .inr rfl⟩ rfl ?_
    refine opSkip rfl ⟨_, rfl, .inr rfl⟩ rfl ?_
    refine opSkip rfl ⟨_, rfl, .inr rfl⟩ rfl ?_
    refine opSkip rfl ⟨_, rfl, .inr rfl⟩ rfl ?_
    refine opSkip rfl ⟨_, rfl, .inr rfl⟩ rfl ?_
    refine opSkip rfl ⟨_, rfl, .inl rfl⟩ rfl ?_
    refine op0 (sp_pickF rfl rfl rfl) rfl trivial rfl rfl ?_
    refine TL.nil ?_
    refine TC.condF rfl ?_
    refine subJ [] (ok_law09_PulseAgain_j5 (r7 := r7) hk_law09_PulseAgain_l2 h) ?_ ?_ ?_
    · exact ⟨rfl, rfl, rfl, rfl, rfl, rfl, rfl, rfl, trivial⟩
    · exact ⟨mem_at 0 rfl, mem_at 1 rfl, trivial⟩
    · rfl
def ev_law09_PulseAgain_j3 (n : Nat) (r7 : (List (Int × Int))) (r6 : Int × Int × Int) (turn4 : Int) (i14 : Int) (r11 : Int × Int) (i13 : Int) (k_law09_PulseAgain_l2 : Int → Option Bool) : Option Bool :=
  (ev_law09_faults n r7).bind fun r15 => (ev_pulse_Run n r6.1 r6.2.1 r6.2.2 (Int.tmod (r6.2.1 * (Int.tmod turn4 40)) 720) (r6.2.1 * (Int.tmod turn4 40)) r15 i14).bind fun r16 => cond (r16.2 != 0) (some false) (cond (decide (r16.1 < 0)) (some false) (cond (decide ((720 : Int) ≤ r16.1)) (some false) (ev_law09_PulseAgain_j4 n r11 i14 r16 i13 r6 turn4 k_law09_PulseAgain_l2)))
set_option maxRecDepth 100000 in
set_option maxHeartbeats 2000000 in
theorem ok_law09_PulseAgain_j3 {n : Nat} {w0 : World} {R0 : Nat → Prop} {env0 : Env} {r : Bool} {r6 : Int × Int × Int} {turn4 : Int} {r11 : Int × Int} {i13 : Int} {r7 : (List (Int × Int))} {i14 : Int} {k_law09_PulseAgain_l2 : Int → Option Bool} (hk_law09_PulseAgain_l2 : ∀ (i14 : Int), k_law09_PulseAgain_l2 i14 = some r → TC Try.prog ⟨w0, fun _ => False, R0⟩ 199 (bodyPost Try.prog Try.f7 (Post ⟨w0, fun _ => False, R0⟩ env0 (.val (.bool r)) [])) [.code (sub (bodyOf Try.f7) [1, 1, 1, 1, 1, 1, 1, 1, 1, 1, 0, 1, 0, 0, 0, 0]), .code (sub (bodyOf Try.f7) [1, 1, 1, 1, 1, 1, 1, 1, 1, 1, 0, 1, 0, 0, 0, 1]), .code (sub (bodyOf Try.f7) [1, 1, 1, 1, 1, 1, 1, 1, 1, 1, 0, 1, 0, 0, 1]), .inLoop (sub (bodyOf Try.f7) [1, 1, 1, 1, 1, 1, 1, 1, 1, 1, 0, 1, 0, 0]), .inBlock 0, .code (sub (bodyOf Try.f7) [1, 1, 1, 1, 1, 1, 1, 1, 1, 1, 1])] [(7, .ptr 2 0), (8, .val (.int .i64 (r6.2.1 * (Int.tmod turn4 40)))), (9, .ref 3), (14, .val (.int .i64 r11.1)), (15, .val (.int .i64 r11.2)), (16, .val (.int .i64 i13)), (17, .val (.int .i64 i14))] [.blk 2 [.val (.int .i64 r6.1), .val (.int .i64 r6.2.1), .val (.int .i64 r6.2.2)] 24, .row 3 67 2 (List.map en_api_PulseFault r7)]) (h : ev_law09_PulseAgain_j3 n r7 r6 turn4 i14 r11 i13 k_law09_PulseAgain_l2 = some r) : TC Try.prog ⟨w0, fun _ => False, R0⟩ 199 (bodyPost Try.prog Try.f7 (Post ⟨w0, fun _ => False, R0⟩ env0 (.val (.bool r)) [])) [.code (sub (bodyOf Try.f7) [1, 1, 1, 1, 1, 1, 1, 1, 1, 1, 0, 1, 0, 0, 0, 1, 0]), .code (sub (bodyOf Try.f7) [1, 1, 1, 1, 1, 1, 1, 1, 1, 1, 0, 1, 0, 0, 1]), .inLoop (sub (bodyOf Try.f7) [1, 1, 1, 1, 1, 1, 1, 1, 1, 1, 0, 1, 0, 0]), .inBlock 0, .code (sub (bodyOf Try.f7) [1, 1, 1, 1, 1, 1, 1, 1, 1, 1, 1])] [(7, .ptr 2 0), (8, .val (.int .i64 (r6.2.1 * (Int.tmod turn4 40)))), (9, .ref 3), (14, .val (.int .i64 r11.1)), (15, .val (.int .i64 r11.2)), (16, .val (.int .i64 i13)), (17, .val (.int .i64 i14))] [.blk 2 [.val (.int .i64 r6.1), .val (.int .i64 r6.2.1), .val (.int .i64 r6.2.2)] 24, .row 3 67 2 (List.map en_api_PulseFault r7)] := by
  rw [ev_law09_PulseAgain_j3] at h
  refine TC.skip ?_
  refine TC.seq ?_
  refine TC.block ?_
  refine TC.seq ?_
  obtain ⟨r15, h28, h⟩ := bind_inv h
  obtain ⟨r16, h29, h⟩ := bind_inv h
  refine drawJ 12 [⟨.agg [.val (.int .i64 r6.1), .val (.int .i64 r6.2.1), .val (.int .i64 r6.2.2)], [], [.blk 2 [.val (.int .i64 r6.1), .val (.int .i64 r6.2.1), .val (.int .i64 r6.2.2)] 24], []⟩, ⟨.val (.int .i64 (r6.2.1 * (Int.tmod turn4 40))), [], [], []⟩, ⟨.val (.int .i64 (Int.tmod (r6.2.1 * (Int.tmod turn4 40)) 720)), [], [], []⟩, ⟨.val (.int .i64 (r6.2.1 * (Int.tmod turn4 40))), [], [], []⟩, ⟨.ref 3, [], [], []⟩, ⟨.ref 5, [.row 5 67 2 (List.map en_api_PulseFault r15)], [.row 3 67 2 (List.map en_api_PulseFault r7)], []⟩, ⟨.val (.int .i64 i14), [], [], []⟩, ⟨.tup [.val (.int .i64 r16.1), .val (.int .i64 r16.2)], [], [.row 5 67 2 (List.map en_api_PulseFault r15)], []⟩, ⟨.tup [.val (.int .i64 r16.1), .val (.int .i64 r16.2)], [], [], []⟩, ⟨.val (.int .i64 r16.1), [], [], []⟩, ⟨.val (.int .i64 r16.2), [], [], []⟩, ⟨.val (.int .i64 r16.1), [], [], []⟩] rfl ?_ rfl ?_ rfl ?_ ?_
  · kernel_rfl
  · kernel_rfl
  · exact DAll.op' (sp_loadBA rfl isBlk rfl vt24 rfl rfl) trivial rfl (From.ok (ps := [(none, 0)]) ⟨⟨rfl, rfl⟩, trivial⟩) (DAll.op' (sp_move rfl rfl) trivial rfl (From.ok (ps := []) trivial) (DAll.op' (sp_rem rfl rfl rfl (by decide)) trivial rfl (From.ok (ps := []) trivial) (DAll.op' (sp_move rfl rfl) trivial rfl (From.ok (ps := []) trivial) (DAll.op' (sp_move rfl rfl) trivial rfl (From.ok (ps := []) trivial) (DAll.op' (sp_call (avs := [.ref 3]) (need := [.row 3 67 2 (List.map en_api_PulseFault r7)]) (v := .ref 5) (news := [.row 5 67 2 (List.map en_api_PulseFault r15)]) rfl rfl rfl Try.call12 (atJ [(0, 3)] [(0, 5)] (fc_law09_faults h28) rfl rfl) (.inr (List.forall_mem_cons.2 ⟨indep_map en_api_PulseFault_flat, (by simp)⟩))) trivial rfl (From.ok (ps := [(none, 1)]) ⟨⟨rfl, rfl⟩, trivial⟩) (DAll.op' (sp_move rfl rfl) trivial rfl (From.ok (ps := []) trivial) (DAll.op' (sp_call (avs := [.agg [.val (.int .i64 r6.1), .val (.int .i64 r6.2.1), .val (.int .i64 r6.2.2)], .val (.int .i64 (Int.tmod (r6.2.1 * (Int.tmod turn4 40)) 720)), .val (.int .i64 (r6.2.1 * (Int.tmod turn4 40))), .ref 5, .val (.int .i64 i14)]) (need := [.row 5 67 2 (List.map en_api_PulseFault r15)]) (v := .tup [.val (.int .i64 r16.1), .val (.int .i64 r16.2)]) (news := []) rfl rfl rfl Try.call13 (atJ [(0, 5)] [] (fc_pulse_Run h29) rfl rfl) (.inr (fun x hx => nomatch hx))) trivial rfl (From.ok (ps := [(some 5, 0)]) ⟨⟨_, rfl, rfl, rfl, rfl⟩, trivial⟩) (DAll.op' (sp_move rfl rfl) trivial rfl (From.ok (ps := []) trivial) (DAll.op' (sp_extract rfl rfl rfl) trivial rfl (From.ok (ps := []) trivial) (DAll.op' (sp_extract rfl rfl rfl) trivial rfl (From.ok (ps := []) trivial) (DAll.op' (sp_assign rfl rfl) trivial rfl (From.ok (ps := []) trivial) (.nil))))))))))))
  refine op0 (sp_assign rfl rfl) rfl trivial rfl rfl ?_
  refine TL.nil ?_
  refine TC.seq ?_
  refine TC.seq ?_
  refine TC.region ?_
  refine op0 (sp_move rfl rfl) rfl trivial rfl rfl ?_
  refine op0 (sp_neq rfl rfl rfl) rfl trivial rfl rfl ?_
  refine op0 (sp_move rfl rfl) rfl trivial rfl rfl ?_
  rcases cond_cases h with ⟨h30, h⟩ | ⟨h30, h⟩
  · refine (boolLit 124 rfl h30).2 ?_
    refine opSkip rfl ⟨_, rfl, .inl rfl⟩ rfl ?_
    refine opSkip rfl ⟨_, rfl, .inl rfl⟩ rfl ?_
    refine op0 (sp_pickT rfl rfl rfl) rfl trivial rfl rfl ?_
    refine op0 (sp_move rfl rfl) rfl trivial rfl rfl ?_
    refine opSkip rfl ⟨_, rfl, .inl rfl⟩ rfl ?_
    refine opSkip rfl ⟨_, rfl, .inl rfl⟩ rfl ?_
    refine op0 (sp_pickT rfl rfl rfl) rfl trivial rfl rfl ?_
    refine TL.nil ?_
    refine TC.condT rfl ?_
    refine TC.seq ?_
    refine TC.region ?_
    refine op0 (sp_assign rfl rfl) rfl trivial rfl rfl ?_
    refine TL.nil ?_
    cases h
    exact retJ [] (.tmp rfl .nil) rfl trivial rfl rfl
  · refine (boolLit 124 rfl h30).2 ?_
    refine op0 (sp_move rfl rfl) rfl ⟨_, rfl, rfl⟩ rfl rfl ?_
    refine op0 (sp_lss rfl rfl rfl) rfl ⟨_, rfl, rfl⟩ rfl rfl ?_
    refine op0 (sp_pickF rfl rfl rfl) rfl trivial rfl rfl ?_
    refine op0 (sp_move rfl rfl) rfl trivial rfl rfl ?_
    rcases cond_cases h with ⟨h31, h⟩ | ⟨h31, h⟩
    · refine (boolLit 128 rfl h31).2 ?_
      refine opSkip rfl ⟨_, rfl, .inl rfl⟩ rfl ?_
      refine opSkip rfl ⟨_, rfl, .inl rfl⟩ rfl ?_
      refine op0 (sp_pickT rfl rfl rfl) rfl trivial rfl rfl ?_
      refine TL.nil ?_
      refine TC.condT rfl ?_
      refine TC.seq ?_
      refine TC.region ?_
      refine op0 (sp_assign rfl rfl) rfl trivial rfl rfl ?_
      refine TL.nil ?_
      cases h
      exact retJ [] (.tmp rfl .nil) rfl trivial rfl rfl
    · refine (boolLit 128 rfl h31).2 ?_
      refine op0 (sp_move rfl rfl) rfl ⟨_, rfl, rfl⟩ rfl rfl ?_
      refine op0 (sp_geq rfl rfl rfl) rfl ⟨_, rfl, rfl⟩ rfl rfl ?_
      refine op0 (sp_pickF rfl rfl rfl) rfl trivial rfl rfl ?_
      refine TL.nil ?_
      refine TC.cond (b := (decide ((720 : Int) ≤ r16.1))) rfl (fun h32 => ?_) (fun h32 => ?_)
      · have h := cond_t h h32
        refine TC.seq ?_
        refine TC.region ?_
        refine op0 (sp_assign rfl rfl) rfl trivial rfl rfl ?_
        refine TL.nil ?_
        cases h
        exact retJ [] (.tmp rfl .nil) rfl trivial rfl rfl
      · have h := cond_f h h32
        refine subJ [] (ok_law09_PulseAgain_j4 (r7 := r7) hk_law09_PulseAgain_l2 h) ?_ ?_ ?_
        · exact ⟨rfl, rfl, rfl, rfl, rfl, rfl, rfl, rfl, trivial⟩
        · exact ⟨mem_at 1 rfl, mem_at 2 rfl, trivial⟩
        · rfl
def ev_law09_PulseAgain_l2 (n : Nat) (r6 : Int × Int × Int) (turn4 : Int) (i13 : Int) (r7 : (List (Int × Int))) (r11 : Int × Int) : Nat → Int → Option Bool
  | 0, _ => none
  | m + 1, i14 => chk (in64 ((3 : Int) * r6.2.1)) <| chk (in64 ((r6.2.1 * (Int.tmod turn4 40)) + ((3 : Int) * r6.2.1))) <| cond (decide (i14 ≤ ((r6.2.1 * (Int.tmod turn4 40)) + ((3 : Int) * r6.2.1)))) (chk (in64 (i13 + 400)) <| cond (decide (i14 ≤ (i13 + 400))) (ev_law09_PulseAgain_j3 n r7 r6 turn4 i14 r11 i13 (fun i14q => ev_law09_PulseAgain_l2 n r6 turn4 i13 r7 r11 m i14q)) (cond (r11.2 == 7) ((ev_law09_known n).bind fun r17 => some r17) (cond (decide (i13 ≤ r11.1)) ((ev_law09_known n).bind fun r18 => some r18) (some false)))) (cond (r11.2 == 7) ((ev_law09_known n).bind fun r19 => some r19) (cond (decide (i13 ≤ r11.1)) ((ev_law09_known n).bind fun r20 => some r20) (some false)))
set_option maxRecDepth 100000 in
set_option maxHeartbeats 2000000 in
theorem ok_law09_PulseAgain_l2 {n : Nat} {w0 : World} {R0 : Nat → Prop} {env0 : Env} {r : Bool} {r6 : Int × Int × Int} {turn4 : Int} {r11 : Int × Int} {i13 : Int} {r7 : (List (Int × Int))} : ∀ (m : Nat) (i14 : Int), ev_law09_PulseAgain_l2 n r6 turn4 i13 r7 r11 m i14 = some r → TC Try.prog ⟨w0, fun _ => False, R0⟩ 199 (bodyPost Try.prog Try.f7 (Post ⟨w0, fun _ => False, R0⟩ env0 (.val (.bool r)) [])) [.code (sub (bodyOf Try.f7) [1, 1, 1, 1, 1, 1, 1, 1, 1, 1, 0, 1, 0, 0, 0, 0]), .code (sub (bodyOf Try.f7) [1, 1, 1, 1, 1, 1, 1, 1, 1, 1, 0, 1, 0, 0, 0, 1]), .code (sub (bodyOf Try.f7) [1, 1, 1, 1, 1, 1, 1, 1, 1, 1, 0, 1, 0, 0, 1]), .inLoop (sub (bodyOf Try.f7) [1, 1, 1, 1, 1, 1, 1, 1, 1, 1, 0, 1, 0, 0]), .inBlock 0, .code (sub (bodyOf Try.f7) [1, 1, 1, 1, 1, 1, 1, 1, 1, 1, 1])] [(7, .ptr 2 0), (8, .val (.int .i64 (r6.2.1 * (Int.tmod turn4 40)))), (9, .ref 3), (14, .val (.int .i64 r11.1)), (15, .val (.int .i64 r11.2)), (16, .val (.int .i64 i13)), (17, .val (.int .i64 i14))] [.blk 2 [.val (.int .i64 r6.1), .val (.int .i64 r6.2.1), .val (.int .i64 r6.2.2)] 24, .row 3 67 2 (List.map en_api_PulseFault r7)] := by
  intro m
  induction m with
  | zero => intro i14 h; exact none_no h
  | succ m ih =>
    intro i14 h
    rw [ev_law09_PulseAgain_l2] at h
    refine TC.region ?_
    refine op0 (sp_move rfl rfl) rfl trivial rfl rfl ?_
    refine op0 (sp_move rfl rfl) rfl trivial rfl rfl ?_
    refine op1 0 rfl (sp_fieldAddrB rfl isBlk rfl ft24_1 vt3 (by decide)) rfl trivial rfl rfl ?_
    refine op1 0 rfl (sp_loadB rfl isBlk rfl vt3 rfl) rfl trivial rfl rfl ?_
    obtain ⟨h23, h⟩ := chk_inv h
    refine op0 (sp_mul rfl rfl rfl h23) rfl trivial rfl rfl ?_
    obtain ⟨h24, h⟩ := chk_inv h
    refine op0 (sp_add rfl rfl rfl h24) rfl trivial rfl rfl ?_
    refine op0 (sp_leq rfl rfl rfl) rfl trivial rfl rfl ?_
    refine op0 (sp_move rfl rfl) rfl trivial rfl rfl ?_
    rcases cond_cases h with ⟨h25, h⟩ | ⟨h25, h⟩
    · refine (boolLit 103 rfl h25).2 ?_
      refine op0 (sp_move rfl rfl) rfl ⟨_, rfl, rfl⟩ rfl rfl ?_
      refine op0 (sp_move rfl rfl) rfl ⟨_, rfl, rfl⟩ rfl rfl ?_
      obtain ⟨h26, h⟩ := chk_inv h
      refine op0 (sp_add rfl rfl rfl h26) rfl ⟨_, rfl, rfl⟩ rfl rfl ?_
      refine op0 (sp_leq rfl rfl rfl) rfl ⟨_, rfl, rfl⟩ rfl rfl ?_
      refine op0 (sp_pickT rfl rfl rfl) rfl trivial rfl rfl ?_
      refine TL.nil ?_
      refine TC.cond (b := (decide (i14 ≤ (i13 + 400)))) rfl (fun h27 => ?_) (fun h27 => ?_)
      · have h := cond_t h h27
        refine subJ [] (ok_law09_PulseAgain_j3 ih h) ?_ ?_ ?_
        · exact ⟨rfl, rfl, rfl, rfl, rfl, rfl, rfl, trivial⟩
        · exact ⟨mem_at 0 rfl, mem_at 1 rfl, trivial⟩
        · rfl
      · have h := cond_f h h27
        refine TC.exit rfl ?_
        refine TC.seq ?_
        refine TC.region ?_
        refine op0 (sp_move rfl rfl) rfl trivial rfl rfl ?_
        refine op0 (sp_eql rfl rfl rfl) rfl trivial rfl rfl ?_
        refine op0 (sp_move rfl rfl) rfl trivial rfl rfl ?_
        rcases cond_cases h with ⟨h58, h⟩ | ⟨h58, h⟩
        · refine (boolLit 191 rfl h58).2 ?_
          refine opSkip rfl ⟨_, rfl, .inl rfl⟩ rfl ?_
          refine opSkip rfl ⟨_, rfl, .inl rfl⟩ rfl ?_
          refine opSkip rfl ⟨_, rfl, .inl rfl⟩ rfl ?_
          refine op0 (sp_pickT rfl rfl rfl) rfl trivial rfl rfl ?_
          refine op0 (sp_move rfl rfl) rfl trivial rfl rfl ?_
          obtain ⟨r17, h59, h⟩ := bind_inv h
          refine op0 (sp_call (avs := []) (need := []) (v := .val (.bool r17)) (news := []) rfl rfl rfl Try.call11 (atJ [] [] (fc_law09_known h59) rfl rfl) (.inl (roAll rfl))) rfl ⟨_, rfl, rfl⟩ rfl rfl ?_
          refine op0 (sp_pickT rfl rfl rfl) rfl trivial rfl rfl ?_
          refine op0 (sp_assign rfl rfl) rfl trivial rfl rfl ?_
          refine TL.nil ?_
          cases h
          exact retJ [] (.tmp rfl .nil) rfl trivial rfl rfl
        · refine (boolLit 191 rfl h58).2 ?_
          refine op0 (sp_move rfl rfl) rfl ⟨_, rfl, rfl⟩ rfl rfl ?_
          refine op0 (sp_move rfl rfl) rfl ⟨_, rfl, rfl⟩ rfl rfl ?_
          refine op0 (sp_geq rfl rfl rfl) rfl ⟨_, rfl, rfl⟩ rfl rfl ?_
          refine op0 (sp_pickF rfl rfl rfl) rfl trivial rfl rfl ?_
          refine op0 (sp_move rfl rfl) rfl trivial rfl rfl ?_
          rcases cond_cases h with ⟨h60, h⟩ | ⟨h60, h⟩
          · refine (boolLit 196 rfl h60).2 ?_
            obtain ⟨r18, h61, h⟩ := bind_inv h
            refine op0 (sp_call (avs := []) (need := []) (v := .val (.bool r18)) (news := []) rfl rfl rfl Try.call11 (atJ [] [] (fc_law09_known h61) rfl rfl) (.inl (roAll rfl))) rfl ⟨_, rfl, rfl⟩ rfl rfl ?_
            refine op0 (sp_pickT rfl rfl rfl) rfl trivial rfl rfl ?_
            refine op0 (sp_assign rfl rfl) rfl trivial rfl rfl ?_
            refine TL.nil ?_
            cases h
            exact retJ [] (.tmp rfl .nil) rfl trivial rfl rfl
          · refine (boolLit 196 rfl h60).2 ?_
            refine opSkip rfl ⟨_, rfl, .inl rfl⟩ rfl ?_
            refine op0 (sp_pickF rfl rfl rfl) rfl trivial rfl rfl ?_
            refine op0 (sp_assign rfl rfl) rfl trivial rfl rfl ?_
            refine TL.nil ?_
            cases h
            exact retJ [] (.tmp rfl .nil) rfl trivial rfl rfl
    · refine (boolLit 103 rfl h25).2 ?_
      refine opSkip rfl ⟨_, rfl, .inl rfl⟩ rfl ?_
      refine opSkip rfl ⟨_, rfl, .inl rfl⟩ rfl ?_
      refine opSkip rfl ⟨_, rfl, .inl rfl⟩ rfl ?_
      refine opSkip rfl ⟨_, rfl, .inl rfl⟩ rfl ?_
      refine op0 (sp_pickF rfl rfl rfl) rfl trivial rfl rfl ?_
      refine TL.nil ?_
      refine TC.condF rfl ?_
      refine TC.exit rfl ?_
      refine TC.seq ?_
      refine TC.region ?_
      refine op0 (sp_move rfl rfl) rfl trivial rfl rfl ?_
      refine op0 (sp_eql rfl rfl rfl) rfl trivial rfl rfl ?_
      refine op0 (sp_move rfl rfl) rfl trivial rfl rfl ?_
      rcases cond_cases h with ⟨h62, h⟩ | ⟨h62, h⟩
      · refine (boolLit 191 rfl h62).2 ?_
        refine opSkip rfl ⟨_, rfl, .inl rfl⟩ rfl ?_
        refine opSkip rfl ⟨_, rfl, .inl rfl⟩ rfl ?_
        refine opSkip rfl ⟨_, rfl, .inl rfl⟩ rfl ?_
        refine op0 (sp_pickT rfl rfl rfl) rfl trivial rfl rfl ?_
        refine op0 (sp_move rfl rfl) rfl trivial rfl rfl ?_
        obtain ⟨r19, h63, h⟩ := bind_inv h
        refine op0 (sp_call (avs := []) (need := []) (v := .val (.bool r19)) (news := []) rfl rfl rfl Try.call11 (atJ [] [] (fc_law09_known h63) rfl rfl) (.inl (roAll rfl))) rfl ⟨_, rfl, rfl⟩ rfl rfl ?_
        refine op0 (sp_pickT rfl rfl rfl) rfl trivial rfl rfl ?_
        refine op0 (sp_assign rfl rfl) rfl trivial rfl rfl ?_
        refine TL.nil ?_
        cases h
        exact retJ [] (.tmp rfl .nil) rfl trivial rfl rfl
      · refine (boolLit 191 rfl h62).2 ?_
        refine op0 (sp_move rfl rfl) rfl ⟨_, rfl, rfl⟩ rfl rfl ?_
        refine op0 (sp_move rfl rfl) rfl ⟨_, rfl, rfl⟩ rfl rfl ?_
        refine op0 (sp_geq rfl rfl rfl) rfl ⟨_, rfl, rfl⟩ rfl rfl ?_
        refine op0 (sp_pickF rfl rfl rfl) rfl trivial rfl rfl ?_
        refine op0 (sp_move rfl rfl) rfl trivial rfl rfl ?_
        rcases cond_cases h with ⟨h64, h⟩ | ⟨h64, h⟩
        · refine (boolLit 196 rfl h64).2 ?_
          obtain ⟨r20, h65, h⟩ := bind_inv h
          refine op0 (sp_call (avs := []) (need := []) (v := .val (.bool r20)) (news := []) rfl rfl rfl Try.call11 (atJ [] [] (fc_law09_known h65) rfl rfl) (.inl (roAll rfl))) rfl ⟨_, rfl, rfl⟩ rfl rfl ?_
          refine op0 (sp_pickT rfl rfl rfl) rfl trivial rfl rfl ?_
          refine op0 (sp_assign rfl rfl) rfl trivial rfl rfl ?_
          refine TL.nil ?_
          cases h
          exact retJ [] (.tmp rfl .nil) rfl trivial rfl rfl
        · refine (boolLit 196 rfl h64).2 ?_
          refine opSkip rfl ⟨_, rfl, .inl rfl⟩ rfl ?_
          refine op0 (sp_pickF rfl rfl rfl) rfl trivial rfl rfl ?_
          refine op0 (sp_assign rfl rfl) rfl trivial rfl rfl ?_
          refine TL.nil ?_
          cases h
          exact retJ [] (.tmp rfl .nil) rfl trivial rfl rfl
def ev_law09_PulseAgain_j1 (n : Nat) (r6 : Int × Int × Int) (turn4 : Int) (r7 : (List (Int × Int))) (r11 : Int × Int) (i13 : Int) : Option Bool :=
  ev_law09_PulseAgain_l2 n r6 turn4 i13 r7 r11 n i13
set_option maxRecDepth 100000 in
set_option maxHeartbeats 2000000 in
theorem ok_law09_PulseAgain_j1 {n : Nat} {w0 : World} {R0 : Nat → Prop} {env0 : Env} {r : Bool} {r6 : Int × Int × Int} {turn4 : Int} {r11 : Int × Int} {r7 : (List (Int × Int))} {i13 : Int} (h : ev_law09_PulseAgain_j1 n r6 turn4 r7 r11 i13 = some r) : TC Try.prog ⟨w0, fun _ => False, R0⟩ 199 (bodyPost Try.prog Try.f7 (Post ⟨w0, fun _ => False, R0⟩ env0 (.val (.bool r)) [])) [.code (sub (bodyOf Try.f7) [1, 1, 1, 1, 1, 1, 1, 1, 1, 1, 0, 0]), .code (sub (bodyOf Try.f7) [1, 1, 1, 1, 1, 1, 1, 1, 1, 1, 0, 1]), .code (sub (bodyOf Try.f7) [1, 1, 1, 1, 1, 1, 1, 1, 1, 1, 1])] [(7, .ptr 2 0), (8, .val (.int .i64 (r6.2.1 * (Int.tmod turn4 40)))), (9, .ref 3), (14, .val (.int .i64 r11.1)), (15, .val (.int .i64 r11.2)), (16, .val (.int .i64 i13))] [.blk 2 [.val (.int .i64 r6.1), .val (.int .i64 r6.2.1), .val (.int .i64 r6.2.2)] 24, .row 3 67 2 (List.map en_api_PulseFault r7)] := by
  rw [ev_law09_PulseAgain_j1] at h
  refine TC.region ?_
  refine op0 (sp_move rfl rfl) rfl trivial rfl rfl ?_
  refine op0 (sp_assign rfl rfl) rfl trivial rfl rfl ?_
  refine TL.nil ?_
  refine TC.block ?_
  refine TC.loop ?_
  refine TC.seq ?_
  refine TC.seq ?_
  refine subJ [] (ok_law09_PulseAgain_l2 _ _ h) ?_ ?_ ?_
  · exact ⟨rfl, rfl, rfl, rfl, rfl, rfl, rfl, trivial⟩
  · exact ⟨mem_at 0 rfl, mem_at 1 rfl, trivial⟩
  · rfl
def ev_law09_PulseAgain_j0 (n : Nat) (r7 : (List (Int × Int))) (r6 : Int × Int × Int) (turn4 : Int) (r11 : Int × Int) : Option Bool :=
  cond (decide ((0 : Int) < (r7.length : Int))) (chk (in64 ((r7.length : Int) - 1)) <| idx r7 ((r7.length : Int) - 1) fun x12 => ev_law09_PulseAgain_j1 n r6 turn4 r7 r11 x12.1) (ev_law09_PulseAgain_j1 n r6 turn4 r7 r11 (r6.2.1 * (Int.tmod turn4 40)))
set_option maxRecDepth 100000 in
set_option maxHeartbeats 2000000 in
theorem ok_law09_PulseAgain_j0 {n : Nat} {w0 : World} {R0 : Nat → Prop} {env0 : Env} {r : Bool} {r6 : Int × Int × Int} {turn4 : Int} {r11 : Int × Int} {r7 : (List (Int × Int))} (h : ev_law09_PulseAgain_j0 n r7 r6 turn4 r11 = some r) : TC Try.prog ⟨w0, fun _ => False, R0⟩ 199 (bodyPost Try.prog Try.f7 (Post ⟨w0, fun _ => False, R0⟩ env0 (.val (.bool r)) [])) [.code (sub (bodyOf Try.f7) [1, 1, 1, 1, 1, 1, 1, 0, 1, 1]), .code (sub (bodyOf Try.f7) [1, 1, 1, 1, 1, 1, 1, 1])] [(7, .ptr 2 0), (8, .val (.int .i64 (r6.2.1 * (Int.tmod turn4 40)))), (9, .ref 3), (14, .val (.int .i64 r11.1)), (15, .val (.int .i64 r11.2))] [.blk 2 [.val (.int .i64 r6.1), .val (.int .i64 r6.2.1), .val (.int .i64 r6.2.2)] 24, .row 3 67 2 (List.map en_api_PulseFault r7)] := by
  rw [ev_law09_PulseAgain_j0] at h
  refine TC.skip ?_
  refine TC.seq ?_
  refine TC.region ?_
  refine op0 (sp_move rfl rfl) rfl trivial rfl rfl ?_
  refine op0 (sp_assign rfl rfl) rfl trivial rfl rfl ?_
  refine TL.nil ?_
  refine TC.seq ?_
  refine TC.seq ?_
  refine TC.region ?_
  refine op0 (sp_move rfl rfl) rfl trivial rfl rfl ?_
  refine op1 1 rfl (sp_lenM (N := r7.length) (len_map _ _) rfl rfl isOwn Try.underlying26) rfl trivial rfl rfl ?_
  refine op0 (sp_gtr rfl rfl rfl) rfl trivial rfl rfl ?_
  refine TL.nil ?_
  refine TC.cond (b := (decide ((0 : Int) < (r7.length : Int)))) rfl (fun h19 => ?_) (fun h19 => ?_)
  · have h := cond_t h h19
    refine TC.region ?_
    refine op0 (sp_move rfl rfl) rfl trivial rfl rfl ?_
    refine op0 (sp_move rfl rfl) rfl trivial rfl rfl ?_
    refine op1 1 rfl (sp_lenM (N := r7.length) (len_map _ _) rfl rfl isOwn Try.underlying26) rfl trivial rfl rfl ?_
    obtain ⟨h20, h⟩ := chk_inv h
    refine op0 (sp_sub rfl rfl rfl h20) rfl trivial rfl rfl ?_
    obtain ⟨x12, h21, h22, h⟩ := idx_inv h
    refine op1 1 rfl (sp_indexS rfl rfl rfl isOwn sl26 h21 (map_get _ h22)) rfl trivial rfl rfl ?_
    refine op1 1 rfl (sp_fieldAddrR (i := (((r7.length : Int) - 1) : Int).toNat) rfl rfl isOwn ft67_0 vt3 (by decide) (map_get _ h22) (fun h => nomatch h)) rfl trivial rfl rfl ?_
    refine op1 1 rfl (sp_loadR (i := (((r7.length : Int) - 1) : Int).toNat) (j := 0) rfl rfl isOwn vt3 rfl (map_get _ h22) rfl (.v (.nil)) (nodup_of_B rfl)) rfl trivial rfl rfl ?_
    refine op0 (sp_assign rfl rfl) rfl trivial rfl rfl ?_
    refine TL.nil ?_
    refine TC.seq ?_
    refine TC.seq ?_
    refine subJ [] (ok_law09_PulseAgain_j1 h) ?_ ?_ ?_
    · exact ⟨rfl, rfl, rfl, rfl, rfl, rfl, trivial⟩
    · exact ⟨mem_at 0 rfl, mem_at 1 rfl, trivial⟩
    · rfl
  · have h := cond_f h h19
    refine TC.skip ?_
    refine TC.seq ?_
    refine TC.seq ?_
    refine subJ [] (ok_law09_PulseAgain_j1 h) ?_ ?_ ?_
    · exact ⟨rfl, rfl, rfl, rfl, rfl, rfl, trivial⟩
    · exact ⟨mem_at 0 rfl, mem_at 1 rfl, trivial⟩
    · rfl
def ev_law09_PulseAgain (n : Nat) (w1 : Int) (w2 : Int) (w3 : Int) (turn4 : Int) (by_5 : List Int) : Option Bool :=
  (ev_law09_Wired_line n w1 w2 w3).bind fun r6 => chk (in64 turn4) <| chk (in64 (r6.2.1 * (Int.tmod turn4 40))) <| chk (in64 ((r6.2.1 * (Int.tmod turn4 40)) + r6.2.1)) <| chk (in64 (((r6.2.1 * (Int.tmod turn4 40)) + r6.2.1) - 1)) <| (ev_law09_list n r6.1 r6.2.1 r6.2.2 (r6.2.1 * (Int.tmod turn4 40)) (((r6.2.1 * (Int.tmod turn4 40)) + r6.2.1) - 1) by_5).bind fun r7 => (ev_law09_counts n r7).bind fun r8 => (ev_pulse_Corrects n r6.1 r6.2.1 r6.2.2 r8.1 r8.2).bind fun r9 => (ev_law09_faults n r7).bind fun r10 => (ev_pulse_Back n r6.1 r6.2.1 r6.2.2 (r6.2.1 * (Int.tmod turn4 40)) r10).bind fun r11 => cond (r9.2 != 0) (some false) (cond (r11.2 != 0) (cond (r11.2 != 7) (some false) (cond r9.1 (cond (r11.2 != 0) (some false) (chk (in64 ((2 : Int) * r6.2.1)) <| chk (in64 ((r6.2.1 * (Int.tmod turn4 40)) + ((2 : Int) * r6.2.1))) <| cond (decide (((r6.2.1 * (Int.tmod turn4 40)) + ((2 : Int) * r6.2.1)) < r11.1)) (some false) (ev_law09_PulseAgain_j0 n r7 r6 turn4 r11))) (ev_law09_PulseAgain_j0 n r7 r6 turn4 r11))) (cond r9.1 (cond (r11.2 != 0) (some false) (chk (in64 ((2 : Int) * r6.2.1)) <| chk (in64 ((r6.2.1 * (Int.tmod turn4 40)) + ((2 : Int) * r6.2.1))) <| cond (decide (((r6.2.1 * (Int.tmod turn4 40)) + ((2 : Int) * r6.2.1)) < r11.1)) (some false) (ev_law09_PulseAgain_j0 n r7 r6 turn4 r11))) (ev_law09_PulseAgain_j0 n r7 r6 turn4 r11)))
set_option maxRecDepth 100000 in
set_option maxHeartbeats 2000000 in
theorem fc_law09_PulseAgain {n : Nat} {w1 : Int} {w2 : Int} {w3 : Int} {turn4 : Int} {by_5 : List Int} {r : Bool} (h : ev_law09_PulseAgain n w1 w2 w3 turn4 by_5 = some r) : FC Try.prog 7 [.agg [.val (.int .u8 w1), .val (.int .u8 w2), .val (.int .u8 w3)], .val (.int .u8 turn4), .ref 0] [.ro 0 1 (List.map en_uint8 by_5)] (.val (.bool r)) [] := by
  refine introJ (sz := 199) Try.func7 rfl rfl rfl (fun w0 R0 env0 => ?_)
  rw [ev_law09_PulseAgain] at h
  refine TC.seq ?_
  refine TC.region ?_
  refine op0 (sp_box 1 rfl rfl rfl rfl rfl) rfl trivial rfl rfl ?_
  refine op0 (sp_assign rfl rfl) rfl trivial rfl rfl ?_
  refine TL.nil ?_
  refine TC.seq ?_
  refine TC.region ?_
  refine op1 0 rfl (sp_loadBA rfl isBlk rfl vt59 rfl rfl) rfl trivial rfl rfl ?_
  obtain ⟨r6, h1, h⟩ := bind_inv h
  refine op0 (sp_call (avs := [.agg [.val (.int .u8 w1), .val (.int .u8 w2), .val (.int .u8 w3)]]) (need := []) (v := .agg [.val (.int .i64 r6.1), .val (.int .i64 r6.2.1), .val (.int .i64 r6.2.2)]) (news := []) rfl rfl rfl Try.call29 (atJ [] [] (fc_law09_Wired_line h1) rfl rfl) (.inl (roAll rfl))) rfl trivial rfl rfl ?_
  refine op0 (sp_alloc 2 rfl Try.zeroValue24 rfl) rfl trivial rfl rfl ?_
  refine stoB 0 (cells' := [.val (.int .i64 r6.1), .val (.int .i64 r6.2.1), .val (.int .i64 r6.2.2)]) rfl rfl trivial rfl rfl rfl rfl vt24 rfl rfl rfl ?_
  refine TL.nil ?_
  refine TC.seq ?_
  refine TC.region ?_
  refine op1 0 rfl (sp_fieldAddrB rfl isBlk rfl ft24_1 vt3 (by decide)) rfl trivial rfl rfl ?_
  refine op1 0 rfl (sp_loadB rfl isBlk rfl vt3 rfl) rfl trivial rfl rfl ?_
  refine op0 (sp_move rfl rfl) rfl trivial rfl rfl ?_
  obtain ⟨h2, h⟩ := chk_inv h
  refine op0 (sp_conv rfl Try.underlying5 Try.underlying3 rfl h2) rfl trivial rfl rfl ?_
  refine op0 (sp_rem rfl rfl rfl (by decide)) rfl trivial rfl rfl ?_
  obtain ⟨h3, h⟩ := chk_inv h
  refine op0 (sp_mul rfl rfl rfl h3) rfl trivial rfl rfl ?_
  refine op0 (sp_assign rfl rfl) rfl trivial rfl rfl ?_
  refine TL.nil ?_
  refine TC.seq ?_
  refine TC.region ?_
  refine op1 0 rfl (sp_loadBA rfl isBlk rfl vt24 rfl rfl) rfl trivial rfl rfl ?_
  refine op0 (sp_move rfl rfl) rfl trivial rfl rfl ?_
  refine op0 (sp_move rfl rfl) rfl trivial rfl rfl ?_
  refine op1 0 rfl (sp_fieldAddrB rfl isBlk rfl ft24_1 vt3 (by decide)) rfl trivial rfl rfl ?_
  refine op1 0 rfl (sp_loadB rfl isBlk rfl vt3 rfl) rfl trivial rfl rfl ?_
  obtain ⟨h4, h⟩ := chk_inv h
  refine op0 (sp_add rfl rfl rfl h4) rfl trivial rfl rfl ?_
  obtain ⟨h5, h⟩ := chk_inv h
  refine op0 (sp_sub rfl rfl rfl h5) rfl trivial rfl rfl ?_
  refine op0 (sp_move rfl rfl) rfl trivial rfl rfl ?_
  obtain ⟨r7, h6, h⟩ := bind_inv h
  refine op1 2 rfl (sp_call (avs := [.agg [.val (.int .i64 r6.1), .val (.int .i64 r6.2.1), .val (.int .i64 r6.2.2)], .val (.int .i64 (r6.2.1 * (Int.tmod turn4 40))), .val (.int .i64 (((r6.2.1 * (Int.tmod turn4 40)) + r6.2.1) - 1)), .ref 0]) (need := [.ro 0 1 (List.map en_uint8 by_5)]) (v := .ref 3) (news := [.row 3 67 2 (List.map en_api_PulseFault r7)]) rfl rfl rfl Try.call30 (atJ [] [(0, 3)] (fc_law09_list h6) rfl rfl) (.inl (roAll rfl))) rfl trivial rfl rfl ?_
  refine op0 (sp_assign rfl rfl) rfl trivial rfl rfl ?_
  refine TL.nil ?_
  refine TC.seq ?_
  refine TC.region ?_
  refine op0 (sp_move rfl rfl) rfl trivial rfl rfl ?_
  obtain ⟨r8, h7, h⟩ := bind_inv h
  refine op1 0 rfl (sp_call (avs := [.ref 3]) (need := [.row 3 67 2 (List.map en_api_PulseFault r7)]) (v := .tup [.val (.int .i64 r8.1), .val (.int .i64 r8.2)]) (news := []) rfl rfl rfl Try.call31 (atJ [(0, 3)] [] (fc_law09_counts h7) rfl rfl) (.inr (fun x hx => nomatch hx))) rfl trivial rfl rfl ?_
  refine op0 (sp_move rfl rfl) rfl trivial rfl rfl ?_
  refine op0 (sp_extract rfl rfl rfl) rfl trivial rfl rfl ?_
  refine op0 (sp_extract rfl rfl rfl) rfl trivial rfl rfl ?_
  refine op0 (sp_assign rfl rfl) rfl trivial rfl rfl ?_
  refine op0 (sp_assign rfl rfl) rfl trivial rfl rfl ?_
  refine TL.nil ?_
  refine TC.seq ?_
  refine TC.region ?_
  refine op1 1 rfl (sp_loadBA rfl isBlk rfl vt24 rfl rfl) rfl trivial rfl rfl ?_
  refine op0 (sp_move rfl rfl) rfl trivial rfl rfl ?_
  refine op0 (sp_move rfl rfl) rfl trivial rfl rfl ?_
  obtain ⟨r9, h8, h⟩ := bind_inv h
  refine op0 (sp_call (avs := [.agg [.val (.int .i64 r6.1), .val (.int .i64 r6.2.1), .val (.int .i64 r6.2.2)], .val (.int .i64 r8.1), .val (.int .i64 r8.2)]) (need := []) (v := .tup [.val (.bool r9.1), .val (.int .i64 r9.2)]) (news := []) rfl rfl rfl Try.call23 (atJ [] [] (fc_pulse_Corrects h8) rfl rfl) (.inl (roAll rfl))) rfl trivial rfl rfl ?_
  refine op0 (sp_move rfl rfl) rfl trivial rfl rfl ?_
  refine op0 (sp_extract rfl rfl rfl) rfl trivial rfl rfl ?_
  refine op0 (sp_extract rfl rfl rfl) rfl trivial rfl rfl ?_
  refine op0 (sp_assign rfl rfl) rfl trivial rfl rfl ?_
  refine op0 (sp_assign rfl rfl) rfl trivial rfl rfl ?_
  refine TL.nil ?_
  refine TC.seq ?_
  obtain ⟨r10, h9, h⟩ := bind_inv h
  obtain ⟨r11, h10, h⟩ := bind_inv h
  refine drawJ 9 [⟨.agg [.val (.int .i64 r6.1), .val (.int .i64 r6.2.1), .val (.int .i64 r6.2.2)], [], [.blk 2 [.val (.int .i64 r6.1), .val (.int .i64 r6.2.1), .val (.int .i64 r6.2.2)] 24], []⟩, ⟨.val (.int .i64 (r6.2.1 * (Int.tmod turn4 40))), [], [], []⟩, ⟨.ref 3, [], [], []⟩, ⟨.ref 4, [.row 4 67 2 (List.map en_api_PulseFault r10)], [.row 3 67 2 (List.map en_api_PulseFault r7)], []⟩, ⟨.tup [.val (.int .i64 r11.1), .val (.int .i64 r11.2)], [], [.row 4 67 2 (List.map en_api_PulseFault r10)], []⟩, ⟨.tup [.val (.int .i64 r11.1), .val (.int .i64 r11.2)], [], [], []⟩, ⟨.val (.int .i64 r11.1), [], [], []⟩, ⟨.val (.int .i64 r11.2), [], [], []⟩, ⟨.val (.int .i64 r11.1), [], [], []⟩] rfl ?_ rfl ?_ rfl ?_ ?_
  · kernel_rfl
  · kernel_rfl
  · exact DAll.op' (sp_loadBA rfl isBlk rfl vt24 rfl rfl) trivial rfl (From.ok (ps := [(none, 1)]) ⟨⟨rfl, rfl⟩, trivial⟩) (DAll.op' (sp_move rfl rfl) trivial rfl (From.ok (ps := []) trivial) (DAll.op' (sp_move rfl rfl) trivial rfl (From.ok (ps := []) trivial) (DAll.op' (sp_call (avs := [.ref 3]) (need := [.row 3 67 2 (List.map en_api_PulseFault r7)]) (v := .ref 4) (news := [.row 4 67 2 (List.map en_api_PulseFault r10)]) rfl rfl rfl Try.call12 (atJ [(0, 3)] [(0, 4)] (fc_law09_faults h9) rfl rfl) (.inr (List.forall_mem_cons.2 ⟨indep_map en_api_PulseFault_flat, (by simp)⟩))) trivial rfl (From.ok (ps := [(none, 0)]) ⟨⟨rfl, rfl⟩, trivial⟩) (DAll.op' (sp_call (avs := [.agg [.val (.int .i64 r6.1), .val (.int .i64 r6.2.1), .val (.int .i64 r6.2.2)], .val (.int .i64 (r6.2.1 * (Int.tmod turn4 40))), .ref 4]) (need := [.row 4 67 2 (List.map en_api_PulseFault r10)]) (v := .tup [.val (.int .i64 r11.1), .val (.int .i64 r11.2)]) (news := []) rfl rfl rfl Try.call21 (atJ [(0, 4)] [] (fc_pulse_Back h10) rfl rfl) (.inr (fun x hx => nomatch hx))) trivial rfl (From.ok (ps := [(some 3, 0)]) ⟨⟨_, rfl, rfl, rfl, rfl⟩, trivial⟩) (DAll.op' (sp_move rfl rfl) trivial rfl (From.ok (ps := []) trivial) (DAll.op' (sp_extract rfl rfl rfl) trivial rfl (From.ok (ps := []) trivial) (DAll.op' (sp_extract rfl rfl rfl) trivial rfl (From.ok (ps := []) trivial) (DAll.op' (sp_assign rfl rfl) trivial rfl (From.ok (ps := []) trivial) (.nil)))))))))
  refine op0 (sp_assign rfl rfl) rfl trivial rfl rfl ?_
  refine TL.nil ?_
  refine TC.seq ?_
  refine TC.seq ?_
  refine TC.region ?_
  refine op0 (sp_move rfl rfl) rfl trivial rfl rfl ?_
  refine op0 (sp_neq rfl rfl rfl) rfl trivial rfl rfl ?_
  refine op0 (sp_move rfl rfl) rfl trivial rfl rfl ?_
  rcases cond_cases h with ⟨h11, h⟩ | ⟨h11, h⟩
  · refine (boolLit 60 rfl h11).2 ?_
    refine opSkip rfl ⟨_, rfl, .inl rfl⟩ rfl ?_
    refine opSkip rfl ⟨_, rfl, .inl rfl⟩ rfl ?_
    refine opSkip rfl ⟨_, rfl, .inl rfl⟩ rfl ?_
    refine opSkip rfl ⟨_, rfl, .inr rfl⟩ rfl ?_
    refine opSkip rfl ⟨_, rfl, .inr rfl⟩ rfl ?_
    refine opSkip rfl ⟨_, rfl, .inl rfl⟩ rfl ?_
    refine op0 (sp_pickT rfl rfl rfl) rfl trivial rfl rfl ?_
    refine op0 (sp_move rfl rfl) rfl trivial rfl rfl ?_
    refine opSkip rfl ⟨_, rfl, .inl rfl⟩ rfl ?_
    refine opSkip rfl ⟨_, rfl, .inl rfl⟩ rfl ?_
    refine opSkip rfl ⟨_, rfl, .inr rfl⟩ rfl ?_
    refine opSkip rfl ⟨_, rfl, .inr rfl⟩ rfl ?_
    refine opSkip rfl ⟨_, rfl, .inr rfl⟩ rfl ?_
    refine opSkip rfl ⟨_, rfl, .inr rfl⟩ rfl ?_
    refine opSkip rfl ⟨_, rfl, .inr rfl⟩ rfl ?_
    refine opSkip rfl ⟨_, rfl, .inr rfl⟩ rfl ?_
    refine opSkip rfl ⟨_, rfl, .inr rfl⟩ rfl ?_
    refine opSkip rfl ⟨_, rfl, .inr rfl⟩ rfl ?_
    refine opSkip rfl ⟨_, rfl, .inr rfl⟩ rfl ?_
    refine opSkip rfl ⟨_, rfl, .inr rfl⟩ rfl ?_
    refine opSkip rfl ⟨_, rfl, .inr rfl⟩ rfl ?_
    refine opSkip rfl ⟨_, rfl, .inl rfl⟩ rfl ?_
    refine op0 (sp_pickT rfl rfl rfl) rfl trivial rfl rfl ?_
    refine TL.nil ?_
    refine TC.condT rfl ?_
    refine TC.seq ?_
    refine TC.region ?_
    refine op0 (sp_assign rfl rfl) rfl trivial rfl rfl ?_
    refine TL.nil ?_
    cases h
    exact retJ [] (.tmp rfl .nil) rfl trivial rfl rfl
  · refine (boolLit 60 rfl h11).2 ?_
    refine op0 (sp_move rfl rfl) rfl ⟨_, rfl, rfl⟩ rfl rfl ?_
    refine op0 (sp_neq rfl rfl rfl) rfl ⟨_, rfl, rfl⟩ rfl rfl ?_
    refine op0 (sp_move rfl rfl) rfl ⟨_, rfl, rfl⟩ rfl rfl ?_
    rcases cond_cases h with ⟨h12, h⟩ | ⟨h12, h⟩
    · refine (boolLit 63 rfl h12).2 ?_
      refine op0 (sp_move rfl rfl) rfl ⟨_, rfl, rfl⟩ rfl rfl ?_
      refine op0 (sp_neq rfl rfl rfl) rfl ⟨_, rfl, rfl⟩ rfl rfl ?_
      refine op0 (sp_pickT rfl rfl rfl) rfl ⟨_, rfl, rfl⟩ rfl rfl ?_
      refine op0 (sp_pickF rfl rfl rfl) rfl trivial rfl rfl ?_
      refine op0 (sp_move rfl rfl) rfl trivial rfl rfl ?_
      rcases cond_cases h with ⟨h13, h⟩ | ⟨h13, h⟩
      · refine (boolLit 68 rfl h13).2 ?_
        refine opSkip rfl ⟨_, rfl, .inl rfl⟩ rfl ?_
        refine opSkip rfl ⟨_, rfl, .inl rfl⟩ rfl ?_
        refine opSkip rfl ⟨_, rfl, .inr rfl⟩ rfl ?_
        refine opSkip rfl ⟨_, rfl, .inr rfl⟩ rfl ?_
        refine opSkip rfl ⟨_, rfl, .inr rfl⟩ rfl ?_
        refine opSkip rfl ⟨_, rfl, .inr rfl⟩ rfl ?_
        refine opSkip rfl ⟨_, rfl, .inr rfl⟩ rfl ?_
        refine opSkip rfl ⟨_, rfl, .inr rfl⟩ rfl ?_
        refine opSkip rfl ⟨_, rfl, .inr rfl⟩ rfl ?_
        refine opSkip rfl ⟨_, rfl, .inr rfl⟩ rfl ?_
        refine opSkip rfl ⟨_, rfl, .inr rfl⟩ rfl ?_
        refine opSkip rfl ⟨_, rfl, .inr rfl⟩ rfl ?_
        refine opSkip rfl ⟨_, rfl, .inr rfl⟩ rfl ?_
        refine opSkip rfl ⟨_, rfl, .inl rfl⟩ rfl ?_
        refine op0 (sp_pickT rfl rfl rfl) rfl trivial rfl rfl ?_
        refine TL.nil ?_
        refine TC.condT rfl ?_
        refine TC.seq ?_
        refine TC.region ?_
        refine op0 (sp_assign rfl rfl) rfl trivial rfl rfl ?_
        refine TL.nil ?_
        cases h
        exact retJ [] (.tmp rfl .nil) rfl trivial rfl rfl
      · refine (boolLit 68 rfl h13).2 ?_
        refine op0 (sp_move rfl rfl) rfl ⟨_, rfl, rfl⟩ rfl rfl ?_
        refine op0 (sp_move rfl rfl) rfl ⟨_, rfl, rfl⟩ rfl rfl ?_
        rcases cond_cases h with ⟨h14, h⟩ | ⟨h14, h⟩
        · refine (boolLit 70 rfl h14).2 ?_
          refine op0 (sp_move rfl rfl) rfl ⟨_, rfl, rfl⟩ rfl rfl ?_
          refine op0 (sp_neq rfl rfl rfl) rfl ⟨_, rfl, rfl⟩ rfl rfl ?_
          refine op0 (sp_move rfl rfl) rfl ⟨_, rfl, rfl⟩ rfl rfl ?_
          rcases cond_cases h with ⟨h15, h⟩ | ⟨h15, h⟩
          · refine (boolLit 73 rfl h15).2 ?_
            refine opSkip rfl ⟨_, rfl, .inl rfl⟩ rfl ?_
            refine opSkip rfl ⟨_, rfl, .inl rfl⟩ rfl ?_
            refine opSkip rfl ⟨_, rfl, .inl rfl⟩ rfl ?_
            refine opSkip rfl ⟨_, rfl, .inl rfl⟩ rfl ?_
            refine opSkip rfl ⟨_, rfl, .inl rfl⟩ rfl ?_
            refine opSkip rfl ⟨_, rfl, .inl rfl⟩ rfl ?_
            refine opSkip rfl ⟨_, rfl, .inl rfl⟩ rfl ?_
            refine op0 (sp_pickT rfl rfl rfl) rfl ⟨_, rfl, rfl⟩ rfl rfl ?_
            refine op0 (sp_pickT rfl rfl rfl) rfl ⟨_, rfl, rfl⟩ rfl rfl ?_
            refine op0 (sp_pickF rfl rfl rfl) rfl trivial rfl rfl ?_
            refine TL.nil ?_
            refine TC.condT rfl ?_
            refine TC.seq ?_
            refine TC.region ?_
            refine op0 (sp_assign rfl rfl) rfl trivial rfl rfl ?_
            refine TL.nil ?_
            cases h
            exact retJ [] (.tmp rfl .nil) rfl trivial rfl rfl
          · refine (boolLit 73 rfl h15).2 ?_
            refine op0 (sp_move rfl rfl) rfl ⟨_, rfl, rfl⟩ rfl rfl ?_
            refine op0 (sp_move rfl rfl) rfl ⟨_, rfl, rfl⟩ rfl rfl ?_
            refine op1 2 rfl (sp_fieldAddrB rfl isBlk rfl ft24_1 vt3 (by decide)) rfl ⟨_, rfl, rfl⟩ rfl rfl ?_
            refine op1 2 rfl (sp_loadB rfl isBlk rfl vt3 rfl) rfl ⟨_, rfl, rfl⟩ rfl rfl ?_
            obtain ⟨h16, h⟩ := chk_inv h
            refine op0 (sp_mul rfl rfl rfl h16) rfl ⟨_, rfl, rfl⟩ rfl rfl ?_
            obtain ⟨h17, h⟩ := chk_inv h
            refine op0 (sp_add rfl rfl rfl h17) rfl ⟨_, rfl, rfl⟩ rfl rfl ?_
            refine op0 (sp_gtr rfl rfl rfl) rfl ⟨_, rfl, rfl⟩ rfl rfl ?_
            refine op0 (sp_pickF rfl rfl rfl) rfl ⟨_, rfl, rfl⟩ rfl rfl ?_
            refine op0 (sp_pickT rfl rfl rfl) rfl ⟨_, rfl, rfl⟩ rfl rfl ?_
            refine op0 (sp_pickF rfl rfl rfl) rfl trivial rfl rfl ?_
            refine TL.nil ?_
            refine TC.cond (b := (decide (((r6.2.1 * (Int.tmod turn4 40)) + ((2 : Int) * r6.2.1)) < r11.1))) rfl (fun h18 => ?_) (fun h18 => ?_)
            · have h := cond_t h h18
              refine TC.seq ?_
              refine TC.region ?_
              refine op0 (sp_assign rfl rfl) rfl trivial rfl rfl ?_
              refine TL.nil ?_
              cases h
              exact retJ [] (.tmp rfl .nil) rfl trivial rfl rfl
            · have h := cond_f h h18
              refine subJ [] (ok_law09_PulseAgain_j0 h) ?_ ?_ ?_
              · exact ⟨rfl, rfl, rfl, rfl, rfl, trivial⟩
              · exact ⟨mem_at 2 rfl, mem_at 1 rfl, trivial⟩
              · rfl
        · refine (boolLit 70 rfl h14).2 ?_
          refine opSkip rfl ⟨_, rfl, .inl rfl⟩ rfl ?_
          refine opSkip rfl ⟨_, rfl, .inl rfl⟩ rfl ?_
          refine opSkip rfl ⟨_, rfl, .inl rfl⟩ rfl ?_
          refine opSkip rfl ⟨_, rfl, .inr rfl⟩ rfl ?_
          refine opSkip rfl ⟨_, rfl, .inr rfl⟩ rfl ?_
          refine opSkip rfl ⟨_, rfl, .inr rfl⟩ rfl ?_
          refine opSkip rfl ⟨_, rfl, .inr rfl⟩ rfl ?_
          refine opSkip rfl ⟨_, rfl, .inr rfl⟩ rfl ?_
          refine opSkip rfl ⟨_, rfl, .inr rfl⟩ rfl ?_
          refine opSkip rfl ⟨_, rfl, .inr rfl⟩ rfl ?_
          refine opSkip rfl ⟨_, rfl, .inl rfl⟩ rfl ?_
          refine op0 (sp_pickF rfl rfl rfl) rfl ⟨_, rfl, rfl⟩ rfl rfl ?_
          refine op0 (sp_pickF rfl rfl rfl) rfl trivial rfl rfl ?_
          refine TL.nil ?_
          refine TC.condF rfl ?_
          refine subJ [] (ok_law09_PulseAgain_j0 h) ?_ ?_ ?_
          · exact ⟨rfl, rfl, rfl, rfl, rfl, trivial⟩
          · exact ⟨mem_at 2 rfl, mem_at 1 rfl, trivial⟩
          · rfl
    · refine (boolLit 63 rfl h12).2 ?_
      refine opSkip rfl ⟨_, rfl, .inl rfl⟩ rfl ?_
      refine opSkip rfl ⟨_, rfl, .inl rfl⟩ rfl ?_
      refine op0 (sp_pickF rfl rfl rfl) rfl ⟨_, rfl, rfl⟩ rfl rfl ?_
      refine op0 (sp_pickF rfl rfl rfl) rfl trivial rfl rfl ?_
      refine op0 (sp_move rfl rfl) rfl trivial rfl rfl ?_
      refine op0 (sp_move rfl rfl) rfl ⟨_, rfl, rfl⟩ rfl rfl ?_
      refine op0 (sp_move rfl rfl) rfl ⟨_, rfl, rfl⟩ rfl rfl ?_
      rcases cond_cases h with ⟨h66, h⟩ | ⟨h66, h⟩
      · refine (boolLit 70 rfl h66).2 ?_
        refine op0 (sp_move rfl rfl) rfl ⟨_, rfl, rfl⟩ rfl rfl ?_
        refine op0 (sp_neq rfl rfl rfl) rfl ⟨_, rfl, rfl⟩ rfl rfl ?_
        refine op0 (sp_move rfl rfl) rfl ⟨_, rfl, rfl⟩ rfl rfl ?_
        rcases cond_cases h with ⟨h67, h⟩ | ⟨h67, h⟩
        · refine (boolLit 73 rfl h67).2 ?_
          refine opSkip rfl ⟨_, rfl, .inl rfl⟩ rfl ?_
          refine opSkip rfl ⟨_, rfl, .inl rfl⟩ rfl ?_
          refine opSkip rfl ⟨_, rfl, .inl rfl⟩ rfl ?_
          refine opSkip rfl ⟨_, rfl, .inl rfl⟩ rfl ?_
          refine opSkip rfl ⟨_, rfl, .inl rfl⟩ rfl ?_
          refine opSkip rfl ⟨_, rfl, .inl rfl⟩ rfl ?_
          refine opSkip rfl ⟨_, rfl, .inl rfl⟩ rfl ?_
          refine op0 (sp_pickT rfl rfl rfl) rfl ⟨_, rfl, rfl⟩ rfl rfl ?_
          refine op0 (sp_pickT rfl rfl rfl) rfl ⟨_, rfl, rfl⟩ rfl rfl ?_
          refine op0 (sp_pickF rfl rfl rfl) rfl trivial rfl rfl ?_
          refine TL.nil ?_
          refine TC.condT rfl ?_
          refine TC.seq ?_
          refine TC.region ?_
          refine op0 (sp_assign rfl rfl) rfl trivial rfl rfl ?_
          refine TL.nil ?_
          cases h
          exact retJ [] (.tmp rfl .nil) rfl trivial rfl rfl
        · refine (boolLit 73 rfl h67).2 ?_
          refine op0 (sp_move rfl rfl) rfl ⟨_, rfl, rfl⟩ rfl rfl ?_
          refine op0 (sp_move rfl rfl) rfl ⟨_, rfl, rfl⟩ rfl rfl ?_
          refine op1 2 rfl (sp_fieldAddrB rfl isBlk rfl ft24_1 vt3 (by decide)) rfl ⟨_, rfl, rfl⟩ rfl rfl ?_
          refine op1 2 rfl (sp_loadB rfl isBlk rfl vt3 rfl) rfl ⟨_, rfl, rfl⟩ rfl rfl ?_
          obtain ⟨h68, h⟩ := chk_inv h
          refine op0 (sp_mul rfl rfl rfl h68) rfl ⟨_, rfl, rfl⟩ rfl rfl ?_
          obtain ⟨h69, h⟩ := chk_inv h
          refine op0 (sp_add rfl rfl rfl h69) rfl ⟨_, rfl, rfl⟩ rfl rfl ?_
          refine op0 (sp_gtr rfl rfl rfl) rfl ⟨_, rfl, rfl⟩ rfl rfl ?_
          refine op0 (sp_pickF rfl rfl rfl) rfl ⟨_, rfl, rfl⟩ rfl rfl ?_
          refine op0 (sp_pickT rfl rfl rfl) rfl ⟨_, rfl, rfl⟩ rfl rfl ?_
          refine op0 (sp_pickF rfl rfl rfl) rfl trivial rfl rfl ?_
          refine TL.nil ?_
          refine TC.cond (b := (decide (((r6.2.1 * (Int.tmod turn4 40)) + ((2 : Int) * r6.2.1)) < r11.1))) rfl (fun h70 => ?_) (fun h70 => ?_)
          · have h := cond_t h h70
            refine TC.seq ?_
            refine TC.region ?_
            refine op0 (sp_assign rfl rfl) rfl trivial rfl rfl ?_
            refine TL.nil ?_
            cases h
            exact retJ [] (.tmp rfl .nil) rfl trivial rfl rfl
          · have h := cond_f h h70
            refine subJ [] (ok_law09_PulseAgain_j0 h) ?_ ?_ ?_
            · exact ⟨rfl, rfl, rfl, rfl, rfl, trivial⟩
            · exact ⟨mem_at 2 rfl, mem_at 1 rfl, trivial⟩
            · rfl
      · refine (boolLit 70 rfl h66).2 ?_
        refine opSkip rfl ⟨_, rfl, .inl rfl⟩ rfl ?_
        refine opSkip rfl ⟨_, rfl, .inl rfl⟩ rfl ?_
        refine opSkip rfl ⟨_, rfl, .inl rfl⟩ rfl ?_
        refine opSkip rfl ⟨_, rfl, .inr rfl⟩ rfl ?_
        refine opSkip rfl ⟨_, rfl, .inr rfl⟩ rfl ?_
        refine opSkip rfl ⟨_, rfl, .inr rfl⟩ rfl ?_
        refine opSkip rfl ⟨_, rfl, .inr rfl⟩ rfl ?_
        refine opSkip rfl ⟨_, rfl, .inr rfl⟩ rfl ?_
        refine opSkip rfl ⟨_, rfl, .inr rfl⟩ rfl ?_
        refine opSkip rfl ⟨_, rfl, .inr rfl⟩ rfl ?_
        refine opSkip rfl ⟨_, rfl, .inl rfl⟩ rfl ?_
        refine op0 (sp_pickF rfl rfl rfl) rfl ⟨_, rfl, rfl⟩ rfl rfl ?_
        refine op0 (sp_pickF rfl rfl rfl) rfl trivial rfl rfl ?_
        refine TL.nil ?_
        refine TC.condF rfl ?_
        refine subJ [] (ok_law09_PulseAgain_j0 h) ?_ ?_ ?_
        · exact ⟨rfl, rfl, rfl, rfl, rfl, trivial⟩
        · exact ⟨mem_at 2 rfl, mem_at 1 rfl, trivial⟩
        · rfl
/- law09_PulseStill -/
def ev_law09_PulseStill_j3 (n : Nat) (at_4 : Int) (at_6 : Int) (at_5 : Int) (l25 : List Int) : Option Bool :=
  (ev_law09_list n 0 0 0 at_4 (at_4 + (Int.tmod at_6 300)) l25).bind fun r26 => (ev_law09_counts n r26).bind fun r27 => (ev_pulse_Run n 0 0 0 (Int.tmod at_5 720) at_4 r26 (at_4 + (Int.tmod at_6 300))).bind fun r28 => cond (r28.2 == 0) (chk (in64 ((Int.tmod at_5 720) + (at_4 + (Int.tmod at_6 300)))) <| chk (in64 (((Int.tmod at_5 720) + (at_4 + (Int.tmod at_6 300))) - at_4)) <| chk (in64 ((((Int.tmod at_5 720) + (at_4 + (Int.tmod at_6 300))) - at_4) + r27.2)) <| chk (in64 (((((Int.tmod at_5 720) + (at_4 + (Int.tmod at_6 300))) - at_4) + r27.2) - r27.1)) <| cond (r28.1 == (Int.tmod (((((Int.tmod at_5 720) + (at_4 + (Int.tmod at_6 300))) - at_4) + r27.2) - r27.1) 720)) ((ev_law09_known n).bind fun r29 => some r29) (some false)) (some false)
set_option maxRecDepth 100000 in
set_option maxHeartbeats 2000000 in
theorem ok_law09_PulseStill_j3 {n : Nat} {w0 : World} {R0 : Nat → Prop} {env0 : Env} {r : Bool} {at_4 : Int} {at_5 : Int} {at_6 : Int} {l25 : List Int} (h : ev_law09_PulseStill_j3 n at_4 at_6 at_5 l25 = some r) : TC Try.prog ⟨w0, fun _ => False, R0⟩ 202 (bodyPost Try.prog Try.f8 (Post ⟨w0, fun _ => False, R0⟩ env0 (.val (.bool r)) [])) [.code (sub (bodyOf Try.f8) [1, 1, 1, 1, 1, 1, 1, 1, 1, 1, 1, 1, 0]), .code (sub (bodyOf Try.f8) [1, 1, 1, 1, 1, 1, 1, 1, 1, 1, 1, 1, 1])] [(2, .ref 0), (8, .val (.int .i64 at_4)), (9, .val (.int .i64 (Int.tmod at_5 720))), (10, .val (.int .i64 (at_4 + (Int.tmod at_6 300))))] [.ro 0 1 (List.map en_uint8 l25)] := by
  rw [ev_law09_PulseStill_j3] at h
  refine TC.region ?_
  refine op0 (sp_build (qs := []) rfl bt24 rfl rfl rfl rfl) rfl trivial rfl rfl ?_
  refine op0 (sp_move rfl rfl) rfl trivial rfl rfl ?_
  refine op0 (sp_move rfl rfl) rfl trivial rfl rfl ?_
  refine op0 (sp_move rfl rfl) rfl trivial rfl rfl ?_
  obtain ⟨r26, h35, h⟩ := bind_inv h
  refine op1 0 rfl (sp_call (avs := [.agg [.val (.int .i64 0), .val (.int .i64 0), .val (.int .i64 0)], .val (.int .i64 at_4), .val (.int .i64 (at_4 + (Int.tmod at_6 300))), .ref 0]) (need := [.ro 0 1 (List.map en_uint8 l25)]) (v := .ref 14) (news := [.row 14 67 2 (List.map en_api_PulseFault r26)]) rfl rfl rfl Try.call30 (atJ [] [(0, 14)] (fc_law09_list h35) rfl rfl) (.inl (roAll rfl))) rfl trivial rfl rfl ?_
  refine op0 (sp_assign rfl rfl) rfl trivial rfl rfl ?_
  refine TL.nil ?_
  refine TC.seq ?_
  refine TC.region ?_
  refine op0 (sp_move rfl rfl) rfl trivial rfl rfl ?_
  obtain ⟨r27, h36, h⟩ := bind_inv h
  refine op1 0 rfl (sp_call (avs := [.ref 14]) (need := [.row 14 67 2 (List.map en_api_PulseFault r26)]) (v := .tup [.val (.int .i64 r27.1), .val (.int .i64 r27.2)]) (news := []) rfl rfl rfl Try.call31 (atJ [(0, 14)] [] (fc_law09_counts h36) rfl rfl) (.inr (fun x hx => nomatch hx))) rfl trivial rfl rfl ?_
  refine op0 (sp_move rfl rfl) rfl trivial rfl rfl ?_
  refine op0 (sp_extract rfl rfl rfl) rfl trivial rfl rfl ?_
  refine op0 (sp_extract rfl rfl rfl) rfl trivial rfl rfl ?_
  refine op0 (sp_assign rfl rfl) rfl trivial rfl rfl ?_
  refine op0 (sp_assign rfl rfl) rfl trivial rfl rfl ?_
  refine TL.nil ?_
  refine TC.seq ?_
  refine TC.region ?_
  refine op0 (sp_build (qs := []) rfl bt24 rfl rfl rfl rfl) rfl trivial rfl rfl ?_
  refine op0 (sp_move rfl rfl) rfl trivial rfl rfl ?_
  refine op0 (sp_move rfl rfl) rfl trivial rfl rfl ?_
  refine op0 (sp_move rfl rfl) rfl trivial rfl rfl ?_
  refine op0 (sp_move rfl rfl) rfl trivial rfl rfl ?_
  obtain ⟨r28, h37, h⟩ := bind_inv h
  refine op1 0 rfl (sp_call (avs := [.agg [.val (.int .i64 0), .val (.int .i64 0), .val (.int .i64 0)], .val (.int .i64 (Int.tmod at_5 720)), .val (.int .i64 at_4), .ref 14, .val (.int .i64 (at_4 + (Int.tmod at_6 300)))]) (need := [.row 14 67 2 (List.map en_api_PulseFault r26)]) (v := .tup [.val (.int .i64 r28.1), .val (.int .i64 r28.2)]) (news := []) rfl rfl rfl Try.call13 (atJ [(0, 14)] [] (fc_pulse_Run h37) rfl rfl) (.inr (fun x hx => nomatch hx))) rfl trivial rfl rfl ?_
  refine op0 (sp_move rfl rfl) rfl trivial rfl rfl ?_
  refine op0 (sp_extract rfl rfl rfl) rfl trivial rfl rfl ?_
  refine op0 (sp_extract rfl rfl rfl) rfl trivial rfl rfl ?_
  refine op0 (sp_assign rfl rfl) rfl trivial rfl rfl ?_
  refine op0 (sp_assign rfl rfl) rfl trivial rfl rfl ?_
  refine TL.nil ?_
  refine TC.seq ?_
  refine TC.region ?_
  refine op0 (sp_move rfl rfl) rfl trivial rfl rfl ?_
  refine op0 (sp_eql rfl rfl rfl) rfl trivial rfl rfl ?_
  refine op0 (sp_move rfl rfl) rfl trivial rfl rfl ?_
  rcases cond_cases h with ⟨h38, h⟩ | ⟨h38, h⟩
  · refine (boolLit 185 rfl h38).2 ?_
    refine op0 (sp_move rfl rfl) rfl ⟨_, rfl, rfl⟩ rfl rfl ?_
    refine op0 (sp_move rfl rfl) rfl ⟨_, rfl, rfl⟩ rfl rfl ?_
    refine op0 (sp_move rfl rfl) rfl ⟨_, rfl, rfl⟩ rfl rfl ?_
    obtain ⟨h39, h⟩ := chk_inv h
    refine op0 (sp_add rfl rfl rfl h39) rfl ⟨_, rfl, rfl⟩ rfl rfl ?_
    refine op0 (sp_move rfl rfl) rfl ⟨_, rfl, rfl⟩ rfl rfl ?_
    obtain ⟨h40, h⟩ := chk_inv h
    refine op0 (sp_sub rfl rfl rfl h40) rfl ⟨_, rfl, rfl⟩ rfl rfl ?_
    refine op0 (sp_move rfl rfl) rfl ⟨_, rfl, rfl⟩ rfl rfl ?_
    obtain ⟨h41, h⟩ := chk_inv h
    refine op0 (sp_add rfl rfl rfl h41) rfl ⟨_, rfl, rfl⟩ rfl rfl ?_
    refine op0 (sp_move rfl rfl) rfl ⟨_, rfl, rfl⟩ rfl rfl ?_
    obtain ⟨h42, h⟩ := chk_inv h
    refine op0 (sp_sub rfl rfl rfl h42) rfl ⟨_, rfl, rfl⟩ rfl rfl ?_
    refine op0 (sp_rem rfl rfl rfl (by decide)) rfl ⟨_, rfl, rfl⟩ rfl rfl ?_
    refine op0 (sp_eql rfl rfl rfl) rfl ⟨_, rfl, rfl⟩ rfl rfl ?_
    refine op0 (sp_pickT rfl rfl rfl) rfl trivial rfl rfl ?_
    refine op0 (sp_move rfl rfl) rfl trivial rfl rfl ?_
    rcases cond_cases h with ⟨h43, h⟩ | ⟨h43, h⟩
    · refine (boolLit 199 rfl h43).2 ?_
      obtain ⟨r29, h44, h⟩ := bind_inv h
      refine op0 (sp_call (avs := []) (need := []) (v := .val (.bool r29)) (news := []) rfl rfl rfl Try.call11 (atJ [] [] (fc_law09_known h44) rfl rfl) (.inl (roAll rfl))) rfl ⟨_, rfl, rfl⟩ rfl rfl ?_
      refine op0 (sp_pickT rfl rfl rfl) rfl trivial rfl rfl ?_
      refine op0 (sp_assign rfl rfl) rfl trivial rfl rfl ?_
      refine TL.nil ?_
      cases h
      exact retJ [] (.tmp rfl .nil) rfl trivial rfl rfl
    · refine (boolLit 199 rfl h43).2 ?_
      refine opSkip rfl ⟨_, rfl, .inl rfl⟩ rfl ?_
      refine op0 (sp_pickF rfl rfl rfl) rfl trivial rfl rfl ?_
      refine op0 (sp_assign rfl rfl) rfl trivial rfl rfl ?_
      refine TL.nil ?_
      cases h
      exact retJ [] (.tmp rfl .nil) rfl trivial rfl rfl
  · refine (boolLit 185 rfl h38).2 ?_
    refine opSkip rfl ⟨_, rfl, .inl rfl⟩ rfl ?_
    refine opSkip rfl ⟨_, rfl, .inl rfl⟩ rfl ?_
    refine opSkip rfl ⟨_, rfl, .inl rfl⟩ rfl ?_
    refine opSkip rfl ⟨_, rfl, .inl rfl⟩ rfl ?_
    refine opSkip rfl ⟨_, rfl, .inl rfl⟩ rfl ?_
    refine opSkip rfl ⟨_, rfl, .inl rfl⟩ rfl ?_
    refine opSkip rfl ⟨_, rfl, .inl rfl⟩ rfl ?_
    refine opSkip rfl ⟨_, rfl, .inl rfl⟩ rfl ?_
    refine opSkip rfl ⟨_, rfl, .inl rfl⟩ rfl ?_
    refine opSkip rfl ⟨_, rfl, .inl rfl⟩ rfl ?_
    refine opSkip rfl ⟨_, rfl, .inl rfl⟩ rfl ?_
    refine opSkip rfl ⟨_, rfl, .inl rfl⟩ rfl ?_
    refine op0 (sp_pickF rfl rfl rfl) rfl trivial rfl rfl ?_
    refine op0 (sp_move rfl rfl) rfl trivial rfl rfl ?_
    refine opSkip rfl ⟨_, rfl, .inl rfl⟩ rfl ?_
    refine op0 (sp_pickF rfl rfl rfl) rfl trivial rfl rfl ?_
    refine op0 (sp_assign rfl rfl) rfl trivial rfl rfl ?_
    refine TL.nil ?_
    cases h
    exact retJ [] (.tmp rfl .nil) rfl trivial rfl rfl
def ev_law09_PulseStill_j2 (n : Nat) (at_4 : Int) (at_6 : Int) (at_5 : Int) (l15 : List Int) : Option Bool :=
  ev_law09_PulseStill_j3 n at_4 at_6 at_5 l15
set_option maxRecDepth 100000 in
set_option maxHeartbeats 2000000 in
theorem ok_law09_PulseStill_j2 {n : Nat} {w0 : World} {R0 : Nat → Prop} {env0 : Env} {r : Bool} {at_4 : Int} {at_5 : Int} {at_6 : Int} {l15 : List Int} (h : ev_law09_PulseStill_j2 n at_4 at_6 at_5 l15 = some r) : TC Try.prog ⟨w0, fun _ => False, R0⟩ 202 (bodyPost Try.prog Try.f8 (Post ⟨w0, fun _ => False, R0⟩ env0 (.val (.bool r)) [])) [.code (sub (bodyOf Try.f8) [1, 1, 1, 1, 1, 1, 1, 1, 1, 1, 1, 0, 1, 0, 1, 1, 1, 1, 1, 1]), .code (sub (bodyOf Try.f8) [1, 1, 1, 1, 1, 1, 1, 1, 1, 1, 1, 1])] [(2, .ref 0), (8, .val (.int .i64 at_4)), (9, .val (.int .i64 (Int.tmod at_5 720))), (10, .val (.int .i64 (at_4 + (Int.tmod at_6 300))))] [.ro 0 1 (List.map en_uint8 l15)] := by
  rw [ev_law09_PulseStill_j2] at h
  refine TC.skip ?_
  refine TC.seq ?_
  refine subJ [] (ok_law09_PulseStill_j3 h) ?_ ?_ ?_
  · exact ⟨rfl, rfl, rfl, rfl, trivial⟩
  · exact ⟨mem_at 0 rfl, trivial⟩
  · rfl
def ev_law09_PulseStill_l1 (n : Nat) (at_4 : Int) (at_6 : Int) (r8 : Int × Int × Int) (at_5 : Int) (r13 : Int × Int) : Nat → Int → (List Int) → Int → Int → Int → (List (Int × Int)) → (List (Int × Int)) → (List (Int × Int)) → Option Bool
  | 0, _, _, _, _, _, _, _, _ => none
  | m + 1, i14, l15, i16, i17, i18, l19, l20, l21 => cond (decide (i14 < (l19.length : Int))) (idx l19 i14 fun x22 => cond (decide (x22.1 ≤ ((Int.tdiv (Int.tdiv (at_4 + (at_4 + (Int.tmod at_6 300))) 2) r8.2.1) * r8.2.1))) (chk (room 16 (l20.length + ([(x22.1, x22.2)] : List (Int × Int)).length)) <| chk (in64 (i14 + 1)) <| ev_law09_PulseStill_l1 n at_4 at_6 r8 at_5 r13 m (i14 + 1) l15 i16 i17 i18 l19 (l20 ++ ([(x22.1, x22.2)] : List (Int × Int))) l21) (chk (room 16 (l21.length + ([(x22.1, x22.2)] : List (Int × Int)).length)) <| chk (in64 (i14 + 1)) <| ev_law09_PulseStill_l1 n at_4 at_6 r8 at_5 r13 m (i14 + 1) l15 i16 i17 i18 l19 l20 (l21 ++ ([(x22.1, x22.2)] : List (Int × Int))))) ((ev_pulse_Run n i16 i17 i18 (Int.tmod at_5 720) at_4 l20 ((Int.tdiv (Int.tdiv (at_4 + (at_4 + (Int.tmod at_6 300))) 2) r8.2.1) * r8.2.1)).bind fun r23 => (ev_pulse_Run n i16 i17 i18 r23.1 ((Int.tdiv (Int.tdiv (at_4 + (at_4 + (Int.tmod at_6 300))) 2) r8.2.1) * r8.2.1) l21 (at_4 + (Int.tmod at_6 300))).bind fun r24 => cond (r23.2 != 0) (some false) (cond (r24.2 != 0) (some false) (cond (r24.1 != r13.1) (some false) (ev_law09_PulseStill_j2 n at_4 at_6 at_5 l15))))
set_option maxRecDepth 100000 in
set_option maxHeartbeats 2000000 in
theorem ok_law09_PulseStill_l1 {n : Nat} {w0 : World} {R0 : Nat → Prop} {env0 : Env} {r : Bool} {at_4 : Int} {at_5 : Int} {at_6 : Int} {r13 : Int × Int} {r8 : Int × Int × Int} : ∀ (m : Nat) (i14 : Int) (l15 : List Int) (i16 : Int) (i17 : Int) (i18 : Int) (l19 : List (Int × Int)) (l20 : List (Int × Int)) (l21 : List (Int × Int)), ev_law09_PulseStill_l1 n at_4 at_6 r8 at_5 r13 m i14 l15 i16 i17 i18 l19 l20 l21 = some r → TC Try.prog ⟨w0, fun _ => False, R0⟩ 202 (bodyPost Try.prog Try.f8 (Post ⟨w0, fun _ => False, R0⟩ env0 (.val (.bool r)) [])) [.code (sub (bodyOf Try.f8) [1, 1, 1, 1, 1, 1, 1, 1, 1, 1, 1, 0, 1, 0, 1, 0, 1, 0, 0, 0, 0]), .code (sub (bodyOf Try.f8) [1, 1, 1, 1, 1, 1, 1, 1, 1, 1, 1, 0, 1, 0, 1, 0, 1, 0, 0, 0, 1]), .code (sub (bodyOf Try.f8) [1, 1, 1, 1, 1, 1, 1, 1, 1, 1, 1, 0, 1, 0, 1, 0, 1, 0, 0, 1]), .inLoop (sub (bodyOf Try.f8) [1, 1, 1, 1, 1, 1, 1, 1, 1, 1, 1, 0, 1, 0, 1, 0, 1, 0, 0]), .inBlock 0, .code (sub (bodyOf Try.f8) [1, 1, 1, 1, 1, 1, 1, 1, 1, 1, 1, 0, 1, 0, 1, 1]), .code (sub (bodyOf Try.f8) [1, 1, 1, 1, 1, 1, 1, 1, 1, 1, 1, 1])] [(2, .ref 0), (7, .ptr 3 0), (8, .val (.int .i64 at_4)), (9, .val (.int .i64 (Int.tmod at_5 720))), (10, .val (.int .i64 (at_4 + (Int.tmod at_6 300)))), (15, .ref 6), (16, .val (.int .i64 r13.1)), (17, .val (.int .i64 ((Int.tdiv (Int.tdiv (at_4 + (at_4 + (Int.tmod at_6 300))) 2) r8.2.1) * r8.2.1))), (18, .ref 8), (19, .ref 9), (20, .val (.int .i64 i14))] [.ro 0 1 (List.map en_uint8 l15), .blk 3 [.val (.int .i64 i16), .val (.int .i64 i17), .val (.int .i64 i18)] 24, .row 6 67 2 (List.map en_api_PulseFault l19), .row 8 67 2 (List.map en_api_PulseFault l20), .row 9 67 2 (List.map en_api_PulseFault l21)] := by
  intro m
  induction m with
  | zero => intro i14 l15 i16 i17 i18 l19 l20 l21 h; exact none_no h
  | succ m ih =>
    intro i14 l15 i16 i17 i18 l19 l20 l21 h
    rw [ev_law09_PulseStill_l1] at h
    refine TC.region ?_
    refine op0 (sp_move rfl rfl) rfl trivial rfl rfl ?_
    refine op0 (sp_move rfl rfl) rfl trivial rfl rfl ?_
    refine op1 2 rfl (sp_lenM (N := l19.length) (len_map _ _) rfl rfl isOwn Try.underlying26) rfl trivial rfl rfl ?_
    refine op0 (sp_lss rfl rfl rfl) rfl trivial rfl rfl ?_
    refine TL.nil ?_
    refine TC.cond (b := (decide (i14 < (l19.length : Int)))) rfl (fun h22 => ?_) (fun h22 => ?_)
    · have h := cond_t h h22
      refine TC.skip ?_
      refine TC.seq ?_
      refine TC.block ?_
      refine TC.seq ?_
      refine TC.region ?_
      refine op0 (sp_move rfl rfl) rfl trivial rfl rfl ?_
      refine op0 (sp_move rfl rfl) rfl trivial rfl rfl ?_
      obtain ⟨x22, h23, h24, h⟩ := idx_inv h
      refine op1 2 rfl (sp_indexS rfl rfl rfl isOwn sl26 h23 (map_get _ h24)) rfl trivial rfl rfl ?_
      refine op1 2 rfl (sp_fieldAddrR (i := (i14 : Int).toNat) rfl rfl isOwn ft67_0 vt3 (by decide) (map_get _ h24) (fun h => nomatch h)) rfl trivial rfl rfl ?_
      refine op1 2 rfl (sp_loadR (i := (i14 : Int).toNat) (j := 0) rfl rfl isOwn vt3 rfl (map_get _ h24) rfl (.v (.nil)) (nodup_of_B rfl)) rfl trivial rfl rfl ?_
      refine op0 (sp_move rfl rfl) rfl trivial rfl rfl ?_
      refine op0 (sp_leq rfl rfl rfl) rfl trivial rfl rfl ?_
      refine TL.nil ?_
      refine TC.cond (b := (decide (x22.1 ≤ ((Int.tdiv (Int.tdiv (at_4 + (at_4 + (Int.tmod at_6 300))) 2) r8.2.1) * r8.2.1)))) rfl (fun h25 => ?_) (fun h25 => ?_)
      · have h := cond_t h h25
        refine TC.region ?_
        refine op0 (sp_move rfl rfl) rfl trivial rfl rfl ?_
        refine op0 (sp_move rfl rfl) rfl trivial rfl rfl ?_
        refine op0 (sp_move rfl rfl) rfl trivial rfl rfl ?_
        refine op1 2 rfl (sp_indexS rfl rfl rfl isOwn sl26 h23 (map_get _ h24)) rfl trivial rfl rfl ?_
        refine op1 2 rfl (sp_loadRA (i := (i14 : Int).toNat) (j := 0) rfl rfl isOwn vt67 rfl (map_get _ h24) rfl rfl (by decide) (.v (.v (.nil))) (nodup_of_B rfl)) rfl trivial rfl rfl ?_
        refine op0 (sp_buildSlice (qs := [.agg [.val (.int .i64 x22.1), .val (.int .i64 x22.2)]]) (need := []) (els := List.map en_api_PulseFault ([(x22.1, x22.2)] : List (Int × Int))) 10 rfl sl26 (by decide) (by decide) rfl rfl rfl (.v (.v (.nil))) (map_len fun _ => rfl) rfl rfl rfl) rfl trivial rfl rfl ?_
        obtain ⟨h26, h⟩ := chk_inv h
        refine appM 4 0 (N := l20.length) (N2 := ([(x22.1, x22.2)] : List (Int × Int)).length) 11 rfl rfl trivial rfl rfl rfl rfl rfl isOwn rfl sl26 (len_map _ _) (len_map _ _) h26 (map_app _ _ _) rfl ?_
        refine op0 (sp_assign rfl rfl) rfl trivial rfl rfl ?_
        refine TL.nil ?_
        refine TC.inBlock ?_
        refine TC.region ?_
        refine op0 (sp_move rfl rfl) rfl trivial rfl rfl ?_
        obtain ⟨h27, h⟩ := chk_inv h
        refine op0 (sp_add rfl rfl rfl h27) rfl trivial rfl rfl ?_
        refine op0 (sp_assign rfl rfl) rfl trivial rfl rfl ?_
        refine TL.nil ?_
        refine TC.inLoop ?_
        refine TC.seq ?_
        refine TC.seq ?_
        refine subJ [(8, 11)] (ih _ _ _ _ _ _ _ _ h) ?_ ?_ ?_
        · exact ⟨rfl, rfl, rfl, rfl, rfl, rfl, rfl, rfl, rfl, rfl, rfl, trivial⟩
        · exact ⟨mem_at 2 rfl, mem_at 3 rfl, mem_at 4 rfl, mem_at 0 rfl, mem_at 5 rfl, trivial⟩
        · rfl
      · have h := cond_f h h25
        refine TC.region ?_
        refine op0 (sp_move rfl rfl) rfl trivial rfl rfl ?_
        refine op0 (sp_move rfl rfl) rfl trivial rfl rfl ?_
        refine op0 (sp_move rfl rfl) rfl trivial rfl rfl ?_
        refine op1 2 rfl (sp_indexS rfl rfl rfl isOwn sl26 h23 (map_get _ h24)) rfl trivial rfl rfl ?_
        refine op1 2 rfl (sp_loadRA (i := (i14 : Int).toNat) (j := 0) rfl rfl isOwn vt67 rfl (map_get _ h24) rfl rfl (by decide) (.v (.v (.nil))) (nodup_of_B rfl)) rfl trivial rfl rfl ?_
        refine op0 (sp_buildSlice (qs := [.agg [.val (.int .i64 x22.1), .val (.int .i64 x22.2)]]) (need := []) (els := List.map en_api_PulseFault ([(x22.1, x22.2)] : List (Int × Int))) 12 rfl sl26 (by decide) (by decide) rfl rfl rfl (.v (.v (.nil))) (map_len fun _ => rfl) rfl rfl rfl) rfl trivial rfl rfl ?_
        obtain ⟨h28, h⟩ := chk_inv h
        refine appM 5 0 (N := l21.length) (N2 := ([(x22.1, x22.2)] : List (Int × Int)).length) 13 rfl rfl trivial rfl rfl rfl rfl rfl isOwn rfl sl26 (len_map _ _) (len_map _ _) h28 (map_app _ _ _) rfl ?_
        refine op0 (sp_assign rfl rfl) rfl trivial rfl rfl ?_
        refine TL.nil ?_
        refine TC.inBlock ?_
        refine TC.region ?_
        refine op0 (sp_move rfl rfl) rfl trivial rfl rfl ?_
        obtain ⟨h29, h⟩ := chk_inv h
        refine op0 (sp_add rfl rfl rfl h29) rfl trivial rfl rfl ?_
        refine op0 (sp_assign rfl rfl) rfl trivial rfl rfl ?_
        refine TL.nil ?_
        refine TC.inLoop ?_
        refine TC.seq ?_
        refine TC.seq ?_
        refine subJ [(9, 13)] (ih _ _ _ _ _ _ _ _ h) ?_ ?_ ?_
        · exact ⟨rfl, rfl, rfl, rfl, rfl, rfl, rfl, rfl, rfl, rfl, rfl, trivial⟩
        · exact ⟨mem_at 2 rfl, mem_at 3 rfl, mem_at 4 rfl, mem_at 5 rfl, mem_at 0 rfl, trivial⟩
        · rfl
    · have h := cond_f h h22
      refine TC.exit rfl ?_
      refine TC.seq ?_
      refine TC.region ?_
      refine op1 1 rfl (sp_loadBA rfl isBlk rfl vt24 rfl rfl) rfl trivial rfl rfl ?_
      refine op0 (sp_move rfl rfl) rfl trivial rfl rfl ?_
      refine op0 (sp_move rfl rfl) rfl trivial rfl rfl ?_
      refine op0 (sp_move rfl rfl) rfl trivial rfl rfl ?_
      refine op0 (sp_move rfl rfl) rfl trivial rfl rfl ?_
      obtain ⟨r23, h30, h⟩ := bind_inv h
      refine op1 3 rfl (sp_call (avs := [.agg [.val (.int .i64 i16), .val (.int .i64 i17), .val (.int .i64 i18)], .val (.int .i64 (Int.tmod at_5 720)), .val (.int .i64 at_4), .ref 8, .val (.int .i64 ((Int.tdiv (Int.tdiv (at_4 + (at_4 + (Int.tmod at_6 300))) 2) r8.2.1) * r8.2.1))]) (need := [.row 8 67 2 (List.map en_api_PulseFault l20)]) (v := .tup [.val (.int .i64 r23.1), .val (.int .i64 r23.2)]) (news := []) rfl rfl rfl Try.call13 (atJ [(0, 8)] [] (fc_pulse_Run h30) rfl rfl) (.inr (fun x hx => nomatch hx))) rfl trivial rfl rfl ?_
      refine op0 (sp_move rfl rfl) rfl trivial rfl rfl ?_
      refine op0 (sp_extract rfl rfl rfl) rfl trivial rfl rfl ?_
      refine op0 (sp_extract rfl rfl rfl) rfl trivial rfl rfl ?_
      refine op0 (sp_assign rfl rfl) rfl trivial rfl rfl ?_
      refine op0 (sp_assign rfl rfl) rfl trivial rfl rfl ?_
      refine TL.nil ?_
      refine TC.seq ?_
      refine TC.region ?_
      refine op1 1 rfl (sp_loadBA rfl isBlk rfl vt24 rfl rfl) rfl trivial rfl rfl ?_
      refine op0 (sp_move rfl rfl) rfl trivial rfl rfl ?_
      refine op0 (sp_move rfl rfl) rfl trivial rfl rfl ?_
      refine op0 (sp_move rfl rfl) rfl trivial rfl rfl ?_
      refine op0 (sp_move rfl rfl) rfl trivial rfl rfl ?_
      obtain ⟨r24, h31, h⟩ := bind_inv h
      refine op1 4 rfl (sp_call (avs := [.agg [.val (.int .i64 i16), .val (.int .i64 i17), .val (.int .i64 i18)], .val (.int .i64 r23.1), .val (.int .i64 ((Int.tdiv (Int.tdiv (at_4 + (at_4 + (Int.tmod at_6 300))) 2) r8.2.1) * r8.2.1)), .ref 9, .val (.int .i64 (at_4 + (Int.tmod at_6 300)))]) (need := [.row 9 67 2 (List.map en_api_PulseFault l21)]) (v := .tup [.val (.int .i64 r24.1), .val (.int .i64 r24.2)]) (news := []) rfl rfl rfl Try.call13 (atJ [(0, 9)] [] (fc_pulse_Run h31) rfl rfl) (.inr (fun x hx => nomatch hx))) rfl trivial rfl rfl ?_
      refine op0 (sp_move rfl rfl) rfl trivial rfl rfl ?_
      refine op0 (sp_extract rfl rfl rfl) rfl trivial rfl rfl ?_
      refine op0 (sp_extract rfl rfl rfl) rfl trivial rfl rfl ?_
      refine op0 (sp_assign rfl rfl) rfl trivial rfl rfl ?_
      refine op0 (sp_assign rfl rfl) rfl trivial rfl rfl ?_
      refine TL.nil ?_
      refine TC.seq ?_
      refine TC.region ?_
      refine op0 (sp_move rfl rfl) rfl trivial rfl rfl ?_
      refine op0 (sp_neq rfl rfl rfl) rfl trivial rfl rfl ?_
      refine op0 (sp_move rfl rfl) rfl trivial rfl rfl ?_
      rcases cond_cases h with ⟨h32, h⟩ | ⟨h32, h⟩
      · refine (boolLit 155 rfl h32).2 ?_
        refine opSkip rfl ⟨_, rfl, .inl rfl⟩ rfl ?_
        refine opSkip rfl ⟨_, rfl, .inl rfl⟩ rfl ?_
        refine op0 (sp_pickT rfl rfl rfl) rfl trivial rfl rfl ?_
        refine op0 (sp_move rfl rfl) rfl trivial rfl rfl ?_
        refine opSkip rfl ⟨_, rfl, .inl rfl⟩ rfl ?_
        refine opSkip rfl ⟨_, rfl, .inl rfl⟩ rfl ?_
        refine opSkip rfl ⟨_, rfl, .inl rfl⟩ rfl ?_
        refine op0 (sp_pickT rfl rfl rfl) rfl trivial rfl rfl ?_
        refine TL.nil ?_
        refine TC.condT rfl ?_
        refine TC.seq ?_
        refine TC.region ?_
        refine op0 (sp_assign rfl rfl) rfl trivial rfl rfl ?_
        refine TL.nil ?_
        cases h
        exact retJ [] (.tmp rfl .nil) rfl trivial rfl rfl
      · refine (boolLit 155 rfl h32).2 ?_
        refine op0 (sp_move rfl rfl) rfl ⟨_, rfl, rfl⟩ rfl rfl ?_
        refine op0 (sp_neq rfl rfl rfl) rfl ⟨_, rfl, rfl⟩ rfl rfl ?_
        refine op0 (sp_pickF rfl rfl rfl) rfl trivial rfl rfl ?_
        refine op0 (sp_move rfl rfl) rfl trivial rfl rfl ?_
        rcases cond_cases h with ⟨h33, h⟩ | ⟨h33, h⟩
        · refine (boolLit 159 rfl h33).2 ?_
          refine opSkip rfl ⟨_, rfl, .inl rfl⟩ rfl ?_
          refine opSkip rfl ⟨_, rfl, .inl rfl⟩ rfl ?_
          refine opSkip rfl ⟨_, rfl, .inl rfl⟩ rfl ?_
          refine op0 (sp_pickT rfl rfl rfl) rfl trivial rfl rfl ?_
          refine TL.nil ?_
          refine TC.condT rfl ?_
          refine TC.seq ?_
          refine TC.region ?_
          refine op0 (sp_assign rfl rfl) rfl trivial rfl rfl ?_
          refine TL.nil ?_
          cases h
          exact retJ [] (.tmp rfl .nil) rfl trivial rfl rfl
        · refine (boolLit 159 rfl h33).2 ?_
          refine op0 (sp_move rfl rfl) rfl ⟨_, rfl, rfl⟩ rfl rfl ?_
          refine op0 (sp_move rfl rfl) rfl ⟨_, rfl, rfl⟩ rfl rfl ?_
          refine op0 (sp_neq rfl rfl rfl) rfl ⟨_, rfl, rfl⟩ rfl rfl ?_
          refine op0 (sp_pickF rfl rfl rfl) rfl trivial rfl rfl ?_
          refine TL.nil ?_
          refine TC.cond (b := (r24.1 != r13.1)) rfl (fun h34 => ?_) (fun h34 => ?_)
          · have h := cond_t h h34
            refine TC.seq ?_
            refine TC.region ?_
            refine op0 (sp_assign rfl rfl) rfl trivial rfl rfl ?_
            refine TL.nil ?_
            cases h
            exact retJ [] (.tmp rfl .nil) rfl trivial rfl rfl
          · have h := cond_f h h34
            refine subJ [] (ok_law09_PulseStill_j2 h) ?_ ?_ ?_
            · exact ⟨rfl, rfl, rfl, rfl, trivial⟩
            · exact ⟨mem_at 0 rfl, trivial⟩
            · rfl
def ev_law09_PulseStill_j0 (n : Nat) (r8 : Int × Int × Int) (at_4 : Int) (at_6 : Int) (by_7 : List Int) (at_5 : Int) : Option Bool :=
  (ev_law09_list n r8.1 r8.2.1 r8.2.2 at_4 (at_4 + (Int.tmod at_6 300)) by_7).bind fun r11 => (ev_law09_faults n r11).bind fun r12 => (ev_pulse_Run n r8.1 r8.2.1 r8.2.2 (Int.tmod at_5 720) at_4 r12 (at_4 + (Int.tmod at_6 300))).bind fun r13 => chk (in64 (at_4 + (at_4 + (Int.tmod at_6 300)))) <| chk (in64 (Int.tdiv (at_4 + (at_4 + (Int.tmod at_6 300))) 2)) <| chk (r8.2.1 != 0) <| chk (in64 (Int.tdiv (Int.tdiv (at_4 + (at_4 + (Int.tmod at_6 300))) 2) r8.2.1)) <| chk (in64 ((Int.tdiv (Int.tdiv (at_4 + (at_4 + (Int.tmod at_6 300))) 2) r8.2.1) * r8.2.1)) <| cond (r13.2 != 0) (some false) (cond (decide (at_4 ≤ ((Int.tdiv (Int.tdiv (at_4 + (at_4 + (Int.tmod at_6 300))) 2) r8.2.1) * r8.2.1))) (ev_law09_PulseStill_l1 n at_4 at_6 r8 at_5 r13 n 0 by_7 r8.1 r8.2.1 r8.2.2 r11 ([] : List (Int × Int)) ([] : List (Int × Int))) (ev_law09_PulseStill_j3 n at_4 at_6 at_5 by_7))
set_option maxRecDepth 100000 in
set_option maxHeartbeats 2000000 in
theorem ok_law09_PulseStill_j0 {n : Nat} {w0 : World} {R0 : Nat → Prop} {env0 : Env} {r : Bool} {at_4 : Int} {at_5 : Int} {at_6 : Int} {by_7 : List Int} {r8 : Int × Int × Int} (h : ev_law09_PulseStill_j0 n r8 at_4 at_6 by_7 at_5 = some r) : TC Try.prog ⟨w0, fun _ => False, R0⟩ 202 (bodyPost Try.prog Try.f8 (Post ⟨w0, fun _ => False, R0⟩ env0 (.val (.bool r)) [])) [.code (sub (bodyOf Try.f8) [1, 1, 1, 1, 1, 1, 0, 1, 1]), .code (sub (bodyOf Try.f8) [1, 1, 1, 1, 1, 1, 1])] [(2, .ref 0), (7, .ptr 3 0), (8, .val (.int .i64 at_4)), (9, .val (.int .i64 (Int.tmod at_5 720))), (10, .val (.int .i64 (at_4 + (Int.tmod at_6 300))))] [.ro 0 1 (List.map en_uint8 by_7), .blk 3 [.val (.int .i64 r8.1), .val (.int .i64 r8.2.1), .val (.int .i64 r8.2.2)] 24] := by
  rw [ev_law09_PulseStill_j0] at h
  refine TC.skip ?_
  refine TC.seq ?_
  refine TC.region ?_
  refine op1 1 rfl (sp_loadBA rfl isBlk rfl vt24 rfl rfl) rfl trivial rfl rfl ?_
  refine op0 (sp_move rfl rfl) rfl trivial rfl rfl ?_
  refine op0 (sp_move rfl rfl) rfl trivial rfl rfl ?_
  refine op0 (sp_move rfl rfl) rfl trivial rfl rfl ?_
  obtain ⟨r11, h12, h⟩ := bind_inv h
  refine op1 0 rfl (sp_call (avs := [.agg [.val (.int .i64 r8.1), .val (.int .i64 r8.2.1), .val (.int .i64 r8.2.2)], .val (.int .i64 at_4), .val (.int .i64 (at_4 + (Int.tmod at_6 300))), .ref 0]) (need := [.ro 0 1 (List.map en_uint8 by_7)]) (v := .ref 6) (news := [.row 6 67 2 (List.map en_api_PulseFault r11)]) rfl rfl rfl Try.call30 (atJ [] [(0, 6)] (fc_law09_list h12) rfl rfl) (.inl (roAll rfl))) rfl trivial rfl rfl ?_
  refine op0 (sp_assign rfl rfl) rfl trivial rfl rfl ?_
  refine TL.nil ?_
  refine TC.seq ?_
  obtain ⟨r12, h13, h⟩ := bind_inv h
  obtain ⟨r13, h14, h⟩ := bind_inv h
  refine drawJ 11 [⟨.agg [.val (.int .i64 r8.1), .val (.int .i64 r8.2.1), .val (.int .i64 r8.2.2)], [], [.blk 3 [.val (.int .i64 r8.1), .val (.int .i64 r8.2.1), .val (.int .i64 r8.2.2)] 24], []⟩, ⟨.val (.int .i64 (Int.tmod at_5 720)), [], [], []⟩, ⟨.val (.int .i64 at_4), [], [], []⟩, ⟨.ref 6, [], [], []⟩, ⟨.ref 7, [.row 7 67 2 (List.map en_api_PulseFault r12)], [.row 6 67 2 (List.map en_api_PulseFault r11)], []⟩, ⟨.val (.int .i64 (at_4 + (Int.tmod at_6 300))), [], [], []⟩, ⟨.tup [.val (.int .i64 r13.1), .val (.int .i64 r13.2)], [], [.row 7 67 2 (List.map en_api_PulseFault r12)], []⟩, ⟨.tup [.val (.int .i64 r13.1), .val (.int .i64 r13.2)], [], [], []⟩, ⟨.val (.int .i64 r13.1), [], [], []⟩, ⟨.val (.int .i64 r13.2), [], [], []⟩, ⟨.val (.int .i64 r13.1), [], [], []⟩] rfl ?_ rfl ?_ rfl ?_ ?_
  · kernel_rfl
  · kernel_rfl
  · exact DAll.op' (sp_loadBA rfl isBlk rfl vt24 rfl rfl) trivial rfl (From.ok (ps := [(none, 2)]) ⟨⟨rfl, rfl⟩, trivial⟩) (DAll.op' (sp_move rfl rfl) trivial rfl (From.ok (ps := []) trivial) (DAll.op' (sp_move rfl rfl) trivial rfl (From.ok (ps := []) trivial) (DAll.op' (sp_move rfl rfl) trivial rfl (From.ok (ps := []) trivial) (DAll.op' (sp_call (avs := [.ref 6]) (need := [.row 6 67 2 (List.map en_api_PulseFault r11)]) (v := .ref 7) (news := [.row 7 67 2 (List.map en_api_PulseFault r12)]) rfl rfl rfl Try.call12 (atJ [(0, 6)] [(0, 7)] (fc_law09_faults h13) rfl rfl) (.inr (List.forall_mem_cons.2 ⟨indep_map en_api_PulseFault_flat, (by simp)⟩))) trivial rfl (From.ok (ps := [(none, 0)]) ⟨⟨rfl, rfl⟩, trivial⟩) (DAll.op' (sp_move rfl rfl) trivial rfl (From.ok (ps := []) trivial) (DAll.op' (sp_call (avs := [.agg [.val (.int .i64 r8.1), .val (.int .i64 r8.2.1), .val (.int .i64 r8.2.2)], .val (.int .i64 (Int.tmod at_5 720)), .val (.int .i64 at_4), .ref 7, .val (.int .i64 (at_4 + (Int.tmod at_6 300)))]) (need := [.row 7 67 2 (List.map en_api_PulseFault r12)]) (v := .tup [.val (.int .i64 r13.1), .val (.int .i64 r13.2)]) (news := []) rfl rfl rfl Try.call13 (atJ [(0, 7)] [] (fc_pulse_Run h14) rfl rfl) (.inr (fun x hx => nomatch hx))) trivial rfl (From.ok (ps := [(some 4, 0)]) ⟨⟨_, rfl, rfl, rfl, rfl⟩, trivial⟩) (DAll.op' (sp_move rfl rfl) trivial rfl (From.ok (ps := []) trivial) (DAll.op' (sp_extract rfl rfl rfl) trivial rfl (From.ok (ps := []) trivial) (DAll.op' (sp_extract rfl rfl rfl) trivial rfl (From.ok (ps := []) trivial) (DAll.op' (sp_assign rfl rfl) trivial rfl (From.ok (ps := []) trivial) (.nil)))))))))))
  refine op0 (sp_assign rfl rfl) rfl trivial rfl rfl ?_
  refine TL.nil ?_
  refine TC.seq ?_
  obtain ⟨h15, h⟩ := chk_inv h
  obtain ⟨h16, h⟩ := chk_inv h
  obtain ⟨h17, h⟩ := chk_inv h
  obtain ⟨h18, h⟩ := chk_inv h
  refine drawJ 9 [⟨.val (.int .i64 at_4), [], [], []⟩, ⟨.val (.int .i64 (at_4 + (Int.tmod at_6 300))), [], [], []⟩, ⟨.val (.int .i64 (at_4 + (at_4 + (Int.tmod at_6 300)))), [], [], []⟩, ⟨.val (.int .i64 (Int.tdiv (at_4 + (at_4 + (Int.tmod at_6 300))) 2)), [], [], []⟩, ⟨.ptr 3 1, [], [.blk 3 [.val (.int .i64 r8.1), .val (.int .i64 r8.2.1), .val (.int .i64 r8.2.2)] 24], []⟩, ⟨.val (.int .i64 r8.2.1), [], [.blk 3 [.val (.int .i64 r8.1), .val (.int .i64 r8.2.1), .val (.int .i64 r8.2.2)] 24], []⟩, ⟨.val (.int .i64 (Int.tdiv (Int.tdiv (at_4 + (at_4 + (Int.tmod at_6 300))) 2) r8.2.1)), [], [], []⟩, ⟨.ptr 3 1, [], [.blk 3 [.val (.int .i64 r8.1), .val (.int .i64 r8.2.1), .val (.int .i64 r8.2.2)] 24], []⟩, ⟨.val (.int .i64 r8.2.1), [], [.blk 3 [.val (.int .i64 r8.1), .val (.int .i64 r8.2.1), .val (.int .i64 r8.2.2)] 24], []⟩] rfl ?_ rfl ?_ rfl ?_ ?_
  · kernel_rfl
  · kernel_rfl
  · exact DAll.op' (sp_move rfl rfl) trivial rfl (From.ok (ps := []) trivial) (DAll.op' (sp_move rfl rfl) trivial rfl (From.ok (ps := []) trivial) (DAll.op' (sp_add rfl rfl rfl h15) trivial rfl (From.ok (ps := []) trivial) (DAll.op' (sp_quo rfl rfl rfl (by decide) h16) trivial rfl (From.ok (ps := []) trivial) (DAll.op' (sp_fieldAddrB rfl isBlk rfl ft24_1 vt3 (by decide)) trivial rfl (From.ok (ps := [(none, 3)]) ⟨⟨rfl, rfl⟩, trivial⟩) (DAll.op' (sp_loadB rfl isBlk rfl vt3 rfl) trivial rfl (From.ok (ps := [(none, 3)]) ⟨⟨rfl, rfl⟩, trivial⟩) (DAll.op' (sp_quo rfl rfl rfl h17 h18) trivial rfl (From.ok (ps := []) trivial) (DAll.op' (sp_fieldAddrB rfl isBlk rfl ft24_1 vt3 (by decide)) trivial rfl (From.ok (ps := [(none, 3)]) ⟨⟨rfl, rfl⟩, trivial⟩) (DAll.op' (sp_loadB rfl isBlk rfl vt3 rfl) trivial rfl (From.ok (ps := [(none, 3)]) ⟨⟨rfl, rfl⟩, trivial⟩) (.nil)))))))))
  obtain ⟨h19, h⟩ := chk_inv h
  refine op0 (sp_mul rfl rfl rfl h19) rfl trivial rfl rfl ?_
  refine op0 (sp_assign rfl rfl) rfl trivial rfl rfl ?_
  refine TL.nil ?_
  refine TC.seq ?_
  refine TC.seq ?_
  refine TC.region ?_
  refine op0 (sp_move rfl rfl) rfl trivial rfl rfl ?_
  refine op0 (sp_neq rfl rfl rfl) rfl trivial rfl rfl ?_
  refine TL.nil ?_
  refine TC.cond (b := (r13.2 != 0)) rfl (fun h20 => ?_) (fun h20 => ?_)
  · have h := cond_t h h20
    refine TC.seq ?_
    refine TC.region ?_
    refine op0 (sp_assign rfl rfl) rfl trivial rfl rfl ?_
    refine TL.nil ?_
    cases h
    exact retJ [] (.tmp rfl .nil) rfl trivial rfl rfl
  · have h := cond_f h h20
    refine TC.skip ?_
    refine TC.seq ?_
    refine TC.seq ?_
    refine TC.region ?_
    refine op0 (sp_move rfl rfl) rfl trivial rfl rfl ?_
    refine op0 (sp_move rfl rfl) rfl trivial rfl rfl ?_
    refine op0 (sp_geq rfl rfl rfl) rfl trivial rfl rfl ?_
    refine TL.nil ?_
    refine TC.cond (b := (decide (at_4 ≤ ((Int.tdiv (Int.tdiv (at_4 + (at_4 + (Int.tmod at_6 300))) 2) r8.2.1) * r8.2.1)))) rfl (fun h21 => ?_) (fun h21 => ?_)
    · have h := cond_t h h21
      refine TC.seq ?_
      refine TC.region ?_
      refine op0 (sp_emptyM 8 (List.map en_api_PulseFault []) rfl rfl sl26) rfl trivial rfl rfl ?_
      refine op0 (sp_emptyM 9 (List.map en_api_PulseFault []) rfl rfl sl26) rfl trivial rfl rfl ?_
      refine op0 (sp_assign rfl rfl) rfl trivial rfl rfl ?_
      refine op0 (sp_assign rfl rfl) rfl trivial rfl rfl ?_
      refine TL.nil ?_
      refine TC.seq ?_
      refine TC.seq ?_
      refine TC.region ?_
      refine op0 (sp_assign rfl rfl) rfl trivial rfl rfl ?_
      refine TL.nil ?_
      refine TC.block ?_
      refine TC.loop ?_
      refine TC.seq ?_
      refine TC.seq ?_
      refine subJ [] (ok_law09_PulseStill_l1 _ _ _ _ _ _ _ _ _ h) ?_ ?_ ?_
      · exact ⟨rfl, rfl, rfl, rfl, rfl, rfl, rfl, rfl, rfl, rfl, rfl, trivial⟩
      · exact ⟨mem_at 4 rfl, mem_at 5 rfl, mem_at 3 rfl, mem_at 1 rfl, mem_at 0 rfl, trivial⟩
      · rfl
    · have h := cond_f h h21
      refine TC.skip ?_
      refine TC.seq ?_
      refine subJ [] (ok_law09_PulseStill_j3 h) ?_ ?_ ?_
      · exact ⟨rfl, rfl, rfl, rfl, trivial⟩
      · exact ⟨mem_at 2 rfl, trivial⟩
      · rfl
def ev_law09_PulseStill (n : Nat) (w1 : Int) (w2 : Int) (w3 : Int) (at_4 : Int) (at_5 : Int) (at_6 : Int) (by_7 : List Int) : Option Bool :=
  (ev_law09_Wired_line n w1 w2 w3).bind fun r8 => chk (in64 at_4) <| chk (in64 at_5) <| chk (in64 at_6) <| chk (in64 (at_4 + (Int.tmod at_6 300))) <| (ev_pulse_Run n r8.1 r8.2.1 r8.2.2 (Int.tmod at_4 720) at_4 ([]) (at_4 + (Int.tmod at_6 300))).bind fun r9 => (ev_pulse_Back n r8.1 r8.2.1 r8.2.2 at_4 ([])).bind fun r10 => cond (r9.2 != 0) (some false) (cond (r10.2 != 0) (some false) (cond (r9.1 != (Int.tmod (at_4 + (Int.tmod at_6 300)) 720)) (some false) (cond (r10.1 != at_4) (some false) (ev_law09_PulseStill_j0 n r8 at_4 at_6 by_7 at_5))))
set_option maxRecDepth 100000 in
set_option maxHeartbeats 2000000 in
theorem fc_law09_PulseStill {n : Nat} {w1 : Int} {w2 : Int} {w3 : Int} {at_4 : Int} {at_5 : Int} {at_6 : Int} {by_7 : List Int} {r : Bool} (h : ev_law09_PulseStill n w1 w2 w3 at_4 at_5 at_6 by_7 = some r) : FC Try.prog 8 [.agg [.val (.int .u8 w1), .val (.int .u8 w2), .val (.int .u8 w3)], .agg [.val (.int .u16 at_4), .val (.int .u16 at_5), .val (.int .u16 at_6)], .ref 0] [.ro 0 1 (List.map en_uint8 by_7)] (.val (.bool r)) [] := by
  refine introJ (sz := 202) Try.func8 rfl rfl rfl (fun w0 R0 env0 => ?_)
  rw [ev_law09_PulseStill] at h
  refine TC.seq ?_
  refine TC.region ?_
  refine op0 (sp_box 1 rfl rfl rfl rfl rfl) rfl trivial rfl rfl ?_
  refine op0 (sp_box 2 rfl rfl rfl rfl rfl) rfl trivial rfl rfl ?_
  refine op0 (sp_assign rfl rfl) rfl trivial rfl rfl ?_
  refine TL.nil ?_
  refine TC.seq ?_
  refine TC.region ?_
  refine op1 1 rfl (sp_loadBA rfl isBlk rfl vt59 rfl rfl) rfl trivial rfl rfl ?_
  obtain ⟨r8, h1, h⟩ := bind_inv h
  refine op0 (sp_call (avs := [.agg [.val (.int .u8 w1), .val (.int .u8 w2), .val (.int .u8 w3)]]) (need := []) (v := .agg [.val (.int .i64 r8.1), .val (.int .i64 r8.2.1), .val (.int .i64 r8.2.2)]) (news := []) rfl rfl rfl Try.call29 (atJ [] [] (fc_law09_Wired_line h1) rfl rfl) (.inl (roAll rfl))) rfl trivial rfl rfl ?_
  refine op0 (sp_alloc 3 rfl Try.zeroValue24 rfl) rfl trivial rfl rfl ?_
  refine stoB 0 (cells' := [.val (.int .i64 r8.1), .val (.int .i64 r8.2.1), .val (.int .i64 r8.2.2)]) rfl rfl trivial rfl rfl rfl rfl vt24 rfl rfl rfl ?_
  refine TL.nil ?_
  refine TC.seq ?_
  obtain ⟨h2, h⟩ := chk_inv h
  obtain ⟨h3, h⟩ := chk_inv h
  refine drawJ 8 [⟨.ptr 2 0, [], [.blk 2 [.val (.int .u16 at_4), .val (.int .u16 at_5), .val (.int .u16 at_6)] 70], []⟩, ⟨.val (.int .u16 at_4), [], [.blk 2 [.val (.int .u16 at_4), .val (.int .u16 at_5), .val (.int .u16 at_6)] 70], []⟩, ⟨.val (.int .i64 at_4), [], [], []⟩, ⟨.ptr 2 1, [], [.blk 2 [.val (.int .u16 at_4), .val (.int .u16 at_5), .val (.int .u16 at_6)] 70], []⟩, ⟨.val (.int .u16 at_5), [], [.blk 2 [.val (.int .u16 at_4), .val (.int .u16 at_5), .val (.int .u16 at_6)] 70], []⟩, ⟨.val (.int .i64 at_5), [], [], []⟩, ⟨.val (.int .i64 (Int.tmod at_5 720)), [], [], []⟩, ⟨.val (.int .i64 at_4), [], [], []⟩] rfl ?_ rfl ?_ rfl ?_ ?_
  · kernel_rfl
  · kernel_rfl
  · exact DAll.op' (sp_indexA (len := 3) (iv := 0) rfl isBlk rfl rfl Try.underlying70 vt69 (by decide)) trivial rfl (From.ok (ps := [(none, 1)]) ⟨⟨rfl, rfl⟩, trivial⟩) (DAll.op' (sp_loadB rfl isBlk rfl vt69 rfl) trivial rfl (From.ok (ps := [(none, 1)]) ⟨⟨rfl, rfl⟩, trivial⟩) (DAll.op' (sp_conv rfl Try.underlying69 Try.underlying3 rfl h2) trivial rfl (From.ok (ps := []) trivial) (DAll.op' (sp_indexA (len := 3) (iv := 1) rfl isBlk rfl rfl Try.underlying70 vt69 (by decide)) trivial rfl (From.ok (ps := [(none, 1)]) ⟨⟨rfl, rfl⟩, trivial⟩) (DAll.op' (sp_loadB rfl isBlk rfl vt69 rfl) trivial rfl (From.ok (ps := [(none, 1)]) ⟨⟨rfl, rfl⟩, trivial⟩) (DAll.op' (sp_conv rfl Try.underlying69 Try.underlying3 rfl h3) trivial rfl (From.ok (ps := []) trivial) (DAll.op' (sp_rem rfl rfl rfl (by decide)) trivial rfl (From.ok (ps := []) trivial) (DAll.op' (sp_assign rfl rfl) trivial rfl (From.ok (ps := []) trivial) (.nil))))))))
  refine op0 (sp_assign rfl rfl) rfl trivial rfl rfl ?_
  refine TL.nil ?_
  refine TC.seq ?_
  refine TC.region ?_
  refine op0 (sp_move rfl rfl) rfl trivial rfl rfl ?_
  refine op1 1 rfl (sp_indexA (len := 3) (iv := 2) rfl isBlk rfl rfl Try.underlying70 vt69 (by decide)) rfl trivial rfl rfl ?_
  refine op1 1 rfl (sp_loadB rfl isBlk rfl vt69 rfl) rfl trivial rfl rfl ?_
  obtain ⟨h4, h⟩ := chk_inv h
  refine op0 (sp_conv rfl Try.underlying69 Try.underlying3 rfl h4) rfl trivial rfl rfl ?_
  refine op0 (sp_rem rfl rfl rfl (by decide)) rfl trivial rfl rfl ?_
  obtain ⟨h5, h⟩ := chk_inv h
  refine op0 (sp_add rfl rfl rfl h5) rfl trivial rfl rfl ?_
  refine op0 (sp_assign rfl rfl) rfl trivial rfl rfl ?_
  refine TL.nil ?_
  refine TC.seq ?_
  refine TC.region ?_
  refine op1 0 rfl (sp_loadBA rfl isBlk rfl vt24 rfl rfl) rfl trivial rfl rfl ?_
  refine op0 (sp_move rfl rfl) rfl trivial rfl rfl ?_
  refine op0 (sp_rem rfl rfl rfl (by decide)) rfl trivial rfl rfl ?_
  refine op0 (sp_move rfl rfl) rfl trivial rfl rfl ?_
  refine op0 (sp_move rfl rfl) rfl trivial rfl rfl ?_
  obtain ⟨r9, h6, h⟩ := bind_inv h
  refine op0 (sp_call (avs := [.agg [.val (.int .i64 r8.1), .val (.int .i64 r8.2.1), .val (.int .i64 r8.2.2)], .val (.int .i64 (Int.tmod at_4 720)), .val (.int .i64 at_4), .val (.slice none 0 0), .val (.int .i64 (at_4 + (Int.tmod at_6 300)))]) (need := []) (v := .tup [.val (.int .i64 r9.1), .val (.int .i64 r9.2)]) (news := []) rfl rfl rfl Try.call13 (FC.nil (args := [.agg [.val (.int .i64 r8.1), .val (.int .i64 r8.2.1), .val (.int .i64 r8.2.2)], .val (.int .i64 (Int.tmod at_4 720)), .val (.int .i64 at_4), .ref 4, .val (.int .i64 (at_4 + (Int.tmod at_6 300)))]) 4 2 (atJ [(0, 4)] [] (fc_pulse_Run h6) rfl rfl) rfl rfl rfl) (.inl (roAll rfl))) rfl trivial rfl rfl ?_
  refine op0 (sp_move rfl rfl) rfl trivial rfl rfl ?_
  refine op0 (sp_extract rfl rfl rfl) rfl trivial rfl rfl ?_
  refine op0 (sp_extract rfl rfl rfl) rfl trivial rfl rfl ?_
  refine op0 (sp_assign rfl rfl) rfl trivial rfl rfl ?_
  refine op0 (sp_assign rfl rfl) rfl trivial rfl rfl ?_
  refine TL.nil ?_
  refine TC.seq ?_
  refine TC.region ?_
  refine op1 0 rfl (sp_loadBA rfl isBlk rfl vt24 rfl rfl) rfl trivial rfl rfl ?_
  refine op0 (sp_move rfl rfl) rfl trivial rfl rfl ?_
  obtain ⟨r10, h7, h⟩ := bind_inv h
  refine op0 (sp_call (avs := [.agg [.val (.int .i64 r8.1), .val (.int .i64 r8.2.1), .val (.int .i64 r8.2.2)], .val (.int .i64 at_4), .val (.slice none 0 0)]) (need := []) (v := .tup [.val (.int .i64 r10.1), .val (.int .i64 r10.2)]) (news := []) rfl rfl rfl Try.call21 (FC.nil (args := [.agg [.val (.int .i64 r8.1), .val (.int .i64 r8.2.1), .val (.int .i64 r8.2.2)], .val (.int .i64 at_4), .ref 5]) 5 2 (atJ [(0, 5)] [] (fc_pulse_Back h7) rfl rfl) rfl rfl rfl) (.inl (roAll rfl))) rfl trivial rfl rfl ?_
  refine op0 (sp_move rfl rfl) rfl trivial rfl rfl ?_
  refine op0 (sp_extract rfl rfl rfl) rfl trivial rfl rfl ?_
  refine op0 (sp_extract rfl rfl rfl) rfl trivial rfl rfl ?_
  refine op0 (sp_assign rfl rfl) rfl trivial rfl rfl ?_
  refine op0 (sp_assign rfl rfl) rfl trivial rfl rfl ?_
  refine TL.nil ?_
  refine TC.seq ?_
  refine TC.seq ?_
  refine TC.region ?_
  refine op0 (sp_move rfl rfl) rfl trivial rfl rfl ?_
  refine op0 (sp_neq rfl rfl rfl) rfl trivial rfl rfl ?_
  refine op0 (sp_move rfl rfl) rfl trivial rfl rfl ?_
  rcases cond_cases h with ⟨h8, h⟩ | ⟨h8, h⟩
  · refine (boolLit 61 rfl h8).2 ?_
    refine opSkip rfl ⟨_, rfl, .inl rfl⟩ rfl ?_
    refine opSkip rfl ⟨_, rfl, .inl rfl⟩ rfl ?_
    refine op0 (sp_pickT rfl rfl rfl) rfl trivial rfl rfl ?_
    refine op0 (sp_move rfl rfl) rfl trivial rfl rfl ?_
    refine opSkip rfl ⟨_, rfl, .inl rfl⟩ rfl ?_
    refine opSkip rfl ⟨_, rfl, .inl rfl⟩ rfl ?_
    refine opSkip rfl ⟨_, rfl, .inl rfl⟩ rfl ?_
    refine opSkip rfl ⟨_, rfl, .inl rfl⟩ rfl ?_
    refine op0 (sp_pickT rfl rfl rfl) rfl trivial rfl rfl ?_
    refine op0 (sp_move rfl rfl) rfl trivial rfl rfl ?_
    refine opSkip rfl ⟨_, rfl, .inl rfl⟩ rfl ?_
    refine opSkip rfl ⟨_, rfl, .inl rfl⟩ rfl ?_
    refine opSkip rfl ⟨_, rfl, .inl rfl⟩ rfl ?_
    refine op0 (sp_pickT rfl rfl rfl) rfl trivial rfl rfl ?_
    refine TL.nil ?_
    refine TC.condT rfl ?_
    refine TC.seq ?_
    refine TC.region ?_
    refine op0 (sp_assign rfl rfl) rfl trivial rfl rfl ?_
    refine TL.nil ?_
    cases h
    exact retJ [] (.tmp rfl .nil) rfl trivial rfl rfl
  · refine (boolLit 61 rfl h8).2 ?_
    refine op0 (sp_move rfl rfl) rfl ⟨_, rfl, rfl⟩ rfl rfl ?_
    refine op0 (sp_neq rfl rfl rfl) rfl ⟨_, rfl, rfl⟩ rfl rfl ?_
    refine op0 (sp_pickF rfl rfl rfl) rfl trivial rfl rfl ?_
    refine op0 (sp_move rfl rfl) rfl trivial rfl rfl ?_
    rcases cond_cases h with ⟨h9, h⟩ | ⟨h9, h⟩
    · refine (boolLit 65 rfl h9).2 ?_
      refine opSkip rfl ⟨_, rfl, .inl rfl⟩ rfl ?_
      refine opSkip rfl ⟨_, rfl, .inl rfl⟩ rfl ?_
      refine opSkip rfl ⟨_, rfl, .inl rfl⟩ rfl ?_
      refine opSkip rfl ⟨_, rfl, .inl rfl⟩ rfl ?_
      refine op0 (sp_pickT rfl rfl rfl) rfl trivial rfl rfl ?_
      refine op0 (sp_move rfl rfl) rfl trivial rfl rfl ?_
      refine opSkip rfl ⟨_, rfl, .inl rfl⟩ rfl ?_
      refine opSkip rfl ⟨_, rfl, .inl rfl⟩ rfl ?_
      refine opSkip rfl ⟨_, rfl, .inl rfl⟩ rfl ?_
      refine op0 (sp_pickT rfl rfl rfl) rfl trivial rfl rfl ?_
      refine TL.nil ?_
      refine TC.condT rfl ?_
      refine TC.seq ?_
      refine TC.region ?_
      refine op0 (sp_assign rfl rfl) rfl trivial rfl rfl ?_
      refine TL.nil ?_
      cases h
      exact retJ [] (.tmp rfl .nil) rfl trivial rfl rfl
    · refine (boolLit 65 rfl h9).2 ?_
      refine op0 (sp_move rfl rfl) rfl ⟨_, rfl, rfl⟩ rfl rfl ?_
      refine op0 (sp_move rfl rfl) rfl ⟨_, rfl, rfl⟩ rfl rfl ?_
      refine op0 (sp_rem rfl rfl rfl (by decide)) rfl ⟨_, rfl, rfl⟩ rfl rfl ?_
      refine op0 (sp_neq rfl rfl rfl) rfl ⟨_, rfl, rfl⟩ rfl rfl ?_
      refine op0 (sp_pickF rfl rfl rfl) rfl trivial rfl rfl ?_
      refine op0 (sp_move rfl rfl) rfl trivial rfl rfl ?_
      rcases cond_cases h with ⟨h10, h⟩ | ⟨h10, h⟩
      · refine (boolLit 71 rfl h10).2 ?_
        refine opSkip rfl ⟨_, rfl, .inl rfl⟩ rfl ?_
        refine opSkip rfl ⟨_, rfl, .inl rfl⟩ rfl ?_
        refine opSkip rfl ⟨_, rfl, .inl rfl⟩ rfl ?_
        refine op0 (sp_pickT rfl rfl rfl) rfl trivial rfl rfl ?_
        refine TL.nil ?_
        refine TC.condT rfl ?_
        refine TC.seq ?_
        refine TC.region ?_
        refine op0 (sp_assign rfl rfl) rfl trivial rfl rfl ?_
        refine TL.nil ?_
        cases h
        exact retJ [] (.tmp rfl .nil) rfl trivial rfl rfl
      · refine (boolLit 71 rfl h10).2 ?_
        refine op0 (sp_move rfl rfl) rfl ⟨_, rfl, rfl⟩ rfl rfl ?_
        refine op0 (sp_move rfl rfl) rfl ⟨_, rfl, rfl⟩ rfl rfl ?_
        refine op0 (sp_neq rfl rfl rfl) rfl ⟨_, rfl, rfl⟩ rfl rfl ?_
        refine op0 (sp_pickF rfl rfl rfl) rfl trivial rfl rfl ?_
        refine TL.nil ?_
        refine TC.cond (b := (r10.1 != at_4)) rfl (fun h11 => ?_) (fun h11 => ?_)
        · have h := cond_t h h11
          refine TC.seq ?_
          refine TC.region ?_
          refine op0 (sp_assign rfl rfl) rfl trivial rfl rfl ?_
          refine TL.nil ?_
          cases h
          exact retJ [] (.tmp rfl .nil) rfl trivial rfl rfl
        · have h := cond_f h h11
          refine subJ [] (ok_law09_PulseStill_j0 h) ?_ ?_ ?_
          · exact ⟨rfl, rfl, rfl, rfl, rfl, trivial⟩
          · exact ⟨mem_at 3 rfl, mem_at 0 rfl, trivial⟩
          · rfl
/- law09_seen -/
def ev_law09_seen (n : Nat) (l1 : List (Int × Int)) : Option ((List (Int × Int))) :=
  chk (room 16 (([] : List (Int × Int)).length + l1.length)) <| some (([] : List (Int × Int)) ++ l1)
set_option maxRecDepth 100000 in
set_option maxHeartbeats 2000000 in
theorem fc_law09_seen {n : Nat} {l1 : List (Int × Int)} {r : (List (Int × Int))} (h : ev_law09_seen n l1 = some r) : FC Try.prog 26 [.ref 0] [.ro 0 2 (List.map en_api_PulseSeen l1)] (.ref 0) [.row 0 53 2 (List.map en_api_PulseSeen r)] := by
  refine introJ (sz := 6) Try.func26 rfl rfl rfl (fun w0 R0 env0 => ?_)
  rw [ev_law09_seen] at h
  refine TC.seq ?_
  refine TC.region ?_
  refine op0 (sp_assign rfl rfl) rfl trivial rfl rfl ?_
  refine TL.nil ?_
  refine TC.seq ?_
  refine TC.region ?_
  refine op0 (sp_emptyM 1 (List.map en_api_PulseSeen []) rfl rfl sl50) rfl trivial rfl rfl ?_
  refine op0 (sp_move rfl rfl) rfl trivial rfl rfl ?_
  obtain ⟨h1, h⟩ := chk_inv h
  refine appM 0 1 (N := ([] : List (Int × Int)).length) (N2 := l1.length) 2 rfl rfl trivial rfl rfl rfl rfl rfl isRo rfl sl50 (len_map _ _) (len_map _ _) h1 (map_app _ _ _) rfl ?_
  refine op0 (sp_assign rfl rfl) rfl trivial rfl rfl ?_
  refine TL.nil ?_
  cases h
  exact retJ [(0, 2)] (.tmp rfl .nil) rfl ⟨mem_at 0 rfl, trivial⟩ rfl rfl
/- law09_PulseTruth -/
def ev_law09_PulseTruth_j3 (n : Nat) (i13 : Int) (i12 : Int) (i27 : Int) (i28 : Int) (i29 : Int) (l30 : List (Int × Int)) (l31 : List (Int × Int)) (l32 : List (Int × Int)) : Option Bool :=
  (ev_law09_seen n l31).bind fun r33 => (ev_pulse_Fewest n i27 i28 i29 (Int.tmod i13 720) i12 r33).bind fun r34 => (ev_pulse_Fewest n i27 i28 i29 (Int.tmod i13 720) i12 l32).bind fun r35 => (ev_pulse_Fewest n i27 i28 i29 (Int.tmod i13 720) i12 ([])).bind fun r36 => cond (r34.2 == 0) (cond (r35.2 == 0) (cond (r36.2 == 0) (cond (r36.1 == 0) (cond (decide (r35.1 ≤ r34.1)) (cond (decide (r34.1 ≤ (l30.length : Int))) (cond (decide ((0 : Int) ≤ r35.1)) ((ev_law09_known n).bind fun r37 => some r37) (some false)) (some false)) (some false)) (some false)) (some false)) (some false)) (some false)
set_option maxRecDepth 100000 in
set_option maxHeartbeats 2000000 in
theorem ok_law09_PulseTruth_j3 {n : Nat} {w0 : World} {R0 : Nat → Prop} {env0 : Env} {r : Bool} {i12 : Int} {i13 : Int} {i27 : Int} {i28 : Int} {i29 : Int} {l30 : List (Int × Int)} {l31 : List (Int × Int)} {l32 : List (Int × Int)} (h : ev_law09_PulseTruth_j3 n i13 i12 i27 i28 i29 l30 l31 l32 = some r) : TC Try.prog ⟨w0, fun _ => False, R0⟩ 184 (bodyPost Try.prog Try.f10 (Post ⟨w0, fun _ => False, R0⟩ env0 (.val (.bool r)) [])) [.code (sub (bodyOf Try.f10) [1, 1, 1, 1, 1, 1, 1, 0]), .code (sub (bodyOf Try.f10) [1, 1, 1, 1, 1, 1, 1, 1])] [(3, .ptr 3 0), (7, .val (.int .i64 i12)), (8, .val (.int .i64 (Int.tmod i13 720))), (9, .ref 5), (10, .ref 6), (12, .ref 7)] [.blk 3 [.val (.int .i64 i27), .val (.int .i64 i28), .val (.int .i64 i29)] 24, .row 5 67 2 (List.map en_api_PulseFault l30), .row 6 53 2 (List.map en_api_PulseSeen l31), .row 7 53 2 (List.map en_api_PulseSeen l32)] := by
  rw [ev_law09_PulseTruth_j3] at h
  obtain ⟨r33, h16, h⟩ := bind_inv h
  obtain ⟨r34, h17, h⟩ := bind_inv h
  refine drawJ 10 [⟨.agg [.val (.int .i64 i27), .val (.int .i64 i28), .val (.int .i64 i29)], [], [.blk 3 [.val (.int .i64 i27), .val (.int .i64 i28), .val (.int .i64 i29)] 24], []⟩, ⟨.val (.int .i64 (Int.tmod i13 720)), [], [], []⟩, ⟨.val (.int .i64 i12), [], [], []⟩, ⟨.ref 6, [], [], []⟩, ⟨.ref 8, [.row 8 53 2 (List.map en_api_PulseSeen r33)], [.row 6 53 2 (List.map en_api_PulseSeen l31)], []⟩, ⟨.tup [.val (.int .i64 r34.1), .val (.int .i64 r34.2)], [], [.row 8 53 2 (List.map en_api_PulseSeen r33)], []⟩, ⟨.tup [.val (.int .i64 r34.1), .val (.int .i64 r34.2)], [], [], []⟩, ⟨.val (.int .i64 r34.1), [], [], []⟩, ⟨.val (.int .i64 r34.2), [], [], []⟩, ⟨.val (.int .i64 r34.1), [], [], []⟩] rfl ?_ rfl ?_ rfl ?_ ?_
  · kernel_rfl
  · kernel_rfl
  · exact DAll.op' (sp_loadBA rfl isBlk rfl vt24 rfl rfl) trivial rfl (From.ok (ps := [(none, 0)]) ⟨⟨rfl, rfl⟩, trivial⟩) (DAll.op' (sp_move rfl rfl) trivial rfl (From.ok (ps := []) trivial) (DAll.op' (sp_move rfl rfl) trivial rfl (From.ok (ps := []) trivial) (DAll.op' (sp_move rfl rfl) trivial rfl (From.ok (ps := []) trivial) (DAll.op' (sp_call (avs := [.ref 6]) (need := [.row 6 53 2 (List.map en_api_PulseSeen l31)]) (v := .ref 8) (news := [.row 8 53 2 (List.map en_api_PulseSeen r33)]) rfl rfl rfl Try.call26 (atJ [(0, 6)] [(0, 8)] (fc_law09_seen h16) rfl rfl) (.inr (List.forall_mem_cons.2 ⟨indep_map en_api_PulseSeen_flat, (by simp)⟩))) trivial rfl (From.ok (ps := [(none, 2)]) ⟨⟨rfl, rfl⟩, trivial⟩) (DAll.op' (sp_call (avs := [.agg [.val (.int .i64 i27), .val (.int .i64 i28), .val (.int .i64 i29)], .val (.int .i64 (Int.tmod i13 720)), .val (.int .i64 i12), .ref 8]) (need := [.row 8 53 2 (List.map en_api_PulseSeen r33)]) (v := .tup [.val (.int .i64 r34.1), .val (.int .i64 r34.2)]) (news := []) rfl rfl rfl Try.call27 (atJ [(0, 8)] [] (fc_pulse_Fewest h17) rfl rfl) (.inr (fun x hx => nomatch hx))) trivial rfl (From.ok (ps := [(some 4, 0)]) ⟨⟨_, rfl, rfl, rfl, rfl⟩, trivial⟩) (DAll.op' (sp_move rfl rfl) trivial rfl (From.ok (ps := []) trivial) (DAll.op' (sp_extract rfl rfl rfl) trivial rfl (From.ok (ps := []) trivial) (DAll.op' (sp_extract rfl rfl rfl) trivial rfl (From.ok (ps := []) trivial) (DAll.op' (sp_assign rfl rfl) trivial rfl (From.ok (ps := []) trivial) (.nil))))))))))
  refine op0 (sp_assign rfl rfl) rfl trivial rfl rfl ?_
  refine TL.nil ?_
  refine TC.seq ?_
  refine TC.region ?_
  refine op1 1 rfl (sp_loadBA rfl isBlk rfl vt24 rfl rfl) rfl trivial rfl rfl ?_
  refine op0 (sp_move rfl rfl) rfl trivial rfl rfl ?_
  refine op0 (sp_move rfl rfl) rfl trivial rfl rfl ?_
  refine op0 (sp_move rfl rfl) rfl trivial rfl rfl ?_
  obtain ⟨r35, h18, h⟩ := bind_inv h
  refine op1 4 rfl (sp_call (avs := [.agg [.val (.int .i64 i27), .val (.int .i64 i28), .val (.int .i64 i29)], .val (.int .i64 (Int.tmod i13 720)), .val (.int .i64 i12), .ref 7]) (need := [.row 7 53 2 (List.map en_api_PulseSeen l32)]) (v := .tup [.val (.int .i64 r35.1), .val (.int .i64 r35.2)]) (news := []) rfl rfl rfl Try.call27 (atJ [(0, 7)] [] (fc_pulse_Fewest h18) rfl rfl) (.inr (fun x hx => nomatch hx))) rfl trivial rfl rfl ?_
  refine op0 (sp_move rfl rfl) rfl trivial rfl rfl ?_
  refine op0 (sp_extract rfl rfl rfl) rfl trivial rfl rfl ?_
  refine op0 (sp_extract rfl rfl rfl) rfl trivial rfl rfl ?_
  refine op0 (sp_assign rfl rfl) rfl trivial rfl rfl ?_
  refine op0 (sp_assign rfl rfl) rfl trivial rfl rfl ?_
  refine TL.nil ?_
  refine TC.seq ?_
  refine TC.region ?_
  refine op1 1 rfl (sp_loadBA rfl isBlk rfl vt24 rfl rfl) rfl trivial rfl rfl ?_
  refine op0 (sp_move rfl rfl) rfl trivial rfl rfl ?_
  refine op0 (sp_move rfl rfl) rfl trivial rfl rfl ?_
  obtain ⟨r36, h19, h⟩ := bind_inv h
  refine op0 (sp_call (avs := [.agg [.val (.int .i64 i27), .val (.int .i64 i28), .val (.int .i64 i29)], .val (.int .i64 (Int.tmod i13 720)), .val (.int .i64 i12), .val (.slice none 0 0)]) (need := []) (v := .tup [.val (.int .i64 r36.1), .val (.int .i64 r36.2)]) (news := []) rfl rfl rfl Try.call27 (FC.nil (args := [.agg [.val (.int .i64 i27), .val (.int .i64 i28), .val (.int .i64 i29)], .val (.int .i64 (Int.tmod i13 720)), .val (.int .i64 i12), .ref 9]) 9 2 (atJ [(0, 9)] [] (fc_pulse_Fewest h19) rfl rfl) rfl rfl rfl) (.inl (roAll rfl))) rfl trivial rfl rfl ?_
  refine op0 (sp_move rfl rfl) rfl trivial rfl rfl ?_
  refine op0 (sp_extract rfl rfl rfl) rfl trivial rfl rfl ?_
  refine op0 (sp_extract rfl rfl rfl) rfl trivial rfl rfl ?_
  refine op0 (sp_assign rfl rfl) rfl trivial rfl rfl ?_
  refine op0 (sp_assign rfl rfl) rfl trivial rfl rfl ?_
  refine TL.nil ?_
  refine TC.seq ?_
  refine TC.region ?_
  refine op0 (sp_move rfl rfl) rfl trivial rfl rfl ?_
  refine op0 (sp_eql rfl rfl rfl) rfl trivial rfl rfl ?_
  refine op0 (sp_move rfl rfl) rfl trivial rfl rfl ?_
  rcases cond_cases h with ⟨h20, h⟩ | ⟨h20, h⟩
  · refine (boolLit 154 rfl h20).2 ?_
    refine op0 (sp_move rfl rfl) rfl ⟨_, rfl, rfl⟩ rfl rfl ?_
    refine op0 (sp_eql rfl rfl rfl) rfl ⟨_, rfl, rfl⟩ rfl rfl ?_
    refine op0 (sp_pickT rfl rfl rfl) rfl trivial rfl rfl ?_
    refine op0 (sp_move rfl rfl) rfl trivial rfl rfl ?_
    rcases cond_cases h with ⟨h21, h⟩ | ⟨h21, h⟩
    · refine (boolLit 158 rfl h21).2 ?_
      refine op0 (sp_move rfl rfl) rfl ⟨_, rfl, rfl⟩ rfl rfl ?_
      refine op0 (sp_eql rfl rfl rfl) rfl ⟨_, rfl, rfl⟩ rfl rfl ?_
      refine op0 (sp_pickT rfl rfl rfl) rfl trivial rfl rfl ?_
      refine op0 (sp_move rfl rfl) rfl trivial rfl rfl ?_
      rcases cond_cases h with ⟨h22, h⟩ | ⟨h22, h⟩
      · refine (boolLit 162 rfl h22).2 ?_
        refine op0 (sp_move rfl rfl) rfl ⟨_, rfl, rfl⟩ rfl rfl ?_
        refine op0 (sp_eql rfl rfl rfl) rfl ⟨_, rfl, rfl⟩ rfl rfl ?_
        refine op0 (sp_pickT rfl rfl rfl) rfl trivial rfl rfl ?_
        refine op0 (sp_move rfl rfl) rfl trivial rfl rfl ?_
        rcases cond_cases h with ⟨h23, h⟩ | ⟨h23, h⟩
        · refine (boolLit 166 rfl h23).2 ?_
          refine op0 (sp_move rfl rfl) rfl ⟨_, rfl, rfl⟩ rfl rfl ?_
          refine op0 (sp_move rfl rfl) rfl ⟨_, rfl, rfl⟩ rfl rfl ?_
          refine op0 (sp_leq rfl rfl rfl) rfl ⟨_, rfl, rfl⟩ rfl rfl ?_
          refine op0 (sp_pickT rfl rfl rfl) rfl trivial rfl rfl ?_
          refine op0 (sp_move rfl rfl) rfl trivial rfl rfl ?_
          rcases cond_cases h with ⟨h24, h⟩ | ⟨h24, h⟩
          · refine (boolLit 171 rfl h24).2 ?_
            refine op0 (sp_move rfl rfl) rfl ⟨_, rfl, rfl⟩ rfl rfl ?_
            refine op0 (sp_move rfl rfl) rfl ⟨_, rfl, rfl⟩ rfl rfl ?_
            refine op1 2 rfl (sp_lenM (N := l30.length) (len_map _ _) rfl rfl isOwn Try.underlying26) rfl ⟨_, rfl, rfl⟩ rfl rfl ?_
            refine op0 (sp_leq rfl rfl rfl) rfl ⟨_, rfl, rfl⟩ rfl rfl ?_
            refine op0 (sp_pickT rfl rfl rfl) rfl trivial rfl rfl ?_
            refine op0 (sp_move rfl rfl) rfl trivial rfl rfl ?_
            rcases cond_cases h with ⟨h25, h⟩ | ⟨h25, h⟩
            · refine (boolLit 177 rfl h25).2 ?_
              refine op0 (sp_move rfl rfl) rfl ⟨_, rfl, rfl⟩ rfl rfl ?_
              refine op0 (sp_geq rfl rfl rfl) rfl ⟨_, rfl, rfl⟩ rfl rfl ?_
              refine op0 (sp_pickT rfl rfl rfl) rfl trivial rfl rfl ?_
              refine op0 (sp_move rfl rfl) rfl trivial rfl rfl ?_
              rcases cond_cases h with ⟨h26, h⟩ | ⟨h26, h⟩
              · refine (boolLit 181 rfl h26).2 ?_
                obtain ⟨r37, h27, h⟩ := bind_inv h
                refine op0 (sp_call (avs := []) (need := []) (v := .val (.bool r37)) (news := []) rfl rfl rfl Try.call11 (atJ [] [] (fc_law09_known h27) rfl rfl) (.inl (roAll rfl))) rfl ⟨_, rfl, rfl⟩ rfl rfl ?_
                refine op0 (sp_pickT rfl rfl rfl) rfl trivial rfl rfl ?_
                refine op0 (sp_assign rfl rfl) rfl trivial rfl rfl ?_
                refine TL.nil ?_
                cases h
                exact retJ [] (.tmp rfl .nil) rfl trivial rfl rfl
              · refine (boolLit 181 rfl h26).2 ?_
                refine opSkip rfl ⟨_, rfl, .inl rfl⟩ rfl ?_
                refine op0 (sp_pickF rfl rfl rfl) rfl trivial rfl rfl ?_
                refine op0 (sp_assign rfl rfl) rfl trivial rfl rfl ?_
                refine TL.nil ?_
                cases h
                exact retJ [] (.tmp rfl .nil) rfl trivial rfl rfl
            · refine (boolLit 177 rfl h25).2 ?_
              refine opSkip rfl ⟨_, rfl, .inl rfl⟩ rfl ?_
              refine opSkip rfl ⟨_, rfl, .inl rfl⟩ rfl ?_
              refine op0 (sp_pickF rfl rfl rfl) rfl trivial rfl rfl ?_
              refine op0 (sp_move rfl rfl) rfl trivial rfl rfl ?_
              refine opSkip rfl ⟨_, rfl, .inl rfl⟩ rfl ?_
              refine op0 (sp_pickF rfl rfl rfl) rfl trivial rfl rfl ?_
              refine op0 (sp_assign rfl rfl) rfl trivial rfl rfl ?_
              refine TL.nil ?_
              cases h
              exact retJ [] (.tmp rfl .nil) rfl trivial rfl rfl
          · refine (boolLit 171 rfl h24).2 ?_
            refine opSkip rfl ⟨_, rfl, .inl rfl⟩ rfl ?_
            refine opSkip rfl ⟨_, rfl, .inl rfl⟩ rfl ?_
            refine opSkip rfl ⟨_, rfl, .inl rfl⟩ rfl ?_
            refine opSkip rfl ⟨_, rfl, .inl rfl⟩ rfl ?_
            refine op0 (sp_pickF rfl rfl rfl) rfl trivial rfl rfl ?_
            refine op0 (sp_move rfl rfl) rfl trivial rfl rfl ?_
            refine opSkip rfl ⟨_, rfl, .inl rfl⟩ rfl ?_
            refine opSkip rfl ⟨_, rfl, .inl rfl⟩ rfl ?_
            refine op0 (sp_pickF rfl rfl rfl) rfl trivial rfl rfl ?_
            refine op0 (sp_move rfl rfl) rfl trivial rfl rfl ?_
            refine opSkip rfl ⟨_, rfl, .inl rfl⟩ rfl ?_
            refine op0 (sp_pickF rfl rfl rfl) rfl trivial rfl rfl ?_
            refine op0 (sp_assign rfl rfl) rfl trivial rfl rfl ?_
            refine TL.nil ?_
            cases h
            exact retJ [] (.tmp rfl .nil) rfl trivial rfl rfl
        · refine (boolLit 166 rfl h23).2 ?_
          refine opSkip rfl ⟨_, rfl, .inl rfl⟩ rfl ?_
          refine opSkip rfl ⟨_, rfl, .inl rfl⟩ rfl ?_
          refine opSkip rfl ⟨_, rfl, .inl rfl⟩ rfl ?_
          refine op0 (sp_pickF rfl rfl rfl) rfl trivial rfl rfl ?_
          refine op0 (sp_move rfl rfl) rfl trivial rfl rfl ?_
          refine opSkip rfl ⟨_, rfl, .inl rfl⟩ rfl ?_
          refine opSkip rfl ⟨_, rfl, .inl rfl⟩ rfl ?_
          refine opSkip rfl ⟨_, rfl, .inl rfl⟩ rfl ?_
          refine opSkip rfl ⟨_, rfl, .inl rfl⟩ rfl ?_
          refine op0 (sp_pickF rfl rfl rfl) rfl trivial rfl rfl ?_
          refine op0 (sp_move rfl rfl) rfl trivial rfl rfl ?_
          refine opSkip rfl ⟨_, rfl, .inl rfl⟩ rfl ?_
          refine opSkip rfl ⟨_, rfl, .inl rfl⟩ rfl ?_
          refine op0 (sp_pickF rfl rfl rfl) rfl trivial rfl rfl ?_
          refine op0 (sp_move rfl rfl) rfl trivial rfl rfl ?_
          refine opSkip rfl ⟨_, rfl, .inl rfl⟩ rfl ?_
          refine op0 (sp_pickF rfl rfl rfl) rfl trivial rfl rfl ?_
          refine op0 (sp_assign rfl rfl) rfl trivial rfl rfl ?_
          refine TL.nil ?_
          cases h
          exact retJ [] (.tmp rfl .nil) rfl trivial rfl rfl
      · refine (boolLit 162 rfl h22).2 ?_
        refine opSkip rfl ⟨_, rfl, .inl rfl⟩ rfl ?_
        refine opSkip rfl ⟨_, rfl, .inl rfl⟩ rfl ?_
        refine op0 (sp_pickF rfl rfl rfl) rfl trivial rfl rfl ?_
        refine op0 (sp_move rfl rfl) rfl trivial rfl rfl ?_
        refine opSkip rfl ⟨_, rfl, .inl rfl⟩ rfl ?_
        refine opSkip rfl ⟨_, rfl, .inl rfl⟩ rfl ?_
        refine opSkip rfl ⟨_, rfl, .inl rfl⟩ rfl ?_
        refine op0 (sp_pickF rfl rfl rfl) rfl trivial rfl rfl ?_
        refine op0 (sp_move rfl rfl) rfl trivial rfl rfl ?_
        refine opSkip rfl ⟨_, rfl, .inl rfl⟩ rfl ?_
        refine opSkip rfl ⟨_, rfl, .inl rfl⟩ rfl ?_
        refine opSkip rfl ⟨_, rfl, .inl rfl⟩ rfl ?_
        refine opSkip rfl ⟨_, rfl, .inl rfl⟩ rfl ?_
        refine op0 (sp_pickF rfl rfl rfl) rfl trivial rfl rfl ?_
        refine op0 (sp_move rfl rfl) rfl trivial rfl rfl ?_
        refine opSkip rfl ⟨_, rfl, .inl rfl⟩ rfl ?_
        refine opSkip rfl ⟨_, rfl, .inl rfl⟩ rfl ?_
        refine op0 (sp_pickF rfl rfl rfl) rfl trivial rfl rfl ?_
        refine op0 (sp_move rfl rfl) rfl trivial rfl rfl ?_
        refine opSkip rfl ⟨_, rfl, .inl rfl⟩ rfl ?_
        refine op0 (sp_pickF rfl rfl rfl) rfl trivial rfl rfl ?_
        refine op0 (sp_assign rfl rfl) rfl trivial rfl rfl ?_
        refine TL.nil ?_
        cases h
        exact retJ [] (.tmp rfl .nil) rfl trivial rfl rfl
    · refine (boolLit 158 rfl h21).2 ?_
      refine opSkip rfl ⟨_, rfl, .inl rfl⟩ rfl ?_
      refine opSkip rfl ⟨_, rfl, .inl rfl⟩ rfl ?_
      refine op0 (sp_pickF rfl rfl rfl) rfl trivial rfl rfl ?_
      refine op0 (sp_move rfl rfl) rfl trivial rfl rfl ?_
      refine opSkip rfl ⟨_, rfl, .inl rfl⟩ rfl ?_
      refine opSkip rfl ⟨_, rfl, .inl rfl⟩ rfl ?_
      refine op0 (sp_pickF rfl rfl rfl) rfl trivial rfl rfl ?_
      refine op0 (sp_move rfl rfl) rfl trivial rfl rfl ?_
      refine opSkip rfl ⟨_, rfl, .inl rfl⟩ rfl ?_
      refine opSkip rfl ⟨_, rfl, .inl rfl⟩ rfl ?_
      refine opSkip rfl ⟨_, rfl, .inl rfl⟩ rfl ?_
      refine op0 (sp_pickF rfl rfl rfl) rfl trivial rfl rfl ?_
      refine op0 (sp_move rfl rfl) rfl trivial rfl rfl ?_
      refine opSkip rfl ⟨_, rfl, .inl rfl⟩ rfl ?_
      refine opSkip rfl ⟨_, rfl, .inl rfl⟩ rfl ?_
      refine opSkip rfl ⟨_, rfl, .inl rfl⟩ rfl ?_
      refine opSkip rfl ⟨_, rfl, .inl rfl⟩ rfl ?_
      refine op0 (sp_pickF rfl rfl rfl) rfl trivial rfl rfl ?_
      refine op0 (sp_move rfl rfl) rfl trivial rfl rfl ?_
      refine opSkip rfl ⟨_, rfl, .inl rfl⟩ rfl ?_
      refine opSkip rfl ⟨_, rfl, .inl rfl⟩ rfl ?_
      refine op0 (sp_pickF rfl rfl rfl) rfl trivial rfl rfl ?_
      refine op0 (sp_move rfl rfl) rfl trivial rfl rfl ?_
      refine opSkip rfl ⟨_, rfl, .inl rfl⟩ rfl ?_
      refine op0 (sp_pickF rfl rfl rfl) rfl trivial rfl rfl ?_
      refine op0 (sp_assign rfl rfl) rfl trivial rfl rfl ?_
      refine TL.nil ?_
      cases h
      exact retJ [] (.tmp rfl .nil) rfl trivial rfl rfl
  · refine (boolLit 154 rfl h20).2 ?_
    refine opSkip rfl ⟨_, rfl, .inl rfl⟩ rfl ?_
    refine opSkip rfl ⟨_, rfl, .inl rfl⟩ rfl ?_
    refine op0 (sp_pickF rfl rfl rfl) rfl trivial rfl rfl ?_
    refine op0 (sp_move rfl rfl) rfl trivial rfl rfl ?_
    refine opSkip rfl ⟨_, rfl, .inl rfl⟩ rfl ?_
    refine opSkip rfl ⟨_, rfl, .inl rfl⟩ rfl ?_
    refine op0 (sp_pickF rfl rfl rfl) rfl trivial rfl rfl ?_
    refine op0 (sp_move rfl rfl) rfl trivial rfl rfl ?_
    refine opSkip rfl ⟨_, rfl, .inl rfl⟩ rfl ?_
    refine opSkip rfl ⟨_, rfl, .inl rfl⟩ rfl ?_
    refine op0 (sp_pickF rfl rfl rfl) rfl trivial rfl rfl ?_
    refine op0 (sp_move rfl rfl) rfl trivial rfl rfl ?_
    refine opSkip rfl ⟨_, rfl, .inl rfl⟩ rfl ?_
    refine opSkip rfl ⟨_, rfl, .inl rfl⟩ rfl ?_
    refine opSkip rfl ⟨_, rfl, .inl rfl⟩ rfl ?_
    refine op0 (sp_pickF rfl rfl rfl) rfl trivial rfl rfl ?_
    refine op0 (sp_move rfl rfl) rfl trivial rfl rfl ?_
    refine opSkip rfl ⟨_, rfl, .inl rfl⟩ rfl ?_
    refine opSkip rfl ⟨_, rfl, .inl rfl⟩ rfl ?_
    refine opSkip rfl ⟨_, rfl, .inl rfl⟩ rfl ?_
    refine opSkip rfl ⟨_, rfl, .inl rfl⟩ rfl ?_
    refine op0 (sp_pickF rfl rfl rfl) rfl trivial rfl rfl ?_
    refine op0 (sp_move rfl rfl) rfl trivial rfl rfl ?_
    refine opSkip rfl ⟨_, rfl, .inl rfl⟩ rfl ?_
    refine opSkip rfl ⟨_, rfl, .inl rfl⟩ rfl ?_
    refine op0 (sp_pickF rfl rfl rfl) rfl trivial rfl rfl ?_
    refine op0 (sp_move rfl rfl) rfl trivial rfl rfl ?_
    refine opSkip rfl ⟨_, rfl, .inl rfl⟩ rfl ?_
    refine op0 (sp_pickF rfl rfl rfl) rfl trivial rfl rfl ?_
    refine op0 (sp_assign rfl rfl) rfl trivial rfl rfl ?_
    refine TL.nil ?_
    cases h
    exact retJ [] (.tmp rfl .nil) rfl trivial rfl rfl
def ev_law09_PulseTruth_l4 (n : Nat) (i17 : Int) (x26 : Int) (i13 : Int) (i12 : Int) (i18 : Int) (k_law09_PulseTruth_l1 : Int → Int → Int → Int → Int → (List Int) → (List (Int × Int)) → (List (Int × Int)) → (List (Int × Int)) → Option Bool) : Nat → Int → Int → Int → Int → (List Int) → (List (Int × Int)) → (List (Int × Int)) → (List (Int × Int)) → (List (Int × Int)) → Option Bool
  | 0, _, _, _, _, _, _, _, _, _ => none
  | m + 1, i38, i39, i40, i41, l42, l43, l44, l45, l46 => cond (decide (i38 < (l43.length : Int))) (idx l43 i38 fun x47 => cond (decide (x47.1 ≤ (i17 + ((1 : Int) + (Int.tmod x26 15))))) (chk (room 16 (l46.length + ([(x47.1, x47.2)] : List (Int × Int)).length)) <| chk (in64 (i38 + 1)) <| ev_law09_PulseTruth_l4 n i17 x26 i13 i12 i18 k_law09_PulseTruth_l1 m (i38 + 1) i39 i40 i41 l42 l43 l44 l45 (l46 ++ ([(x47.1, x47.2)] : List (Int × Int)))) (chk (in64 (i38 + 1)) <| ev_law09_PulseTruth_l4 n i17 x26 i13 i12 i18 k_law09_PulseTruth_l1 m (i38 + 1) i39 i40 i41 l42 l43 l44 l45 l46)) ((ev_pulse_Run n i39 i40 i41 (Int.tmod i13 720) i12 l46 (i17 + ((1 : Int) + (Int.tmod x26 15)))).bind fun r48 => cond (r48.2 != 0) (some false) (chk (room 16 (l44.length + ([((i17 + ((1 : Int) + (Int.tmod x26 15))), r48.1)] : List (Int × Int)).length)) <| idx l42 i18 fun x49 => cond (decide ((0 : Int) < (Int.tmod x49 3))) (chk (room 16 (l45.length + ([((i17 + ((1 : Int) + (Int.tmod x26 15))), r48.1)] : List (Int × Int)).length)) <| chk (in64 (i18 + 1)) <| k_law09_PulseTruth_l1 (i17 + ((1 : Int) + (Int.tmod x26 15))) (i18 + 1) i39 i40 i41 l42 l43 (l44 ++ ([((i17 + ((1 : Int) + (Int.tmod x26 15))), r48.1)] : List (Int × Int))) (l45 ++ ([((i17 + ((1 : Int) + (Int.tmod x26 15))), r48.1)] : List (Int × Int)))) (chk (in64 (i18 + 1)) <| k_law09_PulseTruth_l1 (i17 + ((1 : Int) + (Int.tmod x26 15))) (i18 + 1) i39 i40 i41 l42 l43 (l44 ++ ([((i17 + ((1 : Int) + (Int.tmod x26 15))), r48.1)] : List (Int × Int))) l45)))
set_option maxRecDepth 100000 in
set_option maxHeartbeats 2000000 in
theorem ok_law09_PulseTruth_l4 {n : Nat} {w0 : World} {R0 : Nat → Prop} {env0 : Env} {r : Bool} {i12 : Int} {i13 : Int} {x26 : Int} {i17 : Int} {i18 : Int} {k_law09_PulseTruth_l1 : Int → Int → Int → Int → Int → (List Int) → (List (Int × Int)) → (List (Int × Int)) → (List (Int × Int)) → Option Bool} (hk_law09_PulseTruth_l1 : ∀ (i17 : Int) (i18 : Int) (i19 : Int) (i20 : Int) (i21 : Int) (l22 : List Int) (l23 : List (Int × Int)) (l24 : List (Int × Int)) (l25 : List (Int × Int)), k_law09_PulseTruth_l1 i17 i18 i19 i20 i21 l22 l23 l24 l25 = some r → TC Try.prog ⟨w0, fun _ => False, R0⟩ 184 (bodyPost Try.prog Try.f10 (Post ⟨w0, fun _ => False, R0⟩ env0 (.val (.bool r)) [])) [.code (sub (bodyOf Try.f10) [1, 1, 1, 1, 1, 1, 0, 1, 0, 0, 0, 0]), .code (sub (bodyOf Try.f10) [1, 1, 1, 1, 1, 1, 0, 1, 0, 0, 0, 1]), .code (sub (bodyOf Try.f10) [1, 1, 1, 1, 1, 1, 0, 1, 0, 0, 1]), .inLoop (sub (bodyOf Try.f10) [1, 1, 1, 1, 1, 1, 0, 1, 0, 0]), .inBlock 0, .code (sub (bodyOf Try.f10) [1, 1, 1, 1, 1, 1, 1])] [(3, .ptr 3 0), (6, .ref 1), (7, .val (.int .i64 i12)), (8, .val (.int .i64 (Int.tmod i13 720))), (9, .ref 5), (10, .ref 6), (11, .val (.int .i64 i17)), (12, .ref 7), (13, .val (.int .i64 i18))] [.blk 3 [.val (.int .i64 i19), .val (.int .i64 i20), .val (.int .i64 i21)] 24, .ro 1 1 (List.map en_uint8 l22), .row 5 67 2 (List.map en_api_PulseFault l23), .row 6 53 2 (List.map en_api_PulseSeen l24), .row 7 53 2 (List.map en_api_PulseSeen l25)]) : ∀ (m : Nat) (i38 : Int) (i39 : Int) (i40 : Int) (i41 : Int) (l42 : List Int) (l43 : List (Int × Int)) (l44 : List (Int × Int)) (l45 : List (Int × Int)) (l46 : List (Int × Int)), ev_law09_PulseTruth_l4 n i17 x26 i13 i12 i18 k_law09_PulseTruth_l1 m i38 i39 i40 i41 l42 l43 l44 l45 l46 = some r → TC Try.prog ⟨w0, fun _ => False, R0⟩ 184 (bodyPost Try.prog Try.f10 (Post ⟨w0, fun _ => False, R0⟩ env0 (.val (.bool r)) [])) [.code (sub (bodyOf Try.f10) [1, 1, 1, 1, 1, 1, 0, 1, 0, 0, 1, 0, 0, 1, 1, 0, 1, 0, 0, 0, 0]), .code (sub (bodyOf Try.f10) [1, 1, 1, 1, 1, 1, 0, 1, 0, 0, 1, 0, 0, 1, 1, 0, 1, 0, 0, 0, 1]), .code (sub (bodyOf Try.f10) [1, 1, 1, 1, 1, 1, 0, 1, 0, 0, 1, 0, 0, 1, 1, 0, 1, 0, 0, 1]), .inLoop (sub (bodyOf Try.f10) [1, 1, 1, 1, 1, 1, 0, 1, 0, 0, 1, 0, 0, 1, 1, 0, 1, 0, 0]), .inBlock 2, .code (sub (bodyOf Try.f10) [1, 1, 1, 1, 1, 1, 0, 1, 0, 0, 1, 0, 0, 1, 1, 1]), .inBlock 1, .code (sub (bodyOf Try.f10) [1, 1, 1, 1, 1, 1, 0, 1, 0, 0, 1, 1]), .inLoop (sub (bodyOf Try.f10) [1, 1, 1, 1, 1, 1, 0, 1, 0, 0]), .inBlock 0, .code (sub (bodyOf Try.f10) [1, 1, 1, 1, 1, 1, 1])] [(3, .ptr 3 0), (6, .ref 1), (7, .val (.int .i64 i12)), (8, .val (.int .i64 (Int.tmod i13 720))), (9, .ref 5), (10, .ref 6), (11, .val (.int .i64 (i17 + ((1 : Int) + (Int.tmod x26 15))))), (12, .ref 7), (13, .val (.int .i64 i18)), (14, .ref 10), (15, .val (.int .i64 i38))] [.blk 3 [.val (.int .i64 i39), .val (.int .i64 i40), .val (.int .i64 i41)] 24, .ro 1 1 (List.map en_uint8 l42), .row 5 67 2 (List.map en_api_PulseFault l43), .row 6 53 2 (List.map en_api_PulseSeen l44), .row 7 53 2 (List.map en_api_PulseSeen l45), .row 10 67 2 (List.map en_api_PulseFault l46)] := by
  intro m
  induction m with
  | zero => intro i38 i39 i40 i41 l42 l43 l44 l45 l46 h; exact none_no h
  | succ m ih =>
    intro i38 i39 i40 i41 l42 l43 l44 l45 l46 h
    rw [ev_law09_PulseTruth_l4] at h
    refine TC.region ?_
    refine op0 (sp_move rfl rfl) rfl trivial rfl rfl ?_
    refine op0 (sp_move rfl rfl) rfl trivial rfl rfl ?_
    refine op1 2 rfl (sp_lenM (N := l43.length) (len_map _ _) rfl rfl isOwn Try.underlying26) rfl trivial rfl rfl ?_
    refine op0 (sp_lss rfl rfl rfl) rfl trivial rfl rfl ?_
    refine TL.nil ?_
    refine TC.cond (b := (decide (i38 < (l43.length : Int)))) rfl (fun h28 => ?_) (fun h28 => ?_)
    · have h := cond_t h h28
      refine TC.skip ?_
      refine TC.seq ?_
      refine TC.block ?_
      refine TC.seq ?_
      refine TC.region ?_
      refine op0 (sp_move rfl rfl) rfl trivial rfl rfl ?_
      refine op0 (sp_move rfl rfl) rfl trivial rfl rfl ?_
      obtain ⟨x47, h29, h30, h⟩ := idx_inv h
      refine op1 2 rfl (sp_indexS rfl rfl rfl isOwn sl26 h29 (map_get _ h30)) rfl trivial rfl rfl ?_
      refine op1 2 rfl (sp_fieldAddrR (i := (i38 : Int).toNat) rfl rfl isOwn ft67_0 vt3 (by decide) (map_get _ h30) (fun h => nomatch h)) rfl trivial rfl rfl ?_
      refine op1 2 rfl (sp_loadR (i := (i38 : Int).toNat) (j := 0) rfl rfl isOwn vt3 rfl (map_get _ h30) rfl (.v (.nil)) (nodup_of_B rfl)) rfl trivial rfl rfl ?_
      refine op0 (sp_move rfl rfl) rfl trivial rfl rfl ?_
      refine op0 (sp_leq rfl rfl rfl) rfl trivial rfl rfl ?_
      refine TL.nil ?_
      refine TC.cond (b := (decide (x47.1 ≤ (i17 + ((1 : Int) + (Int.tmod x26 15)))))) rfl (fun h31 => ?_) (fun h31 => ?_)
      · have h := cond_t h h31
        refine TC.region ?_
        refine op0 (sp_move rfl rfl) rfl trivial rfl rfl ?_
        refine op0 (sp_move rfl rfl) rfl trivial rfl rfl ?_
        refine op0 (sp_move rfl rfl) rfl trivial rfl rfl ?_
        refine op1 2 rfl (sp_indexS rfl rfl rfl isOwn sl26 h29 (map_get _ h30)) rfl trivial rfl rfl ?_
        refine op1 2 rfl (sp_loadRA (i := (i38 : Int).toNat) (j := 0) rfl rfl isOwn vt67 rfl (map_get _ h30) rfl rfl (by decide) (.v (.v (.nil))) (nodup_of_B rfl)) rfl trivial rfl rfl ?_
        refine op0 (sp_buildSlice (qs := [.agg [.val (.int .i64 x47.1), .val (.int .i64 x47.2)]]) (need := []) (els := List.map en_api_PulseFault ([(x47.1, x47.2)] : List (Int × Int))) 11 rfl sl26 (by decide) (by decide) rfl rfl rfl (.v (.v (.nil))) (map_len fun _ => rfl) rfl rfl rfl) rfl trivial rfl rfl ?_
        obtain ⟨h32, h⟩ := chk_inv h
        refine appM 6 0 (N := l46.length) (N2 := ([(x47.1, x47.2)] : List (Int × Int)).length) 12 rfl rfl trivial rfl rfl rfl rfl rfl isOwn rfl sl26 (len_map _ _) (len_map _ _) h32 (map_app _ _ _) rfl ?_
        refine op0 (sp_assign rfl rfl) rfl trivial rfl rfl ?_
        refine TL.nil ?_
        refine TC.inBlock ?_
        refine TC.region ?_
        refine op0 (sp_move rfl rfl) rfl trivial rfl rfl ?_
        obtain ⟨h33, h⟩ := chk_inv h
        refine op0 (sp_add rfl rfl rfl h33) rfl trivial rfl rfl ?_
        refine op0 (sp_assign rfl rfl) rfl trivial rfl rfl ?_
        refine TL.nil ?_
        refine TC.inLoop ?_
        refine TC.seq ?_
        refine TC.seq ?_
        refine subJ [(10, 12)] (ih _ _ _ _ _ _ _ _ _ h) ?_ ?_ ?_
        · exact ⟨rfl, rfl, rfl, rfl, rfl, rfl, rfl, rfl, rfl, rfl, rfl, trivial⟩
        · exact ⟨mem_at 2 rfl, mem_at 3 rfl, mem_at 4 rfl, mem_at 5 rfl, mem_at 6 rfl, mem_at 0 rfl, trivial⟩
        · rfl
      · have h := cond_f h h31
        refine TC.skip ?_
        refine TC.inBlock ?_
        refine TC.region ?_
        refine op0 (sp_move rfl rfl) rfl trivial rfl rfl ?_
        obtain ⟨h34, h⟩ := chk_inv h
        refine op0 (sp_add rfl rfl rfl h34) rfl trivial rfl rfl ?_
        refine op0 (sp_assign rfl rfl) rfl trivial rfl rfl ?_
        refine TL.nil ?_
        refine TC.inLoop ?_
        refine TC.seq ?_
        refine TC.seq ?_
        refine subJ [] (ih _ _ _ _ _ _ _ _ _ h) ?_ ?_ ?_
        · exact ⟨rfl, rfl, rfl, rfl, rfl, rfl, rfl, rfl, rfl, rfl, rfl, trivial⟩
        · exact ⟨mem_at 0 rfl, mem_at 1 rfl, mem_at 2 rfl, mem_at 3 rfl, mem_at 4 rfl, mem_at 5 rfl, trivial⟩
        · rfl
    · have h := cond_f h h28
      refine TC.exit rfl ?_
      refine TC.seq ?_
      refine TC.region ?_
      refine op1 0 rfl (sp_loadBA rfl isBlk rfl vt24 rfl rfl) rfl trivial rfl rfl ?_
      refine op0 (sp_move rfl rfl) rfl trivial rfl rfl ?_
      refine op0 (sp_move rfl rfl) rfl trivial rfl rfl ?_
      refine op0 (sp_move rfl rfl) rfl trivial rfl rfl ?_
      refine op0 (sp_move rfl rfl) rfl trivial rfl rfl ?_
      obtain ⟨r48, h35, h⟩ := bind_inv h
      refine op1 5 rfl (sp_call (avs := [.agg [.val (.int .i64 i39), .val (.int .i64 i40), .val (.int .i64 i41)], .val (.int .i64 (Int.tmod i13 720)), .val (.int .i64 i12), .ref 10, .val (.int .i64 (i17 + ((1 : Int) + (Int.tmod x26 15))))]) (need := [.row 10 67 2 (List.map en_api_PulseFault l46)]) (v := .tup [.val (.int .i64 r48.1), .val (.int .i64 r48.2)]) (news := []) rfl rfl rfl Try.call13 (atJ [(0, 10)] [] (fc_pulse_Run h35) rfl rfl) (.inr (fun x hx => nomatch hx))) rfl trivial rfl rfl ?_
      refine op0 (sp_move rfl rfl) rfl trivial rfl rfl ?_
      refine op0 (sp_extract rfl rfl rfl) rfl trivial rfl rfl ?_
      refine op0 (sp_extract rfl rfl rfl) rfl trivial rfl rfl ?_
      refine op0 (sp_assign rfl rfl) rfl trivial rfl rfl ?_
      refine op0 (sp_assign rfl rfl) rfl trivial rfl rfl ?_
      refine TL.nil ?_
      refine TC.seq ?_
      refine TC.seq ?_
      refine TC.region ?_
      refine op0 (sp_move rfl rfl) rfl trivial rfl rfl ?_
      refine op0 (sp_neq rfl rfl rfl) rfl trivial rfl rfl ?_
      refine TL.nil ?_
      refine TC.cond (b := (r48.2 != 0)) rfl (fun h36 => ?_) (fun h36 => ?_)
      · have h := cond_t h h36
        refine TC.seq ?_
        refine TC.region ?_
        refine op0 (sp_assign rfl rfl) rfl trivial rfl rfl ?_
        refine TL.nil ?_
        cases h
        exact retJ [] (.tmp rfl .nil) rfl trivial rfl rfl
      · have h := cond_f h h36
        refine TC.skip ?_
        refine TC.seq ?_
        refine TC.region ?_
        refine op0 (sp_move rfl rfl) rfl trivial rfl rfl ?_
        refine op0 (sp_move rfl rfl) rfl trivial rfl rfl ?_
        refine op0 (sp_build (qs := [(0, .val (.int .i64 (i17 + ((1 : Int) + (Int.tmod x26 15))))), (1, .val (.int .i64 r48.1))]) rfl bt53 rfl rfl rfl rfl) rfl trivial rfl rfl ?_
        refine op0 (sp_alloc 13 rfl Try.zeroValue53 rfl) rfl trivial rfl rfl ?_
        refine stoB 0 (cells' := [.val (.int .i64 (i17 + ((1 : Int) + (Int.tmod x26 15)))), .val (.int .i64 r48.1)]) rfl rfl trivial rfl rfl rfl rfl vt53 rfl rfl rfl ?_
        refine TL.nil ?_
        refine TC.seq ?_
        refine TC.region ?_
        refine op0 (sp_move rfl rfl) rfl trivial rfl rfl ?_
        refine op1 0 rfl (sp_loadBA rfl isBlk rfl vt53 rfl rfl) rfl trivial rfl rfl ?_
        refine op0 (sp_buildSlice (qs := [.agg [.val (.int .i64 (i17 + ((1 : Int) + (Int.tmod x26 15)))), .val (.int .i64 r48.1)]]) (need := []) (els := List.map en_api_PulseSeen ([((i17 + ((1 : Int) + (Int.tmod x26 15))), r48.1)] : List (Int × Int))) 14 rfl sl50 (by decide) (by decide) rfl rfl rfl (.v (.v (.nil))) (map_len fun _ => rfl) rfl rfl rfl) rfl trivial rfl rfl ?_
        obtain ⟨h37, h⟩ := chk_inv h
        refine appM 5 0 (N := l44.length) (N2 := ([((i17 + ((1 : Int) + (Int.tmod x26 15))), r48.1)] : List (Int × Int)).length) 15 rfl rfl trivial rfl rfl rfl rfl rfl isOwn rfl sl50 (len_map _ _) (len_map _ _) h37 (map_app _ _ _) rfl ?_
        refine op0 (sp_assign rfl rfl) rfl trivial rfl rfl ?_
        refine TL.nil ?_
        refine TC.seq ?_
        refine TC.region ?_
        refine op0 (sp_move rfl rfl) rfl trivial rfl rfl ?_
        refine op0 (sp_move rfl rfl) rfl trivial rfl rfl ?_
        obtain ⟨x49, h38, h39, h⟩ := idx_inv h
        refine op1 4 rfl (sp_indexS rfl rfl rfl isRo sl60 h38 (map_get _ h39)) rfl trivial rfl rfl ?_
        refine op1 4 rfl (sp_loadR (i := (i18 : Int).toNat) (j := 0) rfl rfl isRo vt5 rfl (map_get _ h39) rfl (.v (.nil)) (nodup_of_B rfl)) rfl trivial rfl rfl ?_
        refine op0 (sp_rem rfl rfl rfl (by decide)) rfl trivial rfl rfl ?_
        refine op0 (sp_gtr rfl rfl rfl) rfl trivial rfl rfl ?_
        refine TL.nil ?_
        refine TC.cond (b := (decide ((0 : Int) < (Int.tmod x49 3)))) rfl (fun h40 => ?_) (fun h40 => ?_)
        · have h := cond_t h h40
          refine TC.region ?_
          refine op0 (sp_move rfl rfl) rfl trivial rfl rfl ?_
          refine op1 2 rfl (sp_loadBA rfl isBlk rfl vt53 rfl rfl) rfl trivial rfl rfl ?_
          refine op0 (sp_buildSlice (qs := [.agg [.val (.int .i64 (i17 + ((1 : Int) + (Int.tmod x26 15)))), .val (.int .i64 r48.1)]]) (need := []) (els := List.map en_api_PulseSeen ([((i17 + ((1 : Int) + (Int.tmod x26 15))), r48.1)] : List (Int × Int))) 16 rfl sl50 (by decide) (by decide) rfl rfl rfl (.v (.v (.nil))) (map_len fun _ => rfl) rfl rfl rfl) rfl trivial rfl rfl ?_
          obtain ⟨h41, h⟩ := chk_inv h
          refine appM 7 0 (N := l45.length) (N2 := ([((i17 + ((1 : Int) + (Int.tmod x26 15))), r48.1)] : List (Int × Int)).length) 17 rfl rfl trivial rfl rfl rfl rfl rfl isOwn rfl sl50 (len_map _ _) (len_map _ _) h41 (map_app _ _ _) rfl ?_
          refine op0 (sp_assign rfl rfl) rfl trivial rfl rfl ?_
          refine TL.nil ?_
          refine TC.inBlock ?_
          refine TC.region ?_
          refine op0 (sp_move rfl rfl) rfl trivial rfl rfl ?_
          obtain ⟨h42, h⟩ := chk_inv h
          refine op0 (sp_add rfl rfl rfl h42) rfl trivial rfl rfl ?_
          refine op0 (sp_assign rfl rfl) rfl trivial rfl rfl ?_
          refine TL.nil ?_
          refine TC.inLoop ?_
          refine TC.seq ?_
          refine TC.seq ?_
          refine subJ [(6, 15), (7, 17)] (hk_law09_PulseTruth_l1 _ _ _ _ _ _ _ _ _ h) ?_ ?_ ?_
          · exact ⟨rfl, rfl, rfl, rfl, rfl, rfl, rfl, rfl, rfl, trivial⟩
          · exact ⟨mem_at 5 rfl, mem_at 6 rfl, mem_at 7 rfl, mem_at 2 rfl, mem_at 0 rfl, trivial⟩
          · rfl
        · have h := cond_f h h40
          refine TC.skip ?_
          refine TC.inBlock ?_
          refine TC.region ?_
          refine op0 (sp_move rfl rfl) rfl trivial rfl rfl ?_
          obtain ⟨h43, h⟩ := chk_inv h
          refine op0 (sp_add rfl rfl rfl h43) rfl trivial rfl rfl ?_
          refine op0 (sp_assign rfl rfl) rfl trivial rfl rfl ?_
          refine TL.nil ?_
          refine TC.inLoop ?_
          refine TC.seq ?_
          refine TC.seq ?_
          refine subJ [(6, 15)] (hk_law09_PulseTruth_l1 _ _ _ _ _ _ _ _ _ h) ?_ ?_ ?_
          · exact ⟨rfl, rfl, rfl, rfl, rfl, rfl, rfl, rfl, rfl, trivial⟩
          · exact ⟨mem_at 3 rfl, mem_at 4 rfl, mem_at 5 rfl, mem_at 0 rfl, mem_at 6 rfl, trivial⟩
          · rfl
def ev_law09_PulseTruth_j2 (n : Nat) (l22 : List Int) (i18 : Int) (i17 : Int) (i12 : Int) (i13 : Int) (i19 : Int) (i20 : Int) (i21 : Int) (l23 : List (Int × Int)) (l24 : List (Int × Int)) (l25 : List (Int × Int)) (k_law09_PulseTruth_l1 : Int → Int → Int → Int → Int → (List Int) → (List (Int × Int)) → (List (Int × Int)) → (List (Int × Int)) → Option Bool) : Option Bool :=
  idx l22 i18 fun x26 => chk (in64 x26) <| chk (in64 ((1 : Int) + (Int.tmod x26 15))) <| chk (in64 (i17 + ((1 : Int) + (Int.tmod x26 15)))) <| chk (in64 (i12 + 50)) <| cond (decide ((i12 + 50) < (i17 + ((1 : Int) + (Int.tmod x26 15))))) (ev_law09_PulseTruth_j3 n i13 i12 i19 i20 i21 l23 l24 l25) (ev_law09_PulseTruth_l4 n i17 x26 i13 i12 i18 k_law09_PulseTruth_l1 n 0 i19 i20 i21 l22 l23 l24 l25 ([] : List (Int × Int)))
set_option maxRecDepth 100000 in
set_option maxHeartbeats 2000000 in
theorem ok_law09_PulseTruth_j2 {n : Nat} {w0 : World} {R0 : Nat → Prop} {env0 : Env} {r : Bool} {i12 : Int} {i13 : Int} {l22 : List Int} {i18 : Int} {i17 : Int} {i19 : Int} {i20 : Int} {i21 : Int} {l23 : List (Int × Int)} {l24 : List (Int × Int)} {l25 : List (Int × Int)} {k_law09_PulseTruth_l1 : Int → Int → Int → Int → Int → (List Int) → (List (Int × Int)) → (List (Int × Int)) → (List (Int × Int)) → Option Bool} (hk_law09_PulseTruth_l1 : ∀ (i17 : Int) (i18 : Int) (i19 : Int) (i20 : Int) (i21 : Int) (l22 : List Int) (l23 : List (Int × Int)) (l24 : List (Int × Int)) (l25 : List (Int × Int)), k_law09_PulseTruth_l1 i17 i18 i19 i20 i21 l22 l23 l24 l25 = some r → TC Try.prog ⟨w0, fun _ => False, R0⟩ 184 (bodyPost Try.prog Try.f10 (Post ⟨w0, fun _ => False, R0⟩ env0 (.val (.bool r)) [])) [.code (sub (bodyOf Try.f10) [1, 1, 1, 1, 1, 1, 0, 1, 0, 0, 0, 0]), .code (sub (bodyOf Try.f10) [1, 1, 1, 1, 1, 1, 0, 1, 0, 0, 0, 1]), .code (sub (bodyOf Try.f10) [1, 1, 1, 1, 1, 1, 0, 1, 0, 0, 1]), .inLoop (sub (bodyOf Try.f10) [1, 1, 1, 1, 1, 1, 0, 1, 0, 0]), .inBlock 0, .code (sub (bodyOf Try.f10) [1, 1, 1, 1, 1, 1, 1])] [(3, .ptr 3 0), (6, .ref 1), (7, .val (.int .i64 i12)), (8, .val (.int .i64 (Int.tmod i13 720))), (9, .ref 5), (10, .ref 6), (11, .val (.int .i64 i17)), (12, .ref 7), (13, .val (.int .i64 i18))] [.blk 3 [.val (.int .i64 i19), .val (.int .i64 i20), .val (.int .i64 i21)] 24, .ro 1 1 (List.map en_uint8 l22), .row 5 67 2 (List.map en_api_PulseFault l23), .row 6 53 2 (List.map en_api_PulseSeen l24), .row 7 53 2 (List.map en_api_PulseSeen l25)]) (h : ev_law09_PulseTruth_j2 n l22 i18 i17 i12 i13 i19 i20 i21 l23 l24 l25 k_law09_PulseTruth_l1 = some r) : TC Try.prog ⟨w0, fun _ => False, R0⟩ 184 (bodyPost Try.prog Try.f10 (Post ⟨w0, fun _ => False, R0⟩ env0 (.val (.bool r)) [])) [.code (sub (bodyOf Try.f10) [1, 1, 1, 1, 1, 1, 0, 1, 0, 0, 0, 1, 0]), .code (sub (bodyOf Try.f10) [1, 1, 1, 1, 1, 1, 0, 1, 0, 0, 1]), .inLoop (sub (bodyOf Try.f10) [1, 1, 1, 1, 1, 1, 0, 1, 0, 0]), .inBlock 0, .code (sub (bodyOf Try.f10) [1, 1, 1, 1, 1, 1, 1])] [(3, .ptr 3 0), (6, .ref 1), (7, .val (.int .i64 i12)), (8, .val (.int .i64 (Int.tmod i13 720))), (9, .ref 5), (10, .ref 6), (11, .val (.int .i64 i17)), (12, .ref 7), (13, .val (.int .i64 i18))] [.blk 3 [.val (.int .i64 i19), .val (.int .i64 i20), .val (.int .i64 i21)] 24, .ro 1 1 (List.map en_uint8 l22), .row 5 67 2 (List.map en_api_PulseFault l23), .row 6 53 2 (List.map en_api_PulseSeen l24), .row 7 53 2 (List.map en_api_PulseSeen l25)] := by
  rw [ev_law09_PulseTruth_j2] at h
  refine TC.skip ?_
  refine TC.seq ?_
  refine TC.block ?_
  refine TC.seq ?_
  refine TC.seq ?_
  refine TC.region ?_
  refine op0 (sp_move rfl rfl) rfl trivial rfl rfl ?_
  refine op0 (sp_move rfl rfl) rfl trivial rfl rfl ?_
  refine op0 (sp_move rfl rfl) rfl trivial rfl rfl ?_
  obtain ⟨x26, h9, h10, h⟩ := idx_inv h
  refine op1 1 rfl (sp_indexS rfl rfl rfl isRo sl60 h9 (map_get _ h10)) rfl trivial rfl rfl ?_
  refine op1 1 rfl (sp_loadR (i := (i18 : Int).toNat) (j := 0) rfl rfl isRo vt5 rfl (map_get _ h10) rfl (.v (.nil)) (nodup_of_B rfl)) rfl trivial rfl rfl ?_
  obtain ⟨h11, h⟩ := chk_inv h
  refine op0 (sp_conv rfl Try.underlying5 Try.underlying3 rfl h11) rfl trivial rfl rfl ?_
  refine op0 (sp_rem rfl rfl rfl (by decide)) rfl trivial rfl rfl ?_
  obtain ⟨h12, h⟩ := chk_inv h
  refine op0 (sp_add rfl rfl rfl h12) rfl trivial rfl rfl ?_
  obtain ⟨h13, h⟩ := chk_inv h
  refine op0 (sp_add rfl rfl rfl h13) rfl trivial rfl rfl ?_
  refine op0 (sp_assign rfl rfl) rfl trivial rfl rfl ?_
  refine TL.nil ?_
  refine TC.seq ?_
  refine TC.region ?_
  refine op0 (sp_move rfl rfl) rfl trivial rfl rfl ?_
  refine op0 (sp_move rfl rfl) rfl trivial rfl rfl ?_
  obtain ⟨h14, h⟩ := chk_inv h
  refine op0 (sp_add rfl rfl rfl h14) rfl trivial rfl rfl ?_
  refine op0 (sp_gtr rfl rfl rfl) rfl trivial rfl rfl ?_
  refine TL.nil ?_
  refine TC.cond (b := (decide ((i12 + 50) < (i17 + ((1 : Int) + (Int.tmod x26 15)))))) rfl (fun h15 => ?_) (fun h15 => ?_)
  · have h := cond_t h h15
    refine TC.exit rfl ?_
    refine TC.seq ?_
    refine subJ [] (ok_law09_PulseTruth_j3 h) ?_ ?_ ?_
    · exact ⟨rfl, rfl, rfl, rfl, rfl, rfl, trivial⟩
    · exact ⟨mem_at 0 rfl, mem_at 2 rfl, mem_at 3 rfl, mem_at 4 rfl, trivial⟩
    · rfl
  · have h := cond_f h h15
    refine TC.skip ?_
    refine TC.seq ?_
    refine TC.region ?_
    refine op0 (sp_emptyM 10 (List.map en_api_PulseFault []) rfl rfl sl26) rfl trivial rfl rfl ?_
    refine op0 (sp_assign rfl rfl) rfl trivial rfl rfl ?_
    refine TL.nil ?_
    refine TC.seq ?_
    refine TC.seq ?_
    refine TC.region ?_
    refine op0 (sp_assign rfl rfl) rfl trivial rfl rfl ?_
    refine TL.nil ?_
    refine TC.block ?_
    refine TC.loop ?_
    refine TC.seq ?_
    refine TC.seq ?_
    refine subJ [] (ok_law09_PulseTruth_l4 hk_law09_PulseTruth_l1 _ _ _ _ _ _ _ _ _ _ h) ?_ ?_ ?_
    · exact ⟨rfl, rfl, rfl, rfl, rfl, rfl, rfl, rfl, rfl, rfl, rfl, trivial⟩
    · exact ⟨mem_at 1 rfl, mem_at 2 rfl, mem_at 3 rfl, mem_at 4 rfl, mem_at 5 rfl, mem_at 0 rfl, trivial⟩
    · rfl
def ev_law09_PulseTruth_l1 (n : Nat) (i12 : Int) (i13 : Int) : Nat → Int → Int → Int → Int → Int → (List Int) → (List (Int × Int)) → (List (Int × Int)) → (List (Int × Int)) → Option Bool
  | 0, _, _, _, _, _, _, _, _, _ => none
  | m + 1, i17, i18, i19, i20, i21, l22, l23, l24, l25 => cond (decide (i18 < (l22.length : Int))) (cond (decide ((l24.length : Int) < 40)) (ev_law09_PulseTruth_j2 n l22 i18 i17 i12 i13 i19 i20 i21 l23 l24 l25 (fun i17q i18q i19q i20q i21q l22q l23q l24q l25q => ev_law09_PulseTruth_l1 n i12 i13 m i17q i18q i19q i20q i21q l22q l23q l24q l25q)) (ev_law09_PulseTruth_j3 n i13 i12 i19 i20 i21 l23 l24 l25)) (ev_law09_PulseTruth_j3 n i13 i12 i19 i20 i21 l23 l24 l25)
set_option maxRecDepth 100000 in
set_option maxHeartbeats 2000000 in
theorem ok_law09_PulseTruth_l1 {n : Nat} {w0 : World} {R0 : Nat → Prop} {env0 : Env} {r : Bool} {i12 : Int} {i13 : Int} : ∀ (m : Nat) (i17 : Int) (i18 : Int) (i19 : Int) (i20 : Int) (i21 : Int) (l22 : List Int) (l23 : List (Int × Int)) (l24 : List (Int × Int)) (l25 : List (Int × Int)), ev_law09_PulseTruth_l1 n i12 i13 m i17 i18 i19 i20 i21 l22 l23 l24 l25 = some r → TC Try.prog ⟨w0, fun _ => False, R0⟩ 184 (bodyPost Try.prog Try.f10 (Post ⟨w0, fun _ => False, R0⟩ env0 (.val (.bool r)) [])) [.code (sub (bodyOf Try.f10) [1, 1, 1, 1, 1, 1, 0, 1, 0, 0, 0, 0]), .code (sub (bodyOf Try.f10) [1, 1, 1, 1, 1, 1, 0, 1, 0, 0, 0, 1]), .code (sub (bodyOf Try.f10) [1, 1, 1, 1, 1, 1, 0, 1, 0, 0, 1]), .inLoop (sub (bodyOf Try.f10) [1, 1, 1, 1, 1, 1, 0, 1, 0, 0]), .inBlock 0, .code (sub (bodyOf Try.f10) [1, 1, 1, 1, 1, 1, 1])] [(3, .ptr 3 0), (6, .ref 1), (7, .val (.int .i64 i12)), (8, .val (.int .i64 (Int.tmod i13 720))), (9, .ref 5), (10, .ref 6), (11, .val (.int .i64 i17)), (12, .ref 7), (13, .val (.int .i64 i18))] [.blk 3 [.val (.int .i64 i19), .val (.int .i64 i20), .val (.int .i64 i21)] 24, .ro 1 1 (List.map en_uint8 l22), .row 5 67 2 (List.map en_api_PulseFault l23), .row 6 53 2 (List.map en_api_PulseSeen l24), .row 7 53 2 (List.map en_api_PulseSeen l25)] := by
  intro m
  induction m with
  | zero => intro i17 i18 i19 i20 i21 l22 l23 l24 l25 h; exact none_no h
  | succ m ih =>
    intro i17 i18 i19 i20 i21 l22 l23 l24 l25 h
    rw [ev_law09_PulseTruth_l1] at h
    refine TC.region ?_
    refine op0 (sp_move rfl rfl) rfl trivial rfl rfl ?_
    refine op0 (sp_move rfl rfl) rfl trivial rfl rfl ?_
    refine op1 1 rfl (sp_lenM (N := l22.length) (len_map _ _) rfl rfl isRo Try.underlying60) rfl trivial rfl rfl ?_
    refine op0 (sp_lss rfl rfl rfl) rfl trivial rfl rfl ?_
    refine op0 (sp_move rfl rfl) rfl trivial rfl rfl ?_
    rcases cond_cases h with ⟨h7, h⟩ | ⟨h7, h⟩
    · refine (boolLit 59 rfl h7).2 ?_
      refine op0 (sp_move rfl rfl) rfl ⟨_, rfl, rfl⟩ rfl rfl ?_
      refine op1 3 rfl (sp_lenM (N := l24.length) (len_map _ _) rfl rfl isOwn Try.underlying50) rfl ⟨_, rfl, rfl⟩ rfl rfl ?_
      refine op0 (sp_lss rfl rfl rfl) rfl ⟨_, rfl, rfl⟩ rfl rfl ?_
      refine op0 (sp_pickT rfl rfl rfl) rfl trivial rfl rfl ?_
      refine TL.nil ?_
      refine TC.cond (b := (decide ((l24.length : Int) < 40))) rfl (fun h8 => ?_) (fun h8 => ?_)
      · have h := cond_t h h8
        refine subJ [] (ok_law09_PulseTruth_j2 ih h) ?_ ?_ ?_
        · exact ⟨rfl, rfl, rfl, rfl, rfl, rfl, rfl, rfl, rfl, trivial⟩
        · exact ⟨mem_at 0 rfl, mem_at 1 rfl, mem_at 2 rfl, mem_at 3 rfl, mem_at 4 rfl, trivial⟩
        · rfl
      · have h := cond_f h h8
        refine TC.exit rfl ?_
        refine TC.seq ?_
        refine subJ [] (ok_law09_PulseTruth_j3 h) ?_ ?_ ?_
        · exact ⟨rfl, rfl, rfl, rfl, rfl, rfl, trivial⟩
        · exact ⟨mem_at 0 rfl, mem_at 2 rfl, mem_at 3 rfl, mem_at 4 rfl, trivial⟩
        · rfl
    · refine (boolLit 59 rfl h7).2 ?_
      refine opSkip rfl ⟨_, rfl, .inl rfl⟩ rfl ?_
      refine opSkip rfl ⟨_, rfl, .inl rfl⟩ rfl ?_
      refine opSkip rfl ⟨_, rfl, .inl rfl⟩ rfl ?_
      refine op0 (sp_pickF rfl rfl rfl) rfl trivial rfl rfl ?_
      refine TL.nil ?_
      refine TC.condF rfl ?_
      refine TC.exit rfl ?_
      refine TC.seq ?_
      refine subJ [] (ok_law09_PulseTruth_j3 h) ?_ ?_ ?_
      · exact ⟨rfl, rfl, rfl, rfl, rfl, rfl, trivial⟩
      · exact ⟨mem_at 0 rfl, mem_at 2 rfl, mem_at 3 rfl, mem_at 4 rfl, trivial⟩
      · rfl
def ev_law09_PulseTruth_j0 (n : Nat) (i9 : Int) (i10 : Int) (i11 : Int) (i12 : Int) (i13 : Int) (l14 : List Int) (l15 : List Int) : Option Bool :=
  chk (in64 i12) <| chk (in64 i13) <| chk (in64 (i12 + 50)) <| (ev_law09_list n i9 i10 i11 i12 (i12 + 50) l14).bind fun r16 => ev_law09_PulseTruth_l1 n i12 i13 n i12 0 i9 i10 i11 l15 r16 ([] : List (Int × Int)) ([] : List (Int × Int))
set_option maxRecDepth 100000 in
set_option maxHeartbeats 2000000 in
theorem ok_law09_PulseTruth_j0 {n : Nat} {w0 : World} {R0 : Nat → Prop} {env0 : Env} {r : Bool} {i9 : Int} {i10 : Int} {i11 : Int} {i12 : Int} {i13 : Int} {l14 : List Int} {l15 : List Int} (h : ev_law09_PulseTruth_j0 n i9 i10 i11 i12 i13 l14 l15 = some r) : TC Try.prog ⟨w0, fun _ => False, R0⟩ 184 (bodyPost Try.prog Try.f10 (Post ⟨w0, fun _ => False, R0⟩ env0 (.val (.bool r)) [])) [.code (sub (bodyOf Try.f10) [1, 1, 1, 0]), .code (sub (bodyOf Try.f10) [1, 1, 1, 1])] [(3, .ptr 3 0), (4, .ptr 4 0), (5, .ref 0), (6, .ref 1)] [.blk 3 [.val (.int .i64 i9), .val (.int .i64 i10), .val (.int .i64 i11)] 24, .blk 4 [.val (.int .u16 i12), .val (.int .u16 i13)] 74, .ro 0 1 (List.map en_uint8 l14), .ro 1 1 (List.map en_uint8 l15)] := by
  rw [ev_law09_PulseTruth_j0] at h
  obtain ⟨h3, h⟩ := chk_inv h
  obtain ⟨h4, h⟩ := chk_inv h
  refine drawJ 8 [⟨.ptr 4 0, [], [.blk 4 [.val (.int .u16 i12), .val (.int .u16 i13)] 74], []⟩, ⟨.val (.int .u16 i12), [], [.blk 4 [.val (.int .u16 i12), .val (.int .u16 i13)] 74], []⟩, ⟨.val (.int .i64 i12), [], [], []⟩, ⟨.ptr 4 1, [], [.blk 4 [.val (.int .u16 i12), .val (.int .u16 i13)] 74], []⟩, ⟨.val (.int .u16 i13), [], [.blk 4 [.val (.int .u16 i12), .val (.int .u16 i13)] 74], []⟩, ⟨.val (.int .i64 i13), [], [], []⟩, ⟨.val (.int .i64 (Int.tmod i13 720)), [], [], []⟩, ⟨.val (.int .i64 i12), [], [], []⟩] rfl ?_ rfl ?_ rfl ?_ ?_
  · kernel_rfl
  · kernel_rfl
  · exact DAll.op' (sp_indexA (len := 2) (iv := 0) rfl isBlk rfl rfl Try.underlying74 vt69 (by decide)) trivial rfl (From.ok (ps := [(none, 1)]) ⟨⟨rfl, rfl⟩, trivial⟩) (DAll.op' (sp_loadB rfl isBlk rfl vt69 rfl) trivial rfl (From.ok (ps := [(none, 1)]) ⟨⟨rfl, rfl⟩, trivial⟩) (DAll.op' (sp_conv rfl Try.underlying69 Try.underlying3 rfl h3) trivial rfl (From.ok (ps := []) trivial) (DAll.op' (sp_indexA (len := 2) (iv := 1) rfl isBlk rfl rfl Try.underlying74 vt69 (by decide)) trivial rfl (From.ok (ps := [(none, 1)]) ⟨⟨rfl, rfl⟩, trivial⟩) (DAll.op' (sp_loadB rfl isBlk rfl vt69 rfl) trivial rfl (From.ok (ps := [(none, 1)]) ⟨⟨rfl, rfl⟩, trivial⟩) (DAll.op' (sp_conv rfl Try.underlying69 Try.underlying3 rfl h4) trivial rfl (From.ok (ps := []) trivial) (DAll.op' (sp_rem rfl rfl rfl (by decide)) trivial rfl (From.ok (ps := []) trivial) (DAll.op' (sp_assign rfl rfl) trivial rfl (From.ok (ps := []) trivial) (.nil))))))))
  refine op0 (sp_assign rfl rfl) rfl trivial rfl rfl ?_
  refine TL.nil ?_
  refine TC.seq ?_
  refine TC.region ?_
  refine op1 0 rfl (sp_loadBA rfl isBlk rfl vt24 rfl rfl) rfl trivial rfl rfl ?_
  refine op0 (sp_move rfl rfl) rfl trivial rfl rfl ?_
  refine op0 (sp_move rfl rfl) rfl trivial rfl rfl ?_
  obtain ⟨h5, h⟩ := chk_inv h
  refine op0 (sp_add rfl rfl rfl h5) rfl trivial rfl rfl ?_
  refine op0 (sp_move rfl rfl) rfl trivial rfl rfl ?_
  obtain ⟨r16, h6, h⟩ := bind_inv h
  refine op1 2 rfl (sp_call (avs := [.agg [.val (.int .i64 i9), .val (.int .i64 i10), .val (.int .i64 i11)], .val (.int .i64 i12), .val (.int .i64 (i12 + 50)), .ref 0]) (need := [.ro 0 1 (List.map en_uint8 l14)]) (v := .ref 5) (news := [.row 5 67 2 (List.map en_api_PulseFault r16)]) rfl rfl rfl Try.call30 (atJ [] [(0, 5)] (fc_law09_list h6) rfl rfl) (.inl (roAll rfl))) rfl trivial rfl rfl ?_
  refine op0 (sp_assign rfl rfl) rfl trivial rfl rfl ?_
  refine TL.nil ?_
  refine TC.seq ?_
  refine TC.region ?_
  refine op0 (sp_emptyM 6 (List.map en_api_PulseSeen []) rfl rfl sl50) rfl trivial rfl rfl ?_
  refine op0 (sp_move rfl rfl) rfl trivial rfl rfl ?_
  refine op0 (sp_emptyM 7 (List.map en_api_PulseSeen []) rfl rfl sl50) rfl trivial rfl rfl ?_
  refine op0 (sp_assign rfl rfl) rfl trivial rfl rfl ?_
  refine op0 (sp_assign rfl rfl) rfl trivial rfl rfl ?_
  refine op0 (sp_assign rfl rfl) rfl trivial rfl rfl ?_
  refine TL.nil ?_
  refine TC.seq ?_
  refine TC.seq ?_
  refine TC.region ?_
  refine op0 (sp_assign rfl rfl) rfl trivial rfl rfl ?_
  refine TL.nil ?_
  refine TC.block ?_
  refine TC.loop ?_
  refine TC.seq ?_
  refine TC.seq ?_
  refine subJ [] (ok_law09_PulseTruth_l1 _ _ _ _ _ _ _ _ _ _ h) ?_ ?_ ?_
  · exact ⟨rfl, rfl, rfl, rfl, rfl, rfl, rfl, rfl, rfl, trivial⟩
  · exact ⟨mem_at 3 rfl, mem_at 6 rfl, mem_at 2 rfl, mem_at 1 rfl, mem_at 0 rfl, trivial⟩
  · rfl
def ev_law09_PulseTruth (n : Nat) (y1 : Int) (y2 : Int) (y3 : Int) (y4 : Int) (y5 : Int) (y6 : List Int) (y7 : List Int) : Option Bool :=
  (ev_law09_Wired_line n y1 y2 y3).bind fun r8 => cond (decide ((192 : Int) ≤ y1)) (ev_law09_PulseTruth_j0 n 0 0 0 y4 y5 y6 y7) (ev_law09_PulseTruth_j0 n r8.1 r8.2.1 r8.2.2 y4 y5 y6 y7)
set_option maxRecDepth 100000 in
set_option maxHeartbeats 2000000 in
theorem fc_law09_PulseTruth {n : Nat} {y1 : Int} {y2 : Int} {y3 : Int} {y4 : Int} {y5 : Int} {y6 : List Int} {y7 : List Int} {r : Bool} (h : ev_law09_PulseTruth n y1 y2 y3 y4 y5 y6 y7 = some r) : FC Try.prog 10 [.agg [.val (.int .u8 y1), .val (.int .u8 y2), .val (.int .u8 y3), .val (.int .u16 y4), .val (.int .u16 y5), .ref 0, .ref 1]] [.ro 0 1 (List.map en_uint8 y6), .ro 1 1 (List.map en_uint8 y7)] (.val (.bool r)) [] := by
  refine introJ (sz := 184) Try.func10 rfl rfl rfl (fun w0 R0 env0 => ?_)
  rw [ev_law09_PulseTruth] at h
  refine TC.seq ?_
  refine TC.region ?_
  refine op0 (sp_box 2 rfl rfl rfl rfl rfl) rfl trivial rfl rfl ?_
  refine op0 (sp_assign rfl rfl) rfl trivial rfl rfl ?_
  refine TL.nil ?_
  refine TC.seq ?_
  obtain ⟨r8, h1, h⟩ := bind_inv h
  refine drawJ 14 [⟨.ptr 2 0, [], [.blk 2 [.val (.int .u8 y1), .val (.int .u8 y2), .val (.int .u8 y3), .val (.int .u16 y4), .val (.int .u16 y5), .ref 0, .ref 1] 76], []⟩, ⟨.agg [.val (.int .u8 y1), .val (.int .u8 y2), .val (.int .u8 y3)], [], [.blk 2 [.val (.int .u8 y1), .val (.int .u8 y2), .val (.int .u8 y3), .val (.int .u16 y4), .val (.int .u16 y5), .ref 0, .ref 1] 76], []⟩, ⟨.agg [.val (.int .i64 r8.1), .val (.int .i64 r8.2.1), .val (.int .i64 r8.2.2)], [], [], []⟩, ⟨.ptr 2 3, [], [.blk 2 [.val (.int .u8 y1), .val (.int .u8 y2), .val (.int .u8 y3), .val (.int .u16 y4), .val (.int .u16 y5), .ref 0, .ref 1] 76], []⟩, ⟨.agg [.val (.int .u16 y4), .val (.int .u16 y5)], [], [.blk 2 [.val (.int .u8 y1), .val (.int .u8 y2), .val (.int .u8 y3), .val (.int .u16 y4), .val (.int .u16 y5), .ref 0, .ref 1] 76], []⟩, ⟨.ptr 2 5, [], [.blk 2 [.val (.int .u8 y1), .val (.int .u8 y2), .val (.int .u8 y3), .val (.int .u16 y4), .val (.int .u16 y5), .ref 0, .ref 1] 76], []⟩, ⟨.ref 0, [], [.blk 2 [.val (.int .u8 y1), .val (.int .u8 y2), .val (.int .u8 y3), .val (.int .u16 y4), .val (.int .u16 y5), .ref 0, .ref 1] 76], []⟩, ⟨.ptr 2 6, [], [.blk 2 [.val (.int .u8 y1), .val (.int .u8 y2), .val (.int .u8 y3), .val (.int .u16 y4), .val (.int .u16 y5), .ref 0, .ref 1] 76], []⟩, ⟨.ref 1, [], [.blk 2 [.val (.int .u8 y1), .val (.int .u8 y2), .val (.int .u8 y3), .val (.int .u16 y4), .val (.int .u16 y5), .ref 0, .ref 1] 76], []⟩, ⟨.ptr 3 0, [.blk 3 [.val (.int .i64 0), .val (.int .i64 0), .val (.int .i64 0)] 24], [], []⟩, ⟨.ptr 4 0, [.blk 4 [.val (.int .u16 0), .val (.int .u16 0)] 74], [], []⟩, ⟨.val (undef), [.blk 3 [.val (.int .i64 r8.1), .val (.int .i64 r8.2.1), .val (.int .i64 r8.2.2)] 24], [], [.blk 3 [.val (.int .i64 0), .val (.int .i64 0), .val (.int .i64 0)] 24]⟩, ⟨.val (undef), [.blk 4 [.val (.int .u16 y4), .val (.int .u16 y5)] 74], [], [.blk 4 [.val (.int .u16 0), .val (.int .u16 0)] 74]⟩, ⟨.ref 0, [], [], []⟩] rfl ?_ rfl ?_ rfl ?_ ?_
  · kernel_rfl
  · kernel_rfl
  · exact DAll.op' (sp_fieldAddrB rfl isBlk rfl ft76_0 vt59 (by decide)) trivial rfl (From.ok (ps := [(none, 0)]) ⟨⟨rfl, rfl⟩, trivial⟩) (DAll.op' (sp_loadBA rfl isBlk rfl vt59 rfl rfl) trivial rfl (From.ok (ps := [(none, 0)]) ⟨⟨rfl, rfl⟩, trivial⟩) (DAll.op' (sp_call (avs := [.agg [.val (.int .u8 y1), .val (.int .u8 y2), .val (.int .u8 y3)]]) (need := []) (v := .agg [.val (.int .i64 r8.1), .val (.int .i64 r8.2.1), .val (.int .i64 r8.2.2)]) (news := []) rfl rfl rfl Try.call29 (atJ [] [] (fc_law09_Wired_line h1) rfl rfl) (.inl (roAll rfl))) trivial rfl (From.ok (ps := []) trivial) (DAll.op' (sp_fieldAddrB rfl isBlk rfl ft76_1 vt74 (by decide)) trivial rfl (From.ok (ps := [(none, 0)]) ⟨⟨rfl, rfl⟩, trivial⟩) (DAll.op' (sp_loadBA rfl isBlk rfl vt74 rfl rfl) trivial rfl (From.ok (ps := [(none, 0)]) ⟨⟨rfl, rfl⟩, trivial⟩) (DAll.op' (sp_fieldAddrB rfl isBlk rfl ft76_2 vt60 (by decide)) trivial rfl (From.ok (ps := [(none, 0)]) ⟨⟨rfl, rfl⟩, trivial⟩) (DAll.op' (sp_loadB rfl isBlk rfl vt60 rfl) trivial rfl (From.ok (ps := [(none, 0)]) ⟨⟨rfl, rfl⟩, trivial⟩) (DAll.op' (sp_fieldAddrB rfl isBlk rfl ft76_3 vt60 (by decide)) trivial rfl (From.ok (ps := [(none, 0)]) ⟨⟨rfl, rfl⟩, trivial⟩) (DAll.op' (sp_loadB rfl isBlk rfl vt60 rfl) trivial rfl (From.ok (ps := [(none, 0)]) ⟨⟨rfl, rfl⟩, trivial⟩) (DAll.op' (sp_alloc 3 rfl Try.zeroValue24 rfl) trivial rfl (From.ok (ps := []) trivial) (DAll.op' (sp_alloc 4 rfl Try.zeroValue74 rfl) trivial rfl (From.ok (ps := []) trivial) (DAll.opT (ts_storeB (off := 0) (cells' := [.val (.int .i64 r8.1), .val (.int .i64 r8.2.1), .val (.int .i64 r8.2.2)]) rfl rfl rfl rfl vt24 rfl rfl rfl) trivial (From.ok (ps := [(some 9, 0)]) ⟨⟨_, rfl, rfl, rfl, rfl⟩, trivial⟩) (From.ok (ps := []) trivial) (DAll.opT (ts_storeB (off := 0) (cells' := [.val (.int .u16 y4), .val (.int .u16 y5)]) rfl rfl rfl rfl vt74 rfl rfl rfl) trivial (From.ok (ps := [(some 10, 0)]) ⟨⟨_, rfl, rfl, rfl, rfl⟩, trivial⟩) (From.ok (ps := []) trivial) (DAll.op' (sp_assign rfl rfl) trivial rfl (From.ok (ps := []) trivial) (.nil))))))))))))))
  refine op0 (sp_assign rfl rfl) rfl trivial rfl rfl ?_
  refine TL.nil ?_
  refine TC.seq ?_
  refine TC.seq ?_
  refine TC.region ?_
  refine op1 2 rfl (sp_fieldAddrB rfl isBlk rfl ft76_0 vt59 (by decide)) rfl trivial rfl rfl ?_
  refine op1 2 rfl (sp_fieldAddrB rfl isBlk rfl ft59_0 vt5 (by decide)) rfl trivial rfl rfl ?_
  refine op1 2 rfl (sp_loadB rfl isBlk rfl vt5 rfl) rfl trivial rfl rfl ?_
  refine op0 (sp_geq rfl rfl rfl) rfl trivial rfl rfl ?_
  refine TL.nil ?_
  refine TC.cond (b := (decide ((192 : Int) ≤ y1))) rfl (fun h2 => ?_) (fun h2 => ?_)
  · have h := cond_t h h2
    refine TC.region ?_
    refine op0 (sp_build (qs := []) rfl bt24 rfl rfl rfl rfl) rfl trivial rfl rfl ?_
    refine stoB 1 (cells' := [.val (.int .i64 0), .val (.int .i64 0), .val (.int .i64 0)]) rfl rfl trivial rfl rfl rfl rfl vt24 rfl rfl rfl ?_
    refine TL.nil ?_
    refine TC.seq ?_
    refine subJ [] (ok_law09_PulseTruth_j0 h) ?_ ?_ ?_
    · exact ⟨rfl, rfl, rfl, rfl, trivial⟩
    · exact ⟨mem_at 1 rfl, mem_at 0 rfl, mem_at 3 rfl, mem_at 4 rfl, trivial⟩
    · rfl
  · have h := cond_f h h2
    refine TC.skip ?_
    refine TC.seq ?_
    refine subJ [] (ok_law09_PulseTruth_j0 h) ?_ ?_ ?_
    · exact ⟨rfl, rfl, rfl, rfl, trivial⟩
    · exact ⟨mem_at 1 rfl, mem_at 0 rfl, mem_at 3 rfl, mem_at 4 rfl, trivial⟩
    · rfl
end
end Go.Proofs.Ytpjlihkpnhamlaa.Sy
end

/- Evaluating what the symbolic contracts compute. -/
section
set_option linter.unusedSimpArgs false
set_option linter.unusedVariables false
namespace Go.Proofs.Ytpjlihkpnhamlaa.Sy
open Go.RowKit

theorem chk_of {α : Type} {b : Bool} {k : Option α} (h : b = true) : chk b k = k := by subst h; rfl
theorem chk_if {α : Type} {b : Bool} {k : Option α} : chk b k = if b = true then k else none := by cases b <;> rfl
theorem idx_of {α β : Type} {xs : List α} {i : Int} {k : α → Option β} {x : α} (h0 : 0 ≤ i) (h : xs[i.toNat]? = some x) : idx xs i k = k x := by
  unfold idx; rw [chk_of (by simpa using h0), h]; rfl
theorem idx_nat {α β : Type} {xs : List α} {i : Nat} {k : α → Option β} {x : α} (h : xs[i]? = some x) : idx xs (i : Int) k = k x := idx_of (by omega) (by simpa using h)
theorem cond_if {α : Type} {b : Bool} {x y : α} : cond b x y = if b = true then x else y := by cases b <;> rfl
theorem bind_of {α β : Type} {e : Option α} {k : α → Option β} {x : α} (h : e = some x) : e.bind k = k x := by subst h; rfl
theorem in64_of {z : Int} (h : -9223372036854775808 ≤ z ∧ z ≤ 9223372036854775807) : in64 z = true := in64_iff.2 h
theorem inK8_iff {z : Int} : inK .u8 z = true ↔ 0 ≤ z ∧ z ≤ 255 := by
  simp only [inK, fits, IntKind.wrap, decide_eq_true_eq]
  simp [IntKind.bits, IntKind.signed]
  omega
theorem wf8 {z : Int} : (Lit.int .u8 z).wf = true ↔ 0 ≤ z ∧ z ≤ 255 := by
  simp only [Lit.wf, Bool.and_eq_true, decide_eq_true_eq, show IntKind.u8.min = 0 from rfl, show IntKind.u8.max = 255 from rfl]
theorem wf64_iff {z : Int} : (Lit.int .i64 z).wf = true ↔ -9223372036854775808 ≤ z ∧ z ≤ 9223372036854775807 := by
  simp only [Lit.wf, Bool.and_eq_true, decide_eq_true_eq, show IntKind.i64.min = -9223372036854775808 from rfl, show IntKind.i64.max = 9223372036854775807 from rfl]
theorem room_iff {b n : Nat} : room b n = true ↔ n * b ≤ 140737488355328 ∧ n ≤ 140737488355327 := by simp [room]
end Go.Proofs.Ytpjlihkpnhamlaa.Sy
end

/- Arguments that came in, opened: what their reading as data says of their values. -/
section
set_option linter.unusedSimpArgs false
set_option linter.unusedVariables false
namespace Go.Proofs.Ytpjlihkpnhamlaa
open Go.RowKit Go.Shelf Go.Joins Go.Deep

section
variable {H : Type} {enc : TypeId × Value → H} {P : Program} {w : World} {base b0 : Nat} {spare : Nat → Bool} {held : Bool} {t : TypeId} {r : Reach} {v : Value} {d : DataW H} {p : List MemPlace}

theorem op_agg2 {f0 f1 : Field} {k0 k1 : IntKind} (hs : P.underlying t = some (.struct #[f0, f1])) (hone : oneCellFields P #[f0, f1] = true) (hC : P.cellsOf t = 2) (t0 : P.underlying f0.type = some (.int k0)) (t1 : P.underlying f1.type = some (.int k1))
    (hv : Value.okWide P w r b0 t v) (h : DataW.Trod enc P w base spare held t v d p) : ∃ x0 x1 : Int, v = .agg #[.int k0 x0, .int k1 x1] ∧ (Lit.int k0 x0).wf = true ∧ (Lit.int k1 x1).wf = true := by
  obtain ⟨c0, c1, y0, y1, n, rfl, _, _, g0, g1⟩ := open_agg2 hs hone hC hv h
  obtain ⟨x0, e0, _, w0⟩ := DataW.trod_int t0 g0
  obtain ⟨x1, e1, _, w1⟩ := DataW.trod_int t1 g1
  simp at e0 e1
  subst e0 e1
  exact ⟨x0, x1, rfl, w0, w1⟩
theorem op_agg3 {f0 f1 f2 : Field} {k0 k1 k2 : IntKind} (hs : P.underlying t = some (.struct #[f0, f1, f2])) (hone : oneCellFields P #[f0, f1, f2] = true) (hC : P.cellsOf t = 3) (t0 : P.underlying f0.type = some (.int k0)) (t1 : P.underlying f1.type = some (.int k1)) (t2 : P.underlying f2.type = some (.int k2))
    (hv : Value.okWide P w r b0 t v) (h : DataW.Trod enc P w base spare held t v d p) : ∃ x0 x1 x2 : Int, v = .agg #[.int k0 x0, .int k1 x1, .int k2 x2] ∧ (Lit.int k0 x0).wf = true ∧ (Lit.int k1 x1).wf = true ∧ (Lit.int k2 x2).wf = true := by
  obtain ⟨c0, c1, c2, y0, y1, y2, n, rfl, _, _, g0, g1, g2⟩ := open_agg3 hs hone hC hv h
  obtain ⟨x0, e0, _, w0⟩ := DataW.trod_int t0 g0
  obtain ⟨x1, e1, _, w1⟩ := DataW.trod_int t1 g1
  obtain ⟨x2, e2, _, w2⟩ := DataW.trod_int t2 g2
  simp at e0 e1 e2
  subst e0 e1 e2
  exact ⟨x0, x1, x2, rfl, w0, w1, w2⟩

theorem okWide_array {n : Nat} {e : TypeId} (ht : P.underlying t = some (.array n e)) (h : Value.okWide P w r b0 t v) : ∃ cs, v = .agg cs ∧ cs.size = P.cellsOf t := by
  simp only [Value.okWide, ht] at h
  obtain ⟨cs, h1, h2, _⟩ := h
  exact ⟨cs, h1, h2⟩
theorem op_arr {n : Nat} {e : TypeId} {k : IntKind} (ht : P.underlying t = some (.array n e)) (hC : P.cellsOf t = n) (he : P.underlying e = some (.int k)) (hc : P.cellsOf e = 1)
    (hv : Value.okWide P w r b0 t v) (h : DataW.Trod enc P w base spare held t v d p) : ∃ zs : List Int, zs.length = n ∧ v = .agg (zs.map (Value.int k)).toArray ∧ ∀ z ∈ zs, (Lit.int k z).wf = true := by
  obtain ⟨cs, rfl, hsz⟩ := okWide_array ht hv
  rw [hC] at hsz
  obtain ⟨fuel, hf⟩ := h
  obtain ⟨xs, m, _, _, hlen, hxl, hx⟩ := DataW.trod_array ht hf
  have key : ∀ i (hi : i < n), ∃ z : Int, cs[i]? = some (.int k z) ∧ (Lit.int k z).wf = true := fun i hi => by
    have h1 := hx i hi
    rw [hc, Nat.mul_one, List.getElem?_eq_getElem (by omega)] at h1
    obtain ⟨z, e1, _, wz⟩ := DataW.trod_int he h1
    have e2 := congrArg (fun l => l[0]?) e1
    simp [Value.cells, List.getElem?_take] at e2
    exact ⟨z, e2, wz⟩
  have : ∃ f : Nat → Int, ∀ i, i < n → cs[i]? = some (.int k (f i)) ∧ (Lit.int k (f i)).wf = true := Go.Deep.choose_lt key
  obtain ⟨f, hf'⟩ := this
  refine ⟨(List.range n).map f, by simp, ?_, fun z hz => ?_⟩
  · congr 1
    apply Array.ext_getElem?
    intro i
    by_cases hi : i < n
    · rw [(hf' i hi).1]; simp [hi]
    · rw [Array.getElem?_eq_none (by omega), Array.getElem?_eq_none (by simp; omega)]
  · obtain ⟨i, hi, rfl⟩ := List.mem_map.1 hz
    exact (hf' i (by simpa using hi)).2

theorem list2 {α : Type} : ∀ {l : List α}, l.length = 2 → ∃ a b, l = [a, b]
  | [a, b], _ => ⟨a, b, rfl⟩
theorem list3 {α : Type} : ∀ {l : List α}, l.length = 3 → ∃ a b c, l = [a, b, c]
  | [a, b, c], _ => ⟨a, b, c, rfl⟩
theorem list4 {α : Type} : ∀ {l : List α}, l.length = 4 → ∃ a b c d, l = [a, b, c, d]
  | [a, b, c, d], _ => ⟨a, b, c, d, rfl⟩
/-- a slice value reads as a list of pairs of integers -/
def PairsAt (w : World) (a : Option Addr) (fs : List (Int × Int)) : Prop :=
  ∀ i (_ : i < fs.length), ∃ b o, a = some ⟨b, o, none⟩ ∧ b < w.heap.size ∧ w.cell? ⟨b, o + i * 2, none⟩ = some (.int .i64 fs[i].1) ∧ w.cell? ⟨b, o + i * 2 + 1, none⟩ = some (.int .i64 fs[i].2)
theorem PairsAt.below {w w' : World} {a : Option Addr} {fs : List (Int × Int)} (h : PairsAt w a fs) (hb : Below w.heap.size w w') : PairsAt w' a fs := fun i hi => by
  obtain ⟨b, o, e, hlt, hc, hd⟩ := h i hi
  exact ⟨b, o, e, Nat.lt_of_lt_of_le hlt hb.size, by rw [hb.cell (p := ⟨b, _, none⟩) hlt]; exact hc, by rw [hb.cell (p := ⟨b, _, none⟩) hlt]; exact hd⟩
theorem addr_none {w : World} {x : Addr} {v : Value} (h : w.cell? x = some v) : x.spot = none := World.cell?_spot h
theorem cell_lt {w : World} {b o : Nat} {v : Value} (h : w.cell? ⟨b, o, none⟩ = some v) : b < w.heap.size := by
  rcases Nat.lt_or_ge b w.heap.size with q | q
  · exact q
  · rw [World.cell?, Array.getElem?_eq_none q] at h; cases h
theorem op_pairs {e : TypeId} {f0 f1 : Field} (ht : P.underlying t = some (.slice e)) (he : P.underlying e = some (.struct #[f0, f1])) (ce : P.cellsOf e = 2) (o0 : f0.offset = 0) (o1 : f1.offset = 1) (c0 : P.cellsOf f0.type = 1) (c1 : P.cellsOf f1.type = 1)
    (t0 : P.underlying f0.type = some (.int .i64)) (t1 : P.underlying f1.type = some (.int .i64)) (hv : Value.okWide P w r b0 t v) (h : DataW.Trod enc P w base spare held t v d p) :
    ∃ (a : Option Addr) (cap : Nat) (fs : List (Int × Int)), v = .slice a fs.length cap ∧ fs.length ≤ cap ∧ cap ≤ maxLen ∧ PairsAt w a fs ∧ ∀ x ∈ fs, (Lit.int .i64 x.1).wf = true ∧ (Lit.int .i64 x.2).wf = true := by
  obtain ⟨a, len, cap, rfl⟩ := Go.WideShapes.okWide_slice ht hv
  obtain ⟨fuel, hf⟩ := h
  rcases Go.Deep.open_slice_pairs ht he ce o0 o1 c0 c1 hf with ⟨h1, _⟩ | ⟨a', len', cap', m, n, V0, V1, D0, D1, P0, P1, h1, _, hl, hm, hmm, _, hx⟩
  · simp [Value.cells] at h1
    obtain ⟨rfl, rfl, rfl⟩ := h1
    exact ⟨none, 0, [], rfl, by simp, Nat.zero_le _, fun i hi => (by simp at hi), fun x hx => (by simp at hx)⟩
  · simp [Value.cells] at h1
    obtain ⟨rfl, rfl, rfl⟩ := h1
    have hlm : len ≤ m := by rw [hmm]; split <;> omega
    have key : ∀ i, i < m → ∃ q : Int × Int, V0 i = .int .i64 q.1 ∧ V1 i = .int .i64 q.2 ∧ (Lit.int .i64 q.1).wf = true ∧ (Lit.int .i64 q.2).wf = true := fun i hi => by
      obtain ⟨_, _, g0, g1⟩ := hx i hi
      obtain ⟨x0, e0, _, w0⟩ := DataW.trod_int t0 g0
      obtain ⟨x1, e1, _, w1⟩ := DataW.trod_int t1 g1
      simp at e0 e1
      exact ⟨(x0, x1), e0, e1, w0, w1⟩
    obtain ⟨q, hq⟩ := Go.Deep.choose_lt key
    refine ⟨some a', cap, (List.range len).map q, by simp, by simpa using hl, hm, fun i hi => ?_, fun x hx' => ?_⟩
    · have hi' : i < len := by simpa using hi
      obtain ⟨g0, g1, _, _⟩ := hx i (by omega)
      obtain ⟨e0, e1, _, _⟩ := hq i (by omega)
      rw [e0] at g0; rw [e1] at g1
      obtain ⟨b, o, sp⟩ := a'
      have hsp : sp = none := by simpa [Addr.add] using addr_none (hx 0 (by omega)).1
      subst hsp
      have g0' : w.cell? ⟨b, o + i * 2, none⟩ = some (.int .i64 (q i).1) := by
        have := g0
        unfold Addr.add at this
        split at this <;> simp_all
      have g1' : w.cell? ⟨b, o + i * 2 + 1, none⟩ = some (.int .i64 (q i).2) := by
        have := g1
        unfold Addr.add at this
        split at this <;> simp_all [Nat.add_assoc]
      exact ⟨b, o, rfl, cell_lt g0', by simpa using g0', by simpa using g1'⟩
    · obtain ⟨i, hi, rfl⟩ := List.mem_map.1 hx'
      obtain ⟨_, _, h3, h4⟩ := hq i (by have := List.mem_range.1 hi; omega)
      exact ⟨h3, h4⟩
theorem op_ints {e : TypeId} {k : IntKind} (ht : P.underlying t = some (.slice e)) (he : P.underlying e = some (.int k)) (hc : P.cellsOf e = 1) (hv : Value.okWide P w r b0 t v) (h : DataW.Trod enc P w base spare held t v d p) :
    ∃ (a : Option Addr) (cap : Nat) (zs : List Int), v = .slice a zs.length cap ∧ zs.length ≤ cap ∧ cap ≤ maxLen ∧ (∀ i (_ : i < zs.length), ∃ b o, a = some ⟨b, o, none⟩ ∧ b < w.heap.size ∧ w.cell? ⟨b, o + i, none⟩ = some (.int k zs[i])) ∧ ∀ x ∈ zs, (Lit.int k x).wf = true := by
  obtain ⟨a, len, cap, rfl⟩ := Go.WideShapes.okWide_slice ht hv
  obtain ⟨fuel, hf⟩ := h
  rcases Go.ChangeShapes.open_ints ht he hc hf with ⟨h1, _⟩ | ⟨a', len', cap', zs, h1, _, hl, hm, hz, _, hcell, hwz⟩
  · simp [Value.cells] at h1
    obtain ⟨rfl, rfl, rfl⟩ := h1
    exact ⟨none, 0, [], rfl, by simp, Nat.zero_le _, fun i hi => (by simp at hi), fun x hx => (by simp at hx)⟩
  · simp [Value.cells] at h1
    obtain ⟨rfl, rfl, rfl⟩ := h1
    have hlz : len ≤ zs.length := by rw [hz]; split <;> omega
    refine ⟨some a', cap, zs.take len, by simp [hlz], by simp; omega, hm, fun i hi => ?_, fun x hx => hwz x (List.mem_of_mem_take hx)⟩
    have hi' : i < len := by simp at hi; omega
    have g0 := hcell i (by omega)
    obtain ⟨b, o, sp⟩ := a'
    have hsp : sp = none := by simpa [Addr.add] using addr_none (hcell 0 (by omega))
    subst hsp
    have e1 : (⟨b, o, none⟩ : Addr).add i = ⟨b, o + i, none⟩ := by unfold Addr.add; split <;> simp_all
    have hiz : i < zs.length := by omega
    have e2 : zs.getD i 0 = (zs.take len)[i] := by rw [List.getElem_take]; simp [List.getD, hiz]
    rw [e1, e2] at g0
    exact ⟨b, o, rfl, cell_lt g0, g0⟩
end
end Go.Proofs.Ytpjlihkpnhamlaa
end

/- The walks of the laws' copies of slices, and of their comparison. -/
section
set_option linter.unusedSimpArgs false
set_option linter.unusedVariables false
namespace Go.Proofs.Ytpjlihkpnhamlaa
open Go.RowKit Go.Shelf

def flatP (fs : List (Int × Int)) : List Value := fs.flatMap fun x => [Value.int .i64 x.1, Value.int .i64 x.2]
theorem flatP_len (fs : List (Int × Int)) : (flatP fs).length = fs.length * 2 := by
  induction fs with
  | nil => rfl
  | cons x tl ih => simp only [flatP, List.flatMap_cons, List.length_append, List.length_cons, List.length_nil] at *; omega
theorem flatP_snoc (fs : List (Int × Int)) (x : Int × Int) : flatP (fs ++ [x]) = flatP fs ++ [.int .i64 x.1, .int .i64 x.2] := by simp [flatP]
theorem flatP_one (fs : List (Int × Int)) : ∀ u ∈ flatP fs, u.oneCell' = true := by
  intro u hu
  obtain ⟨x, _, hx⟩ := List.mem_flatMap.1 hu
  simp at hx
  rcases hx with rfl | rfl <;> rfl
theorem pairs_cells {w : World} {a : Option Addr} {fs : List (Int × Int)} (h : PairsAt w a fs) : CellsAt w a (flatP fs) := fun hn => by
  have h0 : 0 < fs.length := by cases fs with | nil => exact absurd rfl hn | cons x tl => simp
  obtain ⟨b, o, e, hlt, _⟩ := h 0 h0
  refine ⟨b, o, e, hlt, fun j u hu => ?_⟩
  have hj : j < (flatP fs).length := by
    rcases Nat.lt_or_ge j (flatP fs).length with q | q
    · exact q
    · rw [List.getElem?_eq_none q] at hu; cases hu
  rw [flatP_len] at hj
  obtain ⟨b', o', e', _, c1, c2⟩ := h (j / 2) (by omega)
  rw [e] at e'
  obtain ⟨rfl, rfl⟩ : b = b' ∧ o = o' := by simpa using e'
  have hf := flat2 fs (j / 2) (by omega)
  by_cases q : j % 2 = 0
  · have ej : j / 2 * 2 = j := by omega
    rw [ej] at hf c1
    have := hf.1.symm.trans hu
    cases this
    exact c1
  · have ej : j / 2 * 2 + 1 = j := by omega
    rw [ej] at hf
    rw [show o + j / 2 * 2 + 1 = o + j by omega] at c2
    have := hf.2.symm.trans hu
    cases this
    exact c2
theorem cells_pairs {w : World} {a : Option Addr} {fs : List (Int × Int)} (h : CellsAt w a (flatP fs)) : PairsAt w a fs := fun i hi => by
  obtain ⟨b, o, e, hlt, hc⟩ := h (fun hn => by have := flatP_len fs; rw [hn] at this; simp at this; omega)
  have hf := flat2 fs i hi
  exact ⟨b, o, e, hlt, hc _ _ hf.1, hc _ _ hf.2⟩
theorem pairs_is {w : World} {a : Option Addr} {fs : List (Int × Int)} (h : PairsAt w a fs) (hl : fs.length ≤ 140737488355327) : IsPairs w a fs := ⟨hl, h⟩

def CopyPost (fs : List (Int × Int)) (w : World) (en : Ending) (w' : World) : Prop :=
  ∃ a cp, en = .returned (.slice a fs.length cp) ∧ fs.length ≤ cp ∧ PairsAt w' a fs ∧ Below w.heap.size w w'
theorem info_fault : (Try.prog.info? 67).map (fun i => (i.zero, i.size, i.bytes)) = some (some (.agg #[.int .i64 0, .int .i64 0]), 2, 16) := by kernel_rfl
theorem info_seen : (Try.prog.info? 53).map (fun i => (i.zero, i.size, i.bytes)) = some (some (.agg #[.int .i64 0, .int .i64 0]), 2, 16) := by kernel_rfl

set_option maxRecDepth 100000 in
set_option maxHeartbeats 1000000 in
theorem faults_any (a : Option Addr) (cp : Nat) (fs : List (Int × Int)) (w : World) (h : PairsAt w a fs) (hl : fs.length ≤ 1000) :
    Calls Try.prog 12 #[.slice a fs.length cp] w (CopyPost fs w) := by
  obtain ⟨i0, hinf, hz0, hz1, hz2⟩ := info_parts info_fault
  have HC := Lib.hid ((pairs_cells h).below (w' := w.alloc (.cells #[] 67)) (by repeat first | exact Below.refl _ _ | assumption | (refine Below.alloc ?_ (by first | omega | (simp; done) | (simp; omega)) _) | (refine Below.setCell ?_ (by first | omega | (simp; done) | (simp; omega)) _) | (refine Below.drew ?_) | (refine belowDrewN ?_) | (refine Below.trans ?_ (Below.mono (by assumption) (by first | omega | (simp; done) | (simp; omega)))))); clear h
  have HR : Hid ((w.alloc (.cells #[] 67)).ownsRow w.heap.size 67 2 (.slice (some ⟨w.heap.size, 0, none⟩) 0 0) 0 []) := Lib.hid ⟨rfl, .inr ⟨w.heap.size, 0, #[], rfl, Nat.le_refl _, Blk.new _ _ _, Nat.le_refl _, by unfold maxLen; omega, rfl, rfl⟩⟩
  go_enter Try.func12, Try.ntmps12
  go_wp2_with (at_builtin; go_must (refine wpList_append_list _ rfl _ _ 26 rfl w.heap.size 67 i0 (.agg #[.int .i64 0, .int .i64 0]) 2 16 Try.underlying26 hinf hz0 hz1 hz2 rfl (by decide) _ 0 [] rfl HR.out a fs.length cp (flatP fs) rfl HC.out (flatP_len fs) (flatP_one fs) (by unfold maxLen; omega) (by omega) (by simp) ?_); intro a2 cp2 w2 hown hle hgr hat)
  go_ret
  simp only [Nat.zero_add, List.nil_append] at hown hle ⊢
  exact ⟨a2, cp2, rfl, hle, cells_pairs (owns_cells hown), ((Keeps.alloc (fun _ => False) w _).mono fun _ _ h => h.elim).trans (Keeps.grown _ hgr) |>.to_below (Nat.le_refl _) (fun b hb => by cases hb; exact Nat.le_refl _)⟩

set_option maxRecDepth 100000 in
set_option maxHeartbeats 1000000 in
theorem seen_any (a : Option Addr) (cp : Nat) (fs : List (Int × Int)) (w : World) (h : PairsAt w a fs) (hl : fs.length ≤ 1000) :
    Calls Try.prog 26 #[.slice a fs.length cp] w (CopyPost fs w) := by
  obtain ⟨i0, hinf, hz0, hz1, hz2⟩ := info_parts info_seen
  have HC := Lib.hid ((pairs_cells h).below (w' := w.alloc (.cells #[] 53)) (by repeat first | exact Below.refl _ _ | assumption | (refine Below.alloc ?_ (by first | omega | (simp; done) | (simp; omega)) _) | (refine Below.setCell ?_ (by first | omega | (simp; done) | (simp; omega)) _) | (refine Below.drew ?_) | (refine belowDrewN ?_) | (refine Below.trans ?_ (Below.mono (by assumption) (by first | omega | (simp; done) | (simp; omega)))))); clear h
  have HR : Hid ((w.alloc (.cells #[] 53)).ownsRow w.heap.size 53 2 (.slice (some ⟨w.heap.size, 0, none⟩) 0 0) 0 []) := Lib.hid ⟨rfl, .inr ⟨w.heap.size, 0, #[], rfl, Nat.le_refl _, Blk.new _ _ _, Nat.le_refl _, by unfold maxLen; omega, rfl, rfl⟩⟩
  go_enter Try.func26, Try.ntmps26
  go_wp2_with (at_builtin; go_must (refine wpList_append_list _ rfl _ _ 50 rfl w.heap.size 53 i0 (.agg #[.int .i64 0, .int .i64 0]) 2 16 Try.underlying50 hinf hz0 hz1 hz2 rfl (by decide) _ 0 [] rfl HR.out a fs.length cp (flatP fs) rfl HC.out (flatP_len fs) (flatP_one fs) (by unfold maxLen; omega) (by omega) (by simp) ?_); intro a2 cp2 w2 hown hle hgr hat)
  go_ret
  simp only [Nat.zero_add, List.nil_append] at hown hle ⊢
  exact ⟨a2, cp2, rfl, hle, cells_pairs (owns_cells hown), ((Keeps.alloc (fun _ => False) w _).mono fun _ _ h => h.elim).trans (Keeps.grown _ hgr) |>.to_below (Nat.le_refl _) (fun b hb => by cases hb; exact Nat.le_refl _)⟩


set_option maxHeartbeats 1000000 in
theorem same_eq (a b : Option Addr) (cp cq : Nat) (fs : List (Int × Int)) (w : World) (ha : PairsAt w a fs) (hb : PairsAt w b fs) (hl : fs.length ≤ 1000) :
    Calls Try.prog 15 #[.slice a fs.length cp, .slice b fs.length cq] w (Ret w (.bool true)) := by
  have HA := Lib.hid ha; have HB := Lib.hid hb; clear ha hb
  go_enter Try.func15, Try.ntmps15
  go_wp2_with fail
  go_loopw [5] (fun i wr => ∃ k : Nat, k ≤ fs.length ∧ i = .int .i64 k ∧ Below w.heap.size w wr) (fun i _ => fs.length - (intOf i).toNat)
  case atStart => exact ⟨0, Nat.zero_le _, rfl, Below.refl _ _⟩
  case round =>
    obtain ⟨k, hk, rfl, hbl⟩ := hrel
    by_cases hlt : k < fs.length
    · obtain ⟨b1, o1, rfl, hb1, c1, c2⟩ := HA.out k hlt
      obtain ⟨b2, o2, rfl, hb2, d1, d2⟩ := HB.out k hlt
      have e1 : wr.cell? ⟨b1, o1 + k * 2, none⟩ = some (.int .i64 fs[k].1) := (hbl.cell (p := ⟨b1, _, none⟩) hb1).trans c1
      have e2 : wr.cell? ⟨b1, o1 + k * 2 + 1, none⟩ = some (.int .i64 fs[k].2) := (hbl.cell (p := ⟨b1, _, none⟩) hb1).trans c2
      have e3 : wr.cell? ⟨b2, o2 + k * 2, none⟩ = some (.int .i64 fs[k].1) := (hbl.cell (p := ⟨b2, _, none⟩) hb2).trans d1
      have e4 : wr.cell? ⟨b2, o2 + k * 2 + 1, none⟩ = some (.int .i64 fs[k].2) := (hbl.cell (p := ⟨b2, _, none⟩) hb2).trans d2
      clear c1 c2 d1 d2
      go_wp2_with fail
      (refine wp_region_quiet_lit (by kernel_rfl) (by kernel_rfl) ?_; (repeat (any_goals (first | go_big_quiet_step (fail) | quiet_step (fail) | (refine wpQuiet_step (fun K hK => ?_); go_simp; split <;> (refine hK _ ?_; clear hK K))))); (all_goals (refine wpQuiet_nil ?_; intro _ hw'; obtain ⟨nq, hw''⟩ := hw'; subst hw'')))
      all_goals go_wp2_with fail
      all_goals exact ⟨⟨k + 1, by omega, by go_num, (by repeat first | exact Below.refl _ _ | assumption | (refine Below.alloc ?_ (by first | omega | (simp; done) | (simp; omega)) _) | (refine Below.setCell ?_ (by first | omega | (simp; done) | (simp; omega)) _) | (refine Below.drew ?_) | (refine belowDrewN ?_) | (refine Below.trans ?_ (Below.mono (by assumption) (by first | omega | (simp; done) | (simp; omega)))))⟩, by simp [intOf]; omega⟩
    · go_wp2_with fail
      go_ret
      exact ret_bool rfl hbl
end Go.Proofs.Ytpjlihkpnhamlaa
end

/- The walks of the laws' list of faults, and of their counts. -/
section
set_option linter.unusedSimpArgs false
set_option linter.unusedVariables false
namespace Go.Proofs.Ytpjlihkpnhamlaa
open Go.RowKit Go.Shelf

theorem take_snoc {α : Type} (xs : List α) (k : Nat) (h : k < xs.length) : xs.take (k + 1) = xs.take k ++ [xs[k]] := by simp
namespace Pu
def cntA (fs : List (Int × Int)) : Int := (fs.countP (fun x => x.2 == 1) : Nat)
def cntB (fs : List (Int × Int)) : Int := (fs.countP (fun x => !(x.2 == 1)) : Nat)
theorem cntA_take {fs : List (Int × Int)} {k : Nat} (h : k < fs.length) : cntA (fs.take (k + 1)) = cntA (fs.take k) + (if fs[k].2 = 1 then 1 else 0) := by
  rw [take_snoc fs k h]; simp only [cntA, List.countP_append, List.countP_singleton]; split <;> rename_i q <;> simp_all
theorem cntB_take {fs : List (Int × Int)} {k : Nat} (h : k < fs.length) : cntB (fs.take (k + 1)) = cntB (fs.take k) + (if fs[k].2 = 1 then 0 else 1) := by
  rw [take_snoc fs k h]; simp only [cntB, List.countP_append, List.countP_singleton]; split <;> rename_i q <;> simp_all
theorem cntA_le (fs : List (Int × Int)) (k : Nat) : 0 ≤ cntA (fs.take k) ∧ cntA (fs.take k) ≤ fs.length := by
  have := List.countP_le_length (p := fun x : Int × Int => x.2 == 1) (l := fs.take k)
  have := List.length_take_le k fs
  unfold cntA; simp at *; omega
theorem cntB_le (fs : List (Int × Int)) (k : Nat) : 0 ≤ cntB (fs.take k) ∧ cntB (fs.take k) ≤ fs.length := by
  have := List.countP_le_length (p := fun x : Int × Int => !(x.2 == 1)) (l := fs.take k)
  have := List.length_take_le k fs
  unfold cntB; simp at *; omega
/-- faults by numbers -/
def lst (l : Ln) (U : Int) : List Int → Nat → Int → List (Int × Int)
  | [], _, _ => []
  | z :: zs, n, t => if n < 20 then
      if t + (1 + z / 4 % 8) ≤ U then
        if l.r ≠ 0 ∧ (t + (1 + z / 4 % 8)) % l.e = 0 then lst l U zs n (t + (1 + z / 4 % 8))
        else (t + (1 + z / 4 % 8), 1 + z % 2) :: lst l U zs (n + 1) (t + (1 + z / 4 % 8))
      else []
    else []
end Pu

set_option maxHeartbeats 1000000 in
theorem counts_any (a : Option Addr) (cp : Nat) (fs : List (Int × Int)) (w : World) (h : PairsAt w a fs) (hl : fs.length ≤ 1000) :
    Calls Try.prog 31 #[.slice a fs.length cp] w (Ret w (.tuple #[.int .i64 (Pu.cntA fs), .int .i64 (Pu.cntB fs)])) := by
  have HP := Lib.hid h; clear h
  go_enter Try.func31, Try.ntmps31
  go_wp2_with fail
  go_loopw [4, 5, 6] (fun x y i wr => ∃ k : Nat, k ≤ fs.length ∧ i = .int .i64 k ∧ x = .int .i64 (Pu.cntA (fs.take k)) ∧ y = .int .i64 (Pu.cntB (fs.take k)) ∧ Below w.heap.size w wr) (fun _ _ i _ => fs.length - (intOf i).toNat)
  case atStart => exact ⟨0, by omega, rfl, by simp [Pu.cntA], by simp [Pu.cntB], Below.refl _ w⟩
  case round =>
    obtain ⟨k, hk, rfl, rfl, rfl, hb⟩ := hrel
    have hA := Pu.cntA_le fs k; have hB := Pu.cntB_le fs k
    rcases Nat.lt_or_ge k fs.length with hlt | hge
    · obtain ⟨b, o, rfl, q2, q3, q4⟩ := HP.out.below hb k hlt
      have tA := Lib.hid (Pu.cntA_take hlt); have tB := Lib.hid (Pu.cntB_take hlt)
      obtain ⟨z, hz⟩ : ∃ z, fs[k].2 = z := ⟨_, rfl⟩
      rw [hz] at q4 tA tB
      clear hz
      rcases Decidable.em (z = 1) with rfl | h1
      · go_wp2
        exact ⟨⟨k + 1, by omega, by go_num, by rw [tA.out]; rfl, by rw [tB.out]; simp, hb⟩, by simp [intOf]; omega⟩
      · go_wp2
        exact ⟨⟨k + 1, by omega, by go_num, by rw [tA.out, if_neg h1]; simp, by rw [tB.out, if_neg h1], hb⟩, by simp [intOf]; omega⟩
    · have : fs.take k = fs := List.take_of_length_le hge
      rw [this]
      clear hA hB
      go_wp2
      go_ret2
      exact ret_any rfl hb
/-- a slice of bytes, and the bytes -/
def BytesAt (w : World) (a : Option Addr) (zs : List Int) : Prop := ∀ i (_ : i < zs.length), ∃ b o, a = some ⟨b, o, none⟩ ∧ b < w.heap.size ∧ w.cell? ⟨b, o + i, none⟩ = some (.int .u8 zs[i])
theorem BytesAt.below {w w' : World} {a : Option Addr} {zs : List Int} (h : BytesAt w a zs) (hb : Below w.heap.size w w') : BytesAt w' a zs := fun i hi => by
  obtain ⟨b, o, h1, h2, h3⟩ := h i hi
  exact ⟨b, o, h1, Nat.lt_of_lt_of_le h2 hb.size, (hb.cell (p := ⟨b, _, none⟩) h2).trans h3⟩
theorem cells_new2 (W : World) (x y : Value) (t : TypeId) : CellsAt (W.alloc (.cells #[x, y] t)) (some ⟨W.heap.size, 0, none⟩) [x, y] := fun _ => by
  have B : Blk (W.alloc (.cells #[x, y] t)) W.heap.size #[x, y] t := Blk.new _ _ _
  refine ⟨W.heap.size, 0, rfl, by simp, fun j u hu => ?_⟩
  rw [Nat.zero_add]
  exact B.cell j (by simpa using hu)

/-- between two rounds of 'list' -/
def ListRel (r e c U : Int) (zs : List Int) (L : List (Int × Int)) (f : Int) (w : World) (x t i : Value) (wr : World) : Prop :=
  ∃ (k : Nat) (acc : List (Int × Int)) (at' : Int) (a' : Option Addr) (cp' : Nat), k ≤ zs.length ∧ i = .int .i64 k ∧ t = .int .i64 at' ∧ x = .slice a' acc.length cp' ∧ acc.length ≤ 20 ∧ acc.length ≤ cp' ∧ f ≤ at' ∧ at' ≤ U ∧ L = acc ++ Pu.lst ⟨r, e, c⟩ U (zs.drop k) acc.length at' ∧
    wr.ownsRow (w.heap.size + 1) 67 2 (.slice a' acc.length cp') acc.length (flatP acc) ∧ Below w.heap.size w wr ∧ Blk wr w.heap.size #[.int .i64 r, .int .i64 e, .int .i64 c] 24

set_option maxRecDepth 100000 in
set_option maxHeartbeats 2000000 in
theorem list_any (r e c f U : Int) (a : Option Addr) (cp : Nat) (zs : List Int) (w : World) (hl : (Pu.Ln.mk r e c).ok) (f0 : 0 ≤ f) (fU : f ≤ U) (hU : U ≤ 1000000) (h : BytesAt w a zs) (hz : ∀ z ∈ zs, 0 ≤ z ∧ z ≤ 255) (hlen : zs.length ≤ maxLen) :
    Calls Try.prog 30 #[.agg #[.int .i64 r, .int .i64 e, .int .i64 c], .int .i64 f, .int .i64 U, .slice a zs.length cp] w (CopyPost (Pu.lst ⟨r, e, c⟩ U zs 0 f) w) := by
  unfold maxLen at hlen
  obtain ⟨i0, hinf, hz0, hz1, hz2⟩ := info_parts info_fault
  obtain ⟨L, hL⟩ : ∃ L, Pu.lst ⟨r, e, c⟩ U zs 0 f = L := ⟨_, rfl⟩
  rw [hL]
  have HL := Lib.hid hL; clear hL
  have HB := Lib.hid h; clear h
  have HZ := Lib.hid hz; clear hz
  have hre : r = 0 ∨ (r ≠ 0 ∧ 2 ≤ e) := by unfold Pu.Ln.ok at hl; dsimp only at hl; omega
  have hE := Pu.ok_e hl
  dsimp only at hE
  clear hl
  go_enter Try.func30, Try.ntmps30
  go_wp2_with fail
  refine wp_name ?_
  intro W hW
  have ZW : Below w.heap.size w W := by rw [hW]; exact (by repeat first | exact Below.refl _ _ | assumption | (refine Below.alloc ?_ (by first | omega | (simp; done) | (simp; omega)) _) | (refine Below.setCell ?_ (by first | omega | (simp; done) | (simp; omega)) _) | (refine Below.drew ?_) | (refine belowDrewN ?_) | (refine Below.trans ?_ (Below.mono (by assumption) (by first | omega | (simp; done) | (simp; omega)))))
  have BL : Blk W w.heap.size #[.int .i64 r, .int .i64 e, .int .i64 c] 24 := by rw [hW]; exact (by repeat first | exact blk_at (by first | rfl | omega | (simp; done) | (simp; omega)) | assumption | refine Blk.alloc ?_ _ | refine Blk.drew ?_ | refine Blk.drewN ?_ _ | (refine Blk.other ?_ _ (by first | omega | (simp; done) | (simp; omega))) | (refine Blk.below ?_ (by assumption)))
  have HO : W.ownsRow (w.heap.size + 1) 67 2 (.slice (some ⟨w.heap.size + 1, 0, none⟩) 0 0) 0 (flatP []) := by
    rw [hW]
    exact ⟨rfl, .inr ⟨w.heap.size + 1, 0, #[], rfl, Nat.le_refl _, (by repeat first | exact blk_at (by first | rfl | omega | (simp; done) | (simp; omega)) | assumption | refine Blk.alloc ?_ _ | refine Blk.drew ?_ | refine Blk.drewN ?_ _ | (refine Blk.other ?_ _ (by first | omega | (simp; done) | (simp; omega))) | (refine Blk.below ?_ (by assumption))), Nat.le_refl _, by unfold maxLen; omega, rfl, rfl⟩⟩
  clear hW
  go_loopw [9, 10, 11] (fun x t i wr => ListRel r e c U zs L f w x t i wr) (fun _ _ i _ => zs.length - (intOf i).toNat)
  case atStart => exact ⟨0, [], f, _, 0, by omega, rfl, rfl, rfl, by simp, by simp, by omega, fU, by rw [← HL.out]; rfl, HO, ZW, BL⟩
  case round =>
    obtain ⟨k, acc, at', a', cp', hk, rfl, rfl, rfl, h20, hcp, hat0, hat1, hLL, hown, hb, bL⟩ := hrel
    clear BL HO ZW HL
    have HLL := Lib.hid hLL; have HOWN := Lib.hid hown
    clear hLL hown
    have hfin : CopyPost L w = CopyPost L w := rfl
    by_cases hin : k < zs.length ∧ acc.length < 20
    · obtain ⟨hlt, hacc⟩ := hin
      obtain ⟨b, o, rfl, q2, q3⟩ := HB.out.below hb k hlt
      obtain ⟨z0, z1⟩ := HZ.out zs[k] (List.getElem_mem _)
      have hdr : zs.drop k = zs[k] :: zs.drop (k + 1) := List.drop_eq_getElem_cons hlt
      have hstep := HLL.out
      rw [hdr, Pu.lst, if_pos hacc] at hstep
      obtain ⟨z, hzz⟩ : ∃ z, zs[k] = z := ⟨_, rfl⟩
      rw [hzz] at q3 z0 z1 hstep
      clear hzz hdr HLL
      have d1 : z.tdiv 4 = z / 4 := Int.tdiv_eq_ediv_of_nonneg z0
      have d2 : (z / 4).tmod 8 = z / 4 % 8 := Int.tmod_eq_emod_of_nonneg (by omega)
      have d3 : z.tmod 2 = z % 2 := Int.tmod_eq_emod_of_nonneg z0
      obtain ⟨D, hD⟩ : ∃ D, z / 4 % 8 = D := ⟨_, rfl⟩
      have hD0 : 0 ≤ D ∧ D < 8 := by omega
      rw [hD] at d2 hstep
      obtain ⟨Q, hQ⟩ : ∃ Q, z % 2 = Q := ⟨_, rfl⟩
      have hQ0 : 0 ≤ Q ∧ Q < 2 := by omega
      rw [hQ] at d3 hstep
      clear hQ
      have hD2 := Lib.hid hD
      have HS := Lib.hid hstep
      clear hD hstep
      have l0 := bL.cell 0 rfl; have l1 := bL.cell 1 rfl
      have lt1 : w.heap.size < wr.heap.size := bL.lt
      by_cases hle : at' + (1 + D) ≤ U
      case neg =>
        have hs := HS.out
        rw [if_neg hle, List.append_nil] at hs
        subst hs
        go_wp2
        go_ret
        exact ⟨_, cp', rfl, hcp, cells_pairs (owns_cells HOWN.out), hb⟩
      case pos =>
        have hs := HS.out
        rw [if_pos hle] at hs
        clear HS
        have key : (r ≠ 0 ∧ (at' + (1 + D)) % e = 0) ∨ (¬ (r ≠ 0 ∧ (at' + (1 + D)) % e = 0) ∧ (r = 0 ∨ (r ≠ 0 ∧ (at' + (1 + D)) % e ≠ 0))) := by
          by_cases q : r = 0
          · exact .inr ⟨fun h => h.1 q, .inl q⟩
          · by_cases q2 : (at' + (1 + D)) % e = 0
            · exact .inl ⟨q, q2⟩
            · exact .inr ⟨fun h => q2 h.2, .inr ⟨q, q2⟩⟩
        have hlz : wr.heap.size + 1 < 2 ^ 200 ∨ True := .inr trivial
        rcases key with hsk | ⟨hns, hwhy⟩
        · rw [if_pos hsk] at hs
          have HS := Lib.hid hs
          clear hs
          obtain ⟨r0, m0⟩ := hsk
          have hrb : (r != 0) = true := by simp [r0]
          have he2 : 2 ≤ e := by omega
          have he0 : e ≠ 0 := by omega
          have d4 : (at' + (1 + D)).tmod e = (at' + (1 + D)) % e := Int.tmod_eq_emod_of_nonneg (by omega)
          clear hlz hfin
          go_wp2
          exact ⟨⟨k + 1, acc, at' + (1 + D), _, cp', by omega, by go_num, by go_num, rfl, h20, hcp, by omega, hle, HS.out, HOWN.out, hb, bL⟩, by simp [intOf]; omega⟩
        · rw [if_neg hns] at hs
          have HS := Lib.hid hs
          clear hs hns hlz hfin
          rcases hwhy with r0 | ⟨r0, m0⟩
          case' inl => have hrb : (r != 0) = false := by simp [r0]
          case' inr =>
            have hrb : (r != 0) = true := by simp [r0]
            have he2 : 2 ≤ e := by omega
            have he0 : e ≠ 0 := by omega
            have d4 : (at' + (1 + D)).tmod e = (at' + (1 + D)) % e := Int.tmod_eq_emod_of_nonneg (by omega)
            have m1 : ((at' + (1 + D)) % e == 0) = false := by simp [m0]
          all_goals (
            clear r0 hre
            go_wp2_with (at_builtin; go_must (refine wpList_append_list _ rfl _ _ 26 rfl (w.heap.size + 1) 67 i0 (.agg #[.int .i64 0, .int .i64 0]) 2 16 Try.underlying26 hinf hz0 hz1 hz2 rfl (by decide) _ acc.length (flatP acc) rfl (owns_below HOWN.out ((Below.refl _ _).alloc (Nat.le_refl _) _)) (some ⟨wr.heap.size, 0, none⟩) 1 1 [.int .i64 (at' + (1 + D)), .int .i64 (1 + Q)] rfl (cells_new2 _ _ _ _) rfl (by simp [Value.oneCell']) (by unfold maxLen; omega) (by omega) (by simp; omega) ?_); intro a2 cp2 w2 hown2 hle2 hgr2 hat2)
            have hgr : Keeps (fun b => w.heap.size + 1 ≤ b) wr w2 := (Keeps.alloc _ _ _).trans ((Keeps.grown _ hgr2).mono fun b _ h => (HOWN.out.lt b h.symm).1)
            have hb2 : Below w.heap.size w w2 := hb.trans (hgr.to_below hb.size (fun b h => by omega))
            have bL2 := hgr.blk bL (by omega)
            have hl2 : (acc ++ [(at' + (1 + D), 1 + Q)]).length = acc.length + 1 := by simp
            refine ⟨⟨k + 1, acc ++ [(at' + (1 + D), 1 + Q)], at' + (1 + D), a2, cp2, by omega, by go_num, by go_num, by rw [hl2], by rw [hl2]; omega, by rw [hl2]; exact hle2, by omega, hle, ?_, ?_, hb2, bL2⟩, by simp [intOf]; omega⟩
            · rw [hl2, HS.out]; simp
            · rw [hl2, flatP_snoc]; exact hown2)
    · have hs : L = acc := by
        have := HLL.out
        rcases Nat.lt_or_ge k zs.length with q | q
        · rw [List.drop_eq_getElem_cons q, Pu.lst, if_neg (by omega), List.append_nil] at this
          exact this
        · rw [List.drop_eq_nil_of_le q, Pu.lst, List.append_nil] at this
          exact this
      subst hs
      clear HLL
      rcases Nat.lt_or_ge k zs.length with q | q
      · have q2 : ¬ L.length < 20 := by omega
        clear hin
        go_wp2
        go_ret
        exact ⟨_, cp', rfl, hcp, cells_pairs (owns_cells HOWN.out), hb⟩
      · have q2 : ¬ k < zs.length := by omega
        clear hin
        go_wp2
        go_ret
        exact ⟨_, cp', rfl, hcp, cells_pairs (owns_cells HOWN.out), hb⟩
end Go.Proofs.Ytpjlihkpnhamlaa
end

/- The dial that is followed with the faults to come is the reference's dial: plain. -/
section
set_option linter.unusedSimpArgs false
set_option linter.unusedVariables false
namespace Go.Proofs.Ytpjlihkpnhamlaa
namespace Pu
theorem chk_sorted {l : Ln} {U : Int} : ∀ {fs : List (Int × Int)} {f : Int}, chkFs l U f fs = true → fs.Pairwise (fun x y => x.1 < y.1) ∧ ∀ x ∈ fs, f < x.1 ∧ x.1 ≤ U ∧ isLong l x.1 = false
  | [], _, _ => ⟨List.Pairwise.nil, fun x hx => (by cases hx)⟩
  | y :: tl, f, h => by
    rw [chkFs] at h
    simp only [Bool.and_eq_true, Bool.or_eq_true, decide_eq_true_eq, Bool.not_eq_true'] at h
    obtain ⟨h1, h2⟩ := chk_sorted h.2
    refine ⟨List.pairwise_cons.2 ⟨fun x hx => (h2 x hx).1, h1⟩, fun x hx => ?_⟩
    rcases List.mem_cons.1 hx with rfl | hx
    · exact ⟨by omega, by omega, h.1.2⟩
    · have := h2 x hx
      exact ⟨by omega, this.2.1, this.2.2⟩
theorem find_pre {t : Int} : ∀ {pre tl : List (Int × Int)}, (∀ x ∈ pre, x.1 ≠ t) → (pre ++ tl).find? (fun x => x.1 == t) = tl.find? (fun x => x.1 == t)
  | [], tl, _ => rfl
  | y :: p, tl, h => by
    have hy : (y.1 == t) = false := by simpa using h y (by simp)
    rw [List.cons_append, List.find?_cons, hy]
    exact find_pre (fun x hx => h x (by simp [hx]))
theorem find_gt {t : Int} {tl : List (Int × Int)} (h : ∀ x ∈ tl, t < x.1) : tl.find? (fun x => x.1 == t) = none := by
  rw [List.find?_eq_none]
  intro x hx
  have := h x hx
  simp; omega
theorem fol_eq {l : Ln} {f : Int} {fs : List (Int × Int)} {d : Dl} (hs : fs.Pairwise (fun x y => x.1 < y.1)) (hf : ∀ x ∈ fs, f < x.1) : ∀ n : Nat,
    (∃ pre, fs = pre ++ (folN l f fs d n).2 ∧ ∀ x ∈ pre, x.1 ≤ f + n) ∧ (∀ x ∈ (folN l f fs d n).2, f + n < x.1) ∧ (folN l f fs d n).2.Pairwise (fun x y => x.1 < y.1) ∧ (folN l f fs d n).1 = runN l f fs d n
  | 0 => ⟨⟨[], rfl, fun x hx => (by cases hx)⟩, fun x hx => (by have := hf x hx; omega), hs, rfl⟩
  | n + 1 => by
    obtain ⟨⟨pre, h1, h2⟩, h3, h4, h5⟩ := fol_eq (l := l) (d := d) hs hf n
    have hpre : ∀ x ∈ pre, x.1 ≠ f + n + 1 := fun x hx => by have := h2 x hx; omega
    have hm : headMoves (folN l f fs d n).2 (f + n + 1) = movesAt fs (f + n + 1) := by
      have e : fs.find? (fun x => x.1 == f + n + 1) = (folN l f fs d n).2.find? (fun x => x.1 == f + n + 1) := by
        conv => lhs; rw [h1]
        exact find_pre hpre
      unfold movesAt
      rw [e]
      generalize (folN l f fs d n).2 = q at h3 h4
      cases q with
      | nil => rfl
      | cons y tl =>
        obtain ⟨h6, h7⟩ := List.pairwise_cons.1 h4
        unfold headMoves
        by_cases hy : y.1 = f + n + 1
        · simp [hy]
        · have : (y :: tl).find? (fun x => x.1 == f + n + 1) = none := find_gt (fun x hx => by
            have h8 := h3 y (by simp)
            rcases List.mem_cons.1 hx with rfl | hx
            · omega
            · have := h6 x hx; omega)
          rw [this]
          simp [hy]
    simp only [folN, runN]
    rw [hm, h5]
    refine ⟨?_, ?_, ?_, rfl⟩
    · generalize (folN l f fs d n).2 = q at h1 h3 h4
      cases q with
      | nil => exact ⟨pre, by simpa [rest] using h1, fun x hx => by have := h2 x hx; omega⟩
      | cons y tl =>
        by_cases hy : y.1 = f + n + 1
        · refine ⟨pre ++ [y], by simp [rest, hy, h1], fun x hx => ?_⟩
          rcases List.mem_append.1 hx with hx | hx
          · have := h2 x hx; omega
          · simp at hx; subst hx; omega
        · exact ⟨pre, by simpa [rest, hy] using h1, fun x hx => by have := h2 x hx; omega⟩
    · intro x hx
      generalize (folN l f fs d n).2 = q at h3 h4 hx
      cases q with
      | nil => cases hx
      | cons y tl =>
        obtain ⟨h6, h7⟩ := List.pairwise_cons.1 h4
        have h8 := h3 y (by simp)
        by_cases hy : y.1 = f + n + 1
        · simp only [rest, hy, if_true] at hx
          have := h6 x hx; omega
        · simp only [rest, hy, if_false] at hx
          rcases List.mem_cons.1 hx with rfl | hx
          · omega
          · have := h6 x hx; omega
    · generalize (folN l f fs d n).2 = q at h4
      cases q with
      | nil => exact List.Pairwise.nil
      | cons y tl =>
        by_cases hy : y.1 = f + n + 1
        · simp only [rest, hy, if_true]; exact (List.pairwise_cons.1 h4).2
        · simp only [rest, hy, if_false]; exact h4
theorem fol_run {l : Ln} {U f : Int} {fs : List (Int × Int)} {d : Dl} (h : chkFs l U f fs = true) (n : Nat) : (folN l f fs d n).1 = runN l f fs d n :=
  (fol_eq (chk_sorted h).1 (fun x hx => ((chk_sorted h).2 x hx).1) n).2.2.2
end Pu
end Go.Proofs.Ytpjlihkpnhamlaa
end

/- The walk of the reference's Corrects: all lists of faults are tried. -/
section
set_option linter.unusedSimpArgs false
set_option linter.unusedVariables false
namespace Go.Proofs.Ytpjlihkpnhamlaa
open Go.RowKit Go.Shelf

namespace Pu
/-- a dial behind j impulses, from the minute of the first correction on -/
def runP (l : Ln) (d : Dl) : Nat → Dl
  | 0 => d
  | j + 1 => imp l (l.e + j) 1 (runP l d j)
/-- it is right at each of these minutes, from the second correction on -/
def okT (l : Ln) (d : Dl) : Nat → Bool
  | 0 => true
  | j + 1 => okT l d j && (decide (l.e + j < 2 * l.e) || (runP l d (j + 1)).s == (l.e + j) % 720)
theorem okT_mono {l : Ln} {d : Dl} {j : Nat} (h : okT l d j = false) : ∀ m : Nat, okT l d (j + m) = false
  | 0 => h
  | m + 1 => by rw [← Nat.add_assoc, okT, okT_mono h m]; rfl
theorem okT_le {l : Ln} {d : Dl} {j n : Nat} (h : okT l d j = false) (hj : j ≤ n) : okT l d n = false := by
  have := okT_mono h (n - j)
  rwa [show j + (n - j) = n by omega] at this
def corN (l : Ln) : Nat → Dl → Int → Int → Bool
  | 0, d, _, _ => okT l d (4 * l.e + 1).toNat
  | n + 1, d, a, b => corN l n (imp l (l.e - (n + 1)) 1 d) a b && (a == 0 || corN l n (imp l (l.e - (n + 1)) 0 d) (a - 1) b) && (b == 0 || corN l n (imp l (l.e - (n + 1)) 2 d) a (b - 1))
theorem runP_ok {l : Ln} {d : Dl} {B : Int} (h : d.ok B) (hB : 0 ≤ B) : ∀ j : Nat, (runP l d j).ok (B + j)
  | 0 => by simpa [runP] using h
  | j + 1 => by
    have := imp_ok (l := l) (t := l.e + j) (m := 1) (runP_ok (l := l) h hB j) (by omega)
    simp only [runP]
    unfold Dl.ok at *
    omega
end Pu

/-- between two rounds -/
def CorRel (r e c : Int) (d : Pu.Dl) (w : World) (i : Value) (wr : World) : Prop :=
  ∃ (j : Nat), (j : Int) ≤ 4 * e + 1 ∧ i = .int .i64 (e + j) ∧ Pu.okT ⟨r, e, c⟩ d j = true ∧ Below w.heap.size w wr ∧ Blk wr (w.heap.size + 1) #[.int .i64 (Pu.runP ⟨r, e, c⟩ d j).s, .int .i64 (Pu.runP ⟨r, e, c⟩ d j).k] 37 ∧
    Blk wr w.heap.size #[.int .i64 r, .int .i64 e, .int .i64 c] 24

set_option maxHeartbeats 2000000 in
theorem refCorT_any (r e c s k a b B : Int) (w : World) (h : (Pu.Ln.mk r e c).ok) (he : 1 ≤ e) (he2 : e ≤ 360) (hd : Pu.Dl.ok B ⟨s, k⟩) (hB : 0 ≤ B) (hB2 : B ≤ 1000000) :
    Calls Try.prog 24 #[.agg #[.int .i64 r, .int .i64 e, .int .i64 c], .agg #[.int .i64 s, .int .i64 k], .int .i64 e, .int .i64 a, .int .i64 b] w (Ret w (.bool (Pu.okT ⟨r, e, c⟩ ⟨s, k⟩ (4 * e + 1).toNat))) := by
  have HI := Lib.hid (fun W s k t (hd : Pu.Dl.ok 500000000 ⟨s, k⟩) (ht : 0 ≤ t) => (refImpulse_any r e c s k t 1 W h ht (by omega) hd.1 hd.2.1 hd.2.2.1 hd.2.2.2 : Calls Try.prog 43 #[.agg #[.int .i64 s, .int .i64 k], .agg #[.int .i64 r, .int .i64 e, .int .i64 c], .int .i64 t, .int .i64 1] W (Ret W (.agg #[.int .i64 (Pu.imp ⟨r, e, c⟩ t 1 ⟨s, k⟩).s, .int .i64 (Pu.imp ⟨r, e, c⟩ t 1 ⟨s, k⟩).k]))))
  have HO := Lib.hid (Pu.runP_ok (l := ⟨r, e, c⟩) hd hB)
  obtain ⟨v, hv⟩ : ∃ v, Pu.okT ⟨r, e, c⟩ ⟨s, k⟩ (4 * e + 1).toNat = v := ⟨_, rfl⟩
  rw [hv]
  have HV := Lib.hid hv
  clear h hd hv
  go_enter Try.func24, Try.ntmps24
  go_wp2_with fail
  refine wp_name ?_
  intro W hW
  have ZW : Below w.heap.size w W := by rw [hW]; exact (by repeat first | exact Below.refl _ _ | assumption | (refine Below.alloc ?_ (by first | omega | (simp; done) | (simp; omega)) _) | (refine Below.setCell ?_ (by first | omega | (simp; done) | (simp; omega)) _) | (refine Below.drew ?_) | (refine belowDrewN ?_) | (refine Below.trans ?_ (Below.mono (by assumption) (by first | omega | (simp; done) | (simp; omega)))))
  have BL : Blk W w.heap.size #[.int .i64 r, .int .i64 e, .int .i64 c] 24 := by rw [hW]; exact (by repeat first | exact blk_at (by first | rfl | omega | (simp; done) | (simp; omega)) | assumption | refine Blk.alloc ?_ _ | refine Blk.drew ?_ | refine Blk.drewN ?_ _ | (refine Blk.other ?_ _ (by first | omega | (simp; done) | (simp; omega))) | (refine Blk.below ?_ (by assumption)))
  have BD : Blk W (w.heap.size + 1) #[.int .i64 s, .int .i64 k] 37 := by rw [hW]; exact (by repeat first | exact blk_at (by first | rfl | omega | (simp; done) | (simp; omega)) | assumption | refine Blk.alloc ?_ _ | refine Blk.drew ?_ | refine Blk.drewN ?_ _ | (refine Blk.other ?_ _ (by first | omega | (simp; done) | (simp; omega))) | (refine Blk.below ?_ (by assumption)))
  clear hW
  go_loopw [11] (fun i wr => CorRel r e c ⟨s, k⟩ w i wr) (fun i _ => (5 * e + 1 - intOf i).toNat)
  case atStart => exact ⟨0, by omega, by go_num, rfl, ZW, BD, BL⟩
  case round =>
    obtain ⟨j, hj, rfl, hok, hb, bD, bL⟩ := hrel
    clear ZW BL BD
    have hsz := hb.size
    have ho := HO.out j
    by_cases hin : e + j ≤ 5 * e
    · obtain ⟨R, hR⟩ : ∃ R, Pu.runP ⟨r, e, c⟩ ⟨s, k⟩ j = R := ⟨_, rfl⟩
      rw [hR] at ho bD
      obtain ⟨s1, k1⟩ := R
      obtain ⟨D', hD'⟩ : ∃ D', Pu.imp ⟨r, e, c⟩ (e + j) 1 ⟨s1, k1⟩ = D' := ⟨_, rfl⟩
      have hDm : Pu.runP ⟨r, e, c⟩ ⟨s, k⟩ (j + 1) = D' := by rw [Pu.runP, hR]; exact hD'
      have hOK : Pu.okT ⟨r, e, c⟩ ⟨s, k⟩ (j + 1) = (decide (e + j < 2 * e) || D'.s == (e + j) % 720) := by rw [Pu.okT, hok, hDm]; simp
      have HI2 := Lib.hid (fun W => (hD' ▸ HI.out W s1 k1 (e + j) ⟨ho.1, ho.2.1, ho.2.2.1, by have := ho.2.2.2; dsimp only at this ⊢; omega⟩ (by omega) : Calls Try.prog 43 #[.agg #[.int .i64 s1, .int .i64 k1], .agg #[.int .i64 r, .int .i64 e, .int .i64 c], .int .i64 (e + j), .int .i64 1] W (Ret W (.agg #[.int .i64 (D').s, .int .i64 (D').k]))))
      obtain ⟨s', k'⟩ := D'
      clear ho hR hD'
      have HOK := Lib.hid hOK; have HDM := Lib.hid hDm
      clear hOK hDm hok
      have c0 := bD.cell 0 rfl; have c1 := bD.cell 1 rfl
      have l0 := bL.cell 0 rfl; have l1 := bL.cell 1 rfl; have l2 := bL.cell 2 rfl
      have y1 := bL.lt; have y2 := bD.lt
      have ht0 : (e + j).tmod 720 = (e + j) % 720 := Int.tmod_eq_emod_of_nonneg (by omega)
      go_wp2_with fail
      refine calls_name ?_
      intro W hW
      obtain rfl : W = wr := hW
      refine (HI2.out W).mono ?_
      rintro en w1 ⟨rfl, hb1⟩
      have bD' := bD.below hb1; have bL' := bL.below hb1
      have g0 := bD'.free
      have hbb : Below w.heap.size w w1 := hb.trans (hb1.mono hb.size)
      have hz1 := hb1.size
      have y1' := bL'.lt; have y2' := bD'.lt
      have l0 := bL'.cell 0 rfl; have l1 := bL'.cell 1 rfl; have l2 := bL'.cell 2 rfl
      have c0 := bD'.cell 0 rfl; have c1 := bD'.cell 1 rfl
      clear hb1 hb bD bL
      rcases Int.lt_or_le (e + j) (2 * e) with hge | hge
      case' inl =>
        have hok' : Pu.okT ⟨r, e, c⟩ ⟨s, k⟩ (j + 1) = true := by rw [HOK.out]; simp [hge]
        have hOK' := Lib.hid hok'
        clear hok'
        go_wp2
      case' inr =>
        rcases Decidable.em (s' = (e + j) % 720) with rfl | hc
        case' inr =>
          have hf : Pu.okT ⟨r, e, c⟩ ⟨s, k⟩ (j + 1) = false := by rw [HOK.out]; simp [hc]; omega
          have hv0 : v = false := by rw [← HV.out]; exact Pu.okT_le hf (by omega)
          subst hv0
          clear hf
          go_wp2
          go_ret
          exact ret_bool rfl (by repeat first | exact Below.refl _ _ | assumption | (refine Below.alloc ?_ (by first | omega | (simp; done) | (simp; omega)) _) | (refine Below.setCell ?_ (by first | omega | (simp; done) | (simp; omega)) _) | (refine Below.drew ?_) | (refine belowDrewN ?_) | (refine Below.trans ?_ (Below.mono (by assumption) (by first | omega | (simp; done) | (simp; omega)))))
        case' inl =>
          have hok' : Pu.okT ⟨r, e, c⟩ ⟨s, k⟩ (j + 1) = true := by rw [HOK.out]; simp
          have hOK' := Lib.hid hok'
          clear hok'
          go_wp2
      all_goals (
        refine ⟨⟨j + 1, by omega, by go_num, hOK'.out, (by repeat first | exact Below.refl _ _ | assumption | (refine Below.alloc ?_ (by first | omega | (simp; done) | (simp; omega)) _) | (refine Below.setCell ?_ (by first | omega | (simp; done) | (simp; omega)) _) | (refine Below.drew ?_) | (refine belowDrewN ?_) | (refine Below.trans ?_ (Below.mono (by assumption) (by first | omega | (simp; done) | (simp; omega))))), ?_, ?_⟩, by simp [intOf]; omega⟩
        · rw [HDM.out]; exact (bD'.set 0 _).set 1 _
        · exact (bL'.other _ (by first | omega | (simp; done) | (simp; omega))).other _ (by first | omega | (simp; done) | (simp; omega)))
    · have hj2 : (4 * e + 1).toNat = j := by omega
      have hv0 : v = true := by rw [← HV.out, hj2]; exact hok
      subst hv0
      have l1 := bL.cell 1 rfl
      clear hj2
      go_wp2
      go_ret
      exact ret_bool rfl hb
set_option maxHeartbeats 4000000 in
theorem refCorrects_any (r e c : Int) (h : (Pu.Ln.mk r e c).ok) (he : 1 ≤ e) (he2 : e ≤ 360) : ∀ (n : Nat) (s k a b B M : Int) (w : World), (n : Int) ≤ e → M = e - n → Pu.Dl.ok B ⟨s, k⟩ → 0 ≤ B → B + 2 * n ≤ 1000000 → 0 ≤ a → a ≤ 20 → 0 ≤ b → b ≤ 20 →
    Calls Try.prog 24 #[.agg #[.int .i64 r, .int .i64 e, .int .i64 c], .agg #[.int .i64 s, .int .i64 k], .int .i64 M, .int .i64 a, .int .i64 b] w (Ret w (.bool (Pu.corN ⟨r, e, c⟩ n ⟨s, k⟩ a b))) := by
  intro n
  induction n with
  | zero =>
    intro s k a b B M w hn hM hd hB hB2 ha ha2 hb hb2
    obtain rfl : M = e := by omega
    exact refCorT_any r M c s k a b B w h he he2 hd hB (by omega)
  | succ n ih =>
    intro s k a b B M w hn hM hd hB hB2 ha ha2 hb hb2
    simp only [Int.natCast_add, Int.natCast_one] at hn hM hB2
    obtain ⟨D0, hD0⟩ : ∃ D, Pu.imp ⟨r, e, c⟩ M 0 ⟨s, k⟩ = D := ⟨_, rfl⟩
    obtain ⟨D1, hD1⟩ : ∃ D, Pu.imp ⟨r, e, c⟩ M 1 ⟨s, k⟩ = D := ⟨_, rfl⟩
    obtain ⟨D2, hD2⟩ : ∃ D, Pu.imp ⟨r, e, c⟩ M 2 ⟨s, k⟩ = D := ⟨_, rfl⟩
    have o0 := Pu.imp_ok (l := ⟨r, e, c⟩) (t := M) (m := 0) hd hB
    have o1 := Pu.imp_ok (l := ⟨r, e, c⟩) (t := M) (m := 1) hd hB
    have o2 := Pu.imp_ok (l := ⟨r, e, c⟩) (t := M) (m := 2) hd hB
    have hd' := hd
    obtain ⟨d0, d1, d2, d3⟩ := hd
    dsimp only at d0 d1 d2 d3
    have I0 := Lib.hid (fun W => (hD0 ▸ refImpulse_any r e c s k M 0 W h (by omega) (by omega) d0 d1 d2 (by omega) : Calls Try.prog 43 #[.agg #[.int .i64 s, .int .i64 k], .agg #[.int .i64 r, .int .i64 e, .int .i64 c], .int .i64 M, .int .i64 0] W (Ret W (.agg #[.int .i64 (D0).s, .int .i64 (D0).k]))))
    have I1 := Lib.hid (fun W => (hD1 ▸ refImpulse_any r e c s k M 1 W h (by omega) (by omega) d0 d1 d2 (by omega) : Calls Try.prog 43 #[.agg #[.int .i64 s, .int .i64 k], .agg #[.int .i64 r, .int .i64 e, .int .i64 c], .int .i64 M, .int .i64 1] W (Ret W (.agg #[.int .i64 (D1).s, .int .i64 (D1).k]))))
    have I2 := Lib.hid (fun W => (hD2 ▸ refImpulse_any r e c s k M 2 W h (by omega) (by omega) d0 d1 d2 (by omega) : Calls Try.prog 43 #[.agg #[.int .i64 s, .int .i64 k], .agg #[.int .i64 r, .int .i64 e, .int .i64 c], .int .i64 M, .int .i64 2] W (Ret W (.agg #[.int .i64 (D2).s, .int .i64 (D2).k]))))
    have hv : Pu.corN ⟨r, e, c⟩ (n + 1) ⟨s, k⟩ a b = (Pu.corN ⟨r, e, c⟩ n D1 a b && (a == 0 || Pu.corN ⟨r, e, c⟩ n D0 (a - 1) b) && (b == 0 || Pu.corN ⟨r, e, c⟩ n D2 a (b - 1))) := by
      rw [Pu.corN]; dsimp only; rw [show e - ((n : Int) + 1) = M by omega, hD0, hD1, hD2]
    rw [hD0] at o0; rw [hD1] at o1; rw [hD2] at o2
    obtain ⟨s0, k0⟩ := D0; obtain ⟨s1, k1⟩ := D1; obtain ⟨s2, k2⟩ := D2
    have C1 := Lib.hid (fun W => ih s1 k1 a b (B + 1) (M + 1) W (by omega) (by omega) o1 (by omega) (by omega) ha ha2 hb hb2)
    have C0 := Lib.hid (fun (h0 : a ≠ 0) W => ih s0 k0 (a - 1) b (B + (0 : Nat)) (M + 1) W (by omega) (by omega) o0 (by omega) (by omega) (by omega) (by omega) hb hb2)
    have C2 := Lib.hid (fun (h0 : b ≠ 0) W => ih s2 k2 a (b - 1) (B + (2 : Nat)) (M + 1) W (by omega) (by omega) o2 (by omega) (by omega) ha ha2 (by omega) (by omega))
    generalize Pu.corN ⟨r, e, c⟩ n ⟨s1, k1⟩ a b = v1 at hv C1
    generalize Pu.corN ⟨r, e, c⟩ n ⟨s0, k0⟩ (a - 1) b = v0 at hv C0
    generalize Pu.corN ⟨r, e, c⟩ n ⟨s2, k2⟩ a (b - 1) = v2 at hv C2
    obtain ⟨v, hvv⟩ : ∃ v, Pu.corN ⟨r, e, c⟩ (n + 1) ⟨s, k⟩ a b = v := ⟨_, rfl⟩
    rw [hvv] at hv ⊢
    have HV := Lib.hid hv
    have hM2 : ¬ M = e := by omega
    have hM3 : 0 ≤ M := by omega
    have hM4 : M ≤ 360 := by omega
    clear ih hv hvv o0 o1 o2 hD0 hD1 hD2 hd' d0 d1 d2 d3 hM hn hB hB2
    go_enter Try.func24, Try.ntmps24
    go_wp2_with fail
    refine wp_name ?_
    intro W hW
    have ZW : Below w.heap.size w W := by rw [hW]; exact (by repeat first | exact Below.refl _ _ | assumption | (refine Below.alloc ?_ (by first | omega | (simp; done) | (simp; omega)) _) | (refine Below.setCell ?_ (by first | omega | (simp; done) | (simp; omega)) _) | (refine Below.drew ?_) | (refine belowDrewN ?_) | (refine Below.trans ?_ (Below.mono (by assumption) (by first | omega | (simp; done) | (simp; omega)))))
    have BL : Blk W w.heap.size #[.int .i64 r, .int .i64 e, .int .i64 c] 24 := by rw [hW]; exact (by repeat first | exact blk_at (by first | rfl | omega | (simp; done) | (simp; omega)) | assumption | refine Blk.alloc ?_ _ | refine Blk.drew ?_ | refine Blk.drewN ?_ _ | (refine Blk.other ?_ _ (by first | omega | (simp; done) | (simp; omega))) | (refine Blk.below ?_ (by assumption)))
    have BD : Blk W (w.heap.size + 1) #[.int .i64 s, .int .i64 k] 37 := by rw [hW]; exact (by repeat first | exact blk_at (by first | rfl | omega | (simp; done) | (simp; omega)) | assumption | refine Blk.alloc ?_ _ | refine Blk.drew ?_ | refine Blk.drewN ?_ _ | (refine Blk.other ?_ _ (by first | omega | (simp; done) | (simp; omega))) | (refine Blk.below ?_ (by assumption)))
    clear hW
    have x0 := BL.later 0 rfl; have x1 := BL.later 1 rfl; have x2 := BL.later 2 rfl
    have y0 := BD.later 0 rfl; have y1 := BD.later 1 rfl
    have key : (v1 = false) ∨ (v1 = true ∧ a ≠ 0 ∧ v0 = false) ∨ (v1 = true ∧ (a = 0 ∨ (a ≠ 0 ∧ v0 = true)) ∧ (b = 0 ∨ (b ≠ 0 ∧ v2 = false) ∨ (b ≠ 0 ∧ v2 = true))) := by
      cases v1 <;> cases v0 <;> cases v2 <;> simp <;> omega
    rcases key with rfl | ⟨rfl, ha0, rfl⟩ | ⟨rfl, rfl | ⟨ha0, rfl⟩, rfl | ⟨hb0, rfl⟩ | ⟨hb0, rfl⟩⟩
    all_goals (
      try (have hab : (a == 0) = false := beq_eq_false_iff_ne.2 ha0)
      try (have hbb : (b == 0) = false := beq_eq_false_iff_ne.2 hb0)
      refine wp_region_later (by kernel_rfl) (by kernel_rfl) ?_
      (repeat (first | go_big_quiet_step ((first | (go_at_call 43; first | (with_reducible exact later_call (I1.out _)) | (with_reducible exact later_call (I0.out _)) | (with_reducible exact later_call (I2.out _))) | (go_at_call 24; first | (with_reducible exact later_call (C1.out _)) | (with_reducible exact later_call (C0.out ha0 _)) | (with_reducible exact later_call (C2.out hb0 _)))))))
      try simp only [hab]
      (repeat (first | go_big_quiet_step ((first | (go_at_call 43; first | (with_reducible exact later_call (I1.out _)) | (with_reducible exact later_call (I0.out _)) | (with_reducible exact later_call (I2.out _))) | (go_at_call 24; first | (with_reducible exact later_call (C1.out _)) | (with_reducible exact later_call (C0.out ha0 _)) | (with_reducible exact later_call (C2.out hb0 _)))))))
      try simp only [hbb]
      (repeat (first | go_big_quiet_step ((first | (go_at_call 43; first | (with_reducible exact later_call (I1.out _)) | (with_reducible exact later_call (I0.out _)) | (with_reducible exact later_call (I2.out _))) | (go_at_call 24; first | (with_reducible exact later_call (C1.out _)) | (with_reducible exact later_call (C0.out ha0 _)) | (with_reducible exact later_call (C2.out hb0 _)))))))
      refine wpQuiet_nil ?_
      intro wq hw'
      obtain ⟨⟨_, hbq⟩, hw''⟩ := hw'
      subst hw''
      have Z := ZW.trans (hbq.mono ZW.size)
      go_wp2
      go_ret
      exact ret_bool (by rw [HV.out]; simp [*]) Z)
end Go.Proofs.Ytpjlihkpnhamlaa
end

/- Whether a line corrects: the plain law: all lists of faults are tried, and the answer is the one of the program. -/
section
set_option linter.unusedSimpArgs false
set_option linter.unusedVariables false
namespace Go.Proofs.Ytpjlihkpnhamlaa
namespace Pu

def okG (l : Ln) : Int → Dl → Nat → Bool
  | _, _, 0 => true
  | t, d, n + 1 => (decide (t < 2 * l.e) || (imp l t 1 d).s == t % 720) && okG l (t + 1) (imp l t 1 d) n
theorem okT_okG {l : Ln} {d : Dl} : ∀ (n j : Nat), okT l d (j + n) = (okT l d j && okG l (l.e + j) (runP l d j) n)
  | 0, j => by simp [okG]
  | n + 1, j => by
    rw [show j + (n + 1) = (j + 1) + n by omega, okT_okG n (j + 1), okT, okG]
    rw [show l.e + ((j + 1 : Nat) : Int) = l.e + j + 1 by omega, runP, Bool.and_assoc]
theorem okT_eq {l : Ln} {d : Dl} (n : Nat) : okT l d n = okG l l.e d n := by
  have := okT_okG (l := l) (d := d) n 0
  simpa [okT, runP] using this

def endB (r e c s : Int) : Bool := decide (e - 1 - c ≤ s) && (r == 2 || decide (s ≤ e - 1 + c))
theorem tail_dec : ∀ r : Fin 3, ∀ e : Fin 8, ∀ c : Fin 5, ∀ s : Fin 17, 2 * c.val < e.val + 2 → (r.val = 1 → s.val ≤ e.val + 1) →
    okG ⟨(r.val : Int) + 1, (e.val : Int) + 2, c.val⟩ ((e.val : Int) + 2) ⟨s.val, s.val⟩ (4 * (e.val + 2) + 1) = endB ((r.val : Int) + 1) ((e.val : Int) + 2) c.val s.val := by
  decide +kernel
theorem tail_ok {r e c s : Int} (hr : 1 ≤ r ∧ r ≤ 3) (he : 2 ≤ e ∧ e ≤ 9) (hc : 0 ≤ c ∧ 2 * c < e) (hs : 0 ≤ s ∧ s ≤ 16) (h2 : r = 2 → s ≤ e - 1) :
    okT ⟨r, e, c⟩ ⟨s, s⟩ (4 * e + 1).toNat = endB r e c s := by
  obtain ⟨r', rfl⟩ : ∃ r' : Nat, r = (r' : Int) + 1 := ⟨(r - 1).toNat, by omega⟩
  obtain ⟨e', rfl⟩ : ∃ e' : Nat, e = (e' : Int) + 2 := ⟨(e - 2).toNat, by omega⟩
  obtain ⟨c', rfl⟩ : ∃ c' : Nat, c = (c' : Int) := ⟨c.toNat, by omega⟩
  obtain ⟨s', rfl⟩ : ∃ s' : Nat, s = (s' : Int) := ⟨s.toNat, by omega⟩
  have := tail_dec ⟨r', by omega⟩ ⟨e', by omega⟩ ⟨c', by omega⟩ ⟨s', by omega⟩ (by dsimp only; omega) (by dsimp only; omega)
  rw [okT_eq, show (4 * ((e' : Int) + 2) + 1).toNat = 4 * (e' + 2) + 1 by omega]
  exact this

def corQ (l : Ln) (n : Nat) (s a b : Int) : Bool := decide (l.e - 1 - l.c ≤ s + n - min a n) && (l.r == 2 || decide (s + n + min b n ≤ l.e - 1 + l.c))
theorem notLong {r e c t : Int} (h : 0 < t ∧ t < e) : isLong ⟨r, e, c⟩ t = false := by
  have : t % e = t := Int.emod_eq_of_lt (by omega) h.2
  simp [isLong, this]; omega
theorem mv_free {r e c s : Int} (hr : r ≠ 2) (h : 0 ≤ s ∧ s < 700) : mv ⟨r, e, c⟩ false ⟨s, s⟩ = ⟨s + 1, s + 1⟩ := by
  unfold mv
  rw [if_neg (by simp [hr])]
  simp only [Dl.mk.injEq, and_true]; omega
theorem mv_wait {e c s : Int} (h : 0 ≤ s ∧ s ≤ e - 1 ∧ e ≤ 9) : mv ⟨2, e, c⟩ false ⟨s, s⟩ = if s = e - 1 then ⟨s, s⟩ else ⟨s + 1, s + 1⟩ := by
  unfold mv
  have hs : s % e = s := Int.emod_eq_of_lt h.1 (by omega)
  by_cases h1 : s = e - 1
  · rw [if_pos ⟨rfl, rfl, by show s % e = e - 1; omega⟩, if_pos h1]
  · rw [if_neg (by show ¬ ((2 : Int) = 2 ∧ false = false ∧ s % e = e - 1); omega), if_neg h1]
    simp only [Dl.mk.injEq, and_true]; omega
theorem bool_iff {p q : Bool} (h : p = true ↔ q = true) : p = q := by cases p <;> cases q <;> simp_all

theorem corN_free {r e c : Int} (hr : 1 ≤ r ∧ r ≤ 3) (h2 : r ≠ 2) (he : 2 ≤ e ∧ e ≤ 9) (hc : 0 ≤ c ∧ 2 * c < e) : ∀ (n : Nat) (s a b : Int), (n : Int) ≤ e - 1 → 0 ≤ s → s + 2 * n ≤ 2 * (e - 1) → 0 ≤ a → 0 ≤ b →
    corN ⟨r, e, c⟩ n ⟨s, s⟩ a b = corQ ⟨r, e, c⟩ n s a b
  | 0, s, a, b, hn, hs, hs2, ha, hb => by
    rw [corN, tail_ok hr he hc ⟨hs, by omega⟩ (fun h => absurd h h2)]
    refine bool_iff ?_
    simp only [endB, corQ, Bool.and_eq_true, Bool.or_eq_true, decide_eq_true_eq, beq_iff_eq, true_or, and_true]
    omega
  | n + 1, s, a, b, hn, hs, hs2, ha, hb => by
    have hm : ∀ m : Nat, imp ⟨r, e, c⟩ (e - ((n : Int) + 1)) m ⟨s, s⟩ = mvs ⟨r, e, c⟩ false m ⟨s, s⟩ := fun m => by
      unfold imp; rw [notLong (by omega), if_neg (by simp)]
    rw [corN]
    dsimp only
    rw [hm 1, hm 0, hm 2]
    simp only [mvs]
    rw [mv_free h2 (by omega), mv_free h2 (by omega), corN_free hr h2 he hc n (s + 1) a b (by omega) (by omega) (by omega) ha hb]
    have e0 : (a == 0 || corN ⟨r, e, c⟩ n ⟨s, s⟩ (a - 1) b) = (a == 0 || corQ ⟨r, e, c⟩ n s (a - 1) b) := by
      by_cases h0 : a = 0
      · simp [h0]
      · rw [corN_free hr h2 he hc n s (a - 1) b (by omega) hs (by omega) (by omega) hb]
    have e2 : (b == 0 || corN ⟨r, e, c⟩ n ⟨s + 1 + 1, s + 1 + 1⟩ a (b - 1)) = (b == 0 || corQ ⟨r, e, c⟩ n (s + 1 + 1) a (b - 1)) := by
      by_cases h0 : b = 0
      · simp [h0]
      · rw [corN_free hr h2 he hc n (s + 1 + 1) a (b - 1) (by omega) (by omega) (by omega) ha (by omega)]
    rw [e0, e2]
    refine bool_iff ?_
    simp only [corQ, Bool.and_eq_true, Bool.or_eq_true, decide_eq_true_eq, beq_iff_eq, true_or, and_true]
    omega

theorem corN_wait {e c : Int} (he : 2 ≤ e ∧ e ≤ 9) (hc : 0 ≤ c ∧ 2 * c < e) : ∀ (n : Nat) (s a b : Int), (n : Int) ≤ e - 1 → 0 ≤ s → s ≤ e - 1 → 0 ≤ a → 0 ≤ b →
    corN ⟨2, e, c⟩ n ⟨s, s⟩ a b = corQ ⟨2, e, c⟩ n s a b
  | 0, s, a, b, hn, hs, hs2, ha, hb => by
    rw [corN, tail_ok (by omega) he hc ⟨hs, by omega⟩ (fun _ => hs2)]
    refine bool_iff ?_
    simp only [endB, corQ, Bool.and_eq_true, Bool.or_eq_true, decide_eq_true_eq, beq_iff_eq, true_or, and_true]
    omega
  | n + 1, s, a, b, hn, hs, hs2, ha, hb => by
    have hm : ∀ m : Nat, imp ⟨2, e, c⟩ (e - ((n : Int) + 1)) m ⟨s, s⟩ = mvs ⟨2, e, c⟩ false m ⟨s, s⟩ := fun m => by
      unfold imp; rw [notLong (by omega), if_neg (by simp)]
    obtain ⟨s1, h1, hs1⟩ : ∃ s1, mv ⟨2, e, c⟩ false ⟨s, s⟩ = ⟨s1, s1⟩ ∧ (s1 = s + 1 ∧ s < e - 1 ∨ s1 = s ∧ s = e - 1) := by
      rw [mv_wait ⟨hs, hs2, he.2⟩]
      by_cases q : s = e - 1
      · exact ⟨s, if_pos q, .inr ⟨rfl, q⟩⟩
      · exact ⟨s + 1, if_neg q, .inl ⟨rfl, by omega⟩⟩
    obtain ⟨s2, h2, hs2'⟩ : ∃ s2, mv ⟨2, e, c⟩ false ⟨s1, s1⟩ = ⟨s2, s2⟩ ∧ (s2 = s1 + 1 ∧ s1 < e - 1 ∨ s2 = s1 ∧ s1 = e - 1) := by
      rw [mv_wait ⟨by omega, by omega, he.2⟩]
      by_cases q : s1 = e - 1
      · exact ⟨s1, if_pos q, .inr ⟨rfl, q⟩⟩
      · exact ⟨s1 + 1, if_neg q, .inl ⟨rfl, by omega⟩⟩
    rw [corN]
    dsimp only
    rw [hm 1, hm 0, hm 2]
    simp only [mvs]
    rw [h1, h2, corN_wait he hc n s1 a b (by omega) (by omega) (by omega) ha hb]
    have e0 : (a == 0 || corN ⟨2, e, c⟩ n ⟨s, s⟩ (a - 1) b) = (a == 0 || corQ ⟨2, e, c⟩ n s (a - 1) b) := by
      by_cases h0 : a = 0
      · simp [h0]
      · rw [corN_wait he hc n s (a - 1) b (by omega) hs (by omega) (by omega) hb]
    have e2 : (b == 0 || corN ⟨2, e, c⟩ n ⟨s2, s2⟩ a (b - 1)) = (b == 0 || corQ ⟨2, e, c⟩ n s2 a (b - 1)) := by
      by_cases h0 : b = 0
      · simp [h0]
      · rw [corN_wait he hc n s2 a (b - 1) (by omega) (by omega) (by omega) ha (by omega)]
    rw [e0, e2]
    refine bool_iff ?_
    simp only [corQ, Bool.and_eq_true, Bool.or_eq_true, decide_eq_true_eq, beq_iff_eq, true_or, and_true]
    omega

/-- all lists of faults are tried: what the program says -/
theorem cor_all {r e c a b : Int} (hl : (Ln.mk r e c).ok) (hr : r ≠ 0) (he : e ≤ 9) (ha : 0 ≤ a ∧ a ≤ 20) (hb : 0 ≤ b ∧ b ≤ 20) :
    corN ⟨r, e, c⟩ (e - 1).toNat (start ⟨r, e, c⟩ 0 0) a b = (corrVal ⟨r, e, c⟩ a b).1 := by
  have hst : start ⟨r, e, c⟩ 0 0 = ⟨0, 0⟩ := by unfold start; rw [if_neg hr]; simp
  have hlx := err_of_ok hl
  dsimp only at hlx
  rw [hst]
  unfold Ln.ok at hl
  dsimp only at hl
  have hr1 : 1 ≤ r ∧ r ≤ 3 := by omega
  have he1 : 2 ≤ e := by omega
  have hc1 : 0 ≤ c ∧ 2 * c < e := by omega
  have hn : (((e - 1).toNat : Nat) : Int) = e - 1 := by omega
  have hv : (corrVal ⟨r, e, c⟩ a b).1 = if r = 2 then decide (a ≤ c) else decide (max a b ≤ c) := by
    simp only [corrVal, hlx]
    rw [if_neg (by simp), if_neg (by simp [btw_iff.2 ha, btw_iff.2 hb]), if_neg hr]
    split <;> rfl
  rw [hv]
  by_cases h2 : r = 2
  · subst h2
    rw [corN_wait ⟨he1, he⟩ hc1 _ 0 a b (by omega) (by omega) (by omega) ha.1 hb.1, if_pos rfl]
    refine bool_iff ?_
    simp only [corQ, Bool.and_eq_true, Bool.or_eq_true, decide_eq_true_eq, beq_iff_eq, hn, true_or, and_true]
    omega
  · rw [corN_free hr1 h2 ⟨he1, he⟩ hc1 _ 0 a b (by omega) (by omega) (by omega) ha.1 hb.1, if_neg h2]
    refine bool_iff ?_
    simp only [corQ, Bool.and_eq_true, Bool.or_eq_true, decide_eq_true_eq, beq_iff_eq, hn, true_or, and_true]
    omega
end Pu
end Go.Proofs.Ytpjlihkpnhamlaa
end
