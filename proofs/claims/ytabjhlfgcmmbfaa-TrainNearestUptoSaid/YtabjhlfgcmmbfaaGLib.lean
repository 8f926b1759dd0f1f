/- What functions of the program compute, and that they do: printed by symgen.py. -/
import Derived.Test.YtabjhlfgcmmbfaaSymZ
import Derived.Test.YtabjhlfgcmmbfaaProg
set_option linter.unusedSimpArgs false
set_option linter.unusedVariables false
namespace Go.Proofs.Ytabjhlfgcmmbfaa.Sy
open Go.RowKit
noncomputable section

def en_uint8 : Int → List D := fun x => [D.v (.int .u8 x)]
theorem en_uint8_flat : ∀ a, ∀ d ∈ en_uint8 a, ∃ x, d = D.v x := by
  intro a d h
  simp only [en_uint8, List.mem_cons, List.not_mem_nil, or_false] at h
  rcases h with rfl <;> exact ⟨_, rfl⟩
theorem vt64 : VarT Try.prog 64 2 true := ⟨Try.isAgg64, Try.sizeOf64⟩
def en_int : Int → List D := fun x => [D.v (.int .i64 x)]
theorem en_int_flat : ∀ a, ∀ d ∈ en_int a, ∃ x, d = D.v x := by
  intro a d h
  simp only [en_int, List.mem_cons, List.not_mem_nil, or_false] at h
  rcases h with rfl <;> exact ⟨_, rfl⟩
theorem ft64_0 : FieldT Try.prog 64 0 0 62 := ⟨_, _, Try.underlying64, rfl, rfl, rfl⟩
theorem vt62 : VarT Try.prog 62 1 false := ⟨Try.isAgg62, Try.sizeOf62⟩
theorem sl38 : SlT Try.prog 38 3 1 8 := ⟨Try.underlying38, ⟨Try.t3, _, by kernel_rfl, rfl, rfl, rfl, rfl⟩, by decide⟩
theorem bt128 : ∀ parts, Try.prog.built 128 parts = Instr.fill (fun i => some (i * 1, 1)) (AV.denL (fun _ => undef) [.val (.bool false), .val (.bool false), .val (.bool false), .val (.bool false), .val (.bool false), .val (.bool false), .val (.bool false), .val (.bool false), .val (.bool false), .val (.bool false), .val (.bool false), .val (.bool false), .val (.bool false), .val (.bool false), .val (.bool false), .val (.bool false), .val (.bool false), .val (.bool false), .val (.bool false), .val (.bool false), .val (.bool false), .val (.bool false), .val (.bool false), .val (.bool false), .val (.bool false), .val (.bool false), .val (.bool false), .val (.bool false), .val (.bool false), .val (.bool false), .val (.bool false), .val (.bool false), .val (.bool false), .val (.bool false), .val (.bool false), .val (.bool false), .val (.bool false), .val (.bool false), .val (.bool false), .val (.bool false), .val (.bool false), .val (.bool false), .val (.bool false), .val (.bool false), .val (.bool false), .val (.bool false), .val (.bool false), .val (.bool false), .val (.bool false), .val (.bool false), .val (.bool false), .val (.bool false), .val (.bool false), .val (.bool false), .val (.bool false), .val (.bool false), .val (.bool false), .val (.bool false), .val (.bool false), .val (.bool false), .val (.bool false), .val (.bool false), .val (.bool false), .val (.bool false), .val (.bool false), .val (.bool false), .val (.bool false), .val (.bool false), .val (.bool false), .val (.bool false), .val (.bool false), .val (.bool false), .val (.bool false), .val (.bool false), .val (.bool false), .val (.bool false), .val (.bool false), .val (.bool false), .val (.bool false), .val (.bool false), .val (.bool false), .val (.bool false), .val (.bool false), .val (.bool false), .val (.bool false), .val (.bool false), .val (.bool false), .val (.bool false), .val (.bool false), .val (.bool false), .val (.bool false), .val (.bool false), .val (.bool false), .val (.bool false), .val (.bool false), .val (.bool false), .val (.bool false), .val (.bool false), .val (.bool false), .val (.bool false), .val (.bool false), .val (.bool false), .val (.bool false), .val (.bool false), .val (.bool false), .val (.bool false), .val (.bool false), .val (.bool false), .val (.bool false), .val (.bool false), .val (.bool false), .val (.bool false), .val (.bool false), .val (.bool false), .val (.bool false), .val (.bool false), .val (.bool false), .val (.bool false), .val (.bool false), .val (.bool false), .val (.bool false), .val (.bool false), .val (.bool false), .val (.bool false), .val (.bool false), .val (.bool false), .val (.bool false), .val (.bool false), .val (.bool false), .val (.bool false), .val (.bool false), .val (.bool false), .val (.bool false), .val (.bool false), .val (.bool false), .val (.bool false), .val (.bool false), .val (.bool false), .val (.bool false), .val (.bool false), .val (.bool false), .val (.bool false), .val (.bool false), .val (.bool false), .val (.bool false), .val (.bool false), .val (.bool false), .val (.bool false), .val (.bool false), .val (.bool false), .val (.bool false), .val (.bool false), .val (.bool false), .val (.bool false), .val (.bool false), .val (.bool false), .val (.bool false), .val (.bool false), .val (.bool false), .val (.bool false), .val (.bool false), .val (.bool false), .val (.bool false), .val (.bool false), .val (.bool false), .val (.bool false), .val (.bool false), .val (.bool false), .val (.bool false), .val (.bool false), .val (.bool false), .val (.bool false), .val (.bool false), .val (.bool false), .val (.bool false), .val (.bool false), .val (.bool false), .val (.bool false), .val (.bool false), .val (.bool false), .val (.bool false), .val (.bool false), .val (.bool false), .val (.bool false), .val (.bool false), .val (.bool false), .val (.bool false), .val (.bool false), .val (.bool false), .val (.bool false), .val (.bool false), .val (.bool false), .val (.bool false), .val (.bool false), .val (.bool false), .val (.bool false), .val (.bool false), .val (.bool false), .val (.bool false), .val (.bool false), .val (.bool false), .val (.bool false), .val (.bool false), .val (.bool false), .val (.bool false), .val (.bool false), .val (.bool false), .val (.bool false), .val (.bool false), .val (.bool false), .val (.bool false), .val (.bool false), .val (.bool false), .val (.bool false), .val (.bool false), .val (.bool false), .val (.bool false), .val (.bool false), .val (.bool false), .val (.bool false), .val (.bool false), .val (.bool false), .val (.bool false), .val (.bool false), .val (.bool false), .val (.bool false), .val (.bool false), .val (.bool false), .val (.bool false), .val (.bool false), .val (.bool false), .val (.bool false), .val (.bool false), .val (.bool false), .val (.bool false), .val (.bool false), .val (.bool false), .val (.bool false), .val (.bool false), .val (.bool false), .val (.bool false), .val (.bool false), .val (.bool false), .val (.bool false), .val (.bool false), .val (.bool false), .val (.bool false), .val (.bool false), .val (.bool false), .val (.bool false), .val (.bool false), .val (.bool false), .val (.bool false), .val (.bool false), .val (.bool false), .val (.bool false), .val (.bool false), .val (.bool false), .val (.bool false), .val (.bool false), .val (.bool false), .val (.bool false), .val (.bool false), .val (.bool false), .val (.bool false), .val (.bool false), .val (.bool false), .val (.bool false), .val (.bool false), .val (.bool false), .val (.bool false), .val (.bool false), .val (.bool false), .val (.bool false), .val (.bool false), .val (.bool false), .val (.bool false), .val (.bool false), .val (.bool false), .val (.bool false), .val (.bool false), .val (.bool false), .val (.bool false), .val (.bool false), .val (.bool false), .val (.bool false), .val (.bool false), .val (.bool false), .val (.bool false), .val (.bool false), .val (.bool false), .val (.bool false), .val (.bool false), .val (.bool false), .val (.bool false), .val (.bool false), .val (.bool false), .val (.bool false), .val (.bool false), .val (.bool false), .val (.bool false), .val (.bool false), .val (.bool false), .val (.bool false), .val (.bool false), .val (.bool false), .val (.bool false), .val (.bool false), .val (.bool false), .val (.bool false), .val (.bool false), .val (.bool false), .val (.bool false), .val (.bool false), .val (.bool false), .val (.bool false), .val (.bool false), .val (.bool false), .val (.bool false), .val (.bool false), .val (.bool false), .val (.bool false), .val (.bool false), .val (.bool false), .val (.bool false), .val (.bool false), .val (.bool false), .val (.bool false), .val (.bool false), .val (.bool false), .val (.bool false), .val (.bool false), .val (.bool false), .val (.bool false), .val (.bool false), .val (.bool false), .val (.bool false), .val (.bool false), .val (.bool false), .val (.bool false), .val (.bool false), .val (.bool false), .val (.bool false), .val (.bool false), .val (.bool false), .val (.bool false), .val (.bool false), .val (.bool false), .val (.bool false), .val (.bool false), .val (.bool false), .val (.bool false), .val (.bool false), .val (.bool false), .val (.bool false), .val (.bool false), .val (.bool false), .val (.bool false), .val (.bool false), .val (.bool false), .val (.bool false), .val (.bool false), .val (.bool false), .val (.bool false), .val (.bool false), .val (.bool false), .val (.bool false), .val (.bool false), .val (.bool false), .val (.bool false), .val (.bool false), .val (.bool false), .val (.bool false), .val (.bool false), .val (.bool false), .val (.bool false), .val (.bool false), .val (.bool false), .val (.bool false), .val (.bool false), .val (.bool false), .val (.bool false), .val (.bool false), .val (.bool false), .val (.bool false), .val (.bool false), .val (.bool false), .val (.bool false), .val (.bool false), .val (.bool false), .val (.bool false), .val (.bool false), .val (.bool false), .val (.bool false), .val (.bool false), .val (.bool false), .val (.bool false), .val (.bool false), .val (.bool false), .val (.bool false), .val (.bool false), .val (.bool false), .val (.bool false), .val (.bool false), .val (.bool false), .val (.bool false), .val (.bool false), .val (.bool false), .val (.bool false), .val (.bool false), .val (.bool false), .val (.bool false), .val (.bool false), .val (.bool false), .val (.bool false), .val (.bool false), .val (.bool false), .val (.bool false), .val (.bool false), .val (.bool false), .val (.bool false), .val (.bool false), .val (.bool false), .val (.bool false), .val (.bool false), .val (.bool false), .val (.bool false), .val (.bool false), .val (.bool false), .val (.bool false), .val (.bool false), .val (.bool false), .val (.bool false), .val (.bool false), .val (.bool false), .val (.bool false), .val (.bool false), .val (.bool false), .val (.bool false), .val (.bool false), .val (.bool false), .val (.bool false), .val (.bool false), .val (.bool false), .val (.bool false), .val (.bool false), .val (.bool false), .val (.bool false), .val (.bool false), .val (.bool false), .val (.bool false), .val (.bool false), .val (.bool false), .val (.bool false), .val (.bool false), .val (.bool false), .val (.bool false), .val (.bool false), .val (.bool false), .val (.bool false), .val (.bool false), .val (.bool false), .val (.bool false), .val (.bool false), .val (.bool false), .val (.bool false), .val (.bool false), .val (.bool false), .val (.bool false), .val (.bool false), .val (.bool false), .val (.bool false), .val (.bool false), .val (.bool false), .val (.bool false), .val (.bool false), .val (.bool false), .val (.bool false), .val (.bool false), .val (.bool false), .val (.bool false), .val (.bool false), .val (.bool false), .val (.bool false), .val (.bool false), .val (.bool false), .val (.bool false), .val (.bool false), .val (.bool false), .val (.bool false), .val (.bool false), .val (.bool false), .val (.bool false), .val (.bool false), .val (.bool false), .val (.bool false), .val (.bool false), .val (.bool false), .val (.bool false), .val (.bool false), .val (.bool false), .val (.bool false), .val (.bool false), .val (.bool false), .val (.bool false), .val (.bool false), .val (.bool false), .val (.bool false), .val (.bool false), .val (.bool false), .val (.bool false), .val (.bool false), .val (.bool false), .val (.bool false), .val (.bool false), .val (.bool false), .val (.bool false), .val (.bool false), .val (.bool false), .val (.bool false), .val (.bool false), .val (.bool false), .val (.bool false), .val (.bool false), .val (.bool false), .val (.bool false), .val (.bool false), .val (.bool false), .val (.bool false), .val (.bool false), .val (.bool false), .val (.bool false), .val (.bool false), .val (.bool false), .val (.bool false), .val (.bool false), .val (.bool false), .val (.bool false), .val (.bool false), .val (.bool false), .val (.bool false), .val (.bool false), .val (.bool false), .val (.bool false), .val (.bool false), .val (.bool false), .val (.bool false), .val (.bool false), .val (.bool false), .val (.bool false), .val (.bool false), .val (.bool false), .val (.bool false), .val (.bool false), .val (.bool false), .val (.bool false), .val (.bool false), .val (.bool false), .val (.bool false), .val (.bool false), .val (.bool false), .val (.bool false), .val (.bool false), .val (.bool false), .val (.bool false), .val (.bool false), .val (.bool false), .val (.bool false), .val (.bool false), .val (.bool false), .val (.bool false), .val (.bool false), .val (.bool false), .val (.bool false), .val (.bool false), .val (.bool false), .val (.bool false), .val (.bool false), .val (.bool false), .val (.bool false), .val (.bool false), .val (.bool false), .val (.bool false), .val (.bool false), .val (.bool false), .val (.bool false), .val (.bool false), .val (.bool false), .val (.bool false), .val (.bool false), .val (.bool false), .val (.bool false), .val (.bool false), .val (.bool false), .val (.bool false), .val (.bool false), .val (.bool false), .val (.bool false), .val (.bool false), .val (.bool false), .val (.bool false), .val (.bool false), .val (.bool false), .val (.bool false), .val (.bool false), .val (.bool false), .val (.bool false), .val (.bool false), .val (.bool false), .val (.bool false), .val (.bool false), .val (.bool false), .val (.bool false), .val (.bool false), .val (.bool false), .val (.bool false), .val (.bool false), .val (.bool false), .val (.bool false), .val (.bool false), .val (.bool false), .val (.bool false), .val (.bool false), .val (.bool false), .val (.bool false), .val (.bool false), .val (.bool false), .val (.bool false), .val (.bool false), .val (.bool false), .val (.bool false), .val (.bool false), .val (.bool false), .val (.bool false), .val (.bool false), .val (.bool false), .val (.bool false), .val (.bool false), .val (.bool false), .val (.bool false), .val (.bool false), .val (.bool false), .val (.bool false), .val (.bool false), .val (.bool false), .val (.bool false), .val (.bool false), .val (.bool false), .val (.bool false), .val (.bool false), .val (.bool false), .val (.bool false), .val (.bool false), .val (.bool false), .val (.bool false), .val (.bool false)]).toArray parts := fun _ => by kernel_rfl
theorem vt128 : VarT Try.prog 128 656 true := ⟨Try.isAgg128, Try.sizeOf128⟩
theorem sl62 : SlT Try.prog 62 5 1 1 := ⟨Try.underlying62, ⟨Try.t5, _, by kernel_rfl, rfl, rfl, rfl, rfl⟩, by decide⟩
theorem vt5 : VarT Try.prog 5 1 false := ⟨Try.isAgg5, Try.sizeOf5⟩
def ax_bool : Bool → List AV := fun x => [.val (.bool x)]
theorem vt4 : VarT Try.prog 4 1 false := ⟨Try.isAgg4, Try.sizeOf4⟩
def vx_bool : Bool → List Value := fun x => [.bool x]
theorem vt3 : VarT Try.prog 3 1 false := ⟨Try.isAgg3, Try.sizeOf3⟩
theorem ft64_1 : FieldT Try.prog 64 1 1 62 := ⟨_, _, Try.underlying64, rfl, rfl, rfl⟩
theorem bt40 : ∀ parts, Try.prog.built 40 parts = Instr.fill (fun i => (#[(0, 1), (1, 1)] : Array (Nat × Nat))[i]?) (AV.denL (fun _ => undef) [.val (.slice none 0 0), .val (.slice none 0 0)]).toArray parts := fun _ => by kernel_rfl
theorem vt40 : VarT Try.prog 40 2 true := ⟨Try.isAgg40, Try.sizeOf40⟩
theorem bt57 : ∀ parts, Try.prog.built 57 parts = Instr.fill (fun i => (#[(0, 1), (1, 1)] : Array (Nat × Nat))[i]?) (AV.denL (fun _ => undef) [.val (.slice none 0 0), .val (.slice none 0 0)]).toArray parts := fun _ => by kernel_rfl
theorem vt57 : VarT Try.prog 57 2 true := ⟨Try.isAgg57, Try.sizeOf57⟩
theorem ft40_0 : FieldT Try.prog 40 0 0 38 := ⟨_, _, Try.underlying40, rfl, rfl, rfl⟩
theorem vt38 : VarT Try.prog 38 1 false := ⟨Try.isAgg38, Try.sizeOf38⟩
theorem ft40_1 : FieldT Try.prog 40 1 1 38 := ⟨_, _, Try.underlying40, rfl, rfl, rfl⟩
theorem bt89 : ∀ parts, Try.prog.built 89 parts = Instr.fill (fun i => some (i * 1, 1)) (AV.denL (fun _ => undef) [.val (.slice none 0 0), .val (.slice none 0 0)]).toArray parts := fun _ => by kernel_rfl
theorem ft57_0 : FieldT Try.prog 57 0 0 38 := ⟨_, _, Try.underlying57, rfl, rfl, rfl⟩
theorem ft57_1 : FieldT Try.prog 57 1 1 38 := ⟨_, _, Try.underlying57, rfl, rfl, rfl⟩
theorem bt26 : ∀ parts, Try.prog.built 26 parts = Instr.fill (fun i => (#[(0, 1), (1, 1)] : Array (Nat × Nat))[i]?) (AV.denL (fun _ => undef) [.val (.int .i64 0), .val (.int .i64 0)]).toArray parts := fun _ => by kernel_rfl
theorem vt26 : VarT Try.prog 26 2 true := ⟨Try.isAgg26, Try.sizeOf26⟩
theorem ft26_0 : FieldT Try.prog 26 0 0 3 := ⟨_, _, Try.underlying26, rfl, rfl, rfl⟩
theorem ft26_1 : FieldT Try.prog 26 1 1 3 := ⟨_, _, Try.underlying26, rfl, rfl, rfl⟩
theorem bt33 : ∀ parts, Try.prog.built 33 parts = Instr.fill (fun i => (#[(0, 1), (1, 1)] : Array (Nat × Nat))[i]?) (AV.denL (fun _ => undef) [.val (.int .i64 0), .val (.int .i64 0)]).toArray parts := fun _ => by kernel_rfl
def en_api_TrainPair : Int × Int → List D := fun x => [D.v (.int .i64 x.1), D.v (.int .i64 x.2)]
theorem en_api_TrainPair_flat : ∀ a, ∀ d ∈ en_api_TrainPair a, ∃ x, d = D.v x := by
  intro a d h
  simp only [en_api_TrainPair, List.mem_cons, List.not_mem_nil, or_false] at h
  rcases h with rfl | rfl <;> exact ⟨_, rfl⟩
theorem sl22 : SlT Try.prog 22 33 2 16 := ⟨Try.underlying22, ⟨Try.t33, _, by kernel_rfl, rfl, rfl, rfl, rfl⟩, by decide⟩
def fe_funcapi_TrainPair_bool : Int × Int → List AV := fun a => [.agg [.val (.int .i64 a.1), .val (.int .i64 a.2)]]
def fd_funcapi_TrainPair_bool : Bool → AV := fun b => .val (.bool b)
theorem vt33 : VarT Try.prog 33 2 true := ⟨Try.isAgg33, Try.sizeOf33⟩
theorem ft33_0 : FieldT Try.prog 33 0 0 3 := ⟨_, _, Try.underlying33, rfl, rfl, rfl⟩
theorem ft33_1 : FieldT Try.prog 33 1 1 3 := ⟨_, _, Try.underlying33, rfl, rfl, rfl⟩
def fe_funcint_bool : Int → List AV := fun a => [.val (.int .i64 a)]
def fd_funcint_bool : Bool → AV := fun b => .val (.bool b)
def ye_funcapi_Ratio_bool : Int × Int → List AV := fun a => [.agg [.val (.int .i64 a.1), .val (.int .i64 a.2)]]
def yn_funcapi_Ratio_bool : Int × Int → List NEnt := fun a => []
theorem sl84 : SlT Try.prog 84 33 2 16 := ⟨Try.underlying84, ⟨Try.t33, _, by kernel_rfl, rfl, rfl, rfl, rfl⟩, by decide⟩
def en_api_Train : (List Int) × (List Int) → List D := fun x => [D.s 1 (List.map en_int x.1), D.s 1 (List.map en_int x.2)]
theorem vt89 : VarT Try.prog 89 2 true := ⟨Try.isAgg89, Try.sizeOf89⟩
theorem bt94 : ∀ parts, Try.prog.built 94 parts = Instr.fill (fun i => (#[(0, 2), (2, 2)] : Array (Nat × Nat))[i]?) (AV.denL (fun _ => undef) [.val (.slice none 0 0), .val (.slice none 0 0), .val (.int .i64 0), .val (.int .i64 0)]).toArray parts := fun _ => by kernel_rfl
theorem vt94 : VarT Try.prog 94 4 true := ⟨Try.isAgg94, Try.sizeOf94⟩
def mk121 : Int → Value := fun k => .int .i64 k
theorem km121 : MKey Try.prog 121 3 109 mk121 := mkey_int Try.underlying121 Try.underlying3
def en_Lint : (List Int) → List D := fun x => [D.s 1 (List.map en_int x)]
def en_LLint : (List ((List Int))) → List D := fun x => [D.s 1 (List.map en_Lint x)]
theorem vt121 : VarT Try.prog 121 1 false := ⟨Try.isAgg121, Try.sizeOf121⟩
theorem ft94_0 : FieldT Try.prog 94 0 0 40 := ⟨_, _, Try.underlying94, rfl, rfl, rfl⟩
theorem vt142 : VarT Try.prog 142 1 false := ⟨Try.isAgg142, Try.sizeOf142⟩
def ye_functrain_counts_bool : (List Int) × Int → List AV := fun a => [.agg [.ref 900, .val (.int .i64 a.2)]]
def yn_functrain_counts_bool : (List Int) × Int → List NEnt := fun a => [.ro 900 1 (List.map en_int a.1)]
theorem bt125 : ∀ parts, Try.prog.built 125 parts = Instr.fill (fun i => (#[(0, 1), (1, 1)] : Array (Nat × Nat))[i]?) (AV.denL (fun _ => undef) [.val (.slice none 0 0), .val (.int .i64 0)]).toArray parts := fun _ => by kernel_rfl
theorem ft125_0 : FieldT Try.prog 125 0 0 38 := ⟨_, _, Try.underlying125, rfl, rfl, rfl⟩
theorem vt125 : VarT Try.prog 125 2 true := ⟨Try.isAgg125, Try.sizeOf125⟩
theorem ft125_1 : FieldT Try.prog 125 1 1 3 := ⟨_, _, Try.underlying125, rfl, rfl, rfl⟩
theorem sl109 : SlT Try.prog 109 38 1 24 := ⟨Try.underlying109, ⟨Try.t38, _, by kernel_rfl, rfl, rfl, rfl, rfl⟩, by decide⟩
theorem ft94_1 : FieldT Try.prog 94 1 2 26 := ⟨_, _, Try.underlying94, rfl, rfl, rfl⟩
theorem vt52 : VarT Try.prog 52 1 false := ⟨Try.isAgg52, Try.sizeOf52⟩
theorem sl52 : SlT Try.prog 52 57 2 48 := ⟨Try.underlying52, ⟨Try.t57, _, by kernel_rfl, rfl, rfl, rfl, rfl⟩, by decide⟩
def ye_funcint_bool : Int → List AV := fun a => [.val (.int .i64 a)]
def yn_funcint_bool : Int → List NEnt := fun a => []
theorem bt106 : ∀ parts, Try.prog.built 106 parts = Instr.fill (fun i => (#[(0, 2), (2, 1), (3, 1)] : Array (Nat × Nat))[i]?) (AV.denL (fun _ => undef) [.val (.slice none 0 0), .val (.slice none 0 0), .val (.int .i64 0), .val (.int .i64 0)]).toArray parts := fun _ => by kernel_rfl
theorem vt106 : VarT Try.prog 106 4 true := ⟨Try.isAgg106, Try.sizeOf106⟩
def ye_functrain_off_bool : (List Int) × (List Int) × Int × Int → List AV := fun a => [.agg [.ref 900, .ref 901, .val (.int .i64 a.2.2.1), .val (.int .i64 a.2.2.2)]]
def yn_functrain_off_bool : (List Int) × (List Int) × Int × Int → List NEnt := fun a => [.ro 900 1 (List.map en_int a.1), .ro 901 1 (List.map en_int a.2.1)]
theorem vt126 : VarT Try.prog 126 1 false := ⟨Try.isAgg126, Try.sizeOf126⟩
theorem ft106_2 : FieldT Try.prog 106 2 3 3 := ⟨_, _, Try.underlying106, rfl, rfl, rfl⟩
theorem ft106_1 : FieldT Try.prog 106 1 2 3 := ⟨_, _, Try.underlying106, rfl, rfl, rfl⟩
theorem ft106_0 : FieldT Try.prog 106 0 0 57 := ⟨_, _, Try.underlying106, rfl, rfl, rfl⟩
theorem eq26 (a0 : Int) (a1 : Int) (b0 : Int) (b1 : Int) : EqT Try.prog 26 [.int .i64 a0, .int .i64 a1] [.int .i64 b0, .int .i64 b1] (((a0 == b0) && (a1 == b1))) := ⟨Try.eqGuardType26, fun w => by
  simp [go_sem, Try.underlying26, Try.underlying3, Try.isAgg26, Try.isAgg3, Try.sizeOf26, Try.sizeOf3, Try.stoodInHeld26]
  (repeat' split) <;> simp_all⟩
theorem vt72 : VarT Try.prog 72 1 false := ⟨Try.isAgg72, Try.sizeOf72⟩
theorem bt82 : ∀ parts, Try.prog.built 82 parts = Instr.fill (fun i => some (i * 1, 1)) (AV.denL (fun _ => undef) [.val (.int .i64 0), .val (.int .i64 0)]).toArray parts := fun _ => by kernel_rfl
theorem vt82 : VarT Try.prog 82 2 true := ⟨Try.isAgg82, Try.sizeOf82⟩
/- slices_IndexFunc_Lapi_TrainPair_api_TrainPair -/
def ev_slices_IndexFunc_Lapi_TrainPair_api_TrainPair_l0 (n : Nat) (s1 : List (Int × Int)) (f2 : (Int × Int) → Option Bool) : Nat → Int → Option Int
  | 0, _ => none
  | m + 1, i3 => cond (decide (i3 < (s1.length : Int))) (idx s1 i3 fun x4 => (f2 (x4.1, x4.2)).bind fun r5 => cond r5 (some i3) (chk (in64 (i3 + 1)) <| ev_slices_IndexFunc_Lapi_TrainPair_api_TrainPair_l0 n s1 f2 m (i3 + 1))) (some (-1))
set_option maxRecDepth 100000 in
set_option maxHeartbeats 2000000 in
theorem ok_slices_IndexFunc_Lapi_TrainPair_api_TrainPair_l0 {n : Nat} {w0 : World} {R0 : Nat → Prop} {env0 : Env} {r : Int} {s1 : List (Int × Int)} {f2 : (Int × Int) → Option Bool} : ∀ (m : Nat) (i3 : Int), ev_slices_IndexFunc_Lapi_TrainPair_api_TrainPair_l0 n s1 f2 m i3 = some r → TC Try.prog ⟨w0, fun _ => False, R0⟩ 19 (bodyPost Try.prog Try.f81 (Post ⟨w0, fun _ => False, R0⟩ env0 (.val (.int .i64 r)) [])) [.code (sub (bodyOf Try.f81) [1, 0, 1, 0, 0, 0]), .code (sub (bodyOf Try.f81) [1, 0, 1, 0, 0, 1]), .inLoop (sub (bodyOf Try.f81) [1, 0, 1, 0, 0]), .inBlock 0, .code (sub (bodyOf Try.f81) [1, 1])] ([(0, .ref 0), (1, .ref 1), (7, .val (.int .i64 (s1.length : Int))), (8, .val (.int .i64 i3))]) ([.ro 0 2 (List.map en_api_TrainPair s1), .any 1 (D.fn Try.prog fe_funcapi_TrainPair_bool fd_funcapi_TrainPair_bool f2)]) := by
  intro m
  induction m with
  | zero => intro i3 h; exact none_no h
  | succ m ih =>
    intro i3 h
    rw [ev_slices_IndexFunc_Lapi_TrainPair_api_TrainPair_l0] at h
    refine TC.region ?_
    refine op0 (sp_lss rfl rfl rfl) rfl trivial rfl rfl ?_
    refine TL.nil ?_
    refine TC.seq ?_
    refine TC.cond (b := (decide (i3 < (s1.length : Int)))) rfl (fun h1 => ?_) (fun h1 => ?_)
    · have h := cond_t h h1
      refine TC.skip ?_
      refine TC.seq ?_
      refine TC.block ?_
      refine TC.seq ?_
      refine TC.region ?_
      refine op0 (sp_move rfl rfl) rfl trivial rfl rfl ?_
      refine op0 (sp_assign rfl rfl) rfl trivial rfl rfl ?_
      refine TL.nil ?_
      refine TC.seq ?_
      refine TC.region ?_
      refine op0 (sp_move rfl rfl) rfl trivial rfl rfl ?_
      refine op0 (sp_move rfl rfl) rfl trivial rfl rfl ?_
      refine op0 (sp_move rfl rfl) rfl trivial rfl rfl ?_
      obtain ⟨x4, h2, h3, h⟩ := idx_inv h
      refine op1 0 rfl (sp_indexS rfl rfl rfl isRo sl22 h2 (map_get _ h3)) rfl trivial rfl rfl ?_
      refine op1 0 rfl (sp_loadRA (i := (i3 : Int).toNat) (j := 0) (as_ := [.val (.int .i64 x4.1), .val (.int .i64 x4.2)]) (ns := []) rfl rfl isRo vt33 rfl (map_get _ h3) rfl rfl (by decide) (.v (.v (.nil))) (nodup_of_B rfl)) rfl trivial rfl rfl ?_
      obtain ⟨r5, h4, h⟩ := bind_inv h
      refine op1 1 rfl (sp_callF (avs := [.agg [.val (.int .i64 x4.1), .val (.int .i64 x4.2)]]) (v := .val (.bool r5)) (x4.1, x4.2) rfl rfl rfl rfl rfl h4) rfl trivial rfl rfl ?_
      refine TL.nil ?_
      refine TC.cond (b := r5) rfl (fun h5 => ?_) (fun h5 => ?_)
      · have h := cond_t h h5
        refine TC.seq ?_
        refine TC.region ?_
        refine op0 (sp_move rfl rfl) rfl trivial rfl rfl ?_
        refine op0 (sp_assign rfl rfl) rfl trivial rfl rfl ?_
        refine TL.nil ?_
        cases h
        exact retJ [] (.tmp rfl .nil) rfl trivial rfl rfl
      · have h := cond_f h h5
        refine TC.skip ?_
        refine TC.inBlock ?_
        refine TC.region ?_
        obtain ⟨h6, h⟩ := chk_inv h
        refine op0 (sp_add rfl rfl rfl h6) rfl trivial rfl rfl ?_
        refine op0 (sp_move rfl rfl) rfl trivial rfl rfl ?_
        refine TL.nil ?_
        refine TC.inLoop ?_
        refine TC.seq ?_
        refine subJ [] (ih _ h) ?_ ?_ ?_
        · exact ⟨rfl, rfl, rfl, rfl, trivial⟩
        · exact ⟨mem_at 0 rfl, mem_at 1 rfl, trivial⟩
        · rfl
    · have h := cond_f h h1
      refine TC.exit rfl ?_
      refine TC.seq ?_
      refine TC.region ?_
      refine op0 (sp_assign rfl rfl) rfl trivial rfl rfl ?_
      refine TL.nil ?_
      cases h
      exact retJ [] (.tmp rfl .nil) rfl trivial rfl rfl
def ev_slices_IndexFunc_Lapi_TrainPair_api_TrainPair (n : Nat) (s1 : List (Int × Int)) (f2 : (Int × Int) → Option Bool) : Option Int :=
  ev_slices_IndexFunc_Lapi_TrainPair_api_TrainPair_l0 n s1 f2 n 0
set_option maxRecDepth 100000 in
set_option maxHeartbeats 2000000 in
theorem fc_slices_IndexFunc_Lapi_TrainPair_api_TrainPair {n : Nat} {s1 : List (Int × Int)} {f2 : (Int × Int) → Option Bool} {r : Int} (h : ev_slices_IndexFunc_Lapi_TrainPair_api_TrainPair n s1 f2 = some r) : FC Try.prog 81 [.ref 0, .ref 1] [.ro 0 2 (List.map en_api_TrainPair s1), .any 1 (D.fn Try.prog fe_funcapi_TrainPair_bool fd_funcapi_TrainPair_bool f2)] (.val (.int .i64 r)) [] := by
  refine introJ (nz := 19) Try.func81 rfl rfl rfl (fun w0 R0 env0 => ?_)
  rw [ev_slices_IndexFunc_Lapi_TrainPair_api_TrainPair] at h
  refine TC.seq ?_
  refine TC.region ?_
  refine op0 (sp_assign rfl rfl) rfl trivial rfl rfl ?_
  refine TL.nil ?_
  refine TC.seq ?_
  refine TC.seq ?_
  refine TC.region ?_
  refine op0 (sp_move rfl rfl) rfl trivial rfl rfl ?_
  refine op1 0 rfl (sp_lenM (N := s1.length) (len_map _ _) rfl rfl isRo Try.underlying22) rfl trivial rfl rfl ?_
  refine op0 (sp_move rfl rfl) rfl trivial rfl rfl ?_
  refine TL.nil ?_
  refine TC.block ?_
  refine TC.loop ?_
  refine TC.seq ?_
  refine subJ [] (ok_slices_IndexFunc_Lapi_TrainPair_api_TrainPair_l0 _ _ h) ?_ ?_ ?_
  · exact ⟨rfl, rfl, rfl, rfl, trivial⟩
  · exact ⟨mem_at 0 rfl, mem_at 1 rfl, trivial⟩
  · rfl
/- slices_ContainsFunc_Lapi_TrainPair_api_TrainPair -/
def ev_slices_ContainsFunc_Lapi_TrainPair_api_TrainPair (n : Nat) (s1 : List (Int × Int)) (f2 : (Int × Int) → Option Bool) : Option Bool :=
  (ev_slices_IndexFunc_Lapi_TrainPair_api_TrainPair n s1 f2).bind fun r3 => some (decide ((0 : Int) ≤ r3))
set_option maxRecDepth 100000 in
set_option maxHeartbeats 2000000 in
theorem fc_slices_ContainsFunc_Lapi_TrainPair_api_TrainPair {n : Nat} {s1 : List (Int × Int)} {f2 : (Int × Int) → Option Bool} {r : Bool} (h : ev_slices_ContainsFunc_Lapi_TrainPair_api_TrainPair n s1 f2 = some r) : FC Try.prog 67 [.ref 0, .ref 1] [.ro 0 2 (List.map en_api_TrainPair s1), .any 1 (D.fn Try.prog fe_funcapi_TrainPair_bool fd_funcapi_TrainPair_bool f2)] (.val (.bool r)) [] := by
  refine introJ (nz := 9) Try.func67 rfl rfl rfl (fun w0 R0 env0 => ?_)
  rw [ev_slices_ContainsFunc_Lapi_TrainPair_api_TrainPair] at h
  refine TC.seq ?_
  refine TC.region ?_
  refine op0 (sp_assign rfl rfl) rfl trivial rfl rfl ?_
  refine TL.nil ?_
  refine TC.seq ?_
  refine TC.region ?_
  refine op0 (sp_move rfl rfl) rfl trivial rfl rfl ?_
  refine op0 (sp_move rfl rfl) rfl trivial rfl rfl ?_
  obtain ⟨r3, h1, h⟩ := bind_inv h
  refine opN (need := [.ro 0 2 (List.map en_api_TrainPair s1), .any 1 (D.fn Try.prog fe_funcapi_TrainPair_bool fd_funcapi_TrainPair_bool f2)]) [0, 1] ⟨rfl, rfl, trivial⟩ (sp_call (avs := [.ref 0, .ref 1]) (need := [.ro 0 2 (List.map en_api_TrainPair s1), .any 1 (D.fn Try.prog fe_funcapi_TrainPair_bool fd_funcapi_TrainPair_bool f2)]) (v := .val (.int .i64 r3)) (news := []) rfl rfl rfl Try.call81 (atJ [] [] (fc_slices_IndexFunc_Lapi_TrainPair_api_TrainPair h1) rfl rfl) (.inl (roAll rfl))) rfl trivial rfl rfl ?_
  refine op0 (sp_geq rfl rfl rfl) rfl trivial rfl rfl ?_
  refine op0 (sp_assign rfl rfl) rfl trivial rfl rfl ?_
  refine TL.nil ?_
  cases h
  exact retJ [] (.tmp rfl .nil) rfl trivial rfl rfl
/- slices_IndexFunc_Lint_int -/
def ev_slices_IndexFunc_Lint_int_l0 (n : Nat) (s1 : List Int) (f2 : Int → Option Bool) : Nat → Int → Option Int
  | 0, _ => none
  | m + 1, i3 => cond (decide (i3 < (s1.length : Int))) (idx s1 i3 fun x4 => (f2 x4).bind fun r5 => cond r5 (some i3) (chk (in64 (i3 + 1)) <| ev_slices_IndexFunc_Lint_int_l0 n s1 f2 m (i3 + 1))) (some (-1))
set_option maxRecDepth 100000 in
set_option maxHeartbeats 2000000 in
theorem ok_slices_IndexFunc_Lint_int_l0 {n : Nat} {w0 : World} {R0 : Nat → Prop} {env0 : Env} {r : Int} {s1 : List Int} {f2 : Int → Option Bool} : ∀ (m : Nat) (i3 : Int), ev_slices_IndexFunc_Lint_int_l0 n s1 f2 m i3 = some r → TC Try.prog ⟨w0, fun _ => False, R0⟩ 19 (bodyPost Try.prog Try.f73 (Post ⟨w0, fun _ => False, R0⟩ env0 (.val (.int .i64 r)) [])) [.code (sub (bodyOf Try.f73) [1, 0, 1, 0, 0, 0]), .code (sub (bodyOf Try.f73) [1, 0, 1, 0, 0, 1]), .inLoop (sub (bodyOf Try.f73) [1, 0, 1, 0, 0]), .inBlock 0, .code (sub (bodyOf Try.f73) [1, 1])] ([(0, .ref 0), (1, .ref 1), (7, .val (.int .i64 (s1.length : Int))), (8, .val (.int .i64 i3))]) ([.ro 0 1 (List.map en_int s1), .any 1 (D.fn Try.prog fe_funcint_bool fd_funcint_bool f2)]) := by
  intro m
  induction m with
  | zero => intro i3 h; exact none_no h
  | succ m ih =>
    intro i3 h
    rw [ev_slices_IndexFunc_Lint_int_l0] at h
    refine TC.region ?_
    refine op0 (sp_lss rfl rfl rfl) rfl trivial rfl rfl ?_
    refine TL.nil ?_
    refine TC.seq ?_
    refine TC.cond (b := (decide (i3 < (s1.length : Int)))) rfl (fun h1 => ?_) (fun h1 => ?_)
    · have h := cond_t h h1
      refine TC.skip ?_
      refine TC.seq ?_
      refine TC.block ?_
      refine TC.seq ?_
      refine TC.region ?_
      refine op0 (sp_move rfl rfl) rfl trivial rfl rfl ?_
      refine op0 (sp_assign rfl rfl) rfl trivial rfl rfl ?_
      refine TL.nil ?_
      refine TC.seq ?_
      refine TC.region ?_
      refine op0 (sp_move rfl rfl) rfl trivial rfl rfl ?_
      refine op0 (sp_move rfl rfl) rfl trivial rfl rfl ?_
      refine op0 (sp_move rfl rfl) rfl trivial rfl rfl ?_
      obtain ⟨x4, h2, h3, h⟩ := idx_inv h
      refine op1 0 rfl (sp_indexS rfl rfl rfl isRo sl38 h2 (map_get _ h3)) rfl trivial rfl rfl ?_
      refine op1 0 rfl (sp_loadR (i := (i3 : Int).toNat) (j := 0) rfl rfl isRo vt3 rfl (map_get _ h3) rfl (.v (.nil)) (nodup_of_B rfl)) rfl trivial rfl rfl ?_
      obtain ⟨r5, h4, h⟩ := bind_inv h
      refine op1 1 rfl (sp_callF (avs := [.val (.int .i64 x4)]) (v := .val (.bool r5)) x4 rfl rfl rfl rfl rfl h4) rfl trivial rfl rfl ?_
      refine TL.nil ?_
      refine TC.cond (b := r5) rfl (fun h5 => ?_) (fun h5 => ?_)
      · have h := cond_t h h5
        refine TC.seq ?_
        refine TC.region ?_
        refine op0 (sp_move rfl rfl) rfl trivial rfl rfl ?_
        refine op0 (sp_assign rfl rfl) rfl trivial rfl rfl ?_
        refine TL.nil ?_
        cases h
        exact retJ [] (.tmp rfl .nil) rfl trivial rfl rfl
      · have h := cond_f h h5
        refine TC.skip ?_
        refine TC.inBlock ?_
        refine TC.region ?_
        obtain ⟨h6, h⟩ := chk_inv h
        refine op0 (sp_add rfl rfl rfl h6) rfl trivial rfl rfl ?_
        refine op0 (sp_move rfl rfl) rfl trivial rfl rfl ?_
        refine TL.nil ?_
        refine TC.inLoop ?_
        refine TC.seq ?_
        refine subJ [] (ih _ h) ?_ ?_ ?_
        · exact ⟨rfl, rfl, rfl, rfl, trivial⟩
        · exact ⟨mem_at 0 rfl, mem_at 1 rfl, trivial⟩
        · rfl
    · have h := cond_f h h1
      refine TC.exit rfl ?_
      refine TC.seq ?_
      refine TC.region ?_
      refine op0 (sp_assign rfl rfl) rfl trivial rfl rfl ?_
      refine TL.nil ?_
      cases h
      exact retJ [] (.tmp rfl .nil) rfl trivial rfl rfl
def ev_slices_IndexFunc_Lint_int (n : Nat) (s1 : List Int) (f2 : Int → Option Bool) : Option Int :=
  ev_slices_IndexFunc_Lint_int_l0 n s1 f2 n 0
set_option maxRecDepth 100000 in
set_option maxHeartbeats 2000000 in
theorem fc_slices_IndexFunc_Lint_int {n : Nat} {s1 : List Int} {f2 : Int → Option Bool} {r : Int} (h : ev_slices_IndexFunc_Lint_int n s1 f2 = some r) : FC Try.prog 73 [.ref 0, .ref 1] [.ro 0 1 (List.map en_int s1), .any 1 (D.fn Try.prog fe_funcint_bool fd_funcint_bool f2)] (.val (.int .i64 r)) [] := by
  refine introJ (nz := 19) Try.func73 rfl rfl rfl (fun w0 R0 env0 => ?_)
  rw [ev_slices_IndexFunc_Lint_int] at h
  refine TC.seq ?_
  refine TC.region ?_
  refine op0 (sp_assign rfl rfl) rfl trivial rfl rfl ?_
  refine TL.nil ?_
  refine TC.seq ?_
  refine TC.seq ?_
  refine TC.region ?_
  refine op0 (sp_move rfl rfl) rfl trivial rfl rfl ?_
  refine op1 0 rfl (sp_lenM (N := s1.length) (len_map _ _) rfl rfl isRo Try.underlying38) rfl trivial rfl rfl ?_
  refine op0 (sp_move rfl rfl) rfl trivial rfl rfl ?_
  refine TL.nil ?_
  refine TC.block ?_
  refine TC.loop ?_
  refine TC.seq ?_
  refine subJ [] (ok_slices_IndexFunc_Lint_int_l0 _ _ h) ?_ ?_ ?_
  · exact ⟨rfl, rfl, rfl, rfl, trivial⟩
  · exact ⟨mem_at 0 rfl, mem_at 1 rfl, trivial⟩
  · rfl
/- slices_ContainsFunc_Lint_int -/
def ev_slices_ContainsFunc_Lint_int (n : Nat) (s1 : List Int) (f2 : Int → Option Bool) : Option Bool :=
  (ev_slices_IndexFunc_Lint_int n s1 f2).bind fun r3 => some (decide ((0 : Int) ≤ r3))
set_option maxRecDepth 100000 in
set_option maxHeartbeats 2000000 in
theorem fc_slices_ContainsFunc_Lint_int {n : Nat} {s1 : List Int} {f2 : Int → Option Bool} {r : Bool} (h : ev_slices_ContainsFunc_Lint_int n s1 f2 = some r) : FC Try.prog 56 [.ref 0, .ref 1] [.ro 0 1 (List.map en_int s1), .any 1 (D.fn Try.prog fe_funcint_bool fd_funcint_bool f2)] (.val (.bool r)) [] := by
  refine introJ (nz := 9) Try.func56 rfl rfl rfl (fun w0 R0 env0 => ?_)
  rw [ev_slices_ContainsFunc_Lint_int] at h
  refine TC.seq ?_
  refine TC.region ?_
  refine op0 (sp_assign rfl rfl) rfl trivial rfl rfl ?_
  refine TL.nil ?_
  refine TC.seq ?_
  refine TC.region ?_
  refine op0 (sp_move rfl rfl) rfl trivial rfl rfl ?_
  refine op0 (sp_move rfl rfl) rfl trivial rfl rfl ?_
  obtain ⟨r3, h1, h⟩ := bind_inv h
  refine opN (need := [.ro 0 1 (List.map en_int s1), .any 1 (D.fn Try.prog fe_funcint_bool fd_funcint_bool f2)]) [0, 1] ⟨rfl, rfl, trivial⟩ (sp_call (avs := [.ref 0, .ref 1]) (need := [.ro 0 1 (List.map en_int s1), .any 1 (D.fn Try.prog fe_funcint_bool fd_funcint_bool f2)]) (v := .val (.int .i64 r3)) (news := []) rfl rfl rfl Try.call73 (atJ [] [] (fc_slices_IndexFunc_Lint_int h1) rfl rfl) (.inl (roAll rfl))) rfl trivial rfl rfl ?_
  refine op0 (sp_geq rfl rfl rfl) rfl trivial rfl rfl ?_
  refine op0 (sp_assign rfl rfl) rfl trivial rfl rfl ?_
  refine TL.nil ?_
  cases h
  exact retJ [] (.tmp rfl .nil) rfl trivial rfl rfl
/- cmp_isNaN_int -/
def ev_cmp_isNaN_int (n : Nat) (x1 : Int) : Option Bool :=
  some (x1 != x1)
set_option maxRecDepth 100000 in
set_option maxHeartbeats 2000000 in
theorem fc_cmp_isNaN_int {n : Nat} {x1 : Int} {r : Bool} (h : ev_cmp_isNaN_int n x1 = some r) : FC Try.prog 82 [.val (.int .i64 x1)] [] (.val (.bool r)) [] := by
  refine introJ (nz := 6) Try.func82 rfl rfl rfl (fun w0 R0 env0 => ?_)
  rw [ev_cmp_isNaN_int] at h
  refine TC.seq ?_
  refine TC.region ?_
  refine op0 (sp_assign rfl rfl) rfl trivial rfl rfl ?_
  refine TL.nil ?_
  refine TC.seq ?_
  refine TC.region ?_
  refine op0 (sp_move rfl rfl) rfl trivial rfl rfl ?_
  refine op0 (sp_move rfl rfl) rfl trivial rfl rfl ?_
  refine op0 (sp_neq rfl rfl rfl) rfl trivial rfl rfl ?_
  refine op0 (sp_assign rfl rfl) rfl trivial rfl rfl ?_
  refine TL.nil ?_
  cases h
  exact retJ [] (.tmp rfl .nil) rfl trivial rfl rfl
/- cmp_Less_int -/
def ev_cmp_Less_int (n : Nat) (x1 : Int) (y2 : Int) : Option Bool :=
  (ev_cmp_isNaN_int n x1).bind fun r3 => cond r3 ((ev_cmp_isNaN_int n y2).bind fun r4 => cond (!r4) (some true) (some (decide (x1 < y2)))) (some (decide (x1 < y2)))
set_option maxRecDepth 100000 in
set_option maxHeartbeats 2000000 in
theorem fc_cmp_Less_int {n : Nat} {x1 : Int} {y2 : Int} {r : Bool} (h : ev_cmp_Less_int n x1 y2 = some r) : FC Try.prog 70 [.val (.int .i64 x1), .val (.int .i64 y2)] [] (.val (.bool r)) [] := by
  refine introJ (nz := 17) Try.func70 rfl rfl rfl (fun w0 R0 env0 => ?_)
  rw [ev_cmp_Less_int] at h
  refine TC.seq ?_
  refine TC.region ?_
  refine op0 (sp_assign rfl rfl) rfl trivial rfl rfl ?_
  refine TL.nil ?_
  refine TC.seq ?_
  refine TC.region ?_
  refine op0 (sp_move rfl rfl) rfl trivial rfl rfl ?_
  obtain ⟨r3, h1, h⟩ := bind_inv h
  refine op0 (sp_call (avs := [.val (.int .i64 x1)]) (need := []) (v := .val (.bool r3)) (news := []) rfl rfl rfl Try.call82 (atJ [] [] (fc_cmp_isNaN_int h1) rfl rfl) (.inl (roAll rfl))) rfl trivial rfl rfl ?_
  refine op0 (sp_move rfl rfl) rfl trivial rfl rfl ?_
  rcases cond_cases h with ⟨h2, h⟩ | ⟨h2, h⟩
  · refine (boolLit 7 rfl h2).2 ?_
    refine op0 (sp_move rfl rfl) rfl ⟨_, rfl, rfl⟩ rfl rfl ?_
    obtain ⟨r4, h3, h⟩ := bind_inv h
    refine op0 (sp_call (avs := [.val (.int .i64 y2)]) (need := []) (v := .val (.bool r4)) (news := []) rfl rfl rfl Try.call82 (atJ [] [] (fc_cmp_isNaN_int h3) rfl rfl) (.inl (roAll rfl))) rfl ⟨_, rfl, rfl⟩ rfl rfl ?_
    refine op0 (sp_not rfl rfl) rfl ⟨_, rfl, rfl⟩ rfl rfl ?_
    refine op0 (sp_pickT rfl rfl rfl) rfl trivial rfl rfl ?_
    refine op0 (sp_move rfl rfl) rfl trivial rfl rfl ?_
    rcases cond_cases h with ⟨h4, h⟩ | ⟨h4, h⟩
    · refine (boolLit 12 rfl h4).2 ?_
      refine opSkip rfl ⟨_, rfl, .inl rfl⟩ rfl ?_
      refine opSkip rfl ⟨_, rfl, .inl rfl⟩ rfl ?_
      refine opSkip rfl ⟨_, rfl, .inl rfl⟩ rfl ?_
      refine op0 (sp_pickT rfl rfl rfl) rfl trivial rfl rfl ?_
      refine op0 (sp_assign rfl rfl) rfl trivial rfl rfl ?_
      refine TL.nil ?_
      cases h
      exact retJ [] (.tmp rfl .nil) rfl trivial rfl rfl
    · refine (boolLit 12 rfl h4).2 ?_
      refine op0 (sp_move rfl rfl) rfl ⟨_, rfl, rfl⟩ rfl rfl ?_
      refine op0 (sp_move rfl rfl) rfl ⟨_, rfl, rfl⟩ rfl rfl ?_
      refine op0 (sp_lss rfl rfl rfl) rfl ⟨_, rfl, rfl⟩ rfl rfl ?_
      refine op0 (sp_pickF rfl rfl rfl) rfl trivial rfl rfl ?_
      refine op0 (sp_assign rfl rfl) rfl trivial rfl rfl ?_
      refine TL.nil ?_
      cases h
      exact retJ [] (.tmp rfl .nil) rfl trivial rfl rfl
  · refine (boolLit 7 rfl h2).2 ?_
    refine opSkip rfl ⟨_, rfl, .inl rfl⟩ rfl ?_
    refine opSkip rfl ⟨_, rfl, .inl rfl⟩ rfl ?_
    refine opSkip rfl ⟨_, rfl, .inl rfl⟩ rfl ?_
    refine op0 (sp_pickF rfl rfl rfl) rfl trivial rfl rfl ?_
    refine op0 (sp_move rfl rfl) rfl trivial rfl rfl ?_
    refine op0 (sp_move rfl rfl) rfl ⟨_, rfl, rfl⟩ rfl rfl ?_
    refine op0 (sp_move rfl rfl) rfl ⟨_, rfl, rfl⟩ rfl rfl ?_
    refine op0 (sp_lss rfl rfl rfl) rfl ⟨_, rfl, rfl⟩ rfl rfl ?_
    refine op0 (sp_pickF rfl rfl rfl) rfl trivial rfl rfl ?_
    refine op0 (sp_assign rfl rfl) rfl trivial rfl rfl ?_
    refine TL.nil ?_
    cases h
    exact retJ [] (.tmp rfl .nil) rfl trivial rfl rfl
/- slices_IsSorted_Lint_int -/
def ev_slices_IsSorted_Lint_int_l0 (n : Nat) (x1 : List Int) : Nat → Int → Option Bool
  | 0, _ => none
  | m + 1, i2 => cond (decide ((0 : Int) < i2)) (idx x1 i2 fun x3 => chk (in64 (i2 - 1)) <| idx x1 (i2 - 1) fun x4 => (ev_cmp_Less_int n x3 x4).bind fun r5 => cond r5 (some false) (chk (in64 (i2 - 1)) <| ev_slices_IsSorted_Lint_int_l0 n x1 m (i2 - 1))) (some true)
set_option maxRecDepth 100000 in
set_option maxHeartbeats 2000000 in
theorem ok_slices_IsSorted_Lint_int_l0 {n : Nat} {w0 : World} {R0 : Nat → Prop} {env0 : Env} {r : Bool} {x1 : List Int} : ∀ (m : Nat) (i2 : Int), ev_slices_IsSorted_Lint_int_l0 n x1 m i2 = some r → TC Try.prog ⟨w0, fun _ => False, R0⟩ 21 (bodyPost Try.prog Try.f50 (Post ⟨w0, fun _ => False, R0⟩ env0 (.val (.bool r)) [])) [.code (sub (bodyOf Try.f50) [1, 0, 1, 0, 0, 0, 0]), .code (sub (bodyOf Try.f50) [1, 0, 1, 0, 0, 0, 1]), .code (sub (bodyOf Try.f50) [1, 0, 1, 0, 0, 1]), .inLoop (sub (bodyOf Try.f50) [1, 0, 1, 0, 0]), .inBlock 0, .code (sub (bodyOf Try.f50) [1, 1])] ([(0, .ref 0), (3, .val (.int .i64 i2))]) ([.ro 0 1 (List.map en_int x1)]) := by
  intro m
  induction m with
  | zero => intro i2 h; exact none_no h
  | succ m ih =>
    intro i2 h
    rw [ev_slices_IsSorted_Lint_int_l0] at h
    refine TC.region ?_
    refine op0 (sp_move rfl rfl) rfl trivial rfl rfl ?_
    refine op0 (sp_gtr rfl rfl rfl) rfl trivial rfl rfl ?_
    refine TL.nil ?_
    refine TC.cond (b := (decide ((0 : Int) < i2))) rfl (fun h2 => ?_) (fun h2 => ?_)
    · have h := cond_t h h2
      refine TC.skip ?_
      refine TC.seq ?_
      refine TC.block ?_
      refine TC.seq ?_
      obtain ⟨x3, h3, h4, h⟩ := idx_inv h
      obtain ⟨h5, h⟩ := chk_inv h
      obtain ⟨x4, h6, h7, h⟩ := idx_inv h
      refine drawJ 9 [⟨.ref 0, [], [], []⟩, ⟨.val (.int .i64 i2), [], [], []⟩, ⟨.cell 0 ((i2 : Int).toNat * 1), [], [.ro 0 1 (List.map en_int x1)], []⟩, ⟨.val (.int .i64 x3), [], [.ro 0 1 (List.map en_int x1)], []⟩, ⟨.ref 0, [], [], []⟩, ⟨.val (.int .i64 i2), [], [], []⟩, ⟨.val (.int .i64 (i2 - 1)), [], [], []⟩, ⟨.cell 0 (((i2 - 1) : Int).toNat * 1), [], [.ro 0 1 (List.map en_int x1)], []⟩, ⟨.val (.int .i64 x4), [], [.ro 0 1 (List.map en_int x1)], []⟩] rfl ?_ rfl ?_ rfl ?_ ?_
      · kernel_rfl
      · kernel_rfl
      · exact DAll.op' (sp_move rfl rfl) trivial rfl (From.ok (ps := []) trivial) (DAll.op' (sp_move rfl rfl) trivial rfl (From.ok (ps := []) trivial) (DAll.op' (sp_indexS rfl rfl rfl isRo sl38 h3 (map_get _ h4)) trivial rfl (From.ok (ps := [(none, 0)]) ⟨⟨rfl, rfl⟩, trivial⟩) (DAll.op' (sp_loadR (i := (i2 : Int).toNat) (j := 0) rfl rfl isRo vt3 rfl (map_get _ h4) rfl (.v (.nil)) (nodup_of_B rfl)) trivial rfl (From.ok (ps := [(none, 0)]) ⟨⟨rfl, rfl⟩, trivial⟩) (DAll.op' (sp_move rfl rfl) trivial rfl (From.ok (ps := []) trivial) (DAll.op' (sp_move rfl rfl) trivial rfl (From.ok (ps := []) trivial) (DAll.op' (sp_sub rfl rfl rfl h5) trivial rfl (From.ok (ps := []) trivial) (DAll.op' (sp_indexS rfl rfl rfl isRo sl38 h6 (map_get _ h7)) trivial rfl (From.ok (ps := [(none, 0)]) ⟨⟨rfl, rfl⟩, trivial⟩) (DAll.op' (sp_loadR (i := ((i2 - 1) : Int).toNat) (j := 0) rfl rfl isRo vt3 rfl (map_get _ h7) rfl (.v (.nil)) (nodup_of_B rfl)) trivial rfl (From.ok (ps := [(none, 0)]) ⟨⟨rfl, rfl⟩, trivial⟩) (.nil)))))))))
      obtain ⟨r5, h8, h⟩ := bind_inv h
      refine op0 (sp_call (avs := [.val (.int .i64 x3), .val (.int .i64 x4)]) (need := []) (v := .val (.bool r5)) (news := []) rfl rfl rfl Try.call70 (atJ [] [] (fc_cmp_Less_int h8) rfl rfl) (.inl (roAll rfl))) rfl trivial rfl rfl ?_
      refine TL.nil ?_
      refine TC.cond (b := r5) rfl (fun h9 => ?_) (fun h9 => ?_)
      · have h := cond_t h h9
        refine TC.seq ?_
        refine TC.region ?_
        refine op0 (sp_assign rfl rfl) rfl trivial rfl rfl ?_
        refine TL.nil ?_
        cases h
        exact retJ [] (.tmp rfl .nil) rfl trivial rfl rfl
      · have h := cond_f h h9
        refine TC.skip ?_
        refine TC.inBlock ?_
        refine TC.region ?_
        refine op0 (sp_move rfl rfl) rfl trivial rfl rfl ?_
        obtain ⟨h10, h⟩ := chk_inv h
        refine op0 (sp_sub rfl rfl rfl h10) rfl trivial rfl rfl ?_
        refine op0 (sp_assign rfl rfl) rfl trivial rfl rfl ?_
        refine TL.nil ?_
        refine TC.inLoop ?_
        refine TC.seq ?_
        refine TC.seq ?_
        refine subJ [] (ih _ h) ?_ ?_ ?_
        · exact ⟨rfl, rfl, trivial⟩
        · exact ⟨mem_at 0 rfl, trivial⟩
        · rfl
    · have h := cond_f h h2
      refine TC.exit rfl ?_
      refine TC.seq ?_
      refine TC.region ?_
      refine op0 (sp_assign rfl rfl) rfl trivial rfl rfl ?_
      refine TL.nil ?_
      cases h
      exact retJ [] (.tmp rfl .nil) rfl trivial rfl rfl
def ev_slices_IsSorted_Lint_int (n : Nat) (x1 : List Int) : Option Bool :=
  chk (in64 ((x1.length : Int) - 1)) <| ev_slices_IsSorted_Lint_int_l0 n x1 n ((x1.length : Int) - 1)
set_option maxRecDepth 100000 in
set_option maxHeartbeats 2000000 in
theorem fc_slices_IsSorted_Lint_int {n : Nat} {x1 : List Int} {r : Bool} (h : ev_slices_IsSorted_Lint_int n x1 = some r) : FC Try.prog 50 [.ref 0] [.ro 0 1 (List.map en_int x1)] (.val (.bool r)) [] := by
  refine introJ (nz := 21) Try.func50 rfl rfl rfl (fun w0 R0 env0 => ?_)
  rw [ev_slices_IsSorted_Lint_int] at h
  refine TC.seq ?_
  refine TC.region ?_
  refine op0 (sp_assign rfl rfl) rfl trivial rfl rfl ?_
  refine TL.nil ?_
  refine TC.seq ?_
  refine TC.seq ?_
  refine TC.region ?_
  refine op0 (sp_move rfl rfl) rfl trivial rfl rfl ?_
  refine op1 0 rfl (sp_lenM (N := x1.length) (len_map _ _) rfl rfl isRo Try.underlying38) rfl trivial rfl rfl ?_
  obtain ⟨h1, h⟩ := chk_inv h
  refine op0 (sp_sub rfl rfl rfl h1) rfl trivial rfl rfl ?_
  refine op0 (sp_assign rfl rfl) rfl trivial rfl rfl ?_
  refine TL.nil ?_
  refine TC.block ?_
  refine TC.loop ?_
  refine TC.seq ?_
  refine TC.seq ?_
  refine subJ [] (ok_slices_IsSorted_Lint_int_l0 _ _ h) ?_ ?_ ?_
  · exact ⟨rfl, rfl, trivial⟩
  · exact ⟨mem_at 0 rfl, trivial⟩
  · rfl
/- slices_Clone_Lint_int -/
def ev_slices_Clone_Lint_int (n : Nat) (s1 : List Int) : Option ((List Int)) :=
  chk (room 8 (([] : List Int).length + s1.length)) <| some (([] : List Int) ++ s1)
set_option maxRecDepth 100000 in
set_option maxHeartbeats 2000000 in
theorem fc_slices_Clone_Lint_int {n : Nat} {s1 : List Int} {r : (List Int)} (h : ev_slices_Clone_Lint_int n s1 = some r) : FC Try.prog 52 [.ref 0] [.ro 0 1 (List.map en_int s1)] (.ref 0) [.row 0 3 1 (List.map en_int r)] := by
  refine introJ (nz := 8) Try.func52 rfl rfl rfl (fun w0 R0 env0 => ?_)
  rw [ev_slices_Clone_Lint_int] at h
  refine TC.seq ?_
  refine TC.region ?_
  refine op0 (sp_assign rfl rfl) rfl trivial rfl rfl ?_
  refine TL.nil ?_
  refine TC.seq ?_
  refine TC.seq ?_
  refine TC.region ?_
  refine op0 (sp_move rfl rfl) rfl trivial rfl rfl ?_
  refine op1 0 rfl (sp_eqNil 1 rfl Try.underlying38 rfl rfl isRo (len_map _ _)) rfl trivial rfl rfl ?_
  refine TL.nil ?_
  refine condNil 0 rfl rfl (fun hN => ?_) ?_
  · have hx := List.eq_nil_of_length_eq_zero hN
    subst hx
    repeat (have h := (chk_inv h).2)
    refine TC.seq ?_
    refine TC.region ?_
    refine op0 (sp_assign rfl rfl) rfl trivial rfl rfl ?_
    refine TL.nil ?_
    refine nilRowC 2 2 3 1 (List.map en_int []) rfl rfl rfl ?_
    cases h
    exact retJ [(0, 2)] (.tmp rfl .nil) rfl ⟨mem_at 0 rfl, trivial⟩ rfl rfl
  · refine TC.skip ?_
    refine TC.seq ?_
    refine TC.region ?_
    refine op0 (sp_emptyM 3 (List.map en_int []) rfl rfl sl38) rfl trivial rfl rfl ?_
    refine op0 (sp_move rfl rfl) rfl trivial rfl rfl ?_
    obtain ⟨h1, h⟩ := chk_inv h
    refine appM 0 2 (N := ([] : List Int).length) (N2 := s1.length) 4 rfl rfl trivial rfl rfl rfl rfl rfl isRo rfl sl38 (len_map _ _) (len_map _ _) h1 (map_app _ _ _) rfl ?_
    refine op0 (sp_assign rfl rfl) rfl trivial rfl rfl ?_
    refine TL.nil ?_
    cases h
    exact retJ [(0, 4)] (.tmp rfl .nil) rfl ⟨mem_at 0 rfl, trivial⟩ rfl rfl
/- slices_Compact_Lint_int -/
def rn_slices_Compact_Lint_int : Shelf.Ren := ⟨fun _ => 51, fun n => match n with | 0 => 0 | 3 => 3 | 4 => 4 | 22 => 38 | _ => 0, fun x => x⟩
theorem lays_slices_Compact_Lint_int : Lays2.n20 Try.prog rn_slices_Compact_Lint_int where
  mixed := rfl
  f20 := Try.func51.trans (congrArg some (by kernel_rfl))
  t0 := Try.underlying0
  a0 := Try.isAgg0
  z0 := Try.sizeOf0
  v0 := Try.zeroValue0
  t3 := Try.underlying3
  a3 := Try.isAgg3
  z3 := Try.sizeOf3
  v3 := Try.zeroValue3
  t4 := Try.underlying4
  a4 := Try.isAgg4
  z4 := Try.sizeOf4
  v4 := Try.zeroValue4
  t22 := Try.underlying38
  a22 := Try.isAgg38
  z22 := Try.sizeOf38
  v22 := Try.zeroValue38
  i3 := by kernel_rfl
def ev_slices_Compact_Lint_int (n : Nat) (s1 : List Int) : Option (List Int) := chk (room 8 s1.length) (some (Lib.compact s1))
theorem ft_slices_Compact_Lint_int {n : Nat} {s1 : List Int} {r : List Int} (h : ev_slices_Compact_Lint_int n s1 = some r) : FT Try.prog 51 [.ref 0] [.row 0 3 1 (List.map en_int s1)] [] (.ref 500) [.row 500 3 1 (List.map en_int r)] := by
  obtain ⟨h1, h⟩ := chk_inv h
  cases h
  exact ft_compactI lays_slices_Compact_Lint_int 500 rfl h1
/- slices_Clip_Lint_int -/
def ev_slices_Clip_Lint_int (n : Nat) (s1 : List Int) : Option ((List Int)) :=
  some s1
set_option maxRecDepth 100000 in
set_option maxHeartbeats 2000000 in
theorem fc_slices_Clip_Lint_int {n : Nat} {s1 : List Int} {r : (List Int)} (h : ev_slices_Clip_Lint_int n s1 = some r) : FC Try.prog 94 [.ref 0] [.ro 0 1 (List.map en_int s1)] (.ref 0) [.any 0 (D.clip 1 (List.map en_int r))] := by
  refine introJ (nz := 9) Try.func94 rfl rfl rfl (fun w0 R0 env0 => ?_)
  rw [ev_slices_Clip_Lint_int] at h
  refine TC.seq ?_
  refine TC.region ?_
  refine op0 (sp_assign rfl rfl) rfl trivial rfl rfl ?_
  refine TL.nil ?_
  refine TC.seq ?_
  refine TC.region ?_
  refine op0 (sp_move rfl rfl) rfl trivial rfl rfl ?_
  refine op0 (sp_move rfl rfl) rfl trivial rfl rfl ?_
  refine op1 0 rfl (sp_lenM (N := s1.length) (len_map _ _) rfl rfl isRo Try.underlying38) rfl trivial rfl rfl ?_
  refine op0 (sp_move rfl rfl) rfl trivial rfl rfl ?_
  refine op1 0 rfl (sp_lenM (N := s1.length) (len_map _ _) rfl rfl isRo Try.underlying38) rfl trivial rfl rfl ?_
  refine op1 0 rfl (sp_clip 1 (len_map _ _) rfl rfl sl38 rfl rfl) rfl trivial rfl rfl ?_
  refine op0 (sp_assign rfl rfl) rfl trivial rfl rfl ?_
  refine TL.nil ?_
  cases h
  exact retJ [(0, 1)] (.tmp rfl .nil) rfl ⟨mem_at 0 rfl, trivial⟩ rfl rfl
/- slices_Sort_Lint_int -/
def rn_slices_Sort_Lint_int : Shelf.Ren := ⟨fun n => match n with | 125 => 75 | 128 => 91 | 129 => 92 | 189 => 58 | 215 => 82 | 216 => 70 | 257 => 74 | 294 => 83 | 295 => 84 | 296 => 85 | 297 => 86 | 298 => 87 | 299 => 88 | 300 => 89 | 301 => 90 | 328 => 96 | 329 => 97 | 330 => 98 | 331 => 99 | 332 => 100 | 343 => 101 | _ => 0, fun n => match n with | 0 => 0 | 3 => 3 | 4 => 4 | 5 => 5 | 9 => 9 | 28 => 38 | 46 => 120 | 51 => 139 | 53 => 141 | 131 => 136 | 182 => 131 | 183 => 132 | 218 => 144 | 222 => 148 | 228 => 150 | 229 => 83 | _ => 0, fun x => x⟩
theorem lays_slices_Sort_Lint_int : Lays.n189 Try.prog rn_slices_Sort_Lint_int where
  mixed := rfl
  f125 := Try.func75.trans (congrArg some (by kernel_rfl))
  f128 := Try.func91.trans (congrArg some (by kernel_rfl))
  f129 := Try.func92.trans (congrArg some (by kernel_rfl))
  f189 := Try.func58.trans (congrArg some (by kernel_rfl))
  f215 := Try.func82.trans (congrArg some (by kernel_rfl))
  f216 := Try.func70.trans (congrArg some (by kernel_rfl))
  f257 := Try.func74.trans (congrArg some (by kernel_rfl))
  f294 := Try.func83.trans (congrArg some (by kernel_rfl))
  f295 := Try.func84.trans (congrArg some (by kernel_rfl))
  f296 := Try.func85.trans (congrArg some (by kernel_rfl))
  f297 := Try.func86.trans (congrArg some (by kernel_rfl))
  f298 := Try.func87.trans (congrArg some (by kernel_rfl))
  f299 := Try.func88.trans (congrArg some (by kernel_rfl))
  f300 := Try.func89.trans (congrArg some (by kernel_rfl))
  f301 := Try.func90.trans (congrArg some (by kernel_rfl))
  f328 := Try.func96.trans (congrArg some (by kernel_rfl))
  f329 := Try.func97.trans (congrArg some (by kernel_rfl))
  f330 := Try.func98.trans (congrArg some (by kernel_rfl))
  f331 := Try.func99.trans (congrArg some (by kernel_rfl))
  f332 := Try.func100.trans (congrArg some (by kernel_rfl))
  f343 := Try.func101.trans (congrArg some (by kernel_rfl))
  t0 := Try.underlying0
  a0 := Try.isAgg0
  z0 := Try.sizeOf0
  v0 := Try.zeroValue0
  t3 := Try.underlying3
  a3 := Try.isAgg3
  z3 := Try.sizeOf3
  v3 := Try.zeroValue3
  t4 := Try.underlying4
  a4 := Try.isAgg4
  z4 := Try.sizeOf4
  v4 := Try.zeroValue4
  t5 := Try.underlying5
  a5 := Try.isAgg5
  z5 := Try.sizeOf5
  v5 := Try.zeroValue5
  t9 := Try.underlying9
  a9 := Try.isAgg9
  z9 := Try.sizeOf9
  v9 := Try.zeroValue9
  t28 := Try.underlying38
  a28 := Try.isAgg38
  z28 := Try.sizeOf38
  v28 := Try.zeroValue38
  t46 := Try.underlying120
  a46 := Try.isAgg120
  z46 := Try.sizeOf120
  v46 := Try.zeroValue120
  t51 := Try.underlying139
  a51 := Try.isAgg139
  z51 := Try.sizeOf139
  v51 := Try.zeroValue139
  t53 := Try.underlying141
  a53 := Try.isAgg141
  z53 := Try.sizeOf141
  v53 := Try.zeroValue141
  t131 := Try.underlying136
  a131 := Try.isAgg136
  z131 := Try.sizeOf136
  v131 := Try.zeroValue136
  t182 := Try.underlying131
  a182 := Try.isAgg131
  z182 := Try.sizeOf131
  v182 := Try.zeroValue131
  t183 := Try.underlying132
  a183 := Try.isAgg132
  z183 := Try.sizeOf132
  v183 := Try.zeroValue132
  t218 := Try.underlying144
  a218 := Try.isAgg144
  z218 := Try.sizeOf144
  v218 := Try.zeroValue144
  t222 := Try.underlying148
  a222 := Try.isAgg148
  z222 := Try.sizeOf148
  v222 := Try.zeroValue148
  t228 := Try.underlying150
  a228 := Try.isAgg150
  z228 := Try.sizeOf150
  v228 := Try.zeroValue150
  t229 := Try.underlying83
  a229 := Try.isAgg83
  z229 := Try.sizeOf83
  v229 := Try.zeroValue83
def ev_slices_Sort_Lint_int (n : Nat) (x1 : List Int) : Option (List Int) := chk (room 8 x1.length) (some (srt x1))
theorem ft_slices_Sort_Lint_int {n : Nat} {x1 : List Int} {r : List Int} (h : ev_slices_Sort_Lint_int n x1 = some r) : FT Try.prog 58 [.ref 0] [.row 0 3 1 (List.map en_int x1)] [] (.tup []) [.row 0 3 1 (List.map en_int r)] := by
  obtain ⟨h1, h⟩ := chk_inv h
  cases h
  exact ft_sortS lays_slices_Sort_Lint_int h1
end
end Go.Proofs.Ytabjhlfgcmmbfaa.Sy
