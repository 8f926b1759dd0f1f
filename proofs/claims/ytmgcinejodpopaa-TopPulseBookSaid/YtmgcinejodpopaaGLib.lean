/- What functions of the program compute, and that they do: printed by symgen.py. -/
import Derived.Test.YtmgcinejodpopaaSymU
import Derived.Test.YtmgcinejodpopaaProg
set_option linter.unusedSimpArgs false
set_option linter.unusedVariables false
namespace Go.Proofs.Ytmgcinejodpopaa.Sy
open Go.RowKit
noncomputable section

theorem bt26 : ∀ parts, Try.prog.built 26 parts = Instr.fill (fun i => (#[(0, 1), (1, 1)] : Array (Nat × Nat))[i]?) (AV.denL (fun _ => undef) [.val (.int .i64 0), .val (.int .i64 0)]).toArray parts := fun _ => by kernel_rfl
theorem vt26 : VarT Try.prog 26 2 true := ⟨Try.isAgg26, Try.sizeOf26⟩
def en_api_Span : Int × Int → List D := fun x => [D.v (.int .i64 x.1), D.v (.int .i64 x.2)]
theorem en_api_Span_flat : ∀ a, ∀ d ∈ en_api_Span a, ∃ x, d = D.v x := by
  intro a d h
  simp only [en_api_Span, List.mem_cons, List.not_mem_nil, or_false] at h
  rcases h with rfl | rfl <;> exact ⟨_, rfl⟩
theorem sl23 : SlT Try.prog 23 26 2 16 := ⟨Try.underlying23, ⟨Try.t26, _, by kernel_rfl, rfl, rfl, rfl, rfl⟩, by decide⟩
theorem bt29 : ∀ parts, Try.prog.built 29 parts = Instr.fill (fun i => (#[(0, 1), (1, 1)] : Array (Nat × Nat))[i]?) (AV.denL (fun _ => undef) [.val (.int .i64 0), .val (.slice none 0 0)]).toArray parts := fun _ => by kernel_rfl
theorem vt29 : VarT Try.prog 29 2 true := ⟨Try.isAgg29, Try.sizeOf29⟩
theorem ft29_0 : FieldT Try.prog 29 0 0 3 := ⟨_, _, Try.underlying29, rfl, rfl, rfl⟩
theorem vt3 : VarT Try.prog 3 1 false := ⟨Try.isAgg3, Try.sizeOf3⟩
def en_int : Int → List D := fun x => [D.v (.int .i64 x)]
theorem en_int_flat : ∀ a, ∀ d ∈ en_int a, ∃ x, d = D.v x := by
  intro a d h
  simp only [en_int, List.mem_cons, List.not_mem_nil, or_false] at h
  rcases h with rfl <;> exact ⟨_, rfl⟩
theorem sl37 : SlT Try.prog 37 3 1 8 := ⟨Try.underlying37, ⟨Try.t3, _, by kernel_rfl, rfl, rfl, rfl, rfl⟩, by decide⟩
def fe_funcint_bool : Int → List AV := fun a => [.val (.int .i64 a)]
def fd_funcint_bool : Bool → AV := fun b => .val (.bool b)
theorem ft29_1 : FieldT Try.prog 29 1 1 23 := ⟨_, _, Try.underlying29, rfl, rfl, rfl⟩
theorem vt23 : VarT Try.prog 23 1 false := ⟨Try.isAgg23, Try.sizeOf23⟩
def fe_funcapi_Span_bool : Int × Int → List AV := fun a => [.agg [.val (.int .i64 a.1), .val (.int .i64 a.2)]]
def fd_funcapi_Span_bool : Bool → AV := fun b => .val (.bool b)
theorem ft26_0 : FieldT Try.prog 26 0 0 3 := ⟨_, _, Try.underlying26, rfl, rfl, rfl⟩
theorem ft26_1 : FieldT Try.prog 26 1 1 3 := ⟨_, _, Try.underlying26, rfl, rfl, rfl⟩
theorem bt163 : ∀ parts, Try.prog.built 163 parts = Instr.fill (fun i => (#[(0, 2), (2, 1)] : Array (Nat × Nat))[i]?) (AV.denL (fun _ => undef) [.val (.int .i64 0), .val (.slice none 0 0), .val (.slice none 0 0)]).toArray parts := fun _ => by kernel_rfl
theorem vt163 : VarT Try.prog 163 3 true := ⟨Try.isAgg163, Try.sizeOf163⟩
def fe_funcapi_Span_int : Int × Int → List AV := fun a => [.agg [.val (.int .i64 a.1), .val (.int .i64 a.2)]]
def fd_funcapi_Span_int : Int → AV := fun b => .val (.int .i64 b)
def en_api_DropVisit : Int × Int × Int × Int → List D := fun x => [D.v (.int .i64 x.1), D.v (.int .i64 x.2.1), D.v (.int .i64 x.2.2.1), D.v (.int .i64 x.2.2.2)]
theorem en_api_DropVisit_flat : ∀ a, ∀ d ∈ en_api_DropVisit a, ∃ x, d = D.v x := by
  intro a d h
  simp only [en_api_DropVisit, List.mem_cons, List.not_mem_nil, or_false] at h
  rcases h with rfl | rfl | rfl | rfl <;> exact ⟨_, rfl⟩
theorem ft163_0 : FieldT Try.prog 163 0 0 29 := ⟨_, _, Try.underlying163, rfl, rfl, rfl⟩
theorem bt35 : ∀ parts, Try.prog.built 35 parts = Instr.fill (fun i => (#[(0, 1), (1, 1), (2, 1)] : Array (Nat × Nat))[i]?) (AV.denL (fun _ => undef) [.val (.int .i64 0), .val (.int .i64 0), .val (.int .i64 0)]).toArray parts := fun _ => by kernel_rfl
def en_api_BookEntry : Int × Int × Int → List D := fun x => [D.v (.int .i64 x.1), D.v (.int .i64 x.2.1), D.v (.int .i64 x.2.2)]
theorem en_api_BookEntry_flat : ∀ a, ∀ d ∈ en_api_BookEntry a, ∃ x, d = D.v x := by
  intro a d h
  simp only [en_api_BookEntry, List.mem_cons, List.not_mem_nil, or_false] at h
  rcases h with rfl | rfl | rfl <;> exact ⟨_, rfl⟩
theorem sl36 : SlT Try.prog 36 35 3 24 := ⟨Try.underlying36, ⟨Try.t35, _, by kernel_rfl, rfl, rfl, rfl, rfl⟩, by decide⟩
theorem sl166 : SlT Try.prog 166 35 3 24 := ⟨Try.underlying166, ⟨Try.t35, _, by kernel_rfl, rfl, rfl, rfl, rfl⟩, by decide⟩
theorem vt35 : VarT Try.prog 35 3 true := ⟨Try.isAgg35, Try.sizeOf35⟩
theorem ft35_1 : FieldT Try.prog 35 1 1 33 := ⟨_, _, Try.underlying35, rfl, rfl, rfl⟩
theorem vt33 : VarT Try.prog 33 1 false := ⟨Try.isAgg33, Try.sizeOf33⟩
theorem ft35_0 : FieldT Try.prog 35 0 0 3 := ⟨_, _, Try.underlying35, rfl, rfl, rfl⟩
theorem ft35_2 : FieldT Try.prog 35 2 2 3 := ⟨_, _, Try.underlying35, rfl, rfl, rfl⟩
theorem vt37 : VarT Try.prog 37 1 false := ⟨Try.isAgg37, Try.sizeOf37⟩
def ye_funcbook_clock_bool : Int × Int × Int × Bool → List AV := fun a => [.agg [.val (.int .i64 a.1), .val (.int .i64 a.2.1), .val (.int .i64 a.2.2.1), .val (.bool a.2.2.2)]]
def yn_funcbook_clock_bool : Int × Int × Int × Bool → List NEnt := fun a => []
theorem bt173 : ∀ parts, Try.prog.built 173 parts = Instr.fill (fun i => (#[(0, 1), (1, 1), (2, 1), (3, 1)] : Array (Nat × Nat))[i]?) (AV.denL (fun _ => undef) [.val (.int .i64 0), .val (.int .i64 0), .val (.int .i64 0), .val (.bool false)]).toArray parts := fun _ => by kernel_rfl
theorem vt166 : VarT Try.prog 166 1 false := ⟨Try.isAgg166, Try.sizeOf166⟩
theorem vt173 : VarT Try.prog 173 4 true := ⟨Try.isAgg173, Try.sizeOf173⟩
theorem vt169 : VarT Try.prog 169 1 false := ⟨Try.isAgg169, Try.sizeOf169⟩
def ye_funcint_bool : Int → List AV := fun a => [.val (.int .i64 a)]
def yn_funcint_bool : Int → List NEnt := fun a => []
theorem ft173_3 : FieldT Try.prog 173 3 3 4 := ⟨_, _, Try.underlying173, rfl, rfl, rfl⟩
theorem vt4 : VarT Try.prog 4 1 false := ⟨Try.isAgg4, Try.sizeOf4⟩
theorem ft173_0 : FieldT Try.prog 173 0 0 3 := ⟨_, _, Try.underlying173, rfl, rfl, rfl⟩
theorem ft173_2 : FieldT Try.prog 173 2 2 3 := ⟨_, _, Try.underlying173, rfl, rfl, rfl⟩
theorem ft173_1 : FieldT Try.prog 173 1 1 3 := ⟨_, _, Try.underlying173, rfl, rfl, rfl⟩
theorem vt289 : VarT Try.prog 289 1 false := ⟨Try.isAgg289, Try.sizeOf289⟩
theorem eq26 (a0 : Int) (a1 : Int) (b0 : Int) (b1 : Int) : EqT Try.prog 26 [.int .i64 a0, .int .i64 a1] [.int .i64 b0, .int .i64 b1] (((a0 == b0) && (a1 == b1))) := ⟨Try.eqGuardType26, fun w => by
  simp [go_sem, Try.underlying26, Try.underlying3, Try.isAgg26, Try.isAgg3, Try.sizeOf26, Try.sizeOf3, Try.stoodInHeld26]
  (repeat' split) <;> simp_all⟩
def en_uint8 : Int → List D := fun x => [D.v (.int .u8 x)]
theorem en_uint8_flat : ∀ a, ∀ d ∈ en_uint8 a, ∃ x, d = D.v x := by
  intro a d h
  simp only [en_uint8, List.mem_cons, List.not_mem_nil, or_false] at h
  rcases h with rfl <;> exact ⟨_, rfl⟩
theorem sl56 : SlT Try.prog 56 5 1 1 := ⟨Try.underlying56, ⟨Try.t5, _, by kernel_rfl, rfl, rfl, rfl, rfl⟩, by decide⟩
theorem vt5 : VarT Try.prog 5 1 false := ⟨Try.isAgg5, Try.sizeOf5⟩
def en_api_PartContract : Int × Int × Int → List D := fun x => [D.v (.int .i64 x.1), D.v (.int .i64 x.2.1), D.v (.int .i64 x.2.2)]
theorem en_api_PartContract_flat : ∀ a, ∀ d ∈ en_api_PartContract a, ∃ x, d = D.v x := by
  intro a d h
  simp only [en_api_PartContract, List.mem_cons, List.not_mem_nil, or_false] at h
  rcases h with rfl | rfl | rfl <;> exact ⟨_, rfl⟩
theorem sl46 : SlT Try.prog 46 48 3 24 := ⟨Try.underlying46, ⟨Try.t48, _, by kernel_rfl, rfl, rfl, rfl, rfl⟩, by decide⟩
def ax_3_uint8 : Int × Int × Int → List AV := fun x => [.val (.int .u8 x.1), .val (.int .u8 x.2.1), .val (.int .u8 x.2.2)]
theorem vt42 : VarT Try.prog 42 3 true := ⟨Try.isAgg42, Try.sizeOf42⟩
theorem bt48 : ∀ parts, Try.prog.built 48 parts = Instr.fill (fun i => (#[(0, 1), (1, 1), (2, 1)] : Array (Nat × Nat))[i]?) (AV.denL (fun _ => undef) [.val (.int .i64 0), .val (.int .i64 0), .val (.int .i64 0)]).toArray parts := fun _ => by kernel_rfl
theorem vt48 : VarT Try.prog 48 3 true := ⟨Try.isAgg48, Try.sizeOf48⟩
theorem ft48_1 : FieldT Try.prog 48 1 1 3 := ⟨_, _, Try.underlying48, rfl, rfl, rfl⟩
theorem ft48_2 : FieldT Try.prog 48 2 2 3 := ⟨_, _, Try.underlying48, rfl, rfl, rfl⟩
theorem ft48_0 : FieldT Try.prog 48 0 0 3 := ⟨_, _, Try.underlying48, rfl, rfl, rfl⟩
def ax_uint8 : Int → List AV := fun x => [.val (.int .u8 x)]
theorem vt46 : VarT Try.prog 46 1 false := ⟨Try.isAgg46, Try.sizeOf46⟩
def fe_funcapi_PartContract_bool : Int × Int × Int → List AV := fun a => [.agg [.val (.int .i64 a.1), .val (.int .i64 a.2.1), .val (.int .i64 a.2.2)]]
def fd_funcapi_PartContract_bool : Bool → AV := fun b => .val (.bool b)
theorem bt179 : ∀ parts, Try.prog.built 179 parts = Instr.fill (fun i => (#[(0, 3)] : Array (Nat × Nat))[i]?) (AV.denL (fun _ => undef) [.val (.int .i64 0), .val (.int .i64 0), .val (.int .i64 0)]).toArray parts := fun _ => by kernel_rfl
theorem ft179_0 : FieldT Try.prog 179 0 0 48 := ⟨_, _, Try.underlying179, rfl, rfl, rfl⟩
def en_api_BookCard : Int × Int × Int × Int → List D := fun x => [D.v (.int .i64 x.1), D.v (.int .i64 x.2.1), D.v (.int .i64 x.2.2.1), D.v (.int .i64 x.2.2.2)]
theorem en_api_BookCard_flat : ∀ a, ∀ d ∈ en_api_BookCard a, ∃ x, d = D.v x := by
  intro a d h
  simp only [en_api_BookCard, List.mem_cons, List.not_mem_nil, or_false] at h
  rcases h with rfl | rfl | rfl | rfl <;> exact ⟨_, rfl⟩
theorem sl50 : SlT Try.prog 50 52 4 32 := ⟨Try.underlying50, ⟨Try.t52, _, by kernel_rfl, rfl, rfl, rfl, rfl⟩, by decide⟩
theorem bt52 : ∀ parts, Try.prog.built 52 parts = Instr.fill (fun i => (#[(0, 1), (1, 1), (2, 1), (3, 1)] : Array (Nat × Nat))[i]?) (AV.denL (fun _ => undef) [.val (.int .i64 0), .val (.int .i64 0), .val (.int .i64 0), .val (.int .i64 0)]).toArray parts := fun _ => by kernel_rfl
def mk186 : Int → Value := fun k => .int .i64 k
theorem km186 : MKey Try.prog 186 3 52 mk186 := mkey_int Try.underlying186 Try.underlying3
theorem vt52 : VarT Try.prog 52 4 true := ⟨Try.isAgg52, Try.sizeOf52⟩
theorem ft52_0 : FieldT Try.prog 52 0 0 3 := ⟨_, _, Try.underlying52, rfl, rfl, rfl⟩
theorem ft52_1 : FieldT Try.prog 52 1 1 3 := ⟨_, _, Try.underlying52, rfl, rfl, rfl⟩
theorem ft52_2 : FieldT Try.prog 52 2 2 3 := ⟨_, _, Try.underlying52, rfl, rfl, rfl⟩
theorem ft52_3 : FieldT Try.prog 52 3 3 3 := ⟨_, _, Try.underlying52, rfl, rfl, rfl⟩
theorem eq52 (a0 : Int) (a1 : Int) (a2 : Int) (a3 : Int) (b0 : Int) (b1 : Int) (b2 : Int) (b3 : Int) : EqT Try.prog 52 [.int .i64 a0, .int .i64 a1, .int .i64 a2, .int .i64 a3] [.int .i64 b0, .int .i64 b1, .int .i64 b2, .int .i64 b3] (((a0 == b0) && ((a1 == b1) && ((a2 == b2) && (a3 == b3))))) := ⟨Try.eqGuardType52, fun w => by
  simp [go_sem, Try.underlying52, Try.underlying3, Try.isAgg52, Try.isAgg3, Try.sizeOf52, Try.sizeOf3, Try.stoodInHeld52]
  (repeat' split) <;> simp_all⟩
def en_2_uint16 : Int × Int → List D := fun x => [D.v (.int .u16 x.1), D.v (.int .u16 x.2)]
theorem en_2_uint16_flat : ∀ a, ∀ d ∈ en_2_uint16 a, ∃ x, d = D.v x := by
  intro a d h
  simp only [en_2_uint16, List.mem_cons, List.not_mem_nil, or_false] at h
  rcases h with rfl | rfl <;> exact ⟨_, rfl⟩
theorem sl130 : SlT Try.prog 130 132 2 4 := ⟨Try.underlying130, ⟨Try.t132, _, by kernel_rfl, rfl, rfl, rfl, rfl⟩, by decide⟩
theorem vt22 : VarT Try.prog 22 1 false := ⟨Try.isAgg22, Try.sizeOf22⟩
def en_api_DialLink : Int × Int × Int → List D := fun x => [D.v (.int .i64 x.1), D.v (.int .i64 x.2.1), D.v (.int .i64 x.2.2)]
theorem en_api_DialLink_flat : ∀ a, ∀ d ∈ en_api_DialLink a, ∃ x, d = D.v x := by
  intro a d h
  simp only [en_api_DialLink, List.mem_cons, List.not_mem_nil, or_false] at h
  rcases h with rfl | rfl | rfl <;> exact ⟨_, rfl⟩
def en_api_DialFace : Int × Int × (List (Int × Int × Int)) × Int × Int → List D := fun x => [D.v (.int .i64 x.1), D.v (.int .i64 x.2.1), D.s 3 (List.map en_api_DialLink x.2.2.1), D.v (.int .i64 x.2.2.2.1), D.v (.int .i64 x.2.2.2.2)]
theorem bt115 : ∀ parts, Try.prog.built 115 parts = Instr.fill (fun i => (#[(0, 1), (1, 1)] : Array (Nat × Nat))[i]?) (AV.denL (fun _ => undef) [.val (.int .i64 0), .val (.int .i64 0)]).toArray parts := fun _ => by kernel_rfl
theorem bt411 : ∀ parts, Try.prog.built 411 parts = Instr.fill (fun i => (#[(0, 1), (1, 2)] : Array (Nat × Nat))[i]?) (AV.denL (fun _ => undef) [.val (.int .i64 0), .val (.int .i64 0), .val (.int .i64 0)]).toArray parts := fun _ => by kernel_rfl
theorem sl133 : SlT Try.prog 133 411 3 24 := ⟨Try.underlying133, ⟨Try.t411, _, by kernel_rfl, rfl, rfl, rfl, rfl⟩, by decide⟩
theorem bt135 : ∀ parts, Try.prog.built 135 parts = Instr.fill (fun i => (#[(0, 2), (2, 1), (3, 1), (4, 1)] : Array (Nat × Nat))[i]?) (AV.denL (fun _ => undef) [.val (.int .i64 0), .val (.int .i64 0), .val (.slice none 0 0), .val (.int .i64 0), .val (.int .i64 0)]).toArray parts := fun _ => by kernel_rfl
theorem vt135 : VarT Try.prog 135 5 true := ⟨Try.isAgg135, Try.sizeOf135⟩
theorem sl136 : SlT Try.prog 136 135 5 56 := ⟨Try.underlying136, ⟨Try.t135, _, by kernel_rfl, rfl, rfl, rfl, rfl⟩, by decide⟩
theorem bt138 : ∀ parts, Try.prog.built 138 parts = Instr.fill (fun i => (#[(0, 1), (1, 2), (3, 1)] : Array (Nat × Nat))[i]?) (AV.denL (fun _ => undef) [.val (.int .i64 0), .val (.int .i64 0), .val (.int .i64 0), .val (.slice none 0 0)]).toArray parts := fun _ => by kernel_rfl
theorem vt138 : VarT Try.prog 138 4 true := ⟨Try.isAgg138, Try.sizeOf138⟩
def en_dial_face : Int × Int × (List (Int × Int × Int)) × Int × Int × Int → List D := fun x => [D.v (.int .i64 x.1), D.v (.int .i64 x.2.1), D.s 3 (List.map en_api_DialLink x.2.2.1), D.v (.int .i64 x.2.2.2.1), D.v (.int .i64 x.2.2.2.2.1), D.v (.int .i64 x.2.2.2.2.2)]
theorem ft138_0 : FieldT Try.prog 138 0 0 3 := ⟨_, _, Try.underlying138, rfl, rfl, rfl⟩
theorem vt262 : VarT Try.prog 262 5 true := ⟨Try.isAgg262, Try.sizeOf262⟩
theorem ft138_1 : FieldT Try.prog 138 1 1 26 := ⟨_, _, Try.underlying138, rfl, rfl, rfl⟩
theorem ft138_2 : FieldT Try.prog 138 2 3 136 := ⟨_, _, Try.underlying138, rfl, rfl, rfl⟩
theorem vt136 : VarT Try.prog 136 1 false := ⟨Try.isAgg136, Try.sizeOf136⟩
theorem ft262_0 : FieldT Try.prog 262 0 0 138 := ⟨_, _, Try.underlying262, rfl, rfl, rfl⟩
theorem ft135_0 : FieldT Try.prog 135 0 0 26 := ⟨_, _, Try.underlying135, rfl, rfl, rfl⟩
theorem vt264 : VarT Try.prog 264 6 true := ⟨Try.isAgg264, Try.sizeOf264⟩
theorem ft135_1 : FieldT Try.prog 135 1 2 133 := ⟨_, _, Try.underlying135, rfl, rfl, rfl⟩
theorem vt133 : VarT Try.prog 133 1 false := ⟨Try.isAgg133, Try.sizeOf133⟩
theorem ft135_2 : FieldT Try.prog 135 2 3 3 := ⟨_, _, Try.underlying135, rfl, rfl, rfl⟩
theorem ft135_3 : FieldT Try.prog 135 3 4 3 := ⟨_, _, Try.underlying135, rfl, rfl, rfl⟩
theorem vt411 : VarT Try.prog 411 3 true := ⟨Try.isAgg411, Try.sizeOf411⟩
theorem ft411_0 : FieldT Try.prog 411 0 0 3 := ⟨_, _, Try.underlying411, rfl, rfl, rfl⟩
theorem ft411_1 : FieldT Try.prog 411 1 1 115 := ⟨_, _, Try.underlying411, rfl, rfl, rfl⟩
theorem vt115 : VarT Try.prog 115 2 true := ⟨Try.isAgg115, Try.sizeOf115⟩
theorem ft115_0 : FieldT Try.prog 115 0 0 3 := ⟨_, _, Try.underlying115, rfl, rfl, rfl⟩
theorem ft115_1 : FieldT Try.prog 115 1 1 3 := ⟨_, _, Try.underlying115, rfl, rfl, rfl⟩
theorem bt264 : ∀ parts, Try.prog.built 264 parts = Instr.fill (fun i => (#[(0, 5), (5, 1)] : Array (Nat × Nat))[i]?) (AV.denL (fun _ => undef) [.val (.int .i64 0), .val (.int .i64 0), .val (.slice none 0 0), .val (.int .i64 0), .val (.int .i64 0), .val (.int .i64 0)]).toArray parts := fun _ => by kernel_rfl
theorem ft264_1 : FieldT Try.prog 264 1 5 3 := ⟨_, _, Try.underlying264, rfl, rfl, rfl⟩
theorem bt262 : ∀ parts, Try.prog.built 262 parts = Instr.fill (fun i => (#[(0, 4), (4, 1)] : Array (Nat × Nat))[i]?) (AV.denL (fun _ => undef) [.val (.int .i64 0), .val (.int .i64 0), .val (.int .i64 0), .val (.slice none 0 0), .val (.slice none 0 0)]).toArray parts := fun _ => by kernel_rfl
theorem ft262_1 : FieldT Try.prog 262 1 4 260 := ⟨_, _, Try.underlying262, rfl, rfl, rfl⟩
theorem vt260 : VarT Try.prog 260 1 false := ⟨Try.isAgg260, Try.sizeOf260⟩
theorem sl260 : SlT Try.prog 260 264 6 64 := ⟨Try.underlying260, ⟨Try.t264, _, by kernel_rfl, rfl, rfl, rfl, rfl⟩, by decide⟩
theorem vt266 : VarT Try.prog 266 14 true := ⟨Try.isAgg266, Try.sizeOf266⟩
theorem bt266 : ∀ parts, Try.prog.built 266 parts = Instr.fill (fun i => (#[(0, 5), (5, 6), (11, 1), (12, 2)] : Array (Nat × Nat))[i]?) (AV.denL (fun _ => undef) [.val (.int .i64 0), .val (.int .i64 0), .val (.int .i64 0), .val (.slice none 0 0), .val (.slice none 0 0), .val (.int .i64 0), .val (.int .i64 0), .val (.slice none 0 0), .val (.int .i64 0), .val (.int .i64 0), .val (.int .i64 0), .val (.int .i64 0), .val (.int .i64 0), .val (.int .i64 0)]).toArray parts := fun _ => by kernel_rfl
def ye_funcapi_Span_bool : Int × Int → List AV := fun a => [.agg [.val (.int .i64 a.1), .val (.int .i64 a.2)]]
def yn_funcapi_Span_bool : Int × Int → List NEnt := fun a => []
theorem ft266_0 : FieldT Try.prog 266 0 0 262 := ⟨_, _, Try.underlying266, rfl, rfl, rfl⟩
theorem ft266_2 : FieldT Try.prog 266 2 11 3 := ⟨_, _, Try.underlying266, rfl, rfl, rfl⟩
theorem vt360 : VarT Try.prog 360 1 false := ⟨Try.isAgg360, Try.sizeOf360⟩
theorem ft266_1 : FieldT Try.prog 266 1 5 264 := ⟨_, _, Try.underlying266, rfl, rfl, rfl⟩
theorem ft266_3 : FieldT Try.prog 266 3 12 26 := ⟨_, _, Try.underlying266, rfl, rfl, rfl⟩
theorem ft264_0 : FieldT Try.prog 264 0 0 135 := ⟨_, _, Try.underlying264, rfl, rfl, rfl⟩
def fe_funcapi_Span_api_Span_int : Int × Int × Int × Int → List AV := fun a => [.agg [.val (.int .i64 a.1), .val (.int .i64 a.2.1)], .agg [.val (.int .i64 a.2.2.1), .val (.int .i64 a.2.2.2)]]
def fd_funcapi_Span_api_Span_int : Int → AV := fun b => .val (.int .i64 b)
def st_d55355c9 : List Int := [0, 1, 2, 2, 3, 3, 3, 3, 4, 4, 4, 4, 4, 4, 4, 4, 5, 5, 5, 5, 5, 5, 5, 5, 5, 5, 5, 5, 5, 5, 5, 5, 6, 6, 6, 6, 6, 6, 6, 6, 6, 6, 6, 6, 6, 6, 6, 6, 6, 6, 6, 6, 6, 6, 6, 6, 6, 6, 6, 6, 6, 6, 6, 6, 7, 7, 7, 7, 7, 7, 7, 7, 7, 7, 7, 7, 7, 7, 7, 7, 7, 7, 7, 7, 7, 7, 7, 7, 7, 7, 7, 7, 7, 7, 7, 7, 7, 7, 7, 7, 7, 7, 7, 7, 7, 7, 7, 7, 7, 7, 7, 7, 7, 7, 7, 7, 7, 7, 7, 7, 7, 7, 7, 7, 7, 7, 7, 7, 8, 8, 8, 8, 8, 8, 8, 8, 8, 8, 8, 8, 8, 8, 8, 8, 8, 8, 8, 8, 8, 8, 8, 8, 8, 8, 8, 8, 8, 8, 8, 8, 8, 8, 8, 8, 8, 8, 8, 8, 8, 8, 8, 8, 8, 8, 8, 8, 8, 8, 8, 8, 8, 8, 8, 8, 8, 8, 8, 8, 8, 8, 8, 8, 8, 8, 8, 8, 8, 8, 8, 8, 8, 8, 8, 8, 8, 8, 8, 8, 8, 8, 8, 8, 8, 8, 8, 8, 8, 8, 8, 8, 8, 8, 8, 8, 8, 8, 8, 8, 8, 8, 8, 8, 8, 8, 8, 8, 8, 8, 8, 8, 8, 8, 8, 8, 8, 8, 8, 8, 8, 8, 8, 8, 8, 8, 8, 8]
theorem st_d55355c9_ok : (([0, 1, 2, 2, 3, 3, 3, 3, 4, 4, 4, 4, 4, 4, 4, 4, 5, 5, 5, 5, 5, 5, 5, 5, 5, 5, 5, 5, 5, 5, 5, 5, 6, 6, 6, 6, 6, 6, 6, 6, 6, 6, 6, 6, 6, 6, 6, 6, 6, 6, 6, 6, 6, 6, 6, 6, 6, 6, 6, 6, 6, 6, 6, 6, 7, 7, 7, 7, 7, 7, 7, 7, 7, 7, 7, 7, 7, 7, 7, 7, 7, 7, 7, 7, 7, 7, 7, 7, 7, 7, 7, 7, 7, 7, 7, 7, 7, 7, 7, 7, 7, 7, 7, 7, 7, 7, 7, 7, 7, 7, 7, 7, 7, 7, 7, 7, 7, 7, 7, 7, 7, 7, 7, 7, 7, 7, 7, 7, 8, 8, 8, 8, 8, 8, 8, 8, 8, 8, 8, 8, 8, 8, 8, 8, 8, 8, 8, 8, 8, 8, 8, 8, 8, 8, 8, 8, 8, 8, 8, 8, 8, 8, 8, 8, 8, 8, 8, 8, 8, 8, 8, 8, 8, 8, 8, 8, 8, 8, 8, 8, 8, 8, 8, 8, 8, 8, 8, 8, 8, 8, 8, 8, 8, 8, 8, 8, 8, 8, 8, 8, 8, 8, 8, 8, 8, 8, 8, 8, 8, 8, 8, 8, 8, 8, 8, 8, 8, 8, 8, 8, 8, 8, 8, 8, 8, 8, 8, 8, 8, 8, 8, 8, 8, 8, 8, 8, 8, 8, 8, 8, 8, 8, 8, 8, 8, 8, 8, 8, 8, 8, 8, 8, 8, 8, 8, 8] : List Nat).map fun n => ((UInt8.ofNat n).toNat : Int)) = st_d55355c9 := by decide +kernel
def en_api_ZoneChange : Int × Int → List D := fun x => [D.v (.int .i64 x.1), D.v (.int .i64 x.2)]
theorem en_api_ZoneChange_flat : ∀ a, ∀ d ∈ en_api_ZoneChange a, ∃ x, d = D.v x := by
  intro a d h
  simp only [en_api_ZoneChange, List.mem_cons, List.not_mem_nil, or_false] at h
  rcases h with rfl | rfl <;> exact ⟨_, rfl⟩
theorem bt153 : ∀ parts, Try.prog.built 153 parts = Instr.fill (fun i => (#[(0, 1), (1, 1)] : Array (Nat × Nat))[i]?) (AV.denL (fun _ => undef) [.val (.int .i64 0), .val (.slice none 0 0)]).toArray parts := fun _ => by kernel_rfl
theorem vt153 : VarT Try.prog 153 2 true := ⟨Try.isAgg153, Try.sizeOf153⟩
theorem ft153_1 : FieldT Try.prog 153 1 1 151 := ⟨_, _, Try.underlying153, rfl, rfl, rfl⟩
theorem vt151 : VarT Try.prog 151 1 false := ⟨Try.isAgg151, Try.sizeOf151⟩
theorem bt156 : ∀ parts, Try.prog.built 156 parts = Instr.fill (fun i => (#[(0, 1), (1, 1)] : Array (Nat × Nat))[i]?) (AV.denL (fun _ => undef) [.val (.int .i64 0), .val (.int .i64 0)]).toArray parts := fun _ => by kernel_rfl
theorem sl151 : SlT Try.prog 151 156 2 16 := ⟨Try.underlying151, ⟨Try.t156, _, by kernel_rfl, rfl, rfl, rfl, rfl⟩, by decide⟩
theorem ft153_0 : FieldT Try.prog 153 0 0 3 := ⟨_, _, Try.underlying153, rfl, rfl, rfl⟩
theorem vt156 : VarT Try.prog 156 2 true := ⟨Try.isAgg156, Try.sizeOf156⟩
theorem ft156_0 : FieldT Try.prog 156 0 0 3 := ⟨_, _, Try.underlying156, rfl, rfl, rfl⟩
theorem ft156_1 : FieldT Try.prog 156 1 1 3 := ⟨_, _, Try.underlying156, rfl, rfl, rfl⟩
theorem bt281 : ∀ parts, Try.prog.built 281 parts = Instr.fill (fun i => (#[(0, 2)] : Array (Nat × Nat))[i]?) (AV.denL (fun _ => undef) [.val (.int .i64 0), .val (.slice none 0 0)]).toArray parts := fun _ => by kernel_rfl
theorem vt281 : VarT Try.prog 281 2 true := ⟨Try.isAgg281, Try.sizeOf281⟩
def ye_funczone_era_bool : Int × Int × Int → List AV := fun a => [.agg [.val (.int .i64 a.1), .val (.int .i64 a.2.1), .val (.int .i64 a.2.2)]]
def yn_funczone_era_bool : Int × Int × Int → List NEnt := fun a => []
theorem ft281_0 : FieldT Try.prog 281 0 0 153 := ⟨_, _, Try.underlying281, rfl, rfl, rfl⟩
theorem bt279 : ∀ parts, Try.prog.built 279 parts = Instr.fill (fun i => (#[(0, 2), (2, 1)] : Array (Nat × Nat))[i]?) (AV.denL (fun _ => undef) [.val (.int .i64 0), .val (.int .i64 0), .val (.int .i64 0)]).toArray parts := fun _ => by kernel_rfl
theorem vt279 : VarT Try.prog 279 3 true := ⟨Try.isAgg279, Try.sizeOf279⟩
theorem ft279_0 : FieldT Try.prog 279 0 0 26 := ⟨_, _, Try.underlying279, rfl, rfl, rfl⟩
theorem ft279_1 : FieldT Try.prog 279 1 2 3 := ⟨_, _, Try.underlying279, rfl, rfl, rfl⟩
theorem vt370 : VarT Try.prog 370 1 false := ⟨Try.isAgg370, Try.sizeOf370⟩
theorem sl370 : SlT Try.prog 370 26 2 16 := ⟨Try.underlying370, ⟨Try.t26, _, by kernel_rfl, rfl, rfl, rfl, rfl⟩, by decide⟩
def en_api_PulseFault : Int × Int → List D := fun x => [D.v (.int .i64 x.1), D.v (.int .i64 x.2)]
theorem en_api_PulseFault_flat : ∀ a, ∀ d ∈ en_api_PulseFault a, ∃ x, d = D.v x := by
  intro a d h
  simp only [en_api_PulseFault, List.mem_cons, List.not_mem_nil, or_false] at h
  rcases h with rfl | rfl <;> exact ⟨_, rfl⟩
theorem sl57 : SlT Try.prog 57 60 2 16 := ⟨Try.underlying57, ⟨Try.t60, _, by kernel_rfl, rfl, rfl, rfl, rfl⟩, by decide⟩
theorem bt65 : ∀ parts, Try.prog.built 65 parts = Instr.fill (fun i => (#[(0, 1), (1, 1), (2, 1)] : Array (Nat × Nat))[i]?) (AV.denL (fun _ => undef) [.val (.int .i64 0), .val (.int .i64 0), .val (.int .i64 0)]).toArray parts := fun _ => by kernel_rfl
theorem vt65 : VarT Try.prog 65 3 true := ⟨Try.isAgg65, Try.sizeOf65⟩
theorem bt191 : ∀ parts, Try.prog.built 191 parts = Instr.fill (fun i => (#[(0, 3)] : Array (Nat × Nat))[i]?) (AV.denL (fun _ => undef) [.val (.int .i64 0), .val (.int .i64 0), .val (.int .i64 0)]).toArray parts := fun _ => by kernel_rfl
theorem ft65_0 : FieldT Try.prog 65 0 0 63 := ⟨_, _, Try.underlying65, rfl, rfl, rfl⟩
theorem vt63 : VarT Try.prog 63 1 false := ⟨Try.isAgg63, Try.sizeOf63⟩
theorem eq65 (a0 : Int) (a1 : Int) (a2 : Int) (b0 : Int) (b1 : Int) (b2 : Int) : EqT Try.prog 65 [.int .i64 a0, .int .i64 a1, .int .i64 a2] [.int .i64 b0, .int .i64 b1, .int .i64 b2] (((a0 == b0) && ((a1 == b1) && (a2 == b2)))) := ⟨Try.eqGuardType65, fun w => by
  simp [go_sem, Try.underlying65, Try.underlying63, Try.underlying3, Try.isAgg65, Try.isAgg63, Try.isAgg3, Try.sizeOf65, Try.sizeOf63, Try.sizeOf3, Try.stoodInHeld65]
  (repeat' split) <;> simp_all⟩
theorem ft65_1 : FieldT Try.prog 65 1 1 3 := ⟨_, _, Try.underlying65, rfl, rfl, rfl⟩
theorem ft65_2 : FieldT Try.prog 65 2 2 3 := ⟨_, _, Try.underlying65, rfl, rfl, rfl⟩
theorem vt191 : VarT Try.prog 191 3 true := ⟨Try.isAgg191, Try.sizeOf191⟩
theorem sl296 : SlT Try.prog 296 60 2 16 := ⟨Try.underlying296, ⟨Try.t60, _, by kernel_rfl, rfl, rfl, rfl, rfl⟩, by decide⟩
theorem vt60 : VarT Try.prog 60 2 true := ⟨Try.isAgg60, Try.sizeOf60⟩
theorem ft60_0 : FieldT Try.prog 60 0 0 3 := ⟨_, _, Try.underlying60, rfl, rfl, rfl⟩
theorem ft60_1 : FieldT Try.prog 60 1 1 58 := ⟨_, _, Try.underlying60, rfl, rfl, rfl⟩
theorem vt58 : VarT Try.prog 58 1 false := ⟨Try.isAgg58, Try.sizeOf58⟩
theorem ft191_0 : FieldT Try.prog 191 0 0 65 := ⟨_, _, Try.underlying191, rfl, rfl, rfl⟩
theorem bt198 : ∀ parts, Try.prog.built 198 parts = Instr.fill (fun i => (#[(0, 1), (1, 1)] : Array (Nat × Nat))[i]?) (AV.denL (fun _ => undef) [.val (.int .i64 0), .val (.int .i64 0)]).toArray parts := fun _ => by kernel_rfl
theorem vt198 : VarT Try.prog 198 2 true := ⟨Try.isAgg198, Try.sizeOf198⟩
def ye_funcint_pulse_dial_bool : Int × Int × Int → List AV := fun a => [.val (.int .i64 a.1), .agg [.val (.int .i64 a.2.1), .val (.int .i64 a.2.2)]]
def yn_funcint_pulse_dial_bool : Int × Int × Int → List NEnt := fun a => []
theorem vt296 : VarT Try.prog 296 1 false := ⟨Try.isAgg296, Try.sizeOf296⟩
theorem bt383 : ∀ parts, Try.prog.built 383 parts = Instr.fill (fun i => some (i * 1, 1)) (AV.denL (fun _ => undef) [.val (.int .i64 0), .val (.int .i64 0), .val (.int .i64 0)]).toArray parts := fun _ => by kernel_rfl
theorem ft198_0 : FieldT Try.prog 198 0 0 3 := ⟨_, _, Try.underlying198, rfl, rfl, rfl⟩
theorem ft198_1 : FieldT Try.prog 198 1 1 3 := ⟨_, _, Try.underlying198, rfl, rfl, rfl⟩
theorem bt60 : ∀ parts, Try.prog.built 60 parts = Instr.fill (fun i => (#[(0, 1), (1, 1)] : Array (Nat × Nat))[i]?) (AV.denL (fun _ => undef) [.val (.int .i64 0), .val (.int .i64 0)]).toArray parts := fun _ => by kernel_rfl
/- top_pubSpan -/
def ev_top_pubSpan (n : Nat) (low1 : Int) (high2 : Int) : Option (Int × Int) :=
  some (low1, high2)
set_option maxRecDepth 100000 in
set_option maxHeartbeats 2000000 in
theorem fc_top_pubSpan {n : Nat} {low1 : Int} {high2 : Int} {r : Int × Int} (h : ev_top_pubSpan n low1 high2 = some r) : FC Try.prog 14 [.val (.int .i64 low1), .val (.int .i64 high2)] [] (.agg [.val (.int .i64 r.1), .val (.int .i64 r.2)]) [] := by
  refine introJ (nz := 8) Try.func14 rfl rfl rfl (fun w0 R0 env0 => ?_)
  rw [ev_top_pubSpan] at h
  refine TC.seq ?_
  refine TC.region ?_
  refine op0 (sp_alloc 0 rfl Try.zeroValue26 rfl) rfl trivial rfl rfl ?_
  refine TL.nil ?_
  refine TC.seq ?_
  refine TC.region ?_
  refine op0 (sp_move rfl rfl) rfl trivial rfl rfl ?_
  refine op0 (sp_move rfl rfl) rfl trivial rfl rfl ?_
  refine op0 (sp_build (qs := [(0, .val (.int .i64 low1)), (1, .val (.int .i64 high2))]) rfl bt26 rfl rfl rfl rfl) rfl trivial rfl rfl ?_
  refine stoB 0 (cells' := [.val (.int .i64 low1), .val (.int .i64 high2)]) rfl rfl trivial rfl rfl rfl rfl vt26 rfl rfl rfl ?_
  refine TL.nil ?_
  cases h
  exact retJ [] (.cells rfl (mem_at 0 rfl) isBlk vt26 rfl rfl (.nil)) rfl trivial rfl rfl
/- top_pubHours -/
def ev_top_pubHours_l0 (n : Nat) : Nat → Int → Int → Int → (List (Int × Int)) → Option ((List (Int × Int)))
  | 0, _, _, _, _ => none
  | m + 1, i3, i4, i5, l6 => cond (decide (i3 < 24)) (chk (room 16 (l6.length + ([(i4, i5)] : List (Int × Int)).length)) <| chk (in64 (i3 + 1)) <| ev_top_pubHours_l0 n m (i3 + 1) i4 i5 (l6 ++ ([(i4, i5)] : List (Int × Int)))) (some l6)
set_option maxRecDepth 100000 in
set_option maxHeartbeats 2000000 in
theorem ok_top_pubHours_l0 {n : Nat} {w0 : World} {R0 : Nat → Prop} {env0 : Env} {r : (List (Int × Int))} : ∀ (m : Nat) (i3 : Int) (i4 : Int) (i5 : Int) (l6 : List (Int × Int)), ev_top_pubHours_l0 n m i3 i4 i5 l6 = some r → TC Try.prog ⟨w0, fun _ => False, R0⟩ 15 (bodyPost Try.prog Try.f13 (Post ⟨w0, fun _ => False, R0⟩ env0 (.ref 0) [.row 0 26 2 (List.map en_api_Span r)])) [.code (sub (bodyOf Try.f13) [1, 1, 0, 1, 0, 0, 0, 0]), .code (sub (bodyOf Try.f13) [1, 1, 0, 1, 0, 0, 0, 1]), .code (sub (bodyOf Try.f13) [1, 1, 0, 1, 0, 0, 1]), .inLoop (sub (bodyOf Try.f13) [1, 1, 0, 1, 0, 0]), .inBlock 0, .code (sub (bodyOf Try.f13) [1, 1, 1])] ([(1, .ptr 0 0), (3, .ref 1), (4, .val (.int .i64 i3))]) ([.blk 0 [.val (.int .i64 i4), .val (.int .i64 i5)] 26, .row 1 26 2 (List.map en_api_Span l6)]) := by
  intro m
  induction m with
  | zero => intro i3 i4 i5 l6 h; exact none_no h
  | succ m ih =>
    intro i3 i4 i5 l6 h
    rw [ev_top_pubHours_l0] at h
    refine TC.region ?_
    refine op0 (sp_move rfl rfl) rfl trivial rfl rfl ?_
    refine op0 (sp_lss rfl rfl rfl) rfl trivial rfl rfl ?_
    refine TL.nil ?_
    refine TC.cond (b := (decide (i3 < 24))) rfl (fun h1 => ?_) (fun h1 => ?_)
    · have h := cond_t h h1
      refine TC.skip ?_
      refine TC.seq ?_
      refine TC.block ?_
      refine TC.region ?_
      refine op0 (sp_move rfl rfl) rfl trivial rfl rfl ?_
      refine op1 0 rfl (sp_loadBA rfl isBlk rfl vt26 rfl rfl) rfl trivial rfl rfl ?_
      refine op0 (sp_buildSlice (qs := [.agg [.val (.int .i64 i4), .val (.int .i64 i5)]]) (need := []) (els := List.map en_api_Span ([(i4, i5)] : List (Int × Int))) 2 rfl sl23 (by decide) (by decide) rfl rfl rfl (.v (.v (.nil))) (map_len fun _ => rfl) rfl rfl rfl) rfl trivial rfl rfl ?_
      obtain ⟨h2, h⟩ := chk_inv h
      refine appM 2 0 (N := l6.length) (N2 := ([(i4, i5)] : List (Int × Int)).length) 3 rfl rfl trivial rfl rfl rfl rfl rfl isOwn rfl sl23 (len_map _ _) (len_map _ _) h2 (map_app _ _ _) rfl ?_
      refine op0 (sp_assign rfl rfl) rfl trivial rfl rfl ?_
      refine TL.nil ?_
      refine TC.inBlock ?_
      refine TC.region ?_
      refine op0 (sp_move rfl rfl) rfl trivial rfl rfl ?_
      obtain ⟨h3, h⟩ := chk_inv h
      refine op0 (sp_add rfl rfl rfl h3) rfl trivial rfl rfl ?_
      refine op0 (sp_assign rfl rfl) rfl trivial rfl rfl ?_
      refine TL.nil ?_
      refine TC.inLoop ?_
      refine TC.seq ?_
      refine TC.seq ?_
      refine subJ [(1, 3)] (ih _ _ _ _ h) ?_ ?_ ?_
      · exact ⟨rfl, rfl, rfl, trivial⟩
      · exact ⟨mem_at 2 rfl, mem_at 0 rfl, trivial⟩
      · rfl
    · have h := cond_f h h1
      refine TC.exit rfl ?_
      refine TC.seq ?_
      refine TC.region ?_
      refine op0 (sp_move rfl rfl) rfl trivial rfl rfl ?_
      refine op0 (sp_assign rfl rfl) rfl trivial rfl rfl ?_
      refine TL.nil ?_
      cases h
      exact retJ [(0, 1)] (.tmp rfl .nil) rfl ⟨mem_at 1 rfl, trivial⟩ rfl rfl
def ev_top_pubHours (n : Nat) (s1 : Int) (s2 : Int) : Option ((List (Int × Int))) :=
  ev_top_pubHours_l0 n n 0 s1 s2 ([] : List (Int × Int))
set_option maxRecDepth 100000 in
set_option maxHeartbeats 2000000 in
theorem fc_top_pubHours {n : Nat} {s1 : Int} {s2 : Int} {r : (List (Int × Int))} (h : ev_top_pubHours n s1 s2 = some r) : FC Try.prog 13 [.agg [.val (.int .i64 s1), .val (.int .i64 s2)]] [] (.ref 0) [.row 0 26 2 (List.map en_api_Span r)] := by
  refine introJ (nz := 15) Try.func13 rfl rfl rfl (fun w0 R0 env0 => ?_)
  rw [ev_top_pubHours] at h
  refine TC.seq ?_
  refine TC.region ?_
  refine op0 (sp_box 0 rfl rfl rfl rfl rfl) rfl trivial rfl rfl ?_
  refine op0 (sp_assign rfl rfl) rfl trivial rfl rfl ?_
  refine TL.nil ?_
  refine TC.seq ?_
  refine TC.region ?_
  refine op0 (sp_emptyM 1 (List.map en_api_Span []) rfl rfl sl23) rfl trivial rfl rfl ?_
  refine op0 (sp_assign rfl rfl) rfl trivial rfl rfl ?_
  refine TL.nil ?_
  refine TC.seq ?_
  refine TC.seq ?_
  refine TC.region ?_
  refine op0 (sp_assign rfl rfl) rfl trivial rfl rfl ?_
  refine TL.nil ?_
  refine TC.block ?_
  refine TC.loop ?_
  refine TC.seq ?_
  refine TC.seq ?_
  refine subJ [] (ok_top_pubHours_l0 _ _ _ _ _ h) ?_ ?_ ?_
  · exact ⟨rfl, rfl, rfl, trivial⟩
  · exact ⟨mem_at 1 rfl, mem_at 0 rfl, trivial⟩
  · rfl
/- slices_IndexFunc_Lint_int -/
def ev_slices_IndexFunc_Lint_int_l0 (n : Nat) (s1 : List Int) (f2 : Int → Option Bool) : Nat → Int → Option Int
  | 0, _ => none
  | m + 1, i3 => cond (decide (i3 < (s1.length : Int))) (idx s1 i3 fun x4 => (f2 x4).bind fun r5 => cond r5 (some i3) (chk (in64 (i3 + 1)) <| ev_slices_IndexFunc_Lint_int_l0 n s1 f2 m (i3 + 1))) (some (-1))
set_option maxRecDepth 100000 in
set_option maxHeartbeats 2000000 in
theorem ok_slices_IndexFunc_Lint_int_l0 {n : Nat} {w0 : World} {R0 : Nat → Prop} {env0 : Env} {r : Int} {s1 : List Int} {f2 : Int → Option Bool} : ∀ (m : Nat) (i3 : Int), ev_slices_IndexFunc_Lint_int_l0 n s1 f2 m i3 = some r → TC Try.prog ⟨w0, fun _ => False, R0⟩ 19 (bodyPost Try.prog Try.f229 (Post ⟨w0, fun _ => False, R0⟩ env0 (.val (.int .i64 r)) [])) [.code (sub (bodyOf Try.f229) [1, 0, 1, 0, 0, 0]), .code (sub (bodyOf Try.f229) [1, 0, 1, 0, 0, 1]), .inLoop (sub (bodyOf Try.f229) [1, 0, 1, 0, 0]), .inBlock 0, .code (sub (bodyOf Try.f229) [1, 1])] ([(0, .ref 0), (1, .ref 1), (7, .val (.int .i64 (s1.length : Int))), (8, .val (.int .i64 i3))]) ([.ro 0 1 (List.map en_int s1), .any 1 (D.fn Try.prog fe_funcint_bool fd_funcint_bool f2)]) := by
  intro m
  induction m with
  | zero => intro i3 h; exact none_no h
  | succ m ih =>
    intro i3 h
    rw [ev_slices_IndexFunc_Lint_int_l0] at h
    refine TC.region ?_
    refine op0 (sp_lss rfl rfl rfl) rfl trivial rfl rfl ?_
    refine TL.nil ?_
    refine TC.seq ?_
    refine TC.cond (b := (decide (i3 < (s1.length : Int)))) rfl (fun h1 => ?_) (fun h1 => ?_)
    · have h := cond_t h h1
      refine TC.skip ?_
      refine TC.seq ?_
      refine TC.block ?_
      refine TC.seq ?_
      refine TC.region ?_
      refine op0 (sp_move rfl rfl) rfl trivial rfl rfl ?_
      refine op0 (sp_assign rfl rfl) rfl trivial rfl rfl ?_
      refine TL.nil ?_
      refine TC.seq ?_
      refine TC.region ?_
      refine op0 (sp_move rfl rfl) rfl trivial rfl rfl ?_
      refine op0 (sp_move rfl rfl) rfl trivial rfl rfl ?_
      refine op0 (sp_move rfl rfl) rfl trivial rfl rfl ?_
      obtain ⟨x4, h2, h3, h⟩ := idx_inv h
      refine op1 0 rfl (sp_indexS rfl rfl rfl isRo sl37 h2 (map_get _ h3)) rfl trivial rfl rfl ?_
      refine op1 0 rfl (sp_loadR (i := (i3 : Int).toNat) (j := 0) rfl rfl isRo vt3 rfl (map_get _ h3) rfl (.v (.nil)) (nodup_of_B rfl)) rfl trivial rfl rfl ?_
      obtain ⟨r5, h4, h⟩ := bind_inv h
      refine op1 1 rfl (sp_callF (avs := [.val (.int .i64 x4)]) (v := .val (.bool r5)) x4 rfl rfl rfl rfl rfl h4) rfl trivial rfl rfl ?_
      refine TL.nil ?_
      refine TC.cond (b := r5) rfl (fun h5 => ?_) (fun h5 => ?_)
      · have h := cond_t h h5
        refine TC.seq ?_
        refine TC.region ?_
        refine op0 (sp_move rfl rfl) rfl trivial rfl rfl ?_
        refine op0 (sp_assign rfl rfl) rfl trivial rfl rfl ?_
        refine TL.nil ?_
        cases h
        exact retJ [] (.tmp rfl .nil) rfl trivial rfl rfl
      · have h := cond_f h h5
        refine TC.skip ?_
        refine TC.inBlock ?_
        refine TC.region ?_
        obtain ⟨h6, h⟩ := chk_inv h
        refine op0 (sp_add rfl rfl rfl h6) rfl trivial rfl rfl ?_
        refine op0 (sp_move rfl rfl) rfl trivial rfl rfl ?_
        refine TL.nil ?_
        refine TC.inLoop ?_
        refine TC.seq ?_
        refine subJ [] (ih _ h) ?_ ?_ ?_
        · exact ⟨rfl, rfl, rfl, rfl, trivial⟩
        · exact ⟨mem_at 0 rfl, mem_at 1 rfl, trivial⟩
        · rfl
    · have h := cond_f h h1
      refine TC.exit rfl ?_
      refine TC.seq ?_
      refine TC.region ?_
      refine op0 (sp_assign rfl rfl) rfl trivial rfl rfl ?_
      refine TL.nil ?_
      cases h
      exact retJ [] (.tmp rfl .nil) rfl trivial rfl rfl
def ev_slices_IndexFunc_Lint_int (n : Nat) (s1 : List Int) (f2 : Int → Option Bool) : Option Int :=
  ev_slices_IndexFunc_Lint_int_l0 n s1 f2 n 0
set_option maxRecDepth 100000 in
set_option maxHeartbeats 2000000 in
theorem fc_slices_IndexFunc_Lint_int {n : Nat} {s1 : List Int} {f2 : Int → Option Bool} {r : Int} (h : ev_slices_IndexFunc_Lint_int n s1 f2 = some r) : FC Try.prog 229 [.ref 0, .ref 1] [.ro 0 1 (List.map en_int s1), .any 1 (D.fn Try.prog fe_funcint_bool fd_funcint_bool f2)] (.val (.int .i64 r)) [] := by
  refine introJ (nz := 19) Try.func229 rfl rfl rfl (fun w0 R0 env0 => ?_)
  rw [ev_slices_IndexFunc_Lint_int] at h
  refine TC.seq ?_
  refine TC.region ?_
  refine op0 (sp_assign rfl rfl) rfl trivial rfl rfl ?_
  refine TL.nil ?_
  refine TC.seq ?_
  refine TC.seq ?_
  refine TC.region ?_
  refine op0 (sp_move rfl rfl) rfl trivial rfl rfl ?_
  refine op1 0 rfl (sp_lenM (N := s1.length) (len_map _ _) rfl rfl isRo Try.underlying37) rfl trivial rfl rfl ?_
  refine op0 (sp_move rfl rfl) rfl trivial rfl rfl ?_
  refine TL.nil ?_
  refine TC.block ?_
  refine TC.loop ?_
  refine TC.seq ?_
  refine subJ [] (ok_slices_IndexFunc_Lint_int_l0 _ _ h) ?_ ?_ ?_
  · exact ⟨rfl, rfl, rfl, rfl, trivial⟩
  · exact ⟨mem_at 0 rfl, mem_at 1 rfl, trivial⟩
  · rfl
/- slices_ContainsFunc_Lint_int -/
def ev_slices_ContainsFunc_Lint_int (n : Nat) (s1 : List Int) (f2 : Int → Option Bool) : Option Bool :=
  (ev_slices_IndexFunc_Lint_int n s1 f2).bind fun r3 => some (decide ((0 : Int) ≤ r3))
set_option maxRecDepth 100000 in
set_option maxHeartbeats 2000000 in
theorem fc_slices_ContainsFunc_Lint_int {n : Nat} {s1 : List Int} {f2 : Int → Option Bool} {r : Bool} (h : ev_slices_ContainsFunc_Lint_int n s1 f2 = some r) : FC Try.prog 133 [.ref 0, .ref 1] [.ro 0 1 (List.map en_int s1), .any 1 (D.fn Try.prog fe_funcint_bool fd_funcint_bool f2)] (.val (.bool r)) [] := by
  refine introJ (nz := 9) Try.func133 rfl rfl rfl (fun w0 R0 env0 => ?_)
  rw [ev_slices_ContainsFunc_Lint_int] at h
  refine TC.seq ?_
  refine TC.region ?_
  refine op0 (sp_assign rfl rfl) rfl trivial rfl rfl ?_
  refine TL.nil ?_
  refine TC.seq ?_
  refine TC.region ?_
  refine op0 (sp_move rfl rfl) rfl trivial rfl rfl ?_
  refine op0 (sp_move rfl rfl) rfl trivial rfl rfl ?_
  obtain ⟨r3, h1, h⟩ := bind_inv h
  refine opN (need := [.ro 0 1 (List.map en_int s1), .any 1 (D.fn Try.prog fe_funcint_bool fd_funcint_bool f2)]) [0, 1] ⟨rfl, rfl, trivial⟩ (sp_call (avs := [.ref 0, .ref 1]) (need := [.ro 0 1 (List.map en_int s1), .any 1 (D.fn Try.prog fe_funcint_bool fd_funcint_bool f2)]) (v := .val (.int .i64 r3)) (news := []) rfl rfl rfl Try.call229 (atJ [] [] (fc_slices_IndexFunc_Lint_int h1) rfl rfl) (.inl (roAll rfl))) rfl trivial rfl rfl ?_
  refine op0 (sp_geq rfl rfl rfl) rfl trivial rfl rfl ?_
  refine op0 (sp_assign rfl rfl) rfl trivial rfl rfl ?_
  refine TL.nil ?_
  cases h
  exact retJ [] (.tmp rfl .nil) rfl trivial rfl rfl
/- slices_IndexFunc_Lapi_Span_api_Span -/
def ev_slices_IndexFunc_Lapi_Span_api_Span_l0 (n : Nat) (s1 : List (Int × Int)) (f2 : (Int × Int) → Option Bool) : Nat → Int → Option Int
  | 0, _ => none
  | m + 1, i3 => cond (decide (i3 < (s1.length : Int))) (idx s1 i3 fun x4 => (f2 (x4.1, x4.2)).bind fun r5 => cond r5 (some i3) (chk (in64 (i3 + 1)) <| ev_slices_IndexFunc_Lapi_Span_api_Span_l0 n s1 f2 m (i3 + 1))) (some (-1))
set_option maxRecDepth 100000 in
set_option maxHeartbeats 2000000 in
theorem ok_slices_IndexFunc_Lapi_Span_api_Span_l0 {n : Nat} {w0 : World} {R0 : Nat → Prop} {env0 : Env} {r : Int} {s1 : List (Int × Int)} {f2 : (Int × Int) → Option Bool} : ∀ (m : Nat) (i3 : Int), ev_slices_IndexFunc_Lapi_Span_api_Span_l0 n s1 f2 m i3 = some r → TC Try.prog ⟨w0, fun _ => False, R0⟩ 19 (bodyPost Try.prog Try.f280 (Post ⟨w0, fun _ => False, R0⟩ env0 (.val (.int .i64 r)) [])) [.code (sub (bodyOf Try.f280) [1, 0, 1, 0, 0, 0]), .code (sub (bodyOf Try.f280) [1, 0, 1, 0, 0, 1]), .inLoop (sub (bodyOf Try.f280) [1, 0, 1, 0, 0]), .inBlock 0, .code (sub (bodyOf Try.f280) [1, 1])] ([(0, .ref 0), (1, .ref 1), (7, .val (.int .i64 (s1.length : Int))), (8, .val (.int .i64 i3))]) ([.ro 0 2 (List.map en_api_Span s1), .any 1 (D.fn Try.prog fe_funcapi_Span_bool fd_funcapi_Span_bool f2)]) := by
  intro m
  induction m with
  | zero => intro i3 h; exact none_no h
  | succ m ih =>
    intro i3 h
    rw [ev_slices_IndexFunc_Lapi_Span_api_Span_l0] at h
    refine TC.region ?_
    refine op0 (sp_lss rfl rfl rfl) rfl trivial rfl rfl ?_
    refine TL.nil ?_
    refine TC.seq ?_
    refine TC.cond (b := (decide (i3 < (s1.length : Int)))) rfl (fun h1 => ?_) (fun h1 => ?_)
    · have h := cond_t h h1
      refine TC.skip ?_
      refine TC.seq ?_
      refine TC.block ?_
      refine TC.seq ?_
      refine TC.region ?_
      refine op0 (sp_move rfl rfl) rfl trivial rfl rfl ?_
      refine op0 (sp_assign rfl rfl) rfl trivial rfl rfl ?_
      refine TL.nil ?_
      refine TC.seq ?_
      refine TC.region ?_
      refine op0 (sp_move rfl rfl) rfl trivial rfl rfl ?_
      refine op0 (sp_move rfl rfl) rfl trivial rfl rfl ?_
      refine op0 (sp_move rfl rfl) rfl trivial rfl rfl ?_
      obtain ⟨x4, h2, h3, h⟩ := idx_inv h
      refine op1 0 rfl (sp_indexS rfl rfl rfl isRo sl23 h2 (map_get _ h3)) rfl trivial rfl rfl ?_
      refine op1 0 rfl (sp_loadRA (i := (i3 : Int).toNat) (j := 0) (as_ := [.val (.int .i64 x4.1), .val (.int .i64 x4.2)]) (ns := []) rfl rfl isRo vt26 rfl (map_get _ h3) rfl rfl (by decide) (.v (.v (.nil))) (nodup_of_B rfl)) rfl trivial rfl rfl ?_
      obtain ⟨r5, h4, h⟩ := bind_inv h
      refine op1 1 rfl (sp_callF (avs := [.agg [.val (.int .i64 x4.1), .val (.int .i64 x4.2)]]) (v := .val (.bool r5)) (x4.1, x4.2) rfl rfl rfl rfl rfl h4) rfl trivial rfl rfl ?_
      refine TL.nil ?_
      refine TC.cond (b := r5) rfl (fun h5 => ?_) (fun h5 => ?_)
      · have h := cond_t h h5
        refine TC.seq ?_
        refine TC.region ?_
        refine op0 (sp_move rfl rfl) rfl trivial rfl rfl ?_
        refine op0 (sp_assign rfl rfl) rfl trivial rfl rfl ?_
        refine TL.nil ?_
        cases h
        exact retJ [] (.tmp rfl .nil) rfl trivial rfl rfl
      · have h := cond_f h h5
        refine TC.skip ?_
        refine TC.inBlock ?_
        refine TC.region ?_
        obtain ⟨h6, h⟩ := chk_inv h
        refine op0 (sp_add rfl rfl rfl h6) rfl trivial rfl rfl ?_
        refine op0 (sp_move rfl rfl) rfl trivial rfl rfl ?_
        refine TL.nil ?_
        refine TC.inLoop ?_
        refine TC.seq ?_
        refine subJ [] (ih _ h) ?_ ?_ ?_
        · exact ⟨rfl, rfl, rfl, rfl, trivial⟩
        · exact ⟨mem_at 0 rfl, mem_at 1 rfl, trivial⟩
        · rfl
    · have h := cond_f h h1
      refine TC.exit rfl ?_
      refine TC.seq ?_
      refine TC.region ?_
      refine op0 (sp_assign rfl rfl) rfl trivial rfl rfl ?_
      refine TL.nil ?_
      cases h
      exact retJ [] (.tmp rfl .nil) rfl trivial rfl rfl
def ev_slices_IndexFunc_Lapi_Span_api_Span (n : Nat) (s1 : List (Int × Int)) (f2 : (Int × Int) → Option Bool) : Option Int :=
  ev_slices_IndexFunc_Lapi_Span_api_Span_l0 n s1 f2 n 0
set_option maxRecDepth 100000 in
set_option maxHeartbeats 2000000 in
theorem fc_slices_IndexFunc_Lapi_Span_api_Span {n : Nat} {s1 : List (Int × Int)} {f2 : (Int × Int) → Option Bool} {r : Int} (h : ev_slices_IndexFunc_Lapi_Span_api_Span n s1 f2 = some r) : FC Try.prog 280 [.ref 0, .ref 1] [.ro 0 2 (List.map en_api_Span s1), .any 1 (D.fn Try.prog fe_funcapi_Span_bool fd_funcapi_Span_bool f2)] (.val (.int .i64 r)) [] := by
  refine introJ (nz := 19) Try.func280 rfl rfl rfl (fun w0 R0 env0 => ?_)
  rw [ev_slices_IndexFunc_Lapi_Span_api_Span] at h
  refine TC.seq ?_
  refine TC.region ?_
  refine op0 (sp_assign rfl rfl) rfl trivial rfl rfl ?_
  refine TL.nil ?_
  refine TC.seq ?_
  refine TC.seq ?_
  refine TC.region ?_
  refine op0 (sp_move rfl rfl) rfl trivial rfl rfl ?_
  refine op1 0 rfl (sp_lenM (N := s1.length) (len_map _ _) rfl rfl isRo Try.underlying23) rfl trivial rfl rfl ?_
  refine op0 (sp_move rfl rfl) rfl trivial rfl rfl ?_
  refine TL.nil ?_
  refine TC.block ?_
  refine TC.loop ?_
  refine TC.seq ?_
  refine subJ [] (ok_slices_IndexFunc_Lapi_Span_api_Span_l0 _ _ h) ?_ ?_ ?_
  · exact ⟨rfl, rfl, rfl, rfl, trivial⟩
  · exact ⟨mem_at 0 rfl, mem_at 1 rfl, trivial⟩
  · rfl
/- slices_ContainsFunc_Lapi_Span_api_Span -/
def ev_slices_ContainsFunc_Lapi_Span_api_Span (n : Nat) (s1 : List (Int × Int)) (f2 : (Int × Int) → Option Bool) : Option Bool :=
  (ev_slices_IndexFunc_Lapi_Span_api_Span n s1 f2).bind fun r3 => some (decide ((0 : Int) ≤ r3))
set_option maxRecDepth 100000 in
set_option maxHeartbeats 2000000 in
theorem fc_slices_ContainsFunc_Lapi_Span_api_Span {n : Nat} {s1 : List (Int × Int)} {f2 : (Int × Int) → Option Bool} {r : Bool} (h : ev_slices_ContainsFunc_Lapi_Span_api_Span n s1 f2 = some r) : FC Try.prog 226 [.ref 0, .ref 1] [.ro 0 2 (List.map en_api_Span s1), .any 1 (D.fn Try.prog fe_funcapi_Span_bool fd_funcapi_Span_bool f2)] (.val (.bool r)) [] := by
  refine introJ (nz := 9) Try.func226 rfl rfl rfl (fun w0 R0 env0 => ?_)
  rw [ev_slices_ContainsFunc_Lapi_Span_api_Span] at h
  refine TC.seq ?_
  refine TC.region ?_
  refine op0 (sp_assign rfl rfl) rfl trivial rfl rfl ?_
  refine TL.nil ?_
  refine TC.seq ?_
  refine TC.region ?_
  refine op0 (sp_move rfl rfl) rfl trivial rfl rfl ?_
  refine op0 (sp_move rfl rfl) rfl trivial rfl rfl ?_
  obtain ⟨r3, h1, h⟩ := bind_inv h
  refine opN (need := [.ro 0 2 (List.map en_api_Span s1), .any 1 (D.fn Try.prog fe_funcapi_Span_bool fd_funcapi_Span_bool f2)]) [0, 1] ⟨rfl, rfl, trivial⟩ (sp_call (avs := [.ref 0, .ref 1]) (need := [.ro 0 2 (List.map en_api_Span s1), .any 1 (D.fn Try.prog fe_funcapi_Span_bool fd_funcapi_Span_bool f2)]) (v := .val (.int .i64 r3)) (news := []) rfl rfl rfl Try.call280 (atJ [] [] (fc_slices_IndexFunc_Lapi_Span_api_Span h1) rfl rfl) (.inl (roAll rfl))) rfl trivial rfl rfl ?_
  refine op0 (sp_geq rfl rfl rfl) rfl trivial rfl rfl ?_
  refine op0 (sp_assign rfl rfl) rfl trivial rfl rfl ?_
  refine TL.nil ?_
  cases h
  exact retJ [] (.tmp rfl .nil) rfl trivial rfl rfl
/- slices_IndexFunc_Lapi_PartContract_api_PartContract -/
def ev_slices_IndexFunc_Lapi_PartContract_api_PartContract_l0 (n : Nat) (s1 : List (Int × Int × Int)) (f2 : (Int × Int × Int) → Option Bool) : Nat → Int → Option Int
  | 0, _ => none
  | m + 1, i3 => cond (decide (i3 < (s1.length : Int))) (idx s1 i3 fun x4 => (f2 (x4.1, x4.2.1, x4.2.2)).bind fun r5 => cond r5 (some i3) (chk (in64 (i3 + 1)) <| ev_slices_IndexFunc_Lapi_PartContract_api_PartContract_l0 n s1 f2 m (i3 + 1))) (some (-1))
set_option maxRecDepth 100000 in
set_option maxHeartbeats 2000000 in
theorem ok_slices_IndexFunc_Lapi_PartContract_api_PartContract_l0 {n : Nat} {w0 : World} {R0 : Nat → Prop} {env0 : Env} {r : Int} {s1 : List (Int × Int × Int)} {f2 : (Int × Int × Int) → Option Bool} : ∀ (m : Nat) (i3 : Int), ev_slices_IndexFunc_Lapi_PartContract_api_PartContract_l0 n s1 f2 m i3 = some r → TC Try.prog ⟨w0, fun _ => False, R0⟩ 19 (bodyPost Try.prog Try.f143 (Post ⟨w0, fun _ => False, R0⟩ env0 (.val (.int .i64 r)) [])) [.code (sub (bodyOf Try.f143) [1, 0, 1, 0, 0, 0]), .code (sub (bodyOf Try.f143) [1, 0, 1, 0, 0, 1]), .inLoop (sub (bodyOf Try.f143) [1, 0, 1, 0, 0]), .inBlock 0, .code (sub (bodyOf Try.f143) [1, 1])] ([(0, .ref 0), (1, .ref 1), (7, .val (.int .i64 (s1.length : Int))), (8, .val (.int .i64 i3))]) ([.ro 0 3 (List.map en_api_PartContract s1), .any 1 (D.fn Try.prog fe_funcapi_PartContract_bool fd_funcapi_PartContract_bool f2)]) := by
  intro m
  induction m with
  | zero => intro i3 h; exact none_no h
  | succ m ih =>
    intro i3 h
    rw [ev_slices_IndexFunc_Lapi_PartContract_api_PartContract_l0] at h
    refine TC.region ?_
    refine op0 (sp_lss rfl rfl rfl) rfl trivial rfl rfl ?_
    refine TL.nil ?_
    refine TC.seq ?_
    refine TC.cond (b := (decide (i3 < (s1.length : Int)))) rfl (fun h1 => ?_) (fun h1 => ?_)
    · have h := cond_t h h1
      refine TC.skip ?_
      refine TC.seq ?_
      refine TC.block ?_
      refine TC.seq ?_
      refine TC.region ?_
      refine op0 (sp_move rfl rfl) rfl trivial rfl rfl ?_
      refine op0 (sp_assign rfl rfl) rfl trivial rfl rfl ?_
      refine TL.nil ?_
      refine TC.seq ?_
      refine TC.region ?_
      refine op0 (sp_move rfl rfl) rfl trivial rfl rfl ?_
      refine op0 (sp_move rfl rfl) rfl trivial rfl rfl ?_
      refine op0 (sp_move rfl rfl) rfl trivial rfl rfl ?_
      obtain ⟨x4, h2, h3, h⟩ := idx_inv h
      refine op1 0 rfl (sp_indexS rfl rfl rfl isRo sl46 h2 (map_get _ h3)) rfl trivial rfl rfl ?_
      refine op1 0 rfl (sp_loadRA (i := (i3 : Int).toNat) (j := 0) (as_ := [.val (.int .i64 x4.1), .val (.int .i64 x4.2.1), .val (.int .i64 x4.2.2)]) (ns := []) rfl rfl isRo vt48 rfl (map_get _ h3) rfl rfl (by decide) (.v (.v (.v (.nil)))) (nodup_of_B rfl)) rfl trivial rfl rfl ?_
      obtain ⟨r5, h4, h⟩ := bind_inv h
      refine op1 1 rfl (sp_callF (avs := [.agg [.val (.int .i64 x4.1), .val (.int .i64 x4.2.1), .val (.int .i64 x4.2.2)]]) (v := .val (.bool r5)) (x4.1, x4.2.1, x4.2.2) rfl rfl rfl rfl rfl h4) rfl trivial rfl rfl ?_
      refine TL.nil ?_
      refine TC.cond (b := r5) rfl (fun h5 => ?_) (fun h5 => ?_)
      · have h := cond_t h h5
        refine TC.seq ?_
        refine TC.region ?_
        refine op0 (sp_move rfl rfl) rfl trivial rfl rfl ?_
        refine op0 (sp_assign rfl rfl) rfl trivial rfl rfl ?_
        refine TL.nil ?_
        cases h
        exact retJ [] (.tmp rfl .nil) rfl trivial rfl rfl
      · have h := cond_f h h5
        refine TC.skip ?_
        refine TC.inBlock ?_
        refine TC.region ?_
        obtain ⟨h6, h⟩ := chk_inv h
        refine op0 (sp_add rfl rfl rfl h6) rfl trivial rfl rfl ?_
        refine op0 (sp_move rfl rfl) rfl trivial rfl rfl ?_
        refine TL.nil ?_
        refine TC.inLoop ?_
        refine TC.seq ?_
        refine subJ [] (ih _ h) ?_ ?_ ?_
        · exact ⟨rfl, rfl, rfl, rfl, trivial⟩
        · exact ⟨mem_at 0 rfl, mem_at 1 rfl, trivial⟩
        · rfl
    · have h := cond_f h h1
      refine TC.exit rfl ?_
      refine TC.seq ?_
      refine TC.region ?_
      refine op0 (sp_assign rfl rfl) rfl trivial rfl rfl ?_
      refine TL.nil ?_
      cases h
      exact retJ [] (.tmp rfl .nil) rfl trivial rfl rfl
def ev_slices_IndexFunc_Lapi_PartContract_api_PartContract (n : Nat) (s1 : List (Int × Int × Int)) (f2 : (Int × Int × Int) → Option Bool) : Option Int :=
  ev_slices_IndexFunc_Lapi_PartContract_api_PartContract_l0 n s1 f2 n 0
set_option maxRecDepth 100000 in
set_option maxHeartbeats 2000000 in
theorem fc_slices_IndexFunc_Lapi_PartContract_api_PartContract {n : Nat} {s1 : List (Int × Int × Int)} {f2 : (Int × Int × Int) → Option Bool} {r : Int} (h : ev_slices_IndexFunc_Lapi_PartContract_api_PartContract n s1 f2 = some r) : FC Try.prog 143 [.ref 0, .ref 1] [.ro 0 3 (List.map en_api_PartContract s1), .any 1 (D.fn Try.prog fe_funcapi_PartContract_bool fd_funcapi_PartContract_bool f2)] (.val (.int .i64 r)) [] := by
  refine introJ (nz := 19) Try.func143 rfl rfl rfl (fun w0 R0 env0 => ?_)
  rw [ev_slices_IndexFunc_Lapi_PartContract_api_PartContract] at h
  refine TC.seq ?_
  refine TC.region ?_
  refine op0 (sp_assign rfl rfl) rfl trivial rfl rfl ?_
  refine TL.nil ?_
  refine TC.seq ?_
  refine TC.seq ?_
  refine TC.region ?_
  refine op0 (sp_move rfl rfl) rfl trivial rfl rfl ?_
  refine op1 0 rfl (sp_lenM (N := s1.length) (len_map _ _) rfl rfl isRo Try.underlying46) rfl trivial rfl rfl ?_
  refine op0 (sp_move rfl rfl) rfl trivial rfl rfl ?_
  refine TL.nil ?_
  refine TC.block ?_
  refine TC.loop ?_
  refine TC.seq ?_
  refine subJ [] (ok_slices_IndexFunc_Lapi_PartContract_api_PartContract_l0 _ _ h) ?_ ?_ ?_
  · exact ⟨rfl, rfl, rfl, rfl, trivial⟩
  · exact ⟨mem_at 0 rfl, mem_at 1 rfl, trivial⟩
  · rfl
/- slices_ContainsFunc_Lapi_PartContract_api_PartContract -/
def ev_slices_ContainsFunc_Lapi_PartContract_api_PartContract (n : Nat) (s1 : List (Int × Int × Int)) (f2 : (Int × Int × Int) → Option Bool) : Option Bool :=
  (ev_slices_IndexFunc_Lapi_PartContract_api_PartContract n s1 f2).bind fun r3 => some (decide ((0 : Int) ≤ r3))
set_option maxRecDepth 100000 in
set_option maxHeartbeats 2000000 in
theorem fc_slices_ContainsFunc_Lapi_PartContract_api_PartContract {n : Nat} {s1 : List (Int × Int × Int)} {f2 : (Int × Int × Int) → Option Bool} {r : Bool} (h : ev_slices_ContainsFunc_Lapi_PartContract_api_PartContract n s1 f2 = some r) : FC Try.prog 68 [.ref 0, .ref 1] [.ro 0 3 (List.map en_api_PartContract s1), .any 1 (D.fn Try.prog fe_funcapi_PartContract_bool fd_funcapi_PartContract_bool f2)] (.val (.bool r)) [] := by
  refine introJ (nz := 9) Try.func68 rfl rfl rfl (fun w0 R0 env0 => ?_)
  rw [ev_slices_ContainsFunc_Lapi_PartContract_api_PartContract] at h
  refine TC.seq ?_
  refine TC.region ?_
  refine op0 (sp_assign rfl rfl) rfl trivial rfl rfl ?_
  refine TL.nil ?_
  refine TC.seq ?_
  refine TC.region ?_
  refine op0 (sp_move rfl rfl) rfl trivial rfl rfl ?_
  refine op0 (sp_move rfl rfl) rfl trivial rfl rfl ?_
  obtain ⟨r3, h1, h⟩ := bind_inv h
  refine opN (need := [.ro 0 3 (List.map en_api_PartContract s1), .any 1 (D.fn Try.prog fe_funcapi_PartContract_bool fd_funcapi_PartContract_bool f2)]) [0, 1] ⟨rfl, rfl, trivial⟩ (sp_call (avs := [.ref 0, .ref 1]) (need := [.ro 0 3 (List.map en_api_PartContract s1), .any 1 (D.fn Try.prog fe_funcapi_PartContract_bool fd_funcapi_PartContract_bool f2)]) (v := .val (.int .i64 r3)) (news := []) rfl rfl rfl Try.call143 (atJ [] [] (fc_slices_IndexFunc_Lapi_PartContract_api_PartContract h1) rfl rfl) (.inl (roAll rfl))) rfl trivial rfl rfl ?_
  refine op0 (sp_geq rfl rfl rfl) rfl trivial rfl rfl ?_
  refine op0 (sp_assign rfl rfl) rfl trivial rfl rfl ?_
  refine TL.nil ?_
  cases h
  exact retJ [] (.tmp rfl .nil) rfl trivial rfl rfl
/- slices_Clone_Lint_int -/
def ev_slices_Clone_Lint_int (n : Nat) (s1 : List Int) : Option ((List Int)) :=
  chk (room 8 (([] : List Int).length + s1.length)) <| some (([] : List Int) ++ s1)
set_option maxRecDepth 100000 in
set_option maxHeartbeats 2000000 in
theorem fc_slices_Clone_Lint_int {n : Nat} {s1 : List Int} {r : (List Int)} (h : ev_slices_Clone_Lint_int n s1 = some r) : FC Try.prog 74 [.ref 0] [.ro 0 1 (List.map en_int s1)] (.ref 0) [.row 0 3 1 (List.map en_int r)] := by
  refine introJ (nz := 8) Try.func74 rfl rfl rfl (fun w0 R0 env0 => ?_)
  rw [ev_slices_Clone_Lint_int] at h
  refine TC.seq ?_
  refine TC.region ?_
  refine op0 (sp_assign rfl rfl) rfl trivial rfl rfl ?_
  refine TL.nil ?_
  refine TC.seq ?_
  refine TC.seq ?_
  refine TC.region ?_
  refine op0 (sp_move rfl rfl) rfl trivial rfl rfl ?_
  refine op1 0 rfl (sp_eqNil 1 rfl Try.underlying37 rfl rfl isRo (len_map _ _)) rfl trivial rfl rfl ?_
  refine TL.nil ?_
  refine condNil 0 rfl rfl (fun hN => ?_) ?_
  · have hx := List.eq_nil_of_length_eq_zero hN
    subst hx
    repeat (have h := (chk_inv h).2)
    refine TC.seq ?_
    refine TC.region ?_
    refine op0 (sp_assign rfl rfl) rfl trivial rfl rfl ?_
    refine TL.nil ?_
    refine nilRowC 2 2 3 1 (List.map en_int []) rfl rfl rfl ?_
    cases h
    exact retJ [(0, 2)] (.tmp rfl .nil) rfl ⟨mem_at 0 rfl, trivial⟩ rfl rfl
  · refine TC.skip ?_
    refine TC.seq ?_
    refine TC.region ?_
    refine op0 (sp_emptyM 3 (List.map en_int []) rfl rfl sl37) rfl trivial rfl rfl ?_
    refine op0 (sp_move rfl rfl) rfl trivial rfl rfl ?_
    obtain ⟨h1, h⟩ := chk_inv h
    refine appM 0 2 (N := ([] : List Int).length) (N2 := s1.length) 4 rfl rfl trivial rfl rfl rfl rfl rfl isRo rfl sl37 (len_map _ _) (len_map _ _) h1 (map_app _ _ _) rfl ?_
    refine op0 (sp_assign rfl rfl) rfl trivial rfl rfl ?_
    refine TL.nil ?_
    cases h
    exact retJ [(0, 4)] (.tmp rfl .nil) rfl ⟨mem_at 0 rfl, trivial⟩ rfl rfl
/- top_pubRest -/
def ev_top_pubRest (n : Nat) (nn1 : Int) (by_2 : Int) : Option Int :=
  chk (by_2 != 0) <| chk (in64 ((Int.tmod nn1 by_2) + by_2)) <| chk (by_2 != 0) <| some (Int.tmod ((Int.tmod nn1 by_2) + by_2) by_2)
set_option maxRecDepth 100000 in
set_option maxHeartbeats 2000000 in
theorem fc_top_pubRest {n : Nat} {nn1 : Int} {by_2 : Int} {r : Int} (h : ev_top_pubRest n nn1 by_2 = some r) : FC Try.prog 35 [.val (.int .i64 nn1), .val (.int .i64 by_2)] [] (.val (.int .i64 r)) [] := by
  refine introJ (nz := 12) Try.func35 rfl rfl rfl (fun w0 R0 env0 => ?_)
  rw [ev_top_pubRest] at h
  refine TC.seq ?_
  refine TC.region ?_
  refine op0 (sp_assign rfl rfl) rfl trivial rfl rfl ?_
  refine TL.nil ?_
  refine TC.seq ?_
  refine TC.region ?_
  refine op0 (sp_move rfl rfl) rfl trivial rfl rfl ?_
  refine op0 (sp_move rfl rfl) rfl trivial rfl rfl ?_
  obtain ⟨h1, h⟩ := chk_inv h
  refine op0 (sp_rem rfl rfl rfl h1) rfl trivial rfl rfl ?_
  refine op0 (sp_move rfl rfl) rfl trivial rfl rfl ?_
  obtain ⟨h2, h⟩ := chk_inv h
  refine op0 (sp_add rfl rfl rfl h2) rfl trivial rfl rfl ?_
  refine op0 (sp_move rfl rfl) rfl trivial rfl rfl ?_
  obtain ⟨h3, h⟩ := chk_inv h
  refine op0 (sp_rem rfl rfl rfl h3) rfl trivial rfl rfl ?_
  refine op0 (sp_assign rfl rfl) rfl trivial rfl rfl ?_
  refine TL.nil ?_
  cases h
  exact retJ [] (.tmp rfl .nil) rfl trivial rfl rfl
/- slices_Values_Lint_int -/
def ev_slices_Values_Lint_int (n : Nat) (s1 : List Int) : Option ((List Int)) :=
  some s1
set_option maxRecDepth 100000 in
set_option maxHeartbeats 2000000 in
theorem fc_slices_Values_Lint_int {n : Nat} {s1 : List Int} {r : (List Int)} (h : ev_slices_Values_Lint_int n s1 = some r) : FC Try.prog 85 [.ref 0] [.ro 0 1 (List.map en_int s1)] (.fn 150 [] [.ptr 0 0]) [.blk 0 [.ref 1] 37, .ro 1 1 (List.map en_int r)] := by
  refine introJ (nz := 4) Try.func85 rfl rfl rfl (fun w0 R0 env0 => ?_)
  rw [ev_slices_Values_Lint_int] at h
  refine TC.seq ?_
  refine TC.region ?_
  refine op0 (sp_box 1 rfl rfl rfl rfl rfl) rfl trivial rfl rfl ?_
  refine op0 (sp_assign rfl rfl) rfl trivial rfl rfl ?_
  refine TL.nil ?_
  refine TC.seq ?_
  refine TC.region ?_
  refine op0 (sp_makeFunc (fi := []) (ca := [.tmp 1]) (fa := []) (cb := [.ptr 1 0]) rfl rfl rfl) rfl trivial rfl rfl ?_
  refine op0 (sp_assign rfl rfl) rfl trivial rfl rfl ?_
  refine TL.nil ?_
  cases h
  exact retJ [(0, 1), (1, 0)] (.tmp rfl .nil) rfl ⟨mem_at 0 rfl, mem_at 1 rfl, trivial⟩ rfl rfl
/- slices_Values_Lint_int_1 -/
def ev_slices_Values_Lint_int_1_l0 {σ1 : Type} (yb1 : Int → σ1 → Option (Bool × σ1)) (n : Nat) (c2 : List Int) : Nat → Int → σ1 → Option σ1
  | 0, _, _ => none
  | m + 1, i3, y4 => cond (decide (i3 < (c2.length : Int))) (idx c2 i3 fun x5 => (yb1 x5 y4).bind fun r6 => cond (!r6.1) (some r6.2) (chk (in64 (i3 + 1)) <| ev_slices_Values_Lint_int_1_l0 yb1 n c2 m (i3 + 1) r6.2)) (some y4)
set_option maxRecDepth 100000 in
set_option maxHeartbeats 2000000 in
theorem ok_slices_Values_Lint_int_1_l0 {σ1 : Type} {yb1 : Int → σ1 → Option (Bool × σ1)} {I1 : σ1 → Inv} (hI1 : Yields Try.prog ye_funcint_bool yn_funcint_bool yb1 I1) {n : Nat} {w0 : World} {M0 R0 : Nat → Prop} {env0 : Env} {df : List Deferred} {r : σ1} {c2 : List Int} : ∀ (m : Nat) (i3 : Int) (y4 : σ1), ev_slices_Values_Lint_int_1_l0 yb1 n c2 m i3 y4 = some r → TC Try.prog ⟨w0, M0, R0⟩ ⟨16, none, df⟩ (bodyPostM Fence.wide 0 Try.prog Try.f150 (PostT ⟨w0, M0, R0⟩ env0 [0] (.tup []) [.inv 0 (I1 r)])) [.code (sub (bodyOf Try.f150) [1, 0, 0, 0]), .code (sub (bodyOf Try.f150) [1, 0, 0, 1]), .inLoop (sub (bodyOf Try.f150) [1, 0, 0]), .inBlock 0] ([(0, .ref 0), (5, .ref 2), (6, .val (.int .i64 (c2.length : Int))), (7, .val (.int .i64 i3))]) ([.ro 2 1 (List.map en_int c2), .inv 3 (marksI df), .pin 4 0 (env0 0), .inv 0 (I1 y4)]) := by
  intro m
  induction m with
  | zero => intro i3 y4 h; exact none_no h
  | succ m ih =>
    intro i3 y4 h
    rw [ev_slices_Values_Lint_int_1_l0] at h
    refine TC.region ?_
    refine op0 (sp_lss rfl rfl rfl) rfl trivial rfl rfl ?_
    refine TL.nil ?_
    refine TC.seq ?_
    refine TC.cond (b := (decide (i3 < (c2.length : Int)))) rfl (fun h1 => ?_) (fun h1 => ?_)
    · have h := cond_t h h1
      refine TC.skip ?_
      refine TC.seq ?_
      refine TC.block ?_
      refine TC.seq ?_
      refine TC.region ?_
      obtain ⟨x5, h2, h3, h⟩ := idx_inv h
      refine op1 0 rfl (sp_indexS rfl rfl rfl isRo sl37 h2 (map_get _ h3)) rfl trivial rfl rfl ?_
      refine op1 0 rfl (sp_loadR (i := (i3 : Int).toNat) (j := 0) rfl rfl isRo vt3 rfl (map_get _ h3) rfl (.v (.nil)) (nodup_of_B rfl)) rfl trivial rfl rfl ?_
      refine op0 (sp_assign rfl rfl) rfl trivial rfl rfl ?_
      refine TL.nil ?_
      refine TC.seq ?_
      refine TC.region ?_
      refine op0 (sp_move rfl rfl) rfl trivial rfl rfl ?_
      refine op0 (sp_move rfl rfl) rfl trivial rfl rfl ?_
      obtain ⟨r6, h4, h⟩ := bind_inv h
      refine opT (take := [.inv 0 (I1 y4)]) (need := []) (V' := [.inv 0 (I1 r6.2), .ro 2 1 (List.map en_int c2), .inv 3 (marksI df), .pin 4 0 (env0 0)]) [3] [] (ts_yield hI1 (x := x5) (b := r6.1) (avs := [.val (.int .i64 x5)]) (need := []) [] h4 rfl rfl rfl rfl rfl rfl) trivial rfl ⟨rfl, trivial⟩ trivial rfl rfl ?_
      refine op0 (sp_not rfl rfl) rfl trivial rfl rfl ?_
      refine TL.nil ?_
      refine TC.cond (b := (!r6.1)) rfl (fun h5 => ?_) (fun h5 => ?_)
      · have h := cond_t h h5
        cases h
        exact retM [] 2 3 [0] rfl (.nil) rfl ⟨mem_at 0 rfl, trivial⟩ rfl rfl ⟨⟨_, mem_at 2 rfl⟩, trivial⟩ rfl
      · have h := cond_f h h5
        refine TC.skip ?_
        refine TC.inBlock ?_
        refine TC.region ?_
        obtain ⟨h6, h⟩ := chk_inv h
        refine op0 (sp_add rfl rfl rfl h6) rfl trivial rfl rfl ?_
        refine op0 (sp_move rfl rfl) rfl trivial rfl rfl ?_
        refine TL.nil ?_
        refine TC.inLoop ?_
        refine TC.seq ?_
        refine subJ [] (ih _ _ h) ?_ ?_ ?_
        · exact ⟨rfl, rfl, rfl, rfl, trivial⟩
        · exact ⟨mem_at 1 rfl, mem_at 2 rfl, mem_at 3 rfl, mem_at 0 rfl, trivial⟩
        · rfl
    · have h := cond_f h h1
      refine TC.exit rfl ?_
      cases h
      exact endM [] 1 3 [0] rfl (.nil) rfl ⟨mem_at 2 rfl, trivial⟩ rfl rfl ⟨⟨_, mem_at 1 rfl⟩, trivial⟩ rfl
def ev_slices_Values_Lint_int_1 {σ1 : Type} (yb1 : Int → σ1 → Option (Bool × σ1)) (n : Nat) (y1 : σ1) (c2 : List Int) : Option σ1 :=
  ev_slices_Values_Lint_int_1_l0 yb1 n c2 n 0 y1
set_option maxRecDepth 100000 in
set_option maxHeartbeats 2000000 in
theorem ft_slices_Values_Lint_int_1 {σ1 : Type} {yb1 : Int → σ1 → Option (Bool × σ1)} {I1 : σ1 → Inv} (hI1 : Yields Try.prog ye_funcint_bool yn_funcint_bool yb1 I1) {n : Nat} {y1 : σ1} {c2 : List Int} {r : σ1} (h : ev_slices_Values_Lint_int_1 yb1 n y1 c2 = some r) : FT Try.prog 150 [.ref 0, .ptr 1 0] [.inv 0 (I1 y1)] [.rob 1 [.ref 2] 37, .ro 2 1 (List.map en_int c2)] (.tup []) [.inv 0 (I1 r)] := by
  refine introM (nz := 16) 3 [(4, 0)] Try.func150 rfl rfl rfl rfl (fun w0 M0 R0 env0 => ?_)
  rw [ev_slices_Values_Lint_int_1] at h
  refine TC.seq ?_
  refine TC.region ?_
  refine op1 3 rfl (sp_loadB rfl isRob rfl vt37 rfl) rfl trivial rfl rfl ?_
  refine op1 4 rfl (sp_lenM (N := c2.length) (len_map _ _) rfl rfl isRo Try.underlying37) rfl trivial rfl rfl ?_
  refine op0 (sp_move rfl rfl) rfl trivial rfl rfl ?_
  refine TL.nil ?_
  refine TC.block ?_
  refine TC.loop ?_
  refine TC.seq ?_
  refine subJ [] (ok_slices_Values_Lint_int_1_l0 hI1 _ _ _ h) ?_ ?_ ?_
  · exact ⟨rfl, rfl, rfl, rfl, trivial⟩
  · exact ⟨mem_at 4 rfl, mem_at 0 rfl, mem_at 1 rfl, mem_at 2 rfl, trivial⟩
  · rfl
/- top_pubFace -/
def ev_top_pubFace (n : Nat) (slack1 : Int) (weight2 : Int) (friction3 : Int) : Option (Int × Int × (List (Int × Int × Int)) × Int × Int) :=
  some (0, 0, ([(slack1, 1, 1)] : List (Int × Int × Int)), weight2, friction3)
set_option maxRecDepth 100000 in
set_option maxHeartbeats 2000000 in
theorem fc_top_pubFace {n : Nat} {slack1 : Int} {weight2 : Int} {friction3 : Int} {r : Int × Int × (List (Int × Int × Int)) × Int × Int} (h : ev_top_pubFace n slack1 weight2 friction3 = some r) : FC Try.prog 206 [.val (.int .i64 slack1), .val (.int .i64 weight2), .val (.int .i64 friction3)] [] (.agg [.val (.int .i64 r.1), .val (.int .i64 r.2.1), .ref 0, .val (.int .i64 r.2.2.2.1), .val (.int .i64 r.2.2.2.2)]) [.row 0 411 3 (List.map en_api_DialLink r.2.2.1)] := by
  refine introJ (nz := 14) Try.func206 rfl rfl rfl (fun w0 R0 env0 => ?_)
  rw [ev_top_pubFace] at h
  refine TC.seq ?_
  refine TC.region ?_
  refine op0 (sp_alloc 0 rfl Try.zeroValue135 rfl) rfl trivial rfl rfl ?_
  refine TL.nil ?_
  refine TC.seq ?_
  refine TC.region ?_
  refine op0 (sp_move rfl rfl) rfl trivial rfl rfl ?_
  refine op0 (sp_build (qs := [(0, .val (.int .i64 1)), (1, .val (.int .i64 1))]) rfl bt115 rfl rfl rfl rfl) rfl trivial rfl rfl ?_
  refine op0 (sp_build (qs := [(0, .val (.int .i64 slack1)), (1, .agg [.val (.int .i64 1), .val (.int .i64 1)])]) rfl bt411 rfl rfl rfl rfl) rfl trivial rfl rfl ?_
  refine op0 (sp_buildSlice (qs := [.agg [.val (.int .i64 slack1), .val (.int .i64 1), .val (.int .i64 1)]]) (need := []) (els := List.map en_api_DialLink ([(slack1, 1, 1)] : List (Int × Int × Int))) 1 rfl sl133 (by decide) (by decide) rfl rfl rfl (.v (.v (.v (.nil)))) (map_len fun _ => rfl) rfl rfl rfl) rfl trivial rfl rfl ?_
  refine op0 (sp_move rfl rfl) rfl trivial rfl rfl ?_
  refine op0 (sp_move rfl rfl) rfl trivial rfl rfl ?_
  refine op0 (sp_build (qs := [(1, .ref 1), (2, .val (.int .i64 weight2)), (3, .val (.int .i64 friction3))]) rfl bt135 rfl rfl rfl rfl) rfl trivial rfl rfl ?_
  refine stoB 1 (cells' := [.val (.int .i64 0), .val (.int .i64 0), .ref 1, .val (.int .i64 weight2), .val (.int .i64 friction3)]) rfl rfl trivial rfl rfl rfl rfl vt135 rfl rfl rfl ?_
  refine TL.nil ?_
  cases h
  exact retJ [(0, 1)] (.cells rfl (mem_at 1 rfl) isBlk vt135 rfl rfl (.nil)) rfl ⟨mem_at 0 rfl, trivial⟩ rfl rfl
/- top_pubThirty -/
def ev_top_pubThirty (n : Nat) : Option (Int × Int × Int × (List (Int × Int × (List (Int × Int × Int)) × Int × Int))) :=
  (ev_top_pubSpan n (-2) 3).bind fun r1 => (ev_top_pubFace n 5 30 10).bind fun r2 => some (30, r1.1, r1.2, ([(r2.1, r2.2.1, r2.2.2.1, r2.2.2.2.1, r2.2.2.2.2)] : List (Int × Int × (List (Int × Int × Int)) × Int × Int)))
set_option maxRecDepth 100000 in
set_option maxHeartbeats 2000000 in
theorem fc_top_pubThirty {n : Nat}  {r : Int × Int × Int × (List (Int × Int × (List (Int × Int × Int)) × Int × Int))} (h : ev_top_pubThirty n = some r) : FC Try.prog 117 [] [] (.agg [.val (.int .i64 r.1), .val (.int .i64 r.2.1), .val (.int .i64 r.2.2.1), .ref 0]) [.row 0 135 5 (List.map en_api_DialFace r.2.2.2)] := by
  refine introJ (nz := 5) Try.func117 rfl rfl rfl (fun w0 R0 env0 => ?_)
  rw [ev_top_pubThirty] at h
  refine TC.seq ?_
  refine TC.region ?_
  refine op0 (sp_alloc 0 rfl Try.zeroValue138 rfl) rfl trivial rfl rfl ?_
  refine TL.nil ?_
  refine TC.seq ?_
  refine TC.region ?_
  obtain ⟨r1, h1, h⟩ := bind_inv h
  refine op0 (sp_call (avs := [.val (.int .i64 (-2)), .val (.int .i64 3)]) (need := []) (v := .agg [.val (.int .i64 r1.1), .val (.int .i64 r1.2)]) (news := []) rfl rfl rfl Try.call14 (atJ [] [] (fc_top_pubSpan h1) rfl rfl) (.inl (roAll rfl))) rfl trivial rfl rfl ?_
  obtain ⟨r2, h2, h⟩ := bind_inv h
  refine op0 (sp_call (avs := [.val (.int .i64 5), .val (.int .i64 30), .val (.int .i64 10)]) (need := []) (v := .agg [.val (.int .i64 r2.1), .val (.int .i64 r2.2.1), .ref 1, .val (.int .i64 r2.2.2.2.1), .val (.int .i64 r2.2.2.2.2)]) (news := [.row 1 411 3 (List.map en_api_DialLink r2.2.2.1)]) rfl rfl rfl Try.call206 (atJ [] [(0, 1)] (fc_top_pubFace h2) rfl rfl) (.inl (roAll rfl))) rfl trivial rfl rfl ?_
  refine TL.freeze 0 rfl ?_
  refine op1 0 rfl (sp_buildSlice (qs := [.agg [.val (.int .i64 r2.1), .val (.int .i64 r2.2.1), .ref 1, .val (.int .i64 r2.2.2.2.1), .val (.int .i64 r2.2.2.2.2)]]) (need := [.ro 1 3 (List.map en_api_DialLink r2.2.2.1)]) (els := List.map en_api_DialFace ([(r2.1, r2.2.1, r2.2.2.1, r2.2.2.2.1, r2.2.2.2.2)] : List (Int × Int × (List (Int × Int × Int)) × Int × Int))) 2 rfl sl136 (by decide) (by decide) rfl rfl rfl (.v (.v (.s (mem_at 0 rfl) (.v (.v (.nil)))))) (map_len fun _ => rfl) rfl rfl rfl) rfl trivial rfl rfl ?_
  refine op0 (sp_build (qs := [(0, .val (.int .i64 30)), (1, .agg [.val (.int .i64 r1.1), .val (.int .i64 r1.2)]), (2, .ref 2)]) rfl bt138 rfl rfl rfl rfl) rfl trivial rfl rfl ?_
  refine stoB 2 (cells' := [.val (.int .i64 30), .val (.int .i64 r1.1), .val (.int .i64 r1.2), .ref 2]) rfl rfl trivial rfl rfl rfl rfl vt138 rfl rfl rfl ?_
  refine TL.nil ?_
  cases h
  exact retJ [(0, 2)] (.cells rfl (mem_at 2 rfl) isBlk vt138 rfl rfl (.nil)) rfl ⟨mem_at 0 rfl, trivial⟩ rfl rfl
/- slices_MinFunc_Lapi_Span_api_Span -/
def ev_slices_MinFunc_Lapi_Span_api_Span_l1 (n : Nat) (cmp2 : (Int × Int × Int × Int) → Option Int) : Nat → Int → (List (Int × Int)) → Int → Int → Int → Int → Option (Int × Int)
  | 0, _, _, _, _, _, _ => none
  | m + 1, i4, l5, i6, i7, i8, i9 => cond (decide (i4 < (l5.length : Int))) (idx l5 i4 fun x10 => (cmp2 (x10.1, x10.2, i8, i9)).bind fun r11 => cond (decide (r11 < 0)) (chk (in64 (i4 + 1)) <| ev_slices_MinFunc_Lapi_Span_api_Span_l1 n cmp2 m (i4 + 1) l5 i6 i7 x10.1 x10.2) (chk (in64 (i4 + 1)) <| ev_slices_MinFunc_Lapi_Span_api_Span_l1 n cmp2 m (i4 + 1) l5 i6 i7 i8 i9)) (some (i8, i9))
set_option maxRecDepth 100000 in
set_option maxHeartbeats 2000000 in
theorem ok_slices_MinFunc_Lapi_Span_api_Span_l1 {n : Nat} {w0 : World} {R0 : Nat → Prop} {env0 : Env} {r : Int × Int} {cmp2 : (Int × Int × Int × Int) → Option Int} : ∀ (m : Nat) (i4 : Int) (l5 : List (Int × Int)) (i6 : Int) (i7 : Int) (i8 : Int) (i9 : Int), ev_slices_MinFunc_Lapi_Span_api_Span_l1 n cmp2 m i4 l5 i6 i7 i8 i9 = some r → TC Try.prog ⟨w0, fun _ => False, R0⟩ 33 (bodyPost Try.prog Try.f260 (Post ⟨w0, fun _ => False, R0⟩ env0 (.agg [.val (.int .i64 r.1), .val (.int .i64 r.2)]) [])) [.code (sub (bodyOf Try.f260) [1, 1, 1, 0, 1, 0, 0, 0, 0]), .code (sub (bodyOf Try.f260) [1, 1, 1, 0, 1, 0, 0, 0, 1]), .code (sub (bodyOf Try.f260) [1, 1, 1, 0, 1, 0, 0, 1]), .inLoop (sub (bodyOf Try.f260) [1, 1, 1, 0, 1, 0, 0]), .inBlock 0, .code (sub (bodyOf Try.f260) [1, 1, 1, 1])] ([(0, .ref 0), (1, .ref 1), (4, .ptr 2 0), (5, .ptr 3 0), (6, .val (.int .i64 i4))]) ([.ro 0 2 (List.map en_api_Span l5), .any 1 (D.fn Try.prog fe_funcapi_Span_api_Span_int fd_funcapi_Span_api_Span_int cmp2), .blk 2 [.val (.int .i64 i6), .val (.int .i64 i7)] 26, .blk 3 [.val (.int .i64 i8), .val (.int .i64 i9)] 26]) := by
  intro m
  induction m with
  | zero => intro i4 l5 i6 i7 i8 i9 h; exact none_no h
  | succ m ih =>
    intro i4 l5 i6 i7 i8 i9 h
    rw [ev_slices_MinFunc_Lapi_Span_api_Span_l1] at h
    refine TC.region ?_
    refine op0 (sp_move rfl rfl) rfl trivial rfl rfl ?_
    refine op0 (sp_move rfl rfl) rfl trivial rfl rfl ?_
    refine op1 0 rfl (sp_lenM (N := l5.length) (len_map _ _) rfl rfl isRo Try.underlying23) rfl trivial rfl rfl ?_
    refine op0 (sp_lss rfl rfl rfl) rfl trivial rfl rfl ?_
    refine TL.nil ?_
    refine TC.cond (b := (decide (i4 < (l5.length : Int)))) rfl (fun h4 => ?_) (fun h4 => ?_)
    · have h := cond_t h h4
      refine TC.skip ?_
      refine TC.seq ?_
      refine TC.block ?_
      refine TC.seq ?_
      obtain ⟨x10, h5, h6, h⟩ := idx_inv h
      refine drawJ 6 [⟨.ref 1, [], [], []⟩, ⟨.ref 0, [], [], []⟩, ⟨.val (.int .i64 i4), [], [], []⟩, ⟨.cell 0 ((i4 : Int).toNat * 2), [], [.ro 0 2 (List.map en_api_Span l5)], []⟩, ⟨.agg [.val (.int .i64 x10.1), .val (.int .i64 x10.2)], [], [.ro 0 2 (List.map en_api_Span l5)], []⟩, ⟨.agg [.val (.int .i64 i8), .val (.int .i64 i9)], [], [.blk 3 [.val (.int .i64 i8), .val (.int .i64 i9)] 26], []⟩] rfl ?_ rfl ?_ rfl ?_ ?_
      · kernel_rfl
      · kernel_rfl
      · exact DAll.op' (sp_move rfl rfl) trivial rfl (From.ok (ps := []) trivial) (DAll.op' (sp_move rfl rfl) trivial rfl (From.ok (ps := []) trivial) (DAll.op' (sp_move rfl rfl) trivial rfl (From.ok (ps := []) trivial) (DAll.op' (sp_indexS rfl rfl rfl isRo sl23 h5 (map_get _ h6)) trivial rfl (From.ok (ps := [(none, 0)]) ⟨⟨rfl, rfl⟩, trivial⟩) (DAll.op' (sp_loadRA (i := (i4 : Int).toNat) (j := 0) (as_ := [.val (.int .i64 x10.1), .val (.int .i64 x10.2)]) (ns := []) rfl rfl isRo vt26 rfl (map_get _ h6) rfl rfl (by decide) (.v (.v (.nil))) (nodup_of_B rfl)) trivial rfl (From.ok (ps := [(none, 0)]) ⟨⟨rfl, rfl⟩, trivial⟩) (DAll.op' (sp_loadBA rfl isBlk rfl vt26 rfl rfl) trivial rfl (From.ok (ps := [(none, 3)]) ⟨⟨rfl, rfl⟩, trivial⟩) (.nil))))))
      obtain ⟨r11, h7, h⟩ := bind_inv h
      refine op1 1 rfl (sp_callF (avs := [.agg [.val (.int .i64 x10.1), .val (.int .i64 x10.2)], .agg [.val (.int .i64 i8), .val (.int .i64 i9)]]) (v := .val (.int .i64 r11)) (x10.1, x10.2, i8, i9) rfl rfl rfl rfl rfl h7) rfl trivial rfl rfl ?_
      refine op0 (sp_lss rfl rfl rfl) rfl trivial rfl rfl ?_
      refine TL.nil ?_
      refine TC.cond (b := (decide (r11 < 0))) rfl (fun h8 => ?_) (fun h8 => ?_)
      · have h := cond_t h h8
        refine TC.region ?_
        refine op0 (sp_move rfl rfl) rfl trivial rfl rfl ?_
        refine op0 (sp_move rfl rfl) rfl trivial rfl rfl ?_
        refine op1 0 rfl (sp_indexS rfl rfl rfl isRo sl23 h5 (map_get _ h6)) rfl trivial rfl rfl ?_
        refine op1 0 rfl (sp_loadRA (i := (i4 : Int).toNat) (j := 0) (as_ := [.val (.int .i64 x10.1), .val (.int .i64 x10.2)]) (ns := []) rfl rfl isRo vt26 rfl (map_get _ h6) rfl rfl (by decide) (.v (.v (.nil))) (nodup_of_B rfl)) rfl trivial rfl rfl ?_
        refine stoB 3 (cells' := [.val (.int .i64 x10.1), .val (.int .i64 x10.2)]) rfl rfl trivial rfl rfl rfl rfl vt26 rfl rfl rfl ?_
        refine TL.nil ?_
        refine TC.inBlock ?_
        refine TC.region ?_
        refine op0 (sp_move rfl rfl) rfl trivial rfl rfl ?_
        obtain ⟨h9, h⟩ := chk_inv h
        refine op0 (sp_add rfl rfl rfl h9) rfl trivial rfl rfl ?_
        refine op0 (sp_assign rfl rfl) rfl trivial rfl rfl ?_
        refine TL.nil ?_
        refine TC.inLoop ?_
        refine TC.seq ?_
        refine TC.seq ?_
        refine subJ [] (ih _ _ _ _ _ _ h) ?_ ?_ ?_
        · exact ⟨rfl, rfl, rfl, rfl, rfl, trivial⟩
        · exact ⟨mem_at 0 rfl, mem_at 1 rfl, mem_at 2 rfl, mem_at 3 rfl, trivial⟩
        · rfl
      · have h := cond_f h h8
        refine TC.skip ?_
        refine TC.inBlock ?_
        refine TC.region ?_
        refine op0 (sp_move rfl rfl) rfl trivial rfl rfl ?_
        obtain ⟨h10, h⟩ := chk_inv h
        refine op0 (sp_add rfl rfl rfl h10) rfl trivial rfl rfl ?_
        refine op0 (sp_assign rfl rfl) rfl trivial rfl rfl ?_
        refine TL.nil ?_
        refine TC.inLoop ?_
        refine TC.seq ?_
        refine TC.seq ?_
        refine subJ [] (ih _ _ _ _ _ _ h) ?_ ?_ ?_
        · exact ⟨rfl, rfl, rfl, rfl, rfl, trivial⟩
        · exact ⟨mem_at 0 rfl, mem_at 1 rfl, mem_at 2 rfl, mem_at 3 rfl, trivial⟩
        · rfl
    · have h := cond_f h h4
      refine TC.exit rfl ?_
      refine TC.seq ?_
      refine TC.region ?_
      refine op1 3 rfl (sp_loadBA rfl isBlk rfl vt26 rfl rfl) rfl trivial rfl rfl ?_
      refine stoB 2 (cells' := [.val (.int .i64 i8), .val (.int .i64 i9)]) rfl rfl trivial rfl rfl rfl rfl vt26 rfl rfl rfl ?_
      refine TL.nil ?_
      cases h
      exact retJ [] (.cells rfl (mem_at 2 rfl) isBlk vt26 rfl rfl (.nil)) rfl trivial rfl rfl
def ev_slices_MinFunc_Lapi_Span_api_Span_j0 (n : Nat) (x1 : List (Int × Int)) (cmp2 : (Int × Int × Int × Int) → Option Int) : Option (Int × Int) :=
  idx x1 0 fun x3 => ev_slices_MinFunc_Lapi_Span_api_Span_l1 n cmp2 n 1 x1 0 0 x3.1 x3.2
set_option maxRecDepth 100000 in
set_option maxHeartbeats 2000000 in
theorem ok_slices_MinFunc_Lapi_Span_api_Span_j0 {n : Nat} {w0 : World} {R0 : Nat → Prop} {env0 : Env} {r : Int × Int} {x1 : List (Int × Int)} {cmp2 : (Int × Int × Int × Int) → Option Int} (h : ev_slices_MinFunc_Lapi_Span_api_Span_j0 n x1 cmp2 = some r) : TC Try.prog ⟨w0, fun _ => False, R0⟩ 33 (bodyPost Try.prog Try.f260 (Post ⟨w0, fun _ => False, R0⟩ env0 (.agg [.val (.int .i64 r.1), .val (.int .i64 r.2)]) [])) [.code (sub (bodyOf Try.f260) [1, 1, 0]), .code (sub (bodyOf Try.f260) [1, 1, 1])] ([(0, .ref 0), (1, .ref 1), (4, .ptr 2 0)]) ([.ro 0 2 (List.map en_api_Span x1), .any 1 (D.fn Try.prog fe_funcapi_Span_api_Span_int fd_funcapi_Span_api_Span_int cmp2), .blk 2 [.val (.int .i64 0), .val (.int .i64 0)] 26]) := by
  rw [ev_slices_MinFunc_Lapi_Span_api_Span_j0] at h
  refine TC.region ?_
  refine op0 (sp_move rfl rfl) rfl trivial rfl rfl ?_
  obtain ⟨x3, h2, h3, h⟩ := idx_inv h
  refine op1 0 rfl (sp_indexS rfl rfl rfl isRo sl23 h2 (map_get _ h3)) rfl trivial rfl rfl ?_
  refine op1 0 rfl (sp_loadRA (i := (0 : Int).toNat) (j := 0) (as_ := [.val (.int .i64 x3.1), .val (.int .i64 x3.2)]) (ns := []) rfl rfl isRo vt26 rfl (map_get _ h3) rfl rfl (by decide) (.v (.v (.nil))) (nodup_of_B rfl)) rfl trivial rfl rfl ?_
  refine op0 (sp_alloc 3 rfl Try.zeroValue26 rfl) rfl trivial rfl rfl ?_
  refine stoB 0 (cells' := [.val (.int .i64 x3.1), .val (.int .i64 x3.2)]) rfl rfl trivial rfl rfl rfl rfl vt26 rfl rfl rfl ?_
  refine TL.nil ?_
  refine TC.seq ?_
  refine TC.seq ?_
  refine TC.region ?_
  refine op0 (sp_assign rfl rfl) rfl trivial rfl rfl ?_
  refine TL.nil ?_
  refine TC.block ?_
  refine TC.loop ?_
  refine TC.seq ?_
  refine TC.seq ?_
  refine subJ [] (ok_slices_MinFunc_Lapi_Span_api_Span_l1 _ _ _ _ _ _ _ h) ?_ ?_ ?_
  · exact ⟨rfl, rfl, rfl, rfl, rfl, trivial⟩
  · exact ⟨mem_at 1 rfl, mem_at 2 rfl, mem_at 3 rfl, mem_at 0 rfl, trivial⟩
  · rfl
def ev_slices_MinFunc_Lapi_Span_api_Span (n : Nat) (x1 : List (Int × Int)) (cmp2 : (Int × Int × Int × Int) → Option Int) : Option (Int × Int) :=
  cond (decide ((x1.length : Int) < 1)) (none) (ev_slices_MinFunc_Lapi_Span_api_Span_j0 n x1 cmp2)
set_option maxRecDepth 100000 in
set_option maxHeartbeats 2000000 in
theorem fc_slices_MinFunc_Lapi_Span_api_Span {n : Nat} {x1 : List (Int × Int)} {cmp2 : (Int × Int × Int × Int) → Option Int} {r : Int × Int} (h : ev_slices_MinFunc_Lapi_Span_api_Span n x1 cmp2 = some r) : FC Try.prog 260 [.ref 0, .ref 1] [.ro 0 2 (List.map en_api_Span x1), .any 1 (D.fn Try.prog fe_funcapi_Span_api_Span_int fd_funcapi_Span_api_Span_int cmp2)] (.agg [.val (.int .i64 r.1), .val (.int .i64 r.2)]) [] := by
  refine introJ (nz := 33) Try.func260 rfl rfl rfl (fun w0 R0 env0 => ?_)
  rw [ev_slices_MinFunc_Lapi_Span_api_Span] at h
  refine TC.seq ?_
  refine TC.region ?_
  refine op0 (sp_alloc 2 rfl Try.zeroValue26 rfl) rfl trivial rfl rfl ?_
  refine TL.nil ?_
  refine TC.seq ?_
  refine TC.seq ?_
  refine TC.region ?_
  refine op0 (sp_move rfl rfl) rfl trivial rfl rfl ?_
  refine op1 1 rfl (sp_lenM (N := x1.length) (len_map _ _) rfl rfl isRo Try.underlying23) rfl trivial rfl rfl ?_
  refine op0 (sp_lss rfl rfl rfl) rfl trivial rfl rfl ?_
  refine TL.nil ?_
  refine TC.cond (b := (decide ((x1.length : Int) < 1))) rfl (fun h1 => ?_) (fun h1 => ?_)
  · have h := cond_t h h1
    refine TC.region ?_
    exact none_no h
  · have h := cond_f h h1
    refine TC.skip ?_
    refine TC.seq ?_
    refine subJ [] (ok_slices_MinFunc_Lapi_Span_api_Span_j0 h) ?_ ?_ ?_
    · exact ⟨rfl, rfl, rfl, trivial⟩
    · exact ⟨mem_at 1 rfl, mem_at 2 rfl, mem_at 0 rfl, trivial⟩
    · rfl
/- slices_MaxFunc_Lapi_Span_api_Span -/
def ev_slices_MaxFunc_Lapi_Span_api_Span_l1 (n : Nat) (cmp2 : (Int × Int × Int × Int) → Option Int) : Nat → Int → (List (Int × Int)) → Int → Int → Int → Int → Option (Int × Int)
  | 0, _, _, _, _, _, _ => none
  | m + 1, i4, l5, i6, i7, i8, i9 => cond (decide (i4 < (l5.length : Int))) (idx l5 i4 fun x10 => (cmp2 (x10.1, x10.2, i8, i9)).bind fun r11 => cond (decide ((0 : Int) < r11)) (chk (in64 (i4 + 1)) <| ev_slices_MaxFunc_Lapi_Span_api_Span_l1 n cmp2 m (i4 + 1) l5 i6 i7 x10.1 x10.2) (chk (in64 (i4 + 1)) <| ev_slices_MaxFunc_Lapi_Span_api_Span_l1 n cmp2 m (i4 + 1) l5 i6 i7 i8 i9)) (some (i8, i9))
set_option maxRecDepth 100000 in
set_option maxHeartbeats 2000000 in
theorem ok_slices_MaxFunc_Lapi_Span_api_Span_l1 {n : Nat} {w0 : World} {R0 : Nat → Prop} {env0 : Env} {r : Int × Int} {cmp2 : (Int × Int × Int × Int) → Option Int} : ∀ (m : Nat) (i4 : Int) (l5 : List (Int × Int)) (i6 : Int) (i7 : Int) (i8 : Int) (i9 : Int), ev_slices_MaxFunc_Lapi_Span_api_Span_l1 n cmp2 m i4 l5 i6 i7 i8 i9 = some r → TC Try.prog ⟨w0, fun _ => False, R0⟩ 33 (bodyPost Try.prog Try.f262 (Post ⟨w0, fun _ => False, R0⟩ env0 (.agg [.val (.int .i64 r.1), .val (.int .i64 r.2)]) [])) [.code (sub (bodyOf Try.f262) [1, 1, 1, 0, 1, 0, 0, 0, 0]), .code (sub (bodyOf Try.f262) [1, 1, 1, 0, 1, 0, 0, 0, 1]), .code (sub (bodyOf Try.f262) [1, 1, 1, 0, 1, 0, 0, 1]), .inLoop (sub (bodyOf Try.f262) [1, 1, 1, 0, 1, 0, 0]), .inBlock 0, .code (sub (bodyOf Try.f262) [1, 1, 1, 1])] ([(0, .ref 0), (1, .ref 1), (4, .ptr 2 0), (5, .ptr 3 0), (6, .val (.int .i64 i4))]) ([.ro 0 2 (List.map en_api_Span l5), .any 1 (D.fn Try.prog fe_funcapi_Span_api_Span_int fd_funcapi_Span_api_Span_int cmp2), .blk 2 [.val (.int .i64 i6), .val (.int .i64 i7)] 26, .blk 3 [.val (.int .i64 i8), .val (.int .i64 i9)] 26]) := by
  intro m
  induction m with
  | zero => intro i4 l5 i6 i7 i8 i9 h; exact none_no h
  | succ m ih =>
    intro i4 l5 i6 i7 i8 i9 h
    rw [ev_slices_MaxFunc_Lapi_Span_api_Span_l1] at h
    refine TC.region ?_
    refine op0 (sp_move rfl rfl) rfl trivial rfl rfl ?_
    refine op0 (sp_move rfl rfl) rfl trivial rfl rfl ?_
    refine op1 0 rfl (sp_lenM (N := l5.length) (len_map _ _) rfl rfl isRo Try.underlying23) rfl trivial rfl rfl ?_
    refine op0 (sp_lss rfl rfl rfl) rfl trivial rfl rfl ?_
    refine TL.nil ?_
    refine TC.cond (b := (decide (i4 < (l5.length : Int)))) rfl (fun h4 => ?_) (fun h4 => ?_)
    · have h := cond_t h h4
      refine TC.skip ?_
      refine TC.seq ?_
      refine TC.block ?_
      refine TC.seq ?_
      obtain ⟨x10, h5, h6, h⟩ := idx_inv h
      refine drawJ 6 [⟨.ref 1, [], [], []⟩, ⟨.ref 0, [], [], []⟩, ⟨.val (.int .i64 i4), [], [], []⟩, ⟨.cell 0 ((i4 : Int).toNat * 2), [], [.ro 0 2 (List.map en_api_Span l5)], []⟩, ⟨.agg [.val (.int .i64 x10.1), .val (.int .i64 x10.2)], [], [.ro 0 2 (List.map en_api_Span l5)], []⟩, ⟨.agg [.val (.int .i64 i8), .val (.int .i64 i9)], [], [.blk 3 [.val (.int .i64 i8), .val (.int .i64 i9)] 26], []⟩] rfl ?_ rfl ?_ rfl ?_ ?_
      · kernel_rfl
      · kernel_rfl
      · exact DAll.op' (sp_move rfl rfl) trivial rfl (From.ok (ps := []) trivial) (DAll.op' (sp_move rfl rfl) trivial rfl (From.ok (ps := []) trivial) (DAll.op' (sp_move rfl rfl) trivial rfl (From.ok (ps := []) trivial) (DAll.op' (sp_indexS rfl rfl rfl isRo sl23 h5 (map_get _ h6)) trivial rfl (From.ok (ps := [(none, 0)]) ⟨⟨rfl, rfl⟩, trivial⟩) (DAll.op' (sp_loadRA (i := (i4 : Int).toNat) (j := 0) (as_ := [.val (.int .i64 x10.1), .val (.int .i64 x10.2)]) (ns := []) rfl rfl isRo vt26 rfl (map_get _ h6) rfl rfl (by decide) (.v (.v (.nil))) (nodup_of_B rfl)) trivial rfl (From.ok (ps := [(none, 0)]) ⟨⟨rfl, rfl⟩, trivial⟩) (DAll.op' (sp_loadBA rfl isBlk rfl vt26 rfl rfl) trivial rfl (From.ok (ps := [(none, 3)]) ⟨⟨rfl, rfl⟩, trivial⟩) (.nil))))))
      obtain ⟨r11, h7, h⟩ := bind_inv h
      refine op1 1 rfl (sp_callF (avs := [.agg [.val (.int .i64 x10.1), .val (.int .i64 x10.2)], .agg [.val (.int .i64 i8), .val (.int .i64 i9)]]) (v := .val (.int .i64 r11)) (x10.1, x10.2, i8, i9) rfl rfl rfl rfl rfl h7) rfl trivial rfl rfl ?_
      refine op0 (sp_gtr rfl rfl rfl) rfl trivial rfl rfl ?_
      refine TL.nil ?_
      refine TC.cond (b := (decide ((0 : Int) < r11))) rfl (fun h8 => ?_) (fun h8 => ?_)
      · have h := cond_t h h8
        refine TC.region ?_
        refine op0 (sp_move rfl rfl) rfl trivial rfl rfl ?_
        refine op0 (sp_move rfl rfl) rfl trivial rfl rfl ?_
        refine op1 0 rfl (sp_indexS rfl rfl rfl isRo sl23 h5 (map_get _ h6)) rfl trivial rfl rfl ?_
        refine op1 0 rfl (sp_loadRA (i := (i4 : Int).toNat) (j := 0) (as_ := [.val (.int .i64 x10.1), .val (.int .i64 x10.2)]) (ns := []) rfl rfl isRo vt26 rfl (map_get _ h6) rfl rfl (by decide) (.v (.v (.nil))) (nodup_of_B rfl)) rfl trivial rfl rfl ?_
        refine stoB 3 (cells' := [.val (.int .i64 x10.1), .val (.int .i64 x10.2)]) rfl rfl trivial rfl rfl rfl rfl vt26 rfl rfl rfl ?_
        refine TL.nil ?_
        refine TC.inBlock ?_
        refine TC.region ?_
        refine op0 (sp_move rfl rfl) rfl trivial rfl rfl ?_
        obtain ⟨h9, h⟩ := chk_inv h
        refine op0 (sp_add rfl rfl rfl h9) rfl trivial rfl rfl ?_
        refine op0 (sp_assign rfl rfl) rfl trivial rfl rfl ?_
        refine TL.nil ?_
        refine TC.inLoop ?_
        refine TC.seq ?_
        refine TC.seq ?_
        refine subJ [] (ih _ _ _ _ _ _ h) ?_ ?_ ?_
        · exact ⟨rfl, rfl, rfl, rfl, rfl, trivial⟩
        · exact ⟨mem_at 0 rfl, mem_at 1 rfl, mem_at 2 rfl, mem_at 3 rfl, trivial⟩
        · rfl
      · have h := cond_f h h8
        refine TC.skip ?_
        refine TC.inBlock ?_
        refine TC.region ?_
        refine op0 (sp_move rfl rfl) rfl trivial rfl rfl ?_
        obtain ⟨h10, h⟩ := chk_inv h
        refine op0 (sp_add rfl rfl rfl h10) rfl trivial rfl rfl ?_
        refine op0 (sp_assign rfl rfl) rfl trivial rfl rfl ?_
        refine TL.nil ?_
        refine TC.inLoop ?_
        refine TC.seq ?_
        refine TC.seq ?_
        refine subJ [] (ih _ _ _ _ _ _ h) ?_ ?_ ?_
        · exact ⟨rfl, rfl, rfl, rfl, rfl, trivial⟩
        · exact ⟨mem_at 0 rfl, mem_at 1 rfl, mem_at 2 rfl, mem_at 3 rfl, trivial⟩
        · rfl
    · have h := cond_f h h4
      refine TC.exit rfl ?_
      refine TC.seq ?_
      refine TC.region ?_
      refine op1 3 rfl (sp_loadBA rfl isBlk rfl vt26 rfl rfl) rfl trivial rfl rfl ?_
      refine stoB 2 (cells' := [.val (.int .i64 i8), .val (.int .i64 i9)]) rfl rfl trivial rfl rfl rfl rfl vt26 rfl rfl rfl ?_
      refine TL.nil ?_
      cases h
      exact retJ [] (.cells rfl (mem_at 2 rfl) isBlk vt26 rfl rfl (.nil)) rfl trivial rfl rfl
def ev_slices_MaxFunc_Lapi_Span_api_Span_j0 (n : Nat) (x1 : List (Int × Int)) (cmp2 : (Int × Int × Int × Int) → Option Int) : Option (Int × Int) :=
  idx x1 0 fun x3 => ev_slices_MaxFunc_Lapi_Span_api_Span_l1 n cmp2 n 1 x1 0 0 x3.1 x3.2
set_option maxRecDepth 100000 in
set_option maxHeartbeats 2000000 in
theorem ok_slices_MaxFunc_Lapi_Span_api_Span_j0 {n : Nat} {w0 : World} {R0 : Nat → Prop} {env0 : Env} {r : Int × Int} {x1 : List (Int × Int)} {cmp2 : (Int × Int × Int × Int) → Option Int} (h : ev_slices_MaxFunc_Lapi_Span_api_Span_j0 n x1 cmp2 = some r) : TC Try.prog ⟨w0, fun _ => False, R0⟩ 33 (bodyPost Try.prog Try.f262 (Post ⟨w0, fun _ => False, R0⟩ env0 (.agg [.val (.int .i64 r.1), .val (.int .i64 r.2)]) [])) [.code (sub (bodyOf Try.f262) [1, 1, 0]), .code (sub (bodyOf Try.f262) [1, 1, 1])] ([(0, .ref 0), (1, .ref 1), (4, .ptr 2 0)]) ([.ro 0 2 (List.map en_api_Span x1), .any 1 (D.fn Try.prog fe_funcapi_Span_api_Span_int fd_funcapi_Span_api_Span_int cmp2), .blk 2 [.val (.int .i64 0), .val (.int .i64 0)] 26]) := by
  rw [ev_slices_MaxFunc_Lapi_Span_api_Span_j0] at h
  refine TC.region ?_
  refine op0 (sp_move rfl rfl) rfl trivial rfl rfl ?_
  obtain ⟨x3, h2, h3, h⟩ := idx_inv h
  refine op1 0 rfl (sp_indexS rfl rfl rfl isRo sl23 h2 (map_get _ h3)) rfl trivial rfl rfl ?_
  refine op1 0 rfl (sp_loadRA (i := (0 : Int).toNat) (j := 0) (as_ := [.val (.int .i64 x3.1), .val (.int .i64 x3.2)]) (ns := []) rfl rfl isRo vt26 rfl (map_get _ h3) rfl rfl (by decide) (.v (.v (.nil))) (nodup_of_B rfl)) rfl trivial rfl rfl ?_
  refine op0 (sp_alloc 3 rfl Try.zeroValue26 rfl) rfl trivial rfl rfl ?_
  refine stoB 0 (cells' := [.val (.int .i64 x3.1), .val (.int .i64 x3.2)]) rfl rfl trivial rfl rfl rfl rfl vt26 rfl rfl rfl ?_
  refine TL.nil ?_
  refine TC.seq ?_
  refine TC.seq ?_
  refine TC.region ?_
  refine op0 (sp_assign rfl rfl) rfl trivial rfl rfl ?_
  refine TL.nil ?_
  refine TC.block ?_
  refine TC.loop ?_
  refine TC.seq ?_
  refine TC.seq ?_
  refine subJ [] (ok_slices_MaxFunc_Lapi_Span_api_Span_l1 _ _ _ _ _ _ _ h) ?_ ?_ ?_
  · exact ⟨rfl, rfl, rfl, rfl, rfl, trivial⟩
  · exact ⟨mem_at 1 rfl, mem_at 2 rfl, mem_at 3 rfl, mem_at 0 rfl, trivial⟩
  · rfl
def ev_slices_MaxFunc_Lapi_Span_api_Span (n : Nat) (x1 : List (Int × Int)) (cmp2 : (Int × Int × Int × Int) → Option Int) : Option (Int × Int) :=
  cond (decide ((x1.length : Int) < 1)) (none) (ev_slices_MaxFunc_Lapi_Span_api_Span_j0 n x1 cmp2)
set_option maxRecDepth 100000 in
set_option maxHeartbeats 2000000 in
theorem fc_slices_MaxFunc_Lapi_Span_api_Span {n : Nat} {x1 : List (Int × Int)} {cmp2 : (Int × Int × Int × Int) → Option Int} {r : Int × Int} (h : ev_slices_MaxFunc_Lapi_Span_api_Span n x1 cmp2 = some r) : FC Try.prog 262 [.ref 0, .ref 1] [.ro 0 2 (List.map en_api_Span x1), .any 1 (D.fn Try.prog fe_funcapi_Span_api_Span_int fd_funcapi_Span_api_Span_int cmp2)] (.agg [.val (.int .i64 r.1), .val (.int .i64 r.2)]) [] := by
  refine introJ (nz := 33) Try.func262 rfl rfl rfl (fun w0 R0 env0 => ?_)
  rw [ev_slices_MaxFunc_Lapi_Span_api_Span] at h
  refine TC.seq ?_
  refine TC.region ?_
  refine op0 (sp_alloc 2 rfl Try.zeroValue26 rfl) rfl trivial rfl rfl ?_
  refine TL.nil ?_
  refine TC.seq ?_
  refine TC.seq ?_
  refine TC.region ?_
  refine op0 (sp_move rfl rfl) rfl trivial rfl rfl ?_
  refine op1 1 rfl (sp_lenM (N := x1.length) (len_map _ _) rfl rfl isRo Try.underlying23) rfl trivial rfl rfl ?_
  refine op0 (sp_lss rfl rfl rfl) rfl trivial rfl rfl ?_
  refine TL.nil ?_
  refine TC.cond (b := (decide ((x1.length : Int) < 1))) rfl (fun h1 => ?_) (fun h1 => ?_)
  · have h := cond_t h h1
    refine TC.region ?_
    exact none_no h
  · have h := cond_f h h1
    refine TC.skip ?_
    refine TC.seq ?_
    refine subJ [] (ok_slices_MaxFunc_Lapi_Span_api_Span_j0 h) ?_ ?_ ?_
    · exact ⟨rfl, rfl, rfl, trivial⟩
    · exact ⟨mem_at 1 rfl, mem_at 2 rfl, mem_at 0 rfl, trivial⟩
    · rfl
/- math_bits_Len64 -/
def ev_math_bits_Len64_j0 (n : Nat) (i2 : Int) (i3 : Int) : Option Int :=
  cond (decide ((65536 : Int) ≤ i2)) (chk (in64 (i3 + 16)) <| cond (decide ((256 : Int) ≤ (i2 / (shK .u64 16 : Int)))) (chk (in64 ((i3 + 16) + 8)) <| chk (decide (0 ≤ (IntKind.u8.wrap ((i2 / (shK .u64 16 : Int)) / (shK .u64 8 : Int))))) <| idx st_d55355c9 (IntKind.u8.wrap ((i2 / (shK .u64 16 : Int)) / (shK .u64 8 : Int))) fun v4 => chk (in64 v4) <| chk (in64 (((i3 + 16) + 8) + v4)) <| some (((i3 + 16) + 8) + v4)) (chk (decide (0 ≤ (IntKind.u8.wrap (i2 / (shK .u64 16 : Int))))) <| idx st_d55355c9 (IntKind.u8.wrap (i2 / (shK .u64 16 : Int))) fun v5 => chk (in64 v5) <| chk (in64 ((i3 + 16) + v5)) <| some ((i3 + 16) + v5))) (cond (decide ((256 : Int) ≤ i2)) (chk (in64 (i3 + 8)) <| chk (decide (0 ≤ (IntKind.u8.wrap (i2 / (shK .u64 8 : Int))))) <| idx st_d55355c9 (IntKind.u8.wrap (i2 / (shK .u64 8 : Int))) fun v6 => chk (in64 v6) <| chk (in64 ((i3 + 8) + v6)) <| some ((i3 + 8) + v6)) (chk (decide (0 ≤ (IntKind.u8.wrap i2))) <| idx st_d55355c9 (IntKind.u8.wrap i2) fun v7 => chk (in64 v7) <| chk (in64 (i3 + v7)) <| some (i3 + v7)))
set_option maxRecDepth 100000 in
set_option maxHeartbeats 2000000 in
theorem ok_math_bits_Len64_j0 {n : Nat} {w0 : World} {R0 : Nat → Prop} {env0 : Env} {r : Int} {i2 : Int} {i3 : Int} (h : ev_math_bits_Len64_j0 n i2 i3 = some r) : TC Try.prog ⟨w0, fun _ => False, R0⟩ 25 (bodyPost Try.prog Try.f300 (Post ⟨w0, fun _ => False, R0⟩ env0 (.val (.int .i64 r)) [])) [.code (sub (bodyOf Try.f300) [1, 1, 0, 0]), .code (sub (bodyOf Try.f300) [1, 1, 0, 1]), .code (sub (bodyOf Try.f300) [1, 1, 1])] ([(0, .val (.int .u64 i2)), (2, .val (.int .i64 i3))]) ([]) := by
  rw [ev_math_bits_Len64_j0] at h
  refine TC.region ?_
  refine op0 (sp_move rfl rfl) rfl trivial rfl rfl ?_
  refine op0 (sp_geq rfl rfl rfl) rfl trivial rfl rfl ?_
  refine TL.nil ?_
  refine TC.cond (b := (decide ((65536 : Int) ≤ i2))) rfl (fun h2 => ?_) (fun h2 => ?_)
  · have h := cond_t h h2
    refine TC.seq ?_
    refine TC.region ?_
    refine op0 (sp_move rfl rfl) rfl trivial rfl rfl ?_
    refine op0 (sp_shr rfl rfl rfl (by decide)) rfl trivial rfl rfl ?_
    refine op0 (sp_assign rfl rfl) rfl trivial rfl rfl ?_
    refine TL.nil ?_
    refine TC.region ?_
    refine op0 (sp_move rfl rfl) rfl trivial rfl rfl ?_
    obtain ⟨h3, h⟩ := chk_inv h
    refine op0 (sp_add rfl rfl rfl h3) rfl trivial rfl rfl ?_
    refine op0 (sp_assign rfl rfl) rfl trivial rfl rfl ?_
    refine TL.nil ?_
    refine TC.seq ?_
    refine TC.seq ?_
    refine TC.region ?_
    refine op0 (sp_move rfl rfl) rfl trivial rfl rfl ?_
    refine op0 (sp_geq rfl rfl rfl) rfl trivial rfl rfl ?_
    refine TL.nil ?_
    refine TC.cond (b := (decide ((256 : Int) ≤ (i2 / (shK .u64 16 : Int))))) rfl (fun h4 => ?_) (fun h4 => ?_)
    · have h := cond_t h h4
      refine TC.seq ?_
      refine TC.region ?_
      refine op0 (sp_move rfl rfl) rfl trivial rfl rfl ?_
      refine op0 (sp_shr rfl rfl rfl (by decide)) rfl trivial rfl rfl ?_
      refine op0 (sp_assign rfl rfl) rfl trivial rfl rfl ?_
      refine TL.nil ?_
      refine TC.region ?_
      refine op0 (sp_move rfl rfl) rfl trivial rfl rfl ?_
      obtain ⟨h5, h⟩ := chk_inv h
      refine op0 (sp_add rfl rfl rfl h5) rfl trivial rfl rfl ?_
      refine op0 (sp_assign rfl rfl) rfl trivial rfl rfl ?_
      refine TL.nil ?_
      refine TC.seq ?_
      refine TC.region ?_
      refine op0 (sp_move rfl rfl) rfl trivial rfl rfl ?_
      refine op0 (sp_move rfl rfl) rfl trivial rfl rfl ?_
      refine op0 (sp_convW rfl Try.underlying439 Try.underlying5 rfl) rfl trivial rfl rfl ?_
      obtain ⟨h8, h⟩ := chk_inv h
      obtain ⟨v4, h6, h7, h⟩ := idx_inv h
      refine op0 (sp_indexStr rfl rfl rfl Try.underlying9 st_d55355c9_ok h8 h7) rfl trivial rfl rfl ?_
      obtain ⟨h9, h⟩ := chk_inv h
      refine op0 (sp_conv rfl Try.underlying5 Try.underlying3 rfl h9) rfl trivial rfl rfl ?_
      obtain ⟨h10, h⟩ := chk_inv h
      refine op0 (sp_add rfl rfl rfl h10) rfl trivial rfl rfl ?_
      refine op0 (sp_assign rfl rfl) rfl trivial rfl rfl ?_
      refine TL.nil ?_
      cases h
      exact retJ [] (.tmp rfl .nil) rfl trivial rfl rfl
    · have h := cond_f h h4
      refine TC.skip ?_
      refine TC.seq ?_
      refine TC.region ?_
      refine op0 (sp_move rfl rfl) rfl trivial rfl rfl ?_
      refine op0 (sp_move rfl rfl) rfl trivial rfl rfl ?_
      refine op0 (sp_convW rfl Try.underlying439 Try.underlying5 rfl) rfl trivial rfl rfl ?_
      obtain ⟨h13, h⟩ := chk_inv h
      obtain ⟨v5, h11, h12, h⟩ := idx_inv h
      refine op0 (sp_indexStr rfl rfl rfl Try.underlying9 st_d55355c9_ok h13 h12) rfl trivial rfl rfl ?_
      obtain ⟨h14, h⟩ := chk_inv h
      refine op0 (sp_conv rfl Try.underlying5 Try.underlying3 rfl h14) rfl trivial rfl rfl ?_
      obtain ⟨h15, h⟩ := chk_inv h
      refine op0 (sp_add rfl rfl rfl h15) rfl trivial rfl rfl ?_
      refine op0 (sp_assign rfl rfl) rfl trivial rfl rfl ?_
      refine TL.nil ?_
      cases h
      exact retJ [] (.tmp rfl .nil) rfl trivial rfl rfl
  · have h := cond_f h h2
    refine TC.skip ?_
    refine TC.seq ?_
    refine TC.seq ?_
    refine TC.region ?_
    refine op0 (sp_move rfl rfl) rfl trivial rfl rfl ?_
    refine op0 (sp_geq rfl rfl rfl) rfl trivial rfl rfl ?_
    refine TL.nil ?_
    refine TC.cond (b := (decide ((256 : Int) ≤ i2))) rfl (fun h16 => ?_) (fun h16 => ?_)
    · have h := cond_t h h16
      refine TC.seq ?_
      refine TC.region ?_
      refine op0 (sp_move rfl rfl) rfl trivial rfl rfl ?_
      refine op0 (sp_shr rfl rfl rfl (by decide)) rfl trivial rfl rfl ?_
      refine op0 (sp_assign rfl rfl) rfl trivial rfl rfl ?_
      refine TL.nil ?_
      refine TC.region ?_
      refine op0 (sp_move rfl rfl) rfl trivial rfl rfl ?_
      obtain ⟨h17, h⟩ := chk_inv h
      refine op0 (sp_add rfl rfl rfl h17) rfl trivial rfl rfl ?_
      refine op0 (sp_assign rfl rfl) rfl trivial rfl rfl ?_
      refine TL.nil ?_
      refine TC.seq ?_
      refine TC.region ?_
      refine op0 (sp_move rfl rfl) rfl trivial rfl rfl ?_
      refine op0 (sp_move rfl rfl) rfl trivial rfl rfl ?_
      refine op0 (sp_convW rfl Try.underlying439 Try.underlying5 rfl) rfl trivial rfl rfl ?_
      obtain ⟨h20, h⟩ := chk_inv h
      obtain ⟨v6, h18, h19, h⟩ := idx_inv h
      refine op0 (sp_indexStr rfl rfl rfl Try.underlying9 st_d55355c9_ok h20 h19) rfl trivial rfl rfl ?_
      obtain ⟨h21, h⟩ := chk_inv h
      refine op0 (sp_conv rfl Try.underlying5 Try.underlying3 rfl h21) rfl trivial rfl rfl ?_
      obtain ⟨h22, h⟩ := chk_inv h
      refine op0 (sp_add rfl rfl rfl h22) rfl trivial rfl rfl ?_
      refine op0 (sp_assign rfl rfl) rfl trivial rfl rfl ?_
      refine TL.nil ?_
      cases h
      exact retJ [] (.tmp rfl .nil) rfl trivial rfl rfl
    · have h := cond_f h h16
      refine TC.skip ?_
      refine TC.seq ?_
      refine TC.region ?_
      refine op0 (sp_move rfl rfl) rfl trivial rfl rfl ?_
      refine op0 (sp_move rfl rfl) rfl trivial rfl rfl ?_
      refine op0 (sp_convW rfl Try.underlying439 Try.underlying5 rfl) rfl trivial rfl rfl ?_
      obtain ⟨h25, h⟩ := chk_inv h
      obtain ⟨v7, h23, h24, h⟩ := idx_inv h
      refine op0 (sp_indexStr rfl rfl rfl Try.underlying9 st_d55355c9_ok h25 h24) rfl trivial rfl rfl ?_
      obtain ⟨h26, h⟩ := chk_inv h
      refine op0 (sp_conv rfl Try.underlying5 Try.underlying3 rfl h26) rfl trivial rfl rfl ?_
      obtain ⟨h27, h⟩ := chk_inv h
      refine op0 (sp_add rfl rfl rfl h27) rfl trivial rfl rfl ?_
      refine op0 (sp_assign rfl rfl) rfl trivial rfl rfl ?_
      refine TL.nil ?_
      cases h
      exact retJ [] (.tmp rfl .nil) rfl trivial rfl rfl
def ev_math_bits_Len64 (n : Nat) (x1 : Int) : Option Int :=
  cond (decide ((4294967296 : Int) ≤ x1)) (ev_math_bits_Len64_j0 n (x1 / (shK .u64 32 : Int)) 32) (ev_math_bits_Len64_j0 n x1 0)
set_option maxRecDepth 100000 in
set_option maxHeartbeats 2000000 in
theorem fc_math_bits_Len64 {n : Nat} {x1 : Int} {r : Int} (h : ev_math_bits_Len64 n x1 = some r) : FC Try.prog 300 [.val (.int .u64 x1)] [] (.val (.int .i64 r)) [] := by
  refine introJ (nz := 25) Try.func300 rfl rfl rfl (fun w0 R0 env0 => ?_)
  rw [ev_math_bits_Len64] at h
  refine TC.seq ?_
  refine TC.region ?_
  refine op0 (sp_assign rfl rfl) rfl trivial rfl rfl ?_
  refine TL.nil ?_
  refine TC.seq ?_
  refine TC.seq ?_
  refine TC.region ?_
  refine op0 (sp_move rfl rfl) rfl trivial rfl rfl ?_
  refine op0 (sp_geq rfl rfl rfl) rfl trivial rfl rfl ?_
  refine TL.nil ?_
  refine TC.cond (b := (decide ((4294967296 : Int) ≤ x1))) rfl (fun h1 => ?_) (fun h1 => ?_)
  · have h := cond_t h h1
    refine TC.seq ?_
    refine TC.region ?_
    refine op0 (sp_move rfl rfl) rfl trivial rfl rfl ?_
    refine op0 (sp_shr rfl rfl rfl (by decide)) rfl trivial rfl rfl ?_
    refine op0 (sp_assign rfl rfl) rfl trivial rfl rfl ?_
    refine TL.nil ?_
    refine TC.region ?_
    refine op0 (sp_assign rfl rfl) rfl trivial rfl rfl ?_
    refine TL.nil ?_
    refine TC.seq ?_
    refine TC.seq ?_
    refine subJ [] (ok_math_bits_Len64_j0 h) ?_ ?_ ?_
    · exact ⟨rfl, rfl, trivial⟩
    · exact trivial
    · rfl
  · have h := cond_f h h1
    refine TC.skip ?_
    refine TC.seq ?_
    refine TC.seq ?_
    refine subJ [] (ok_math_bits_Len64_j0 h) ?_ ?_ ?_
    · exact ⟨rfl, rfl, trivial⟩
    · exact trivial
    · rfl
/- math_bits_Len -/
def ev_math_bits_Len (n : Nat) (x1 : Int) : Option Int :=
  (ev_math_bits_Len64 n x1).bind fun r2 => some r2
set_option maxRecDepth 100000 in
set_option maxHeartbeats 2000000 in
theorem fc_math_bits_Len {n : Nat} {x1 : Int} {r : Int} (h : ev_math_bits_Len n x1 = some r) : FC Try.prog 271 [.val (.int .u64 x1)] [] (.val (.int .i64 r)) [] := by
  refine introJ (nz := 8) Try.func271 rfl rfl rfl (fun w0 R0 env0 => ?_)
  rw [ev_math_bits_Len] at h
  refine TC.seq ?_
  refine TC.region ?_
  refine op0 (sp_assign rfl rfl) rfl trivial rfl rfl ?_
  refine TL.nil ?_
  refine TC.seq ?_
  refine TC.condF rfl ?_
  refine TC.skip ?_
  refine TC.seq ?_
  refine TC.region ?_
  refine op0 (sp_move rfl rfl) rfl trivial rfl rfl ?_
  obtain ⟨r2, h1, h⟩ := bind_inv h
  refine op0 (sp_call (avs := [.val (.int .u64 x1)]) (need := []) (v := .val (.int .i64 r2)) (news := []) rfl rfl rfl Try.call300 (atJ [] [] (fc_math_bits_Len64 h1) rfl rfl) (.inl (roAll rfl))) rfl trivial rfl rfl ?_
  refine op0 (sp_assign rfl rfl) rfl trivial rfl rfl ?_
  refine TL.nil ?_
  cases h
  exact retJ [] (.tmp rfl .nil) rfl trivial rfl rfl
/- slices_insertionSortCmpFunc_api_Span -/
def ev_slices_insertionSortCmpFunc_api_Span_l1 (n : Nat) (a2 : Int) (cmp4 : (Int × Int × Int × Int) → Option Int) (i5 : Int) (k_slices_insertionSortCmpFunc_api_Span_l0 : Int → (List (Int × Int)) → Option ((List (Int × Int)))) : Nat → Int → (List (Int × Int)) → Option ((List (Int × Int)))
  | 0, _, _ => none
  | m + 1, i7, l8 => cond (decide (a2 < i7)) (idx l8 i7 fun x9 => chk (in64 (i7 - 1)) <| idx l8 (i7 - 1) fun x10 => (cmp4 (x9.1, x9.2, x10.1, x10.2)).bind fun r11 => cond (decide (r11 < 0)) (chk (in64 (i7 - 1)) <| chk (in64 (i7 - 1)) <| idx (List.set l8 (i7 : Int).toNat (x10.1, x10.2)) (i7 - 1) fun x12 => chk (in64 (i7 - 1)) <| ev_slices_insertionSortCmpFunc_api_Span_l1 n a2 cmp4 i5 k_slices_insertionSortCmpFunc_api_Span_l0 m (i7 - 1) (List.set (List.set l8 (i7 : Int).toNat (x10.1, x10.2)) ((i7 - 1) : Int).toNat (x9.1, x9.2))) (chk (in64 (i5 + 1)) <| k_slices_insertionSortCmpFunc_api_Span_l0 (i5 + 1) l8)) (chk (in64 (i5 + 1)) <| k_slices_insertionSortCmpFunc_api_Span_l0 (i5 + 1) l8)
set_option maxRecDepth 100000 in
set_option maxHeartbeats 2000000 in
theorem ok_slices_insertionSortCmpFunc_api_Span_l1 {n : Nat} {w0 : World} {M0 R0 : Nat → Prop} {env0 : Env} {df : List Deferred} {r : (List (Int × Int))} {a2 : Int} {b3 : Int} {cmp4 : (Int × Int × Int × Int) → Option Int} {i5 : Int} {k_slices_insertionSortCmpFunc_api_Span_l0 : Int → (List (Int × Int)) → Option ((List (Int × Int)))} (hk_slices_insertionSortCmpFunc_api_Span_l0 : ∀ (i5 : Int) (l6 : List (Int × Int)), k_slices_insertionSortCmpFunc_api_Span_l0 i5 l6 = some r → TC Try.prog ⟨w0, M0, R0⟩ ⟨53, none, df⟩ (bodyPostM Fence.wide 0 Try.prog Try.f291 (PostT ⟨w0, M0, R0⟩ env0 [0] (.tup []) [.row 0 26 2 (List.map en_api_Span r)])) [.code (sub (bodyOf Try.f291) [1, 0, 0, 0, 0]), .code (sub (bodyOf Try.f291) [1, 0, 0, 0, 1]), .code (sub (bodyOf Try.f291) [1, 0, 0, 1]), .inLoop (sub (bodyOf Try.f291) [1, 0, 0]), .inBlock 0] ([(0, .ref 0), (1, .val (.int .i64 a2)), (2, .val (.int .i64 b3)), (3, .ref 1), (8, .val (.int .i64 i5))]) ([.row 0 26 2 (List.map en_api_Span l6), .any 1 (D.fn Try.prog fe_funcapi_Span_api_Span_int fd_funcapi_Span_api_Span_int cmp4), .inv 2 (marksI df), .pin 3 0 (env0 0)])) : ∀ (m : Nat) (i7 : Int) (l8 : List (Int × Int)), ev_slices_insertionSortCmpFunc_api_Span_l1 n a2 cmp4 i5 k_slices_insertionSortCmpFunc_api_Span_l0 m i7 l8 = some r → TC Try.prog ⟨w0, M0, R0⟩ ⟨53, none, df⟩ (bodyPostM Fence.wide 0 Try.prog Try.f291 (PostT ⟨w0, M0, R0⟩ env0 [0] (.tup []) [.row 0 26 2 (List.map en_api_Span r)])) [.code (sub (bodyOf Try.f291) [1, 0, 0, 1, 0, 0, 1, 0, 0, 0, 0]), .code (sub (bodyOf Try.f291) [1, 0, 0, 1, 0, 0, 1, 0, 0, 0, 1]), .code (sub (bodyOf Try.f291) [1, 0, 0, 1, 0, 0, 1, 0, 0, 1]), .inLoop (sub (bodyOf Try.f291) [1, 0, 0, 1, 0, 0, 1, 0, 0]), .inBlock 2, .inBlock 1, .code (sub (bodyOf Try.f291) [1, 0, 0, 1, 1]), .inLoop (sub (bodyOf Try.f291) [1, 0, 0]), .inBlock 0] ([(0, .ref 0), (1, .val (.int .i64 a2)), (2, .val (.int .i64 b3)), (3, .ref 1), (8, .val (.int .i64 i5)), (9, .val (.int .i64 i7))]) ([.row 0 26 2 (List.map en_api_Span l8), .any 1 (D.fn Try.prog fe_funcapi_Span_api_Span_int fd_funcapi_Span_api_Span_int cmp4), .inv 2 (marksI df), .pin 3 0 (env0 0)]) := by
  intro m
  induction m with
  | zero => intro i7 l8 h; exact none_no h
  | succ m ih =>
    intro i7 l8 h
    rw [ev_slices_insertionSortCmpFunc_api_Span_l1] at h
    rcases cond_cases h with ⟨h3, h⟩ | ⟨h3, h⟩
    · obtain ⟨x9, h4, h5, h⟩ := idx_inv h
      obtain ⟨h6, h⟩ := chk_inv h
      obtain ⟨x10, h7, h8, h⟩ := idx_inv h
      refine drawJ 14 [⟨.val (.int .i64 i7), [], [], []⟩, ⟨.val (.int .i64 a2), [], [], []⟩, ⟨.val (.bool (decide (a2 < i7))), [], [], []⟩, ⟨.val (.bool true), [], [], []⟩, ⟨.ref 1, [], [], []⟩, ⟨.ref 0, [], [], []⟩, ⟨.val (.int .i64 i7), [], [], []⟩, ⟨.cell 0 ((i7 : Int).toNat * 2), [], [.row 0 26 2 (List.map en_api_Span l8)], []⟩, ⟨.agg [.val (.int .i64 x9.1), .val (.int .i64 x9.2)], [], [.row 0 26 2 (List.map en_api_Span l8)], []⟩, ⟨.ref 0, [], [], []⟩, ⟨.val (.int .i64 i7), [], [], []⟩, ⟨.val (.int .i64 (i7 - 1)), [], [], []⟩, ⟨.cell 0 (((i7 - 1) : Int).toNat * 2), [], [.row 0 26 2 (List.map en_api_Span l8)], []⟩, ⟨.agg [.val (.int .i64 x10.1), .val (.int .i64 x10.2)], [], [.row 0 26 2 (List.map en_api_Span l8)], []⟩] rfl ?_ rfl ?_ rfl ?_ ?_
      · kernel_rfl
      · kernel_rfl
      · exact DAll.op' (sp_move rfl rfl) trivial rfl (From.ok (ps := []) trivial) (DAll.op' (sp_move rfl rfl) trivial rfl (From.ok (ps := []) trivial) (DAll.op' (sp_gtr rfl rfl rfl) trivial rfl (From.ok (ps := []) trivial) (DAll.op' (sp_castB h3 (sp_move rfl rfl)) trivial rfl (From.ok (ps := []) trivial) (DAll.op' (sp_move rfl rfl) ⟨_, rfl, rfl⟩ rfl (From.ok (ps := []) trivial) (DAll.op' (sp_move rfl rfl) ⟨_, rfl, rfl⟩ rfl (From.ok (ps := []) trivial) (DAll.op' (sp_move rfl rfl) ⟨_, rfl, rfl⟩ rfl (From.ok (ps := []) trivial) (DAll.op' (sp_indexS rfl rfl rfl isOwn sl23 h4 (map_get _ h5)) ⟨_, rfl, rfl⟩ rfl (From.ok (ps := [(none, 0)]) ⟨⟨rfl, rfl⟩, trivial⟩) (DAll.op' (sp_loadRA (i := (i7 : Int).toNat) (j := 0) (as_ := [.val (.int .i64 x9.1), .val (.int .i64 x9.2)]) (ns := []) rfl rfl isOwn vt26 rfl (map_get _ h5) rfl rfl (by decide) (.v (.v (.nil))) (nodup_of_B rfl)) ⟨_, rfl, rfl⟩ rfl (From.ok (ps := [(none, 0)]) ⟨⟨rfl, rfl⟩, trivial⟩) (DAll.op' (sp_move rfl rfl) ⟨_, rfl, rfl⟩ rfl (From.ok (ps := []) trivial) (DAll.op' (sp_move rfl rfl) ⟨_, rfl, rfl⟩ rfl (From.ok (ps := []) trivial) (DAll.op' (sp_sub rfl rfl rfl h6) ⟨_, rfl, rfl⟩ rfl (From.ok (ps := []) trivial) (DAll.op' (sp_indexS rfl rfl rfl isOwn sl23 h7 (map_get _ h8)) ⟨_, rfl, rfl⟩ rfl (From.ok (ps := [(none, 0)]) ⟨⟨rfl, rfl⟩, trivial⟩) (DAll.op' (sp_loadRA (i := ((i7 - 1) : Int).toNat) (j := 0) (as_ := [.val (.int .i64 x10.1), .val (.int .i64 x10.2)]) (ns := []) rfl rfl isOwn vt26 rfl (map_get _ h8) rfl rfl (by decide) (.v (.v (.nil))) (nodup_of_B rfl)) ⟨_, rfl, rfl⟩ rfl (From.ok (ps := [(none, 0)]) ⟨⟨rfl, rfl⟩, trivial⟩) (.nil))))))))))))))
      obtain ⟨r11, h9, h⟩ := bind_inv h
      refine op1 1 rfl (sp_callF (avs := [.agg [.val (.int .i64 x9.1), .val (.int .i64 x9.2)], .agg [.val (.int .i64 x10.1), .val (.int .i64 x10.2)]]) (v := .val (.int .i64 r11)) (x9.1, x9.2, x10.1, x10.2) rfl rfl rfl rfl rfl h9) rfl ⟨_, rfl, rfl⟩ rfl rfl ?_
      refine op0 (sp_lss rfl rfl rfl) rfl ⟨_, rfl, rfl⟩ rfl rfl ?_
      refine op0 (sp_pickT rfl rfl rfl) rfl trivial rfl rfl ?_
      refine TL.nil ?_
      refine TC.cond (b := (decide (r11 < 0))) rfl (fun h10 => ?_) (fun h10 => ?_)
      · have h := cond_t h h10
        refine TC.skip ?_
        refine TC.seq ?_
        refine TC.block ?_
        obtain ⟨h11, h⟩ := chk_inv h
        obtain ⟨h12, h⟩ := chk_inv h
        refine drawJ 16 [⟨.ref 0, [], [], []⟩, ⟨.val (.int .i64 i7), [], [], []⟩, ⟨.ref 0, [], [], []⟩, ⟨.val (.int .i64 i7), [], [], []⟩, ⟨.val (.int .i64 (i7 - 1)), [], [], []⟩, ⟨.ref 0, [], [], []⟩, ⟨.val (.int .i64 i7), [], [], []⟩, ⟨.val (.int .i64 (i7 - 1)), [], [], []⟩, ⟨.cell 0 (((i7 - 1) : Int).toNat * 2), [], [.row 0 26 2 (List.map en_api_Span l8)], []⟩, ⟨.agg [.val (.int .i64 x10.1), .val (.int .i64 x10.2)], [], [.row 0 26 2 (List.map en_api_Span l8)], []⟩, ⟨.ref 0, [], [], []⟩, ⟨.val (.int .i64 i7), [], [], []⟩, ⟨.cell 0 ((i7 : Int).toNat * 2), [], [.row 0 26 2 (List.map en_api_Span l8)], []⟩, ⟨.agg [.val (.int .i64 x9.1), .val (.int .i64 x9.2)], [], [.row 0 26 2 (List.map en_api_Span l8)], []⟩, ⟨.cell 0 ((i7 : Int).toNat * 2), [], [.row 0 26 2 (List.map en_api_Span l8)], []⟩, ⟨.val (undef), [.row 0 26 2 (List.map en_api_Span (List.set l8 (i7 : Int).toNat (x10.1, x10.2)))], [], [.row 0 26 2 (List.map en_api_Span l8)]⟩] rfl ?_ rfl ?_ rfl ?_ ?_
        · kernel_rfl
        · kernel_rfl
        · exact DAll.op' (sp_move rfl rfl) trivial rfl (From.ok (ps := []) trivial) (DAll.op' (sp_move rfl rfl) trivial rfl (From.ok (ps := []) trivial) (DAll.op' (sp_move rfl rfl) trivial rfl (From.ok (ps := []) trivial) (DAll.op' (sp_move rfl rfl) trivial rfl (From.ok (ps := []) trivial) (DAll.op' (sp_sub rfl rfl rfl h11) trivial rfl (From.ok (ps := []) trivial) (DAll.op' (sp_move rfl rfl) trivial rfl (From.ok (ps := []) trivial) (DAll.op' (sp_move rfl rfl) trivial rfl (From.ok (ps := []) trivial) (DAll.op' (sp_sub rfl rfl rfl h12) trivial rfl (From.ok (ps := []) trivial) (DAll.op' (sp_indexS rfl rfl rfl isOwn sl23 h7 (map_get _ h8)) trivial rfl (From.ok (ps := [(none, 0)]) ⟨⟨rfl, by kernel_rfl⟩, trivial⟩) (DAll.op' (sp_loadRA (i := ((i7 - 1) : Int).toNat) (j := 0) (as_ := [.val (.int .i64 x10.1), .val (.int .i64 x10.2)]) (ns := []) rfl rfl isOwn vt26 rfl (map_get _ h8) rfl rfl (by decide) (.v (.v (.nil))) (nodup_of_B rfl)) trivial rfl (From.ok (ps := [(none, 0)]) ⟨⟨rfl, by kernel_rfl⟩, trivial⟩) (DAll.op' (sp_move rfl rfl) trivial rfl (From.ok (ps := []) trivial) (DAll.op' (sp_move rfl rfl) trivial rfl (From.ok (ps := []) trivial) (DAll.op' (sp_indexS rfl rfl rfl isOwn sl23 h4 (map_get _ h5)) trivial rfl (From.ok (ps := [(none, 0)]) ⟨⟨rfl, by kernel_rfl⟩, trivial⟩) (DAll.op' (sp_loadRA (i := (i7 : Int).toNat) (j := 0) (as_ := [.val (.int .i64 x9.1), .val (.int .i64 x9.2)]) (ns := []) rfl rfl isOwn vt26 rfl (map_get _ h5) rfl rfl (by decide) (.v (.v (.nil))) (nodup_of_B rfl)) trivial rfl (From.ok (ps := [(none, 0)]) ⟨⟨rfl, by kernel_rfl⟩, trivial⟩) (DAll.op' (sp_indexS rfl rfl rfl isOwn sl23 h4 (map_get _ h5)) trivial rfl (From.ok (ps := [(none, 0)]) ⟨⟨rfl, by kernel_rfl⟩, trivial⟩) (DAll.opT (ts_storeR ((i7 : Int).toNat) 0 rfl rfl rfl rfl vt26 rfl rfl (map_get _ h5) rfl rfl (.v (.v (.nil))) (map_set l8 en_api_Span ((i7 : Int).toNat) (x10.1, x10.2))) trivial (From.ok (ps := [(none, 0)]) ⟨⟨rfl, by kernel_rfl⟩, trivial⟩) (From.ok (ps := []) trivial) (.nil))))))))))))))))
        obtain ⟨x12, h13, h14, h⟩ := idx_inv h
        refine op1 0 rfl (sp_indexS rfl rfl rfl isOwn sl23 h13 (map_get _ h14)) rfl trivial rfl rfl ?_
        refine stoR 0 (((i7 - 1) : Int).toNat) 0 (need := []) [] rfl rfl trivial rfl rfl rfl rfl vt26 rfl rfl (map_get _ h14) rfl rfl trivial (.v (.v (.nil))) (map_set (List.set l8 (i7 : Int).toNat (x10.1, x10.2)) en_api_Span (((i7 - 1) : Int).toNat) (x9.1, x9.2)) ?_
        refine TL.nil ?_
        refine TC.inBlock ?_
        refine TC.region ?_
        refine op0 (sp_move rfl rfl) rfl trivial rfl rfl ?_
        obtain ⟨h15, h⟩ := chk_inv h
        refine op0 (sp_sub rfl rfl rfl h15) rfl trivial rfl rfl ?_
        refine op0 (sp_assign rfl rfl) rfl trivial rfl rfl ?_
        refine TL.nil ?_
        refine TC.inLoop ?_
        refine TC.seq ?_
        refine TC.seq ?_
        refine subJ [] (ih _ _ h) ?_ ?_ ?_
        · exact ⟨rfl, rfl, rfl, rfl, rfl, rfl, trivial⟩
        · exact ⟨mem_at 0 rfl, mem_at 1 rfl, mem_at 2 rfl, mem_at 3 rfl, trivial⟩
        · rfl
      · have h := cond_f h h10
        refine TC.exit rfl ?_
        refine TC.inBlock ?_
        refine TC.region ?_
        refine op0 (sp_move rfl rfl) rfl trivial rfl rfl ?_
        obtain ⟨h16, h⟩ := chk_inv h
        refine op0 (sp_add rfl rfl rfl h16) rfl trivial rfl rfl ?_
        refine op0 (sp_assign rfl rfl) rfl trivial rfl rfl ?_
        refine TL.nil ?_
        refine TC.inLoop ?_
        refine TC.seq ?_
        refine TC.seq ?_
        refine subJ [] (hk_slices_insertionSortCmpFunc_api_Span_l0 _ _ h) ?_ ?_ ?_
        · exact ⟨rfl, rfl, rfl, rfl, rfl, trivial⟩
        · exact ⟨mem_at 0 rfl, mem_at 1 rfl, mem_at 2 rfl, mem_at 3 rfl, trivial⟩
        · rfl
    · refine drawJ 14 [⟨.val (.int .i64 i7), [], [], []⟩, ⟨.val (.int .i64 a2), [], [], []⟩, ⟨.val (.bool (decide (a2 < i7))), [], [], []⟩, ⟨.val (.bool false), [], [], []⟩, ⟨.val (undef), [], [], []⟩, ⟨.val (undef), [], [], []⟩, ⟨.val (undef), [], [], []⟩, ⟨.val (undef), [], [], []⟩, ⟨.val (undef), [], [], []⟩, ⟨.val (undef), [], [], []⟩, ⟨.val (undef), [], [], []⟩, ⟨.val (undef), [], [], []⟩, ⟨.val (undef), [], [], []⟩, ⟨.val (undef), [], [], []⟩] rfl ?_ rfl ?_ rfl ?_ ?_
      · kernel_rfl
      · kernel_rfl
      · exact DAll.op' (sp_move rfl rfl) trivial rfl (From.ok (ps := []) trivial) (DAll.op' (sp_move rfl rfl) trivial rfl (From.ok (ps := []) trivial) (DAll.op' (sp_gtr rfl rfl rfl) trivial rfl (From.ok (ps := []) trivial) (DAll.op' (sp_castB h3 (sp_move rfl rfl)) trivial rfl (From.ok (ps := []) trivial) (.skip ⟨_, rfl, .inl rfl⟩ rfl rfl rfl (.skip ⟨_, rfl, .inl rfl⟩ rfl rfl rfl (.skip ⟨_, rfl, .inl rfl⟩ rfl rfl rfl (.skip ⟨_, rfl, .inl rfl⟩ rfl rfl rfl (.skip ⟨_, rfl, .inl rfl⟩ rfl rfl rfl (.skip ⟨_, rfl, .inl rfl⟩ rfl rfl rfl (.skip ⟨_, rfl, .inl rfl⟩ rfl rfl rfl (.skip ⟨_, rfl, .inl rfl⟩ rfl rfl rfl (.skip ⟨_, rfl, .inl rfl⟩ rfl rfl rfl (.skip ⟨_, rfl, .inl rfl⟩ rfl rfl rfl (.nil))))))))))))))
      refine opSkip rfl ⟨_, rfl, .inl rfl⟩ rfl ?_
      refine opSkip rfl ⟨_, rfl, .inl rfl⟩ rfl ?_
      refine op0 (sp_pickF rfl rfl rfl) rfl trivial rfl rfl ?_
      refine TL.nil ?_
      refine TC.condF rfl ?_
      refine TC.exit rfl ?_
      refine TC.inBlock ?_
      refine TC.region ?_
      refine op0 (sp_move rfl rfl) rfl trivial rfl rfl ?_
      obtain ⟨h17, h⟩ := chk_inv h
      refine op0 (sp_add rfl rfl rfl h17) rfl trivial rfl rfl ?_
      refine op0 (sp_assign rfl rfl) rfl trivial rfl rfl ?_
      refine TL.nil ?_
      refine TC.inLoop ?_
      refine TC.seq ?_
      refine TC.seq ?_
      refine subJ [] (hk_slices_insertionSortCmpFunc_api_Span_l0 _ _ h) ?_ ?_ ?_
      · exact ⟨rfl, rfl, rfl, rfl, rfl, trivial⟩
      · exact ⟨mem_at 0 rfl, mem_at 1 rfl, mem_at 2 rfl, mem_at 3 rfl, trivial⟩
      · rfl
def ev_slices_insertionSortCmpFunc_api_Span_l0 (n : Nat) (b3 : Int) (a2 : Int) (cmp4 : (Int × Int × Int × Int) → Option Int) : Nat → Int → (List (Int × Int)) → Option ((List (Int × Int)))
  | 0, _, _ => none
  | m + 1, i5, l6 => cond (decide (i5 < b3)) (ev_slices_insertionSortCmpFunc_api_Span_l1 n a2 cmp4 i5 (fun i5q l6q => ev_slices_insertionSortCmpFunc_api_Span_l0 n b3 a2 cmp4 m i5q l6q) n i5 l6) (some l6)
set_option maxRecDepth 100000 in
set_option maxHeartbeats 2000000 in
theorem ok_slices_insertionSortCmpFunc_api_Span_l0 {n : Nat} {w0 : World} {M0 R0 : Nat → Prop} {env0 : Env} {df : List Deferred} {r : (List (Int × Int))} {a2 : Int} {b3 : Int} {cmp4 : (Int × Int × Int × Int) → Option Int} : ∀ (m : Nat) (i5 : Int) (l6 : List (Int × Int)), ev_slices_insertionSortCmpFunc_api_Span_l0 n b3 a2 cmp4 m i5 l6 = some r → TC Try.prog ⟨w0, M0, R0⟩ ⟨53, none, df⟩ (bodyPostM Fence.wide 0 Try.prog Try.f291 (PostT ⟨w0, M0, R0⟩ env0 [0] (.tup []) [.row 0 26 2 (List.map en_api_Span r)])) [.code (sub (bodyOf Try.f291) [1, 0, 0, 0, 0]), .code (sub (bodyOf Try.f291) [1, 0, 0, 0, 1]), .code (sub (bodyOf Try.f291) [1, 0, 0, 1]), .inLoop (sub (bodyOf Try.f291) [1, 0, 0]), .inBlock 0] ([(0, .ref 0), (1, .val (.int .i64 a2)), (2, .val (.int .i64 b3)), (3, .ref 1), (8, .val (.int .i64 i5))]) ([.row 0 26 2 (List.map en_api_Span l6), .any 1 (D.fn Try.prog fe_funcapi_Span_api_Span_int fd_funcapi_Span_api_Span_int cmp4), .inv 2 (marksI df), .pin 3 0 (env0 0)]) := by
  intro m
  induction m with
  | zero => intro i5 l6 h; exact none_no h
  | succ m ih =>
    intro i5 l6 h
    rw [ev_slices_insertionSortCmpFunc_api_Span_l0] at h
    refine TC.region ?_
    refine op0 (sp_move rfl rfl) rfl trivial rfl rfl ?_
    refine op0 (sp_move rfl rfl) rfl trivial rfl rfl ?_
    refine op0 (sp_lss rfl rfl rfl) rfl trivial rfl rfl ?_
    refine TL.nil ?_
    refine TC.cond (b := (decide (i5 < b3))) rfl (fun h2 => ?_) (fun h2 => ?_)
    · have h := cond_t h h2
      refine TC.skip ?_
      refine TC.seq ?_
      refine TC.block ?_
      refine TC.seq ?_
      refine TC.region ?_
      refine op0 (sp_move rfl rfl) rfl trivial rfl rfl ?_
      refine op0 (sp_assign rfl rfl) rfl trivial rfl rfl ?_
      refine TL.nil ?_
      refine TC.block ?_
      refine TC.loop ?_
      refine TC.seq ?_
      refine TC.seq ?_
      refine subJ [] (ok_slices_insertionSortCmpFunc_api_Span_l1 (b3 := b3) ih _ _ _ h) ?_ ?_ ?_
      · exact ⟨rfl, rfl, rfl, rfl, rfl, rfl, trivial⟩
      · exact ⟨mem_at 0 rfl, mem_at 1 rfl, mem_at 2 rfl, mem_at 3 rfl, trivial⟩
      · rfl
    · have h := cond_f h h2
      refine TC.exit rfl ?_
      cases h
      exact endM [] 2 2 [0] rfl (.nil) rfl ⟨mem_at 0 rfl, trivial⟩ rfl rfl ⟨⟨_, mem_at 2 rfl⟩, trivial⟩ rfl
def ev_slices_insertionSortCmpFunc_api_Span (n : Nat) (data1 : List (Int × Int)) (a2 : Int) (b3 : Int) (cmp4 : (Int × Int × Int × Int) → Option Int) : Option ((List (Int × Int))) :=
  chk (in64 (a2 + 1)) <| ev_slices_insertionSortCmpFunc_api_Span_l0 n b3 a2 cmp4 n (a2 + 1) data1
set_option maxRecDepth 100000 in
set_option maxHeartbeats 2000000 in
theorem ft_slices_insertionSortCmpFunc_api_Span {n : Nat} {data1 : List (Int × Int)} {a2 : Int} {b3 : Int} {cmp4 : (Int × Int × Int × Int) → Option Int} {r : (List (Int × Int))} (h : ev_slices_insertionSortCmpFunc_api_Span n data1 a2 b3 cmp4 = some r) : FT Try.prog 291 [.ref 0, .val (.int .i64 a2), .val (.int .i64 b3), .ref 1] [.row 0 26 2 (List.map en_api_Span data1)] [.any 1 (D.fn Try.prog fe_funcapi_Span_api_Span_int fd_funcapi_Span_api_Span_int cmp4)] (.tup []) [.row 0 26 2 (List.map en_api_Span r)] := by
  refine introM (nz := 53) 2 [(3, 0)] Try.func291 rfl rfl rfl rfl (fun w0 M0 R0 env0 => ?_)
  rw [ev_slices_insertionSortCmpFunc_api_Span] at h
  refine TC.seq ?_
  refine TC.region ?_
  refine op0 (sp_move rfl rfl) rfl trivial rfl rfl ?_
  obtain ⟨h1, h⟩ := chk_inv h
  refine op0 (sp_add rfl rfl rfl h1) rfl trivial rfl rfl ?_
  refine op0 (sp_assign rfl rfl) rfl trivial rfl rfl ?_
  refine TL.nil ?_
  refine TC.block ?_
  refine TC.loop ?_
  refine TC.seq ?_
  refine TC.seq ?_
  refine subJ [] (ok_slices_insertionSortCmpFunc_api_Span_l0 _ _ _ h) ?_ ?_ ?_
  · exact ⟨rfl, rfl, rfl, rfl, rfl, trivial⟩
  · exact ⟨mem_at 2 rfl, mem_at 3 rfl, mem_at 0 rfl, mem_at 1 rfl, trivial⟩
  · rfl
/- slices_pdqsortCmpFunc_api_Span -/
def ev_slices_pdqsortCmpFunc_api_Span_j1 (n : Nat) (i13 : Int) : Option ((List (Int × Int))) :=
  none
set_option maxRecDepth 100000 in
set_option maxHeartbeats 2000000 in
theorem ok_slices_pdqsortCmpFunc_api_Span_j1 {n : Nat} {w0 : World} {M0 R0 : Nat → Prop} {env0 : Env} {df : List Deferred} {r : (List (Int × Int))} {i6 : Int} {i7 : Int} {b9 : Bool} {b10 : Bool} {l11 : List (Int × Int)} {cmp5 : (Int × Int × Int × Int) → Option Int} {i13 : Int} (h : ev_slices_pdqsortCmpFunc_api_Span_j1 n i13 = some r) : TC Try.prog ⟨w0, M0, R0⟩ ⟨148, none, df⟩ (bodyPostM Fence.wide 0 Try.prog Try.f270 (PostT ⟨w0, M0, R0⟩ env0 [0] (.tup []) [.row 0 26 2 (List.map en_api_Span r)])) [.code (sub (bodyOf Try.f270) [1, 1, 0, 0, 0, 1, 1, 1, 1, 0]), .code (sub (bodyOf Try.f270) [1, 1, 0, 0, 0, 1, 1, 1, 1, 1]), .inBlock 1, .inLoop (sub (bodyOf Try.f270) [1, 1, 0, 0]), .inBlock 0] ([(0, .ref 0), (1, .val (.int .i64 i6)), (2, .val (.int .i64 i7)), (3, .val (.int .i64 i13)), (4, .ref 1), (10, .val (.bool b9)), (11, .val (.bool b10)), (12, .val (.int .i64 (i7 - i6)))]) ([.row 0 26 2 (List.map en_api_Span l11), .any 1 (D.fn Try.prog fe_funcapi_Span_api_Span_int fd_funcapi_Span_api_Span_int cmp5), .inv 2 (marksI df), .pin 3 0 (env0 0)]) := by
  rw [ev_slices_pdqsortCmpFunc_api_Span_j1] at h
  refine TC.region ?_
  refine op0 (sp_move rfl rfl) rfl trivial rfl rfl ?_
  refine op0 (sp_move rfl rfl) rfl trivial rfl rfl ?_
  refine op0 (sp_move rfl rfl) rfl trivial rfl rfl ?_
  refine op0 (sp_move rfl rfl) rfl trivial rfl rfl ?_
  exact none_no h
def ev_slices_pdqsortCmpFunc_api_Span_l0 (n : Nat) (cmp5 : (Int × Int × Int × Int) → Option Int) : Nat → Int → Int → Int → Bool → Bool → (List (Int × Int)) → Option ((List (Int × Int)))
  | 0, _, _, _, _, _, _ => none
  | m + 1, i6, i7, i8, b9, b10, l11 => chk (in64 (i7 - i6)) <| cond (decide ((i7 - i6) ≤ 12)) ((ev_slices_insertionSortCmpFunc_api_Span n l11 i6 i7 cmp5).bind fun r12 => some r12) (cond (i8 == 0) (none) (cond (!b9) (none) (ev_slices_pdqsortCmpFunc_api_Span_j1 n i8)))
set_option maxRecDepth 100000 in
set_option maxHeartbeats 2000000 in
theorem ok_slices_pdqsortCmpFunc_api_Span_l0 {n : Nat} {w0 : World} {M0 R0 : Nat → Prop} {env0 : Env} {df : List Deferred} {r : (List (Int × Int))} {cmp5 : (Int × Int × Int × Int) → Option Int} : ∀ (m : Nat) (i6 : Int) (i7 : Int) (i8 : Int) (b9 : Bool) (b10 : Bool) (l11 : List (Int × Int)), ev_slices_pdqsortCmpFunc_api_Span_l0 n cmp5 m i6 i7 i8 b9 b10 l11 = some r → TC Try.prog ⟨w0, M0, R0⟩ ⟨148, none, df⟩ (bodyPostM Fence.wide 0 Try.prog Try.f270 (PostT ⟨w0, M0, R0⟩ env0 [0] (.tup []) [.row 0 26 2 (List.map en_api_Span r)])) [.code (sub (bodyOf Try.f270) [1, 1, 0, 0]), .inLoop (sub (bodyOf Try.f270) [1, 1, 0, 0]), .inBlock 0] ([(0, .ref 0), (1, .val (.int .i64 i6)), (2, .val (.int .i64 i7)), (3, .val (.int .i64 i8)), (4, .ref 1), (10, .val (.bool b9)), (11, .val (.bool b10))]) ([.row 0 26 2 (List.map en_api_Span l11), .any 1 (D.fn Try.prog fe_funcapi_Span_api_Span_int fd_funcapi_Span_api_Span_int cmp5), .inv 2 (marksI df), .pin 3 0 (env0 0)]) := by
  intro m
  induction m with
  | zero => intro i6 i7 i8 b9 b10 l11 h; exact none_no h
  | succ m ih =>
    intro i6 i7 i8 b9 b10 l11 h
    rw [ev_slices_pdqsortCmpFunc_api_Span_l0] at h
    refine TC.block ?_
    refine TC.seq ?_
    refine TC.region ?_
    refine op0 (sp_move rfl rfl) rfl trivial rfl rfl ?_
    refine op0 (sp_move rfl rfl) rfl trivial rfl rfl ?_
    obtain ⟨h1, h⟩ := chk_inv h
    refine op0 (sp_sub rfl rfl rfl h1) rfl trivial rfl rfl ?_
    refine op0 (sp_assign rfl rfl) rfl trivial rfl rfl ?_
    refine TL.nil ?_
    refine TC.seq ?_
    refine TC.seq ?_
    refine TC.region ?_
    refine op0 (sp_move rfl rfl) rfl trivial rfl rfl ?_
    refine op0 (sp_leq rfl rfl rfl) rfl trivial rfl rfl ?_
    refine TL.nil ?_
    refine TC.cond (b := (decide ((i7 - i6) ≤ 12))) rfl (fun h2 => ?_) (fun h2 => ?_)
    · have h := cond_t h h2
      refine TC.seq ?_
      refine TC.region ?_
      refine op0 (sp_move rfl rfl) rfl trivial rfl rfl ?_
      refine op0 (sp_move rfl rfl) rfl trivial rfl rfl ?_
      refine op0 (sp_move rfl rfl) rfl trivial rfl rfl ?_
      refine op0 (sp_move rfl rfl) rfl trivial rfl rfl ?_
      obtain ⟨r12, h3, h⟩ := bind_inv h
      refine opT (take := [.row 0 26 2 (List.map en_api_Span l11)]) (need := [.any 1 (D.fn Try.prog fe_funcapi_Span_api_Span_int fd_funcapi_Span_api_Span_int cmp5)]) (V' := [.row 0 26 2 (List.map en_api_Span r12), .any 1 (D.fn Try.prog fe_funcapi_Span_api_Span_int fd_funcapi_Span_api_Span_int cmp5), .inv 2 (marksI df), .pin 3 0 (env0 0)]) [0] [1] (ts_call (avs := [.ref 0, .val (.int .i64 i6), .val (.int .i64 i7), .ref 1]) (take := [.row 0 26 2 (List.map en_api_Span l11)]) (need := [.any 1 (D.fn Try.prog fe_funcapi_Span_api_Span_int fd_funcapi_Span_api_Span_int cmp5)]) (v := .tup []) (news := [.row 0 26 2 (List.map en_api_Span r12)]) rfl rfl rfl Try.call291 (atT [] [] (ft_slices_insertionSortCmpFunc_api_Span h3) rfl rfl rfl) rfl rfl) trivial rfl ⟨rfl, trivial⟩ ⟨rfl, trivial⟩ rfl rfl ?_
      refine TL.nil ?_
      cases h
      exact retM [] 2 2 [0] rfl (.nil) rfl ⟨mem_at 0 rfl, trivial⟩ rfl rfl ⟨⟨_, mem_at 2 rfl⟩, trivial⟩ rfl
    · have h := cond_f h h2
      refine TC.skip ?_
      refine TC.seq ?_
      refine TC.seq ?_
      refine TC.region ?_
      refine op0 (sp_move rfl rfl) rfl trivial rfl rfl ?_
      refine op0 (sp_eql rfl rfl rfl) rfl trivial rfl rfl ?_
      refine TL.nil ?_
      refine TC.cond (b := (i8 == 0)) rfl (fun h4 => ?_) (fun h4 => ?_)
      · have h := cond_t h h4
        refine TC.seq ?_
        refine TC.region ?_
        refine op0 (sp_move rfl rfl) rfl trivial rfl rfl ?_
        refine op0 (sp_move rfl rfl) rfl trivial rfl rfl ?_
        refine op0 (sp_move rfl rfl) rfl trivial rfl rfl ?_
        refine op0 (sp_move rfl rfl) rfl trivial rfl rfl ?_
        exact none_no h
      · have h := cond_f h h4
        refine TC.skip ?_
        refine TC.seq ?_
        refine TC.seq ?_
        refine TC.region ?_
        refine op0 (sp_move rfl rfl) rfl trivial rfl rfl ?_
        refine op0 (sp_not rfl rfl) rfl trivial rfl rfl ?_
        refine TL.nil ?_
        refine TC.cond (b := (!b9)) rfl (fun h5 => ?_) (fun h5 => ?_)
        · have h := cond_t h h5
          refine TC.seq ?_
          refine TC.region ?_
          refine op0 (sp_move rfl rfl) rfl trivial rfl rfl ?_
          refine op0 (sp_move rfl rfl) rfl trivial rfl rfl ?_
          refine op0 (sp_move rfl rfl) rfl trivial rfl rfl ?_
          refine op0 (sp_move rfl rfl) rfl trivial rfl rfl ?_
          exact none_no h
        · have h := cond_f h h5
          refine TC.skip ?_
          refine TC.seq ?_
          refine subJ [] (ok_slices_pdqsortCmpFunc_api_Span_j1 (i6 := i6) (i7 := i7) (b9 := b9) (b10 := b10) (l11 := l11) (cmp5 := cmp5) h) ?_ ?_ ?_
          · exact ⟨rfl, rfl, rfl, rfl, rfl, rfl, rfl, rfl, trivial⟩
          · exact ⟨mem_at 0 rfl, mem_at 1 rfl, mem_at 2 rfl, mem_at 3 rfl, trivial⟩
          · rfl
def ev_slices_pdqsortCmpFunc_api_Span (n : Nat) (data1 : List (Int × Int)) (a2 : Int) (b3 : Int) (limit4 : Int) (cmp5 : (Int × Int × Int × Int) → Option Int) : Option ((List (Int × Int))) :=
  ev_slices_pdqsortCmpFunc_api_Span_l0 n cmp5 n a2 b3 limit4 true true data1
set_option maxRecDepth 100000 in
set_option maxHeartbeats 2000000 in
theorem ft_slices_pdqsortCmpFunc_api_Span {n : Nat} {data1 : List (Int × Int)} {a2 : Int} {b3 : Int} {limit4 : Int} {cmp5 : (Int × Int × Int × Int) → Option Int} {r : (List (Int × Int))} (h : ev_slices_pdqsortCmpFunc_api_Span n data1 a2 b3 limit4 cmp5 = some r) : FT Try.prog 270 [.ref 0, .val (.int .i64 a2), .val (.int .i64 b3), .val (.int .i64 limit4), .ref 1] [.row 0 26 2 (List.map en_api_Span data1)] [.any 1 (D.fn Try.prog fe_funcapi_Span_api_Span_int fd_funcapi_Span_api_Span_int cmp5)] (.tup []) [.row 0 26 2 (List.map en_api_Span r)] := by
  refine introM (nz := 148) 2 [(3, 0)] Try.func270 rfl rfl rfl rfl (fun w0 M0 R0 env0 => ?_)
  rw [ev_slices_pdqsortCmpFunc_api_Span] at h
  refine TC.seq ?_
  refine TC.region ?_
  refine op0 (sp_assign rfl rfl) rfl trivial rfl rfl ?_
  refine TL.nil ?_
  refine TC.seq ?_
  refine TC.region ?_
  refine op0 (sp_assign rfl rfl) rfl trivial rfl rfl ?_
  refine TL.nil ?_
  refine TC.block ?_
  refine TC.loop ?_
  refine subJ [] (ok_slices_pdqsortCmpFunc_api_Span_l0 _ _ _ _ _ _ _ h) ?_ ?_ ?_
  · exact ⟨rfl, rfl, rfl, rfl, rfl, rfl, rfl, trivial⟩
  · exact ⟨mem_at 2 rfl, mem_at 3 rfl, mem_at 0 rfl, mem_at 1 rfl, trivial⟩
  · rfl
/- slices_SortFunc_Lapi_Span_api_Span -/
def ev_slices_SortFunc_Lapi_Span_api_Span (n : Nat) (x1 : List (Int × Int)) (cmp2 : (Int × Int × Int × Int) → Option Int) : Option ((List (Int × Int))) :=
  (ev_math_bits_Len n (IntKind.u64.wrap (x1.length : Int))).bind fun r3 => (ev_slices_pdqsortCmpFunc_api_Span n x1 0 (x1.length : Int) r3 cmp2).bind fun r4 => some r4
set_option maxRecDepth 100000 in
set_option maxHeartbeats 2000000 in
theorem ft_slices_SortFunc_Lapi_Span_api_Span {n : Nat} {x1 : List (Int × Int)} {cmp2 : (Int × Int × Int × Int) → Option Int} {r : (List (Int × Int))} (h : ev_slices_SortFunc_Lapi_Span_api_Span n x1 cmp2 = some r) : FT Try.prog 212 [.ref 0, .ref 1] [.row 0 26 2 (List.map en_api_Span x1)] [.any 1 (D.fn Try.prog fe_funcapi_Span_api_Span_int fd_funcapi_Span_api_Span_int cmp2)] (.tup []) [.row 0 26 2 (List.map en_api_Span r)] := by
  refine introM (nz := 14) 2 [(3, 0)] Try.func212 rfl rfl rfl rfl (fun w0 M0 R0 env0 => ?_)
  rw [ev_slices_SortFunc_Lapi_Span_api_Span] at h
  refine TC.seq ?_
  refine TC.region ?_
  refine op0 (sp_move rfl rfl) rfl trivial rfl rfl ?_
  refine op1 2 rfl (sp_lenM (N := x1.length) (len_map _ _) rfl rfl isOwn Try.underlying23) rfl trivial rfl rfl ?_
  refine op0 (sp_assign rfl rfl) rfl trivial rfl rfl ?_
  refine TL.nil ?_
  refine TC.region ?_
  refine op0 (sp_move rfl rfl) rfl trivial rfl rfl ?_
  refine op0 (sp_move rfl rfl) rfl trivial rfl rfl ?_
  refine op0 (sp_move rfl rfl) rfl trivial rfl rfl ?_
  refine op0 (sp_convW rfl Try.underlying3 Try.underlying416 rfl) rfl trivial rfl rfl ?_
  obtain ⟨r3, h1, h⟩ := bind_inv h
  refine op0 (sp_call (avs := [.val (.int .u64 (IntKind.u64.wrap (x1.length : Int)))]) (need := []) (v := .val (.int .i64 r3)) (news := []) rfl rfl rfl Try.call271 (atJ [] [] (fc_math_bits_Len h1) rfl rfl) (.inl (roAll rfl))) rfl trivial rfl rfl ?_
  refine op0 (sp_move rfl rfl) rfl trivial rfl rfl ?_
  obtain ⟨r4, h2, h⟩ := bind_inv h
  refine opT (take := [.row 0 26 2 (List.map en_api_Span x1)]) (need := [.any 1 (D.fn Try.prog fe_funcapi_Span_api_Span_int fd_funcapi_Span_api_Span_int cmp2)]) (V' := [.row 0 26 2 (List.map en_api_Span r4), .inv 2 (marksI []), .pin 3 0 (env0 0), .any 1 (D.fn Try.prog fe_funcapi_Span_api_Span_int fd_funcapi_Span_api_Span_int cmp2)]) [2] [3] (ts_call (avs := [.ref 0, .val (.int .i64 0), .val (.int .i64 (x1.length : Int)), .val (.int .i64 r3), .ref 1]) (take := [.row 0 26 2 (List.map en_api_Span x1)]) (need := [.any 1 (D.fn Try.prog fe_funcapi_Span_api_Span_int fd_funcapi_Span_api_Span_int cmp2)]) (v := .tup []) (news := [.row 0 26 2 (List.map en_api_Span r4)]) rfl rfl rfl Try.call270 (atT [] [] (ft_slices_pdqsortCmpFunc_api_Span h2) rfl rfl rfl) rfl rfl) trivial rfl ⟨rfl, trivial⟩ ⟨rfl, trivial⟩ rfl rfl ?_
  refine TL.nil ?_
  cases h
  exact endM [] 1 2 [0] rfl (.nil) rfl ⟨mem_at 0 rfl, trivial⟩ rfl rfl ⟨⟨_, mem_at 1 rfl⟩, trivial⟩ rfl
/- top_pubZone -/
def ev_top_pubZone_j1 (n : Nat) (l5 : List (Int × Int)) (i4 : Int) (i3 : Int) (l9 : List (Int × Int)) (i6 : Int) (l7 : List (Int × Int)) (i8 : Int) (k_top_pubZone_l0 : Int → Int → (List (Int × Int)) → Int → (List (Int × Int)) → Int → (List (Int × Int)) → Option (Int × (List (Int × Int)))) : Option (Int × (List (Int × Int))) :=
  idx l5 i4 fun x10 => chk (in64 x10.1) <| chk (in64 ((1 : Int) + x10.1)) <| chk (in64 (i3 + ((1 : Int) + x10.1))) <| chk (in64 x10.2) <| chk (in64 (x10.2 - 32768)) <| chk (room 16 (l9.length + ([((i3 + ((1 : Int) + x10.1)), (x10.2 - 32768))] : List (Int × Int)).length)) <| chk (in64 (i4 + 1)) <| k_top_pubZone_l0 (i3 + ((1 : Int) + x10.1)) (i4 + 1) l5 i6 l7 i8 (l9 ++ ([((i3 + ((1 : Int) + x10.1)), (x10.2 - 32768))] : List (Int × Int)))
set_option maxRecDepth 100000 in
set_option maxHeartbeats 2000000 in
theorem ok_top_pubZone_j1 {n : Nat} {w0 : World} {R0 : Nat → Prop} {env0 : Env} {r : Int × (List (Int × Int))} {l5 : List (Int × Int)} {i4 : Int} {i3 : Int} {l9 : List (Int × Int)} {i6 : Int} {l7 : List (Int × Int)} {i8 : Int} {k_top_pubZone_l0 : Int → Int → (List (Int × Int)) → Int → (List (Int × Int)) → Int → (List (Int × Int)) → Option (Int × (List (Int × Int)))} (hk_top_pubZone_l0 : ∀ (i3 : Int) (i4 : Int) (l5 : List (Int × Int)) (i6 : Int) (l7 : List (Int × Int)) (i8 : Int) (l9 : List (Int × Int)), k_top_pubZone_l0 i3 i4 l5 i6 l7 i8 l9 = some r → TC Try.prog ⟨w0, fun _ => False, R0⟩ 45 (bodyPost Try.prog Try.f54 (Post ⟨w0, fun _ => False, R0⟩ env0 (.agg [.val (.int .i64 r.1), .ref 0]) [.row 0 156 2 (List.map en_api_ZoneChange r.2)])) [.code (sub (bodyOf Try.f54) [1, 1, 0, 1, 0, 0, 0, 0]), .code (sub (bodyOf Try.f54) [1, 1, 0, 1, 0, 0, 0, 1]), .code (sub (bodyOf Try.f54) [1, 1, 0, 1, 0, 0, 1]), .inLoop (sub (bodyOf Try.f54) [1, 1, 0, 1, 0, 0]), .inBlock 0, .code (sub (bodyOf Try.f54) [1, 1, 1])] ([(1, .ref 0), (4, .ptr 1 0), (5, .ptr 2 0), (6, .val (.int .i64 i3)), (7, .val (.int .i64 i4))]) ([.ro 0 2 (List.map en_2_uint16 l5), .row 3 156 2 (List.map en_api_ZoneChange l7), .blk 1 [.val (.int .i64 i6), .ref 3] 153, .row 4 156 2 (List.map en_api_ZoneChange l9), .blk 2 [.val (.int .i64 i8), .ref 4] 153])) (h : ev_top_pubZone_j1 n l5 i4 i3 l9 i6 l7 i8 k_top_pubZone_l0 = some r) : TC Try.prog ⟨w0, fun _ => False, R0⟩ 45 (bodyPost Try.prog Try.f54 (Post ⟨w0, fun _ => False, R0⟩ env0 (.agg [.val (.int .i64 r.1), .ref 0]) [.row 0 156 2 (List.map en_api_ZoneChange r.2)])) [.code (sub (bodyOf Try.f54) [1, 1, 0, 1, 0, 0, 0, 1, 0]), .code (sub (bodyOf Try.f54) [1, 1, 0, 1, 0, 0, 1]), .inLoop (sub (bodyOf Try.f54) [1, 1, 0, 1, 0, 0]), .inBlock 0, .code (sub (bodyOf Try.f54) [1, 1, 1])] ([(1, .ref 0), (4, .ptr 1 0), (5, .ptr 2 0), (6, .val (.int .i64 i3)), (7, .val (.int .i64 i4))]) ([.ro 0 2 (List.map en_2_uint16 l5), .blk 1 [.val (.int .i64 i6), .ref 3] 153, .blk 2 [.val (.int .i64 i8), .ref 4] 153, .row 3 156 2 (List.map en_api_ZoneChange l7), .row 4 156 2 (List.map en_api_ZoneChange l9)]) := by
  rw [ev_top_pubZone_j1] at h
  refine TC.skip ?_
  refine TC.seq ?_
  refine TC.block ?_
  refine TC.seq ?_
  refine TC.region ?_
  refine op0 (sp_move rfl rfl) rfl trivial rfl rfl ?_
  refine op0 (sp_move rfl rfl) rfl trivial rfl rfl ?_
  refine op0 (sp_move rfl rfl) rfl trivial rfl rfl ?_
  obtain ⟨x10, h4, h5, h⟩ := idx_inv h
  refine op1 0 rfl (sp_indexS rfl rfl rfl isRo sl130 h4 (map_get _ h5)) rfl trivial rfl rfl ?_
  refine op1 0 rfl (sp_indexAR (q := (i4 : Int).toNat) (len := 2) (iv := 0) rfl rfl rfl isRo Try.underlying132 vt22 (by decide) (map_get _ h5) (fun h => nomatch h)) rfl trivial rfl rfl ?_
  refine op1 0 rfl (sp_loadR (i := (i4 : Int).toNat) (j := 0) rfl rfl isRo vt22 rfl (map_get _ h5) rfl (.v (.nil)) (nodup_of_B rfl)) rfl trivial rfl rfl ?_
  obtain ⟨h6, h⟩ := chk_inv h
  refine op0 (sp_conv rfl Try.underlying22 Try.underlying3 rfl h6) rfl trivial rfl rfl ?_
  obtain ⟨h7, h⟩ := chk_inv h
  refine op0 (sp_add rfl rfl rfl h7) rfl trivial rfl rfl ?_
  obtain ⟨h8, h⟩ := chk_inv h
  refine op0 (sp_add rfl rfl rfl h8) rfl trivial rfl rfl ?_
  refine op0 (sp_assign rfl rfl) rfl trivial rfl rfl ?_
  refine TL.nil ?_
  obtain ⟨h9, h⟩ := chk_inv h
  obtain ⟨h10, h⟩ := chk_inv h
  refine drawJ 12 [⟨.ptr 2 1, [], [.blk 2 [.val (.int .i64 i8), .ref 4] 153], []⟩, ⟨.ref 4, [], [.blk 2 [.val (.int .i64 i8), .ref 4] 153], []⟩, ⟨.val (.int .i64 (i3 + ((1 : Int) + x10.1))), [], [], []⟩, ⟨.ref 0, [], [], []⟩, ⟨.val (.int .i64 i4), [], [], []⟩, ⟨.cell 0 ((i4 : Int).toNat * 2), [], [.ro 0 2 (List.map en_2_uint16 l5)], []⟩, ⟨.cell 0 ((i4 : Int).toNat * 2 + 1), [], [.ro 0 2 (List.map en_2_uint16 l5)], []⟩, ⟨.val (.int .u16 x10.2), [], [.ro 0 2 (List.map en_2_uint16 l5)], []⟩, ⟨.val (.int .i64 x10.2), [], [], []⟩, ⟨.val (.int .i64 (x10.2 - 32768)), [], [], []⟩, ⟨.agg [.val (.int .i64 (i3 + ((1 : Int) + x10.1))), .val (.int .i64 (x10.2 - 32768))], [], [], []⟩, ⟨.ref 5, [.row 5 156 2 (List.map en_api_ZoneChange ([((i3 + ((1 : Int) + x10.1)), (x10.2 - 32768))] : List (Int × Int)))], [], []⟩] rfl ?_ rfl ?_ rfl ?_ ?_
  · kernel_rfl
  · kernel_rfl
  · exact DAll.op' (sp_fieldAddrB rfl isBlk rfl ft153_1 vt151 (by decide)) trivial rfl (From.ok (ps := [(none, 2)]) ⟨⟨rfl, rfl⟩, trivial⟩) (DAll.op' (sp_loadB rfl isBlk rfl vt151 rfl) trivial rfl (From.ok (ps := [(none, 2)]) ⟨⟨rfl, rfl⟩, trivial⟩) (DAll.op' (sp_move rfl rfl) trivial rfl (From.ok (ps := []) trivial) (DAll.op' (sp_move rfl rfl) trivial rfl (From.ok (ps := []) trivial) (DAll.op' (sp_move rfl rfl) trivial rfl (From.ok (ps := []) trivial) (DAll.op' (sp_indexS rfl rfl rfl isRo sl130 h4 (map_get _ h5)) trivial rfl (From.ok (ps := [(none, 0)]) ⟨⟨rfl, rfl⟩, trivial⟩) (DAll.op' (sp_indexAR (q := (i4 : Int).toNat) (len := 2) (iv := 1) rfl rfl rfl isRo Try.underlying132 vt22 (by decide) (map_get _ h5) (fun h => nomatch h)) trivial rfl (From.ok (ps := [(none, 0)]) ⟨⟨rfl, rfl⟩, trivial⟩) (DAll.op' (sp_loadR (i := (i4 : Int).toNat) (j := 1) rfl rfl isRo vt22 rfl (map_get _ h5) rfl (.v (.nil)) (nodup_of_B rfl)) trivial rfl (From.ok (ps := [(none, 0)]) ⟨⟨rfl, rfl⟩, trivial⟩) (DAll.op' (sp_conv rfl Try.underlying22 Try.underlying3 rfl h9) trivial rfl (From.ok (ps := []) trivial) (DAll.op' (sp_sub rfl rfl rfl h10) trivial rfl (From.ok (ps := []) trivial) (DAll.op' (sp_build (qs := [(0, .val (.int .i64 (i3 + ((1 : Int) + x10.1)))), (1, .val (.int .i64 (x10.2 - 32768)))]) rfl bt156 rfl rfl rfl rfl) trivial rfl (From.ok (ps := []) trivial) (DAll.op' (sp_buildSlice (qs := [.agg [.val (.int .i64 (i3 + ((1 : Int) + x10.1))), .val (.int .i64 (x10.2 - 32768))]]) (need := []) (els := List.map en_api_ZoneChange ([((i3 + ((1 : Int) + x10.1)), (x10.2 - 32768))] : List (Int × Int))) 5 rfl sl151 (by decide) (by decide) rfl rfl rfl (.v (.v (.nil))) (map_len fun _ => rfl) rfl rfl rfl) trivial rfl (From.ok (ps := []) trivial) (.nil))))))))))))
  obtain ⟨h11, h⟩ := chk_inv h
  refine appM 5 0 (N := l9.length) (N2 := ([((i3 + ((1 : Int) + x10.1)), (x10.2 - 32768))] : List (Int × Int)).length) 6 rfl rfl trivial rfl rfl rfl rfl rfl isOwn rfl sl151 (len_map _ _) (len_map _ _) h11 (map_app _ _ _) rfl ?_
  refine op1 4 rfl (sp_fieldAddrB rfl isBlk rfl ft153_1 vt151 (by decide)) rfl trivial rfl rfl ?_
  refine stoB 4 (cells' := [.val (.int .i64 i8), .ref 6]) rfl rfl trivial rfl rfl rfl rfl vt151 rfl rfl rfl ?_
  refine TL.nil ?_
  refine TC.inBlock ?_
  refine TC.region ?_
  refine op0 (sp_move rfl rfl) rfl trivial rfl rfl ?_
  obtain ⟨h12, h⟩ := chk_inv h
  refine op0 (sp_add rfl rfl rfl h12) rfl trivial rfl rfl ?_
  refine op0 (sp_assign rfl rfl) rfl trivial rfl rfl ?_
  refine TL.nil ?_
  refine TC.inLoop ?_
  refine TC.seq ?_
  refine TC.seq ?_
  refine subJ [(4, 6)] (hk_top_pubZone_l0 _ _ _ _ _ _ _ h) ?_ ?_ ?_
  · exact ⟨rfl, rfl, rfl, rfl, rfl, trivial⟩
  · exact ⟨mem_at 2 rfl, mem_at 5 rfl, mem_at 3 rfl, mem_at 0 rfl, mem_at 4 rfl, trivial⟩
  · rfl
def ev_top_pubZone_l0 (n : Nat) : Nat → Int → Int → (List (Int × Int)) → Int → (List (Int × Int)) → Int → (List (Int × Int)) → Option (Int × (List (Int × Int)))
  | 0, _, _, _, _, _, _, _ => none
  | m + 1, i3, i4, l5, i6, l7, i8, l9 => cond (decide (i4 < (l5.length : Int))) (cond (decide (i4 < 6)) (ev_top_pubZone_j1 n l5 i4 i3 l9 i6 l7 i8 (fun i3q i4q l5q i6q l7q i8q l9q => ev_top_pubZone_l0 n m i3q i4q l5q i6q l7q i8q l9q)) (some (i8, l9))) (some (i8, l9))
set_option maxRecDepth 100000 in
set_option maxHeartbeats 2000000 in
theorem ok_top_pubZone_l0 {n : Nat} {w0 : World} {R0 : Nat → Prop} {env0 : Env} {r : Int × (List (Int × Int))} : ∀ (m : Nat) (i3 : Int) (i4 : Int) (l5 : List (Int × Int)) (i6 : Int) (l7 : List (Int × Int)) (i8 : Int) (l9 : List (Int × Int)), ev_top_pubZone_l0 n m i3 i4 l5 i6 l7 i8 l9 = some r → TC Try.prog ⟨w0, fun _ => False, R0⟩ 45 (bodyPost Try.prog Try.f54 (Post ⟨w0, fun _ => False, R0⟩ env0 (.agg [.val (.int .i64 r.1), .ref 0]) [.row 0 156 2 (List.map en_api_ZoneChange r.2)])) [.code (sub (bodyOf Try.f54) [1, 1, 0, 1, 0, 0, 0, 0]), .code (sub (bodyOf Try.f54) [1, 1, 0, 1, 0, 0, 0, 1]), .code (sub (bodyOf Try.f54) [1, 1, 0, 1, 0, 0, 1]), .inLoop (sub (bodyOf Try.f54) [1, 1, 0, 1, 0, 0]), .inBlock 0, .code (sub (bodyOf Try.f54) [1, 1, 1])] ([(1, .ref 0), (4, .ptr 1 0), (5, .ptr 2 0), (6, .val (.int .i64 i3)), (7, .val (.int .i64 i4))]) ([.ro 0 2 (List.map en_2_uint16 l5), .row 3 156 2 (List.map en_api_ZoneChange l7), .blk 1 [.val (.int .i64 i6), .ref 3] 153, .row 4 156 2 (List.map en_api_ZoneChange l9), .blk 2 [.val (.int .i64 i8), .ref 4] 153]) := by
  intro m
  induction m with
  | zero => intro i3 i4 l5 i6 l7 i8 l9 h; exact none_no h
  | succ m ih =>
    intro i3 i4 l5 i6 l7 i8 l9 h
    rw [ev_top_pubZone_l0] at h
    refine TC.region ?_
    refine op0 (sp_move rfl rfl) rfl trivial rfl rfl ?_
    refine op0 (sp_move rfl rfl) rfl trivial rfl rfl ?_
    refine op1 0 rfl (sp_lenM (N := l5.length) (len_map _ _) rfl rfl isRo Try.underlying130) rfl trivial rfl rfl ?_
    refine op0 (sp_lss rfl rfl rfl) rfl trivial rfl rfl ?_
    refine op0 (sp_move rfl rfl) rfl trivial rfl rfl ?_
    rcases cond_cases h with ⟨h2, h⟩ | ⟨h2, h⟩
    · refine (boolLit 15 rfl h2).2 ?_
      refine op0 (sp_move rfl rfl) rfl ⟨_, rfl, rfl⟩ rfl rfl ?_
      refine op0 (sp_lss rfl rfl rfl) rfl ⟨_, rfl, rfl⟩ rfl rfl ?_
      refine op0 (sp_pickT rfl rfl rfl) rfl trivial rfl rfl ?_
      refine TL.nil ?_
      refine TC.cond (b := (decide (i4 < 6))) rfl (fun h3 => ?_) (fun h3 => ?_)
      · have h := cond_t h h3
        refine subJ [] (ok_top_pubZone_j1 ih h) ?_ ?_ ?_
        · exact ⟨rfl, rfl, rfl, rfl, rfl, trivial⟩
        · exact ⟨mem_at 0 rfl, mem_at 2 rfl, mem_at 4 rfl, mem_at 1 rfl, mem_at 3 rfl, trivial⟩
        · rfl
      · have h := cond_f h h3
        refine TC.exit rfl ?_
        refine TC.seq ?_
        refine TC.region ?_
        refine op1 4 rfl (sp_loadBA rfl isBlk rfl vt153 rfl rfl) rfl trivial rfl rfl ?_
        refine stoB 2 (cells' := [.val (.int .i64 i8), .ref 4]) rfl rfl trivial rfl rfl rfl rfl vt153 rfl rfl rfl ?_
        refine TL.nil ?_
        cases h
        exact retJ [(0, 4)] (.cells rfl (mem_at 2 rfl) isBlk vt153 rfl rfl (.nil)) rfl ⟨mem_at 3 rfl, trivial⟩ rfl rfl
    · refine (boolLit 15 rfl h2).2 ?_
      refine opSkip rfl ⟨_, rfl, .inl rfl⟩ rfl ?_
      refine opSkip rfl ⟨_, rfl, .inl rfl⟩ rfl ?_
      refine op0 (sp_pickF rfl rfl rfl) rfl trivial rfl rfl ?_
      refine TL.nil ?_
      refine TC.condF rfl ?_
      refine TC.exit rfl ?_
      refine TC.seq ?_
      refine TC.region ?_
      refine op1 4 rfl (sp_loadBA rfl isBlk rfl vt153 rfl rfl) rfl trivial rfl rfl ?_
      refine stoB 2 (cells' := [.val (.int .i64 i8), .ref 4]) rfl rfl trivial rfl rfl rfl rfl vt153 rfl rfl rfl ?_
      refine TL.nil ?_
      cases h
      exact retJ [(0, 4)] (.cells rfl (mem_at 2 rfl) isBlk vt153 rfl rfl (.nil)) rfl ⟨mem_at 3 rfl, trivial⟩ rfl rfl
def ev_top_pubZone (n : Nat) (offset1 : Int) (by_2 : List (Int × Int)) : Option (Int × (List (Int × Int))) :=
  chk (in64 offset1) <| ev_top_pubZone_l0 n n 0 0 by_2 0 ([] : List (Int × Int)) offset1 ([] : List (Int × Int))
set_option maxRecDepth 100000 in
set_option maxHeartbeats 2000000 in
theorem fc_top_pubZone {n : Nat} {offset1 : Int} {by_2 : List (Int × Int)} {r : Int × (List (Int × Int))} (h : ev_top_pubZone n offset1 by_2 = some r) : FC Try.prog 54 [.val (.int .i16 offset1), .ref 0] [.ro 0 2 (List.map en_2_uint16 by_2)] (.agg [.val (.int .i64 r.1), .ref 0]) [.row 0 156 2 (List.map en_api_ZoneChange r.2)] := by
  refine introJ (nz := 45) Try.func54 rfl rfl rfl (fun w0 R0 env0 => ?_)
  rw [ev_top_pubZone] at h
  refine TC.seq ?_
  refine TC.region ?_
  refine op0 (sp_alloc 1 rfl Try.zeroValue153 rfl) rfl trivial rfl rfl ?_
  refine TL.nil ?_
  refine TC.seq ?_
  refine TC.region ?_
  refine op0 (sp_move rfl rfl) rfl trivial rfl rfl ?_
  obtain ⟨h1, h⟩ := chk_inv h
  refine op0 (sp_conv rfl Try.underlying150 Try.underlying3 rfl h1) rfl trivial rfl rfl ?_
  refine op0 (sp_build (qs := [(0, .val (.int .i64 offset1))]) rfl bt153 rfl rfl rfl rfl) rfl trivial rfl rfl ?_
  refine op0 (sp_alloc 2 rfl Try.zeroValue153 rfl) rfl trivial rfl rfl ?_
  refine stoB 0 (cells' := [.val (.int .i64 offset1), .val (.slice none 0 0)]) rfl rfl trivial rfl rfl rfl rfl vt153 rfl rfl rfl ?_
  refine op0 (sp_assign rfl rfl) rfl trivial rfl rfl ?_
  refine TL.nil ?_
  refine TC.seq ?_
  refine TC.seq ?_
  refine TC.region ?_
  refine op0 (sp_assign rfl rfl) rfl trivial rfl rfl ?_
  refine TL.nil ?_
  refine TC.block ?_
  refine TC.loop ?_
  refine TC.seq ?_
  refine TC.seq ?_
  refine nilCellC 1 7 156 2 1 (List.map en_api_ZoneChange []) [.val (.int .i64 0), .ref 7] rfl rfl rfl ?_
  refine nilCellC 1 8 156 2 2 (List.map en_api_ZoneChange []) [.val (.int .i64 offset1), .ref 8] rfl rfl rfl ?_
  refine subJ [(3, 7), (4, 8)] (ok_top_pubZone_l0 _ _ _ _ _ _ _ _ h) ?_ ?_ ?_
  · exact ⟨rfl, rfl, rfl, rfl, rfl, trivial⟩
  · exact ⟨mem_at 4 rfl, mem_at 1 rfl, mem_at 3 rfl, mem_at 0 rfl, mem_at 2 rfl, trivial⟩
  · rfl
/- cmp_isNaN_int -/
def ev_cmp_isNaN_int (n : Nat) (x1 : Int) : Option Bool :=
  some (x1 != x1)
set_option maxRecDepth 100000 in
set_option maxHeartbeats 2000000 in
theorem fc_cmp_isNaN_int {n : Nat} {x1 : Int} {r : Bool} (h : ev_cmp_isNaN_int n x1 = some r) : FC Try.prog 311 [.val (.int .i64 x1)] [] (.val (.bool r)) [] := by
  refine introJ (nz := 6) Try.func311 rfl rfl rfl (fun w0 R0 env0 => ?_)
  rw [ev_cmp_isNaN_int] at h
  refine TC.seq ?_
  refine TC.region ?_
  refine op0 (sp_assign rfl rfl) rfl trivial rfl rfl ?_
  refine TL.nil ?_
  refine TC.seq ?_
  refine TC.region ?_
  refine op0 (sp_move rfl rfl) rfl trivial rfl rfl ?_
  refine op0 (sp_move rfl rfl) rfl trivial rfl rfl ?_
  refine op0 (sp_neq rfl rfl rfl) rfl trivial rfl rfl ?_
  refine op0 (sp_assign rfl rfl) rfl trivial rfl rfl ?_
  refine TL.nil ?_
  cases h
  exact retJ [] (.tmp rfl .nil) rfl trivial rfl rfl
/- cmp_Less_int -/
def ev_cmp_Less_int (n : Nat) (x1 : Int) (y2 : Int) : Option Bool :=
  (ev_cmp_isNaN_int n x1).bind fun r3 => cond r3 ((ev_cmp_isNaN_int n y2).bind fun r4 => cond (!r4) (some true) (some (decide (x1 < y2)))) (some (decide (x1 < y2)))
set_option maxRecDepth 100000 in
set_option maxHeartbeats 2000000 in
theorem fc_cmp_Less_int {n : Nat} {x1 : Int} {y2 : Int} {r : Bool} (h : ev_cmp_Less_int n x1 y2 = some r) : FC Try.prog 308 [.val (.int .i64 x1), .val (.int .i64 y2)] [] (.val (.bool r)) [] := by
  refine introJ (nz := 17) Try.func308 rfl rfl rfl (fun w0 R0 env0 => ?_)
  rw [ev_cmp_Less_int] at h
  refine TC.seq ?_
  refine TC.region ?_
  refine op0 (sp_assign rfl rfl) rfl trivial rfl rfl ?_
  refine TL.nil ?_
  refine TC.seq ?_
  refine TC.region ?_
  refine op0 (sp_move rfl rfl) rfl trivial rfl rfl ?_
  obtain ⟨r3, h1, h⟩ := bind_inv h
  refine op0 (sp_call (avs := [.val (.int .i64 x1)]) (need := []) (v := .val (.bool r3)) (news := []) rfl rfl rfl Try.call311 (atJ [] [] (fc_cmp_isNaN_int h1) rfl rfl) (.inl (roAll rfl))) rfl trivial rfl rfl ?_
  refine op0 (sp_move rfl rfl) rfl trivial rfl rfl ?_
  rcases cond_cases h with ⟨h2, h⟩ | ⟨h2, h⟩
  · refine (boolLit 7 rfl h2).2 ?_
    refine op0 (sp_move rfl rfl) rfl ⟨_, rfl, rfl⟩ rfl rfl ?_
    obtain ⟨r4, h3, h⟩ := bind_inv h
    refine op0 (sp_call (avs := [.val (.int .i64 y2)]) (need := []) (v := .val (.bool r4)) (news := []) rfl rfl rfl Try.call311 (atJ [] [] (fc_cmp_isNaN_int h3) rfl rfl) (.inl (roAll rfl))) rfl ⟨_, rfl, rfl⟩ rfl rfl ?_
    refine op0 (sp_not rfl rfl) rfl ⟨_, rfl, rfl⟩ rfl rfl ?_
    refine op0 (sp_pickT rfl rfl rfl) rfl trivial rfl rfl ?_
    refine op0 (sp_move rfl rfl) rfl trivial rfl rfl ?_
    rcases cond_cases h with ⟨h4, h⟩ | ⟨h4, h⟩
    · refine (boolLit 12 rfl h4).2 ?_
      refine opSkip rfl ⟨_, rfl, .inl rfl⟩ rfl ?_
      refine opSkip rfl ⟨_, rfl, .inl rfl⟩ rfl ?_
      refine opSkip rfl ⟨_, rfl, .inl rfl⟩ rfl ?_
      refine op0 (sp_pickT rfl rfl rfl) rfl trivial rfl rfl ?_
      refine op0 (sp_assign rfl rfl) rfl trivial rfl rfl ?_
      refine TL.nil ?_
      cases h
      exact retJ [] (.tmp rfl .nil) rfl trivial rfl rfl
    · refine (boolLit 12 rfl h4).2 ?_
      refine op0 (sp_move rfl rfl) rfl ⟨_, rfl, rfl⟩ rfl rfl ?_
      refine op0 (sp_move rfl rfl) rfl ⟨_, rfl, rfl⟩ rfl rfl ?_
      refine op0 (sp_lss rfl rfl rfl) rfl ⟨_, rfl, rfl⟩ rfl rfl ?_
      refine op0 (sp_pickF rfl rfl rfl) rfl trivial rfl rfl ?_
      refine op0 (sp_assign rfl rfl) rfl trivial rfl rfl ?_
      refine TL.nil ?_
      cases h
      exact retJ [] (.tmp rfl .nil) rfl trivial rfl rfl
  · refine (boolLit 7 rfl h2).2 ?_
    refine opSkip rfl ⟨_, rfl, .inl rfl⟩ rfl ?_
    refine opSkip rfl ⟨_, rfl, .inl rfl⟩ rfl ?_
    refine opSkip rfl ⟨_, rfl, .inl rfl⟩ rfl ?_
    refine op0 (sp_pickF rfl rfl rfl) rfl trivial rfl rfl ?_
    refine op0 (sp_move rfl rfl) rfl trivial rfl rfl ?_
    refine op0 (sp_move rfl rfl) rfl ⟨_, rfl, rfl⟩ rfl rfl ?_
    refine op0 (sp_move rfl rfl) rfl ⟨_, rfl, rfl⟩ rfl rfl ?_
    refine op0 (sp_lss rfl rfl rfl) rfl ⟨_, rfl, rfl⟩ rfl rfl ?_
    refine op0 (sp_pickF rfl rfl rfl) rfl trivial rfl rfl ?_
    refine op0 (sp_assign rfl rfl) rfl trivial rfl rfl ?_
    refine TL.nil ?_
    cases h
    exact retJ [] (.tmp rfl .nil) rfl trivial rfl rfl
/- slices_insertionSortOrdered_int -/
def ev_slices_insertionSortOrdered_int_l1 (n : Nat) (a2 : Int) (i4 : Int) (k_slices_insertionSortOrdered_int_l0 : Int → (List Int) → Option ((List Int))) : Nat → Int → (List Int) → Option ((List Int))
  | 0, _, _ => none
  | m + 1, i6, l7 => cond (decide (a2 < i6)) (idx l7 i6 fun x8 => chk (in64 (i6 - 1)) <| idx l7 (i6 - 1) fun x9 => (ev_cmp_Less_int n x8 x9).bind fun r10 => cond r10 (chk (in64 (i6 - 1)) <| chk (in64 (i6 - 1)) <| idx (List.set l7 (i6 : Int).toNat x9) (i6 - 1) fun x11 => chk (in64 (i6 - 1)) <| ev_slices_insertionSortOrdered_int_l1 n a2 i4 k_slices_insertionSortOrdered_int_l0 m (i6 - 1) (List.set (List.set l7 (i6 : Int).toNat x9) ((i6 - 1) : Int).toNat x8)) (chk (in64 (i4 + 1)) <| k_slices_insertionSortOrdered_int_l0 (i4 + 1) l7)) (chk (in64 (i4 + 1)) <| k_slices_insertionSortOrdered_int_l0 (i4 + 1) l7)
set_option maxRecDepth 100000 in
set_option maxHeartbeats 2000000 in
theorem ok_slices_insertionSortOrdered_int_l1 {n : Nat} {w0 : World} {M0 R0 : Nat → Prop} {env0 : Env} {df : List Deferred} {r : (List Int)} {a2 : Int} {b3 : Int} {i4 : Int} {k_slices_insertionSortOrdered_int_l0 : Int → (List Int) → Option ((List Int))} (hk_slices_insertionSortOrdered_int_l0 : ∀ (i4 : Int) (l5 : List Int), k_slices_insertionSortOrdered_int_l0 i4 l5 = some r → TC Try.prog ⟨w0, M0, R0⟩ ⟨49, none, df⟩ (bodyPostM Fence.wide 0 Try.prog Try.f302 (PostT ⟨w0, M0, R0⟩ env0 [0] (.tup []) [.row 0 3 1 (List.map en_int r)])) [.code (sub (bodyOf Try.f302) [1, 0, 0, 0, 0]), .code (sub (bodyOf Try.f302) [1, 0, 0, 0, 1]), .code (sub (bodyOf Try.f302) [1, 0, 0, 1]), .inLoop (sub (bodyOf Try.f302) [1, 0, 0]), .inBlock 0] ([(0, .ref 0), (1, .val (.int .i64 a2)), (2, .val (.int .i64 b3)), (6, .val (.int .i64 i4))]) ([.row 0 3 1 (List.map en_int l5), .inv 1 (marksI df), .pin 2 0 (env0 0)])) : ∀ (m : Nat) (i6 : Int) (l7 : List Int), ev_slices_insertionSortOrdered_int_l1 n a2 i4 k_slices_insertionSortOrdered_int_l0 m i6 l7 = some r → TC Try.prog ⟨w0, M0, R0⟩ ⟨49, none, df⟩ (bodyPostM Fence.wide 0 Try.prog Try.f302 (PostT ⟨w0, M0, R0⟩ env0 [0] (.tup []) [.row 0 3 1 (List.map en_int r)])) [.code (sub (bodyOf Try.f302) [1, 0, 0, 1, 0, 0, 1, 0, 0, 0, 0]), .code (sub (bodyOf Try.f302) [1, 0, 0, 1, 0, 0, 1, 0, 0, 0, 1]), .code (sub (bodyOf Try.f302) [1, 0, 0, 1, 0, 0, 1, 0, 0, 1]), .inLoop (sub (bodyOf Try.f302) [1, 0, 0, 1, 0, 0, 1, 0, 0]), .inBlock 2, .inBlock 1, .code (sub (bodyOf Try.f302) [1, 0, 0, 1, 1]), .inLoop (sub (bodyOf Try.f302) [1, 0, 0]), .inBlock 0] ([(0, .ref 0), (1, .val (.int .i64 a2)), (2, .val (.int .i64 b3)), (6, .val (.int .i64 i4)), (7, .val (.int .i64 i6))]) ([.row 0 3 1 (List.map en_int l7), .inv 1 (marksI df), .pin 2 0 (env0 0)]) := by
  intro m
  induction m with
  | zero => intro i6 l7 h; exact none_no h
  | succ m ih =>
    intro i6 l7 h
    rw [ev_slices_insertionSortOrdered_int_l1] at h
    rcases cond_cases h with ⟨h3, h⟩ | ⟨h3, h⟩
    · obtain ⟨x8, h4, h5, h⟩ := idx_inv h
      obtain ⟨h6, h⟩ := chk_inv h
      obtain ⟨x9, h7, h8, h⟩ := idx_inv h
      refine drawJ 13 [⟨.val (.int .i64 i6), [], [], []⟩, ⟨.val (.int .i64 a2), [], [], []⟩, ⟨.val (.bool (decide (a2 < i6))), [], [], []⟩, ⟨.val (.bool true), [], [], []⟩, ⟨.ref 0, [], [], []⟩, ⟨.val (.int .i64 i6), [], [], []⟩, ⟨.cell 0 ((i6 : Int).toNat * 1), [], [.row 0 3 1 (List.map en_int l7)], []⟩, ⟨.val (.int .i64 x8), [], [.row 0 3 1 (List.map en_int l7)], []⟩, ⟨.ref 0, [], [], []⟩, ⟨.val (.int .i64 i6), [], [], []⟩, ⟨.val (.int .i64 (i6 - 1)), [], [], []⟩, ⟨.cell 0 (((i6 - 1) : Int).toNat * 1), [], [.row 0 3 1 (List.map en_int l7)], []⟩, ⟨.val (.int .i64 x9), [], [.row 0 3 1 (List.map en_int l7)], []⟩] rfl ?_ rfl ?_ rfl ?_ ?_
      · kernel_rfl
      · kernel_rfl
      · exact DAll.op' (sp_move rfl rfl) trivial rfl (From.ok (ps := []) trivial) (DAll.op' (sp_move rfl rfl) trivial rfl (From.ok (ps := []) trivial) (DAll.op' (sp_gtr rfl rfl rfl) trivial rfl (From.ok (ps := []) trivial) (DAll.op' (sp_castB h3 (sp_move rfl rfl)) trivial rfl (From.ok (ps := []) trivial) (DAll.op' (sp_move rfl rfl) ⟨_, rfl, rfl⟩ rfl (From.ok (ps := []) trivial) (DAll.op' (sp_move rfl rfl) ⟨_, rfl, rfl⟩ rfl (From.ok (ps := []) trivial) (DAll.op' (sp_indexS rfl rfl rfl isOwn sl37 h4 (map_get _ h5)) ⟨_, rfl, rfl⟩ rfl (From.ok (ps := [(none, 0)]) ⟨⟨rfl, rfl⟩, trivial⟩) (DAll.op' (sp_loadR (i := (i6 : Int).toNat) (j := 0) rfl rfl isOwn vt3 rfl (map_get _ h5) rfl (.v (.nil)) (nodup_of_B rfl)) ⟨_, rfl, rfl⟩ rfl (From.ok (ps := [(none, 0)]) ⟨⟨rfl, rfl⟩, trivial⟩) (DAll.op' (sp_move rfl rfl) ⟨_, rfl, rfl⟩ rfl (From.ok (ps := []) trivial) (DAll.op' (sp_move rfl rfl) ⟨_, rfl, rfl⟩ rfl (From.ok (ps := []) trivial) (DAll.op' (sp_sub rfl rfl rfl h6) ⟨_, rfl, rfl⟩ rfl (From.ok (ps := []) trivial) (DAll.op' (sp_indexS rfl rfl rfl isOwn sl37 h7 (map_get _ h8)) ⟨_, rfl, rfl⟩ rfl (From.ok (ps := [(none, 0)]) ⟨⟨rfl, rfl⟩, trivial⟩) (DAll.op' (sp_loadR (i := ((i6 - 1) : Int).toNat) (j := 0) rfl rfl isOwn vt3 rfl (map_get _ h8) rfl (.v (.nil)) (nodup_of_B rfl)) ⟨_, rfl, rfl⟩ rfl (From.ok (ps := [(none, 0)]) ⟨⟨rfl, rfl⟩, trivial⟩) (.nil)))))))))))))
      obtain ⟨r10, h9, h⟩ := bind_inv h
      refine op0 (sp_call (avs := [.val (.int .i64 x8), .val (.int .i64 x9)]) (need := []) (v := .val (.bool r10)) (news := []) rfl rfl rfl Try.call308 (atJ [] [] (fc_cmp_Less_int h9) rfl rfl) (.inl (roAll rfl))) rfl ⟨_, rfl, rfl⟩ rfl rfl ?_
      refine op0 (sp_pickT rfl rfl rfl) rfl trivial rfl rfl ?_
      refine TL.nil ?_
      refine TC.cond (b := r10) rfl (fun h10 => ?_) (fun h10 => ?_)
      · have h := cond_t h h10
        refine TC.skip ?_
        refine TC.seq ?_
        refine TC.block ?_
        obtain ⟨h11, h⟩ := chk_inv h
        obtain ⟨h12, h⟩ := chk_inv h
        refine drawJ 16 [⟨.ref 0, [], [], []⟩, ⟨.val (.int .i64 i6), [], [], []⟩, ⟨.ref 0, [], [], []⟩, ⟨.val (.int .i64 i6), [], [], []⟩, ⟨.val (.int .i64 (i6 - 1)), [], [], []⟩, ⟨.ref 0, [], [], []⟩, ⟨.val (.int .i64 i6), [], [], []⟩, ⟨.val (.int .i64 (i6 - 1)), [], [], []⟩, ⟨.cell 0 (((i6 - 1) : Int).toNat * 1), [], [.row 0 3 1 (List.map en_int l7)], []⟩, ⟨.val (.int .i64 x9), [], [.row 0 3 1 (List.map en_int l7)], []⟩, ⟨.ref 0, [], [], []⟩, ⟨.val (.int .i64 i6), [], [], []⟩, ⟨.cell 0 ((i6 : Int).toNat * 1), [], [.row 0 3 1 (List.map en_int l7)], []⟩, ⟨.val (.int .i64 x8), [], [.row 0 3 1 (List.map en_int l7)], []⟩, ⟨.cell 0 ((i6 : Int).toNat * 1), [], [.row 0 3 1 (List.map en_int l7)], []⟩, ⟨.val (undef), [.row 0 3 1 (List.map en_int (List.set l7 (i6 : Int).toNat x9))], [], [.row 0 3 1 (List.map en_int l7)]⟩] rfl ?_ rfl ?_ rfl ?_ ?_
        · kernel_rfl
        · kernel_rfl
        · exact DAll.op' (sp_move rfl rfl) trivial rfl (From.ok (ps := []) trivial) (DAll.op' (sp_move rfl rfl) trivial rfl (From.ok (ps := []) trivial) (DAll.op' (sp_move rfl rfl) trivial rfl (From.ok (ps := []) trivial) (DAll.op' (sp_move rfl rfl) trivial rfl (From.ok (ps := []) trivial) (DAll.op' (sp_sub rfl rfl rfl h11) trivial rfl (From.ok (ps := []) trivial) (DAll.op' (sp_move rfl rfl) trivial rfl (From.ok (ps := []) trivial) (DAll.op' (sp_move rfl rfl) trivial rfl (From.ok (ps := []) trivial) (DAll.op' (sp_sub rfl rfl rfl h12) trivial rfl (From.ok (ps := []) trivial) (DAll.op' (sp_indexS rfl rfl rfl isOwn sl37 h7 (map_get _ h8)) trivial rfl (From.ok (ps := [(none, 0)]) ⟨⟨rfl, by kernel_rfl⟩, trivial⟩) (DAll.op' (sp_loadR (i := ((i6 - 1) : Int).toNat) (j := 0) rfl rfl isOwn vt3 rfl (map_get _ h8) rfl (.v (.nil)) (nodup_of_B rfl)) trivial rfl (From.ok (ps := [(none, 0)]) ⟨⟨rfl, by kernel_rfl⟩, trivial⟩) (DAll.op' (sp_move rfl rfl) trivial rfl (From.ok (ps := []) trivial) (DAll.op' (sp_move rfl rfl) trivial rfl (From.ok (ps := []) trivial) (DAll.op' (sp_indexS rfl rfl rfl isOwn sl37 h4 (map_get _ h5)) trivial rfl (From.ok (ps := [(none, 0)]) ⟨⟨rfl, by kernel_rfl⟩, trivial⟩) (DAll.op' (sp_loadR (i := (i6 : Int).toNat) (j := 0) rfl rfl isOwn vt3 rfl (map_get _ h5) rfl (.v (.nil)) (nodup_of_B rfl)) trivial rfl (From.ok (ps := [(none, 0)]) ⟨⟨rfl, by kernel_rfl⟩, trivial⟩) (DAll.op' (sp_indexS rfl rfl rfl isOwn sl37 h4 (map_get _ h5)) trivial rfl (From.ok (ps := [(none, 0)]) ⟨⟨rfl, by kernel_rfl⟩, trivial⟩) (DAll.opT (ts_storeR ((i6 : Int).toNat) 0 rfl rfl rfl rfl vt3 rfl rfl (map_get _ h5) rfl rfl (.v (.nil)) (map_set l7 en_int ((i6 : Int).toNat) x9)) trivial (From.ok (ps := [(none, 0)]) ⟨⟨rfl, by kernel_rfl⟩, trivial⟩) (From.ok (ps := []) trivial) (.nil))))))))))))))))
        obtain ⟨x11, h13, h14, h⟩ := idx_inv h
        refine op1 0 rfl (sp_indexS rfl rfl rfl isOwn sl37 h13 (map_get _ h14)) rfl trivial rfl rfl ?_
        refine stoR 0 (((i6 - 1) : Int).toNat) 0 (need := []) [] rfl rfl trivial rfl rfl rfl rfl vt3 rfl rfl (map_get _ h14) rfl rfl trivial (.v (.nil)) (map_set (List.set l7 (i6 : Int).toNat x9) en_int (((i6 - 1) : Int).toNat) x8) ?_
        refine TL.nil ?_
        refine TC.inBlock ?_
        refine TC.region ?_
        refine op0 (sp_move rfl rfl) rfl trivial rfl rfl ?_
        obtain ⟨h15, h⟩ := chk_inv h
        refine op0 (sp_sub rfl rfl rfl h15) rfl trivial rfl rfl ?_
        refine op0 (sp_assign rfl rfl) rfl trivial rfl rfl ?_
        refine TL.nil ?_
        refine TC.inLoop ?_
        refine TC.seq ?_
        refine TC.seq ?_
        refine subJ [] (ih _ _ h) ?_ ?_ ?_
        · exact ⟨rfl, rfl, rfl, rfl, rfl, trivial⟩
        · exact ⟨mem_at 0 rfl, mem_at 1 rfl, mem_at 2 rfl, trivial⟩
        · rfl
      · have h := cond_f h h10
        refine TC.exit rfl ?_
        refine TC.inBlock ?_
        refine TC.region ?_
        refine op0 (sp_move rfl rfl) rfl trivial rfl rfl ?_
        obtain ⟨h16, h⟩ := chk_inv h
        refine op0 (sp_add rfl rfl rfl h16) rfl trivial rfl rfl ?_
        refine op0 (sp_assign rfl rfl) rfl trivial rfl rfl ?_
        refine TL.nil ?_
        refine TC.inLoop ?_
        refine TC.seq ?_
        refine TC.seq ?_
        refine subJ [] (hk_slices_insertionSortOrdered_int_l0 _ _ h) ?_ ?_ ?_
        · exact ⟨rfl, rfl, rfl, rfl, trivial⟩
        · exact ⟨mem_at 0 rfl, mem_at 1 rfl, mem_at 2 rfl, trivial⟩
        · rfl
    · refine drawJ 13 [⟨.val (.int .i64 i6), [], [], []⟩, ⟨.val (.int .i64 a2), [], [], []⟩, ⟨.val (.bool (decide (a2 < i6))), [], [], []⟩, ⟨.val (.bool false), [], [], []⟩, ⟨.val (undef), [], [], []⟩, ⟨.val (undef), [], [], []⟩, ⟨.val (undef), [], [], []⟩, ⟨.val (undef), [], [], []⟩, ⟨.val (undef), [], [], []⟩, ⟨.val (undef), [], [], []⟩, ⟨.val (undef), [], [], []⟩, ⟨.val (undef), [], [], []⟩, ⟨.val (undef), [], [], []⟩] rfl ?_ rfl ?_ rfl ?_ ?_
      · kernel_rfl
      · kernel_rfl
      · exact DAll.op' (sp_move rfl rfl) trivial rfl (From.ok (ps := []) trivial) (DAll.op' (sp_move rfl rfl) trivial rfl (From.ok (ps := []) trivial) (DAll.op' (sp_gtr rfl rfl rfl) trivial rfl (From.ok (ps := []) trivial) (DAll.op' (sp_castB h3 (sp_move rfl rfl)) trivial rfl (From.ok (ps := []) trivial) (.skip ⟨_, rfl, .inl rfl⟩ rfl rfl rfl (.skip ⟨_, rfl, .inl rfl⟩ rfl rfl rfl (.skip ⟨_, rfl, .inl rfl⟩ rfl rfl rfl (.skip ⟨_, rfl, .inl rfl⟩ rfl rfl rfl (.skip ⟨_, rfl, .inl rfl⟩ rfl rfl rfl (.skip ⟨_, rfl, .inl rfl⟩ rfl rfl rfl (.skip ⟨_, rfl, .inl rfl⟩ rfl rfl rfl (.skip ⟨_, rfl, .inl rfl⟩ rfl rfl rfl (.skip ⟨_, rfl, .inl rfl⟩ rfl rfl rfl (.nil)))))))))))))
      refine opSkip rfl ⟨_, rfl, .inl rfl⟩ rfl ?_
      refine op0 (sp_pickF rfl rfl rfl) rfl trivial rfl rfl ?_
      refine TL.nil ?_
      refine TC.condF rfl ?_
      refine TC.exit rfl ?_
      refine TC.inBlock ?_
      refine TC.region ?_
      refine op0 (sp_move rfl rfl) rfl trivial rfl rfl ?_
      obtain ⟨h17, h⟩ := chk_inv h
      refine op0 (sp_add rfl rfl rfl h17) rfl trivial rfl rfl ?_
      refine op0 (sp_assign rfl rfl) rfl trivial rfl rfl ?_
      refine TL.nil ?_
      refine TC.inLoop ?_
      refine TC.seq ?_
      refine TC.seq ?_
      refine subJ [] (hk_slices_insertionSortOrdered_int_l0 _ _ h) ?_ ?_ ?_
      · exact ⟨rfl, rfl, rfl, rfl, trivial⟩
      · exact ⟨mem_at 0 rfl, mem_at 1 rfl, mem_at 2 rfl, trivial⟩
      · rfl
def ev_slices_insertionSortOrdered_int_l0 (n : Nat) (b3 : Int) (a2 : Int) : Nat → Int → (List Int) → Option ((List Int))
  | 0, _, _ => none
  | m + 1, i4, l5 => cond (decide (i4 < b3)) (ev_slices_insertionSortOrdered_int_l1 n a2 i4 (fun i4q l5q => ev_slices_insertionSortOrdered_int_l0 n b3 a2 m i4q l5q) n i4 l5) (some l5)
set_option maxRecDepth 100000 in
set_option maxHeartbeats 2000000 in
theorem ok_slices_insertionSortOrdered_int_l0 {n : Nat} {w0 : World} {M0 R0 : Nat → Prop} {env0 : Env} {df : List Deferred} {r : (List Int)} {a2 : Int} {b3 : Int} : ∀ (m : Nat) (i4 : Int) (l5 : List Int), ev_slices_insertionSortOrdered_int_l0 n b3 a2 m i4 l5 = some r → TC Try.prog ⟨w0, M0, R0⟩ ⟨49, none, df⟩ (bodyPostM Fence.wide 0 Try.prog Try.f302 (PostT ⟨w0, M0, R0⟩ env0 [0] (.tup []) [.row 0 3 1 (List.map en_int r)])) [.code (sub (bodyOf Try.f302) [1, 0, 0, 0, 0]), .code (sub (bodyOf Try.f302) [1, 0, 0, 0, 1]), .code (sub (bodyOf Try.f302) [1, 0, 0, 1]), .inLoop (sub (bodyOf Try.f302) [1, 0, 0]), .inBlock 0] ([(0, .ref 0), (1, .val (.int .i64 a2)), (2, .val (.int .i64 b3)), (6, .val (.int .i64 i4))]) ([.row 0 3 1 (List.map en_int l5), .inv 1 (marksI df), .pin 2 0 (env0 0)]) := by
  intro m
  induction m with
  | zero => intro i4 l5 h; exact none_no h
  | succ m ih =>
    intro i4 l5 h
    rw [ev_slices_insertionSortOrdered_int_l0] at h
    refine TC.region ?_
    refine op0 (sp_move rfl rfl) rfl trivial rfl rfl ?_
    refine op0 (sp_move rfl rfl) rfl trivial rfl rfl ?_
    refine op0 (sp_lss rfl rfl rfl) rfl trivial rfl rfl ?_
    refine TL.nil ?_
    refine TC.cond (b := (decide (i4 < b3))) rfl (fun h2 => ?_) (fun h2 => ?_)
    · have h := cond_t h h2
      refine TC.skip ?_
      refine TC.seq ?_
      refine TC.block ?_
      refine TC.seq ?_
      refine TC.region ?_
      refine op0 (sp_move rfl rfl) rfl trivial rfl rfl ?_
      refine op0 (sp_assign rfl rfl) rfl trivial rfl rfl ?_
      refine TL.nil ?_
      refine TC.block ?_
      refine TC.loop ?_
      refine TC.seq ?_
      refine TC.seq ?_
      refine subJ [] (ok_slices_insertionSortOrdered_int_l1 (b3 := b3) ih _ _ _ h) ?_ ?_ ?_
      · exact ⟨rfl, rfl, rfl, rfl, rfl, trivial⟩
      · exact ⟨mem_at 0 rfl, mem_at 1 rfl, mem_at 2 rfl, trivial⟩
      · rfl
    · have h := cond_f h h2
      refine TC.exit rfl ?_
      cases h
      exact endM [] 1 1 [0] rfl (.nil) rfl ⟨mem_at 0 rfl, trivial⟩ rfl rfl ⟨⟨_, mem_at 1 rfl⟩, trivial⟩ rfl
def ev_slices_insertionSortOrdered_int (n : Nat) (data1 : List Int) (a2 : Int) (b3 : Int) : Option ((List Int)) :=
  chk (in64 (a2 + 1)) <| ev_slices_insertionSortOrdered_int_l0 n b3 a2 n (a2 + 1) data1
set_option maxRecDepth 100000 in
set_option maxHeartbeats 2000000 in
theorem ft_slices_insertionSortOrdered_int {n : Nat} {data1 : List Int} {a2 : Int} {b3 : Int} {r : (List Int)} (h : ev_slices_insertionSortOrdered_int n data1 a2 b3 = some r) : FT Try.prog 302 [.ref 0, .val (.int .i64 a2), .val (.int .i64 b3)] [.row 0 3 1 (List.map en_int data1)] [] (.tup []) [.row 0 3 1 (List.map en_int r)] := by
  refine introM (nz := 49) 1 [(2, 0)] Try.func302 rfl rfl rfl rfl (fun w0 M0 R0 env0 => ?_)
  rw [ev_slices_insertionSortOrdered_int] at h
  refine TC.seq ?_
  refine TC.region ?_
  refine op0 (sp_move rfl rfl) rfl trivial rfl rfl ?_
  obtain ⟨h1, h⟩ := chk_inv h
  refine op0 (sp_add rfl rfl rfl h1) rfl trivial rfl rfl ?_
  refine op0 (sp_assign rfl rfl) rfl trivial rfl rfl ?_
  refine TL.nil ?_
  refine TC.block ?_
  refine TC.loop ?_
  refine TC.seq ?_
  refine TC.seq ?_
  refine subJ [] (ok_slices_insertionSortOrdered_int_l0 _ _ _ h) ?_ ?_ ?_
  · exact ⟨rfl, rfl, rfl, rfl, trivial⟩
  · exact ⟨mem_at 2 rfl, mem_at 0 rfl, mem_at 1 rfl, trivial⟩
  · rfl
/- slices_pdqsortOrdered_int -/
def ev_slices_pdqsortOrdered_int_j1 (n : Nat) (i12 : Int) : Option ((List Int)) :=
  none
set_option maxRecDepth 100000 in
set_option maxHeartbeats 2000000 in
theorem ok_slices_pdqsortOrdered_int_j1 {n : Nat} {w0 : World} {M0 R0 : Nat → Prop} {env0 : Env} {df : List Deferred} {r : (List Int)} {i5 : Int} {i6 : Int} {b8 : Bool} {b9 : Bool} {l10 : List Int} {i12 : Int} (h : ev_slices_pdqsortOrdered_int_j1 n i12 = some r) : TC Try.prog ⟨w0, M0, R0⟩ ⟨134, none, df⟩ (bodyPostM Fence.wide 0 Try.prog Try.f274 (PostT ⟨w0, M0, R0⟩ env0 [0] (.tup []) [.row 0 3 1 (List.map en_int r)])) [.code (sub (bodyOf Try.f274) [1, 1, 0, 0, 0, 1, 1, 1, 1, 0]), .code (sub (bodyOf Try.f274) [1, 1, 0, 0, 0, 1, 1, 1, 1, 1]), .inBlock 1, .inLoop (sub (bodyOf Try.f274) [1, 1, 0, 0]), .inBlock 0] ([(0, .ref 0), (1, .val (.int .i64 i5)), (2, .val (.int .i64 i6)), (3, .val (.int .i64 i12)), (8, .val (.bool b8)), (9, .val (.bool b9)), (10, .val (.int .i64 (i6 - i5)))]) ([.row 0 3 1 (List.map en_int l10), .inv 1 (marksI df), .pin 2 0 (env0 0)]) := by
  rw [ev_slices_pdqsortOrdered_int_j1] at h
  refine TC.region ?_
  refine op0 (sp_move rfl rfl) rfl trivial rfl rfl ?_
  refine op0 (sp_move rfl rfl) rfl trivial rfl rfl ?_
  refine op0 (sp_move rfl rfl) rfl trivial rfl rfl ?_
  exact none_no h
def ev_slices_pdqsortOrdered_int_l0 (n : Nat) : Nat → Int → Int → Int → Bool → Bool → (List Int) → Option ((List Int))
  | 0, _, _, _, _, _, _ => none
  | m + 1, i5, i6, i7, b8, b9, l10 => chk (in64 (i6 - i5)) <| cond (decide ((i6 - i5) ≤ 12)) ((ev_slices_insertionSortOrdered_int n l10 i5 i6).bind fun r11 => some r11) (cond (i7 == 0) (none) (cond (!b8) (none) (ev_slices_pdqsortOrdered_int_j1 n i7)))
set_option maxRecDepth 100000 in
set_option maxHeartbeats 2000000 in
theorem ok_slices_pdqsortOrdered_int_l0 {n : Nat} {w0 : World} {M0 R0 : Nat → Prop} {env0 : Env} {df : List Deferred} {r : (List Int)} : ∀ (m : Nat) (i5 : Int) (i6 : Int) (i7 : Int) (b8 : Bool) (b9 : Bool) (l10 : List Int), ev_slices_pdqsortOrdered_int_l0 n m i5 i6 i7 b8 b9 l10 = some r → TC Try.prog ⟨w0, M0, R0⟩ ⟨134, none, df⟩ (bodyPostM Fence.wide 0 Try.prog Try.f274 (PostT ⟨w0, M0, R0⟩ env0 [0] (.tup []) [.row 0 3 1 (List.map en_int r)])) [.code (sub (bodyOf Try.f274) [1, 1, 0, 0]), .inLoop (sub (bodyOf Try.f274) [1, 1, 0, 0]), .inBlock 0] ([(0, .ref 0), (1, .val (.int .i64 i5)), (2, .val (.int .i64 i6)), (3, .val (.int .i64 i7)), (8, .val (.bool b8)), (9, .val (.bool b9))]) ([.row 0 3 1 (List.map en_int l10), .inv 1 (marksI df), .pin 2 0 (env0 0)]) := by
  intro m
  induction m with
  | zero => intro i5 i6 i7 b8 b9 l10 h; exact none_no h
  | succ m ih =>
    intro i5 i6 i7 b8 b9 l10 h
    rw [ev_slices_pdqsortOrdered_int_l0] at h
    refine TC.block ?_
    refine TC.seq ?_
    refine TC.region ?_
    refine op0 (sp_move rfl rfl) rfl trivial rfl rfl ?_
    refine op0 (sp_move rfl rfl) rfl trivial rfl rfl ?_
    obtain ⟨h1, h⟩ := chk_inv h
    refine op0 (sp_sub rfl rfl rfl h1) rfl trivial rfl rfl ?_
    refine op0 (sp_assign rfl rfl) rfl trivial rfl rfl ?_
    refine TL.nil ?_
    refine TC.seq ?_
    refine TC.seq ?_
    refine TC.region ?_
    refine op0 (sp_move rfl rfl) rfl trivial rfl rfl ?_
    refine op0 (sp_leq rfl rfl rfl) rfl trivial rfl rfl ?_
    refine TL.nil ?_
    refine TC.cond (b := (decide ((i6 - i5) ≤ 12))) rfl (fun h2 => ?_) (fun h2 => ?_)
    · have h := cond_t h h2
      refine TC.seq ?_
      refine TC.region ?_
      refine op0 (sp_move rfl rfl) rfl trivial rfl rfl ?_
      refine op0 (sp_move rfl rfl) rfl trivial rfl rfl ?_
      refine op0 (sp_move rfl rfl) rfl trivial rfl rfl ?_
      obtain ⟨r11, h3, h⟩ := bind_inv h
      refine opT (take := [.row 0 3 1 (List.map en_int l10)]) (need := []) (V' := [.row 0 3 1 (List.map en_int r11), .inv 1 (marksI df), .pin 2 0 (env0 0)]) [0] [] (ts_call (avs := [.ref 0, .val (.int .i64 i5), .val (.int .i64 i6)]) (take := [.row 0 3 1 (List.map en_int l10)]) (need := []) (v := .tup []) (news := [.row 0 3 1 (List.map en_int r11)]) rfl rfl rfl Try.call302 (atT [] [] (ft_slices_insertionSortOrdered_int h3) rfl rfl rfl) rfl rfl) trivial rfl ⟨rfl, trivial⟩ trivial rfl rfl ?_
      refine TL.nil ?_
      cases h
      exact retM [] 1 1 [0] rfl (.nil) rfl ⟨mem_at 0 rfl, trivial⟩ rfl rfl ⟨⟨_, mem_at 1 rfl⟩, trivial⟩ rfl
    · have h := cond_f h h2
      refine TC.skip ?_
      refine TC.seq ?_
      refine TC.seq ?_
      refine TC.region ?_
      refine op0 (sp_move rfl rfl) rfl trivial rfl rfl ?_
      refine op0 (sp_eql rfl rfl rfl) rfl trivial rfl rfl ?_
      refine TL.nil ?_
      refine TC.cond (b := (i7 == 0)) rfl (fun h4 => ?_) (fun h4 => ?_)
      · have h := cond_t h h4
        refine TC.seq ?_
        refine TC.region ?_
        refine op0 (sp_move rfl rfl) rfl trivial rfl rfl ?_
        refine op0 (sp_move rfl rfl) rfl trivial rfl rfl ?_
        refine op0 (sp_move rfl rfl) rfl trivial rfl rfl ?_
        exact none_no h
      · have h := cond_f h h4
        refine TC.skip ?_
        refine TC.seq ?_
        refine TC.seq ?_
        refine TC.region ?_
        refine op0 (sp_move rfl rfl) rfl trivial rfl rfl ?_
        refine op0 (sp_not rfl rfl) rfl trivial rfl rfl ?_
        refine TL.nil ?_
        refine TC.cond (b := (!b8)) rfl (fun h5 => ?_) (fun h5 => ?_)
        · have h := cond_t h h5
          refine TC.seq ?_
          refine TC.region ?_
          refine op0 (sp_move rfl rfl) rfl trivial rfl rfl ?_
          refine op0 (sp_move rfl rfl) rfl trivial rfl rfl ?_
          refine op0 (sp_move rfl rfl) rfl trivial rfl rfl ?_
          exact none_no h
        · have h := cond_f h h5
          refine TC.skip ?_
          refine TC.seq ?_
          refine subJ [] (ok_slices_pdqsortOrdered_int_j1 (i5 := i5) (i6 := i6) (b8 := b8) (b9 := b9) (l10 := l10) h) ?_ ?_ ?_
          · exact ⟨rfl, rfl, rfl, rfl, rfl, rfl, rfl, trivial⟩
          · exact ⟨mem_at 0 rfl, mem_at 1 rfl, mem_at 2 rfl, trivial⟩
          · rfl
def ev_slices_pdqsortOrdered_int (n : Nat) (data1 : List Int) (a2 : Int) (b3 : Int) (limit4 : Int) : Option ((List Int)) :=
  ev_slices_pdqsortOrdered_int_l0 n n a2 b3 limit4 true true data1
set_option maxRecDepth 100000 in
set_option maxHeartbeats 2000000 in
theorem ft_slices_pdqsortOrdered_int {n : Nat} {data1 : List Int} {a2 : Int} {b3 : Int} {limit4 : Int} {r : (List Int)} (h : ev_slices_pdqsortOrdered_int n data1 a2 b3 limit4 = some r) : FT Try.prog 274 [.ref 0, .val (.int .i64 a2), .val (.int .i64 b3), .val (.int .i64 limit4)] [.row 0 3 1 (List.map en_int data1)] [] (.tup []) [.row 0 3 1 (List.map en_int r)] := by
  refine introM (nz := 134) 1 [(2, 0)] Try.func274 rfl rfl rfl rfl (fun w0 M0 R0 env0 => ?_)
  rw [ev_slices_pdqsortOrdered_int] at h
  refine TC.seq ?_
  refine TC.region ?_
  refine op0 (sp_assign rfl rfl) rfl trivial rfl rfl ?_
  refine TL.nil ?_
  refine TC.seq ?_
  refine TC.region ?_
  refine op0 (sp_assign rfl rfl) rfl trivial rfl rfl ?_
  refine TL.nil ?_
  refine TC.block ?_
  refine TC.loop ?_
  refine subJ [] (ok_slices_pdqsortOrdered_int_l0 _ _ _ _ _ _ _ h) ?_ ?_ ?_
  · exact ⟨rfl, rfl, rfl, rfl, rfl, rfl, trivial⟩
  · exact ⟨mem_at 2 rfl, mem_at 0 rfl, mem_at 1 rfl, trivial⟩
  · rfl
/- slices_Sort_Lint_int -/
def ev_slices_Sort_Lint_int (n : Nat) (x1 : List Int) : Option ((List Int)) :=
  (ev_math_bits_Len n (IntKind.u64.wrap (x1.length : Int))).bind fun r2 => (ev_slices_pdqsortOrdered_int n x1 0 (x1.length : Int) r2).bind fun r3 => some r3
set_option maxRecDepth 100000 in
set_option maxHeartbeats 2000000 in
theorem ft_slices_Sort_Lint_int {n : Nat} {x1 : List Int} {r : (List Int)} (h : ev_slices_Sort_Lint_int n x1 = some r) : FT Try.prog 222 [.ref 0] [.row 0 3 1 (List.map en_int x1)] [] (.tup []) [.row 0 3 1 (List.map en_int r)] := by
  refine introM (nz := 11) 1 [(2, 0)] Try.func222 rfl rfl rfl rfl (fun w0 M0 R0 env0 => ?_)
  rw [ev_slices_Sort_Lint_int] at h
  refine TC.seq ?_
  refine TC.region ?_
  refine op0 (sp_move rfl rfl) rfl trivial rfl rfl ?_
  refine op1 2 rfl (sp_lenM (N := x1.length) (len_map _ _) rfl rfl isOwn Try.underlying37) rfl trivial rfl rfl ?_
  refine op0 (sp_assign rfl rfl) rfl trivial rfl rfl ?_
  refine TL.nil ?_
  refine TC.region ?_
  refine op0 (sp_move rfl rfl) rfl trivial rfl rfl ?_
  refine op0 (sp_move rfl rfl) rfl trivial rfl rfl ?_
  refine op0 (sp_move rfl rfl) rfl trivial rfl rfl ?_
  refine op0 (sp_convW rfl Try.underlying3 Try.underlying416 rfl) rfl trivial rfl rfl ?_
  obtain ⟨r2, h1, h⟩ := bind_inv h
  refine op0 (sp_call (avs := [.val (.int .u64 (IntKind.u64.wrap (x1.length : Int)))]) (need := []) (v := .val (.int .i64 r2)) (news := []) rfl rfl rfl Try.call271 (atJ [] [] (fc_math_bits_Len h1) rfl rfl) (.inl (roAll rfl))) rfl trivial rfl rfl ?_
  obtain ⟨r3, h2, h⟩ := bind_inv h
  refine opT (take := [.row 0 3 1 (List.map en_int x1)]) (need := []) (V' := [.row 0 3 1 (List.map en_int r3), .inv 1 (marksI []), .pin 2 0 (env0 0)]) [2] [] (ts_call (avs := [.ref 0, .val (.int .i64 0), .val (.int .i64 (x1.length : Int)), .val (.int .i64 r2)]) (take := [.row 0 3 1 (List.map en_int x1)]) (need := []) (v := .tup []) (news := [.row 0 3 1 (List.map en_int r3)]) rfl rfl rfl Try.call274 (atT [] [] (ft_slices_pdqsortOrdered_int h2) rfl rfl rfl) rfl rfl) trivial rfl ⟨rfl, trivial⟩ trivial rfl rfl ?_
  refine TL.nil ?_
  cases h
  exact endM [] 1 1 [0] rfl (.nil) rfl ⟨mem_at 0 rfl, trivial⟩ rfl rfl ⟨⟨_, mem_at 1 rfl⟩, trivial⟩ rfl
/- slices_Compact_Lint_int -/
def rn_slices_Compact_Lint_int : Shelf.Ren := ⟨fun _ => 223, fun n => match n with | 0 => 0 | 3 => 3 | 4 => 4 | 22 => 37 | _ => 0, fun x => x⟩
theorem lays_slices_Compact_Lint_int : Lays2.n20 Try.prog rn_slices_Compact_Lint_int where
  mixed := rfl
  f20 := Try.func223.trans (congrArg some (by kernel_rfl))
  t0 := Try.underlying0
  a0 := Try.isAgg0
  z0 := Try.sizeOf0
  v0 := Try.zeroValue0
  t3 := Try.underlying3
  a3 := Try.isAgg3
  z3 := Try.sizeOf3
  v3 := Try.zeroValue3
  t4 := Try.underlying4
  a4 := Try.isAgg4
  z4 := Try.sizeOf4
  v4 := Try.zeroValue4
  t22 := Try.underlying37
  a22 := Try.isAgg37
  z22 := Try.sizeOf37
  v22 := Try.zeroValue37
  i3 := by kernel_rfl
def ev_slices_Compact_Lint_int (n : Nat) (s1 : List Int) : Option (List Int) := chk (room 8 s1.length) (some (Lib.compact s1))
theorem ft_slices_Compact_Lint_int {n : Nat} {s1 : List Int} {r : List Int} (h : ev_slices_Compact_Lint_int n s1 = some r) : FT Try.prog 223 [.ref 0] [.row 0 3 1 (List.map en_int s1)] [] (.ref 500) [.row 500 3 1 (List.map en_int r)] := by
  obtain ⟨h1, h⟩ := chk_inv h
  cases h
  exact ft_compactI lays_slices_Compact_Lint_int 500 rfl h1
/- slices_SortFunc_zone_spans_api_Span -/
def ev_slices_SortFunc_zone_spans_api_Span (n : Nat) (x1 : List (Int × Int)) (cmp2 : (Int × Int × Int × Int) → Option Int) : Option ((List (Int × Int))) :=
  (ev_math_bits_Len n (IntKind.u64.wrap (x1.length : Int))).bind fun r3 => (ev_slices_pdqsortCmpFunc_api_Span n x1 0 (x1.length : Int) r3 cmp2).bind fun r4 => some r4
set_option maxRecDepth 100000 in
set_option maxHeartbeats 2000000 in
theorem ft_slices_SortFunc_zone_spans_api_Span {n : Nat} {x1 : List (Int × Int)} {cmp2 : (Int × Int × Int × Int) → Option Int} {r : (List (Int × Int))} (h : ev_slices_SortFunc_zone_spans_api_Span n x1 cmp2 = some r) : FT Try.prog 276 [.ref 0, .ref 1] [.row 0 26 2 (List.map en_api_Span x1)] [.any 1 (D.fn Try.prog fe_funcapi_Span_api_Span_int fd_funcapi_Span_api_Span_int cmp2)] (.tup []) [.row 0 26 2 (List.map en_api_Span r)] := by
  refine introM (nz := 14) 2 [(3, 0)] Try.func276 rfl rfl rfl rfl (fun w0 M0 R0 env0 => ?_)
  rw [ev_slices_SortFunc_zone_spans_api_Span] at h
  refine TC.seq ?_
  refine TC.region ?_
  refine op0 (sp_move rfl rfl) rfl trivial rfl rfl ?_
  refine op1 2 rfl (sp_lenM (N := x1.length) (len_map _ _) rfl rfl isOwn Try.underlying370) rfl trivial rfl rfl ?_
  refine op0 (sp_assign rfl rfl) rfl trivial rfl rfl ?_
  refine TL.nil ?_
  refine TC.region ?_
  refine op0 (sp_move rfl rfl) rfl trivial rfl rfl ?_
  refine op0 (sp_move rfl rfl) rfl trivial rfl rfl ?_
  refine op0 (sp_move rfl rfl) rfl trivial rfl rfl ?_
  refine op0 (sp_convW rfl Try.underlying3 Try.underlying416 rfl) rfl trivial rfl rfl ?_
  obtain ⟨r3, h1, h⟩ := bind_inv h
  refine op0 (sp_call (avs := [.val (.int .u64 (IntKind.u64.wrap (x1.length : Int)))]) (need := []) (v := .val (.int .i64 r3)) (news := []) rfl rfl rfl Try.call271 (atJ [] [] (fc_math_bits_Len h1) rfl rfl) (.inl (roAll rfl))) rfl trivial rfl rfl ?_
  refine op0 (sp_move rfl rfl) rfl trivial rfl rfl ?_
  obtain ⟨r4, h2, h⟩ := bind_inv h
  refine opT (take := [.row 0 26 2 (List.map en_api_Span x1)]) (need := [.any 1 (D.fn Try.prog fe_funcapi_Span_api_Span_int fd_funcapi_Span_api_Span_int cmp2)]) (V' := [.row 0 26 2 (List.map en_api_Span r4), .inv 2 (marksI []), .pin 3 0 (env0 0), .any 1 (D.fn Try.prog fe_funcapi_Span_api_Span_int fd_funcapi_Span_api_Span_int cmp2)]) [2] [3] (ts_call (avs := [.ref 0, .val (.int .i64 0), .val (.int .i64 (x1.length : Int)), .val (.int .i64 r3), .ref 1]) (take := [.row 0 26 2 (List.map en_api_Span x1)]) (need := [.any 1 (D.fn Try.prog fe_funcapi_Span_api_Span_int fd_funcapi_Span_api_Span_int cmp2)]) (v := .tup []) (news := [.row 0 26 2 (List.map en_api_Span r4)]) rfl rfl rfl Try.call270 (atT [] [] (ft_slices_pdqsortCmpFunc_api_Span h2) rfl rfl rfl) rfl rfl) trivial rfl ⟨rfl, trivial⟩ ⟨rfl, trivial⟩ rfl rfl ?_
  refine TL.nil ?_
  cases h
  exact endM [] 1 2 [0] rfl (.nil) rfl ⟨mem_at 0 rfl, trivial⟩ rfl rfl ⟨⟨_, mem_at 1 rfl⟩, trivial⟩ rfl
/- cmp_Compare_int -/
def ev_cmp_Compare_int (n : Nat) (x1 : Int) (y2 : Int) : Option Int :=
  (ev_cmp_isNaN_int n x1).bind fun r3 => (ev_cmp_isNaN_int n y2).bind fun r4 => cond r3 (cond r4 (some 0) (some (-1))) (cond r4 (some 1) (cond (decide (x1 < y2)) (some (-1)) (cond (decide (y2 < x1)) (some 1) (some 0))))
set_option maxRecDepth 100000 in
set_option maxHeartbeats 2000000 in
theorem fc_cmp_Compare_int {n : Nat} {x1 : Int} {y2 : Int} {r : Int} (h : ev_cmp_Compare_int n x1 y2 = some r) : FC Try.prog 279 [.val (.int .i64 x1), .val (.int .i64 y2)] [] (.val (.int .i64 r)) [] := by
  refine introJ (nz := 20) Try.func279 rfl rfl rfl (fun w0 R0 env0 => ?_)
  rw [ev_cmp_Compare_int] at h
  refine TC.seq ?_
  refine TC.region ?_
  refine op0 (sp_assign rfl rfl) rfl trivial rfl rfl ?_
  refine TL.nil ?_
  refine TC.seq ?_
  refine TC.region ?_
  refine op0 (sp_move rfl rfl) rfl trivial rfl rfl ?_
  obtain ⟨r3, h1, h⟩ := bind_inv h
  refine op0 (sp_call (avs := [.val (.int .i64 x1)]) (need := []) (v := .val (.bool r3)) (news := []) rfl rfl rfl Try.call311 (atJ [] [] (fc_cmp_isNaN_int h1) rfl rfl) (.inl (roAll rfl))) rfl trivial rfl rfl ?_
  refine op0 (sp_assign rfl rfl) rfl trivial rfl rfl ?_
  refine TL.nil ?_
  refine TC.seq ?_
  refine TC.region ?_
  refine op0 (sp_move rfl rfl) rfl trivial rfl rfl ?_
  obtain ⟨r4, h2, h⟩ := bind_inv h
  refine op0 (sp_call (avs := [.val (.int .i64 y2)]) (need := []) (v := .val (.bool r4)) (news := []) rfl rfl rfl Try.call311 (atJ [] [] (fc_cmp_isNaN_int h2) rfl rfl) (.inl (roAll rfl))) rfl trivial rfl rfl ?_
  refine op0 (sp_assign rfl rfl) rfl trivial rfl rfl ?_
  refine TL.nil ?_
  refine TC.seq ?_
  refine TC.seq ?_
  refine TC.region ?_
  refine op0 (sp_move rfl rfl) rfl trivial rfl rfl ?_
  refine TL.nil ?_
  refine TC.cond (b := r3) rfl (fun h3 => ?_) (fun h3 => ?_)
  · have h := cond_t h h3
    refine TC.seq ?_
    refine TC.seq ?_
    refine TC.region ?_
    refine op0 (sp_move rfl rfl) rfl trivial rfl rfl ?_
    refine TL.nil ?_
    refine TC.cond (b := r4) rfl (fun h4 => ?_) (fun h4 => ?_)
    · have h := cond_t h h4
      refine TC.seq ?_
      refine TC.region ?_
      refine op0 (sp_assign rfl rfl) rfl trivial rfl rfl ?_
      refine TL.nil ?_
      cases h
      exact retJ [] (.tmp rfl .nil) rfl trivial rfl rfl
    · have h := cond_f h h4
      refine TC.skip ?_
      refine TC.seq ?_
      refine TC.region ?_
      refine op0 (sp_assign rfl rfl) rfl trivial rfl rfl ?_
      refine TL.nil ?_
      cases h
      exact retJ [] (.tmp rfl .nil) rfl trivial rfl rfl
  · have h := cond_f h h3
    refine TC.skip ?_
    refine TC.seq ?_
    refine TC.seq ?_
    refine TC.region ?_
    refine op0 (sp_move rfl rfl) rfl trivial rfl rfl ?_
    refine TL.nil ?_
    refine TC.cond (b := r4) rfl (fun h5 => ?_) (fun h5 => ?_)
    · have h := cond_t h h5
      refine TC.seq ?_
      refine TC.region ?_
      refine op0 (sp_assign rfl rfl) rfl trivial rfl rfl ?_
      refine TL.nil ?_
      cases h
      exact retJ [] (.tmp rfl .nil) rfl trivial rfl rfl
    · have h := cond_f h h5
      refine TC.skip ?_
      refine TC.seq ?_
      refine TC.seq ?_
      refine TC.region ?_
      refine op0 (sp_move rfl rfl) rfl trivial rfl rfl ?_
      refine op0 (sp_move rfl rfl) rfl trivial rfl rfl ?_
      refine op0 (sp_lss rfl rfl rfl) rfl trivial rfl rfl ?_
      refine TL.nil ?_
      refine TC.cond (b := (decide (x1 < y2))) rfl (fun h6 => ?_) (fun h6 => ?_)
      · have h := cond_t h h6
        refine TC.seq ?_
        refine TC.region ?_
        refine op0 (sp_assign rfl rfl) rfl trivial rfl rfl ?_
        refine TL.nil ?_
        cases h
        exact retJ [] (.tmp rfl .nil) rfl trivial rfl rfl
      · have h := cond_f h h6
        refine TC.skip ?_
        refine TC.seq ?_
        refine TC.seq ?_
        refine TC.region ?_
        refine op0 (sp_move rfl rfl) rfl trivial rfl rfl ?_
        refine op0 (sp_move rfl rfl) rfl trivial rfl rfl ?_
        refine op0 (sp_gtr rfl rfl rfl) rfl trivial rfl rfl ?_
        refine TL.nil ?_
        refine TC.cond (b := (decide (y2 < x1))) rfl (fun h7 => ?_) (fun h7 => ?_)
        · have h := cond_t h h7
          refine TC.seq ?_
          refine TC.region ?_
          refine op0 (sp_assign rfl rfl) rfl trivial rfl rfl ?_
          refine TL.nil ?_
          cases h
          exact retJ [] (.tmp rfl .nil) rfl trivial rfl rfl
        · have h := cond_f h h7
          refine TC.skip ?_
          refine TC.seq ?_
          refine TC.region ?_
          refine op0 (sp_assign rfl rfl) rfl trivial rfl rfl ?_
          refine TL.nil ?_
          cases h
          exact retJ [] (.tmp rfl .nil) rfl trivial rfl rfl
/- cmp_Or_int -/
def ev_cmp_Or_int_l0 (n : Nat) (vals1 : List Int) : Nat → Int → Option Int
  | 0, _ => none
  | m + 1, i2 => cond (decide (i2 < (vals1.length : Int))) (idx vals1 i2 fun x3 => cond (x3 != 0) (some x3) (chk (in64 (i2 + 1)) <| ev_cmp_Or_int_l0 n vals1 m (i2 + 1))) (some 0)
set_option maxRecDepth 100000 in
set_option maxHeartbeats 2000000 in
theorem ok_cmp_Or_int_l0 {n : Nat} {w0 : World} {R0 : Nat → Prop} {env0 : Env} {r : Int} {vals1 : List Int} : ∀ (m : Nat) (i2 : Int), ev_cmp_Or_int_l0 n vals1 m i2 = some r → TC Try.prog ⟨w0, fun _ => False, R0⟩ 18 (bodyPost Try.prog Try.f278 (Post ⟨w0, fun _ => False, R0⟩ env0 (.val (.int .i64 r)) [])) [.code (sub (bodyOf Try.f278) [1, 1, 0, 1, 0, 0, 0]), .code (sub (bodyOf Try.f278) [1, 1, 0, 1, 0, 0, 1]), .inLoop (sub (bodyOf Try.f278) [1, 1, 0, 1, 0, 0]), .inBlock 0, .code (sub (bodyOf Try.f278) [1, 1, 1])] ([(3, .val (.int .i64 0)), (6, .ref 0), (7, .val (.int .i64 (vals1.length : Int))), (8, .val (.int .i64 i2))]) ([.ro 0 1 (List.map en_int vals1)]) := by
  intro m
  induction m with
  | zero => intro i2 h; exact none_no h
  | succ m ih =>
    intro i2 h
    rw [ev_cmp_Or_int_l0] at h
    refine TC.region ?_
    refine op0 (sp_lss rfl rfl rfl) rfl trivial rfl rfl ?_
    refine TL.nil ?_
    refine TC.seq ?_
    refine TC.cond (b := (decide (i2 < (vals1.length : Int)))) rfl (fun h1 => ?_) (fun h1 => ?_)
    · have h := cond_t h h1
      refine TC.skip ?_
      refine TC.seq ?_
      refine TC.block ?_
      refine TC.seq ?_
      refine TC.region ?_
      obtain ⟨x3, h2, h3, h⟩ := idx_inv h
      refine op1 0 rfl (sp_indexS rfl rfl rfl isRo sl37 h2 (map_get _ h3)) rfl trivial rfl rfl ?_
      refine op1 0 rfl (sp_loadR (i := (i2 : Int).toNat) (j := 0) rfl rfl isRo vt3 rfl (map_get _ h3) rfl (.v (.nil)) (nodup_of_B rfl)) rfl trivial rfl rfl ?_
      refine op0 (sp_assign rfl rfl) rfl trivial rfl rfl ?_
      refine TL.nil ?_
      refine TC.seq ?_
      refine TC.region ?_
      refine op0 (sp_move rfl rfl) rfl trivial rfl rfl ?_
      refine op0 (sp_move rfl rfl) rfl trivial rfl rfl ?_
      refine op0 (sp_neq rfl rfl rfl) rfl trivial rfl rfl ?_
      refine TL.nil ?_
      refine TC.cond (b := (x3 != 0)) rfl (fun h4 => ?_) (fun h4 => ?_)
      · have h := cond_t h h4
        refine TC.seq ?_
        refine TC.region ?_
        refine op0 (sp_move rfl rfl) rfl trivial rfl rfl ?_
        refine op0 (sp_assign rfl rfl) rfl trivial rfl rfl ?_
        refine TL.nil ?_
        cases h
        exact retJ [] (.tmp rfl .nil) rfl trivial rfl rfl
      · have h := cond_f h h4
        refine TC.skip ?_
        refine TC.inBlock ?_
        refine TC.region ?_
        obtain ⟨h5, h⟩ := chk_inv h
        refine op0 (sp_add rfl rfl rfl h5) rfl trivial rfl rfl ?_
        refine op0 (sp_move rfl rfl) rfl trivial rfl rfl ?_
        refine TL.nil ?_
        refine TC.inLoop ?_
        refine TC.seq ?_
        refine subJ [] (ih _ h) ?_ ?_ ?_
        · exact ⟨rfl, rfl, rfl, rfl, trivial⟩
        · exact ⟨mem_at 0 rfl, trivial⟩
        · rfl
    · have h := cond_f h h1
      refine TC.exit rfl ?_
      refine TC.seq ?_
      refine TC.region ?_
      refine op0 (sp_move rfl rfl) rfl trivial rfl rfl ?_
      refine op0 (sp_assign rfl rfl) rfl trivial rfl rfl ?_
      refine TL.nil ?_
      cases h
      exact retJ [] (.tmp rfl .nil) rfl trivial rfl rfl
def ev_cmp_Or_int (n : Nat) (vals1 : List Int) : Option Int :=
  ev_cmp_Or_int_l0 n vals1 n 0
set_option maxRecDepth 100000 in
set_option maxHeartbeats 2000000 in
theorem fc_cmp_Or_int {n : Nat} {vals1 : List Int} {r : Int} (h : ev_cmp_Or_int n vals1 = some r) : FC Try.prog 278 [.ref 0] [.ro 0 1 (List.map en_int vals1)] (.val (.int .i64 r)) [] := by
  refine introJ (nz := 18) Try.func278 rfl rfl rfl (fun w0 R0 env0 => ?_)
  rw [ev_cmp_Or_int] at h
  refine TC.seq ?_
  refine TC.region ?_
  refine op0 (sp_assign rfl rfl) rfl trivial rfl rfl ?_
  refine TL.nil ?_
  refine TC.seq ?_
  refine TC.region ?_
  refine op0 (sp_assign rfl rfl) rfl trivial rfl rfl ?_
  refine TL.nil ?_
  refine TC.seq ?_
  refine TC.seq ?_
  refine TC.region ?_
  refine op0 (sp_move rfl rfl) rfl trivial rfl rfl ?_
  refine op1 0 rfl (sp_lenM (N := vals1.length) (len_map _ _) rfl rfl isRo Try.underlying37) rfl trivial rfl rfl ?_
  refine op0 (sp_move rfl rfl) rfl trivial rfl rfl ?_
  refine TL.nil ?_
  refine TC.block ?_
  refine TC.loop ?_
  refine TC.seq ?_
  refine subJ [] (ok_cmp_Or_int_l0 _ _ h) ?_ ?_ ?_
  · exact ⟨rfl, rfl, rfl, rfl, trivial⟩
  · exact ⟨mem_at 0 rfl, trivial⟩
  · rfl
end
end Go.Proofs.Ytmgcinejodpopaa.Sy
