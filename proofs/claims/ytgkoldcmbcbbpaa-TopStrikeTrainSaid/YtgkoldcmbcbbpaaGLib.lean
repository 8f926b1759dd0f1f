/- What functions of the program compute, and that they do: printed by symgen.py. -/
import Derived.Test.YtgkoldcmbcbbpaaSymX
import Derived.Test.YtgkoldcmbcbbpaaProg
set_option linter.unusedSimpArgs false
set_option linter.unusedVariables false
namespace Go.Proofs.Ytgkoldcmbcbbpaa.Sy
open Go.RowKit
noncomputable section

theorem vt5 : VarT Try.prog 5 1 false := ⟨Try.isAgg5, Try.sizeOf5⟩
theorem bt34 : ∀ parts, Try.prog.built 34 parts = Instr.fill (fun i => (#[(0, 1), (1, 1)] : Array (Nat × Nat))[i]?) (AV.denL (fun _ => undef) [.val (.int .i64 0), .val (.int .i64 0)]).toArray parts := fun _ => by kernel_rfl
theorem vt34 : VarT Try.prog 34 2 true := ⟨Try.isAgg34, Try.sizeOf34⟩
def en_api_Span : Int × Int → List D := fun x => [D.v (.int .i64 x.1), D.v (.int .i64 x.2)]
theorem en_api_Span_flat : ∀ a, ∀ d ∈ en_api_Span a, ∃ x, d = D.v x := by
  intro a d h
  simp only [en_api_Span, List.mem_cons, List.not_mem_nil, or_false] at h
  rcases h with rfl | rfl <;> exact ⟨_, rfl⟩
theorem sl39 : SlT Try.prog 39 34 2 16 := ⟨Try.underlying39, ⟨Try.t34, _, by kernel_rfl, rfl, rfl, rfl, rfl⟩, by decide⟩
theorem bt42 : ∀ parts, Try.prog.built 42 parts = Instr.fill (fun i => (#[(0, 1), (1, 1)] : Array (Nat × Nat))[i]?) (AV.denL (fun _ => undef) [.val (.int .i64 0), .val (.slice none 0 0)]).toArray parts := fun _ => by kernel_rfl
theorem vt42 : VarT Try.prog 42 2 true := ⟨Try.isAgg42, Try.sizeOf42⟩
theorem ft42_0 : FieldT Try.prog 42 0 0 3 := ⟨_, _, Try.underlying42, rfl, rfl, rfl⟩
theorem vt3 : VarT Try.prog 3 1 false := ⟨Try.isAgg3, Try.sizeOf3⟩
def en_int : Int → List D := fun x => [D.v (.int .i64 x)]
theorem en_int_flat : ∀ a, ∀ d ∈ en_int a, ∃ x, d = D.v x := by
  intro a d h
  simp only [en_int, List.mem_cons, List.not_mem_nil, or_false] at h
  rcases h with rfl <;> exact ⟨_, rfl⟩
theorem sl50 : SlT Try.prog 50 3 1 8 := ⟨Try.underlying50, ⟨Try.t3, _, by kernel_rfl, rfl, rfl, rfl, rfl⟩, by decide⟩
def fe_funcint_bool : Int → List AV := fun a => [.val (.int .i64 a)]
def fd_funcint_bool : Bool → AV := fun b => .val (.bool b)
theorem ft42_1 : FieldT Try.prog 42 1 1 39 := ⟨_, _, Try.underlying42, rfl, rfl, rfl⟩
theorem vt39 : VarT Try.prog 39 1 false := ⟨Try.isAgg39, Try.sizeOf39⟩
def fe_funcapi_Span_bool : Int × Int → List AV := fun a => [.agg [.val (.int .i64 a.1), .val (.int .i64 a.2)]]
def fd_funcapi_Span_bool : Bool → AV := fun b => .val (.bool b)
theorem ft34_0 : FieldT Try.prog 34 0 0 3 := ⟨_, _, Try.underlying34, rfl, rfl, rfl⟩
theorem ft34_1 : FieldT Try.prog 34 1 1 3 := ⟨_, _, Try.underlying34, rfl, rfl, rfl⟩
theorem bt186 : ∀ parts, Try.prog.built 186 parts = Instr.fill (fun i => (#[(0, 2), (2, 1)] : Array (Nat × Nat))[i]?) (AV.denL (fun _ => undef) [.val (.int .i64 0), .val (.slice none 0 0), .val (.slice none 0 0)]).toArray parts := fun _ => by kernel_rfl
theorem vt186 : VarT Try.prog 186 3 true := ⟨Try.isAgg186, Try.sizeOf186⟩
def fe_funcapi_Span_int : Int × Int → List AV := fun a => [.agg [.val (.int .i64 a.1), .val (.int .i64 a.2)]]
def fd_funcapi_Span_int : Int → AV := fun b => .val (.int .i64 b)
def en_api_DropVisit : Int × Int × Int × Int → List D := fun x => [D.v (.int .i64 x.1), D.v (.int .i64 x.2.1), D.v (.int .i64 x.2.2.1), D.v (.int .i64 x.2.2.2)]
theorem en_api_DropVisit_flat : ∀ a, ∀ d ∈ en_api_DropVisit a, ∃ x, d = D.v x := by
  intro a d h
  simp only [en_api_DropVisit, List.mem_cons, List.not_mem_nil, or_false] at h
  rcases h with rfl | rfl | rfl | rfl <;> exact ⟨_, rfl⟩
theorem ft186_0 : FieldT Try.prog 186 0 0 42 := ⟨_, _, Try.underlying186, rfl, rfl, rfl⟩
theorem bt26 : ∀ parts, Try.prog.built 26 parts = Instr.fill (fun i => (#[(0, 1), (1, 1)] : Array (Nat × Nat))[i]?) (AV.denL (fun _ => undef) [.val (.int .i64 0), .val (.int .i64 0)]).toArray parts := fun _ => by kernel_rfl
theorem bt104 : ∀ parts, Try.prog.built 104 parts = Instr.fill (fun i => (#[(0, 1), (1, 2)] : Array (Nat × Nat))[i]?) (AV.denL (fun _ => undef) [.val (.int .i64 0), .val (.int .i64 0), .val (.int .i64 0)]).toArray parts := fun _ => by kernel_rfl
def en_api_DialLink : Int × Int × Int → List D := fun x => [D.v (.int .i64 x.1), D.v (.int .i64 x.2.1), D.v (.int .i64 x.2.2)]
theorem en_api_DialLink_flat : ∀ a, ∀ d ∈ en_api_DialLink a, ∃ x, d = D.v x := by
  intro a d h
  simp only [en_api_DialLink, List.mem_cons, List.not_mem_nil, or_false] at h
  rcases h with rfl | rfl | rfl <;> exact ⟨_, rfl⟩
theorem sl105 : SlT Try.prog 105 104 3 24 := ⟨Try.underlying105, ⟨Try.t104, _, by kernel_rfl, rfl, rfl, rfl, rfl⟩, by decide⟩
theorem bt107 : ∀ parts, Try.prog.built 107 parts = Instr.fill (fun i => (#[(0, 2), (2, 1), (3, 1), (4, 1)] : Array (Nat × Nat))[i]?) (AV.denL (fun _ => undef) [.val (.int .i64 0), .val (.int .i64 0), .val (.slice none 0 0), .val (.int .i64 0), .val (.int .i64 0)]).toArray parts := fun _ => by kernel_rfl
theorem vt107 : VarT Try.prog 107 5 true := ⟨Try.isAgg107, Try.sizeOf107⟩
theorem bt108 : ∀ parts, Try.prog.built 108 parts = Instr.fill (fun i => some (i * 1, 1)) (AV.denL (fun _ => undef) [.val (.int .i64 0), .val (.int .i64 0), .val (.int .i64 0), .val (.int .i64 0)]).toArray parts := fun _ => by kernel_rfl
def en_api_DialFace : Int × Int × (List (Int × Int × Int)) × Int × Int → List D := fun x => [D.v (.int .i64 x.1), D.v (.int .i64 x.2.1), D.s 3 (List.map en_api_DialLink x.2.2.1), D.v (.int .i64 x.2.2.2.1), D.v (.int .i64 x.2.2.2.2)]
theorem sl109 : SlT Try.prog 109 107 5 56 := ⟨Try.underlying109, ⟨Try.t107, _, by kernel_rfl, rfl, rfl, rfl, rfl⟩, by decide⟩
theorem bt111 : ∀ parts, Try.prog.built 111 parts = Instr.fill (fun i => (#[(0, 1), (1, 2), (3, 1)] : Array (Nat × Nat))[i]?) (AV.denL (fun _ => undef) [.val (.int .i64 0), .val (.int .i64 0), .val (.int .i64 0), .val (.slice none 0 0)]).toArray parts := fun _ => by kernel_rfl
theorem vt111 : VarT Try.prog 111 4 true := ⟨Try.isAgg111, Try.sizeOf111⟩
def en_dial_face : Int × Int × (List (Int × Int × Int)) × Int × Int × Int → List D := fun x => [D.v (.int .i64 x.1), D.v (.int .i64 x.2.1), D.s 3 (List.map en_api_DialLink x.2.2.1), D.v (.int .i64 x.2.2.2.1), D.v (.int .i64 x.2.2.2.2.1), D.v (.int .i64 x.2.2.2.2.2)]
theorem ft111_0 : FieldT Try.prog 111 0 0 3 := ⟨_, _, Try.underlying111, rfl, rfl, rfl⟩
theorem vt236 : VarT Try.prog 236 5 true := ⟨Try.isAgg236, Try.sizeOf236⟩
theorem ft111_1 : FieldT Try.prog 111 1 1 34 := ⟨_, _, Try.underlying111, rfl, rfl, rfl⟩
theorem ft111_2 : FieldT Try.prog 111 2 3 109 := ⟨_, _, Try.underlying111, rfl, rfl, rfl⟩
theorem vt109 : VarT Try.prog 109 1 false := ⟨Try.isAgg109, Try.sizeOf109⟩
theorem ft236_0 : FieldT Try.prog 236 0 0 111 := ⟨_, _, Try.underlying236, rfl, rfl, rfl⟩
theorem ft107_0 : FieldT Try.prog 107 0 0 34 := ⟨_, _, Try.underlying107, rfl, rfl, rfl⟩
theorem vt238 : VarT Try.prog 238 6 true := ⟨Try.isAgg238, Try.sizeOf238⟩
theorem ft107_1 : FieldT Try.prog 107 1 2 105 := ⟨_, _, Try.underlying107, rfl, rfl, rfl⟩
theorem vt105 : VarT Try.prog 105 1 false := ⟨Try.isAgg105, Try.sizeOf105⟩
theorem ft107_2 : FieldT Try.prog 107 2 3 3 := ⟨_, _, Try.underlying107, rfl, rfl, rfl⟩
theorem ft107_3 : FieldT Try.prog 107 3 4 3 := ⟨_, _, Try.underlying107, rfl, rfl, rfl⟩
theorem vt104 : VarT Try.prog 104 3 true := ⟨Try.isAgg104, Try.sizeOf104⟩
theorem ft104_0 : FieldT Try.prog 104 0 0 3 := ⟨_, _, Try.underlying104, rfl, rfl, rfl⟩
theorem ft104_1 : FieldT Try.prog 104 1 1 26 := ⟨_, _, Try.underlying104, rfl, rfl, rfl⟩
theorem vt26 : VarT Try.prog 26 2 true := ⟨Try.isAgg26, Try.sizeOf26⟩
theorem ft26_0 : FieldT Try.prog 26 0 0 3 := ⟨_, _, Try.underlying26, rfl, rfl, rfl⟩
theorem ft26_1 : FieldT Try.prog 26 1 1 3 := ⟨_, _, Try.underlying26, rfl, rfl, rfl⟩
theorem bt238 : ∀ parts, Try.prog.built 238 parts = Instr.fill (fun i => (#[(0, 5), (5, 1)] : Array (Nat × Nat))[i]?) (AV.denL (fun _ => undef) [.val (.int .i64 0), .val (.int .i64 0), .val (.slice none 0 0), .val (.int .i64 0), .val (.int .i64 0), .val (.int .i64 0)]).toArray parts := fun _ => by kernel_rfl
theorem ft238_1 : FieldT Try.prog 238 1 5 3 := ⟨_, _, Try.underlying238, rfl, rfl, rfl⟩
theorem bt236 : ∀ parts, Try.prog.built 236 parts = Instr.fill (fun i => (#[(0, 4), (4, 1)] : Array (Nat × Nat))[i]?) (AV.denL (fun _ => undef) [.val (.int .i64 0), .val (.int .i64 0), .val (.int .i64 0), .val (.slice none 0 0), .val (.slice none 0 0)]).toArray parts := fun _ => by kernel_rfl
theorem ft236_1 : FieldT Try.prog 236 1 4 234 := ⟨_, _, Try.underlying236, rfl, rfl, rfl⟩
theorem vt234 : VarT Try.prog 234 1 false := ⟨Try.isAgg234, Try.sizeOf234⟩
theorem sl234 : SlT Try.prog 234 238 6 64 := ⟨Try.underlying234, ⟨Try.t238, _, by kernel_rfl, rfl, rfl, rfl, rfl⟩, by decide⟩
theorem vt240 : VarT Try.prog 240 14 true := ⟨Try.isAgg240, Try.sizeOf240⟩
theorem bt240 : ∀ parts, Try.prog.built 240 parts = Instr.fill (fun i => (#[(0, 5), (5, 6), (11, 1), (12, 2)] : Array (Nat × Nat))[i]?) (AV.denL (fun _ => undef) [.val (.int .i64 0), .val (.int .i64 0), .val (.int .i64 0), .val (.slice none 0 0), .val (.slice none 0 0), .val (.int .i64 0), .val (.int .i64 0), .val (.slice none 0 0), .val (.int .i64 0), .val (.int .i64 0), .val (.int .i64 0), .val (.int .i64 0), .val (.int .i64 0), .val (.int .i64 0)]).toArray parts := fun _ => by kernel_rfl
def ye_funcapi_Span_bool : Int × Int → List AV := fun a => [.agg [.val (.int .i64 a.1), .val (.int .i64 a.2)]]
def yn_funcapi_Span_bool : Int × Int → List NEnt := fun a => []
theorem ft240_0 : FieldT Try.prog 240 0 0 236 := ⟨_, _, Try.underlying240, rfl, rfl, rfl⟩
theorem ft240_2 : FieldT Try.prog 240 2 11 3 := ⟨_, _, Try.underlying240, rfl, rfl, rfl⟩
def ye_funcint_bool : Int → List AV := fun a => [.val (.int .i64 a)]
def yn_funcint_bool : Int → List NEnt := fun a => []
theorem vt330 : VarT Try.prog 330 1 false := ⟨Try.isAgg330, Try.sizeOf330⟩
theorem ft240_1 : FieldT Try.prog 240 1 5 238 := ⟨_, _, Try.underlying240, rfl, rfl, rfl⟩
theorem ft240_3 : FieldT Try.prog 240 3 12 34 := ⟨_, _, Try.underlying240, rfl, rfl, rfl⟩
theorem ft238_0 : FieldT Try.prog 238 0 0 107 := ⟨_, _, Try.underlying238, rfl, rfl, rfl⟩
def fe_funcapi_Span_api_Span_int : Int × Int × Int × Int → List AV := fun a => [.agg [.val (.int .i64 a.1), .val (.int .i64 a.2.1)], .agg [.val (.int .i64 a.2.2.1), .val (.int .i64 a.2.2.2)]]
def fd_funcapi_Span_api_Span_int : Int → AV := fun b => .val (.int .i64 b)
def st_d55355c9 : List Int := [0, 1, 2, 2, 3, 3, 3, 3, 4, 4, 4, 4, 4, 4, 4, 4, 5, 5, 5, 5, 5, 5, 5, 5, 5, 5, 5, 5, 5, 5, 5, 5, 6, 6, 6, 6, 6, 6, 6, 6, 6, 6, 6, 6, 6, 6, 6, 6, 6, 6, 6, 6, 6, 6, 6, 6, 6, 6, 6, 6, 6, 6, 6, 6, 7, 7, 7, 7, 7, 7, 7, 7, 7, 7, 7, 7, 7, 7, 7, 7, 7, 7, 7, 7, 7, 7, 7, 7, 7, 7, 7, 7, 7, 7, 7, 7, 7, 7, 7, 7, 7, 7, 7, 7, 7, 7, 7, 7, 7, 7, 7, 7, 7, 7, 7, 7, 7, 7, 7, 7, 7, 7, 7, 7, 7, 7, 7, 7, 8, 8, 8, 8, 8, 8, 8, 8, 8, 8, 8, 8, 8, 8, 8, 8, 8, 8, 8, 8, 8, 8, 8, 8, 8, 8, 8, 8, 8, 8, 8, 8, 8, 8, 8, 8, 8, 8, 8, 8, 8, 8, 8, 8, 8, 8, 8, 8, 8, 8, 8, 8, 8, 8, 8, 8, 8, 8, 8, 8, 8, 8, 8, 8, 8, 8, 8, 8, 8, 8, 8, 8, 8, 8, 8, 8, 8, 8, 8, 8, 8, 8, 8, 8, 8, 8, 8, 8, 8, 8, 8, 8, 8, 8, 8, 8, 8, 8, 8, 8, 8, 8, 8, 8, 8, 8, 8, 8, 8, 8, 8, 8, 8, 8, 8, 8, 8, 8, 8, 8, 8, 8, 8, 8, 8, 8, 8, 8]
theorem st_d55355c9_ok : (([0, 1, 2, 2, 3, 3, 3, 3, 4, 4, 4, 4, 4, 4, 4, 4, 5, 5, 5, 5, 5, 5, 5, 5, 5, 5, 5, 5, 5, 5, 5, 5, 6, 6, 6, 6, 6, 6, 6, 6, 6, 6, 6, 6, 6, 6, 6, 6, 6, 6, 6, 6, 6, 6, 6, 6, 6, 6, 6, 6, 6, 6, 6, 6, 7, 7, 7, 7, 7, 7, 7, 7, 7, 7, 7, 7, 7, 7, 7, 7, 7, 7, 7, 7, 7, 7, 7, 7, 7, 7, 7, 7, 7, 7, 7, 7, 7, 7, 7, 7, 7, 7, 7, 7, 7, 7, 7, 7, 7, 7, 7, 7, 7, 7, 7, 7, 7, 7, 7, 7, 7, 7, 7, 7, 7, 7, 7, 7, 8, 8, 8, 8, 8, 8, 8, 8, 8, 8, 8, 8, 8, 8, 8, 8, 8, 8, 8, 8, 8, 8, 8, 8, 8, 8, 8, 8, 8, 8, 8, 8, 8, 8, 8, 8, 8, 8, 8, 8, 8, 8, 8, 8, 8, 8, 8, 8, 8, 8, 8, 8, 8, 8, 8, 8, 8, 8, 8, 8, 8, 8, 8, 8, 8, 8, 8, 8, 8, 8, 8, 8, 8, 8, 8, 8, 8, 8, 8, 8, 8, 8, 8, 8, 8, 8, 8, 8, 8, 8, 8, 8, 8, 8, 8, 8, 8, 8, 8, 8, 8, 8, 8, 8, 8, 8, 8, 8, 8, 8, 8, 8, 8, 8, 8, 8, 8, 8, 8, 8, 8, 8, 8, 8, 8, 8, 8, 8] : List Nat).map fun n => ((UInt8.ofNat n).toNat : Int)) = st_d55355c9 := by decide +kernel
theorem eq34 (a0 : Int) (a1 : Int) (b0 : Int) (b1 : Int) : EqT Try.prog 34 [.int .i64 a0, .int .i64 a1] [.int .i64 b0, .int .i64 b1] (((a0 == b0) && (a1 == b1))) := ⟨Try.eqGuardType34, fun w => by
  simp [go_sem, Try.underlying34, Try.underlying3, Try.isAgg34, Try.isAgg3, Try.sizeOf34, Try.sizeOf3, Try.stoodInHeld34]
  (repeat' split) <;> simp_all⟩
def en_uint8 : Int → List D := fun x => [D.v (.int .u8 x)]
theorem en_uint8_flat : ∀ a, ∀ d ∈ en_uint8 a, ∃ x, d = D.v x := by
  intro a d h
  simp only [en_uint8, List.mem_cons, List.not_mem_nil, or_false] at h
  rcases h with rfl <;> exact ⟨_, rfl⟩
def en_api_PulseFault : Int × Int → List D := fun x => [D.v (.int .i64 x.1), D.v (.int .i64 x.2)]
theorem en_api_PulseFault_flat : ∀ a, ∀ d ∈ en_api_PulseFault a, ∃ x, d = D.v x := by
  intro a d h
  simp only [en_api_PulseFault, List.mem_cons, List.not_mem_nil, or_false] at h
  rcases h with rfl | rfl <;> exact ⟨_, rfl⟩
theorem sl142 : SlT Try.prog 142 155 2 16 := ⟨Try.underlying142, ⟨Try.t155, _, by kernel_rfl, rfl, rfl, rfl, rfl⟩, by decide⟩
theorem sl132 : SlT Try.prog 132 5 1 1 := ⟨Try.underlying132, ⟨Try.t5, _, by kernel_rfl, rfl, rfl, rfl, rfl⟩, by decide⟩
theorem bt155 : ∀ parts, Try.prog.built 155 parts = Instr.fill (fun i => (#[(0, 1), (1, 1)] : Array (Nat × Nat))[i]?) (AV.denL (fun _ => undef) [.val (.int .i64 0), .val (.int .i64 0)]).toArray parts := fun _ => by kernel_rfl
theorem bt148 : ∀ parts, Try.prog.built 148 parts = Instr.fill (fun i => (#[(0, 1), (1, 1), (2, 1)] : Array (Nat × Nat))[i]?) (AV.denL (fun _ => undef) [.val (.int .i64 0), .val (.int .i64 0), .val (.int .i64 0)]).toArray parts := fun _ => by kernel_rfl
theorem vt148 : VarT Try.prog 148 3 true := ⟨Try.isAgg148, Try.sizeOf148⟩
theorem bt278 : ∀ parts, Try.prog.built 278 parts = Instr.fill (fun i => (#[(0, 3)] : Array (Nat × Nat))[i]?) (AV.denL (fun _ => undef) [.val (.int .i64 0), .val (.int .i64 0), .val (.int .i64 0)]).toArray parts := fun _ => by kernel_rfl
theorem ft148_0 : FieldT Try.prog 148 0 0 146 := ⟨_, _, Try.underlying148, rfl, rfl, rfl⟩
theorem vt146 : VarT Try.prog 146 1 false := ⟨Try.isAgg146, Try.sizeOf146⟩
theorem eq148 (a0 : Int) (a1 : Int) (a2 : Int) (b0 : Int) (b1 : Int) (b2 : Int) : EqT Try.prog 148 [.int .i64 a0, .int .i64 a1, .int .i64 a2] [.int .i64 b0, .int .i64 b1, .int .i64 b2] (((a0 == b0) && ((a1 == b1) && (a2 == b2)))) := ⟨Try.eqGuardType148, fun w => by
  simp [go_sem, Try.underlying148, Try.underlying146, Try.underlying3, Try.isAgg148, Try.isAgg146, Try.isAgg3, Try.sizeOf148, Try.sizeOf146, Try.sizeOf3, Try.stoodInHeld148]
  (repeat' split) <;> simp_all⟩
theorem ft148_1 : FieldT Try.prog 148 1 1 3 := ⟨_, _, Try.underlying148, rfl, rfl, rfl⟩
theorem ft148_2 : FieldT Try.prog 148 2 2 3 := ⟨_, _, Try.underlying148, rfl, rfl, rfl⟩
theorem vt278 : VarT Try.prog 278 3 true := ⟨Try.isAgg278, Try.sizeOf278⟩
theorem sl407 : SlT Try.prog 407 155 2 16 := ⟨Try.underlying407, ⟨Try.t155, _, by kernel_rfl, rfl, rfl, rfl, rfl⟩, by decide⟩
theorem vt155 : VarT Try.prog 155 2 true := ⟨Try.isAgg155, Try.sizeOf155⟩
theorem ft155_0 : FieldT Try.prog 155 0 0 3 := ⟨_, _, Try.underlying155, rfl, rfl, rfl⟩
theorem ft155_1 : FieldT Try.prog 155 1 1 153 := ⟨_, _, Try.underlying155, rfl, rfl, rfl⟩
theorem vt153 : VarT Try.prog 153 1 false := ⟨Try.isAgg153, Try.sizeOf153⟩
theorem ft278_0 : FieldT Try.prog 278 0 0 148 := ⟨_, _, Try.underlying278, rfl, rfl, rfl⟩
theorem bt285 : ∀ parts, Try.prog.built 285 parts = Instr.fill (fun i => (#[(0, 1), (1, 1)] : Array (Nat × Nat))[i]?) (AV.denL (fun _ => undef) [.val (.int .i64 0), .val (.int .i64 0)]).toArray parts := fun _ => by kernel_rfl
theorem vt285 : VarT Try.prog 285 2 true := ⟨Try.isAgg285, Try.sizeOf285⟩
def ye_funcint_pulse_dial_bool : Int × Int × Int → List AV := fun a => [.val (.int .i64 a.1), .agg [.val (.int .i64 a.2.1), .val (.int .i64 a.2.2)]]
def yn_funcint_pulse_dial_bool : Int × Int × Int → List NEnt := fun a => []
theorem vt407 : VarT Try.prog 407 1 false := ⟨Try.isAgg407, Try.sizeOf407⟩
theorem bt125 : ∀ parts, Try.prog.built 125 parts = Instr.fill (fun i => some (i * 1, 1)) (AV.denL (fun _ => undef) [.val (.int .i64 0), .val (.int .i64 0), .val (.int .i64 0)]).toArray parts := fun _ => by kernel_rfl
theorem ft285_0 : FieldT Try.prog 285 0 0 3 := ⟨_, _, Try.underlying285, rfl, rfl, rfl⟩
theorem ft285_1 : FieldT Try.prog 285 1 1 3 := ⟨_, _, Try.underlying285, rfl, rfl, rfl⟩
theorem bt149 : ∀ parts, Try.prog.built 149 parts = Instr.fill (fun i => some (i * 1, 1)) (AV.denL (fun _ => undef) [.val (.int .i64 0), .val (.int .i64 0)]).toArray parts := fun _ => by kernel_rfl
theorem bt162 : ∀ parts, Try.prog.built 162 parts = Instr.fill (fun i => (#[(0, 1), (1, 1)] : Array (Nat × Nat))[i]?) (AV.denL (fun _ => undef) [.val (.int .i64 0), .val (.int .i64 0)]).toArray parts := fun _ => by kernel_rfl
def en_api_ZoneChange : Int × Int → List D := fun x => [D.v (.int .i64 x.1), D.v (.int .i64 x.2)]
theorem en_api_ZoneChange_flat : ∀ a, ∀ d ∈ en_api_ZoneChange a, ∃ x, d = D.v x := by
  intro a d h
  simp only [en_api_ZoneChange, List.mem_cons, List.not_mem_nil, or_false] at h
  rcases h with rfl | rfl <;> exact ⟨_, rfl⟩
theorem sl163 : SlT Try.prog 163 162 2 16 := ⟨Try.underlying163, ⟨Try.t162, _, by kernel_rfl, rfl, rfl, rfl, rfl⟩, by decide⟩
theorem bt165 : ∀ parts, Try.prog.built 165 parts = Instr.fill (fun i => (#[(0, 1), (1, 1)] : Array (Nat × Nat))[i]?) (AV.denL (fun _ => undef) [.val (.int .i64 0), .val (.slice none 0 0)]).toArray parts := fun _ => by kernel_rfl
theorem vt165 : VarT Try.prog 165 2 true := ⟨Try.isAgg165, Try.sizeOf165⟩
theorem ft165_1 : FieldT Try.prog 165 1 1 163 := ⟨_, _, Try.underlying165, rfl, rfl, rfl⟩
theorem vt163 : VarT Try.prog 163 1 false := ⟨Try.isAgg163, Try.sizeOf163⟩
theorem ft162_1 : FieldT Try.prog 162 1 1 3 := ⟨_, _, Try.underlying162, rfl, rfl, rfl⟩
theorem vt162 : VarT Try.prog 162 2 true := ⟨Try.isAgg162, Try.sizeOf162⟩
theorem ft162_0 : FieldT Try.prog 162 0 0 3 := ⟨_, _, Try.underlying162, rfl, rfl, rfl⟩
theorem ft165_0 : FieldT Try.prog 165 0 0 3 := ⟨_, _, Try.underlying165, rfl, rfl, rfl⟩
theorem bt297 : ∀ parts, Try.prog.built 297 parts = Instr.fill (fun i => (#[(0, 2)] : Array (Nat × Nat))[i]?) (AV.denL (fun _ => undef) [.val (.int .i64 0), .val (.slice none 0 0)]).toArray parts := fun _ => by kernel_rfl
theorem vt297 : VarT Try.prog 297 2 true := ⟨Try.isAgg297, Try.sizeOf297⟩
def ye_funczone_era_bool : Int × Int × Int → List AV := fun a => [.agg [.val (.int .i64 a.1), .val (.int .i64 a.2.1), .val (.int .i64 a.2.2)]]
def yn_funczone_era_bool : Int × Int × Int → List NEnt := fun a => []
theorem ft297_0 : FieldT Try.prog 297 0 0 165 := ⟨_, _, Try.underlying297, rfl, rfl, rfl⟩
theorem bt295 : ∀ parts, Try.prog.built 295 parts = Instr.fill (fun i => (#[(0, 2), (2, 1)] : Array (Nat × Nat))[i]?) (AV.denL (fun _ => undef) [.val (.int .i64 0), .val (.int .i64 0), .val (.int .i64 0)]).toArray parts := fun _ => by kernel_rfl
theorem vt295 : VarT Try.prog 295 3 true := ⟨Try.isAgg295, Try.sizeOf295⟩
theorem ft295_0 : FieldT Try.prog 295 0 0 34 := ⟨_, _, Try.underlying295, rfl, rfl, rfl⟩
theorem ft295_1 : FieldT Try.prog 295 1 2 3 := ⟨_, _, Try.underlying295, rfl, rfl, rfl⟩
theorem vt50 : VarT Try.prog 50 1 false := ⟨Try.isAgg50, Try.sizeOf50⟩
theorem vt302 : VarT Try.prog 302 1 false := ⟨Try.isAgg302, Try.sizeOf302⟩
theorem sl302 : SlT Try.prog 302 34 2 16 := ⟨Try.underlying302, ⟨Try.t34, _, by kernel_rfl, rfl, rfl, rfl, rfl⟩, by decide⟩
theorem vt45 : VarT Try.prog 45 2 true := ⟨Try.isAgg45, Try.sizeOf45⟩
theorem bt48 : ∀ parts, Try.prog.built 48 parts = Instr.fill (fun i => (#[(0, 1), (1, 1), (2, 1)] : Array (Nat × Nat))[i]?) (AV.denL (fun _ => undef) [.val (.bool false), .val (.bool false), .val (.slice none 0 0)]).toArray parts := fun _ => by kernel_rfl
theorem vt48 : VarT Try.prog 48 3 true := ⟨Try.isAgg48, Try.sizeOf48⟩
theorem ft48_2 : FieldT Try.prog 48 2 2 39 := ⟨_, _, Try.underlying48, rfl, rfl, rfl⟩
theorem ft48_0 : FieldT Try.prog 48 0 0 4 := ⟨_, _, Try.underlying48, rfl, rfl, rfl⟩
theorem vt4 : VarT Try.prog 4 1 false := ⟨Try.isAgg4, Try.sizeOf4⟩
theorem bt191 : ∀ parts, Try.prog.built 191 parts = Instr.fill (fun i => (#[(0, 3), (3, 1)] : Array (Nat × Nat))[i]?) (AV.denL (fun _ => undef) [.val (.bool false), .val (.bool false), .val (.slice none 0 0), .val (.int .i64 0)]).toArray parts := fun _ => by kernel_rfl
theorem vt191 : VarT Try.prog 191 4 true := ⟨Try.isAgg191, Try.sizeOf191⟩
theorem ft191_1 : FieldT Try.prog 191 1 3 3 := ⟨_, _, Try.underlying191, rfl, rfl, rfl⟩
theorem ft191_0 : FieldT Try.prog 191 0 0 48 := ⟨_, _, Try.underlying191, rfl, rfl, rfl⟩
theorem bt58 : ∀ parts, Try.prog.built 58 parts = Instr.fill (fun i => (#[(0, 1), (1, 1), (2, 1), (3, 1), (4, 1)] : Array (Nat × Nat))[i]?) (AV.denL (fun _ => undef) [.val (.int .i64 0), .val (.int .i64 0), .val (.int .i64 0), .val (.int .i64 0), .val (.slice none 0 0)]).toArray parts := fun _ => by kernel_rfl
theorem ft58_0 : FieldT Try.prog 58 0 0 3 := ⟨_, _, Try.underlying58, rfl, rfl, rfl⟩
theorem ft58_1 : FieldT Try.prog 58 1 1 3 := ⟨_, _, Try.underlying58, rfl, rfl, rfl⟩
theorem ft58_2 : FieldT Try.prog 58 2 2 3 := ⟨_, _, Try.underlying58, rfl, rfl, rfl⟩
theorem ft58_3 : FieldT Try.prog 58 3 3 3 := ⟨_, _, Try.underlying58, rfl, rfl, rfl⟩
theorem ft58_4 : FieldT Try.prog 58 4 4 39 := ⟨_, _, Try.underlying58, rfl, rfl, rfl⟩
def en_api_StrikeStep : Int × Bool → List D := fun x => [D.v (.int .i64 x.1), D.v (.bool x.2)]
theorem en_api_StrikeStep_flat : ∀ a, ∀ d ∈ en_api_StrikeStep a, ∃ x, d = D.v x := by
  intro a d h
  simp only [en_api_StrikeStep, List.mem_cons, List.not_mem_nil, or_false] at h
  rcases h with rfl | rfl <;> exact ⟨_, rfl⟩
theorem ft48_1 : FieldT Try.prog 48 1 1 4 := ⟨_, _, Try.underlying48, rfl, rfl, rfl⟩
def mk307 : Int × Int → Value := fun k => .agg #[.int .i64 k.1, .int .i64 k.2]
theorem kc307 (b : Bool) (k : Int × Int) (w : World) (n : Nat) : (Instr.checkKey b (n + 2) 313 (mk307 k)).run Try.prog w = .ok () w := by
  simp [mk307, Instr.checkKey, go_sem, Try.underlying313, Try.underlying3, Try.isAgg313, Try.isAgg3, Try.sizeOf313, Try.sizeOf3, Try.stoodInHeld313]
theorem eq313 (a0 : Int) (a1 : Int) (b0 : Int) (b1 : Int) : EqT Try.prog 313 [.int .i64 a0, .int .i64 a1] [.int .i64 b0, .int .i64 b1] (((a0 == b0) && (a1 == b1))) := ⟨Try.eqGuardType313, fun w => by
  simp [go_sem, Try.underlying313, Try.underlying3, Try.isAgg313, Try.isAgg3, Try.sizeOf313, Try.sizeOf3, Try.stoodInHeld313]
  (repeat' split) <;> simp_all⟩
theorem kq307 (k k' : Int × Int) (w : World) : (Op.equal 313 (mk307 k) (mk307 k')).run Try.prog w = .ok (k == k') w := by
  have h := (eq313 (k.1) (k.2) ((k').1) ((k').2)).2 w
  show (Op.equalIn 10000 313 _ _).run Try.prog w = _
  simp only [mk307]
  exact h
theorem km307 : MKey Try.prog 307 313 315 mk307 := mkey_agg2 Try.underlying307 Try.underlying313 (fun k es i => findNow_struct k es i) (fun b k w => kc307 b k w 9998) kq307 (fun k => by simp [mk307, Instr.sameBits])
def en_strike_cost : Int × Int → List D := fun x => [D.v (.int .i64 x.1), D.v (.int .i64 x.2)]
theorem en_strike_cost_flat : ∀ a, ∀ d ∈ en_strike_cost a, ∃ x, d = D.v x := by
  intro a d h
  simp only [en_strike_cost, List.mem_cons, List.not_mem_nil, or_false] at h
  rcases h with rfl | rfl <;> exact ⟨_, rfl⟩
def mk308 : Int × Int → Value := fun k => .agg #[.int .i64 k.1, .int .i64 k.2]
theorem kc308 (b : Bool) (k : Int × Int) (w : World) (n : Nat) : (Instr.checkKey b (n + 2) 313 (mk308 k)).run Try.prog w = .ok () w := by
  simp [mk308, Instr.checkKey, go_sem, Try.underlying313, Try.underlying3, Try.isAgg313, Try.isAgg3, Try.sizeOf313, Try.sizeOf3, Try.stoodInHeld313]
theorem kq308 (k k' : Int × Int) (w : World) : (Op.equal 313 (mk308 k) (mk308 k')).run Try.prog w = .ok (k == k') w := by
  have h := (eq313 (k.1) (k.2) ((k').1) ((k').2)).2 w
  show (Op.equalIn 10000 313 _ _).run Try.prog w = _
  simp only [mk308]
  exact h
theorem km308 : MKey Try.prog 308 313 175 mk308 := mkey_agg2 Try.underlying308 Try.underlying313 (fun k es i => findNow_struct k es i) (fun b k w => kc308 b k w 9998) kq308 (fun k => by simp [mk308, Instr.sameBits])
def mk309 : Int × Int → Value := fun k => .agg #[.int .i64 k.1, .int .i64 k.2]
theorem kc309 (b : Bool) (k : Int × Int) (w : World) (n : Nat) : (Instr.checkKey b (n + 2) 313 (mk309 k)).run Try.prog w = .ok () w := by
  simp [mk309, Instr.checkKey, go_sem, Try.underlying313, Try.underlying3, Try.isAgg313, Try.isAgg3, Try.sizeOf313, Try.sizeOf3, Try.stoodInHeld313]
theorem kq309 (k k' : Int × Int) (w : World) : (Op.equal 313 (mk309 k) (mk309 k')).run Try.prog w = .ok (k == k') w := by
  have h := (eq313 (k.1) (k.2) ((k').1) ((k').2)).2 w
  show (Op.equalIn 10000 313 _ _).run Try.prog w = _
  simp only [mk309]
  exact h
theorem km309 : MKey Try.prog 309 313 4 mk309 := mkey_agg2 Try.underlying309 Try.underlying313 (fun k es i => findNow_struct k es i) (fun b k w => kc309 b k w 9998) kq309 (fun k => by simp [mk309, Instr.sameBits])
def en_bool : Bool → List D := fun x => [D.v (.bool x)]
theorem en_bool_flat : ∀ a, ∀ d ∈ en_bool a, ∃ x, d = D.v x := by
  intro a d h
  simp only [en_bool, List.mem_cons, List.not_mem_nil, or_false] at h
  rcases h with rfl <;> exact ⟨_, rfl⟩
theorem bt311 : ∀ parts, Try.prog.built 311 parts = Instr.fill (fun i => (#[(0, 4), (4, 1), (5, 1), (6, 1), (7, 1)] : Array (Nat × Nat))[i]?) (AV.denL (fun _ => undef) [.val (.bool false), .val (.bool false), .val (.slice none 0 0), .val (.int .i64 0), .val (.int .i64 0), .val (.map none), .val (.map none), .val (.map none)]).toArray parts := fun _ => by kernel_rfl
theorem bt313 : ∀ parts, Try.prog.built 313 parts = Instr.fill (fun i => (#[(0, 1), (1, 1)] : Array (Nat × Nat))[i]?) (AV.denL (fun _ => undef) [.val (.int .i64 0), .val (.int .i64 0)]).toArray parts := fun _ => by kernel_rfl
theorem vt313 : VarT Try.prog 313 2 true := ⟨Try.isAgg313, Try.sizeOf313⟩
theorem ft313_0 : FieldT Try.prog 313 0 0 3 := ⟨_, _, Try.underlying313, rfl, rfl, rfl⟩
theorem vt306 : VarT Try.prog 306 1 false := ⟨Try.isAgg306, Try.sizeOf306⟩
theorem ft311_1 : FieldT Try.prog 311 1 4 3 := ⟨_, _, Try.underlying311, rfl, rfl, rfl⟩
theorem bt315 : ∀ parts, Try.prog.built 315 parts = Instr.fill (fun i => (#[(0, 1), (1, 1)] : Array (Nat × Nat))[i]?) (AV.denL (fun _ => undef) [.val (.int .i64 0), .val (.int .i64 0)]).toArray parts := fun _ => by kernel_rfl
theorem ft313_1 : FieldT Try.prog 313 1 1 3 := ⟨_, _, Try.underlying313, rfl, rfl, rfl⟩
theorem ft311_0 : FieldT Try.prog 311 0 0 191 := ⟨_, _, Try.underlying311, rfl, rfl, rfl⟩
theorem vt315 : VarT Try.prog 315 2 true := ⟨Try.isAgg315, Try.sizeOf315⟩
theorem ft311_4 : FieldT Try.prog 311 4 7 309 := ⟨_, _, Try.underlying311, rfl, rfl, rfl⟩
theorem vt309 : VarT Try.prog 309 1 false := ⟨Try.isAgg309, Try.sizeOf309⟩
theorem ft311_2 : FieldT Try.prog 311 2 5 307 := ⟨_, _, Try.underlying311, rfl, rfl, rfl⟩
theorem vt307 : VarT Try.prog 307 1 false := ⟨Try.isAgg307, Try.sizeOf307⟩
def ye_funcapi_StrikeStep_bool : Int × Bool → List AV := fun a => [.agg [.val (.int .i64 a.1), .val (.bool a.2)]]
def yn_funcapi_StrikeStep_bool : Int × Bool → List NEnt := fun a => []
theorem bt492 : ∀ parts, Try.prog.built 492 parts = Instr.fill (fun i => some (i * 1, 1)) (AV.denL (fun _ => undef) [.val (.bool false), .val (.bool false)]).toArray parts := fun _ => by kernel_rfl
theorem bt175 : ∀ parts, Try.prog.built 175 parts = Instr.fill (fun i => (#[(0, 1), (1, 1)] : Array (Nat × Nat))[i]?) (AV.denL (fun _ => undef) [.val (.int .i64 0), .val (.bool false)]).toArray parts := fun _ => by kernel_rfl
theorem vt175 : VarT Try.prog 175 2 true := ⟨Try.isAgg175, Try.sizeOf175⟩
theorem ft175_0 : FieldT Try.prog 175 0 0 3 := ⟨_, _, Try.underlying175, rfl, rfl, rfl⟩
theorem ft175_1 : FieldT Try.prog 175 1 1 4 := ⟨_, _, Try.underlying175, rfl, rfl, rfl⟩
theorem ft315_0 : FieldT Try.prog 315 0 0 3 := ⟨_, _, Try.underlying315, rfl, rfl, rfl⟩
theorem ft315_1 : FieldT Try.prog 315 1 1 3 := ⟨_, _, Try.underlying315, rfl, rfl, rfl⟩
theorem ft311_3 : FieldT Try.prog 311 3 6 308 := ⟨_, _, Try.underlying311, rfl, rfl, rfl⟩
theorem vt308 : VarT Try.prog 308 1 false := ⟨Try.isAgg308, Try.sizeOf308⟩
theorem sl171 : SlT Try.prog 171 175 2 16 := ⟨Try.underlying171, ⟨Try.t175, _, by kernel_rfl, rfl, rfl, rfl, rfl⟩, by decide⟩
theorem eq175 (a0 : Int) (a1 : Bool) (b0 : Int) (b1 : Bool) : EqT Try.prog 175 [.int .i64 a0, .bool a1] [.int .i64 b0, .bool b1] (((a0 == b0) && (a1 == b1))) := ⟨Try.eqGuardType175, fun w => by
  simp [go_sem, Try.underlying175, Try.underlying3, Try.underlying4, Try.isAgg175, Try.isAgg3, Try.isAgg4, Try.sizeOf175, Try.sizeOf3, Try.sizeOf4, Try.stoodInHeld175]
  (repeat' split) <;> simp_all⟩
def en_api_StrikeHeard : Int × Int → List D := fun x => [D.v (.int .i64 x.1), D.v (.int .i64 x.2)]
theorem en_api_StrikeHeard_flat : ∀ a, ∀ d ∈ en_api_StrikeHeard a, ∃ x, d = D.v x := by
  intro a d h
  simp only [en_api_StrikeHeard, List.mem_cons, List.not_mem_nil, or_false] at h
  rcases h with rfl | rfl <;> exact ⟨_, rfl⟩
theorem sl152 : SlT Try.prog 152 157 2 16 := ⟨Try.underlying152, ⟨Try.t157, _, by kernel_rfl, rfl, rfl, rfl, rfl⟩, by decide⟩
def ax_bool : Bool → List AV := fun x => [.val (.bool x)]
theorem bt157 : ∀ parts, Try.prog.built 157 parts = Instr.fill (fun i => (#[(0, 1), (1, 1)] : Array (Nat × Nat))[i]?) (AV.denL (fun _ => undef) [.val (.int .i64 0), .val (.int .i64 0)]).toArray parts := fun _ => by kernel_rfl
theorem vt157 : VarT Try.prog 157 2 true := ⟨Try.isAgg157, Try.sizeOf157⟩
theorem ft157_0 : FieldT Try.prog 157 0 0 3 := ⟨_, _, Try.underlying157, rfl, rfl, rfl⟩
theorem ft157_1 : FieldT Try.prog 157 1 1 3 := ⟨_, _, Try.underlying157, rfl, rfl, rfl⟩
def mk290 : Int → Value := fun k => .int .i64 k
theorem km290 : MKey Try.prog 290 3 3 mk290 := mkey_int Try.underlying290 Try.underlying3
def kl290 : Int → Int → Bool := fun a b => decide (a < b)
def en_2_uint8 : Int × Int → List D := fun x => [D.v (.int .u8 x.1), D.v (.int .u8 x.2)]
theorem en_2_uint8_flat : ∀ a, ∀ d ∈ en_2_uint8 a, ∃ x, d = D.v x := by
  intro a d h
  simp only [en_2_uint8, List.mem_cons, List.not_mem_nil, or_false] at h
  rcases h with rfl | rfl <;> exact ⟨_, rfl⟩
def en_api_TrainPair : Int × Int → List D := fun x => [D.v (.int .i64 x.1), D.v (.int .i64 x.2)]
theorem en_api_TrainPair_flat : ∀ a, ∀ d ∈ en_api_TrainPair a, ∃ x, d = D.v x := by
  intro a d h
  simp only [en_api_TrainPair, List.mem_cons, List.not_mem_nil, or_false] at h
  rcases h with rfl | rfl <;> exact ⟨_, rfl⟩
theorem sl23 : SlT Try.prog 23 61 2 16 := ⟨Try.underlying23, ⟨Try.t61, _, by kernel_rfl, rfl, rfl, rfl, rfl⟩, by decide⟩
theorem sl22 : SlT Try.prog 22 45 2 2 := ⟨Try.underlying22, ⟨Try.t45, _, by kernel_rfl, rfl, rfl, rfl, rfl⟩, by decide⟩
theorem bt61 : ∀ parts, Try.prog.built 61 parts = Instr.fill (fun i => (#[(0, 1), (1, 1)] : Array (Nat × Nat))[i]?) (AV.denL (fun _ => undef) [.val (.int .i64 0), .val (.int .i64 0)]).toArray parts := fun _ => by kernel_rfl
def fe_funcapi_TrainPair_bool : Int × Int → List AV := fun a => [.agg [.val (.int .i64 a.1), .val (.int .i64 a.2)]]
def fd_funcapi_TrainPair_bool : Bool → AV := fun b => .val (.bool b)
theorem vt61 : VarT Try.prog 61 2 true := ⟨Try.isAgg61, Try.sizeOf61⟩
theorem ft61_0 : FieldT Try.prog 61 0 0 3 := ⟨_, _, Try.underlying61, rfl, rfl, rfl⟩
theorem ft61_1 : FieldT Try.prog 61 1 1 3 := ⟨_, _, Try.underlying61, rfl, rfl, rfl⟩
def ye_funcapi_Ratio_bool : Int × Int → List AV := fun a => [.agg [.val (.int .i64 a.1), .val (.int .i64 a.2)]]
def yn_funcapi_Ratio_bool : Int × Int → List NEnt := fun a => []
theorem sl178 : SlT Try.prog 178 61 2 16 := ⟨Try.underlying178, ⟨Try.t61, _, by kernel_rfl, rfl, rfl, rfl, rfl⟩, by decide⟩
theorem bt70 : ∀ parts, Try.prog.built 70 parts = Instr.fill (fun i => (#[(0, 1), (1, 1)] : Array (Nat × Nat))[i]?) (AV.denL (fun _ => undef) [.val (.slice none 0 0), .val (.slice none 0 0)]).toArray parts := fun _ => by kernel_rfl
def en_api_Train : (List Int) × (List Int) → List D := fun x => [D.s 1 (List.map en_int x.1), D.s 1 (List.map en_int x.2)]
theorem vt70 : VarT Try.prog 70 2 true := ⟨Try.isAgg70, Try.sizeOf70⟩
theorem ft70_0 : FieldT Try.prog 70 0 0 50 := ⟨_, _, Try.underlying70, rfl, rfl, rfl⟩
theorem ft70_1 : FieldT Try.prog 70 1 1 50 := ⟨_, _, Try.underlying70, rfl, rfl, rfl⟩
theorem bt429 : ∀ parts, Try.prog.built 429 parts = Instr.fill (fun i => some (i * 1, 1)) (AV.denL (fun _ => undef) [.val (.slice none 0 0), .val (.slice none 0 0)]).toArray parts := fun _ => by kernel_rfl
theorem vt429 : VarT Try.prog 429 2 true := ⟨Try.isAgg429, Try.sizeOf429⟩
theorem bt207 : ∀ parts, Try.prog.built 207 parts = Instr.fill (fun i => (#[(0, 2), (2, 2)] : Array (Nat × Nat))[i]?) (AV.denL (fun _ => undef) [.val (.slice none 0 0), .val (.slice none 0 0), .val (.int .i64 0), .val (.int .i64 0)]).toArray parts := fun _ => by kernel_rfl
theorem vt207 : VarT Try.prog 207 4 true := ⟨Try.isAgg207, Try.sizeOf207⟩
def mk341 : Int → Value := fun k => .int .i64 k
theorem km341 : MKey Try.prog 341 3 346 mk341 := mkey_int Try.underlying341 Try.underlying3
def en_Lint : (List Int) → List D := fun x => [D.s 1 (List.map en_int x)]
def en_LLint : (List ((List Int))) → List D := fun x => [D.s 1 (List.map en_Lint x)]
theorem vt341 : VarT Try.prog 341 1 false := ⟨Try.isAgg341, Try.sizeOf341⟩
theorem ft207_0 : FieldT Try.prog 207 0 0 70 := ⟨_, _, Try.underlying207, rfl, rfl, rfl⟩
theorem vt431 : VarT Try.prog 431 1 false := ⟨Try.isAgg431, Try.sizeOf431⟩
def ye_functrain_counts_bool : (List Int) × Int → List AV := fun a => [.agg [.ref 900, .val (.int .i64 a.2)]]
def yn_functrain_counts_bool : (List Int) × Int → List NEnt := fun a => [.ro 900 1 (List.map en_int a.1)]
theorem bt345 : ∀ parts, Try.prog.built 345 parts = Instr.fill (fun i => (#[(0, 1), (1, 1)] : Array (Nat × Nat))[i]?) (AV.denL (fun _ => undef) [.val (.slice none 0 0), .val (.int .i64 0)]).toArray parts := fun _ => by kernel_rfl
theorem ft345_0 : FieldT Try.prog 345 0 0 50 := ⟨_, _, Try.underlying345, rfl, rfl, rfl⟩
theorem vt345 : VarT Try.prog 345 2 true := ⟨Try.isAgg345, Try.sizeOf345⟩
theorem ft345_1 : FieldT Try.prog 345 1 1 3 := ⟨_, _, Try.underlying345, rfl, rfl, rfl⟩
theorem sl346 : SlT Try.prog 346 50 1 24 := ⟨Try.underlying346, ⟨Try.t50, _, by kernel_rfl, rfl, rfl, rfl, rfl⟩, by decide⟩
theorem ft207_1 : FieldT Try.prog 207 1 2 26 := ⟨_, _, Try.underlying207, rfl, rfl, rfl⟩
theorem vt71 : VarT Try.prog 71 1 false := ⟨Try.isAgg71, Try.sizeOf71⟩
theorem bt74 : ∀ parts, Try.prog.built 74 parts = Instr.fill (fun i => (#[(0, 1), (1, 1)] : Array (Nat × Nat))[i]?) (AV.denL (fun _ => undef) [.val (.slice none 0 0), .val (.slice none 0 0)]).toArray parts := fun _ => by kernel_rfl
theorem sl71 : SlT Try.prog 71 74 2 48 := ⟨Try.underlying71, ⟨Try.t74, _, by kernel_rfl, rfl, rfl, rfl, rfl⟩, by decide⟩
theorem eq26 (a0 : Int) (a1 : Int) (b0 : Int) (b1 : Int) : EqT Try.prog 26 [.int .i64 a0, .int .i64 a1] [.int .i64 b0, .int .i64 b1] (((a0 == b0) && (a1 == b1))) := ⟨Try.eqGuardType26, fun w => by
  simp [go_sem, Try.underlying26, Try.underlying3, Try.isAgg26, Try.isAgg3, Try.sizeOf26, Try.sizeOf3, Try.stoodInHeld26]
  (repeat' split) <;> simp_all⟩
theorem ft74_0 : FieldT Try.prog 74 0 0 50 := ⟨_, _, Try.underlying74, rfl, rfl, rfl⟩
theorem ft74_1 : FieldT Try.prog 74 1 1 50 := ⟨_, _, Try.underlying74, rfl, rfl, rfl⟩
theorem vt67 : VarT Try.prog 67 5 true := ⟨Try.isAgg67, Try.sizeOf67⟩
def ax_uint8 : Int → List AV := fun x => [.val (.int .u8 x)]
/- top_pubSpan -/
def ev_top_pubSpan (n : Nat) (low1 : Int) (high2 : Int) : Option (Int × Int) :=
  some (low1, high2)
set_option maxRecDepth 100000 in
set_option maxHeartbeats 2000000 in
theorem fc_top_pubSpan {n : Nat} {low1 : Int} {high2 : Int} {r : Int × Int} (h : ev_top_pubSpan n low1 high2 = some r) : FC Try.prog 20 [.val (.int .i64 low1), .val (.int .i64 high2)] [] (.agg [.val (.int .i64 r.1), .val (.int .i64 r.2)]) [] := by
  refine introJ (nz := 8) Try.func20 rfl rfl rfl (fun w0 R0 env0 => ?_)
  rw [ev_top_pubSpan] at h
  refine TC.seq ?_
  refine TC.region ?_
  refine op0 (sp_alloc 0 rfl Try.zeroValue34 rfl) rfl trivial rfl rfl ?_
  refine TL.nil ?_
  refine TC.seq ?_
  refine TC.region ?_
  refine op0 (sp_move rfl rfl) rfl trivial rfl rfl ?_
  refine op0 (sp_move rfl rfl) rfl trivial rfl rfl ?_
  refine op0 (sp_build (qs := [(0, .val (.int .i64 low1)), (1, .val (.int .i64 high2))]) rfl bt34 rfl rfl rfl rfl) rfl trivial rfl rfl ?_
  refine stoB 0 (cells' := [.val (.int .i64 low1), .val (.int .i64 high2)]) rfl rfl trivial rfl rfl rfl rfl vt34 rfl rfl rfl ?_
  refine TL.nil ?_
  cases h
  exact retJ [] (.cells rfl (mem_at 0 rfl) isBlk vt34 rfl rfl (.nil)) rfl trivial rfl rfl
/- top_pubHours -/
def ev_top_pubHours_l0 (n : Nat) : Nat → Int → Int → Int → (List (Int × Int)) → Option ((List (Int × Int)))
  | 0, _, _, _, _ => none
  | m + 1, i3, i4, i5, l6 => cond (decide (i3 < 24)) (chk (room 16 (l6.length + ([(i4, i5)] : List (Int × Int)).length)) <| chk (in64 (i3 + 1)) <| ev_top_pubHours_l0 n m (i3 + 1) i4 i5 (l6 ++ ([(i4, i5)] : List (Int × Int)))) (some l6)
set_option maxRecDepth 100000 in
set_option maxHeartbeats 2000000 in
theorem ok_top_pubHours_l0 {n : Nat} {w0 : World} {R0 : Nat → Prop} {env0 : Env} {r : (List (Int × Int))} : ∀ (m : Nat) (i3 : Int) (i4 : Int) (i5 : Int) (l6 : List (Int × Int)), ev_top_pubHours_l0 n m i3 i4 i5 l6 = some r → TC Try.prog ⟨w0, fun _ => False, R0⟩ 15 (bodyPost Try.prog Try.f24 (Post ⟨w0, fun _ => False, R0⟩ env0 (.ref 0) [.row 0 34 2 (List.map en_api_Span r)])) [.code (sub (bodyOf Try.f24) [1, 1, 0, 1, 0, 0, 0, 0]), .code (sub (bodyOf Try.f24) [1, 1, 0, 1, 0, 0, 0, 1]), .code (sub (bodyOf Try.f24) [1, 1, 0, 1, 0, 0, 1]), .inLoop (sub (bodyOf Try.f24) [1, 1, 0, 1, 0, 0]), .inBlock 0, .code (sub (bodyOf Try.f24) [1, 1, 1])] ([(1, .ptr 0 0), (3, .ref 1), (4, .val (.int .i64 i3))]) ([.blk 0 [.val (.int .i64 i4), .val (.int .i64 i5)] 34, .row 1 34 2 (List.map en_api_Span l6)]) := by
  intro m
  induction m with
  | zero => intro i3 i4 i5 l6 h; exact none_no h
  | succ m ih =>
    intro i3 i4 i5 l6 h
    rw [ev_top_pubHours_l0] at h
    refine TC.region ?_
    refine op0 (sp_move rfl rfl) rfl trivial rfl rfl ?_
    refine op0 (sp_lss rfl rfl rfl) rfl trivial rfl rfl ?_
    refine TL.nil ?_
    refine TC.cond (b := (decide (i3 < 24))) rfl (fun h1 => ?_) (fun h1 => ?_)
    · have h := cond_t h h1
      refine TC.skip ?_
      refine TC.seq ?_
      refine TC.block ?_
      refine TC.region ?_
      refine op0 (sp_move rfl rfl) rfl trivial rfl rfl ?_
      refine op1 0 rfl (sp_loadBA rfl isBlk rfl vt34 rfl rfl) rfl trivial rfl rfl ?_
      refine op0 (sp_buildSlice (qs := [.agg [.val (.int .i64 i4), .val (.int .i64 i5)]]) (need := []) (els := List.map en_api_Span ([(i4, i5)] : List (Int × Int))) 2 rfl sl39 (by decide) (by decide) rfl rfl rfl (.v (.v (.nil))) (map_len fun _ => rfl) rfl rfl rfl) rfl trivial rfl rfl ?_
      obtain ⟨h2, h⟩ := chk_inv h
      refine appM 2 0 (N := l6.length) (N2 := ([(i4, i5)] : List (Int × Int)).length) 3 rfl rfl trivial rfl rfl rfl rfl rfl isOwn rfl sl39 (len_map _ _) (len_map _ _) h2 (map_app _ _ _) rfl ?_
      refine op0 (sp_assign rfl rfl) rfl trivial rfl rfl ?_
      refine TL.nil ?_
      refine TC.inBlock ?_
      refine TC.region ?_
      refine op0 (sp_move rfl rfl) rfl trivial rfl rfl ?_
      obtain ⟨h3, h⟩ := chk_inv h
      refine op0 (sp_add rfl rfl rfl h3) rfl trivial rfl rfl ?_
      refine op0 (sp_assign rfl rfl) rfl trivial rfl rfl ?_
      refine TL.nil ?_
      refine TC.inLoop ?_
      refine TC.seq ?_
      refine TC.seq ?_
      refine subJ [(1, 3)] (ih _ _ _ _ h) ?_ ?_ ?_
      · exact ⟨rfl, rfl, rfl, trivial⟩
      · exact ⟨mem_at 2 rfl, mem_at 0 rfl, trivial⟩
      · rfl
    · have h := cond_f h h1
      refine TC.exit rfl ?_
      refine TC.seq ?_
      refine TC.region ?_
      refine op0 (sp_move rfl rfl) rfl trivial rfl rfl ?_
      refine op0 (sp_assign rfl rfl) rfl trivial rfl rfl ?_
      refine TL.nil ?_
      cases h
      exact retJ [(0, 1)] (.tmp rfl .nil) rfl ⟨mem_at 1 rfl, trivial⟩ rfl rfl
def ev_top_pubHours (n : Nat) (s1 : Int) (s2 : Int) : Option ((List (Int × Int))) :=
  ev_top_pubHours_l0 n n 0 s1 s2 ([] : List (Int × Int))
set_option maxRecDepth 100000 in
set_option maxHeartbeats 2000000 in
theorem fc_top_pubHours {n : Nat} {s1 : Int} {s2 : Int} {r : (List (Int × Int))} (h : ev_top_pubHours n s1 s2 = some r) : FC Try.prog 24 [.agg [.val (.int .i64 s1), .val (.int .i64 s2)]] [] (.ref 0) [.row 0 34 2 (List.map en_api_Span r)] := by
  refine introJ (nz := 15) Try.func24 rfl rfl rfl (fun w0 R0 env0 => ?_)
  rw [ev_top_pubHours] at h
  refine TC.seq ?_
  refine TC.region ?_
  refine op0 (sp_box 0 rfl rfl rfl rfl rfl) rfl trivial rfl rfl ?_
  refine op0 (sp_assign rfl rfl) rfl trivial rfl rfl ?_
  refine TL.nil ?_
  refine TC.seq ?_
  refine TC.region ?_
  refine op0 (sp_emptyM 1 (List.map en_api_Span []) rfl rfl sl39) rfl trivial rfl rfl ?_
  refine op0 (sp_assign rfl rfl) rfl trivial rfl rfl ?_
  refine TL.nil ?_
  refine TC.seq ?_
  refine TC.seq ?_
  refine TC.region ?_
  refine op0 (sp_assign rfl rfl) rfl trivial rfl rfl ?_
  refine TL.nil ?_
  refine TC.block ?_
  refine TC.loop ?_
  refine TC.seq ?_
  refine TC.seq ?_
  refine subJ [] (ok_top_pubHours_l0 _ _ _ _ _ h) ?_ ?_ ?_
  · exact ⟨rfl, rfl, rfl, trivial⟩
  · exact ⟨mem_at 1 rfl, mem_at 0 rfl, trivial⟩
  · rfl
/- slices_IndexFunc_Lint_int -/
def ev_slices_IndexFunc_Lint_int_l0 (n : Nat) (s1 : List Int) (f2 : Int → Option Bool) : Nat → Int → Option Int
  | 0, _ => none
  | m + 1, i3 => cond (decide (i3 < (s1.length : Int))) (idx s1 i3 fun x4 => (f2 x4).bind fun r5 => cond r5 (some i3) (chk (in64 (i3 + 1)) <| ev_slices_IndexFunc_Lint_int_l0 n s1 f2 m (i3 + 1))) (some (-1))
set_option maxRecDepth 100000 in
set_option maxHeartbeats 2000000 in
theorem ok_slices_IndexFunc_Lint_int_l0 {n : Nat} {w0 : World} {R0 : Nat → Prop} {env0 : Env} {r : Int} {s1 : List Int} {f2 : Int → Option Bool} : ∀ (m : Nat) (i3 : Int), ev_slices_IndexFunc_Lint_int_l0 n s1 f2 m i3 = some r → TC Try.prog ⟨w0, fun _ => False, R0⟩ 19 (bodyPost Try.prog Try.f237 (Post ⟨w0, fun _ => False, R0⟩ env0 (.val (.int .i64 r)) [])) [.code (sub (bodyOf Try.f237) [1, 0, 1, 0, 0, 0]), .code (sub (bodyOf Try.f237) [1, 0, 1, 0, 0, 1]), .inLoop (sub (bodyOf Try.f237) [1, 0, 1, 0, 0]), .inBlock 0, .code (sub (bodyOf Try.f237) [1, 1])] ([(0, .ref 0), (1, .ref 1), (7, .val (.int .i64 (s1.length : Int))), (8, .val (.int .i64 i3))]) ([.ro 0 1 (List.map en_int s1), .any 1 (D.fn Try.prog fe_funcint_bool fd_funcint_bool f2)]) := by
  intro m
  induction m with
  | zero => intro i3 h; exact none_no h
  | succ m ih =>
    intro i3 h
    rw [ev_slices_IndexFunc_Lint_int_l0] at h
    refine TC.region ?_
    refine op0 (sp_lss rfl rfl rfl) rfl trivial rfl rfl ?_
    refine TL.nil ?_
    refine TC.seq ?_
    refine TC.cond (b := (decide (i3 < (s1.length : Int)))) rfl (fun h1 => ?_) (fun h1 => ?_)
    · have h := cond_t h h1
      refine TC.skip ?_
      refine TC.seq ?_
      refine TC.block ?_
      refine TC.seq ?_
      refine TC.region ?_
      refine op0 (sp_move rfl rfl) rfl trivial rfl rfl ?_
      refine op0 (sp_assign rfl rfl) rfl trivial rfl rfl ?_
      refine TL.nil ?_
      refine TC.seq ?_
      refine TC.region ?_
      refine op0 (sp_move rfl rfl) rfl trivial rfl rfl ?_
      refine op0 (sp_move rfl rfl) rfl trivial rfl rfl ?_
      refine op0 (sp_move rfl rfl) rfl trivial rfl rfl ?_
      obtain ⟨x4, h2, h3, h⟩ := idx_inv h
      refine op1 0 rfl (sp_indexS rfl rfl rfl isRo sl50 h2 (map_get _ h3)) rfl trivial rfl rfl ?_
      refine op1 0 rfl (sp_loadR (i := (i3 : Int).toNat) (j := 0) rfl rfl isRo vt3 rfl (map_get _ h3) rfl (.v (.nil)) (nodup_of_B rfl)) rfl trivial rfl rfl ?_
      obtain ⟨r5, h4, h⟩ := bind_inv h
      refine op1 1 rfl (sp_callF (avs := [.val (.int .i64 x4)]) (v := .val (.bool r5)) x4 rfl rfl rfl rfl rfl h4) rfl trivial rfl rfl ?_
      refine TL.nil ?_
      refine TC.cond (b := r5) rfl (fun h5 => ?_) (fun h5 => ?_)
      · have h := cond_t h h5
        refine TC.seq ?_
        refine TC.region ?_
        refine op0 (sp_move rfl rfl) rfl trivial rfl rfl ?_
        refine op0 (sp_assign rfl rfl) rfl trivial rfl rfl ?_
        refine TL.nil ?_
        cases h
        exact retJ [] (.tmp rfl .nil) rfl trivial rfl rfl
      · have h := cond_f h h5
        refine TC.skip ?_
        refine TC.inBlock ?_
        refine TC.region ?_
        obtain ⟨h6, h⟩ := chk_inv h
        refine op0 (sp_add rfl rfl rfl h6) rfl trivial rfl rfl ?_
        refine op0 (sp_move rfl rfl) rfl trivial rfl rfl ?_
        refine TL.nil ?_
        refine TC.inLoop ?_
        refine TC.seq ?_
        refine subJ [] (ih _ h) ?_ ?_ ?_
        · exact ⟨rfl, rfl, rfl, rfl, trivial⟩
        · exact ⟨mem_at 0 rfl, mem_at 1 rfl, trivial⟩
        · rfl
    · have h := cond_f h h1
      refine TC.exit rfl ?_
      refine TC.seq ?_
      refine TC.region ?_
      refine op0 (sp_assign rfl rfl) rfl trivial rfl rfl ?_
      refine TL.nil ?_
      cases h
      exact retJ [] (.tmp rfl .nil) rfl trivial rfl rfl
def ev_slices_IndexFunc_Lint_int (n : Nat) (s1 : List Int) (f2 : Int → Option Bool) : Option Int :=
  ev_slices_IndexFunc_Lint_int_l0 n s1 f2 n 0
set_option maxRecDepth 100000 in
set_option maxHeartbeats 2000000 in
theorem fc_slices_IndexFunc_Lint_int {n : Nat} {s1 : List Int} {f2 : Int → Option Bool} {r : Int} (h : ev_slices_IndexFunc_Lint_int n s1 f2 = some r) : FC Try.prog 237 [.ref 0, .ref 1] [.ro 0 1 (List.map en_int s1), .any 1 (D.fn Try.prog fe_funcint_bool fd_funcint_bool f2)] (.val (.int .i64 r)) [] := by
  refine introJ (nz := 19) Try.func237 rfl rfl rfl (fun w0 R0 env0 => ?_)
  rw [ev_slices_IndexFunc_Lint_int] at h
  refine TC.seq ?_
  refine TC.region ?_
  refine op0 (sp_assign rfl rfl) rfl trivial rfl rfl ?_
  refine TL.nil ?_
  refine TC.seq ?_
  refine TC.seq ?_
  refine TC.region ?_
  refine op0 (sp_move rfl rfl) rfl trivial rfl rfl ?_
  refine op1 0 rfl (sp_lenM (N := s1.length) (len_map _ _) rfl rfl isRo Try.underlying50) rfl trivial rfl rfl ?_
  refine op0 (sp_move rfl rfl) rfl trivial rfl rfl ?_
  refine TL.nil ?_
  refine TC.block ?_
  refine TC.loop ?_
  refine TC.seq ?_
  refine subJ [] (ok_slices_IndexFunc_Lint_int_l0 _ _ h) ?_ ?_ ?_
  · exact ⟨rfl, rfl, rfl, rfl, trivial⟩
  · exact ⟨mem_at 0 rfl, mem_at 1 rfl, trivial⟩
  · rfl
/- slices_ContainsFunc_Lint_int -/
def ev_slices_ContainsFunc_Lint_int (n : Nat) (s1 : List Int) (f2 : Int → Option Bool) : Option Bool :=
  (ev_slices_IndexFunc_Lint_int n s1 f2).bind fun r3 => some (decide ((0 : Int) ≤ r3))
set_option maxRecDepth 100000 in
set_option maxHeartbeats 2000000 in
theorem fc_slices_ContainsFunc_Lint_int {n : Nat} {s1 : List Int} {f2 : Int → Option Bool} {r : Bool} (h : ev_slices_ContainsFunc_Lint_int n s1 f2 = some r) : FC Try.prog 142 [.ref 0, .ref 1] [.ro 0 1 (List.map en_int s1), .any 1 (D.fn Try.prog fe_funcint_bool fd_funcint_bool f2)] (.val (.bool r)) [] := by
  refine introJ (nz := 9) Try.func142 rfl rfl rfl (fun w0 R0 env0 => ?_)
  rw [ev_slices_ContainsFunc_Lint_int] at h
  refine TC.seq ?_
  refine TC.region ?_
  refine op0 (sp_assign rfl rfl) rfl trivial rfl rfl ?_
  refine TL.nil ?_
  refine TC.seq ?_
  refine TC.region ?_
  refine op0 (sp_move rfl rfl) rfl trivial rfl rfl ?_
  refine op0 (sp_move rfl rfl) rfl trivial rfl rfl ?_
  obtain ⟨r3, h1, h⟩ := bind_inv h
  refine opN (need := [.ro 0 1 (List.map en_int s1), .any 1 (D.fn Try.prog fe_funcint_bool fd_funcint_bool f2)]) [0, 1] ⟨rfl, rfl, trivial⟩ (sp_call (avs := [.ref 0, .ref 1]) (need := [.ro 0 1 (List.map en_int s1), .any 1 (D.fn Try.prog fe_funcint_bool fd_funcint_bool f2)]) (v := .val (.int .i64 r3)) (news := []) rfl rfl rfl Try.call237 (atJ [] [] (fc_slices_IndexFunc_Lint_int h1) rfl rfl) (.inl (roAll rfl))) rfl trivial rfl rfl ?_
  refine op0 (sp_geq rfl rfl rfl) rfl trivial rfl rfl ?_
  refine op0 (sp_assign rfl rfl) rfl trivial rfl rfl ?_
  refine TL.nil ?_
  cases h
  exact retJ [] (.tmp rfl .nil) rfl trivial rfl rfl
/- slices_IndexFunc_Lapi_Span_api_Span -/
def ev_slices_IndexFunc_Lapi_Span_api_Span_l0 (n : Nat) (s1 : List (Int × Int)) (f2 : (Int × Int) → Option Bool) : Nat → Int → Option Int
  | 0, _ => none
  | m + 1, i3 => cond (decide (i3 < (s1.length : Int))) (idx s1 i3 fun x4 => (f2 (x4.1, x4.2)).bind fun r5 => cond r5 (some i3) (chk (in64 (i3 + 1)) <| ev_slices_IndexFunc_Lapi_Span_api_Span_l0 n s1 f2 m (i3 + 1))) (some (-1))
set_option maxRecDepth 100000 in
set_option maxHeartbeats 2000000 in
theorem ok_slices_IndexFunc_Lapi_Span_api_Span_l0 {n : Nat} {w0 : World} {R0 : Nat → Prop} {env0 : Env} {r : Int} {s1 : List (Int × Int)} {f2 : (Int × Int) → Option Bool} : ∀ (m : Nat) (i3 : Int), ev_slices_IndexFunc_Lapi_Span_api_Span_l0 n s1 f2 m i3 = some r → TC Try.prog ⟨w0, fun _ => False, R0⟩ 19 (bodyPost Try.prog Try.f239 (Post ⟨w0, fun _ => False, R0⟩ env0 (.val (.int .i64 r)) [])) [.code (sub (bodyOf Try.f239) [1, 0, 1, 0, 0, 0]), .code (sub (bodyOf Try.f239) [1, 0, 1, 0, 0, 1]), .inLoop (sub (bodyOf Try.f239) [1, 0, 1, 0, 0]), .inBlock 0, .code (sub (bodyOf Try.f239) [1, 1])] ([(0, .ref 0), (1, .ref 1), (7, .val (.int .i64 (s1.length : Int))), (8, .val (.int .i64 i3))]) ([.ro 0 2 (List.map en_api_Span s1), .any 1 (D.fn Try.prog fe_funcapi_Span_bool fd_funcapi_Span_bool f2)]) := by
  intro m
  induction m with
  | zero => intro i3 h; exact none_no h
  | succ m ih =>
    intro i3 h
    rw [ev_slices_IndexFunc_Lapi_Span_api_Span_l0] at h
    refine TC.region ?_
    refine op0 (sp_lss rfl rfl rfl) rfl trivial rfl rfl ?_
    refine TL.nil ?_
    refine TC.seq ?_
    refine TC.cond (b := (decide (i3 < (s1.length : Int)))) rfl (fun h1 => ?_) (fun h1 => ?_)
    · have h := cond_t h h1
      refine TC.skip ?_
      refine TC.seq ?_
      refine TC.block ?_
      refine TC.seq ?_
      refine TC.region ?_
      refine op0 (sp_move rfl rfl) rfl trivial rfl rfl ?_
      refine op0 (sp_assign rfl rfl) rfl trivial rfl rfl ?_
      refine TL.nil ?_
      refine TC.seq ?_
      refine TC.region ?_
      refine op0 (sp_move rfl rfl) rfl trivial rfl rfl ?_
      refine op0 (sp_move rfl rfl) rfl trivial rfl rfl ?_
      refine op0 (sp_move rfl rfl) rfl trivial rfl rfl ?_
      obtain ⟨x4, h2, h3, h⟩ := idx_inv h
      refine op1 0 rfl (sp_indexS rfl rfl rfl isRo sl39 h2 (map_get _ h3)) rfl trivial rfl rfl ?_
      refine op1 0 rfl (sp_loadRA (i := (i3 : Int).toNat) (j := 0) (as_ := [.val (.int .i64 x4.1), .val (.int .i64 x4.2)]) (ns := []) rfl rfl isRo vt34 rfl (map_get _ h3) rfl rfl (by decide) (.v (.v (.nil))) (nodup_of_B rfl)) rfl trivial rfl rfl ?_
      obtain ⟨r5, h4, h⟩ := bind_inv h
      refine op1 1 rfl (sp_callF (avs := [.agg [.val (.int .i64 x4.1), .val (.int .i64 x4.2)]]) (v := .val (.bool r5)) (x4.1, x4.2) rfl rfl rfl rfl rfl h4) rfl trivial rfl rfl ?_
      refine TL.nil ?_
      refine TC.cond (b := r5) rfl (fun h5 => ?_) (fun h5 => ?_)
      · have h := cond_t h h5
        refine TC.seq ?_
        refine TC.region ?_
        refine op0 (sp_move rfl rfl) rfl trivial rfl rfl ?_
        refine op0 (sp_assign rfl rfl) rfl trivial rfl rfl ?_
        refine TL.nil ?_
        cases h
        exact retJ [] (.tmp rfl .nil) rfl trivial rfl rfl
      · have h := cond_f h h5
        refine TC.skip ?_
        refine TC.inBlock ?_
        refine TC.region ?_
        obtain ⟨h6, h⟩ := chk_inv h
        refine op0 (sp_add rfl rfl rfl h6) rfl trivial rfl rfl ?_
        refine op0 (sp_move rfl rfl) rfl trivial rfl rfl ?_
        refine TL.nil ?_
        refine TC.inLoop ?_
        refine TC.seq ?_
        refine subJ [] (ih _ h) ?_ ?_ ?_
        · exact ⟨rfl, rfl, rfl, rfl, trivial⟩
        · exact ⟨mem_at 0 rfl, mem_at 1 rfl, trivial⟩
        · rfl
    · have h := cond_f h h1
      refine TC.exit rfl ?_
      refine TC.seq ?_
      refine TC.region ?_
      refine op0 (sp_assign rfl rfl) rfl trivial rfl rfl ?_
      refine TL.nil ?_
      cases h
      exact retJ [] (.tmp rfl .nil) rfl trivial rfl rfl
def ev_slices_IndexFunc_Lapi_Span_api_Span (n : Nat) (s1 : List (Int × Int)) (f2 : (Int × Int) → Option Bool) : Option Int :=
  ev_slices_IndexFunc_Lapi_Span_api_Span_l0 n s1 f2 n 0
set_option maxRecDepth 100000 in
set_option maxHeartbeats 2000000 in
theorem fc_slices_IndexFunc_Lapi_Span_api_Span {n : Nat} {s1 : List (Int × Int)} {f2 : (Int × Int) → Option Bool} {r : Int} (h : ev_slices_IndexFunc_Lapi_Span_api_Span n s1 f2 = some r) : FC Try.prog 239 [.ref 0, .ref 1] [.ro 0 2 (List.map en_api_Span s1), .any 1 (D.fn Try.prog fe_funcapi_Span_bool fd_funcapi_Span_bool f2)] (.val (.int .i64 r)) [] := by
  refine introJ (nz := 19) Try.func239 rfl rfl rfl (fun w0 R0 env0 => ?_)
  rw [ev_slices_IndexFunc_Lapi_Span_api_Span] at h
  refine TC.seq ?_
  refine TC.region ?_
  refine op0 (sp_assign rfl rfl) rfl trivial rfl rfl ?_
  refine TL.nil ?_
  refine TC.seq ?_
  refine TC.seq ?_
  refine TC.region ?_
  refine op0 (sp_move rfl rfl) rfl trivial rfl rfl ?_
  refine op1 0 rfl (sp_lenM (N := s1.length) (len_map _ _) rfl rfl isRo Try.underlying39) rfl trivial rfl rfl ?_
  refine op0 (sp_move rfl rfl) rfl trivial rfl rfl ?_
  refine TL.nil ?_
  refine TC.block ?_
  refine TC.loop ?_
  refine TC.seq ?_
  refine subJ [] (ok_slices_IndexFunc_Lapi_Span_api_Span_l0 _ _ h) ?_ ?_ ?_
  · exact ⟨rfl, rfl, rfl, rfl, trivial⟩
  · exact ⟨mem_at 0 rfl, mem_at 1 rfl, trivial⟩
  · rfl
/- slices_ContainsFunc_Lapi_Span_api_Span -/
def ev_slices_ContainsFunc_Lapi_Span_api_Span (n : Nat) (s1 : List (Int × Int)) (f2 : (Int × Int) → Option Bool) : Option Bool :=
  (ev_slices_IndexFunc_Lapi_Span_api_Span n s1 f2).bind fun r3 => some (decide ((0 : Int) ≤ r3))
set_option maxRecDepth 100000 in
set_option maxHeartbeats 2000000 in
theorem fc_slices_ContainsFunc_Lapi_Span_api_Span {n : Nat} {s1 : List (Int × Int)} {f2 : (Int × Int) → Option Bool} {r : Bool} (h : ev_slices_ContainsFunc_Lapi_Span_api_Span n s1 f2 = some r) : FC Try.prog 150 [.ref 0, .ref 1] [.ro 0 2 (List.map en_api_Span s1), .any 1 (D.fn Try.prog fe_funcapi_Span_bool fd_funcapi_Span_bool f2)] (.val (.bool r)) [] := by
  refine introJ (nz := 9) Try.func150 rfl rfl rfl (fun w0 R0 env0 => ?_)
  rw [ev_slices_ContainsFunc_Lapi_Span_api_Span] at h
  refine TC.seq ?_
  refine TC.region ?_
  refine op0 (sp_assign rfl rfl) rfl trivial rfl rfl ?_
  refine TL.nil ?_
  refine TC.seq ?_
  refine TC.region ?_
  refine op0 (sp_move rfl rfl) rfl trivial rfl rfl ?_
  refine op0 (sp_move rfl rfl) rfl trivial rfl rfl ?_
  obtain ⟨r3, h1, h⟩ := bind_inv h
  refine opN (need := [.ro 0 2 (List.map en_api_Span s1), .any 1 (D.fn Try.prog fe_funcapi_Span_bool fd_funcapi_Span_bool f2)]) [0, 1] ⟨rfl, rfl, trivial⟩ (sp_call (avs := [.ref 0, .ref 1]) (need := [.ro 0 2 (List.map en_api_Span s1), .any 1 (D.fn Try.prog fe_funcapi_Span_bool fd_funcapi_Span_bool f2)]) (v := .val (.int .i64 r3)) (news := []) rfl rfl rfl Try.call239 (atJ [] [] (fc_slices_IndexFunc_Lapi_Span_api_Span h1) rfl rfl) (.inl (roAll rfl))) rfl trivial rfl rfl ?_
  refine op0 (sp_geq rfl rfl rfl) rfl trivial rfl rfl ?_
  refine op0 (sp_assign rfl rfl) rfl trivial rfl rfl ?_
  refine TL.nil ?_
  cases h
  exact retJ [] (.tmp rfl .nil) rfl trivial rfl rfl
/- math_bits_Len64 -/
def ev_math_bits_Len64_j0 (n : Nat) (i2 : Int) (i3 : Int) : Option Int :=
  cond (decide ((65536 : Int) ≤ i2)) (chk (in64 (i3 + 16)) <| cond (decide ((256 : Int) ≤ (i2 / (shK .u64 16 : Int)))) (chk (in64 ((i3 + 16) + 8)) <| chk (decide (0 ≤ (IntKind.u8.wrap ((i2 / (shK .u64 16 : Int)) / (shK .u64 8 : Int))))) <| idx st_d55355c9 (IntKind.u8.wrap ((i2 / (shK .u64 16 : Int)) / (shK .u64 8 : Int))) fun v4 => chk (in64 v4) <| chk (in64 (((i3 + 16) + 8) + v4)) <| some (((i3 + 16) + 8) + v4)) (chk (decide (0 ≤ (IntKind.u8.wrap (i2 / (shK .u64 16 : Int))))) <| idx st_d55355c9 (IntKind.u8.wrap (i2 / (shK .u64 16 : Int))) fun v5 => chk (in64 v5) <| chk (in64 ((i3 + 16) + v5)) <| some ((i3 + 16) + v5))) (cond (decide ((256 : Int) ≤ i2)) (chk (in64 (i3 + 8)) <| chk (decide (0 ≤ (IntKind.u8.wrap (i2 / (shK .u64 8 : Int))))) <| idx st_d55355c9 (IntKind.u8.wrap (i2 / (shK .u64 8 : Int))) fun v6 => chk (in64 v6) <| chk (in64 ((i3 + 8) + v6)) <| some ((i3 + 8) + v6)) (chk (decide (0 ≤ (IntKind.u8.wrap i2))) <| idx st_d55355c9 (IntKind.u8.wrap i2) fun v7 => chk (in64 v7) <| chk (in64 (i3 + v7)) <| some (i3 + v7)))
set_option maxRecDepth 100000 in
set_option maxHeartbeats 2000000 in
theorem ok_math_bits_Len64_j0 {n : Nat} {w0 : World} {R0 : Nat → Prop} {env0 : Env} {r : Int} {i2 : Int} {i3 : Int} (h : ev_math_bits_Len64_j0 n i2 i3 = some r) : TC Try.prog ⟨w0, fun _ => False, R0⟩ 25 (bodyPost Try.prog Try.f313 (Post ⟨w0, fun _ => False, R0⟩ env0 (.val (.int .i64 r)) [])) [.code (sub (bodyOf Try.f313) [1, 1, 0, 0]), .code (sub (bodyOf Try.f313) [1, 1, 0, 1]), .code (sub (bodyOf Try.f313) [1, 1, 1])] ([(0, .val (.int .u64 i2)), (2, .val (.int .i64 i3))]) ([]) := by
  rw [ev_math_bits_Len64_j0] at h
  refine TC.region ?_
  refine op0 (sp_move rfl rfl) rfl trivial rfl rfl ?_
  refine op0 (sp_geq rfl rfl rfl) rfl trivial rfl rfl ?_
  refine TL.nil ?_
  refine TC.cond (b := (decide ((65536 : Int) ≤ i2))) rfl (fun h2 => ?_) (fun h2 => ?_)
  · have h := cond_t h h2
    refine TC.seq ?_
    refine TC.region ?_
    refine op0 (sp_move rfl rfl) rfl trivial rfl rfl ?_
    refine op0 (sp_shr rfl rfl rfl (by decide)) rfl trivial rfl rfl ?_
    refine op0 (sp_assign rfl rfl) rfl trivial rfl rfl ?_
    refine TL.nil ?_
    refine TC.region ?_
    refine op0 (sp_move rfl rfl) rfl trivial rfl rfl ?_
    obtain ⟨h3, h⟩ := chk_inv h
    refine op0 (sp_add rfl rfl rfl h3) rfl trivial rfl rfl ?_
    refine op0 (sp_assign rfl rfl) rfl trivial rfl rfl ?_
    refine TL.nil ?_
    refine TC.seq ?_
    refine TC.seq ?_
    refine TC.region ?_
    refine op0 (sp_move rfl rfl) rfl trivial rfl rfl ?_
    refine op0 (sp_geq rfl rfl rfl) rfl trivial rfl rfl ?_
    refine TL.nil ?_
    refine TC.cond (b := (decide ((256 : Int) ≤ (i2 / (shK .u64 16 : Int))))) rfl (fun h4 => ?_) (fun h4 => ?_)
    · have h := cond_t h h4
      refine TC.seq ?_
      refine TC.region ?_
      refine op0 (sp_move rfl rfl) rfl trivial rfl rfl ?_
      refine op0 (sp_shr rfl rfl rfl (by decide)) rfl trivial rfl rfl ?_
      refine op0 (sp_assign rfl rfl) rfl trivial rfl rfl ?_
      refine TL.nil ?_
      refine TC.region ?_
      refine op0 (sp_move rfl rfl) rfl trivial rfl rfl ?_
      obtain ⟨h5, h⟩ := chk_inv h
      refine op0 (sp_add rfl rfl rfl h5) rfl trivial rfl rfl ?_
      refine op0 (sp_assign rfl rfl) rfl trivial rfl rfl ?_
      refine TL.nil ?_
      refine TC.seq ?_
      refine TC.region ?_
      refine op0 (sp_move rfl rfl) rfl trivial rfl rfl ?_
      refine op0 (sp_move rfl rfl) rfl trivial rfl rfl ?_
      refine op0 (sp_convW rfl Try.underlying490 Try.underlying5 rfl) rfl trivial rfl rfl ?_
      obtain ⟨h8, h⟩ := chk_inv h
      obtain ⟨v4, h6, h7, h⟩ := idx_inv h
      refine op0 (sp_indexStr rfl rfl rfl Try.underlying9 st_d55355c9_ok h8 h7) rfl trivial rfl rfl ?_
      obtain ⟨h9, h⟩ := chk_inv h
      refine op0 (sp_conv rfl Try.underlying5 Try.underlying3 rfl h9) rfl trivial rfl rfl ?_
      obtain ⟨h10, h⟩ := chk_inv h
      refine op0 (sp_add rfl rfl rfl h10) rfl trivial rfl rfl ?_
      refine op0 (sp_assign rfl rfl) rfl trivial rfl rfl ?_
      refine TL.nil ?_
      cases h
      exact retJ [] (.tmp rfl .nil) rfl trivial rfl rfl
    · have h := cond_f h h4
      refine TC.skip ?_
      refine TC.seq ?_
      refine TC.region ?_
      refine op0 (sp_move rfl rfl) rfl trivial rfl rfl ?_
      refine op0 (sp_move rfl rfl) rfl trivial rfl rfl ?_
      refine op0 (sp_convW rfl Try.underlying490 Try.underlying5 rfl) rfl trivial rfl rfl ?_
      obtain ⟨h13, h⟩ := chk_inv h
      obtain ⟨v5, h11, h12, h⟩ := idx_inv h
      refine op0 (sp_indexStr rfl rfl rfl Try.underlying9 st_d55355c9_ok h13 h12) rfl trivial rfl rfl ?_
      obtain ⟨h14, h⟩ := chk_inv h
      refine op0 (sp_conv rfl Try.underlying5 Try.underlying3 rfl h14) rfl trivial rfl rfl ?_
      obtain ⟨h15, h⟩ := chk_inv h
      refine op0 (sp_add rfl rfl rfl h15) rfl trivial rfl rfl ?_
      refine op0 (sp_assign rfl rfl) rfl trivial rfl rfl ?_
      refine TL.nil ?_
      cases h
      exact retJ [] (.tmp rfl .nil) rfl trivial rfl rfl
  · have h := cond_f h h2
    refine TC.skip ?_
    refine TC.seq ?_
    refine TC.seq ?_
    refine TC.region ?_
    refine op0 (sp_move rfl rfl) rfl trivial rfl rfl ?_
    refine op0 (sp_geq rfl rfl rfl) rfl trivial rfl rfl ?_
    refine TL.nil ?_
    refine TC.cond (b := (decide ((256 : Int) ≤ i2))) rfl (fun h16 => ?_) (fun h16 => ?_)
    · have h := cond_t h h16
      refine TC.seq ?_
      refine TC.region ?_
      refine op0 (sp_move rfl rfl) rfl trivial rfl rfl ?_
      refine op0 (sp_shr rfl rfl rfl (by decide)) rfl trivial rfl rfl ?_
      refine op0 (sp_assign rfl rfl) rfl trivial rfl rfl ?_
      refine TL.nil ?_
      refine TC.region ?_
      refine op0 (sp_move rfl rfl) rfl trivial rfl rfl ?_
      obtain ⟨h17, h⟩ := chk_inv h
      refine op0 (sp_add rfl rfl rfl h17) rfl trivial rfl rfl ?_
      refine op0 (sp_assign rfl rfl) rfl trivial rfl rfl ?_
      refine TL.nil ?_
      refine TC.seq ?_
      refine TC.region ?_
      refine op0 (sp_move rfl rfl) rfl trivial rfl rfl ?_
      refine op0 (sp_move rfl rfl) rfl trivial rfl rfl ?_
      refine op0 (sp_convW rfl Try.underlying490 Try.underlying5 rfl) rfl trivial rfl rfl ?_
      obtain ⟨h20, h⟩ := chk_inv h
      obtain ⟨v6, h18, h19, h⟩ := idx_inv h
      refine op0 (sp_indexStr rfl rfl rfl Try.underlying9 st_d55355c9_ok h20 h19) rfl trivial rfl rfl ?_
      obtain ⟨h21, h⟩ := chk_inv h
      refine op0 (sp_conv rfl Try.underlying5 Try.underlying3 rfl h21) rfl trivial rfl rfl ?_
      obtain ⟨h22, h⟩ := chk_inv h
      refine op0 (sp_add rfl rfl rfl h22) rfl trivial rfl rfl ?_
      refine op0 (sp_assign rfl rfl) rfl trivial rfl rfl ?_
      refine TL.nil ?_
      cases h
      exact retJ [] (.tmp rfl .nil) rfl trivial rfl rfl
    · have h := cond_f h h16
      refine TC.skip ?_
      refine TC.seq ?_
      refine TC.region ?_
      refine op0 (sp_move rfl rfl) rfl trivial rfl rfl ?_
      refine op0 (sp_move rfl rfl) rfl trivial rfl rfl ?_
      refine op0 (sp_convW rfl Try.underlying490 Try.underlying5 rfl) rfl trivial rfl rfl ?_
      obtain ⟨h25, h⟩ := chk_inv h
      obtain ⟨v7, h23, h24, h⟩ := idx_inv h
      refine op0 (sp_indexStr rfl rfl rfl Try.underlying9 st_d55355c9_ok h25 h24) rfl trivial rfl rfl ?_
      obtain ⟨h26, h⟩ := chk_inv h
      refine op0 (sp_conv rfl Try.underlying5 Try.underlying3 rfl h26) rfl trivial rfl rfl ?_
      obtain ⟨h27, h⟩ := chk_inv h
      refine op0 (sp_add rfl rfl rfl h27) rfl trivial rfl rfl ?_
      refine op0 (sp_assign rfl rfl) rfl trivial rfl rfl ?_
      refine TL.nil ?_
      cases h
      exact retJ [] (.tmp rfl .nil) rfl trivial rfl rfl
def ev_math_bits_Len64 (n : Nat) (x1 : Int) : Option Int :=
  cond (decide ((4294967296 : Int) ≤ x1)) (ev_math_bits_Len64_j0 n (x1 / (shK .u64 32 : Int)) 32) (ev_math_bits_Len64_j0 n x1 0)
set_option maxRecDepth 100000 in
set_option maxHeartbeats 2000000 in
theorem fc_math_bits_Len64 {n : Nat} {x1 : Int} {r : Int} (h : ev_math_bits_Len64 n x1 = some r) : FC Try.prog 313 [.val (.int .u64 x1)] [] (.val (.int .i64 r)) [] := by
  refine introJ (nz := 25) Try.func313 rfl rfl rfl (fun w0 R0 env0 => ?_)
  rw [ev_math_bits_Len64] at h
  refine TC.seq ?_
  refine TC.region ?_
  refine op0 (sp_assign rfl rfl) rfl trivial rfl rfl ?_
  refine TL.nil ?_
  refine TC.seq ?_
  refine TC.seq ?_
  refine TC.region ?_
  refine op0 (sp_move rfl rfl) rfl trivial rfl rfl ?_
  refine op0 (sp_geq rfl rfl rfl) rfl trivial rfl rfl ?_
  refine TL.nil ?_
  refine TC.cond (b := (decide ((4294967296 : Int) ≤ x1))) rfl (fun h1 => ?_) (fun h1 => ?_)
  · have h := cond_t h h1
    refine TC.seq ?_
    refine TC.region ?_
    refine op0 (sp_move rfl rfl) rfl trivial rfl rfl ?_
    refine op0 (sp_shr rfl rfl rfl (by decide)) rfl trivial rfl rfl ?_
    refine op0 (sp_assign rfl rfl) rfl trivial rfl rfl ?_
    refine TL.nil ?_
    refine TC.region ?_
    refine op0 (sp_assign rfl rfl) rfl trivial rfl rfl ?_
    refine TL.nil ?_
    refine TC.seq ?_
    refine TC.seq ?_
    refine subJ [] (ok_math_bits_Len64_j0 h) ?_ ?_ ?_
    · exact ⟨rfl, rfl, trivial⟩
    · exact trivial
    · rfl
  · have h := cond_f h h1
    refine TC.skip ?_
    refine TC.seq ?_
    refine TC.seq ?_
    refine subJ [] (ok_math_bits_Len64_j0 h) ?_ ?_ ?_
    · exact ⟨rfl, rfl, trivial⟩
    · exact trivial
    · rfl
/- math_bits_Len -/
def ev_math_bits_Len (n : Nat) (x1 : Int) : Option Int :=
  (ev_math_bits_Len64 n x1).bind fun r2 => some r2
set_option maxRecDepth 100000 in
set_option maxHeartbeats 2000000 in
theorem fc_math_bits_Len {n : Nat} {x1 : Int} {r : Int} (h : ev_math_bits_Len n x1 = some r) : FC Try.prog 225 [.val (.int .u64 x1)] [] (.val (.int .i64 r)) [] := by
  refine introJ (nz := 8) Try.func225 rfl rfl rfl (fun w0 R0 env0 => ?_)
  rw [ev_math_bits_Len] at h
  refine TC.seq ?_
  refine TC.region ?_
  refine op0 (sp_assign rfl rfl) rfl trivial rfl rfl ?_
  refine TL.nil ?_
  refine TC.seq ?_
  refine TC.condF rfl ?_
  refine TC.skip ?_
  refine TC.seq ?_
  refine TC.region ?_
  refine op0 (sp_move rfl rfl) rfl trivial rfl rfl ?_
  obtain ⟨r2, h1, h⟩ := bind_inv h
  refine op0 (sp_call (avs := [.val (.int .u64 x1)]) (need := []) (v := .val (.int .i64 r2)) (news := []) rfl rfl rfl Try.call313 (atJ [] [] (fc_math_bits_Len64 h1) rfl rfl) (.inl (roAll rfl))) rfl trivial rfl rfl ?_
  refine op0 (sp_assign rfl rfl) rfl trivial rfl rfl ?_
  refine TL.nil ?_
  cases h
  exact retJ [] (.tmp rfl .nil) rfl trivial rfl rfl
/- slices_insertionSortCmpFunc_api_Span -/
def ev_slices_insertionSortCmpFunc_api_Span_l1 (n : Nat) (a2 : Int) (cmp4 : (Int × Int × Int × Int) → Option Int) (i5 : Int) (k_slices_insertionSortCmpFunc_api_Span_l0 : Int → (List (Int × Int)) → Option ((List (Int × Int)))) : Nat → Int → (List (Int × Int)) → Option ((List (Int × Int)))
  | 0, _, _ => none
  | m + 1, i7, l8 => cond (decide (a2 < i7)) (idx l8 i7 fun x9 => chk (in64 (i7 - 1)) <| idx l8 (i7 - 1) fun x10 => (cmp4 (x9.1, x9.2, x10.1, x10.2)).bind fun r11 => cond (decide (r11 < 0)) (chk (in64 (i7 - 1)) <| chk (in64 (i7 - 1)) <| idx (List.set l8 (i7 : Int).toNat (x10.1, x10.2)) (i7 - 1) fun x12 => chk (in64 (i7 - 1)) <| ev_slices_insertionSortCmpFunc_api_Span_l1 n a2 cmp4 i5 k_slices_insertionSortCmpFunc_api_Span_l0 m (i7 - 1) (List.set (List.set l8 (i7 : Int).toNat (x10.1, x10.2)) ((i7 - 1) : Int).toNat (x9.1, x9.2))) (chk (in64 (i5 + 1)) <| k_slices_insertionSortCmpFunc_api_Span_l0 (i5 + 1) l8)) (chk (in64 (i5 + 1)) <| k_slices_insertionSortCmpFunc_api_Span_l0 (i5 + 1) l8)
set_option maxRecDepth 100000 in
set_option maxHeartbeats 2000000 in
theorem ok_slices_insertionSortCmpFunc_api_Span_l1 {n : Nat} {w0 : World} {M0 R0 : Nat → Prop} {env0 : Env} {df : List Deferred} {r : (List (Int × Int))} {a2 : Int} {b3 : Int} {cmp4 : (Int × Int × Int × Int) → Option Int} {i5 : Int} {k_slices_insertionSortCmpFunc_api_Span_l0 : Int → (List (Int × Int)) → Option ((List (Int × Int)))} (hk_slices_insertionSortCmpFunc_api_Span_l0 : ∀ (i5 : Int) (l6 : List (Int × Int)), k_slices_insertionSortCmpFunc_api_Span_l0 i5 l6 = some r → TC Try.prog ⟨w0, M0, R0⟩ ⟨53, none, df⟩ (bodyPostM Fence.wide 0 Try.prog Try.f331 (PostT ⟨w0, M0, R0⟩ env0 [0] (.tup []) [.row 0 34 2 (List.map en_api_Span r)])) [.code (sub (bodyOf Try.f331) [1, 0, 0, 0, 0]), .code (sub (bodyOf Try.f331) [1, 0, 0, 0, 1]), .code (sub (bodyOf Try.f331) [1, 0, 0, 1]), .inLoop (sub (bodyOf Try.f331) [1, 0, 0]), .inBlock 0] ([(0, .ref 0), (1, .val (.int .i64 a2)), (2, .val (.int .i64 b3)), (3, .ref 1), (8, .val (.int .i64 i5))]) ([.row 0 34 2 (List.map en_api_Span l6), .any 1 (D.fn Try.prog fe_funcapi_Span_api_Span_int fd_funcapi_Span_api_Span_int cmp4), .inv 2 (marksI df), .pin 3 0 (env0 0)])) : ∀ (m : Nat) (i7 : Int) (l8 : List (Int × Int)), ev_slices_insertionSortCmpFunc_api_Span_l1 n a2 cmp4 i5 k_slices_insertionSortCmpFunc_api_Span_l0 m i7 l8 = some r → TC Try.prog ⟨w0, M0, R0⟩ ⟨53, none, df⟩ (bodyPostM Fence.wide 0 Try.prog Try.f331 (PostT ⟨w0, M0, R0⟩ env0 [0] (.tup []) [.row 0 34 2 (List.map en_api_Span r)])) [.code (sub (bodyOf Try.f331) [1, 0, 0, 1, 0, 0, 1, 0, 0, 0, 0]), .code (sub (bodyOf Try.f331) [1, 0, 0, 1, 0, 0, 1, 0, 0, 0, 1]), .code (sub (bodyOf Try.f331) [1, 0, 0, 1, 0, 0, 1, 0, 0, 1]), .inLoop (sub (bodyOf Try.f331) [1, 0, 0, 1, 0, 0, 1, 0, 0]), .inBlock 2, .inBlock 1, .code (sub (bodyOf Try.f331) [1, 0, 0, 1, 1]), .inLoop (sub (bodyOf Try.f331) [1, 0, 0]), .inBlock 0] ([(0, .ref 0), (1, .val (.int .i64 a2)), (2, .val (.int .i64 b3)), (3, .ref 1), (8, .val (.int .i64 i5)), (9, .val (.int .i64 i7))]) ([.row 0 34 2 (List.map en_api_Span l8), .any 1 (D.fn Try.prog fe_funcapi_Span_api_Span_int fd_funcapi_Span_api_Span_int cmp4), .inv 2 (marksI df), .pin 3 0 (env0 0)]) := by
  intro m
  induction m with
  | zero => intro i7 l8 h; exact none_no h
  | succ m ih =>
    intro i7 l8 h
    rw [ev_slices_insertionSortCmpFunc_api_Span_l1] at h
    rcases cond_cases h with ⟨h3, h⟩ | ⟨h3, h⟩
    · obtain ⟨x9, h4, h5, h⟩ := idx_inv h
      obtain ⟨h6, h⟩ := chk_inv h
      obtain ⟨x10, h7, h8, h⟩ := idx_inv h
      refine drawJ 14 [⟨.val (.int .i64 i7), [], [], []⟩, ⟨.val (.int .i64 a2), [], [], []⟩, ⟨.val (.bool (decide (a2 < i7))), [], [], []⟩, ⟨.val (.bool true), [], [], []⟩, ⟨.ref 1, [], [], []⟩, ⟨.ref 0, [], [], []⟩, ⟨.val (.int .i64 i7), [], [], []⟩, ⟨.cell 0 ((i7 : Int).toNat * 2), [], [.row 0 34 2 (List.map en_api_Span l8)], []⟩, ⟨.agg [.val (.int .i64 x9.1), .val (.int .i64 x9.2)], [], [.row 0 34 2 (List.map en_api_Span l8)], []⟩, ⟨.ref 0, [], [], []⟩, ⟨.val (.int .i64 i7), [], [], []⟩, ⟨.val (.int .i64 (i7 - 1)), [], [], []⟩, ⟨.cell 0 (((i7 - 1) : Int).toNat * 2), [], [.row 0 34 2 (List.map en_api_Span l8)], []⟩, ⟨.agg [.val (.int .i64 x10.1), .val (.int .i64 x10.2)], [], [.row 0 34 2 (List.map en_api_Span l8)], []⟩] rfl ?_ rfl ?_ rfl ?_ ?_
      · kernel_rfl
      · kernel_rfl
      · exact DAll.op' (sp_move rfl rfl) trivial rfl (From.ok (ps := []) trivial) (DAll.op' (sp_move rfl rfl) trivial rfl (From.ok (ps := []) trivial) (DAll.op' (sp_gtr rfl rfl rfl) trivial rfl (From.ok (ps := []) trivial) (DAll.op' (sp_castB h3 (sp_move rfl rfl)) trivial rfl (From.ok (ps := []) trivial) (DAll.op' (sp_move rfl rfl) ⟨_, rfl, rfl⟩ rfl (From.ok (ps := []) trivial) (DAll.op' (sp_move rfl rfl) ⟨_, rfl, rfl⟩ rfl (From.ok (ps := []) trivial) (DAll.op' (sp_move rfl rfl) ⟨_, rfl, rfl⟩ rfl (From.ok (ps := []) trivial) (DAll.op' (sp_indexS rfl rfl rfl isOwn sl39 h4 (map_get _ h5)) ⟨_, rfl, rfl⟩ rfl (From.ok (ps := [(none, 0)]) ⟨⟨rfl, rfl⟩, trivial⟩) (DAll.op' (sp_loadRA (i := (i7 : Int).toNat) (j := 0) (as_ := [.val (.int .i64 x9.1), .val (.int .i64 x9.2)]) (ns := []) rfl rfl isOwn vt34 rfl (map_get _ h5) rfl rfl (by decide) (.v (.v (.nil))) (nodup_of_B rfl)) ⟨_, rfl, rfl⟩ rfl (From.ok (ps := [(none, 0)]) ⟨⟨rfl, rfl⟩, trivial⟩) (DAll.op' (sp_move rfl rfl) ⟨_, rfl, rfl⟩ rfl (From.ok (ps := []) trivial) (DAll.op' (sp_move rfl rfl) ⟨_, rfl, rfl⟩ rfl (From.ok (ps := []) trivial) (DAll.op' (sp_sub rfl rfl rfl h6) ⟨_, rfl, rfl⟩ rfl (From.ok (ps := []) trivial) (DAll.op' (sp_indexS rfl rfl rfl isOwn sl39 h7 (map_get _ h8)) ⟨_, rfl, rfl⟩ rfl (From.ok (ps := [(none, 0)]) ⟨⟨rfl, rfl⟩, trivial⟩) (DAll.op' (sp_loadRA (i := ((i7 - 1) : Int).toNat) (j := 0) (as_ := [.val (.int .i64 x10.1), .val (.int .i64 x10.2)]) (ns := []) rfl rfl isOwn vt34 rfl (map_get _ h8) rfl rfl (by decide) (.v (.v (.nil))) (nodup_of_B rfl)) ⟨_, rfl, rfl⟩ rfl (From.ok (ps := [(none, 0)]) ⟨⟨rfl, rfl⟩, trivial⟩) (.nil))))))))))))))
      obtain ⟨r11, h9, h⟩ := bind_inv h
      refine op1 1 rfl (sp_callF (avs := [.agg [.val (.int .i64 x9.1), .val (.int .i64 x9.2)], .agg [.val (.int .i64 x10.1), .val (.int .i64 x10.2)]]) (v := .val (.int .i64 r11)) (x9.1, x9.2, x10.1, x10.2) rfl rfl rfl rfl rfl h9) rfl ⟨_, rfl, rfl⟩ rfl rfl ?_
      refine op0 (sp_lss rfl rfl rfl) rfl ⟨_, rfl, rfl⟩ rfl rfl ?_
      refine op0 (sp_pickT rfl rfl rfl) rfl trivial rfl rfl ?_
      refine TL.nil ?_
      refine TC.cond (b := (decide (r11 < 0))) rfl (fun h10 => ?_) (fun h10 => ?_)
      · have h := cond_t h h10
        refine TC.skip ?_
        refine TC.seq ?_
        refine TC.block ?_
        obtain ⟨h11, h⟩ := chk_inv h
        obtain ⟨h12, h⟩ := chk_inv h
        refine drawJ 16 [⟨.ref 0, [], [], []⟩, ⟨.val (.int .i64 i7), [], [], []⟩, ⟨.ref 0, [], [], []⟩, ⟨.val (.int .i64 i7), [], [], []⟩, ⟨.val (.int .i64 (i7 - 1)), [], [], []⟩, ⟨.ref 0, [], [], []⟩, ⟨.val (.int .i64 i7), [], [], []⟩, ⟨.val (.int .i64 (i7 - 1)), [], [], []⟩, ⟨.cell 0 (((i7 - 1) : Int).toNat * 2), [], [.row 0 34 2 (List.map en_api_Span l8)], []⟩, ⟨.agg [.val (.int .i64 x10.1), .val (.int .i64 x10.2)], [], [.row 0 34 2 (List.map en_api_Span l8)], []⟩, ⟨.ref 0, [], [], []⟩, ⟨.val (.int .i64 i7), [], [], []⟩, ⟨.cell 0 ((i7 : Int).toNat * 2), [], [.row 0 34 2 (List.map en_api_Span l8)], []⟩, ⟨.agg [.val (.int .i64 x9.1), .val (.int .i64 x9.2)], [], [.row 0 34 2 (List.map en_api_Span l8)], []⟩, ⟨.cell 0 ((i7 : Int).toNat * 2), [], [.row 0 34 2 (List.map en_api_Span l8)], []⟩, ⟨.val (undef), [.row 0 34 2 (List.map en_api_Span (List.set l8 (i7 : Int).toNat (x10.1, x10.2)))], [], [.row 0 34 2 (List.map en_api_Span l8)]⟩] rfl ?_ rfl ?_ rfl ?_ ?_
        · kernel_rfl
        · kernel_rfl
        · exact DAll.op' (sp_move rfl rfl) trivial rfl (From.ok (ps := []) trivial) (DAll.op' (sp_move rfl rfl) trivial rfl (From.ok (ps := []) trivial) (DAll.op' (sp_move rfl rfl) trivial rfl (From.ok (ps := []) trivial) (DAll.op' (sp_move rfl rfl) trivial rfl (From.ok (ps := []) trivial) (DAll.op' (sp_sub rfl rfl rfl h11) trivial rfl (From.ok (ps := []) trivial) (DAll.op' (sp_move rfl rfl) trivial rfl (From.ok (ps := []) trivial) (DAll.op' (sp_move rfl rfl) trivial rfl (From.ok (ps := []) trivial) (DAll.op' (sp_sub rfl rfl rfl h12) trivial rfl (From.ok (ps := []) trivial) (DAll.op' (sp_indexS rfl rfl rfl isOwn sl39 h7 (map_get _ h8)) trivial rfl (From.ok (ps := [(none, 0)]) ⟨⟨rfl, by kernel_rfl⟩, trivial⟩) (DAll.op' (sp_loadRA (i := ((i7 - 1) : Int).toNat) (j := 0) (as_ := [.val (.int .i64 x10.1), .val (.int .i64 x10.2)]) (ns := []) rfl rfl isOwn vt34 rfl (map_get _ h8) rfl rfl (by decide) (.v (.v (.nil))) (nodup_of_B rfl)) trivial rfl (From.ok (ps := [(none, 0)]) ⟨⟨rfl, by kernel_rfl⟩, trivial⟩) (DAll.op' (sp_move rfl rfl) trivial rfl (From.ok (ps := []) trivial) (DAll.op' (sp_move rfl rfl) trivial rfl (From.ok (ps := []) trivial) (DAll.op' (sp_indexS rfl rfl rfl isOwn sl39 h4 (map_get _ h5)) trivial rfl (From.ok (ps := [(none, 0)]) ⟨⟨rfl, by kernel_rfl⟩, trivial⟩) (DAll.op' (sp_loadRA (i := (i7 : Int).toNat) (j := 0) (as_ := [.val (.int .i64 x9.1), .val (.int .i64 x9.2)]) (ns := []) rfl rfl isOwn vt34 rfl (map_get _ h5) rfl rfl (by decide) (.v (.v (.nil))) (nodup_of_B rfl)) trivial rfl (From.ok (ps := [(none, 0)]) ⟨⟨rfl, by kernel_rfl⟩, trivial⟩) (DAll.op' (sp_indexS rfl rfl rfl isOwn sl39 h4 (map_get _ h5)) trivial rfl (From.ok (ps := [(none, 0)]) ⟨⟨rfl, by kernel_rfl⟩, trivial⟩) (DAll.opT (ts_storeR ((i7 : Int).toNat) 0 rfl rfl rfl rfl vt34 rfl rfl (map_get _ h5) rfl rfl (.v (.v (.nil))) (map_set l8 en_api_Span ((i7 : Int).toNat) (x10.1, x10.2))) trivial (From.ok (ps := [(none, 0)]) ⟨⟨rfl, by kernel_rfl⟩, trivial⟩) (From.ok (ps := []) trivial) (.nil))))))))))))))))
        obtain ⟨x12, h13, h14, h⟩ := idx_inv h
        refine op1 0 rfl (sp_indexS rfl rfl rfl isOwn sl39 h13 (map_get _ h14)) rfl trivial rfl rfl ?_
        refine stoR 0 (((i7 - 1) : Int).toNat) 0 (need := []) [] rfl rfl trivial rfl rfl rfl rfl vt34 rfl rfl (map_get _ h14) rfl rfl trivial (.v (.v (.nil))) (map_set (List.set l8 (i7 : Int).toNat (x10.1, x10.2)) en_api_Span (((i7 - 1) : Int).toNat) (x9.1, x9.2)) ?_
        refine TL.nil ?_
        refine TC.inBlock ?_
        refine TC.region ?_
        refine op0 (sp_move rfl rfl) rfl trivial rfl rfl ?_
        obtain ⟨h15, h⟩ := chk_inv h
        refine op0 (sp_sub rfl rfl rfl h15) rfl trivial rfl rfl ?_
        refine op0 (sp_assign rfl rfl) rfl trivial rfl rfl ?_
        refine TL.nil ?_
        refine TC.inLoop ?_
        refine TC.seq ?_
        refine TC.seq ?_
        refine subJ [] (ih _ _ h) ?_ ?_ ?_
        · exact ⟨rfl, rfl, rfl, rfl, rfl, rfl, trivial⟩
        · exact ⟨mem_at 0 rfl, mem_at 1 rfl, mem_at 2 rfl, mem_at 3 rfl, trivial⟩
        · rfl
      · have h := cond_f h h10
        refine TC.exit rfl ?_
        refine TC.inBlock ?_
        refine TC.region ?_
        refine op0 (sp_move rfl rfl) rfl trivial rfl rfl ?_
        obtain ⟨h16, h⟩ := chk_inv h
        refine op0 (sp_add rfl rfl rfl h16) rfl trivial rfl rfl ?_
        refine op0 (sp_assign rfl rfl) rfl trivial rfl rfl ?_
        refine TL.nil ?_
        refine TC.inLoop ?_
        refine TC.seq ?_
        refine TC.seq ?_
        refine subJ [] (hk_slices_insertionSortCmpFunc_api_Span_l0 _ _ h) ?_ ?_ ?_
        · exact ⟨rfl, rfl, rfl, rfl, rfl, trivial⟩
        · exact ⟨mem_at 0 rfl, mem_at 1 rfl, mem_at 2 rfl, mem_at 3 rfl, trivial⟩
        · rfl
    · refine drawJ 14 [⟨.val (.int .i64 i7), [], [], []⟩, ⟨.val (.int .i64 a2), [], [], []⟩, ⟨.val (.bool (decide (a2 < i7))), [], [], []⟩, ⟨.val (.bool false), [], [], []⟩, ⟨.val (undef), [], [], []⟩, ⟨.val (undef), [], [], []⟩, ⟨.val (undef), [], [], []⟩, ⟨.val (undef), [], [], []⟩, ⟨.val (undef), [], [], []⟩, ⟨.val (undef), [], [], []⟩, ⟨.val (undef), [], [], []⟩, ⟨.val (undef), [], [], []⟩, ⟨.val (undef), [], [], []⟩, ⟨.val (undef), [], [], []⟩] rfl ?_ rfl ?_ rfl ?_ ?_
      · kernel_rfl
      · kernel_rfl
      · exact DAll.op' (sp_move rfl rfl) trivial rfl (From.ok (ps := []) trivial) (DAll.op' (sp_move rfl rfl) trivial rfl (From.ok (ps := []) trivial) (DAll.op' (sp_gtr rfl rfl rfl) trivial rfl (From.ok (ps := []) trivial) (DAll.op' (sp_castB h3 (sp_move rfl rfl)) trivial rfl (From.ok (ps := []) trivial) (.skip ⟨_, rfl, .inl rfl⟩ rfl rfl rfl (.skip ⟨_, rfl, .inl rfl⟩ rfl rfl rfl (.skip ⟨_, rfl, .inl rfl⟩ rfl rfl rfl (.skip ⟨_, rfl, .inl rfl⟩ rfl rfl rfl (.skip ⟨_, rfl, .inl rfl⟩ rfl rfl rfl (.skip ⟨_, rfl, .inl rfl⟩ rfl rfl rfl (.skip ⟨_, rfl, .inl rfl⟩ rfl rfl rfl (.skip ⟨_, rfl, .inl rfl⟩ rfl rfl rfl (.skip ⟨_, rfl, .inl rfl⟩ rfl rfl rfl (.skip ⟨_, rfl, .inl rfl⟩ rfl rfl rfl (.nil))))))))))))))
      refine opSkip rfl ⟨_, rfl, .inl rfl⟩ rfl ?_
      refine opSkip rfl ⟨_, rfl, .inl rfl⟩ rfl ?_
      refine op0 (sp_pickF rfl rfl rfl) rfl trivial rfl rfl ?_
      refine TL.nil ?_
      refine TC.condF rfl ?_
      refine TC.exit rfl ?_
      refine TC.inBlock ?_
      refine TC.region ?_
      refine op0 (sp_move rfl rfl) rfl trivial rfl rfl ?_
      obtain ⟨h17, h⟩ := chk_inv h
      refine op0 (sp_add rfl rfl rfl h17) rfl trivial rfl rfl ?_
      refine op0 (sp_assign rfl rfl) rfl trivial rfl rfl ?_
      refine TL.nil ?_
      refine TC.inLoop ?_
      refine TC.seq ?_
      refine TC.seq ?_
      refine subJ [] (hk_slices_insertionSortCmpFunc_api_Span_l0 _ _ h) ?_ ?_ ?_
      · exact ⟨rfl, rfl, rfl, rfl, rfl, trivial⟩
      · exact ⟨mem_at 0 rfl, mem_at 1 rfl, mem_at 2 rfl, mem_at 3 rfl, trivial⟩
      · rfl
def ev_slices_insertionSortCmpFunc_api_Span_l0 (n : Nat) (b3 : Int) (a2 : Int) (cmp4 : (Int × Int × Int × Int) → Option Int) : Nat → Int → (List (Int × Int)) → Option ((List (Int × Int)))
  | 0, _, _ => none
  | m + 1, i5, l6 => cond (decide (i5 < b3)) (ev_slices_insertionSortCmpFunc_api_Span_l1 n a2 cmp4 i5 (fun i5q l6q => ev_slices_insertionSortCmpFunc_api_Span_l0 n b3 a2 cmp4 m i5q l6q) n i5 l6) (some l6)
set_option maxRecDepth 100000 in
set_option maxHeartbeats 2000000 in
theorem ok_slices_insertionSortCmpFunc_api_Span_l0 {n : Nat} {w0 : World} {M0 R0 : Nat → Prop} {env0 : Env} {df : List Deferred} {r : (List (Int × Int))} {a2 : Int} {b3 : Int} {cmp4 : (Int × Int × Int × Int) → Option Int} : ∀ (m : Nat) (i5 : Int) (l6 : List (Int × Int)), ev_slices_insertionSortCmpFunc_api_Span_l0 n b3 a2 cmp4 m i5 l6 = some r → TC Try.prog ⟨w0, M0, R0⟩ ⟨53, none, df⟩ (bodyPostM Fence.wide 0 Try.prog Try.f331 (PostT ⟨w0, M0, R0⟩ env0 [0] (.tup []) [.row 0 34 2 (List.map en_api_Span r)])) [.code (sub (bodyOf Try.f331) [1, 0, 0, 0, 0]), .code (sub (bodyOf Try.f331) [1, 0, 0, 0, 1]), .code (sub (bodyOf Try.f331) [1, 0, 0, 1]), .inLoop (sub (bodyOf Try.f331) [1, 0, 0]), .inBlock 0] ([(0, .ref 0), (1, .val (.int .i64 a2)), (2, .val (.int .i64 b3)), (3, .ref 1), (8, .val (.int .i64 i5))]) ([.row 0 34 2 (List.map en_api_Span l6), .any 1 (D.fn Try.prog fe_funcapi_Span_api_Span_int fd_funcapi_Span_api_Span_int cmp4), .inv 2 (marksI df), .pin 3 0 (env0 0)]) := by
  intro m
  induction m with
  | zero => intro i5 l6 h; exact none_no h
  | succ m ih =>
    intro i5 l6 h
    rw [ev_slices_insertionSortCmpFunc_api_Span_l0] at h
    refine TC.region ?_
    refine op0 (sp_move rfl rfl) rfl trivial rfl rfl ?_
    refine op0 (sp_move rfl rfl) rfl trivial rfl rfl ?_
    refine op0 (sp_lss rfl rfl rfl) rfl trivial rfl rfl ?_
    refine TL.nil ?_
    refine TC.cond (b := (decide (i5 < b3))) rfl (fun h2 => ?_) (fun h2 => ?_)
    · have h := cond_t h h2
      refine TC.skip ?_
      refine TC.seq ?_
      refine TC.block ?_
      refine TC.seq ?_
      refine TC.region ?_
      refine op0 (sp_move rfl rfl) rfl trivial rfl rfl ?_
      refine op0 (sp_assign rfl rfl) rfl trivial rfl rfl ?_
      refine TL.nil ?_
      refine TC.block ?_
      refine TC.loop ?_
      refine TC.seq ?_
      refine TC.seq ?_
      refine subJ [] (ok_slices_insertionSortCmpFunc_api_Span_l1 (b3 := b3) ih _ _ _ h) ?_ ?_ ?_
      · exact ⟨rfl, rfl, rfl, rfl, rfl, rfl, trivial⟩
      · exact ⟨mem_at 0 rfl, mem_at 1 rfl, mem_at 2 rfl, mem_at 3 rfl, trivial⟩
      · rfl
    · have h := cond_f h h2
      refine TC.exit rfl ?_
      cases h
      exact endM [] 2 2 [0] rfl (.nil) rfl ⟨mem_at 0 rfl, trivial⟩ rfl rfl ⟨⟨_, mem_at 2 rfl⟩, trivial⟩ rfl
def ev_slices_insertionSortCmpFunc_api_Span (n : Nat) (data1 : List (Int × Int)) (a2 : Int) (b3 : Int) (cmp4 : (Int × Int × Int × Int) → Option Int) : Option ((List (Int × Int))) :=
  chk (in64 (a2 + 1)) <| ev_slices_insertionSortCmpFunc_api_Span_l0 n b3 a2 cmp4 n (a2 + 1) data1
set_option maxRecDepth 100000 in
set_option maxHeartbeats 2000000 in
theorem ft_slices_insertionSortCmpFunc_api_Span {n : Nat} {data1 : List (Int × Int)} {a2 : Int} {b3 : Int} {cmp4 : (Int × Int × Int × Int) → Option Int} {r : (List (Int × Int))} (h : ev_slices_insertionSortCmpFunc_api_Span n data1 a2 b3 cmp4 = some r) : FT Try.prog 331 [.ref 0, .val (.int .i64 a2), .val (.int .i64 b3), .ref 1] [.row 0 34 2 (List.map en_api_Span data1)] [.any 1 (D.fn Try.prog fe_funcapi_Span_api_Span_int fd_funcapi_Span_api_Span_int cmp4)] (.tup []) [.row 0 34 2 (List.map en_api_Span r)] := by
  refine introM (nz := 53) 2 [(3, 0)] Try.func331 rfl rfl rfl rfl (fun w0 M0 R0 env0 => ?_)
  rw [ev_slices_insertionSortCmpFunc_api_Span] at h
  refine TC.seq ?_
  refine TC.region ?_
  refine op0 (sp_move rfl rfl) rfl trivial rfl rfl ?_
  obtain ⟨h1, h⟩ := chk_inv h
  refine op0 (sp_add rfl rfl rfl h1) rfl trivial rfl rfl ?_
  refine op0 (sp_assign rfl rfl) rfl trivial rfl rfl ?_
  refine TL.nil ?_
  refine TC.block ?_
  refine TC.loop ?_
  refine TC.seq ?_
  refine TC.seq ?_
  refine subJ [] (ok_slices_insertionSortCmpFunc_api_Span_l0 _ _ _ h) ?_ ?_ ?_
  · exact ⟨rfl, rfl, rfl, rfl, rfl, trivial⟩
  · exact ⟨mem_at 2 rfl, mem_at 3 rfl, mem_at 0 rfl, mem_at 1 rfl, trivial⟩
  · rfl
/- slices_pdqsortCmpFunc_api_Span -/
def ev_slices_pdqsortCmpFunc_api_Span_j1 (n : Nat) (i13 : Int) : Option ((List (Int × Int))) :=
  none
set_option maxRecDepth 100000 in
set_option maxHeartbeats 2000000 in
theorem ok_slices_pdqsortCmpFunc_api_Span_j1 {n : Nat} {w0 : World} {M0 R0 : Nat → Prop} {env0 : Env} {df : List Deferred} {r : (List (Int × Int))} {i6 : Int} {i7 : Int} {b9 : Bool} {b10 : Bool} {l11 : List (Int × Int)} {cmp5 : (Int × Int × Int × Int) → Option Int} {i13 : Int} (h : ev_slices_pdqsortCmpFunc_api_Span_j1 n i13 = some r) : TC Try.prog ⟨w0, M0, R0⟩ ⟨148, none, df⟩ (bodyPostM Fence.wide 0 Try.prog Try.f277 (PostT ⟨w0, M0, R0⟩ env0 [0] (.tup []) [.row 0 34 2 (List.map en_api_Span r)])) [.code (sub (bodyOf Try.f277) [1, 1, 0, 0, 0, 1, 1, 1, 1, 0]), .code (sub (bodyOf Try.f277) [1, 1, 0, 0, 0, 1, 1, 1, 1, 1]), .inBlock 1, .inLoop (sub (bodyOf Try.f277) [1, 1, 0, 0]), .inBlock 0] ([(0, .ref 0), (1, .val (.int .i64 i6)), (2, .val (.int .i64 i7)), (3, .val (.int .i64 i13)), (4, .ref 1), (10, .val (.bool b9)), (11, .val (.bool b10)), (12, .val (.int .i64 (i7 - i6)))]) ([.row 0 34 2 (List.map en_api_Span l11), .any 1 (D.fn Try.prog fe_funcapi_Span_api_Span_int fd_funcapi_Span_api_Span_int cmp5), .inv 2 (marksI df), .pin 3 0 (env0 0)]) := by
  rw [ev_slices_pdqsortCmpFunc_api_Span_j1] at h
  refine TC.region ?_
  refine op0 (sp_move rfl rfl) rfl trivial rfl rfl ?_
  refine op0 (sp_move rfl rfl) rfl trivial rfl rfl ?_
  refine op0 (sp_move rfl rfl) rfl trivial rfl rfl ?_
  refine op0 (sp_move rfl rfl) rfl trivial rfl rfl ?_
  exact none_no h
def ev_slices_pdqsortCmpFunc_api_Span_l0 (n : Nat) (cmp5 : (Int × Int × Int × Int) → Option Int) : Nat → Int → Int → Int → Bool → Bool → (List (Int × Int)) → Option ((List (Int × Int)))
  | 0, _, _, _, _, _, _ => none
  | m + 1, i6, i7, i8, b9, b10, l11 => chk (in64 (i7 - i6)) <| cond (decide ((i7 - i6) ≤ 12)) ((ev_slices_insertionSortCmpFunc_api_Span n l11 i6 i7 cmp5).bind fun r12 => some r12) (cond (i8 == 0) (none) (cond (!b9) (none) (ev_slices_pdqsortCmpFunc_api_Span_j1 n i8)))
set_option maxRecDepth 100000 in
set_option maxHeartbeats 2000000 in
theorem ok_slices_pdqsortCmpFunc_api_Span_l0 {n : Nat} {w0 : World} {M0 R0 : Nat → Prop} {env0 : Env} {df : List Deferred} {r : (List (Int × Int))} {cmp5 : (Int × Int × Int × Int) → Option Int} : ∀ (m : Nat) (i6 : Int) (i7 : Int) (i8 : Int) (b9 : Bool) (b10 : Bool) (l11 : List (Int × Int)), ev_slices_pdqsortCmpFunc_api_Span_l0 n cmp5 m i6 i7 i8 b9 b10 l11 = some r → TC Try.prog ⟨w0, M0, R0⟩ ⟨148, none, df⟩ (bodyPostM Fence.wide 0 Try.prog Try.f277 (PostT ⟨w0, M0, R0⟩ env0 [0] (.tup []) [.row 0 34 2 (List.map en_api_Span r)])) [.code (sub (bodyOf Try.f277) [1, 1, 0, 0]), .inLoop (sub (bodyOf Try.f277) [1, 1, 0, 0]), .inBlock 0] ([(0, .ref 0), (1, .val (.int .i64 i6)), (2, .val (.int .i64 i7)), (3, .val (.int .i64 i8)), (4, .ref 1), (10, .val (.bool b9)), (11, .val (.bool b10))]) ([.row 0 34 2 (List.map en_api_Span l11), .any 1 (D.fn Try.prog fe_funcapi_Span_api_Span_int fd_funcapi_Span_api_Span_int cmp5), .inv 2 (marksI df), .pin 3 0 (env0 0)]) := by
  intro m
  induction m with
  | zero => intro i6 i7 i8 b9 b10 l11 h; exact none_no h
  | succ m ih =>
    intro i6 i7 i8 b9 b10 l11 h
    rw [ev_slices_pdqsortCmpFunc_api_Span_l0] at h
    refine TC.block ?_
    refine TC.seq ?_
    refine TC.region ?_
    refine op0 (sp_move rfl rfl) rfl trivial rfl rfl ?_
    refine op0 (sp_move rfl rfl) rfl trivial rfl rfl ?_
    obtain ⟨h1, h⟩ := chk_inv h
    refine op0 (sp_sub rfl rfl rfl h1) rfl trivial rfl rfl ?_
    refine op0 (sp_assign rfl rfl) rfl trivial rfl rfl ?_
    refine TL.nil ?_
    refine TC.seq ?_
    refine TC.seq ?_
    refine TC.region ?_
    refine op0 (sp_move rfl rfl) rfl trivial rfl rfl ?_
    refine op0 (sp_leq rfl rfl rfl) rfl trivial rfl rfl ?_
    refine TL.nil ?_
    refine TC.cond (b := (decide ((i7 - i6) ≤ 12))) rfl (fun h2 => ?_) (fun h2 => ?_)
    · have h := cond_t h h2
      refine TC.seq ?_
      refine TC.region ?_
      refine op0 (sp_move rfl rfl) rfl trivial rfl rfl ?_
      refine op0 (sp_move rfl rfl) rfl trivial rfl rfl ?_
      refine op0 (sp_move rfl rfl) rfl trivial rfl rfl ?_
      refine op0 (sp_move rfl rfl) rfl trivial rfl rfl ?_
      obtain ⟨r12, h3, h⟩ := bind_inv h
      refine opT (take := [.row 0 34 2 (List.map en_api_Span l11)]) (need := [.any 1 (D.fn Try.prog fe_funcapi_Span_api_Span_int fd_funcapi_Span_api_Span_int cmp5)]) (V' := [.row 0 34 2 (List.map en_api_Span r12), .any 1 (D.fn Try.prog fe_funcapi_Span_api_Span_int fd_funcapi_Span_api_Span_int cmp5), .inv 2 (marksI df), .pin 3 0 (env0 0)]) [0] [1] (ts_call (avs := [.ref 0, .val (.int .i64 i6), .val (.int .i64 i7), .ref 1]) (take := [.row 0 34 2 (List.map en_api_Span l11)]) (need := [.any 1 (D.fn Try.prog fe_funcapi_Span_api_Span_int fd_funcapi_Span_api_Span_int cmp5)]) (v := .tup []) (news := [.row 0 34 2 (List.map en_api_Span r12)]) rfl rfl rfl Try.call331 (atT [] [] (ft_slices_insertionSortCmpFunc_api_Span h3) rfl rfl rfl) rfl rfl) trivial rfl ⟨rfl, trivial⟩ ⟨rfl, trivial⟩ rfl rfl ?_
      refine TL.nil ?_
      cases h
      exact retM [] 2 2 [0] rfl (.nil) rfl ⟨mem_at 0 rfl, trivial⟩ rfl rfl ⟨⟨_, mem_at 2 rfl⟩, trivial⟩ rfl
    · have h := cond_f h h2
      refine TC.skip ?_
      refine TC.seq ?_
      refine TC.seq ?_
      refine TC.region ?_
      refine op0 (sp_move rfl rfl) rfl trivial rfl rfl ?_
      refine op0 (sp_eql rfl rfl rfl) rfl trivial rfl rfl ?_
      refine TL.nil ?_
      refine TC.cond (b := (i8 == 0)) rfl (fun h4 => ?_) (fun h4 => ?_)
      · have h := cond_t h h4
        refine TC.seq ?_
        refine TC.region ?_
        refine op0 (sp_move rfl rfl) rfl trivial rfl rfl ?_
        refine op0 (sp_move rfl rfl) rfl trivial rfl rfl ?_
        refine op0 (sp_move rfl rfl) rfl trivial rfl rfl ?_
        refine op0 (sp_move rfl rfl) rfl trivial rfl rfl ?_
        exact none_no h
      · have h := cond_f h h4
        refine TC.skip ?_
        refine TC.seq ?_
        refine TC.seq ?_
        refine TC.region ?_
        refine op0 (sp_move rfl rfl) rfl trivial rfl rfl ?_
        refine op0 (sp_not rfl rfl) rfl trivial rfl rfl ?_
        refine TL.nil ?_
        refine TC.cond (b := (!b9)) rfl (fun h5 => ?_) (fun h5 => ?_)
        · have h := cond_t h h5
          refine TC.seq ?_
          refine TC.region ?_
          refine op0 (sp_move rfl rfl) rfl trivial rfl rfl ?_
          refine op0 (sp_move rfl rfl) rfl trivial rfl rfl ?_
          refine op0 (sp_move rfl rfl) rfl trivial rfl rfl ?_
          refine op0 (sp_move rfl rfl) rfl trivial rfl rfl ?_
          exact none_no h
        · have h := cond_f h h5
          refine TC.skip ?_
          refine TC.seq ?_
          refine subJ [] (ok_slices_pdqsortCmpFunc_api_Span_j1 (i6 := i6) (i7 := i7) (b9 := b9) (b10 := b10) (l11 := l11) (cmp5 := cmp5) h) ?_ ?_ ?_
          · exact ⟨rfl, rfl, rfl, rfl, rfl, rfl, rfl, rfl, trivial⟩
          · exact ⟨mem_at 0 rfl, mem_at 1 rfl, mem_at 2 rfl, mem_at 3 rfl, trivial⟩
          · rfl
def ev_slices_pdqsortCmpFunc_api_Span (n : Nat) (data1 : List (Int × Int)) (a2 : Int) (b3 : Int) (limit4 : Int) (cmp5 : (Int × Int × Int × Int) → Option Int) : Option ((List (Int × Int))) :=
  ev_slices_pdqsortCmpFunc_api_Span_l0 n cmp5 n a2 b3 limit4 true true data1
set_option maxRecDepth 100000 in
set_option maxHeartbeats 2000000 in
theorem ft_slices_pdqsortCmpFunc_api_Span {n : Nat} {data1 : List (Int × Int)} {a2 : Int} {b3 : Int} {limit4 : Int} {cmp5 : (Int × Int × Int × Int) → Option Int} {r : (List (Int × Int))} (h : ev_slices_pdqsortCmpFunc_api_Span n data1 a2 b3 limit4 cmp5 = some r) : FT Try.prog 277 [.ref 0, .val (.int .i64 a2), .val (.int .i64 b3), .val (.int .i64 limit4), .ref 1] [.row 0 34 2 (List.map en_api_Span data1)] [.any 1 (D.fn Try.prog fe_funcapi_Span_api_Span_int fd_funcapi_Span_api_Span_int cmp5)] (.tup []) [.row 0 34 2 (List.map en_api_Span r)] := by
  refine introM (nz := 148) 2 [(3, 0)] Try.func277 rfl rfl rfl rfl (fun w0 M0 R0 env0 => ?_)
  rw [ev_slices_pdqsortCmpFunc_api_Span] at h
  refine TC.seq ?_
  refine TC.region ?_
  refine op0 (sp_assign rfl rfl) rfl trivial rfl rfl ?_
  refine TL.nil ?_
  refine TC.seq ?_
  refine TC.region ?_
  refine op0 (sp_assign rfl rfl) rfl trivial rfl rfl ?_
  refine TL.nil ?_
  refine TC.block ?_
  refine TC.loop ?_
  refine subJ [] (ok_slices_pdqsortCmpFunc_api_Span_l0 _ _ _ _ _ _ _ h) ?_ ?_ ?_
  · exact ⟨rfl, rfl, rfl, rfl, rfl, rfl, rfl, trivial⟩
  · exact ⟨mem_at 2 rfl, mem_at 3 rfl, mem_at 0 rfl, mem_at 1 rfl, trivial⟩
  · rfl
/- slices_SortFunc_Lapi_Span_api_Span -/
def ev_slices_SortFunc_Lapi_Span_api_Span (n : Nat) (x1 : List (Int × Int)) (cmp2 : (Int × Int × Int × Int) → Option Int) : Option ((List (Int × Int))) :=
  (ev_math_bits_Len n (IntKind.u64.wrap (x1.length : Int))).bind fun r3 => (ev_slices_pdqsortCmpFunc_api_Span n x1 0 (x1.length : Int) r3 cmp2).bind fun r4 => some r4
set_option maxRecDepth 100000 in
set_option maxHeartbeats 2000000 in
theorem ft_slices_SortFunc_Lapi_Span_api_Span {n : Nat} {x1 : List (Int × Int)} {cmp2 : (Int × Int × Int × Int) → Option Int} {r : (List (Int × Int))} (h : ev_slices_SortFunc_Lapi_Span_api_Span n x1 cmp2 = some r) : FT Try.prog 190 [.ref 0, .ref 1] [.row 0 34 2 (List.map en_api_Span x1)] [.any 1 (D.fn Try.prog fe_funcapi_Span_api_Span_int fd_funcapi_Span_api_Span_int cmp2)] (.tup []) [.row 0 34 2 (List.map en_api_Span r)] := by
  refine introM (nz := 14) 2 [(3, 0)] Try.func190 rfl rfl rfl rfl (fun w0 M0 R0 env0 => ?_)
  rw [ev_slices_SortFunc_Lapi_Span_api_Span] at h
  refine TC.seq ?_
  refine TC.region ?_
  refine op0 (sp_move rfl rfl) rfl trivial rfl rfl ?_
  refine op1 2 rfl (sp_lenM (N := x1.length) (len_map _ _) rfl rfl isOwn Try.underlying39) rfl trivial rfl rfl ?_
  refine op0 (sp_assign rfl rfl) rfl trivial rfl rfl ?_
  refine TL.nil ?_
  refine TC.region ?_
  refine op0 (sp_move rfl rfl) rfl trivial rfl rfl ?_
  refine op0 (sp_move rfl rfl) rfl trivial rfl rfl ?_
  refine op0 (sp_move rfl rfl) rfl trivial rfl rfl ?_
  refine op0 (sp_convW rfl Try.underlying3 Try.underlying413 rfl) rfl trivial rfl rfl ?_
  obtain ⟨r3, h1, h⟩ := bind_inv h
  refine op0 (sp_call (avs := [.val (.int .u64 (IntKind.u64.wrap (x1.length : Int)))]) (need := []) (v := .val (.int .i64 r3)) (news := []) rfl rfl rfl Try.call225 (atJ [] [] (fc_math_bits_Len h1) rfl rfl) (.inl (roAll rfl))) rfl trivial rfl rfl ?_
  refine op0 (sp_move rfl rfl) rfl trivial rfl rfl ?_
  obtain ⟨r4, h2, h⟩ := bind_inv h
  refine opT (take := [.row 0 34 2 (List.map en_api_Span x1)]) (need := [.any 1 (D.fn Try.prog fe_funcapi_Span_api_Span_int fd_funcapi_Span_api_Span_int cmp2)]) (V' := [.row 0 34 2 (List.map en_api_Span r4), .inv 2 (marksI []), .pin 3 0 (env0 0), .any 1 (D.fn Try.prog fe_funcapi_Span_api_Span_int fd_funcapi_Span_api_Span_int cmp2)]) [2] [3] (ts_call (avs := [.ref 0, .val (.int .i64 0), .val (.int .i64 (x1.length : Int)), .val (.int .i64 r3), .ref 1]) (take := [.row 0 34 2 (List.map en_api_Span x1)]) (need := [.any 1 (D.fn Try.prog fe_funcapi_Span_api_Span_int fd_funcapi_Span_api_Span_int cmp2)]) (v := .tup []) (news := [.row 0 34 2 (List.map en_api_Span r4)]) rfl rfl rfl Try.call277 (atT [] [] (ft_slices_pdqsortCmpFunc_api_Span h2) rfl rfl rfl) rfl rfl) trivial rfl ⟨rfl, trivial⟩ ⟨rfl, trivial⟩ rfl rfl ?_
  refine TL.nil ?_
  cases h
  exact endM [] 1 2 [0] rfl (.nil) rfl ⟨mem_at 0 rfl, trivial⟩ rfl rfl ⟨⟨_, mem_at 1 rfl⟩, trivial⟩ rfl
/- slices_MinFunc_Lapi_Span_api_Span -/
def ev_slices_MinFunc_Lapi_Span_api_Span_l1 (n : Nat) (cmp2 : (Int × Int × Int × Int) → Option Int) : Nat → Int → (List (Int × Int)) → Int → Int → Int → Int → Option (Int × Int)
  | 0, _, _, _, _, _, _ => none
  | m + 1, i4, l5, i6, i7, i8, i9 => cond (decide (i4 < (l5.length : Int))) (idx l5 i4 fun x10 => (cmp2 (x10.1, x10.2, i8, i9)).bind fun r11 => cond (decide (r11 < 0)) (chk (in64 (i4 + 1)) <| ev_slices_MinFunc_Lapi_Span_api_Span_l1 n cmp2 m (i4 + 1) l5 i6 i7 x10.1 x10.2) (chk (in64 (i4 + 1)) <| ev_slices_MinFunc_Lapi_Span_api_Span_l1 n cmp2 m (i4 + 1) l5 i6 i7 i8 i9)) (some (i8, i9))
set_option maxRecDepth 100000 in
set_option maxHeartbeats 2000000 in
theorem ok_slices_MinFunc_Lapi_Span_api_Span_l1 {n : Nat} {w0 : World} {R0 : Nat → Prop} {env0 : Env} {r : Int × Int} {cmp2 : (Int × Int × Int × Int) → Option Int} : ∀ (m : Nat) (i4 : Int) (l5 : List (Int × Int)) (i6 : Int) (i7 : Int) (i8 : Int) (i9 : Int), ev_slices_MinFunc_Lapi_Span_api_Span_l1 n cmp2 m i4 l5 i6 i7 i8 i9 = some r → TC Try.prog ⟨w0, fun _ => False, R0⟩ 33 (bodyPost Try.prog Try.f192 (Post ⟨w0, fun _ => False, R0⟩ env0 (.agg [.val (.int .i64 r.1), .val (.int .i64 r.2)]) [])) [.code (sub (bodyOf Try.f192) [1, 1, 1, 0, 1, 0, 0, 0, 0]), .code (sub (bodyOf Try.f192) [1, 1, 1, 0, 1, 0, 0, 0, 1]), .code (sub (bodyOf Try.f192) [1, 1, 1, 0, 1, 0, 0, 1]), .inLoop (sub (bodyOf Try.f192) [1, 1, 1, 0, 1, 0, 0]), .inBlock 0, .code (sub (bodyOf Try.f192) [1, 1, 1, 1])] ([(0, .ref 0), (1, .ref 1), (4, .ptr 2 0), (5, .ptr 3 0), (6, .val (.int .i64 i4))]) ([.ro 0 2 (List.map en_api_Span l5), .any 1 (D.fn Try.prog fe_funcapi_Span_api_Span_int fd_funcapi_Span_api_Span_int cmp2), .blk 2 [.val (.int .i64 i6), .val (.int .i64 i7)] 34, .blk 3 [.val (.int .i64 i8), .val (.int .i64 i9)] 34]) := by
  intro m
  induction m with
  | zero => intro i4 l5 i6 i7 i8 i9 h; exact none_no h
  | succ m ih =>
    intro i4 l5 i6 i7 i8 i9 h
    rw [ev_slices_MinFunc_Lapi_Span_api_Span_l1] at h
    refine TC.region ?_
    refine op0 (sp_move rfl rfl) rfl trivial rfl rfl ?_
    refine op0 (sp_move rfl rfl) rfl trivial rfl rfl ?_
    refine op1 0 rfl (sp_lenM (N := l5.length) (len_map _ _) rfl rfl isRo Try.underlying39) rfl trivial rfl rfl ?_
    refine op0 (sp_lss rfl rfl rfl) rfl trivial rfl rfl ?_
    refine TL.nil ?_
    refine TC.cond (b := (decide (i4 < (l5.length : Int)))) rfl (fun h4 => ?_) (fun h4 => ?_)
    · have h := cond_t h h4
      refine TC.skip ?_
      refine TC.seq ?_
      refine TC.block ?_
      refine TC.seq ?_
      obtain ⟨x10, h5, h6, h⟩ := idx_inv h
      refine drawJ 6 [⟨.ref 1, [], [], []⟩, ⟨.ref 0, [], [], []⟩, ⟨.val (.int .i64 i4), [], [], []⟩, ⟨.cell 0 ((i4 : Int).toNat * 2), [], [.ro 0 2 (List.map en_api_Span l5)], []⟩, ⟨.agg [.val (.int .i64 x10.1), .val (.int .i64 x10.2)], [], [.ro 0 2 (List.map en_api_Span l5)], []⟩, ⟨.agg [.val (.int .i64 i8), .val (.int .i64 i9)], [], [.blk 3 [.val (.int .i64 i8), .val (.int .i64 i9)] 34], []⟩] rfl ?_ rfl ?_ rfl ?_ ?_
      · kernel_rfl
      · kernel_rfl
      · exact DAll.op' (sp_move rfl rfl) trivial rfl (From.ok (ps := []) trivial) (DAll.op' (sp_move rfl rfl) trivial rfl (From.ok (ps := []) trivial) (DAll.op' (sp_move rfl rfl) trivial rfl (From.ok (ps := []) trivial) (DAll.op' (sp_indexS rfl rfl rfl isRo sl39 h5 (map_get _ h6)) trivial rfl (From.ok (ps := [(none, 0)]) ⟨⟨rfl, rfl⟩, trivial⟩) (DAll.op' (sp_loadRA (i := (i4 : Int).toNat) (j := 0) (as_ := [.val (.int .i64 x10.1), .val (.int .i64 x10.2)]) (ns := []) rfl rfl isRo vt34 rfl (map_get _ h6) rfl rfl (by decide) (.v (.v (.nil))) (nodup_of_B rfl)) trivial rfl (From.ok (ps := [(none, 0)]) ⟨⟨rfl, rfl⟩, trivial⟩) (DAll.op' (sp_loadBA rfl isBlk rfl vt34 rfl rfl) trivial rfl (From.ok (ps := [(none, 3)]) ⟨⟨rfl, rfl⟩, trivial⟩) (.nil))))))
      obtain ⟨r11, h7, h⟩ := bind_inv h
      refine op1 1 rfl (sp_callF (avs := [.agg [.val (.int .i64 x10.1), .val (.int .i64 x10.2)], .agg [.val (.int .i64 i8), .val (.int .i64 i9)]]) (v := .val (.int .i64 r11)) (x10.1, x10.2, i8, i9) rfl rfl rfl rfl rfl h7) rfl trivial rfl rfl ?_
      refine op0 (sp_lss rfl rfl rfl) rfl trivial rfl rfl ?_
      refine TL.nil ?_
      refine TC.cond (b := (decide (r11 < 0))) rfl (fun h8 => ?_) (fun h8 => ?_)
      · have h := cond_t h h8
        refine TC.region ?_
        refine op0 (sp_move rfl rfl) rfl trivial rfl rfl ?_
        refine op0 (sp_move rfl rfl) rfl trivial rfl rfl ?_
        refine op1 0 rfl (sp_indexS rfl rfl rfl isRo sl39 h5 (map_get _ h6)) rfl trivial rfl rfl ?_
        refine op1 0 rfl (sp_loadRA (i := (i4 : Int).toNat) (j := 0) (as_ := [.val (.int .i64 x10.1), .val (.int .i64 x10.2)]) (ns := []) rfl rfl isRo vt34 rfl (map_get _ h6) rfl rfl (by decide) (.v (.v (.nil))) (nodup_of_B rfl)) rfl trivial rfl rfl ?_
        refine stoB 3 (cells' := [.val (.int .i64 x10.1), .val (.int .i64 x10.2)]) rfl rfl trivial rfl rfl rfl rfl vt34 rfl rfl rfl ?_
        refine TL.nil ?_
        refine TC.inBlock ?_
        refine TC.region ?_
        refine op0 (sp_move rfl rfl) rfl trivial rfl rfl ?_
        obtain ⟨h9, h⟩ := chk_inv h
        refine op0 (sp_add rfl rfl rfl h9) rfl trivial rfl rfl ?_
        refine op0 (sp_assign rfl rfl) rfl trivial rfl rfl ?_
        refine TL.nil ?_
        refine TC.inLoop ?_
        refine TC.seq ?_
        refine TC.seq ?_
        refine subJ [] (ih _ _ _ _ _ _ h) ?_ ?_ ?_
        · exact ⟨rfl, rfl, rfl, rfl, rfl, trivial⟩
        · exact ⟨mem_at 0 rfl, mem_at 1 rfl, mem_at 2 rfl, mem_at 3 rfl, trivial⟩
        · rfl
      · have h := cond_f h h8
        refine TC.skip ?_
        refine TC.inBlock ?_
        refine TC.region ?_
        refine op0 (sp_move rfl rfl) rfl trivial rfl rfl ?_
        obtain ⟨h10, h⟩ := chk_inv h
        refine op0 (sp_add rfl rfl rfl h10) rfl trivial rfl rfl ?_
        refine op0 (sp_assign rfl rfl) rfl trivial rfl rfl ?_
        refine TL.nil ?_
        refine TC.inLoop ?_
        refine TC.seq ?_
        refine TC.seq ?_
        refine subJ [] (ih _ _ _ _ _ _ h) ?_ ?_ ?_
        · exact ⟨rfl, rfl, rfl, rfl, rfl, trivial⟩
        · exact ⟨mem_at 0 rfl, mem_at 1 rfl, mem_at 2 rfl, mem_at 3 rfl, trivial⟩
        · rfl
    · have h := cond_f h h4
      refine TC.exit rfl ?_
      refine TC.seq ?_
      refine TC.region ?_
      refine op1 3 rfl (sp_loadBA rfl isBlk rfl vt34 rfl rfl) rfl trivial rfl rfl ?_
      refine stoB 2 (cells' := [.val (.int .i64 i8), .val (.int .i64 i9)]) rfl rfl trivial rfl rfl rfl rfl vt34 rfl rfl rfl ?_
      refine TL.nil ?_
      cases h
      exact retJ [] (.cells rfl (mem_at 2 rfl) isBlk vt34 rfl rfl (.nil)) rfl trivial rfl rfl
def ev_slices_MinFunc_Lapi_Span_api_Span_j0 (n : Nat) (x1 : List (Int × Int)) (cmp2 : (Int × Int × Int × Int) → Option Int) : Option (Int × Int) :=
  idx x1 0 fun x3 => ev_slices_MinFunc_Lapi_Span_api_Span_l1 n cmp2 n 1 x1 0 0 x3.1 x3.2
set_option maxRecDepth 100000 in
set_option maxHeartbeats 2000000 in
theorem ok_slices_MinFunc_Lapi_Span_api_Span_j0 {n : Nat} {w0 : World} {R0 : Nat → Prop} {env0 : Env} {r : Int × Int} {x1 : List (Int × Int)} {cmp2 : (Int × Int × Int × Int) → Option Int} (h : ev_slices_MinFunc_Lapi_Span_api_Span_j0 n x1 cmp2 = some r) : TC Try.prog ⟨w0, fun _ => False, R0⟩ 33 (bodyPost Try.prog Try.f192 (Post ⟨w0, fun _ => False, R0⟩ env0 (.agg [.val (.int .i64 r.1), .val (.int .i64 r.2)]) [])) [.code (sub (bodyOf Try.f192) [1, 1, 0]), .code (sub (bodyOf Try.f192) [1, 1, 1])] ([(0, .ref 0), (1, .ref 1), (4, .ptr 2 0)]) ([.ro 0 2 (List.map en_api_Span x1), .any 1 (D.fn Try.prog fe_funcapi_Span_api_Span_int fd_funcapi_Span_api_Span_int cmp2), .blk 2 [.val (.int .i64 0), .val (.int .i64 0)] 34]) := by
  rw [ev_slices_MinFunc_Lapi_Span_api_Span_j0] at h
  refine TC.region ?_
  refine op0 (sp_move rfl rfl) rfl trivial rfl rfl ?_
  obtain ⟨x3, h2, h3, h⟩ := idx_inv h
  refine op1 0 rfl (sp_indexS rfl rfl rfl isRo sl39 h2 (map_get _ h3)) rfl trivial rfl rfl ?_
  refine op1 0 rfl (sp_loadRA (i := (0 : Int).toNat) (j := 0) (as_ := [.val (.int .i64 x3.1), .val (.int .i64 x3.2)]) (ns := []) rfl rfl isRo vt34 rfl (map_get _ h3) rfl rfl (by decide) (.v (.v (.nil))) (nodup_of_B rfl)) rfl trivial rfl rfl ?_
  refine op0 (sp_alloc 3 rfl Try.zeroValue34 rfl) rfl trivial rfl rfl ?_
  refine stoB 0 (cells' := [.val (.int .i64 x3.1), .val (.int .i64 x3.2)]) rfl rfl trivial rfl rfl rfl rfl vt34 rfl rfl rfl ?_
  refine TL.nil ?_
  refine TC.seq ?_
  refine TC.seq ?_
  refine TC.region ?_
  refine op0 (sp_assign rfl rfl) rfl trivial rfl rfl ?_
  refine TL.nil ?_
  refine TC.block ?_
  refine TC.loop ?_
  refine TC.seq ?_
  refine TC.seq ?_
  refine subJ [] (ok_slices_MinFunc_Lapi_Span_api_Span_l1 _ _ _ _ _ _ _ h) ?_ ?_ ?_
  · exact ⟨rfl, rfl, rfl, rfl, rfl, trivial⟩
  · exact ⟨mem_at 1 rfl, mem_at 2 rfl, mem_at 3 rfl, mem_at 0 rfl, trivial⟩
  · rfl
def ev_slices_MinFunc_Lapi_Span_api_Span (n : Nat) (x1 : List (Int × Int)) (cmp2 : (Int × Int × Int × Int) → Option Int) : Option (Int × Int) :=
  cond (decide ((x1.length : Int) < 1)) (none) (ev_slices_MinFunc_Lapi_Span_api_Span_j0 n x1 cmp2)
set_option maxRecDepth 100000 in
set_option maxHeartbeats 2000000 in
theorem fc_slices_MinFunc_Lapi_Span_api_Span {n : Nat} {x1 : List (Int × Int)} {cmp2 : (Int × Int × Int × Int) → Option Int} {r : Int × Int} (h : ev_slices_MinFunc_Lapi_Span_api_Span n x1 cmp2 = some r) : FC Try.prog 192 [.ref 0, .ref 1] [.ro 0 2 (List.map en_api_Span x1), .any 1 (D.fn Try.prog fe_funcapi_Span_api_Span_int fd_funcapi_Span_api_Span_int cmp2)] (.agg [.val (.int .i64 r.1), .val (.int .i64 r.2)]) [] := by
  refine introJ (nz := 33) Try.func192 rfl rfl rfl (fun w0 R0 env0 => ?_)
  rw [ev_slices_MinFunc_Lapi_Span_api_Span] at h
  refine TC.seq ?_
  refine TC.region ?_
  refine op0 (sp_alloc 2 rfl Try.zeroValue34 rfl) rfl trivial rfl rfl ?_
  refine TL.nil ?_
  refine TC.seq ?_
  refine TC.seq ?_
  refine TC.region ?_
  refine op0 (sp_move rfl rfl) rfl trivial rfl rfl ?_
  refine op1 1 rfl (sp_lenM (N := x1.length) (len_map _ _) rfl rfl isRo Try.underlying39) rfl trivial rfl rfl ?_
  refine op0 (sp_lss rfl rfl rfl) rfl trivial rfl rfl ?_
  refine TL.nil ?_
  refine TC.cond (b := (decide ((x1.length : Int) < 1))) rfl (fun h1 => ?_) (fun h1 => ?_)
  · have h := cond_t h h1
    refine TC.region ?_
    exact none_no h
  · have h := cond_f h h1
    refine TC.skip ?_
    refine TC.seq ?_
    refine subJ [] (ok_slices_MinFunc_Lapi_Span_api_Span_j0 h) ?_ ?_ ?_
    · exact ⟨rfl, rfl, rfl, trivial⟩
    · exact ⟨mem_at 1 rfl, mem_at 2 rfl, mem_at 0 rfl, trivial⟩
    · rfl
/- slices_MaxFunc_Lapi_Span_api_Span -/
def ev_slices_MaxFunc_Lapi_Span_api_Span_l1 (n : Nat) (cmp2 : (Int × Int × Int × Int) → Option Int) : Nat → Int → (List (Int × Int)) → Int → Int → Int → Int → Option (Int × Int)
  | 0, _, _, _, _, _, _ => none
  | m + 1, i4, l5, i6, i7, i8, i9 => cond (decide (i4 < (l5.length : Int))) (idx l5 i4 fun x10 => (cmp2 (x10.1, x10.2, i8, i9)).bind fun r11 => cond (decide ((0 : Int) < r11)) (chk (in64 (i4 + 1)) <| ev_slices_MaxFunc_Lapi_Span_api_Span_l1 n cmp2 m (i4 + 1) l5 i6 i7 x10.1 x10.2) (chk (in64 (i4 + 1)) <| ev_slices_MaxFunc_Lapi_Span_api_Span_l1 n cmp2 m (i4 + 1) l5 i6 i7 i8 i9)) (some (i8, i9))
set_option maxRecDepth 100000 in
set_option maxHeartbeats 2000000 in
theorem ok_slices_MaxFunc_Lapi_Span_api_Span_l1 {n : Nat} {w0 : World} {R0 : Nat → Prop} {env0 : Env} {r : Int × Int} {cmp2 : (Int × Int × Int × Int) → Option Int} : ∀ (m : Nat) (i4 : Int) (l5 : List (Int × Int)) (i6 : Int) (i7 : Int) (i8 : Int) (i9 : Int), ev_slices_MaxFunc_Lapi_Span_api_Span_l1 n cmp2 m i4 l5 i6 i7 i8 i9 = some r → TC Try.prog ⟨w0, fun _ => False, R0⟩ 33 (bodyPost Try.prog Try.f194 (Post ⟨w0, fun _ => False, R0⟩ env0 (.agg [.val (.int .i64 r.1), .val (.int .i64 r.2)]) [])) [.code (sub (bodyOf Try.f194) [1, 1, 1, 0, 1, 0, 0, 0, 0]), .code (sub (bodyOf Try.f194) [1, 1, 1, 0, 1, 0, 0, 0, 1]), .code (sub (bodyOf Try.f194) [1, 1, 1, 0, 1, 0, 0, 1]), .inLoop (sub (bodyOf Try.f194) [1, 1, 1, 0, 1, 0, 0]), .inBlock 0, .code (sub (bodyOf Try.f194) [1, 1, 1, 1])] ([(0, .ref 0), (1, .ref 1), (4, .ptr 2 0), (5, .ptr 3 0), (6, .val (.int .i64 i4))]) ([.ro 0 2 (List.map en_api_Span l5), .any 1 (D.fn Try.prog fe_funcapi_Span_api_Span_int fd_funcapi_Span_api_Span_int cmp2), .blk 2 [.val (.int .i64 i6), .val (.int .i64 i7)] 34, .blk 3 [.val (.int .i64 i8), .val (.int .i64 i9)] 34]) := by
  intro m
  induction m with
  | zero => intro i4 l5 i6 i7 i8 i9 h; exact none_no h
  | succ m ih =>
    intro i4 l5 i6 i7 i8 i9 h
    rw [ev_slices_MaxFunc_Lapi_Span_api_Span_l1] at h
    refine TC.region ?_
    refine op0 (sp_move rfl rfl) rfl trivial rfl rfl ?_
    refine op0 (sp_move rfl rfl) rfl trivial rfl rfl ?_
    refine op1 0 rfl (sp_lenM (N := l5.length) (len_map _ _) rfl rfl isRo Try.underlying39) rfl trivial rfl rfl ?_
    refine op0 (sp_lss rfl rfl rfl) rfl trivial rfl rfl ?_
    refine TL.nil ?_
    refine TC.cond (b := (decide (i4 < (l5.length : Int)))) rfl (fun h4 => ?_) (fun h4 => ?_)
    · have h := cond_t h h4
      refine TC.skip ?_
      refine TC.seq ?_
      refine TC.block ?_
      refine TC.seq ?_
      obtain ⟨x10, h5, h6, h⟩ := idx_inv h
      refine drawJ 6 [⟨.ref 1, [], [], []⟩, ⟨.ref 0, [], [], []⟩, ⟨.val (.int .i64 i4), [], [], []⟩, ⟨.cell 0 ((i4 : Int).toNat * 2), [], [.ro 0 2 (List.map en_api_Span l5)], []⟩, ⟨.agg [.val (.int .i64 x10.1), .val (.int .i64 x10.2)], [], [.ro 0 2 (List.map en_api_Span l5)], []⟩, ⟨.agg [.val (.int .i64 i8), .val (.int .i64 i9)], [], [.blk 3 [.val (.int .i64 i8), .val (.int .i64 i9)] 34], []⟩] rfl ?_ rfl ?_ rfl ?_ ?_
      · kernel_rfl
      · kernel_rfl
      · exact DAll.op' (sp_move rfl rfl) trivial rfl (From.ok (ps := []) trivial) (DAll.op' (sp_move rfl rfl) trivial rfl (From.ok (ps := []) trivial) (DAll.op' (sp_move rfl rfl) trivial rfl (From.ok (ps := []) trivial) (DAll.op' (sp_indexS rfl rfl rfl isRo sl39 h5 (map_get _ h6)) trivial rfl (From.ok (ps := [(none, 0)]) ⟨⟨rfl, rfl⟩, trivial⟩) (DAll.op' (sp_loadRA (i := (i4 : Int).toNat) (j := 0) (as_ := [.val (.int .i64 x10.1), .val (.int .i64 x10.2)]) (ns := []) rfl rfl isRo vt34 rfl (map_get _ h6) rfl rfl (by decide) (.v (.v (.nil))) (nodup_of_B rfl)) trivial rfl (From.ok (ps := [(none, 0)]) ⟨⟨rfl, rfl⟩, trivial⟩) (DAll.op' (sp_loadBA rfl isBlk rfl vt34 rfl rfl) trivial rfl (From.ok (ps := [(none, 3)]) ⟨⟨rfl, rfl⟩, trivial⟩) (.nil))))))
      obtain ⟨r11, h7, h⟩ := bind_inv h
      refine op1 1 rfl (sp_callF (avs := [.agg [.val (.int .i64 x10.1), .val (.int .i64 x10.2)], .agg [.val (.int .i64 i8), .val (.int .i64 i9)]]) (v := .val (.int .i64 r11)) (x10.1, x10.2, i8, i9) rfl rfl rfl rfl rfl h7) rfl trivial rfl rfl ?_
      refine op0 (sp_gtr rfl rfl rfl) rfl trivial rfl rfl ?_
      refine TL.nil ?_
      refine TC.cond (b := (decide ((0 : Int) < r11))) rfl (fun h8 => ?_) (fun h8 => ?_)
      · have h := cond_t h h8
        refine TC.region ?_
        refine op0 (sp_move rfl rfl) rfl trivial rfl rfl ?_
        refine op0 (sp_move rfl rfl) rfl trivial rfl rfl ?_
        refine op1 0 rfl (sp_indexS rfl rfl rfl isRo sl39 h5 (map_get _ h6)) rfl trivial rfl rfl ?_
        refine op1 0 rfl (sp_loadRA (i := (i4 : Int).toNat) (j := 0) (as_ := [.val (.int .i64 x10.1), .val (.int .i64 x10.2)]) (ns := []) rfl rfl isRo vt34 rfl (map_get _ h6) rfl rfl (by decide) (.v (.v (.nil))) (nodup_of_B rfl)) rfl trivial rfl rfl ?_
        refine stoB 3 (cells' := [.val (.int .i64 x10.1), .val (.int .i64 x10.2)]) rfl rfl trivial rfl rfl rfl rfl vt34 rfl rfl rfl ?_
        refine TL.nil ?_
        refine TC.inBlock ?_
        refine TC.region ?_
        refine op0 (sp_move rfl rfl) rfl trivial rfl rfl ?_
        obtain ⟨h9, h⟩ := chk_inv h
        refine op0 (sp_add rfl rfl rfl h9) rfl trivial rfl rfl ?_
        refine op0 (sp_assign rfl rfl) rfl trivial rfl rfl ?_
        refine TL.nil ?_
        refine TC.inLoop ?_
        refine TC.seq ?_
        refine TC.seq ?_
        refine subJ [] (ih _ _ _ _ _ _ h) ?_ ?_ ?_
        · exact ⟨rfl, rfl, rfl, rfl, rfl, trivial⟩
        · exact ⟨mem_at 0 rfl, mem_at 1 rfl, mem_at 2 rfl, mem_at 3 rfl, trivial⟩
        · rfl
      · have h := cond_f h h8
        refine TC.skip ?_
        refine TC.inBlock ?_
        refine TC.region ?_
        refine op0 (sp_move rfl rfl) rfl trivial rfl rfl ?_
        obtain ⟨h10, h⟩ := chk_inv h
        refine op0 (sp_add rfl rfl rfl h10) rfl trivial rfl rfl ?_
        refine op0 (sp_assign rfl rfl) rfl trivial rfl rfl ?_
        refine TL.nil ?_
        refine TC.inLoop ?_
        refine TC.seq ?_
        refine TC.seq ?_
        refine subJ [] (ih _ _ _ _ _ _ h) ?_ ?_ ?_
        · exact ⟨rfl, rfl, rfl, rfl, rfl, trivial⟩
        · exact ⟨mem_at 0 rfl, mem_at 1 rfl, mem_at 2 rfl, mem_at 3 rfl, trivial⟩
        · rfl
    · have h := cond_f h h4
      refine TC.exit rfl ?_
      refine TC.seq ?_
      refine TC.region ?_
      refine op1 3 rfl (sp_loadBA rfl isBlk rfl vt34 rfl rfl) rfl trivial rfl rfl ?_
      refine stoB 2 (cells' := [.val (.int .i64 i8), .val (.int .i64 i9)]) rfl rfl trivial rfl rfl rfl rfl vt34 rfl rfl rfl ?_
      refine TL.nil ?_
      cases h
      exact retJ [] (.cells rfl (mem_at 2 rfl) isBlk vt34 rfl rfl (.nil)) rfl trivial rfl rfl
def ev_slices_MaxFunc_Lapi_Span_api_Span_j0 (n : Nat) (x1 : List (Int × Int)) (cmp2 : (Int × Int × Int × Int) → Option Int) : Option (Int × Int) :=
  idx x1 0 fun x3 => ev_slices_MaxFunc_Lapi_Span_api_Span_l1 n cmp2 n 1 x1 0 0 x3.1 x3.2
set_option maxRecDepth 100000 in
set_option maxHeartbeats 2000000 in
theorem ok_slices_MaxFunc_Lapi_Span_api_Span_j0 {n : Nat} {w0 : World} {R0 : Nat → Prop} {env0 : Env} {r : Int × Int} {x1 : List (Int × Int)} {cmp2 : (Int × Int × Int × Int) → Option Int} (h : ev_slices_MaxFunc_Lapi_Span_api_Span_j0 n x1 cmp2 = some r) : TC Try.prog ⟨w0, fun _ => False, R0⟩ 33 (bodyPost Try.prog Try.f194 (Post ⟨w0, fun _ => False, R0⟩ env0 (.agg [.val (.int .i64 r.1), .val (.int .i64 r.2)]) [])) [.code (sub (bodyOf Try.f194) [1, 1, 0]), .code (sub (bodyOf Try.f194) [1, 1, 1])] ([(0, .ref 0), (1, .ref 1), (4, .ptr 2 0)]) ([.ro 0 2 (List.map en_api_Span x1), .any 1 (D.fn Try.prog fe_funcapi_Span_api_Span_int fd_funcapi_Span_api_Span_int cmp2), .blk 2 [.val (.int .i64 0), .val (.int .i64 0)] 34]) := by
  rw [ev_slices_MaxFunc_Lapi_Span_api_Span_j0] at h
  refine TC.region ?_
  refine op0 (sp_move rfl rfl) rfl trivial rfl rfl ?_
  obtain ⟨x3, h2, h3, h⟩ := idx_inv h
  refine op1 0 rfl (sp_indexS rfl rfl rfl isRo sl39 h2 (map_get _ h3)) rfl trivial rfl rfl ?_
  refine op1 0 rfl (sp_loadRA (i := (0 : Int).toNat) (j := 0) (as_ := [.val (.int .i64 x3.1), .val (.int .i64 x3.2)]) (ns := []) rfl rfl isRo vt34 rfl (map_get _ h3) rfl rfl (by decide) (.v (.v (.nil))) (nodup_of_B rfl)) rfl trivial rfl rfl ?_
  refine op0 (sp_alloc 3 rfl Try.zeroValue34 rfl) rfl trivial rfl rfl ?_
  refine stoB 0 (cells' := [.val (.int .i64 x3.1), .val (.int .i64 x3.2)]) rfl rfl trivial rfl rfl rfl rfl vt34 rfl rfl rfl ?_
  refine TL.nil ?_
  refine TC.seq ?_
  refine TC.seq ?_
  refine TC.region ?_
  refine op0 (sp_assign rfl rfl) rfl trivial rfl rfl ?_
  refine TL.nil ?_
  refine TC.block ?_
  refine TC.loop ?_
  refine TC.seq ?_
  refine TC.seq ?_
  refine subJ [] (ok_slices_MaxFunc_Lapi_Span_api_Span_l1 _ _ _ _ _ _ _ h) ?_ ?_ ?_
  · exact ⟨rfl, rfl, rfl, rfl, rfl, trivial⟩
  · exact ⟨mem_at 1 rfl, mem_at 2 rfl, mem_at 3 rfl, mem_at 0 rfl, trivial⟩
  · rfl
def ev_slices_MaxFunc_Lapi_Span_api_Span (n : Nat) (x1 : List (Int × Int)) (cmp2 : (Int × Int × Int × Int) → Option Int) : Option (Int × Int) :=
  cond (decide ((x1.length : Int) < 1)) (none) (ev_slices_MaxFunc_Lapi_Span_api_Span_j0 n x1 cmp2)
set_option maxRecDepth 100000 in
set_option maxHeartbeats 2000000 in
theorem fc_slices_MaxFunc_Lapi_Span_api_Span {n : Nat} {x1 : List (Int × Int)} {cmp2 : (Int × Int × Int × Int) → Option Int} {r : Int × Int} (h : ev_slices_MaxFunc_Lapi_Span_api_Span n x1 cmp2 = some r) : FC Try.prog 194 [.ref 0, .ref 1] [.ro 0 2 (List.map en_api_Span x1), .any 1 (D.fn Try.prog fe_funcapi_Span_api_Span_int fd_funcapi_Span_api_Span_int cmp2)] (.agg [.val (.int .i64 r.1), .val (.int .i64 r.2)]) [] := by
  refine introJ (nz := 33) Try.func194 rfl rfl rfl (fun w0 R0 env0 => ?_)
  rw [ev_slices_MaxFunc_Lapi_Span_api_Span] at h
  refine TC.seq ?_
  refine TC.region ?_
  refine op0 (sp_alloc 2 rfl Try.zeroValue34 rfl) rfl trivial rfl rfl ?_
  refine TL.nil ?_
  refine TC.seq ?_
  refine TC.seq ?_
  refine TC.region ?_
  refine op0 (sp_move rfl rfl) rfl trivial rfl rfl ?_
  refine op1 1 rfl (sp_lenM (N := x1.length) (len_map _ _) rfl rfl isRo Try.underlying39) rfl trivial rfl rfl ?_
  refine op0 (sp_lss rfl rfl rfl) rfl trivial rfl rfl ?_
  refine TL.nil ?_
  refine TC.cond (b := (decide ((x1.length : Int) < 1))) rfl (fun h1 => ?_) (fun h1 => ?_)
  · have h := cond_t h h1
    refine TC.region ?_
    exact none_no h
  · have h := cond_f h h1
    refine TC.skip ?_
    refine TC.seq ?_
    refine subJ [] (ok_slices_MaxFunc_Lapi_Span_api_Span_j0 h) ?_ ?_ ?_
    · exact ⟨rfl, rfl, rfl, trivial⟩
    · exact ⟨mem_at 1 rfl, mem_at 2 rfl, mem_at 0 rfl, trivial⟩
    · rfl
/- top_pubFace -/
def ev_top_pubFace (n : Nat) (slack1 : Int) (weight2 : Int) (friction3 : Int) : Option (Int × Int × (List (Int × Int × Int)) × Int × Int) :=
  some (0, 0, ([(slack1, 1, 1)] : List (Int × Int × Int)), weight2, friction3)
set_option maxRecDepth 100000 in
set_option maxHeartbeats 2000000 in
theorem fc_top_pubFace {n : Nat} {slack1 : Int} {weight2 : Int} {friction3 : Int} {r : Int × Int × (List (Int × Int × Int)) × Int × Int} (h : ev_top_pubFace n slack1 weight2 friction3 = some r) : FC Try.prog 196 [.val (.int .i64 slack1), .val (.int .i64 weight2), .val (.int .i64 friction3)] [] (.agg [.val (.int .i64 r.1), .val (.int .i64 r.2.1), .ref 0, .val (.int .i64 r.2.2.2.1), .val (.int .i64 r.2.2.2.2)]) [.row 0 104 3 (List.map en_api_DialLink r.2.2.1)] := by
  refine introJ (nz := 14) Try.func196 rfl rfl rfl (fun w0 R0 env0 => ?_)
  rw [ev_top_pubFace] at h
  refine TC.seq ?_
  refine TC.region ?_
  refine op0 (sp_alloc 0 rfl Try.zeroValue107 rfl) rfl trivial rfl rfl ?_
  refine TL.nil ?_
  refine TC.seq ?_
  refine TC.region ?_
  refine op0 (sp_move rfl rfl) rfl trivial rfl rfl ?_
  refine op0 (sp_build (qs := [(0, .val (.int .i64 1)), (1, .val (.int .i64 1))]) rfl bt26 rfl rfl rfl rfl) rfl trivial rfl rfl ?_
  refine op0 (sp_build (qs := [(0, .val (.int .i64 slack1)), (1, .agg [.val (.int .i64 1), .val (.int .i64 1)])]) rfl bt104 rfl rfl rfl rfl) rfl trivial rfl rfl ?_
  refine op0 (sp_buildSlice (qs := [.agg [.val (.int .i64 slack1), .val (.int .i64 1), .val (.int .i64 1)]]) (need := []) (els := List.map en_api_DialLink ([(slack1, 1, 1)] : List (Int × Int × Int))) 1 rfl sl105 (by decide) (by decide) rfl rfl rfl (.v (.v (.v (.nil)))) (map_len fun _ => rfl) rfl rfl rfl) rfl trivial rfl rfl ?_
  refine op0 (sp_move rfl rfl) rfl trivial rfl rfl ?_
  refine op0 (sp_move rfl rfl) rfl trivial rfl rfl ?_
  refine op0 (sp_build (qs := [(1, .ref 1), (2, .val (.int .i64 weight2)), (3, .val (.int .i64 friction3))]) rfl bt107 rfl rfl rfl rfl) rfl trivial rfl rfl ?_
  refine stoB 1 (cells' := [.val (.int .i64 0), .val (.int .i64 0), .ref 1, .val (.int .i64 weight2), .val (.int .i64 friction3)]) rfl rfl trivial rfl rfl rfl rfl vt107 rfl rfl rfl ?_
  refine TL.nil ?_
  cases h
  exact retJ [(0, 1)] (.cells rfl (mem_at 1 rfl) isBlk vt107 rfl rfl (.nil)) rfl ⟨mem_at 0 rfl, trivial⟩ rfl rfl
/- top_pubThirty -/
def ev_top_pubThirty (n : Nat) : Option (Int × Int × Int × (List (Int × Int × (List (Int × Int × Int)) × Int × Int))) :=
  (ev_top_pubSpan n (-2) 3).bind fun r1 => (ev_top_pubFace n 5 30 10).bind fun r2 => some (30, r1.1, r1.2, ([(r2.1, r2.2.1, r2.2.2.1, r2.2.2.2.1, r2.2.2.2.2)] : List (Int × Int × (List (Int × Int × Int)) × Int × Int)))
set_option maxRecDepth 100000 in
set_option maxHeartbeats 2000000 in
theorem fc_top_pubThirty {n : Nat}  {r : Int × Int × Int × (List (Int × Int × (List (Int × Int × Int)) × Int × Int))} (h : ev_top_pubThirty n = some r) : FC Try.prog 99 [] [] (.agg [.val (.int .i64 r.1), .val (.int .i64 r.2.1), .val (.int .i64 r.2.2.1), .ref 0]) [.row 0 107 5 (List.map en_api_DialFace r.2.2.2)] := by
  refine introJ (nz := 5) Try.func99 rfl rfl rfl (fun w0 R0 env0 => ?_)
  rw [ev_top_pubThirty] at h
  refine TC.seq ?_
  refine TC.region ?_
  refine op0 (sp_alloc 0 rfl Try.zeroValue111 rfl) rfl trivial rfl rfl ?_
  refine TL.nil ?_
  refine TC.seq ?_
  refine TC.region ?_
  obtain ⟨r1, h1, h⟩ := bind_inv h
  refine op0 (sp_call (avs := [.val (.int .i64 (-2)), .val (.int .i64 3)]) (need := []) (v := .agg [.val (.int .i64 r1.1), .val (.int .i64 r1.2)]) (news := []) rfl rfl rfl Try.call20 (atJ [] [] (fc_top_pubSpan h1) rfl rfl) (.inl (roAll rfl))) rfl trivial rfl rfl ?_
  obtain ⟨r2, h2, h⟩ := bind_inv h
  refine op0 (sp_call (avs := [.val (.int .i64 5), .val (.int .i64 30), .val (.int .i64 10)]) (need := []) (v := .agg [.val (.int .i64 r2.1), .val (.int .i64 r2.2.1), .ref 1, .val (.int .i64 r2.2.2.2.1), .val (.int .i64 r2.2.2.2.2)]) (news := [.row 1 104 3 (List.map en_api_DialLink r2.2.2.1)]) rfl rfl rfl Try.call196 (atJ [] [(0, 1)] (fc_top_pubFace h2) rfl rfl) (.inl (roAll rfl))) rfl trivial rfl rfl ?_
  refine TL.freeze 0 rfl ?_
  refine op1 0 rfl (sp_buildSlice (qs := [.agg [.val (.int .i64 r2.1), .val (.int .i64 r2.2.1), .ref 1, .val (.int .i64 r2.2.2.2.1), .val (.int .i64 r2.2.2.2.2)]]) (need := [.ro 1 3 (List.map en_api_DialLink r2.2.2.1)]) (els := List.map en_api_DialFace ([(r2.1, r2.2.1, r2.2.2.1, r2.2.2.2.1, r2.2.2.2.2)] : List (Int × Int × (List (Int × Int × Int)) × Int × Int))) 2 rfl sl109 (by decide) (by decide) rfl rfl rfl (.v (.v (.s (mem_at 0 rfl) (.v (.v (.nil)))))) (map_len fun _ => rfl) rfl rfl rfl) rfl trivial rfl rfl ?_
  refine op0 (sp_build (qs := [(0, .val (.int .i64 30)), (1, .agg [.val (.int .i64 r1.1), .val (.int .i64 r1.2)]), (2, .ref 2)]) rfl bt111 rfl rfl rfl rfl) rfl trivial rfl rfl ?_
  refine stoB 2 (cells' := [.val (.int .i64 30), .val (.int .i64 r1.1), .val (.int .i64 r1.2), .ref 2]) rfl rfl trivial rfl rfl rfl rfl vt111 rfl rfl rfl ?_
  refine TL.nil ?_
  cases h
  exact retJ [(0, 2)] (.cells rfl (mem_at 2 rfl) isBlk vt111 rfl rfl (.nil)) rfl ⟨mem_at 0 rfl, trivial⟩ rfl rfl
/- top_pubFaults -/
def ev_top_pubFaults_j1 (n : Nat) (l8 : List Int) (i7 : Int) (i4 : Int) (until2 : Int) (l9 : List (Int × Int)) (i5 : Int) (i6 : Int) (k_top_pubFaults_l0 : Int → Int → Int → Int → (List Int) → (List (Int × Int)) → Option ((List (Int × Int)) × Int × Int)) : Option ((List (Int × Int)) × Int × Int) :=
  idx l8 i7 fun x10 => chk (in64 x10) <| chk (in64 (Int.tdiv x10 2)) <| chk (in64 ((1 : Int) + (Int.tmod (Int.tdiv x10 2) 20))) <| chk (in64 (i4 + ((1 : Int) + (Int.tmod (Int.tdiv x10 2) 20)))) <| cond (decide (until2 < (i4 + ((1 : Int) + (Int.tmod (Int.tdiv x10 2) 20))))) (some (l9, i5, i6)) (cond ((Int.tmod x10 2) == 0) (chk (room 16 (l9.length + ([((i4 + ((1 : Int) + (Int.tmod (Int.tdiv x10 2) 20))), 1)] : List (Int × Int)).length)) <| chk (in64 (i5 + 1)) <| chk (in64 (i7 + 1)) <| k_top_pubFaults_l0 (i4 + ((1 : Int) + (Int.tmod (Int.tdiv x10 2) 20))) (i5 + 1) i6 (i7 + 1) l8 (l9 ++ ([((i4 + ((1 : Int) + (Int.tmod (Int.tdiv x10 2) 20))), 1)] : List (Int × Int)))) (chk (room 16 (l9.length + ([((i4 + ((1 : Int) + (Int.tmod (Int.tdiv x10 2) 20))), 2)] : List (Int × Int)).length)) <| chk (in64 (i6 + 1)) <| chk (in64 (i7 + 1)) <| k_top_pubFaults_l0 (i4 + ((1 : Int) + (Int.tmod (Int.tdiv x10 2) 20))) i5 (i6 + 1) (i7 + 1) l8 (l9 ++ ([((i4 + ((1 : Int) + (Int.tmod (Int.tdiv x10 2) 20))), 2)] : List (Int × Int)))))
set_option maxRecDepth 100000 in
set_option maxHeartbeats 2000000 in
theorem ok_top_pubFaults_j1 {n : Nat} {w0 : World} {R0 : Nat → Prop} {env0 : Env} {r : (List (Int × Int)) × Int × Int} {until2 : Int} {l8 : List Int} {i7 : Int} {i4 : Int} {l9 : List (Int × Int)} {i5 : Int} {i6 : Int} {k_top_pubFaults_l0 : Int → Int → Int → Int → (List Int) → (List (Int × Int)) → Option ((List (Int × Int)) × Int × Int)} (hk_top_pubFaults_l0 : ∀ (i4 : Int) (i5 : Int) (i6 : Int) (i7 : Int) (l8 : List Int) (l9 : List (Int × Int)), k_top_pubFaults_l0 i4 i5 i6 i7 l8 l9 = some r → TC Try.prog ⟨w0, fun _ => False, R0⟩ 63 (bodyPost Try.prog Try.f50 (Post ⟨w0, fun _ => False, R0⟩ env0 (.tup [.ref 0, .val (.int .i64 r.2.1), .val (.int .i64 r.2.2)]) [.row 0 155 2 (List.map en_api_PulseFault r.1)])) [.code (sub (bodyOf Try.f50) [1, 1, 0, 1, 0, 0, 0, 0]), .code (sub (bodyOf Try.f50) [1, 1, 0, 1, 0, 0, 0, 1]), .code (sub (bodyOf Try.f50) [1, 1, 0, 1, 0, 0, 1]), .inLoop (sub (bodyOf Try.f50) [1, 1, 0, 1, 0, 0]), .inBlock 0, .code (sub (bodyOf Try.f50) [1, 1, 1])] ([(1, .val (.int .i64 until2)), (2, .ref 0), (9, .ref 1), (10, .val (.int .i64 i4)), (11, .val (.int .i64 i5)), (12, .val (.int .i64 i6)), (13, .val (.int .i64 i7))]) ([.ro 0 1 (List.map en_uint8 l8), .row 1 155 2 (List.map en_api_PulseFault l9)])) (h : ev_top_pubFaults_j1 n l8 i7 i4 until2 l9 i5 i6 k_top_pubFaults_l0 = some r) : TC Try.prog ⟨w0, fun _ => False, R0⟩ 63 (bodyPost Try.prog Try.f50 (Post ⟨w0, fun _ => False, R0⟩ env0 (.tup [.ref 0, .val (.int .i64 r.2.1), .val (.int .i64 r.2.2)]) [.row 0 155 2 (List.map en_api_PulseFault r.1)])) [.code (sub (bodyOf Try.f50) [1, 1, 0, 1, 0, 0, 0, 1, 0]), .code (sub (bodyOf Try.f50) [1, 1, 0, 1, 0, 0, 1]), .inLoop (sub (bodyOf Try.f50) [1, 1, 0, 1, 0, 0]), .inBlock 0, .code (sub (bodyOf Try.f50) [1, 1, 1])] ([(1, .val (.int .i64 until2)), (2, .ref 0), (9, .ref 1), (10, .val (.int .i64 i4)), (11, .val (.int .i64 i5)), (12, .val (.int .i64 i6)), (13, .val (.int .i64 i7))]) ([.ro 0 1 (List.map en_uint8 l8), .row 1 155 2 (List.map en_api_PulseFault l9)]) := by
  rw [ev_top_pubFaults_j1] at h
  refine TC.skip ?_
  refine TC.seq ?_
  refine TC.block ?_
  refine TC.seq ?_
  refine TC.seq ?_
  refine TC.region ?_
  refine op0 (sp_move rfl rfl) rfl trivial rfl rfl ?_
  refine op0 (sp_move rfl rfl) rfl trivial rfl rfl ?_
  refine op0 (sp_move rfl rfl) rfl trivial rfl rfl ?_
  obtain ⟨x10, h3, h4, h⟩ := idx_inv h
  refine op1 0 rfl (sp_indexS rfl rfl rfl isRo sl132 h3 (map_get _ h4)) rfl trivial rfl rfl ?_
  refine op1 0 rfl (sp_loadR (i := (i7 : Int).toNat) (j := 0) rfl rfl isRo vt5 rfl (map_get _ h4) rfl (.v (.nil)) (nodup_of_B rfl)) rfl trivial rfl rfl ?_
  obtain ⟨h5, h⟩ := chk_inv h
  refine op0 (sp_conv rfl Try.underlying5 Try.underlying3 rfl h5) rfl trivial rfl rfl ?_
  obtain ⟨h6, h⟩ := chk_inv h
  refine op0 (sp_quo rfl rfl rfl (by decide) h6) rfl trivial rfl rfl ?_
  refine op0 (sp_rem rfl rfl rfl (by decide)) rfl trivial rfl rfl ?_
  obtain ⟨h7, h⟩ := chk_inv h
  refine op0 (sp_add rfl rfl rfl h7) rfl trivial rfl rfl ?_
  obtain ⟨h8, h⟩ := chk_inv h
  refine op0 (sp_add rfl rfl rfl h8) rfl trivial rfl rfl ?_
  refine op0 (sp_assign rfl rfl) rfl trivial rfl rfl ?_
  refine TL.nil ?_
  refine TC.seq ?_
  refine TC.region ?_
  refine op0 (sp_move rfl rfl) rfl trivial rfl rfl ?_
  refine op0 (sp_move rfl rfl) rfl trivial rfl rfl ?_
  refine op0 (sp_gtr rfl rfl rfl) rfl trivial rfl rfl ?_
  refine TL.nil ?_
  refine TC.cond (b := (decide (until2 < (i4 + ((1 : Int) + (Int.tmod (Int.tdiv x10 2) 20)))))) rfl (fun h9 => ?_) (fun h9 => ?_)
  · have h := cond_t h h9
    refine TC.exit rfl ?_
    refine TC.seq ?_
    refine TC.region ?_
    refine op0 (sp_move rfl rfl) rfl trivial rfl rfl ?_
    refine op0 (sp_move rfl rfl) rfl trivial rfl rfl ?_
    refine op0 (sp_move rfl rfl) rfl trivial rfl rfl ?_
    refine op0 (sp_assign rfl rfl) rfl trivial rfl rfl ?_
    refine op0 (sp_assign rfl rfl) rfl trivial rfl rfl ?_
    refine op0 (sp_assign rfl rfl) rfl trivial rfl rfl ?_
    refine TL.nil ?_
    cases h
    exact retJ [(0, 1)] (.tmp rfl (.tmp rfl (.tmp rfl .nil))) rfl ⟨mem_at 1 rfl, trivial⟩ rfl rfl
  · have h := cond_f h h9
    refine TC.skip ?_
    refine TC.seq ?_
    refine TC.region ?_
    refine op0 (sp_move rfl rfl) rfl trivial rfl rfl ?_
    refine op0 (sp_move rfl rfl) rfl trivial rfl rfl ?_
    refine op1 0 rfl (sp_indexS rfl rfl rfl isRo sl132 h3 (map_get _ h4)) rfl trivial rfl rfl ?_
    refine op1 0 rfl (sp_loadR (i := (i7 : Int).toNat) (j := 0) rfl rfl isRo vt5 rfl (map_get _ h4) rfl (.v (.nil)) (nodup_of_B rfl)) rfl trivial rfl rfl ?_
    refine op0 (sp_rem rfl rfl rfl (by decide)) rfl trivial rfl rfl ?_
    refine op0 (sp_eql rfl rfl rfl) rfl trivial rfl rfl ?_
    refine TL.nil ?_
    refine TC.cond (b := ((Int.tmod x10 2) == 0)) rfl (fun h10 => ?_) (fun h10 => ?_)
    · have h := cond_t h h10
      refine TC.region ?_
      refine op0 (sp_move rfl rfl) rfl trivial rfl rfl ?_
      refine op0 (sp_move rfl rfl) rfl trivial rfl rfl ?_
      refine op0 (sp_build (qs := [(0, .val (.int .i64 (i4 + ((1 : Int) + (Int.tmod (Int.tdiv x10 2) 20))))), (1, .val (.int .i64 1))]) rfl bt155 rfl rfl rfl rfl) rfl trivial rfl rfl ?_
      refine op0 (sp_buildSlice (qs := [.agg [.val (.int .i64 (i4 + ((1 : Int) + (Int.tmod (Int.tdiv x10 2) 20)))), .val (.int .i64 1)]]) (need := []) (els := List.map en_api_PulseFault ([((i4 + ((1 : Int) + (Int.tmod (Int.tdiv x10 2) 20))), 1)] : List (Int × Int))) 2 rfl sl142 (by decide) (by decide) rfl rfl rfl (.v (.v (.nil))) (map_len fun _ => rfl) rfl rfl rfl) rfl trivial rfl rfl ?_
      obtain ⟨h11, h⟩ := chk_inv h
      refine appM 2 0 (N := l9.length) (N2 := ([((i4 + ((1 : Int) + (Int.tmod (Int.tdiv x10 2) 20))), 1)] : List (Int × Int)).length) 3 rfl rfl trivial rfl rfl rfl rfl rfl isOwn rfl sl142 (len_map _ _) (len_map _ _) h11 (map_app _ _ _) rfl ?_
      refine op0 (sp_move rfl rfl) rfl trivial rfl rfl ?_
      obtain ⟨h12, h⟩ := chk_inv h
      refine op0 (sp_add rfl rfl rfl h12) rfl trivial rfl rfl ?_
      refine op0 (sp_assign rfl rfl) rfl trivial rfl rfl ?_
      refine op0 (sp_assign rfl rfl) rfl trivial rfl rfl ?_
      refine TL.nil ?_
      refine TC.inBlock ?_
      refine TC.region ?_
      refine op0 (sp_move rfl rfl) rfl trivial rfl rfl ?_
      obtain ⟨h13, h⟩ := chk_inv h
      refine op0 (sp_add rfl rfl rfl h13) rfl trivial rfl rfl ?_
      refine op0 (sp_assign rfl rfl) rfl trivial rfl rfl ?_
      refine TL.nil ?_
      refine TC.inLoop ?_
      refine TC.seq ?_
      refine TC.seq ?_
      refine subJ [(1, 3)] (hk_top_pubFaults_l0 _ _ _ _ _ _ h) ?_ ?_ ?_
      · exact ⟨rfl, rfl, rfl, rfl, rfl, rfl, rfl, trivial⟩
      · exact ⟨mem_at 2 rfl, mem_at 0 rfl, trivial⟩
      · rfl
    · have h := cond_f h h10
      refine TC.region ?_
      refine op0 (sp_move rfl rfl) rfl trivial rfl rfl ?_
      refine op0 (sp_move rfl rfl) rfl trivial rfl rfl ?_
      refine op0 (sp_build (qs := [(0, .val (.int .i64 (i4 + ((1 : Int) + (Int.tmod (Int.tdiv x10 2) 20))))), (1, .val (.int .i64 2))]) rfl bt155 rfl rfl rfl rfl) rfl trivial rfl rfl ?_
      refine op0 (sp_buildSlice (qs := [.agg [.val (.int .i64 (i4 + ((1 : Int) + (Int.tmod (Int.tdiv x10 2) 20)))), .val (.int .i64 2)]]) (need := []) (els := List.map en_api_PulseFault ([((i4 + ((1 : Int) + (Int.tmod (Int.tdiv x10 2) 20))), 2)] : List (Int × Int))) 4 rfl sl142 (by decide) (by decide) rfl rfl rfl (.v (.v (.nil))) (map_len fun _ => rfl) rfl rfl rfl) rfl trivial rfl rfl ?_
      obtain ⟨h14, h⟩ := chk_inv h
      refine appM 2 0 (N := l9.length) (N2 := ([((i4 + ((1 : Int) + (Int.tmod (Int.tdiv x10 2) 20))), 2)] : List (Int × Int)).length) 5 rfl rfl trivial rfl rfl rfl rfl rfl isOwn rfl sl142 (len_map _ _) (len_map _ _) h14 (map_app _ _ _) rfl ?_
      refine op0 (sp_move rfl rfl) rfl trivial rfl rfl ?_
      obtain ⟨h15, h⟩ := chk_inv h
      refine op0 (sp_add rfl rfl rfl h15) rfl trivial rfl rfl ?_
      refine op0 (sp_assign rfl rfl) rfl trivial rfl rfl ?_
      refine op0 (sp_assign rfl rfl) rfl trivial rfl rfl ?_
      refine TL.nil ?_
      refine TC.inBlock ?_
      refine TC.region ?_
      refine op0 (sp_move rfl rfl) rfl trivial rfl rfl ?_
      obtain ⟨h16, h⟩ := chk_inv h
      refine op0 (sp_add rfl rfl rfl h16) rfl trivial rfl rfl ?_
      refine op0 (sp_assign rfl rfl) rfl trivial rfl rfl ?_
      refine TL.nil ?_
      refine TC.inLoop ?_
      refine TC.seq ?_
      refine TC.seq ?_
      refine subJ [(1, 5)] (hk_top_pubFaults_l0 _ _ _ _ _ _ h) ?_ ?_ ?_
      · exact ⟨rfl, rfl, rfl, rfl, rfl, rfl, rfl, trivial⟩
      · exact ⟨mem_at 2 rfl, mem_at 0 rfl, trivial⟩
      · rfl
def ev_top_pubFaults_l0 (n : Nat) (until2 : Int) : Nat → Int → Int → Int → Int → (List Int) → (List (Int × Int)) → Option ((List (Int × Int)) × Int × Int)
  | 0, _, _, _, _, _, _ => none
  | m + 1, i4, i5, i6, i7, l8, l9 => cond (decide (i7 < (l8.length : Int))) (cond (decide ((l9.length : Int) < 20)) (ev_top_pubFaults_j1 n l8 i7 i4 until2 l9 i5 i6 (fun i4q i5q i6q i7q l8q l9q => ev_top_pubFaults_l0 n until2 m i4q i5q i6q i7q l8q l9q)) (some (l9, i5, i6))) (some (l9, i5, i6))
set_option maxRecDepth 100000 in
set_option maxHeartbeats 2000000 in
theorem ok_top_pubFaults_l0 {n : Nat} {w0 : World} {R0 : Nat → Prop} {env0 : Env} {r : (List (Int × Int)) × Int × Int} {until2 : Int} : ∀ (m : Nat) (i4 : Int) (i5 : Int) (i6 : Int) (i7 : Int) (l8 : List Int) (l9 : List (Int × Int)), ev_top_pubFaults_l0 n until2 m i4 i5 i6 i7 l8 l9 = some r → TC Try.prog ⟨w0, fun _ => False, R0⟩ 63 (bodyPost Try.prog Try.f50 (Post ⟨w0, fun _ => False, R0⟩ env0 (.tup [.ref 0, .val (.int .i64 r.2.1), .val (.int .i64 r.2.2)]) [.row 0 155 2 (List.map en_api_PulseFault r.1)])) [.code (sub (bodyOf Try.f50) [1, 1, 0, 1, 0, 0, 0, 0]), .code (sub (bodyOf Try.f50) [1, 1, 0, 1, 0, 0, 0, 1]), .code (sub (bodyOf Try.f50) [1, 1, 0, 1, 0, 0, 1]), .inLoop (sub (bodyOf Try.f50) [1, 1, 0, 1, 0, 0]), .inBlock 0, .code (sub (bodyOf Try.f50) [1, 1, 1])] ([(1, .val (.int .i64 until2)), (2, .ref 0), (9, .ref 1), (10, .val (.int .i64 i4)), (11, .val (.int .i64 i5)), (12, .val (.int .i64 i6)), (13, .val (.int .i64 i7))]) ([.ro 0 1 (List.map en_uint8 l8), .row 1 155 2 (List.map en_api_PulseFault l9)]) := by
  intro m
  induction m with
  | zero => intro i4 i5 i6 i7 l8 l9 h; exact none_no h
  | succ m ih =>
    intro i4 i5 i6 i7 l8 l9 h
    rw [ev_top_pubFaults_l0] at h
    refine TC.region ?_
    refine op0 (sp_move rfl rfl) rfl trivial rfl rfl ?_
    refine op0 (sp_move rfl rfl) rfl trivial rfl rfl ?_
    refine op1 0 rfl (sp_lenM (N := l8.length) (len_map _ _) rfl rfl isRo Try.underlying132) rfl trivial rfl rfl ?_
    refine op0 (sp_lss rfl rfl rfl) rfl trivial rfl rfl ?_
    refine op0 (sp_move rfl rfl) rfl trivial rfl rfl ?_
    rcases cond_cases h with ⟨h1, h⟩ | ⟨h1, h⟩
    · refine (boolLit 20 rfl h1).2 ?_
      refine op0 (sp_move rfl rfl) rfl ⟨_, rfl, rfl⟩ rfl rfl ?_
      refine op1 1 rfl (sp_lenM (N := l9.length) (len_map _ _) rfl rfl isOwn Try.underlying142) rfl ⟨_, rfl, rfl⟩ rfl rfl ?_
      refine op0 (sp_lss rfl rfl rfl) rfl ⟨_, rfl, rfl⟩ rfl rfl ?_
      refine op0 (sp_pickT rfl rfl rfl) rfl trivial rfl rfl ?_
      refine TL.nil ?_
      refine TC.cond (b := (decide ((l9.length : Int) < 20))) rfl (fun h2 => ?_) (fun h2 => ?_)
      · have h := cond_t h h2
        refine subJ [] (ok_top_pubFaults_j1 ih h) ?_ ?_ ?_
        · exact ⟨rfl, rfl, rfl, rfl, rfl, rfl, rfl, trivial⟩
        · exact ⟨mem_at 0 rfl, mem_at 1 rfl, trivial⟩
        · rfl
      · have h := cond_f h h2
        refine TC.exit rfl ?_
        refine TC.seq ?_
        refine TC.region ?_
        refine op0 (sp_move rfl rfl) rfl trivial rfl rfl ?_
        refine op0 (sp_move rfl rfl) rfl trivial rfl rfl ?_
        refine op0 (sp_move rfl rfl) rfl trivial rfl rfl ?_
        refine op0 (sp_assign rfl rfl) rfl trivial rfl rfl ?_
        refine op0 (sp_assign rfl rfl) rfl trivial rfl rfl ?_
        refine op0 (sp_assign rfl rfl) rfl trivial rfl rfl ?_
        refine TL.nil ?_
        cases h
        exact retJ [(0, 1)] (.tmp rfl (.tmp rfl (.tmp rfl .nil))) rfl ⟨mem_at 1 rfl, trivial⟩ rfl rfl
    · refine (boolLit 20 rfl h1).2 ?_
      refine opSkip rfl ⟨_, rfl, .inl rfl⟩ rfl ?_
      refine opSkip rfl ⟨_, rfl, .inl rfl⟩ rfl ?_
      refine opSkip rfl ⟨_, rfl, .inl rfl⟩ rfl ?_
      refine op0 (sp_pickF rfl rfl rfl) rfl trivial rfl rfl ?_
      refine TL.nil ?_
      refine TC.condF rfl ?_
      refine TC.exit rfl ?_
      refine TC.seq ?_
      refine TC.region ?_
      refine op0 (sp_move rfl rfl) rfl trivial rfl rfl ?_
      refine op0 (sp_move rfl rfl) rfl trivial rfl rfl ?_
      refine op0 (sp_move rfl rfl) rfl trivial rfl rfl ?_
      refine op0 (sp_assign rfl rfl) rfl trivial rfl rfl ?_
      refine op0 (sp_assign rfl rfl) rfl trivial rfl rfl ?_
      refine op0 (sp_assign rfl rfl) rfl trivial rfl rfl ?_
      refine TL.nil ?_
      cases h
      exact retJ [(0, 1)] (.tmp rfl (.tmp rfl (.tmp rfl .nil))) rfl ⟨mem_at 1 rfl, trivial⟩ rfl rfl
def ev_top_pubFaults (n : Nat) (from_1 : Int) (until2 : Int) (by_3 : List Int) : Option ((List (Int × Int)) × Int × Int) :=
  ev_top_pubFaults_l0 n until2 n from_1 0 0 0 by_3 ([] : List (Int × Int))
set_option maxRecDepth 100000 in
set_option maxHeartbeats 2000000 in
theorem fc_top_pubFaults {n : Nat} {from_1 : Int} {until2 : Int} {by_3 : List Int} {r : (List (Int × Int)) × Int × Int} (h : ev_top_pubFaults n from_1 until2 by_3 = some r) : FC Try.prog 50 [.val (.int .i64 from_1), .val (.int .i64 until2), .ref 0] [.ro 0 1 (List.map en_uint8 by_3)] (.tup [.ref 0, .val (.int .i64 r.2.1), .val (.int .i64 r.2.2)]) [.row 0 155 2 (List.map en_api_PulseFault r.1)] := by
  refine introJ (nz := 63) Try.func50 rfl rfl rfl (fun w0 R0 env0 => ?_)
  rw [ev_top_pubFaults] at h
  refine TC.seq ?_
  refine TC.region ?_
  refine op0 (sp_assign rfl rfl) rfl trivial rfl rfl ?_
  refine op0 (sp_assign rfl rfl) rfl trivial rfl rfl ?_
  refine op0 (sp_assign rfl rfl) rfl trivial rfl rfl ?_
  refine TL.nil ?_
  refine TC.seq ?_
  refine TC.region ?_
  refine op0 (sp_emptyM 1 (List.map en_api_PulseFault []) rfl rfl sl142) rfl trivial rfl rfl ?_
  refine op0 (sp_move rfl rfl) rfl trivial rfl rfl ?_
  refine op0 (sp_assign rfl rfl) rfl trivial rfl rfl ?_
  refine op0 (sp_assign rfl rfl) rfl trivial rfl rfl ?_
  refine op0 (sp_assign rfl rfl) rfl trivial rfl rfl ?_
  refine op0 (sp_assign rfl rfl) rfl trivial rfl rfl ?_
  refine TL.nil ?_
  refine TC.seq ?_
  refine TC.seq ?_
  refine TC.region ?_
  refine op0 (sp_assign rfl rfl) rfl trivial rfl rfl ?_
  refine TL.nil ?_
  refine TC.block ?_
  refine TC.loop ?_
  refine TC.seq ?_
  refine TC.seq ?_
  refine subJ [] (ok_top_pubFaults_l0 _ _ _ _ _ _ _ h) ?_ ?_ ?_
  · exact ⟨rfl, rfl, rfl, rfl, rfl, rfl, rfl, trivial⟩
  · exact ⟨mem_at 1 rfl, mem_at 0 rfl, trivial⟩
  · rfl
/- cmp_isNaN_int -/
def ev_cmp_isNaN_int (n : Nat) (x1 : Int) : Option Bool :=
  some (x1 != x1)
set_option maxRecDepth 100000 in
set_option maxHeartbeats 2000000 in
theorem fc_cmp_isNaN_int {n : Nat} {x1 : Int} {r : Bool} (h : ev_cmp_isNaN_int n x1 = some r) : FC Try.prog 300 [.val (.int .i64 x1)] [] (.val (.bool r)) [] := by
  refine introJ (nz := 6) Try.func300 rfl rfl rfl (fun w0 R0 env0 => ?_)
  rw [ev_cmp_isNaN_int] at h
  refine TC.seq ?_
  refine TC.region ?_
  refine op0 (sp_assign rfl rfl) rfl trivial rfl rfl ?_
  refine TL.nil ?_
  refine TC.seq ?_
  refine TC.region ?_
  refine op0 (sp_move rfl rfl) rfl trivial rfl rfl ?_
  refine op0 (sp_move rfl rfl) rfl trivial rfl rfl ?_
  refine op0 (sp_neq rfl rfl rfl) rfl trivial rfl rfl ?_
  refine op0 (sp_assign rfl rfl) rfl trivial rfl rfl ?_
  refine TL.nil ?_
  cases h
  exact retJ [] (.tmp rfl .nil) rfl trivial rfl rfl
/- cmp_Less_int -/
def ev_cmp_Less_int (n : Nat) (x1 : Int) (y2 : Int) : Option Bool :=
  (ev_cmp_isNaN_int n x1).bind fun r3 => cond r3 ((ev_cmp_isNaN_int n y2).bind fun r4 => cond (!r4) (some true) (some (decide (x1 < y2)))) (some (decide (x1 < y2)))
set_option maxRecDepth 100000 in
set_option maxHeartbeats 2000000 in
theorem fc_cmp_Less_int {n : Nat} {x1 : Int} {y2 : Int} {r : Bool} (h : ev_cmp_Less_int n x1 y2 = some r) : FC Try.prog 309 [.val (.int .i64 x1), .val (.int .i64 y2)] [] (.val (.bool r)) [] := by
  refine introJ (nz := 17) Try.func309 rfl rfl rfl (fun w0 R0 env0 => ?_)
  rw [ev_cmp_Less_int] at h
  refine TC.seq ?_
  refine TC.region ?_
  refine op0 (sp_assign rfl rfl) rfl trivial rfl rfl ?_
  refine TL.nil ?_
  refine TC.seq ?_
  refine TC.region ?_
  refine op0 (sp_move rfl rfl) rfl trivial rfl rfl ?_
  obtain ⟨r3, h1, h⟩ := bind_inv h
  refine op0 (sp_call (avs := [.val (.int .i64 x1)]) (need := []) (v := .val (.bool r3)) (news := []) rfl rfl rfl Try.call300 (atJ [] [] (fc_cmp_isNaN_int h1) rfl rfl) (.inl (roAll rfl))) rfl trivial rfl rfl ?_
  refine op0 (sp_move rfl rfl) rfl trivial rfl rfl ?_
  rcases cond_cases h with ⟨h2, h⟩ | ⟨h2, h⟩
  · refine (boolLit 7 rfl h2).2 ?_
    refine op0 (sp_move rfl rfl) rfl ⟨_, rfl, rfl⟩ rfl rfl ?_
    obtain ⟨r4, h3, h⟩ := bind_inv h
    refine op0 (sp_call (avs := [.val (.int .i64 y2)]) (need := []) (v := .val (.bool r4)) (news := []) rfl rfl rfl Try.call300 (atJ [] [] (fc_cmp_isNaN_int h3) rfl rfl) (.inl (roAll rfl))) rfl ⟨_, rfl, rfl⟩ rfl rfl ?_
    refine op0 (sp_not rfl rfl) rfl ⟨_, rfl, rfl⟩ rfl rfl ?_
    refine op0 (sp_pickT rfl rfl rfl) rfl trivial rfl rfl ?_
    refine op0 (sp_move rfl rfl) rfl trivial rfl rfl ?_
    rcases cond_cases h with ⟨h4, h⟩ | ⟨h4, h⟩
    · refine (boolLit 12 rfl h4).2 ?_
      refine opSkip rfl ⟨_, rfl, .inl rfl⟩ rfl ?_
      refine opSkip rfl ⟨_, rfl, .inl rfl⟩ rfl ?_
      refine opSkip rfl ⟨_, rfl, .inl rfl⟩ rfl ?_
      refine op0 (sp_pickT rfl rfl rfl) rfl trivial rfl rfl ?_
      refine op0 (sp_assign rfl rfl) rfl trivial rfl rfl ?_
      refine TL.nil ?_
      cases h
      exact retJ [] (.tmp rfl .nil) rfl trivial rfl rfl
    · refine (boolLit 12 rfl h4).2 ?_
      refine op0 (sp_move rfl rfl) rfl ⟨_, rfl, rfl⟩ rfl rfl ?_
      refine op0 (sp_move rfl rfl) rfl ⟨_, rfl, rfl⟩ rfl rfl ?_
      refine op0 (sp_lss rfl rfl rfl) rfl ⟨_, rfl, rfl⟩ rfl rfl ?_
      refine op0 (sp_pickF rfl rfl rfl) rfl trivial rfl rfl ?_
      refine op0 (sp_assign rfl rfl) rfl trivial rfl rfl ?_
      refine TL.nil ?_
      cases h
      exact retJ [] (.tmp rfl .nil) rfl trivial rfl rfl
  · refine (boolLit 7 rfl h2).2 ?_
    refine opSkip rfl ⟨_, rfl, .inl rfl⟩ rfl ?_
    refine opSkip rfl ⟨_, rfl, .inl rfl⟩ rfl ?_
    refine opSkip rfl ⟨_, rfl, .inl rfl⟩ rfl ?_
    refine op0 (sp_pickF rfl rfl rfl) rfl trivial rfl rfl ?_
    refine op0 (sp_move rfl rfl) rfl trivial rfl rfl ?_
    refine op0 (sp_move rfl rfl) rfl ⟨_, rfl, rfl⟩ rfl rfl ?_
    refine op0 (sp_move rfl rfl) rfl ⟨_, rfl, rfl⟩ rfl rfl ?_
    refine op0 (sp_lss rfl rfl rfl) rfl ⟨_, rfl, rfl⟩ rfl rfl ?_
    refine op0 (sp_pickF rfl rfl rfl) rfl trivial rfl rfl ?_
    refine op0 (sp_assign rfl rfl) rfl trivial rfl rfl ?_
    refine TL.nil ?_
    cases h
    exact retJ [] (.tmp rfl .nil) rfl trivial rfl rfl
/- slices_insertionSortOrdered_int -/
def ev_slices_insertionSortOrdered_int_l1 (n : Nat) (a2 : Int) (i4 : Int) (k_slices_insertionSortOrdered_int_l0 : Int → (List Int) → Option ((List Int))) : Nat → Int → (List Int) → Option ((List Int))
  | 0, _, _ => none
  | m + 1, i6, l7 => cond (decide (a2 < i6)) (idx l7 i6 fun x8 => chk (in64 (i6 - 1)) <| idx l7 (i6 - 1) fun x9 => (ev_cmp_Less_int n x8 x9).bind fun r10 => cond r10 (chk (in64 (i6 - 1)) <| chk (in64 (i6 - 1)) <| idx (List.set l7 (i6 : Int).toNat x9) (i6 - 1) fun x11 => chk (in64 (i6 - 1)) <| ev_slices_insertionSortOrdered_int_l1 n a2 i4 k_slices_insertionSortOrdered_int_l0 m (i6 - 1) (List.set (List.set l7 (i6 : Int).toNat x9) ((i6 - 1) : Int).toNat x8)) (chk (in64 (i4 + 1)) <| k_slices_insertionSortOrdered_int_l0 (i4 + 1) l7)) (chk (in64 (i4 + 1)) <| k_slices_insertionSortOrdered_int_l0 (i4 + 1) l7)
set_option maxRecDepth 100000 in
set_option maxHeartbeats 2000000 in
theorem ok_slices_insertionSortOrdered_int_l1 {n : Nat} {w0 : World} {M0 R0 : Nat → Prop} {env0 : Env} {df : List Deferred} {r : (List Int)} {a2 : Int} {b3 : Int} {i4 : Int} {k_slices_insertionSortOrdered_int_l0 : Int → (List Int) → Option ((List Int))} (hk_slices_insertionSortOrdered_int_l0 : ∀ (i4 : Int) (l5 : List Int), k_slices_insertionSortOrdered_int_l0 i4 l5 = some r → TC Try.prog ⟨w0, M0, R0⟩ ⟨49, none, df⟩ (bodyPostM Fence.wide 0 Try.prog Try.f303 (PostT ⟨w0, M0, R0⟩ env0 [0] (.tup []) [.row 0 3 1 (List.map en_int r)])) [.code (sub (bodyOf Try.f303) [1, 0, 0, 0, 0]), .code (sub (bodyOf Try.f303) [1, 0, 0, 0, 1]), .code (sub (bodyOf Try.f303) [1, 0, 0, 1]), .inLoop (sub (bodyOf Try.f303) [1, 0, 0]), .inBlock 0] ([(0, .ref 0), (1, .val (.int .i64 a2)), (2, .val (.int .i64 b3)), (6, .val (.int .i64 i4))]) ([.row 0 3 1 (List.map en_int l5), .inv 1 (marksI df), .pin 2 0 (env0 0)])) : ∀ (m : Nat) (i6 : Int) (l7 : List Int), ev_slices_insertionSortOrdered_int_l1 n a2 i4 k_slices_insertionSortOrdered_int_l0 m i6 l7 = some r → TC Try.prog ⟨w0, M0, R0⟩ ⟨49, none, df⟩ (bodyPostM Fence.wide 0 Try.prog Try.f303 (PostT ⟨w0, M0, R0⟩ env0 [0] (.tup []) [.row 0 3 1 (List.map en_int r)])) [.code (sub (bodyOf Try.f303) [1, 0, 0, 1, 0, 0, 1, 0, 0, 0, 0]), .code (sub (bodyOf Try.f303) [1, 0, 0, 1, 0, 0, 1, 0, 0, 0, 1]), .code (sub (bodyOf Try.f303) [1, 0, 0, 1, 0, 0, 1, 0, 0, 1]), .inLoop (sub (bodyOf Try.f303) [1, 0, 0, 1, 0, 0, 1, 0, 0]), .inBlock 2, .inBlock 1, .code (sub (bodyOf Try.f303) [1, 0, 0, 1, 1]), .inLoop (sub (bodyOf Try.f303) [1, 0, 0]), .inBlock 0] ([(0, .ref 0), (1, .val (.int .i64 a2)), (2, .val (.int .i64 b3)), (6, .val (.int .i64 i4)), (7, .val (.int .i64 i6))]) ([.row 0 3 1 (List.map en_int l7), .inv 1 (marksI df), .pin 2 0 (env0 0)]) := by
  intro m
  induction m with
  | zero => intro i6 l7 h; exact none_no h
  | succ m ih =>
    intro i6 l7 h
    rw [ev_slices_insertionSortOrdered_int_l1] at h
    rcases cond_cases h with ⟨h3, h⟩ | ⟨h3, h⟩
    · obtain ⟨x8, h4, h5, h⟩ := idx_inv h
      obtain ⟨h6, h⟩ := chk_inv h
      obtain ⟨x9, h7, h8, h⟩ := idx_inv h
      refine drawJ 13 [⟨.val (.int .i64 i6), [], [], []⟩, ⟨.val (.int .i64 a2), [], [], []⟩, ⟨.val (.bool (decide (a2 < i6))), [], [], []⟩, ⟨.val (.bool true), [], [], []⟩, ⟨.ref 0, [], [], []⟩, ⟨.val (.int .i64 i6), [], [], []⟩, ⟨.cell 0 ((i6 : Int).toNat * 1), [], [.row 0 3 1 (List.map en_int l7)], []⟩, ⟨.val (.int .i64 x8), [], [.row 0 3 1 (List.map en_int l7)], []⟩, ⟨.ref 0, [], [], []⟩, ⟨.val (.int .i64 i6), [], [], []⟩, ⟨.val (.int .i64 (i6 - 1)), [], [], []⟩, ⟨.cell 0 (((i6 - 1) : Int).toNat * 1), [], [.row 0 3 1 (List.map en_int l7)], []⟩, ⟨.val (.int .i64 x9), [], [.row 0 3 1 (List.map en_int l7)], []⟩] rfl ?_ rfl ?_ rfl ?_ ?_
      · kernel_rfl
      · kernel_rfl
      · exact DAll.op' (sp_move rfl rfl) trivial rfl (From.ok (ps := []) trivial) (DAll.op' (sp_move rfl rfl) trivial rfl (From.ok (ps := []) trivial) (DAll.op' (sp_gtr rfl rfl rfl) trivial rfl (From.ok (ps := []) trivial) (DAll.op' (sp_castB h3 (sp_move rfl rfl)) trivial rfl (From.ok (ps := []) trivial) (DAll.op' (sp_move rfl rfl) ⟨_, rfl, rfl⟩ rfl (From.ok (ps := []) trivial) (DAll.op' (sp_move rfl rfl) ⟨_, rfl, rfl⟩ rfl (From.ok (ps := []) trivial) (DAll.op' (sp_indexS rfl rfl rfl isOwn sl50 h4 (map_get _ h5)) ⟨_, rfl, rfl⟩ rfl (From.ok (ps := [(none, 0)]) ⟨⟨rfl, rfl⟩, trivial⟩) (DAll.op' (sp_loadR (i := (i6 : Int).toNat) (j := 0) rfl rfl isOwn vt3 rfl (map_get _ h5) rfl (.v (.nil)) (nodup_of_B rfl)) ⟨_, rfl, rfl⟩ rfl (From.ok (ps := [(none, 0)]) ⟨⟨rfl, rfl⟩, trivial⟩) (DAll.op' (sp_move rfl rfl) ⟨_, rfl, rfl⟩ rfl (From.ok (ps := []) trivial) (DAll.op' (sp_move rfl rfl) ⟨_, rfl, rfl⟩ rfl (From.ok (ps := []) trivial) (DAll.op' (sp_sub rfl rfl rfl h6) ⟨_, rfl, rfl⟩ rfl (From.ok (ps := []) trivial) (DAll.op' (sp_indexS rfl rfl rfl isOwn sl50 h7 (map_get _ h8)) ⟨_, rfl, rfl⟩ rfl (From.ok (ps := [(none, 0)]) ⟨⟨rfl, rfl⟩, trivial⟩) (DAll.op' (sp_loadR (i := ((i6 - 1) : Int).toNat) (j := 0) rfl rfl isOwn vt3 rfl (map_get _ h8) rfl (.v (.nil)) (nodup_of_B rfl)) ⟨_, rfl, rfl⟩ rfl (From.ok (ps := [(none, 0)]) ⟨⟨rfl, rfl⟩, trivial⟩) (.nil)))))))))))))
      obtain ⟨r10, h9, h⟩ := bind_inv h
      refine op0 (sp_call (avs := [.val (.int .i64 x8), .val (.int .i64 x9)]) (need := []) (v := .val (.bool r10)) (news := []) rfl rfl rfl Try.call309 (atJ [] [] (fc_cmp_Less_int h9) rfl rfl) (.inl (roAll rfl))) rfl ⟨_, rfl, rfl⟩ rfl rfl ?_
      refine op0 (sp_pickT rfl rfl rfl) rfl trivial rfl rfl ?_
      refine TL.nil ?_
      refine TC.cond (b := r10) rfl (fun h10 => ?_) (fun h10 => ?_)
      · have h := cond_t h h10
        refine TC.skip ?_
        refine TC.seq ?_
        refine TC.block ?_
        obtain ⟨h11, h⟩ := chk_inv h
        obtain ⟨h12, h⟩ := chk_inv h
        refine drawJ 16 [⟨.ref 0, [], [], []⟩, ⟨.val (.int .i64 i6), [], [], []⟩, ⟨.ref 0, [], [], []⟩, ⟨.val (.int .i64 i6), [], [], []⟩, ⟨.val (.int .i64 (i6 - 1)), [], [], []⟩, ⟨.ref 0, [], [], []⟩, ⟨.val (.int .i64 i6), [], [], []⟩, ⟨.val (.int .i64 (i6 - 1)), [], [], []⟩, ⟨.cell 0 (((i6 - 1) : Int).toNat * 1), [], [.row 0 3 1 (List.map en_int l7)], []⟩, ⟨.val (.int .i64 x9), [], [.row 0 3 1 (List.map en_int l7)], []⟩, ⟨.ref 0, [], [], []⟩, ⟨.val (.int .i64 i6), [], [], []⟩, ⟨.cell 0 ((i6 : Int).toNat * 1), [], [.row 0 3 1 (List.map en_int l7)], []⟩, ⟨.val (.int .i64 x8), [], [.row 0 3 1 (List.map en_int l7)], []⟩, ⟨.cell 0 ((i6 : Int).toNat * 1), [], [.row 0 3 1 (List.map en_int l7)], []⟩, ⟨.val (undef), [.row 0 3 1 (List.map en_int (List.set l7 (i6 : Int).toNat x9))], [], [.row 0 3 1 (List.map en_int l7)]⟩] rfl ?_ rfl ?_ rfl ?_ ?_
        · kernel_rfl
        · kernel_rfl
        · exact DAll.op' (sp_move rfl rfl) trivial rfl (From.ok (ps := []) trivial) (DAll.op' (sp_move rfl rfl) trivial rfl (From.ok (ps := []) trivial) (DAll.op' (sp_move rfl rfl) trivial rfl (From.ok (ps := []) trivial) (DAll.op' (sp_move rfl rfl) trivial rfl (From.ok (ps := []) trivial) (DAll.op' (sp_sub rfl rfl rfl h11) trivial rfl (From.ok (ps := []) trivial) (DAll.op' (sp_move rfl rfl) trivial rfl (From.ok (ps := []) trivial) (DAll.op' (sp_move rfl rfl) trivial rfl (From.ok (ps := []) trivial) (DAll.op' (sp_sub rfl rfl rfl h12) trivial rfl (From.ok (ps := []) trivial) (DAll.op' (sp_indexS rfl rfl rfl isOwn sl50 h7 (map_get _ h8)) trivial rfl (From.ok (ps := [(none, 0)]) ⟨⟨rfl, by kernel_rfl⟩, trivial⟩) (DAll.op' (sp_loadR (i := ((i6 - 1) : Int).toNat) (j := 0) rfl rfl isOwn vt3 rfl (map_get _ h8) rfl (.v (.nil)) (nodup_of_B rfl)) trivial rfl (From.ok (ps := [(none, 0)]) ⟨⟨rfl, by kernel_rfl⟩, trivial⟩) (DAll.op' (sp_move rfl rfl) trivial rfl (From.ok (ps := []) trivial) (DAll.op' (sp_move rfl rfl) trivial rfl (From.ok (ps := []) trivial) (DAll.op' (sp_indexS rfl rfl rfl isOwn sl50 h4 (map_get _ h5)) trivial rfl (From.ok (ps := [(none, 0)]) ⟨⟨rfl, by kernel_rfl⟩, trivial⟩) (DAll.op' (sp_loadR (i := (i6 : Int).toNat) (j := 0) rfl rfl isOwn vt3 rfl (map_get _ h5) rfl (.v (.nil)) (nodup_of_B rfl)) trivial rfl (From.ok (ps := [(none, 0)]) ⟨⟨rfl, by kernel_rfl⟩, trivial⟩) (DAll.op' (sp_indexS rfl rfl rfl isOwn sl50 h4 (map_get _ h5)) trivial rfl (From.ok (ps := [(none, 0)]) ⟨⟨rfl, by kernel_rfl⟩, trivial⟩) (DAll.opT (ts_storeR ((i6 : Int).toNat) 0 rfl rfl rfl rfl vt3 rfl rfl (map_get _ h5) rfl rfl (.v (.nil)) (map_set l7 en_int ((i6 : Int).toNat) x9)) trivial (From.ok (ps := [(none, 0)]) ⟨⟨rfl, by kernel_rfl⟩, trivial⟩) (From.ok (ps := []) trivial) (.nil))))))))))))))))
        obtain ⟨x11, h13, h14, h⟩ := idx_inv h
        refine op1 0 rfl (sp_indexS rfl rfl rfl isOwn sl50 h13 (map_get _ h14)) rfl trivial rfl rfl ?_
        refine stoR 0 (((i6 - 1) : Int).toNat) 0 (need := []) [] rfl rfl trivial rfl rfl rfl rfl vt3 rfl rfl (map_get _ h14) rfl rfl trivial (.v (.nil)) (map_set (List.set l7 (i6 : Int).toNat x9) en_int (((i6 - 1) : Int).toNat) x8) ?_
        refine TL.nil ?_
        refine TC.inBlock ?_
        refine TC.region ?_
        refine op0 (sp_move rfl rfl) rfl trivial rfl rfl ?_
        obtain ⟨h15, h⟩ := chk_inv h
        refine op0 (sp_sub rfl rfl rfl h15) rfl trivial rfl rfl ?_
        refine op0 (sp_assign rfl rfl) rfl trivial rfl rfl ?_
        refine TL.nil ?_
        refine TC.inLoop ?_
        refine TC.seq ?_
        refine TC.seq ?_
        refine subJ [] (ih _ _ h) ?_ ?_ ?_
        · exact ⟨rfl, rfl, rfl, rfl, rfl, trivial⟩
        · exact ⟨mem_at 0 rfl, mem_at 1 rfl, mem_at 2 rfl, trivial⟩
        · rfl
      · have h := cond_f h h10
        refine TC.exit rfl ?_
        refine TC.inBlock ?_
        refine TC.region ?_
        refine op0 (sp_move rfl rfl) rfl trivial rfl rfl ?_
        obtain ⟨h16, h⟩ := chk_inv h
        refine op0 (sp_add rfl rfl rfl h16) rfl trivial rfl rfl ?_
        refine op0 (sp_assign rfl rfl) rfl trivial rfl rfl ?_
        refine TL.nil ?_
        refine TC.inLoop ?_
        refine TC.seq ?_
        refine TC.seq ?_
        refine subJ [] (hk_slices_insertionSortOrdered_int_l0 _ _ h) ?_ ?_ ?_
        · exact ⟨rfl, rfl, rfl, rfl, trivial⟩
        · exact ⟨mem_at 0 rfl, mem_at 1 rfl, mem_at 2 rfl, trivial⟩
        · rfl
    · refine drawJ 13 [⟨.val (.int .i64 i6), [], [], []⟩, ⟨.val (.int .i64 a2), [], [], []⟩, ⟨.val (.bool (decide (a2 < i6))), [], [], []⟩, ⟨.val (.bool false), [], [], []⟩, ⟨.val (undef), [], [], []⟩, ⟨.val (undef), [], [], []⟩, ⟨.val (undef), [], [], []⟩, ⟨.val (undef), [], [], []⟩, ⟨.val (undef), [], [], []⟩, ⟨.val (undef), [], [], []⟩, ⟨.val (undef), [], [], []⟩, ⟨.val (undef), [], [], []⟩, ⟨.val (undef), [], [], []⟩] rfl ?_ rfl ?_ rfl ?_ ?_
      · kernel_rfl
      · kernel_rfl
      · exact DAll.op' (sp_move rfl rfl) trivial rfl (From.ok (ps := []) trivial) (DAll.op' (sp_move rfl rfl) trivial rfl (From.ok (ps := []) trivial) (DAll.op' (sp_gtr rfl rfl rfl) trivial rfl (From.ok (ps := []) trivial) (DAll.op' (sp_castB h3 (sp_move rfl rfl)) trivial rfl (From.ok (ps := []) trivial) (.skip ⟨_, rfl, .inl rfl⟩ rfl rfl rfl (.skip ⟨_, rfl, .inl rfl⟩ rfl rfl rfl (.skip ⟨_, rfl, .inl rfl⟩ rfl rfl rfl (.skip ⟨_, rfl, .inl rfl⟩ rfl rfl rfl (.skip ⟨_, rfl, .inl rfl⟩ rfl rfl rfl (.skip ⟨_, rfl, .inl rfl⟩ rfl rfl rfl (.skip ⟨_, rfl, .inl rfl⟩ rfl rfl rfl (.skip ⟨_, rfl, .inl rfl⟩ rfl rfl rfl (.skip ⟨_, rfl, .inl rfl⟩ rfl rfl rfl (.nil)))))))))))))
      refine opSkip rfl ⟨_, rfl, .inl rfl⟩ rfl ?_
      refine op0 (sp_pickF rfl rfl rfl) rfl trivial rfl rfl ?_
      refine TL.nil ?_
      refine TC.condF rfl ?_
      refine TC.exit rfl ?_
      refine TC.inBlock ?_
      refine TC.region ?_
      refine op0 (sp_move rfl rfl) rfl trivial rfl rfl ?_
      obtain ⟨h17, h⟩ := chk_inv h
      refine op0 (sp_add rfl rfl rfl h17) rfl trivial rfl rfl ?_
      refine op0 (sp_assign rfl rfl) rfl trivial rfl rfl ?_
      refine TL.nil ?_
      refine TC.inLoop ?_
      refine TC.seq ?_
      refine TC.seq ?_
      refine subJ [] (hk_slices_insertionSortOrdered_int_l0 _ _ h) ?_ ?_ ?_
      · exact ⟨rfl, rfl, rfl, rfl, trivial⟩
      · exact ⟨mem_at 0 rfl, mem_at 1 rfl, mem_at 2 rfl, trivial⟩
      · rfl
def ev_slices_insertionSortOrdered_int_l0 (n : Nat) (b3 : Int) (a2 : Int) : Nat → Int → (List Int) → Option ((List Int))
  | 0, _, _ => none
  | m + 1, i4, l5 => cond (decide (i4 < b3)) (ev_slices_insertionSortOrdered_int_l1 n a2 i4 (fun i4q l5q => ev_slices_insertionSortOrdered_int_l0 n b3 a2 m i4q l5q) n i4 l5) (some l5)
set_option maxRecDepth 100000 in
set_option maxHeartbeats 2000000 in
theorem ok_slices_insertionSortOrdered_int_l0 {n : Nat} {w0 : World} {M0 R0 : Nat → Prop} {env0 : Env} {df : List Deferred} {r : (List Int)} {a2 : Int} {b3 : Int} : ∀ (m : Nat) (i4 : Int) (l5 : List Int), ev_slices_insertionSortOrdered_int_l0 n b3 a2 m i4 l5 = some r → TC Try.prog ⟨w0, M0, R0⟩ ⟨49, none, df⟩ (bodyPostM Fence.wide 0 Try.prog Try.f303 (PostT ⟨w0, M0, R0⟩ env0 [0] (.tup []) [.row 0 3 1 (List.map en_int r)])) [.code (sub (bodyOf Try.f303) [1, 0, 0, 0, 0]), .code (sub (bodyOf Try.f303) [1, 0, 0, 0, 1]), .code (sub (bodyOf Try.f303) [1, 0, 0, 1]), .inLoop (sub (bodyOf Try.f303) [1, 0, 0]), .inBlock 0] ([(0, .ref 0), (1, .val (.int .i64 a2)), (2, .val (.int .i64 b3)), (6, .val (.int .i64 i4))]) ([.row 0 3 1 (List.map en_int l5), .inv 1 (marksI df), .pin 2 0 (env0 0)]) := by
  intro m
  induction m with
  | zero => intro i4 l5 h; exact none_no h
  | succ m ih =>
    intro i4 l5 h
    rw [ev_slices_insertionSortOrdered_int_l0] at h
    refine TC.region ?_
    refine op0 (sp_move rfl rfl) rfl trivial rfl rfl ?_
    refine op0 (sp_move rfl rfl) rfl trivial rfl rfl ?_
    refine op0 (sp_lss rfl rfl rfl) rfl trivial rfl rfl ?_
    refine TL.nil ?_
    refine TC.cond (b := (decide (i4 < b3))) rfl (fun h2 => ?_) (fun h2 => ?_)
    · have h := cond_t h h2
      refine TC.skip ?_
      refine TC.seq ?_
      refine TC.block ?_
      refine TC.seq ?_
      refine TC.region ?_
      refine op0 (sp_move rfl rfl) rfl trivial rfl rfl ?_
      refine op0 (sp_assign rfl rfl) rfl trivial rfl rfl ?_
      refine TL.nil ?_
      refine TC.block ?_
      refine TC.loop ?_
      refine TC.seq ?_
      refine TC.seq ?_
      refine subJ [] (ok_slices_insertionSortOrdered_int_l1 (b3 := b3) ih _ _ _ h) ?_ ?_ ?_
      · exact ⟨rfl, rfl, rfl, rfl, rfl, trivial⟩
      · exact ⟨mem_at 0 rfl, mem_at 1 rfl, mem_at 2 rfl, trivial⟩
      · rfl
    · have h := cond_f h h2
      refine TC.exit rfl ?_
      cases h
      exact endM [] 1 1 [0] rfl (.nil) rfl ⟨mem_at 0 rfl, trivial⟩ rfl rfl ⟨⟨_, mem_at 1 rfl⟩, trivial⟩ rfl
def ev_slices_insertionSortOrdered_int (n : Nat) (data1 : List Int) (a2 : Int) (b3 : Int) : Option ((List Int)) :=
  chk (in64 (a2 + 1)) <| ev_slices_insertionSortOrdered_int_l0 n b3 a2 n (a2 + 1) data1
set_option maxRecDepth 100000 in
set_option maxHeartbeats 2000000 in
theorem ft_slices_insertionSortOrdered_int {n : Nat} {data1 : List Int} {a2 : Int} {b3 : Int} {r : (List Int)} (h : ev_slices_insertionSortOrdered_int n data1 a2 b3 = some r) : FT Try.prog 303 [.ref 0, .val (.int .i64 a2), .val (.int .i64 b3)] [.row 0 3 1 (List.map en_int data1)] [] (.tup []) [.row 0 3 1 (List.map en_int r)] := by
  refine introM (nz := 49) 1 [(2, 0)] Try.func303 rfl rfl rfl rfl (fun w0 M0 R0 env0 => ?_)
  rw [ev_slices_insertionSortOrdered_int] at h
  refine TC.seq ?_
  refine TC.region ?_
  refine op0 (sp_move rfl rfl) rfl trivial rfl rfl ?_
  obtain ⟨h1, h⟩ := chk_inv h
  refine op0 (sp_add rfl rfl rfl h1) rfl trivial rfl rfl ?_
  refine op0 (sp_assign rfl rfl) rfl trivial rfl rfl ?_
  refine TL.nil ?_
  refine TC.block ?_
  refine TC.loop ?_
  refine TC.seq ?_
  refine TC.seq ?_
  refine subJ [] (ok_slices_insertionSortOrdered_int_l0 _ _ _ h) ?_ ?_ ?_
  · exact ⟨rfl, rfl, rfl, rfl, trivial⟩
  · exact ⟨mem_at 2 rfl, mem_at 0 rfl, mem_at 1 rfl, trivial⟩
  · rfl
/- slices_pdqsortOrdered_int -/
def ev_slices_pdqsortOrdered_int_j1 (n : Nat) (i12 : Int) : Option ((List Int)) :=
  none
set_option maxRecDepth 100000 in
set_option maxHeartbeats 2000000 in
theorem ok_slices_pdqsortOrdered_int_j1 {n : Nat} {w0 : World} {M0 R0 : Nat → Prop} {env0 : Env} {df : List Deferred} {r : (List Int)} {i5 : Int} {i6 : Int} {b8 : Bool} {b9 : Bool} {l10 : List Int} {i12 : Int} (h : ev_slices_pdqsortOrdered_int_j1 n i12 = some r) : TC Try.prog ⟨w0, M0, R0⟩ ⟨134, none, df⟩ (bodyPostM Fence.wide 0 Try.prog Try.f224 (PostT ⟨w0, M0, R0⟩ env0 [0] (.tup []) [.row 0 3 1 (List.map en_int r)])) [.code (sub (bodyOf Try.f224) [1, 1, 0, 0, 0, 1, 1, 1, 1, 0]), .code (sub (bodyOf Try.f224) [1, 1, 0, 0, 0, 1, 1, 1, 1, 1]), .inBlock 1, .inLoop (sub (bodyOf Try.f224) [1, 1, 0, 0]), .inBlock 0] ([(0, .ref 0), (1, .val (.int .i64 i5)), (2, .val (.int .i64 i6)), (3, .val (.int .i64 i12)), (8, .val (.bool b8)), (9, .val (.bool b9)), (10, .val (.int .i64 (i6 - i5)))]) ([.row 0 3 1 (List.map en_int l10), .inv 1 (marksI df), .pin 2 0 (env0 0)]) := by
  rw [ev_slices_pdqsortOrdered_int_j1] at h
  refine TC.region ?_
  refine op0 (sp_move rfl rfl) rfl trivial rfl rfl ?_
  refine op0 (sp_move rfl rfl) rfl trivial rfl rfl ?_
  refine op0 (sp_move rfl rfl) rfl trivial rfl rfl ?_
  exact none_no h
def ev_slices_pdqsortOrdered_int_l0 (n : Nat) : Nat → Int → Int → Int → Bool → Bool → (List Int) → Option ((List Int))
  | 0, _, _, _, _, _, _ => none
  | m + 1, i5, i6, i7, b8, b9, l10 => chk (in64 (i6 - i5)) <| cond (decide ((i6 - i5) ≤ 12)) ((ev_slices_insertionSortOrdered_int n l10 i5 i6).bind fun r11 => some r11) (cond (i7 == 0) (none) (cond (!b8) (none) (ev_slices_pdqsortOrdered_int_j1 n i7)))
set_option maxRecDepth 100000 in
set_option maxHeartbeats 2000000 in
theorem ok_slices_pdqsortOrdered_int_l0 {n : Nat} {w0 : World} {M0 R0 : Nat → Prop} {env0 : Env} {df : List Deferred} {r : (List Int)} : ∀ (m : Nat) (i5 : Int) (i6 : Int) (i7 : Int) (b8 : Bool) (b9 : Bool) (l10 : List Int), ev_slices_pdqsortOrdered_int_l0 n m i5 i6 i7 b8 b9 l10 = some r → TC Try.prog ⟨w0, M0, R0⟩ ⟨134, none, df⟩ (bodyPostM Fence.wide 0 Try.prog Try.f224 (PostT ⟨w0, M0, R0⟩ env0 [0] (.tup []) [.row 0 3 1 (List.map en_int r)])) [.code (sub (bodyOf Try.f224) [1, 1, 0, 0]), .inLoop (sub (bodyOf Try.f224) [1, 1, 0, 0]), .inBlock 0] ([(0, .ref 0), (1, .val (.int .i64 i5)), (2, .val (.int .i64 i6)), (3, .val (.int .i64 i7)), (8, .val (.bool b8)), (9, .val (.bool b9))]) ([.row 0 3 1 (List.map en_int l10), .inv 1 (marksI df), .pin 2 0 (env0 0)]) := by
  intro m
  induction m with
  | zero => intro i5 i6 i7 b8 b9 l10 h; exact none_no h
  | succ m ih =>
    intro i5 i6 i7 b8 b9 l10 h
    rw [ev_slices_pdqsortOrdered_int_l0] at h
    refine TC.block ?_
    refine TC.seq ?_
    refine TC.region ?_
    refine op0 (sp_move rfl rfl) rfl trivial rfl rfl ?_
    refine op0 (sp_move rfl rfl) rfl trivial rfl rfl ?_
    obtain ⟨h1, h⟩ := chk_inv h
    refine op0 (sp_sub rfl rfl rfl h1) rfl trivial rfl rfl ?_
    refine op0 (sp_assign rfl rfl) rfl trivial rfl rfl ?_
    refine TL.nil ?_
    refine TC.seq ?_
    refine TC.seq ?_
    refine TC.region ?_
    refine op0 (sp_move rfl rfl) rfl trivial rfl rfl ?_
    refine op0 (sp_leq rfl rfl rfl) rfl trivial rfl rfl ?_
    refine TL.nil ?_
    refine TC.cond (b := (decide ((i6 - i5) ≤ 12))) rfl (fun h2 => ?_) (fun h2 => ?_)
    · have h := cond_t h h2
      refine TC.seq ?_
      refine TC.region ?_
      refine op0 (sp_move rfl rfl) rfl trivial rfl rfl ?_
      refine op0 (sp_move rfl rfl) rfl trivial rfl rfl ?_
      refine op0 (sp_move rfl rfl) rfl trivial rfl rfl ?_
      obtain ⟨r11, h3, h⟩ := bind_inv h
      refine opT (take := [.row 0 3 1 (List.map en_int l10)]) (need := []) (V' := [.row 0 3 1 (List.map en_int r11), .inv 1 (marksI df), .pin 2 0 (env0 0)]) [0] [] (ts_call (avs := [.ref 0, .val (.int .i64 i5), .val (.int .i64 i6)]) (take := [.row 0 3 1 (List.map en_int l10)]) (need := []) (v := .tup []) (news := [.row 0 3 1 (List.map en_int r11)]) rfl rfl rfl Try.call303 (atT [] [] (ft_slices_insertionSortOrdered_int h3) rfl rfl rfl) rfl rfl) trivial rfl ⟨rfl, trivial⟩ trivial rfl rfl ?_
      refine TL.nil ?_
      cases h
      exact retM [] 1 1 [0] rfl (.nil) rfl ⟨mem_at 0 rfl, trivial⟩ rfl rfl ⟨⟨_, mem_at 1 rfl⟩, trivial⟩ rfl
    · have h := cond_f h h2
      refine TC.skip ?_
      refine TC.seq ?_
      refine TC.seq ?_
      refine TC.region ?_
      refine op0 (sp_move rfl rfl) rfl trivial rfl rfl ?_
      refine op0 (sp_eql rfl rfl rfl) rfl trivial rfl rfl ?_
      refine TL.nil ?_
      refine TC.cond (b := (i7 == 0)) rfl (fun h4 => ?_) (fun h4 => ?_)
      · have h := cond_t h h4
        refine TC.seq ?_
        refine TC.region ?_
        refine op0 (sp_move rfl rfl) rfl trivial rfl rfl ?_
        refine op0 (sp_move rfl rfl) rfl trivial rfl rfl ?_
        refine op0 (sp_move rfl rfl) rfl trivial rfl rfl ?_
        exact none_no h
      · have h := cond_f h h4
        refine TC.skip ?_
        refine TC.seq ?_
        refine TC.seq ?_
        refine TC.region ?_
        refine op0 (sp_move rfl rfl) rfl trivial rfl rfl ?_
        refine op0 (sp_not rfl rfl) rfl trivial rfl rfl ?_
        refine TL.nil ?_
        refine TC.cond (b := (!b8)) rfl (fun h5 => ?_) (fun h5 => ?_)
        · have h := cond_t h h5
          refine TC.seq ?_
          refine TC.region ?_
          refine op0 (sp_move rfl rfl) rfl trivial rfl rfl ?_
          refine op0 (sp_move rfl rfl) rfl trivial rfl rfl ?_
          refine op0 (sp_move rfl rfl) rfl trivial rfl rfl ?_
          exact none_no h
        · have h := cond_f h h5
          refine TC.skip ?_
          refine TC.seq ?_
          refine subJ [] (ok_slices_pdqsortOrdered_int_j1 (i5 := i5) (i6 := i6) (b8 := b8) (b9 := b9) (l10 := l10) h) ?_ ?_ ?_
          · exact ⟨rfl, rfl, rfl, rfl, rfl, rfl, rfl, trivial⟩
          · exact ⟨mem_at 0 rfl, mem_at 1 rfl, mem_at 2 rfl, trivial⟩
          · rfl
def ev_slices_pdqsortOrdered_int (n : Nat) (data1 : List Int) (a2 : Int) (b3 : Int) (limit4 : Int) : Option ((List Int)) :=
  ev_slices_pdqsortOrdered_int_l0 n n a2 b3 limit4 true true data1
set_option maxRecDepth 100000 in
set_option maxHeartbeats 2000000 in
theorem ft_slices_pdqsortOrdered_int {n : Nat} {data1 : List Int} {a2 : Int} {b3 : Int} {limit4 : Int} {r : (List Int)} (h : ev_slices_pdqsortOrdered_int n data1 a2 b3 limit4 = some r) : FT Try.prog 224 [.ref 0, .val (.int .i64 a2), .val (.int .i64 b3), .val (.int .i64 limit4)] [.row 0 3 1 (List.map en_int data1)] [] (.tup []) [.row 0 3 1 (List.map en_int r)] := by
  refine introM (nz := 134) 1 [(2, 0)] Try.func224 rfl rfl rfl rfl (fun w0 M0 R0 env0 => ?_)
  rw [ev_slices_pdqsortOrdered_int] at h
  refine TC.seq ?_
  refine TC.region ?_
  refine op0 (sp_assign rfl rfl) rfl trivial rfl rfl ?_
  refine TL.nil ?_
  refine TC.seq ?_
  refine TC.region ?_
  refine op0 (sp_assign rfl rfl) rfl trivial rfl rfl ?_
  refine TL.nil ?_
  refine TC.block ?_
  refine TC.loop ?_
  refine subJ [] (ok_slices_pdqsortOrdered_int_l0 _ _ _ _ _ _ _ h) ?_ ?_ ?_
  · exact ⟨rfl, rfl, rfl, rfl, rfl, rfl, trivial⟩
  · exact ⟨mem_at 2 rfl, mem_at 0 rfl, mem_at 1 rfl, trivial⟩
  · rfl
/- slices_Sort_Lint_int -/
def ev_slices_Sort_Lint_int (n : Nat) (x1 : List Int) : Option ((List Int)) :=
  (ev_math_bits_Len n (IntKind.u64.wrap (x1.length : Int))).bind fun r2 => (ev_slices_pdqsortOrdered_int n x1 0 (x1.length : Int) r2).bind fun r3 => some r3
set_option maxRecDepth 100000 in
set_option maxHeartbeats 2000000 in
theorem ft_slices_Sort_Lint_int {n : Nat} {x1 : List Int} {r : (List Int)} (h : ev_slices_Sort_Lint_int n x1 = some r) : FT Try.prog 122 [.ref 0] [.row 0 3 1 (List.map en_int x1)] [] (.tup []) [.row 0 3 1 (List.map en_int r)] := by
  refine introM (nz := 11) 1 [(2, 0)] Try.func122 rfl rfl rfl rfl (fun w0 M0 R0 env0 => ?_)
  rw [ev_slices_Sort_Lint_int] at h
  refine TC.seq ?_
  refine TC.region ?_
  refine op0 (sp_move rfl rfl) rfl trivial rfl rfl ?_
  refine op1 2 rfl (sp_lenM (N := x1.length) (len_map _ _) rfl rfl isOwn Try.underlying50) rfl trivial rfl rfl ?_
  refine op0 (sp_assign rfl rfl) rfl trivial rfl rfl ?_
  refine TL.nil ?_
  refine TC.region ?_
  refine op0 (sp_move rfl rfl) rfl trivial rfl rfl ?_
  refine op0 (sp_move rfl rfl) rfl trivial rfl rfl ?_
  refine op0 (sp_move rfl rfl) rfl trivial rfl rfl ?_
  refine op0 (sp_convW rfl Try.underlying3 Try.underlying413 rfl) rfl trivial rfl rfl ?_
  obtain ⟨r2, h1, h⟩ := bind_inv h
  refine op0 (sp_call (avs := [.val (.int .u64 (IntKind.u64.wrap (x1.length : Int)))]) (need := []) (v := .val (.int .i64 r2)) (news := []) rfl rfl rfl Try.call225 (atJ [] [] (fc_math_bits_Len h1) rfl rfl) (.inl (roAll rfl))) rfl trivial rfl rfl ?_
  obtain ⟨r3, h2, h⟩ := bind_inv h
  refine opT (take := [.row 0 3 1 (List.map en_int x1)]) (need := []) (V' := [.row 0 3 1 (List.map en_int r3), .inv 1 (marksI []), .pin 2 0 (env0 0)]) [2] [] (ts_call (avs := [.ref 0, .val (.int .i64 0), .val (.int .i64 (x1.length : Int)), .val (.int .i64 r2)]) (take := [.row 0 3 1 (List.map en_int x1)]) (need := []) (v := .tup []) (news := [.row 0 3 1 (List.map en_int r3)]) rfl rfl rfl Try.call224 (atT [] [] (ft_slices_pdqsortOrdered_int h2) rfl rfl rfl) rfl rfl) trivial rfl ⟨rfl, trivial⟩ trivial rfl rfl ?_
  refine TL.nil ?_
  cases h
  exact endM [] 1 1 [0] rfl (.nil) rfl ⟨mem_at 0 rfl, trivial⟩ rfl rfl ⟨⟨_, mem_at 1 rfl⟩, trivial⟩ rfl
/- slices_Compact_Lint_int -/
def rn_slices_Compact_Lint_int : Shelf.Ren := ⟨fun _ => 131, fun n => match n with | 0 => 0 | 3 => 3 | 4 => 4 | 22 => 50 | _ => 0, fun x => x⟩
theorem lays_slices_Compact_Lint_int : Lays2.n20 Try.prog rn_slices_Compact_Lint_int where
  mixed := rfl
  f20 := Try.func131.trans (congrArg some (by kernel_rfl))
  t0 := Try.underlying0
  a0 := Try.isAgg0
  z0 := Try.sizeOf0
  v0 := Try.zeroValue0
  t3 := Try.underlying3
  a3 := Try.isAgg3
  z3 := Try.sizeOf3
  v3 := Try.zeroValue3
  t4 := Try.underlying4
  a4 := Try.isAgg4
  z4 := Try.sizeOf4
  v4 := Try.zeroValue4
  t22 := Try.underlying50
  a22 := Try.isAgg50
  z22 := Try.sizeOf50
  v22 := Try.zeroValue50
  i3 := by kernel_rfl
def ev_slices_Compact_Lint_int (n : Nat) (s1 : List Int) : Option (List Int) := chk (room 8 s1.length) (some (Lib.compact s1))
theorem ft_slices_Compact_Lint_int {n : Nat} {s1 : List Int} {r : List Int} (h : ev_slices_Compact_Lint_int n s1 = some r) : FT Try.prog 131 [.ref 0] [.row 0 3 1 (List.map en_int s1)] [] (.ref 500) [.row 500 3 1 (List.map en_int r)] := by
  obtain ⟨h1, h⟩ := chk_inv h
  cases h
  exact ft_compactI lays_slices_Compact_Lint_int 500 rfl h1
/- slices_SortFunc_zone_spans_api_Span -/
def ev_slices_SortFunc_zone_spans_api_Span (n : Nat) (x1 : List (Int × Int)) (cmp2 : (Int × Int × Int × Int) → Option Int) : Option ((List (Int × Int))) :=
  (ev_math_bits_Len n (IntKind.u64.wrap (x1.length : Int))).bind fun r3 => (ev_slices_pdqsortCmpFunc_api_Span n x1 0 (x1.length : Int) r3 cmp2).bind fun r4 => some r4
set_option maxRecDepth 100000 in
set_option maxHeartbeats 2000000 in
theorem ft_slices_SortFunc_zone_spans_api_Span {n : Nat} {x1 : List (Int × Int)} {cmp2 : (Int × Int × Int × Int) → Option Int} {r : (List (Int × Int))} (h : ev_slices_SortFunc_zone_spans_api_Span n x1 cmp2 = some r) : FT Try.prog 230 [.ref 0, .ref 1] [.row 0 34 2 (List.map en_api_Span x1)] [.any 1 (D.fn Try.prog fe_funcapi_Span_api_Span_int fd_funcapi_Span_api_Span_int cmp2)] (.tup []) [.row 0 34 2 (List.map en_api_Span r)] := by
  refine introM (nz := 14) 2 [(3, 0)] Try.func230 rfl rfl rfl rfl (fun w0 M0 R0 env0 => ?_)
  rw [ev_slices_SortFunc_zone_spans_api_Span] at h
  refine TC.seq ?_
  refine TC.region ?_
  refine op0 (sp_move rfl rfl) rfl trivial rfl rfl ?_
  refine op1 2 rfl (sp_lenM (N := x1.length) (len_map _ _) rfl rfl isOwn Try.underlying302) rfl trivial rfl rfl ?_
  refine op0 (sp_assign rfl rfl) rfl trivial rfl rfl ?_
  refine TL.nil ?_
  refine TC.region ?_
  refine op0 (sp_move rfl rfl) rfl trivial rfl rfl ?_
  refine op0 (sp_move rfl rfl) rfl trivial rfl rfl ?_
  refine op0 (sp_move rfl rfl) rfl trivial rfl rfl ?_
  refine op0 (sp_convW rfl Try.underlying3 Try.underlying413 rfl) rfl trivial rfl rfl ?_
  obtain ⟨r3, h1, h⟩ := bind_inv h
  refine op0 (sp_call (avs := [.val (.int .u64 (IntKind.u64.wrap (x1.length : Int)))]) (need := []) (v := .val (.int .i64 r3)) (news := []) rfl rfl rfl Try.call225 (atJ [] [] (fc_math_bits_Len h1) rfl rfl) (.inl (roAll rfl))) rfl trivial rfl rfl ?_
  refine op0 (sp_move rfl rfl) rfl trivial rfl rfl ?_
  obtain ⟨r4, h2, h⟩ := bind_inv h
  refine opT (take := [.row 0 34 2 (List.map en_api_Span x1)]) (need := [.any 1 (D.fn Try.prog fe_funcapi_Span_api_Span_int fd_funcapi_Span_api_Span_int cmp2)]) (V' := [.row 0 34 2 (List.map en_api_Span r4), .inv 2 (marksI []), .pin 3 0 (env0 0), .any 1 (D.fn Try.prog fe_funcapi_Span_api_Span_int fd_funcapi_Span_api_Span_int cmp2)]) [2] [3] (ts_call (avs := [.ref 0, .val (.int .i64 0), .val (.int .i64 (x1.length : Int)), .val (.int .i64 r3), .ref 1]) (take := [.row 0 34 2 (List.map en_api_Span x1)]) (need := [.any 1 (D.fn Try.prog fe_funcapi_Span_api_Span_int fd_funcapi_Span_api_Span_int cmp2)]) (v := .tup []) (news := [.row 0 34 2 (List.map en_api_Span r4)]) rfl rfl rfl Try.call277 (atT [] [] (ft_slices_pdqsortCmpFunc_api_Span h2) rfl rfl rfl) rfl rfl) trivial rfl ⟨rfl, trivial⟩ ⟨rfl, trivial⟩ rfl rfl ?_
  refine TL.nil ?_
  cases h
  exact endM [] 1 2 [0] rfl (.nil) rfl ⟨mem_at 0 rfl, trivial⟩ rfl rfl ⟨⟨_, mem_at 1 rfl⟩, trivial⟩ rfl
/- cmp_Compare_int -/
def ev_cmp_Compare_int (n : Nat) (x1 : Int) (y2 : Int) : Option Int :=
  (ev_cmp_isNaN_int n x1).bind fun r3 => (ev_cmp_isNaN_int n y2).bind fun r4 => cond r3 (cond r4 (some 0) (some (-1))) (cond r4 (some 1) (cond (decide (x1 < y2)) (some (-1)) (cond (decide (y2 < x1)) (some 1) (some 0))))
set_option maxRecDepth 100000 in
set_option maxHeartbeats 2000000 in
theorem fc_cmp_Compare_int {n : Nat} {x1 : Int} {y2 : Int} {r : Int} (h : ev_cmp_Compare_int n x1 y2 = some r) : FC Try.prog 213 [.val (.int .i64 x1), .val (.int .i64 y2)] [] (.val (.int .i64 r)) [] := by
  refine introJ (nz := 20) Try.func213 rfl rfl rfl (fun w0 R0 env0 => ?_)
  rw [ev_cmp_Compare_int] at h
  refine TC.seq ?_
  refine TC.region ?_
  refine op0 (sp_assign rfl rfl) rfl trivial rfl rfl ?_
  refine TL.nil ?_
  refine TC.seq ?_
  refine TC.region ?_
  refine op0 (sp_move rfl rfl) rfl trivial rfl rfl ?_
  obtain ⟨r3, h1, h⟩ := bind_inv h
  refine op0 (sp_call (avs := [.val (.int .i64 x1)]) (need := []) (v := .val (.bool r3)) (news := []) rfl rfl rfl Try.call300 (atJ [] [] (fc_cmp_isNaN_int h1) rfl rfl) (.inl (roAll rfl))) rfl trivial rfl rfl ?_
  refine op0 (sp_assign rfl rfl) rfl trivial rfl rfl ?_
  refine TL.nil ?_
  refine TC.seq ?_
  refine TC.region ?_
  refine op0 (sp_move rfl rfl) rfl trivial rfl rfl ?_
  obtain ⟨r4, h2, h⟩ := bind_inv h
  refine op0 (sp_call (avs := [.val (.int .i64 y2)]) (need := []) (v := .val (.bool r4)) (news := []) rfl rfl rfl Try.call300 (atJ [] [] (fc_cmp_isNaN_int h2) rfl rfl) (.inl (roAll rfl))) rfl trivial rfl rfl ?_
  refine op0 (sp_assign rfl rfl) rfl trivial rfl rfl ?_
  refine TL.nil ?_
  refine TC.seq ?_
  refine TC.seq ?_
  refine TC.region ?_
  refine op0 (sp_move rfl rfl) rfl trivial rfl rfl ?_
  refine TL.nil ?_
  refine TC.cond (b := r3) rfl (fun h3 => ?_) (fun h3 => ?_)
  · have h := cond_t h h3
    refine TC.seq ?_
    refine TC.seq ?_
    refine TC.region ?_
    refine op0 (sp_move rfl rfl) rfl trivial rfl rfl ?_
    refine TL.nil ?_
    refine TC.cond (b := r4) rfl (fun h4 => ?_) (fun h4 => ?_)
    · have h := cond_t h h4
      refine TC.seq ?_
      refine TC.region ?_
      refine op0 (sp_assign rfl rfl) rfl trivial rfl rfl ?_
      refine TL.nil ?_
      cases h
      exact retJ [] (.tmp rfl .nil) rfl trivial rfl rfl
    · have h := cond_f h h4
      refine TC.skip ?_
      refine TC.seq ?_
      refine TC.region ?_
      refine op0 (sp_assign rfl rfl) rfl trivial rfl rfl ?_
      refine TL.nil ?_
      cases h
      exact retJ [] (.tmp rfl .nil) rfl trivial rfl rfl
  · have h := cond_f h h3
    refine TC.skip ?_
    refine TC.seq ?_
    refine TC.seq ?_
    refine TC.region ?_
    refine op0 (sp_move rfl rfl) rfl trivial rfl rfl ?_
    refine TL.nil ?_
    refine TC.cond (b := r4) rfl (fun h5 => ?_) (fun h5 => ?_)
    · have h := cond_t h h5
      refine TC.seq ?_
      refine TC.region ?_
      refine op0 (sp_assign rfl rfl) rfl trivial rfl rfl ?_
      refine TL.nil ?_
      cases h
      exact retJ [] (.tmp rfl .nil) rfl trivial rfl rfl
    · have h := cond_f h h5
      refine TC.skip ?_
      refine TC.seq ?_
      refine TC.seq ?_
      refine TC.region ?_
      refine op0 (sp_move rfl rfl) rfl trivial rfl rfl ?_
      refine op0 (sp_move rfl rfl) rfl trivial rfl rfl ?_
      refine op0 (sp_lss rfl rfl rfl) rfl trivial rfl rfl ?_
      refine TL.nil ?_
      refine TC.cond (b := (decide (x1 < y2))) rfl (fun h6 => ?_) (fun h6 => ?_)
      · have h := cond_t h h6
        refine TC.seq ?_
        refine TC.region ?_
        refine op0 (sp_assign rfl rfl) rfl trivial rfl rfl ?_
        refine TL.nil ?_
        cases h
        exact retJ [] (.tmp rfl .nil) rfl trivial rfl rfl
      · have h := cond_f h h6
        refine TC.skip ?_
        refine TC.seq ?_
        refine TC.seq ?_
        refine TC.region ?_
        refine op0 (sp_move rfl rfl) rfl trivial rfl rfl ?_
        refine op0 (sp_move rfl rfl) rfl trivial rfl rfl ?_
        refine op0 (sp_gtr rfl rfl rfl) rfl trivial rfl rfl ?_
        refine TL.nil ?_
        refine TC.cond (b := (decide (y2 < x1))) rfl (fun h7 => ?_) (fun h7 => ?_)
        · have h := cond_t h h7
          refine TC.seq ?_
          refine TC.region ?_
          refine op0 (sp_assign rfl rfl) rfl trivial rfl rfl ?_
          refine TL.nil ?_
          cases h
          exact retJ [] (.tmp rfl .nil) rfl trivial rfl rfl
        · have h := cond_f h h7
          refine TC.skip ?_
          refine TC.seq ?_
          refine TC.region ?_
          refine op0 (sp_assign rfl rfl) rfl trivial rfl rfl ?_
          refine TL.nil ?_
          cases h
          exact retJ [] (.tmp rfl .nil) rfl trivial rfl rfl
/- cmp_Or_int -/
def ev_cmp_Or_int_l0 (n : Nat) (vals1 : List Int) : Nat → Int → Option Int
  | 0, _ => none
  | m + 1, i2 => cond (decide (i2 < (vals1.length : Int))) (idx vals1 i2 fun x3 => cond (x3 != 0) (some x3) (chk (in64 (i2 + 1)) <| ev_cmp_Or_int_l0 n vals1 m (i2 + 1))) (some 0)
set_option maxRecDepth 100000 in
set_option maxHeartbeats 2000000 in
theorem ok_cmp_Or_int_l0 {n : Nat} {w0 : World} {R0 : Nat → Prop} {env0 : Env} {r : Int} {vals1 : List Int} : ∀ (m : Nat) (i2 : Int), ev_cmp_Or_int_l0 n vals1 m i2 = some r → TC Try.prog ⟨w0, fun _ => False, R0⟩ 18 (bodyPost Try.prog Try.f212 (Post ⟨w0, fun _ => False, R0⟩ env0 (.val (.int .i64 r)) [])) [.code (sub (bodyOf Try.f212) [1, 1, 0, 1, 0, 0, 0]), .code (sub (bodyOf Try.f212) [1, 1, 0, 1, 0, 0, 1]), .inLoop (sub (bodyOf Try.f212) [1, 1, 0, 1, 0, 0]), .inBlock 0, .code (sub (bodyOf Try.f212) [1, 1, 1])] ([(3, .val (.int .i64 0)), (6, .ref 0), (7, .val (.int .i64 (vals1.length : Int))), (8, .val (.int .i64 i2))]) ([.ro 0 1 (List.map en_int vals1)]) := by
  intro m
  induction m with
  | zero => intro i2 h; exact none_no h
  | succ m ih =>
    intro i2 h
    rw [ev_cmp_Or_int_l0] at h
    refine TC.region ?_
    refine op0 (sp_lss rfl rfl rfl) rfl trivial rfl rfl ?_
    refine TL.nil ?_
    refine TC.seq ?_
    refine TC.cond (b := (decide (i2 < (vals1.length : Int)))) rfl (fun h1 => ?_) (fun h1 => ?_)
    · have h := cond_t h h1
      refine TC.skip ?_
      refine TC.seq ?_
      refine TC.block ?_
      refine TC.seq ?_
      refine TC.region ?_
      obtain ⟨x3, h2, h3, h⟩ := idx_inv h
      refine op1 0 rfl (sp_indexS rfl rfl rfl isRo sl50 h2 (map_get _ h3)) rfl trivial rfl rfl ?_
      refine op1 0 rfl (sp_loadR (i := (i2 : Int).toNat) (j := 0) rfl rfl isRo vt3 rfl (map_get _ h3) rfl (.v (.nil)) (nodup_of_B rfl)) rfl trivial rfl rfl ?_
      refine op0 (sp_assign rfl rfl) rfl trivial rfl rfl ?_
      refine TL.nil ?_
      refine TC.seq ?_
      refine TC.region ?_
      refine op0 (sp_move rfl rfl) rfl trivial rfl rfl ?_
      refine op0 (sp_move rfl rfl) rfl trivial rfl rfl ?_
      refine op0 (sp_neq rfl rfl rfl) rfl trivial rfl rfl ?_
      refine TL.nil ?_
      refine TC.cond (b := (x3 != 0)) rfl (fun h4 => ?_) (fun h4 => ?_)
      · have h := cond_t h h4
        refine TC.seq ?_
        refine TC.region ?_
        refine op0 (sp_move rfl rfl) rfl trivial rfl rfl ?_
        refine op0 (sp_assign rfl rfl) rfl trivial rfl rfl ?_
        refine TL.nil ?_
        cases h
        exact retJ [] (.tmp rfl .nil) rfl trivial rfl rfl
      · have h := cond_f h h4
        refine TC.skip ?_
        refine TC.inBlock ?_
        refine TC.region ?_
        obtain ⟨h5, h⟩ := chk_inv h
        refine op0 (sp_add rfl rfl rfl h5) rfl trivial rfl rfl ?_
        refine op0 (sp_move rfl rfl) rfl trivial rfl rfl ?_
        refine TL.nil ?_
        refine TC.inLoop ?_
        refine TC.seq ?_
        refine subJ [] (ih _ h) ?_ ?_ ?_
        · exact ⟨rfl, rfl, rfl, rfl, trivial⟩
        · exact ⟨mem_at 0 rfl, trivial⟩
        · rfl
    · have h := cond_f h h1
      refine TC.exit rfl ?_
      refine TC.seq ?_
      refine TC.region ?_
      refine op0 (sp_move rfl rfl) rfl trivial rfl rfl ?_
      refine op0 (sp_assign rfl rfl) rfl trivial rfl rfl ?_
      refine TL.nil ?_
      cases h
      exact retJ [] (.tmp rfl .nil) rfl trivial rfl rfl
def ev_cmp_Or_int (n : Nat) (vals1 : List Int) : Option Int :=
  ev_cmp_Or_int_l0 n vals1 n 0
set_option maxRecDepth 100000 in
set_option maxHeartbeats 2000000 in
theorem fc_cmp_Or_int {n : Nat} {vals1 : List Int} {r : Int} (h : ev_cmp_Or_int n vals1 = some r) : FC Try.prog 212 [.ref 0] [.ro 0 1 (List.map en_int vals1)] (.val (.int .i64 r)) [] := by
  refine introJ (nz := 18) Try.func212 rfl rfl rfl (fun w0 R0 env0 => ?_)
  rw [ev_cmp_Or_int] at h
  refine TC.seq ?_
  refine TC.region ?_
  refine op0 (sp_assign rfl rfl) rfl trivial rfl rfl ?_
  refine TL.nil ?_
  refine TC.seq ?_
  refine TC.region ?_
  refine op0 (sp_assign rfl rfl) rfl trivial rfl rfl ?_
  refine TL.nil ?_
  refine TC.seq ?_
  refine TC.seq ?_
  refine TC.region ?_
  refine op0 (sp_move rfl rfl) rfl trivial rfl rfl ?_
  refine op1 0 rfl (sp_lenM (N := vals1.length) (len_map _ _) rfl rfl isRo Try.underlying50) rfl trivial rfl rfl ?_
  refine op0 (sp_move rfl rfl) rfl trivial rfl rfl ?_
  refine TL.nil ?_
  refine TC.block ?_
  refine TC.loop ?_
  refine TC.seq ?_
  refine subJ [] (ok_cmp_Or_int_l0 _ _ h) ?_ ?_ ?_
  · exact ⟨rfl, rfl, rfl, rfl, trivial⟩
  · exact ⟨mem_at 0 rfl, trivial⟩
  · rfl
/- top_armQuiet -/
def ev_top_armQuiet (n : Nat) (by_1 : Int) (by_2 : Int) : Option (Bool × Bool × (List (Int × Int))) :=
  cond (decide ((0 : Int) < (Int.tmod by_2 3))) (chk (in64 by_1) <| chk (in64 by_2) <| chk (in64 ((Int.tmod by_1 24) + (Int.tmod by_2 9))) <| (ev_top_pubSpan n (Int.tmod by_1 24) (min (23 : Int) ((Int.tmod by_1 24) + (Int.tmod by_2 9)))).bind fun r3 => some (false, true, ([(r3.1, r3.2)] : List (Int × Int)))) (some (false, true, ([] : List (Int × Int))))
set_option maxRecDepth 100000 in
set_option maxHeartbeats 2000000 in
theorem fc_top_armQuiet {n : Nat} {by_1 : Int} {by_2 : Int} {r : Bool × Bool × (List (Int × Int))} (h : ev_top_armQuiet n by_1 by_2 = some r) : FC Try.prog 26 [.agg [.val (.int .u8 by_1), .val (.int .u8 by_2)]] [] (.agg [.val (.bool r.1), .val (.bool r.2.1), .ref 0]) [.row 0 34 2 (List.map en_api_Span r.2.2)] := by
  refine introJ (nz := 26) Try.func26 rfl rfl rfl (fun w0 R0 env0 => ?_)
  rw [ev_top_armQuiet] at h
  refine TC.seq ?_
  refine TC.region ?_
  refine op0 (sp_box 0 rfl rfl rfl rfl rfl) rfl trivial rfl rfl ?_
  refine op0 (sp_alloc 1 rfl Try.zeroValue48 rfl) rfl trivial rfl rfl ?_
  refine TL.nil ?_
  refine TC.seq ?_
  refine TC.region ?_
  refine op0 (sp_build (qs := [(1, .val (.bool true))]) rfl bt48 rfl rfl rfl rfl) rfl trivial rfl rfl ?_
  refine op0 (sp_alloc 2 rfl Try.zeroValue48 rfl) rfl trivial rfl rfl ?_
  refine stoB 0 (cells' := [.val (.bool false), .val (.bool true), .val (.slice none 0 0)]) rfl rfl trivial rfl rfl rfl rfl vt48 rfl rfl rfl ?_
  refine TL.nil ?_
  refine TC.seq ?_
  refine TC.seq ?_
  refine TC.region ?_
  refine op1 2 rfl (sp_indexA (len := 2) (iv := 1) rfl isBlk rfl rfl Try.underlying45 vt5 (by decide)) rfl trivial rfl rfl ?_
  refine op1 2 rfl (sp_loadB rfl isBlk rfl vt5 rfl) rfl trivial rfl rfl ?_
  refine op0 (sp_rem rfl rfl rfl (by decide)) rfl trivial rfl rfl ?_
  refine op0 (sp_gtr rfl rfl rfl) rfl trivial rfl rfl ?_
  refine TL.nil ?_
  refine TC.cond (b := (decide ((0 : Int) < (Int.tmod by_2 3)))) rfl (fun h1 => ?_) (fun h1 => ?_)
  · have h := cond_t h h1
    refine TC.seq ?_
    refine TC.region ?_
    refine op1 2 rfl (sp_indexA (len := 2) (iv := 0) rfl isBlk rfl rfl Try.underlying45 vt5 (by decide)) rfl trivial rfl rfl ?_
    refine op1 2 rfl (sp_loadB rfl isBlk rfl vt5 rfl) rfl trivial rfl rfl ?_
    obtain ⟨h2, h⟩ := chk_inv h
    refine op0 (sp_conv rfl Try.underlying5 Try.underlying3 rfl h2) rfl trivial rfl rfl ?_
    refine op0 (sp_rem rfl rfl rfl (by decide)) rfl trivial rfl rfl ?_
    refine op0 (sp_assign rfl rfl) rfl trivial rfl rfl ?_
    refine TL.nil ?_
    refine TC.region ?_
    refine op0 (sp_move rfl rfl) rfl trivial rfl rfl ?_
    refine op0 (sp_move rfl rfl) rfl trivial rfl rfl ?_
    refine op1 2 rfl (sp_indexA (len := 2) (iv := 1) rfl isBlk rfl rfl Try.underlying45 vt5 (by decide)) rfl trivial rfl rfl ?_
    refine op1 2 rfl (sp_loadB rfl isBlk rfl vt5 rfl) rfl trivial rfl rfl ?_
    obtain ⟨h3, h⟩ := chk_inv h
    refine op0 (sp_conv rfl Try.underlying5 Try.underlying3 rfl h3) rfl trivial rfl rfl ?_
    refine op0 (sp_rem rfl rfl rfl (by decide)) rfl trivial rfl rfl ?_
    obtain ⟨h4, h⟩ := chk_inv h
    refine op0 (sp_add rfl rfl rfl h4) rfl trivial rfl rfl ?_
    refine op0 (sp_min rfl rfl rfl) rfl trivial rfl rfl ?_
    obtain ⟨r3, h5, h⟩ := bind_inv h
    refine op0 (sp_call (avs := [.val (.int .i64 (Int.tmod by_1 24)), .val (.int .i64 (min (23 : Int) ((Int.tmod by_1 24) + (Int.tmod by_2 9))))]) (need := []) (v := .agg [.val (.int .i64 r3.1), .val (.int .i64 r3.2)]) (news := []) rfl rfl rfl Try.call20 (atJ [] [] (fc_top_pubSpan h5) rfl rfl) (.inl (roAll rfl))) rfl trivial rfl rfl ?_
    refine op0 (sp_buildSlice (qs := [.agg [.val (.int .i64 r3.1), .val (.int .i64 r3.2)]]) (need := []) (els := List.map en_api_Span ([(r3.1, r3.2)] : List (Int × Int))) 3 rfl sl39 (by decide) (by decide) rfl rfl rfl (.v (.v (.nil))) (map_len fun _ => rfl) rfl rfl rfl) rfl trivial rfl rfl ?_
    refine op1 1 rfl (sp_fieldAddrB rfl isBlk rfl ft48_2 vt39 (by decide)) rfl trivial rfl rfl ?_
    refine stoB 1 (cells' := [.val (.bool false), .val (.bool true), .ref 3]) rfl rfl trivial rfl rfl rfl rfl vt39 rfl rfl rfl ?_
    refine TL.nil ?_
    refine TC.seq ?_
    refine TC.region ?_
    refine op1 1 rfl (sp_loadBA rfl isBlk rfl vt48 rfl rfl) rfl trivial rfl rfl ?_
    refine stoB 2 (cells' := [.val (.bool false), .val (.bool true), .ref 3]) rfl rfl trivial rfl rfl rfl rfl vt48 rfl rfl rfl ?_
    refine TL.nil ?_
    cases h
    exact retJ [(0, 3)] (.cells rfl (mem_at 2 rfl) isBlk vt48 rfl rfl (.nil)) rfl ⟨mem_at 0 rfl, trivial⟩ rfl rfl
  · have h := cond_f h h1
    refine TC.skip ?_
    refine TC.seq ?_
    refine TC.region ?_
    refine op1 0 rfl (sp_loadBA rfl isBlk rfl vt48 rfl rfl) rfl trivial rfl rfl ?_
    refine stoB 1 (cells' := [.val (.bool false), .val (.bool true), .val (.slice none 0 0)]) rfl rfl trivial rfl rfl rfl rfl vt48 rfl rfl rfl ?_
    refine TL.nil ?_
    refine nilCellC 1 4 34 2 1 (List.map en_api_Span []) [.val (.bool false), .val (.bool true), .ref 4] rfl rfl rfl ?_
    cases h
    exact retJ [(0, 4)] (.cells rfl (mem_at 2 rfl) isBlk vt48 rfl rfl (.nil)) rfl ⟨mem_at 0 rfl, trivial⟩ rfl rfl
/- top_armStriking -/
def ev_top_armStriking_l0 (n : Nat) (per3 : Int) : Nat → Int → (List Int) → Int → (List (Int × Int)) → Int → (List (Int × Int)) → Option (Int × (List (Int × Int)))
  | 0, _, _, _, _, _, _ => none
  | m + 1, i4, l5, i6, l7, i8, l9 => cond (decide (i4 < (l5.length : Int))) (idx l5 i4 fun x10 => chk (in64 (per3 * x10)) <| chk (in64 (per3 * x10)) <| (ev_top_pubSpan n (per3 * x10) (per3 * x10)).bind fun r11 => chk (room 16 (l9.length + ([(r11.1, r11.2)] : List (Int × Int)).length)) <| chk (in64 (i4 + 1)) <| ev_top_armStriking_l0 n per3 m (i4 + 1) l5 i6 l7 i8 (l9 ++ ([(r11.1, r11.2)] : List (Int × Int)))) (some (i8, l9))
set_option maxRecDepth 100000 in
set_option maxHeartbeats 2000000 in
theorem ok_top_armStriking_l0 {n : Nat} {w0 : World} {R0 : Nat → Prop} {env0 : Env} {r : Int × (List (Int × Int))} {per3 : Int} : ∀ (m : Nat) (i4 : Int) (l5 : List Int) (i6 : Int) (l7 : List (Int × Int)) (i8 : Int) (l9 : List (Int × Int)), ev_top_armStriking_l0 n per3 m i4 l5 i6 l7 i8 l9 = some r → TC Try.prog ⟨w0, fun _ => False, R0⟩ 36 (bodyPost Try.prog Try.f29 (Post ⟨w0, fun _ => False, R0⟩ env0 (.agg [.val (.int .i64 r.1), .ref 0]) [.row 0 34 2 (List.map en_api_Span r.2)])) [.code (sub (bodyOf Try.f29) [1, 1, 0, 1, 0, 0, 0, 0]), .code (sub (bodyOf Try.f29) [1, 1, 0, 1, 0, 0, 0, 1]), .code (sub (bodyOf Try.f29) [1, 1, 0, 1, 0, 0, 1]), .inLoop (sub (bodyOf Try.f29) [1, 1, 0, 1, 0, 0]), .inBlock 0, .code (sub (bodyOf Try.f29) [1, 1, 1])] ([(0, .ref 0), (2, .val (.int .i64 per3)), (6, .ptr 1 0), (7, .ptr 2 0), (8, .val (.int .i64 i4))]) ([.ro 0 1 (List.map en_int l5), .row 3 34 2 (List.map en_api_Span l7), .blk 1 [.val (.int .i64 i6), .ref 3] 42, .row 4 34 2 (List.map en_api_Span l9), .blk 2 [.val (.int .i64 i8), .ref 4] 42]) := by
  intro m
  induction m with
  | zero => intro i4 l5 i6 l7 i8 l9 h; exact none_no h
  | succ m ih =>
    intro i4 l5 i6 l7 i8 l9 h
    rw [ev_top_armStriking_l0] at h
    refine TC.region ?_
    refine op0 (sp_move rfl rfl) rfl trivial rfl rfl ?_
    refine op0 (sp_move rfl rfl) rfl trivial rfl rfl ?_
    refine op1 0 rfl (sp_lenM (N := l5.length) (len_map _ _) rfl rfl isRo Try.underlying50) rfl trivial rfl rfl ?_
    refine op0 (sp_lss rfl rfl rfl) rfl trivial rfl rfl ?_
    refine TL.nil ?_
    refine TC.cond (b := (decide (i4 < (l5.length : Int)))) rfl (fun h1 => ?_) (fun h1 => ?_)
    · have h := cond_t h h1
      refine TC.skip ?_
      refine TC.seq ?_
      refine TC.block ?_
      obtain ⟨x10, h2, h3, h⟩ := idx_inv h
      obtain ⟨h4, h⟩ := chk_inv h
      obtain ⟨h5, h⟩ := chk_inv h
      obtain ⟨r11, h6, h⟩ := bind_inv h
      refine drawJ 16 [⟨.ptr 2 1, [], [.blk 2 [.val (.int .i64 i8), .ref 4] 42], []⟩, ⟨.ref 4, [], [.blk 2 [.val (.int .i64 i8), .ref 4] 42], []⟩, ⟨.val (.int .i64 per3), [], [], []⟩, ⟨.ref 0, [], [], []⟩, ⟨.val (.int .i64 i4), [], [], []⟩, ⟨.cell 0 ((i4 : Int).toNat * 1), [], [.ro 0 1 (List.map en_int l5)], []⟩, ⟨.val (.int .i64 x10), [], [.ro 0 1 (List.map en_int l5)], []⟩, ⟨.val (.int .i64 (per3 * x10)), [], [], []⟩, ⟨.val (.int .i64 per3), [], [], []⟩, ⟨.ref 0, [], [], []⟩, ⟨.val (.int .i64 i4), [], [], []⟩, ⟨.cell 0 ((i4 : Int).toNat * 1), [], [.ro 0 1 (List.map en_int l5)], []⟩, ⟨.val (.int .i64 x10), [], [.ro 0 1 (List.map en_int l5)], []⟩, ⟨.val (.int .i64 (per3 * x10)), [], [], []⟩, ⟨.agg [.val (.int .i64 r11.1), .val (.int .i64 r11.2)], [], [], []⟩, ⟨.ref 5, [.row 5 34 2 (List.map en_api_Span ([(r11.1, r11.2)] : List (Int × Int)))], [], []⟩] rfl ?_ rfl ?_ rfl ?_ ?_
      · kernel_rfl
      · kernel_rfl
      · exact DAll.op' (sp_fieldAddrB rfl isBlk rfl ft42_1 vt39 (by decide)) trivial rfl (From.ok (ps := [(none, 4)]) ⟨⟨rfl, rfl⟩, trivial⟩) (DAll.op' (sp_loadB rfl isBlk rfl vt39 rfl) trivial rfl (From.ok (ps := [(none, 4)]) ⟨⟨rfl, rfl⟩, trivial⟩) (DAll.op' (sp_move rfl rfl) trivial rfl (From.ok (ps := []) trivial) (DAll.op' (sp_move rfl rfl) trivial rfl (From.ok (ps := []) trivial) (DAll.op' (sp_move rfl rfl) trivial rfl (From.ok (ps := []) trivial) (DAll.op' (sp_indexS rfl rfl rfl isRo sl50 h2 (map_get _ h3)) trivial rfl (From.ok (ps := [(none, 0)]) ⟨⟨rfl, rfl⟩, trivial⟩) (DAll.op' (sp_loadR (i := (i4 : Int).toNat) (j := 0) rfl rfl isRo vt3 rfl (map_get _ h3) rfl (.v (.nil)) (nodup_of_B rfl)) trivial rfl (From.ok (ps := [(none, 0)]) ⟨⟨rfl, rfl⟩, trivial⟩) (DAll.op' (sp_mul rfl rfl rfl h4) trivial rfl (From.ok (ps := []) trivial) (DAll.op' (sp_move rfl rfl) trivial rfl (From.ok (ps := []) trivial) (DAll.op' (sp_move rfl rfl) trivial rfl (From.ok (ps := []) trivial) (DAll.op' (sp_move rfl rfl) trivial rfl (From.ok (ps := []) trivial) (DAll.op' (sp_indexS rfl rfl rfl isRo sl50 h2 (map_get _ h3)) trivial rfl (From.ok (ps := [(none, 0)]) ⟨⟨rfl, rfl⟩, trivial⟩) (DAll.op' (sp_loadR (i := (i4 : Int).toNat) (j := 0) rfl rfl isRo vt3 rfl (map_get _ h3) rfl (.v (.nil)) (nodup_of_B rfl)) trivial rfl (From.ok (ps := [(none, 0)]) ⟨⟨rfl, rfl⟩, trivial⟩) (DAll.op' (sp_mul rfl rfl rfl h5) trivial rfl (From.ok (ps := []) trivial) (DAll.op' (sp_call (avs := [.val (.int .i64 (per3 * x10)), .val (.int .i64 (per3 * x10))]) (need := []) (v := .agg [.val (.int .i64 r11.1), .val (.int .i64 r11.2)]) (news := []) rfl rfl rfl Try.call20 (atJ [] [] (fc_top_pubSpan h6) rfl rfl) (.inl (roAll rfl))) trivial rfl (From.ok (ps := []) trivial) (DAll.op' (sp_buildSlice (qs := [.agg [.val (.int .i64 r11.1), .val (.int .i64 r11.2)]]) (need := []) (els := List.map en_api_Span ([(r11.1, r11.2)] : List (Int × Int))) 5 rfl sl39 (by decide) (by decide) rfl rfl rfl (.v (.v (.nil))) (map_len fun _ => rfl) rfl rfl rfl) trivial rfl (From.ok (ps := []) trivial) (.nil))))))))))))))))
      obtain ⟨h7, h⟩ := chk_inv h
      refine appM 4 0 (N := l9.length) (N2 := ([(r11.1, r11.2)] : List (Int × Int)).length) 6 rfl rfl trivial rfl rfl rfl rfl rfl isOwn rfl sl39 (len_map _ _) (len_map _ _) h7 (map_app _ _ _) rfl ?_
      refine op1 5 rfl (sp_fieldAddrB rfl isBlk rfl ft42_1 vt39 (by decide)) rfl trivial rfl rfl ?_
      refine stoB 5 (cells' := [.val (.int .i64 i8), .ref 6]) rfl rfl trivial rfl rfl rfl rfl vt39 rfl rfl rfl ?_
      refine TL.nil ?_
      refine TC.inBlock ?_
      refine TC.region ?_
      refine op0 (sp_move rfl rfl) rfl trivial rfl rfl ?_
      obtain ⟨h8, h⟩ := chk_inv h
      refine op0 (sp_add rfl rfl rfl h8) rfl trivial rfl rfl ?_
      refine op0 (sp_assign rfl rfl) rfl trivial rfl rfl ?_
      refine TL.nil ?_
      refine TC.inLoop ?_
      refine TC.seq ?_
      refine TC.seq ?_
      refine subJ [(4, 6)] (ih _ _ _ _ _ _ h) ?_ ?_ ?_
      · exact ⟨rfl, rfl, rfl, rfl, rfl, trivial⟩
      · exact ⟨mem_at 2 rfl, mem_at 3 rfl, mem_at 4 rfl, mem_at 0 rfl, mem_at 5 rfl, trivial⟩
      · rfl
    · have h := cond_f h h1
      refine TC.exit rfl ?_
      refine TC.seq ?_
      refine TC.region ?_
      refine op1 4 rfl (sp_loadBA rfl isBlk rfl vt42 rfl rfl) rfl trivial rfl rfl ?_
      refine stoB 2 (cells' := [.val (.int .i64 i8), .ref 4]) rfl rfl trivial rfl rfl rfl rfl vt42 rfl rfl rfl ?_
      refine TL.nil ?_
      cases h
      exact retJ [(0, 4)] (.cells rfl (mem_at 2 rfl) isBlk vt42 rfl rfl (.nil)) rfl ⟨mem_at 3 rfl, trivial⟩ rfl rfl
def ev_top_armStriking (n : Nat) (blows1 : List Int) (line2 : Int) (per3 : Int) : Option (Int × (List (Int × Int))) :=
  ev_top_armStriking_l0 n per3 n 0 blows1 0 ([] : List (Int × Int)) line2 ([] : List (Int × Int))
set_option maxRecDepth 100000 in
set_option maxHeartbeats 2000000 in
theorem fc_top_armStriking {n : Nat} {blows1 : List Int} {line2 : Int} {per3 : Int} {r : Int × (List (Int × Int))} (h : ev_top_armStriking n blows1 line2 per3 = some r) : FC Try.prog 29 [.ref 0, .val (.int .i64 line2), .val (.int .i64 per3)] [.ro 0 1 (List.map en_int blows1)] (.agg [.val (.int .i64 r.1), .ref 0]) [.row 0 34 2 (List.map en_api_Span r.2)] := by
  refine introJ (nz := 36) Try.func29 rfl rfl rfl (fun w0 R0 env0 => ?_)
  rw [ev_top_armStriking] at h
  refine TC.seq ?_
  refine TC.region ?_
  refine op0 (sp_alloc 1 rfl Try.zeroValue42 rfl) rfl trivial rfl rfl ?_
  refine TL.nil ?_
  refine TC.seq ?_
  refine TC.region ?_
  refine op0 (sp_move rfl rfl) rfl trivial rfl rfl ?_
  refine op0 (sp_build (qs := [(0, .val (.int .i64 line2))]) rfl bt42 rfl rfl rfl rfl) rfl trivial rfl rfl ?_
  refine op0 (sp_alloc 2 rfl Try.zeroValue42 rfl) rfl trivial rfl rfl ?_
  refine stoB 0 (cells' := [.val (.int .i64 line2), .val (.slice none 0 0)]) rfl rfl trivial rfl rfl rfl rfl vt42 rfl rfl rfl ?_
  refine TL.nil ?_
  refine TC.seq ?_
  refine TC.seq ?_
  refine TC.region ?_
  refine op0 (sp_assign rfl rfl) rfl trivial rfl rfl ?_
  refine TL.nil ?_
  refine TC.block ?_
  refine TC.loop ?_
  refine TC.seq ?_
  refine TC.seq ?_
  refine nilCellC 1 7 34 2 1 (List.map en_api_Span []) [.val (.int .i64 0), .ref 7] rfl rfl rfl ?_
  refine nilCellC 1 8 34 2 2 (List.map en_api_Span []) [.val (.int .i64 line2), .ref 8] rfl rfl rfl ?_
  refine subJ [(3, 7), (4, 8)] (ok_top_armStriking_l0 _ _ _ _ _ _ _ h) ?_ ?_ ?_
  · exact ⟨rfl, rfl, rfl, rfl, rfl, trivial⟩
  · exact ⟨mem_at 4 rfl, mem_at 1 rfl, mem_at 3 rfl, mem_at 0 rfl, mem_at 2 rfl, trivial⟩
  · rfl
/- top_armTown -/
def ev_top_armTown (n : Nat) (offset1 : Int) (at_2 : Int) (then_3 : Int) : Option (Int × (List (Int × Int))) :=
  some (offset1, ([(at_2, then_3)] : List (Int × Int)))
set_option maxRecDepth 100000 in
set_option maxHeartbeats 2000000 in
theorem fc_top_armTown {n : Nat} {offset1 : Int} {at_2 : Int} {then_3 : Int} {r : Int × (List (Int × Int))} (h : ev_top_armTown n offset1 at_2 then_3 = some r) : FC Try.prog 58 [.val (.int .i64 offset1), .val (.int .i64 at_2), .val (.int .i64 then_3)] [] (.agg [.val (.int .i64 r.1), .ref 0]) [.row 0 162 2 (List.map en_api_ZoneChange r.2)] := by
  refine introJ (nz := 13) Try.func58 rfl rfl rfl (fun w0 R0 env0 => ?_)
  rw [ev_top_armTown] at h
  refine TC.seq ?_
  refine TC.region ?_
  refine op0 (sp_alloc 0 rfl Try.zeroValue165 rfl) rfl trivial rfl rfl ?_
  refine TL.nil ?_
  refine TC.seq ?_
  refine TC.region ?_
  refine op0 (sp_move rfl rfl) rfl trivial rfl rfl ?_
  refine op0 (sp_move rfl rfl) rfl trivial rfl rfl ?_
  refine op0 (sp_move rfl rfl) rfl trivial rfl rfl ?_
  refine op0 (sp_build (qs := [(0, .val (.int .i64 at_2)), (1, .val (.int .i64 then_3))]) rfl bt162 rfl rfl rfl rfl) rfl trivial rfl rfl ?_
  refine op0 (sp_buildSlice (qs := [.agg [.val (.int .i64 at_2), .val (.int .i64 then_3)]]) (need := []) (els := List.map en_api_ZoneChange ([(at_2, then_3)] : List (Int × Int))) 1 rfl sl163 (by decide) (by decide) rfl rfl rfl (.v (.v (.nil))) (map_len fun _ => rfl) rfl rfl rfl) rfl trivial rfl rfl ?_
  refine op0 (sp_build (qs := [(0, .val (.int .i64 offset1)), (1, .ref 1)]) rfl bt165 rfl rfl rfl rfl) rfl trivial rfl rfl ?_
  refine stoB 1 (cells' := [.val (.int .i64 offset1), .ref 1]) rfl rfl trivial rfl rfl rfl rfl vt165 rfl rfl rfl ?_
  refine TL.nil ?_
  cases h
  exact retJ [(0, 1)] (.cells rfl (mem_at 1 rfl) isBlk vt165 rfl rfl (.nil)) rfl ⟨mem_at 0 rfl, trivial⟩ rfl rfl
/- top_pubRest -/
def ev_top_pubRest (n : Nat) (nn1 : Int) (by_2 : Int) : Option Int :=
  chk (by_2 != 0) <| chk (in64 ((Int.tmod nn1 by_2) + by_2)) <| chk (by_2 != 0) <| some (Int.tmod ((Int.tmod nn1 by_2) + by_2) by_2)
set_option maxRecDepth 100000 in
set_option maxHeartbeats 2000000 in
theorem fc_top_pubRest {n : Nat} {nn1 : Int} {by_2 : Int} {r : Int} (h : ev_top_pubRest n nn1 by_2 = some r) : FC Try.prog 54 [.val (.int .i64 nn1), .val (.int .i64 by_2)] [] (.val (.int .i64 r)) [] := by
  refine introJ (nz := 12) Try.func54 rfl rfl rfl (fun w0 R0 env0 => ?_)
  rw [ev_top_pubRest] at h
  refine TC.seq ?_
  refine TC.region ?_
  refine op0 (sp_assign rfl rfl) rfl trivial rfl rfl ?_
  refine TL.nil ?_
  refine TC.seq ?_
  refine TC.region ?_
  refine op0 (sp_move rfl rfl) rfl trivial rfl rfl ?_
  refine op0 (sp_move rfl rfl) rfl trivial rfl rfl ?_
  obtain ⟨h1, h⟩ := chk_inv h
  refine op0 (sp_rem rfl rfl rfl h1) rfl trivial rfl rfl ?_
  refine op0 (sp_move rfl rfl) rfl trivial rfl rfl ?_
  obtain ⟨h2, h⟩ := chk_inv h
  refine op0 (sp_add rfl rfl rfl h2) rfl trivial rfl rfl ?_
  refine op0 (sp_move rfl rfl) rfl trivial rfl rfl ?_
  obtain ⟨h3, h⟩ := chk_inv h
  refine op0 (sp_rem rfl rfl rfl h3) rfl trivial rfl rfl ?_
  refine op0 (sp_assign rfl rfl) rfl trivial rfl rfl ?_
  refine TL.nil ?_
  cases h
  exact retJ [] (.tmp rfl .nil) rfl trivial rfl rfl
/- top_pubPairs -/
def ev_top_pubPairs_j1 (n : Nat) (l4 : List (Int × Int)) (i3 : Int) (l5 : List (Int × Int)) (k_top_pubPairs_l0 : Int → (List (Int × Int)) → (List (Int × Int)) → Option ((List (Int × Int)))) : Option ((List (Int × Int))) :=
  idx l4 i3 fun x6 => chk (in64 x6.1) <| chk (in64 ((40 : Int) + (Int.tmod x6.1 60))) <| chk (in64 x6.2) <| chk (in64 ((6 : Int) + (Int.tmod x6.2 12))) <| chk (room 16 (l5.length + ([(((40 : Int) + (Int.tmod x6.1 60)), ((6 : Int) + (Int.tmod x6.2 12)))] : List (Int × Int)).length)) <| chk (in64 (i3 + 1)) <| k_top_pubPairs_l0 (i3 + 1) l4 (l5 ++ ([(((40 : Int) + (Int.tmod x6.1 60)), ((6 : Int) + (Int.tmod x6.2 12)))] : List (Int × Int)))
set_option maxRecDepth 100000 in
set_option maxHeartbeats 2000000 in
theorem ok_top_pubPairs_j1 {n : Nat} {w0 : World} {R0 : Nat → Prop} {env0 : Env} {r : (List (Int × Int))} {most2 : Int} {l4 : List (Int × Int)} {i3 : Int} {l5 : List (Int × Int)} {k_top_pubPairs_l0 : Int → (List (Int × Int)) → (List (Int × Int)) → Option ((List (Int × Int)))} (hk_top_pubPairs_l0 : ∀ (i3 : Int) (l4 : List (Int × Int)) (l5 : List (Int × Int)), k_top_pubPairs_l0 i3 l4 l5 = some r → TC Try.prog ⟨w0, fun _ => False, R0⟩ 40 (bodyPost Try.prog Try.f15 (Post ⟨w0, fun _ => False, R0⟩ env0 (.ref 0) [.row 0 61 2 (List.map en_api_TrainPair r)])) [.code (sub (bodyOf Try.f15) [1, 1, 0, 1, 0, 0, 0, 0]), .code (sub (bodyOf Try.f15) [1, 1, 0, 1, 0, 0, 0, 1]), .code (sub (bodyOf Try.f15) [1, 1, 0, 1, 0, 0, 1]), .inLoop (sub (bodyOf Try.f15) [1, 1, 0, 1, 0, 0]), .inBlock 0, .code (sub (bodyOf Try.f15) [1, 1, 1])] ([(0, .ref 0), (1, .val (.int .i64 most2)), (5, .ref 1), (6, .val (.int .i64 i3))]) ([.ro 0 2 (List.map en_2_uint8 l4), .row 1 61 2 (List.map en_api_TrainPair l5)])) (h : ev_top_pubPairs_j1 n l4 i3 l5 k_top_pubPairs_l0 = some r) : TC Try.prog ⟨w0, fun _ => False, R0⟩ 40 (bodyPost Try.prog Try.f15 (Post ⟨w0, fun _ => False, R0⟩ env0 (.ref 0) [.row 0 61 2 (List.map en_api_TrainPair r)])) [.code (sub (bodyOf Try.f15) [1, 1, 0, 1, 0, 0, 0, 1, 0]), .code (sub (bodyOf Try.f15) [1, 1, 0, 1, 0, 0, 1]), .inLoop (sub (bodyOf Try.f15) [1, 1, 0, 1, 0, 0]), .inBlock 0, .code (sub (bodyOf Try.f15) [1, 1, 1])] ([(0, .ref 0), (1, .val (.int .i64 most2)), (5, .ref 1), (6, .val (.int .i64 i3))]) ([.ro 0 2 (List.map en_2_uint8 l4), .row 1 61 2 (List.map en_api_TrainPair l5)]) := by
  rw [ev_top_pubPairs_j1] at h
  refine TC.skip ?_
  refine TC.seq ?_
  refine TC.block ?_
  obtain ⟨x6, h3, h4, h⟩ := idx_inv h
  obtain ⟨h5, h⟩ := chk_inv h
  obtain ⟨h6, h⟩ := chk_inv h
  obtain ⟨h7, h⟩ := chk_inv h
  obtain ⟨h8, h⟩ := chk_inv h
  refine drawJ 19 [⟨.ref 1, [], [], []⟩, ⟨.ref 0, [], [], []⟩, ⟨.val (.int .i64 i3), [], [], []⟩, ⟨.cell 0 ((i3 : Int).toNat * 2), [], [.ro 0 2 (List.map en_2_uint8 l4)], []⟩, ⟨.cell 0 ((i3 : Int).toNat * 2 + 0), [], [.ro 0 2 (List.map en_2_uint8 l4)], []⟩, ⟨.val (.int .u8 x6.1), [], [.ro 0 2 (List.map en_2_uint8 l4)], []⟩, ⟨.val (.int .i64 x6.1), [], [], []⟩, ⟨.val (.int .i64 (Int.tmod x6.1 60)), [], [], []⟩, ⟨.val (.int .i64 ((40 : Int) + (Int.tmod x6.1 60))), [], [], []⟩, ⟨.ref 0, [], [], []⟩, ⟨.val (.int .i64 i3), [], [], []⟩, ⟨.cell 0 ((i3 : Int).toNat * 2), [], [.ro 0 2 (List.map en_2_uint8 l4)], []⟩, ⟨.cell 0 ((i3 : Int).toNat * 2 + 1), [], [.ro 0 2 (List.map en_2_uint8 l4)], []⟩, ⟨.val (.int .u8 x6.2), [], [.ro 0 2 (List.map en_2_uint8 l4)], []⟩, ⟨.val (.int .i64 x6.2), [], [], []⟩, ⟨.val (.int .i64 (Int.tmod x6.2 12)), [], [], []⟩, ⟨.val (.int .i64 ((6 : Int) + (Int.tmod x6.2 12))), [], [], []⟩, ⟨.agg [.val (.int .i64 ((40 : Int) + (Int.tmod x6.1 60))), .val (.int .i64 ((6 : Int) + (Int.tmod x6.2 12)))], [], [], []⟩, ⟨.ref 2, [.row 2 61 2 (List.map en_api_TrainPair ([(((40 : Int) + (Int.tmod x6.1 60)), ((6 : Int) + (Int.tmod x6.2 12)))] : List (Int × Int)))], [], []⟩] rfl ?_ rfl ?_ rfl ?_ ?_
  · kernel_rfl
  · kernel_rfl
  · exact DAll.op' (sp_move rfl rfl) trivial rfl (From.ok (ps := []) trivial) (DAll.op' (sp_move rfl rfl) trivial rfl (From.ok (ps := []) trivial) (DAll.op' (sp_move rfl rfl) trivial rfl (From.ok (ps := []) trivial) (DAll.op' (sp_indexS rfl rfl rfl isRo sl22 h3 (map_get _ h4)) trivial rfl (From.ok (ps := [(none, 0)]) ⟨⟨rfl, rfl⟩, trivial⟩) (DAll.op' (sp_indexAR (q := (i3 : Int).toNat) (len := 2) (iv := 0) rfl rfl rfl isRo Try.underlying45 vt5 (by decide) (map_get _ h4) (fun h => nomatch h)) trivial rfl (From.ok (ps := [(none, 0)]) ⟨⟨rfl, rfl⟩, trivial⟩) (DAll.op' (sp_loadR (i := (i3 : Int).toNat) (j := 0) rfl rfl isRo vt5 rfl (map_get _ h4) rfl (.v (.nil)) (nodup_of_B rfl)) trivial rfl (From.ok (ps := [(none, 0)]) ⟨⟨rfl, rfl⟩, trivial⟩) (DAll.op' (sp_conv rfl Try.underlying5 Try.underlying3 rfl h5) trivial rfl (From.ok (ps := []) trivial) (DAll.op' (sp_rem rfl rfl rfl (by decide)) trivial rfl (From.ok (ps := []) trivial) (DAll.op' (sp_add rfl rfl rfl h6) trivial rfl (From.ok (ps := []) trivial) (DAll.op' (sp_move rfl rfl) trivial rfl (From.ok (ps := []) trivial) (DAll.op' (sp_move rfl rfl) trivial rfl (From.ok (ps := []) trivial) (DAll.op' (sp_indexS rfl rfl rfl isRo sl22 h3 (map_get _ h4)) trivial rfl (From.ok (ps := [(none, 0)]) ⟨⟨rfl, rfl⟩, trivial⟩) (DAll.op' (sp_indexAR (q := (i3 : Int).toNat) (len := 2) (iv := 1) rfl rfl rfl isRo Try.underlying45 vt5 (by decide) (map_get _ h4) (fun h => nomatch h)) trivial rfl (From.ok (ps := [(none, 0)]) ⟨⟨rfl, rfl⟩, trivial⟩) (DAll.op' (sp_loadR (i := (i3 : Int).toNat) (j := 1) rfl rfl isRo vt5 rfl (map_get _ h4) rfl (.v (.nil)) (nodup_of_B rfl)) trivial rfl (From.ok (ps := [(none, 0)]) ⟨⟨rfl, rfl⟩, trivial⟩) (DAll.op' (sp_conv rfl Try.underlying5 Try.underlying3 rfl h7) trivial rfl (From.ok (ps := []) trivial) (DAll.op' (sp_rem rfl rfl rfl (by decide)) trivial rfl (From.ok (ps := []) trivial) (DAll.op' (sp_add rfl rfl rfl h8) trivial rfl (From.ok (ps := []) trivial) (DAll.op' (sp_build (qs := [(0, .val (.int .i64 ((40 : Int) + (Int.tmod x6.1 60)))), (1, .val (.int .i64 ((6 : Int) + (Int.tmod x6.2 12))))]) rfl bt61 rfl rfl rfl rfl) trivial rfl (From.ok (ps := []) trivial) (DAll.op' (sp_buildSlice (qs := [.agg [.val (.int .i64 ((40 : Int) + (Int.tmod x6.1 60))), .val (.int .i64 ((6 : Int) + (Int.tmod x6.2 12)))]]) (need := []) (els := List.map en_api_TrainPair ([(((40 : Int) + (Int.tmod x6.1 60)), ((6 : Int) + (Int.tmod x6.2 12)))] : List (Int × Int))) 2 rfl sl23 (by decide) (by decide) rfl rfl rfl (.v (.v (.nil))) (map_len fun _ => rfl) rfl rfl rfl) trivial rfl (From.ok (ps := []) trivial) (.nil)))))))))))))))))))
  obtain ⟨h9, h⟩ := chk_inv h
  refine appM 2 0 (N := l5.length) (N2 := ([(((40 : Int) + (Int.tmod x6.1 60)), ((6 : Int) + (Int.tmod x6.2 12)))] : List (Int × Int)).length) 3 rfl rfl trivial rfl rfl rfl rfl rfl isOwn rfl sl23 (len_map _ _) (len_map _ _) h9 (map_app _ _ _) rfl ?_
  refine op0 (sp_assign rfl rfl) rfl trivial rfl rfl ?_
  refine TL.nil ?_
  refine TC.inBlock ?_
  refine TC.region ?_
  refine op0 (sp_move rfl rfl) rfl trivial rfl rfl ?_
  obtain ⟨h10, h⟩ := chk_inv h
  refine op0 (sp_add rfl rfl rfl h10) rfl trivial rfl rfl ?_
  refine op0 (sp_assign rfl rfl) rfl trivial rfl rfl ?_
  refine TL.nil ?_
  refine TC.inLoop ?_
  refine TC.seq ?_
  refine TC.seq ?_
  refine subJ [(1, 3)] (hk_top_pubPairs_l0 _ _ _ h) ?_ ?_ ?_
  · exact ⟨rfl, rfl, rfl, rfl, trivial⟩
  · exact ⟨mem_at 2 rfl, mem_at 0 rfl, trivial⟩
  · rfl
def ev_top_pubPairs_l0 (n : Nat) (most2 : Int) : Nat → Int → (List (Int × Int)) → (List (Int × Int)) → Option ((List (Int × Int)))
  | 0, _, _, _ => none
  | m + 1, i3, l4, l5 => cond (decide (i3 < (l4.length : Int))) (cond (decide (i3 < most2)) (ev_top_pubPairs_j1 n l4 i3 l5 (fun i3q l4q l5q => ev_top_pubPairs_l0 n most2 m i3q l4q l5q)) (some l5)) (some l5)
set_option maxRecDepth 100000 in
set_option maxHeartbeats 2000000 in
theorem ok_top_pubPairs_l0 {n : Nat} {w0 : World} {R0 : Nat → Prop} {env0 : Env} {r : (List (Int × Int))} {most2 : Int} : ∀ (m : Nat) (i3 : Int) (l4 : List (Int × Int)) (l5 : List (Int × Int)), ev_top_pubPairs_l0 n most2 m i3 l4 l5 = some r → TC Try.prog ⟨w0, fun _ => False, R0⟩ 40 (bodyPost Try.prog Try.f15 (Post ⟨w0, fun _ => False, R0⟩ env0 (.ref 0) [.row 0 61 2 (List.map en_api_TrainPair r)])) [.code (sub (bodyOf Try.f15) [1, 1, 0, 1, 0, 0, 0, 0]), .code (sub (bodyOf Try.f15) [1, 1, 0, 1, 0, 0, 0, 1]), .code (sub (bodyOf Try.f15) [1, 1, 0, 1, 0, 0, 1]), .inLoop (sub (bodyOf Try.f15) [1, 1, 0, 1, 0, 0]), .inBlock 0, .code (sub (bodyOf Try.f15) [1, 1, 1])] ([(0, .ref 0), (1, .val (.int .i64 most2)), (5, .ref 1), (6, .val (.int .i64 i3))]) ([.ro 0 2 (List.map en_2_uint8 l4), .row 1 61 2 (List.map en_api_TrainPair l5)]) := by
  intro m
  induction m with
  | zero => intro i3 l4 l5 h; exact none_no h
  | succ m ih =>
    intro i3 l4 l5 h
    rw [ev_top_pubPairs_l0] at h
    refine TC.region ?_
    refine op0 (sp_move rfl rfl) rfl trivial rfl rfl ?_
    refine op0 (sp_move rfl rfl) rfl trivial rfl rfl ?_
    refine op1 0 rfl (sp_lenM (N := l4.length) (len_map _ _) rfl rfl isRo Try.underlying22) rfl trivial rfl rfl ?_
    refine op0 (sp_lss rfl rfl rfl) rfl trivial rfl rfl ?_
    refine op0 (sp_move rfl rfl) rfl trivial rfl rfl ?_
    rcases cond_cases h with ⟨h1, h⟩ | ⟨h1, h⟩
    · refine (boolLit 12 rfl h1).2 ?_
      refine op0 (sp_move rfl rfl) rfl ⟨_, rfl, rfl⟩ rfl rfl ?_
      refine op0 (sp_move rfl rfl) rfl ⟨_, rfl, rfl⟩ rfl rfl ?_
      refine op0 (sp_lss rfl rfl rfl) rfl ⟨_, rfl, rfl⟩ rfl rfl ?_
      refine op0 (sp_pickT rfl rfl rfl) rfl trivial rfl rfl ?_
      refine TL.nil ?_
      refine TC.cond (b := (decide (i3 < most2))) rfl (fun h2 => ?_) (fun h2 => ?_)
      · have h := cond_t h h2
        refine subJ [] (ok_top_pubPairs_j1 (most2 := most2) ih h) ?_ ?_ ?_
        · exact ⟨rfl, rfl, rfl, rfl, trivial⟩
        · exact ⟨mem_at 0 rfl, mem_at 1 rfl, trivial⟩
        · rfl
      · have h := cond_f h h2
        refine TC.exit rfl ?_
        refine TC.seq ?_
        refine TC.region ?_
        refine op0 (sp_move rfl rfl) rfl trivial rfl rfl ?_
        refine op0 (sp_assign rfl rfl) rfl trivial rfl rfl ?_
        refine TL.nil ?_
        cases h
        exact retJ [(0, 1)] (.tmp rfl .nil) rfl ⟨mem_at 1 rfl, trivial⟩ rfl rfl
    · refine (boolLit 12 rfl h1).2 ?_
      refine opSkip rfl ⟨_, rfl, .inl rfl⟩ rfl ?_
      refine opSkip rfl ⟨_, rfl, .inl rfl⟩ rfl ?_
      refine opSkip rfl ⟨_, rfl, .inl rfl⟩ rfl ?_
      refine op0 (sp_pickF rfl rfl rfl) rfl trivial rfl rfl ?_
      refine TL.nil ?_
      refine TC.condF rfl ?_
      refine TC.exit rfl ?_
      refine TC.seq ?_
      refine TC.region ?_
      refine op0 (sp_move rfl rfl) rfl trivial rfl rfl ?_
      refine op0 (sp_assign rfl rfl) rfl trivial rfl rfl ?_
      refine TL.nil ?_
      cases h
      exact retJ [(0, 1)] (.tmp rfl .nil) rfl ⟨mem_at 1 rfl, trivial⟩ rfl rfl
def ev_top_pubPairs (n : Nat) (by_1 : List (Int × Int)) (most2 : Int) : Option ((List (Int × Int))) :=
  ev_top_pubPairs_l0 n most2 n 0 by_1 ([] : List (Int × Int))
set_option maxRecDepth 100000 in
set_option maxHeartbeats 2000000 in
theorem fc_top_pubPairs {n : Nat} {by_1 : List (Int × Int)} {most2 : Int} {r : (List (Int × Int))} (h : ev_top_pubPairs n by_1 most2 = some r) : FC Try.prog 15 [.ref 0, .val (.int .i64 most2)] [.ro 0 2 (List.map en_2_uint8 by_1)] (.ref 0) [.row 0 61 2 (List.map en_api_TrainPair r)] := by
  refine introJ (nz := 40) Try.func15 rfl rfl rfl (fun w0 R0 env0 => ?_)
  rw [ev_top_pubPairs] at h
  refine TC.seq ?_
  refine TC.region ?_
  refine op0 (sp_assign rfl rfl) rfl trivial rfl rfl ?_
  refine TL.nil ?_
  refine TC.seq ?_
  refine TC.region ?_
  refine op0 (sp_emptyM 1 (List.map en_api_TrainPair []) rfl rfl sl23) rfl trivial rfl rfl ?_
  refine op0 (sp_assign rfl rfl) rfl trivial rfl rfl ?_
  refine TL.nil ?_
  refine TC.seq ?_
  refine TC.seq ?_
  refine TC.region ?_
  refine op0 (sp_assign rfl rfl) rfl trivial rfl rfl ?_
  refine TL.nil ?_
  refine TC.block ?_
  refine TC.loop ?_
  refine TC.seq ?_
  refine TC.seq ?_
  refine subJ [] (ok_top_pubPairs_l0 _ _ _ _ h) ?_ ?_ ?_
  · exact ⟨rfl, rfl, rfl, rfl, trivial⟩
  · exact ⟨mem_at 1 rfl, mem_at 0 rfl, trivial⟩
  · rfl
/- slices_IndexFunc_Lapi_TrainPair_api_TrainPair -/
def ev_slices_IndexFunc_Lapi_TrainPair_api_TrainPair_l0 (n : Nat) (s1 : List (Int × Int)) (f2 : (Int × Int) → Option Bool) : Nat → Int → Option Int
  | 0, _ => none
  | m + 1, i3 => cond (decide (i3 < (s1.length : Int))) (idx s1 i3 fun x4 => (f2 (x4.1, x4.2)).bind fun r5 => cond r5 (some i3) (chk (in64 (i3 + 1)) <| ev_slices_IndexFunc_Lapi_TrainPair_api_TrainPair_l0 n s1 f2 m (i3 + 1))) (some (-1))
set_option maxRecDepth 100000 in
set_option maxHeartbeats 2000000 in
theorem ok_slices_IndexFunc_Lapi_TrainPair_api_TrainPair_l0 {n : Nat} {w0 : World} {R0 : Nat → Prop} {env0 : Env} {r : Int} {s1 : List (Int × Int)} {f2 : (Int × Int) → Option Bool} : ∀ (m : Nat) (i3 : Int), ev_slices_IndexFunc_Lapi_TrainPair_api_TrainPair_l0 n s1 f2 m i3 = some r → TC Try.prog ⟨w0, fun _ => False, R0⟩ 19 (bodyPost Try.prog Try.f235 (Post ⟨w0, fun _ => False, R0⟩ env0 (.val (.int .i64 r)) [])) [.code (sub (bodyOf Try.f235) [1, 0, 1, 0, 0, 0]), .code (sub (bodyOf Try.f235) [1, 0, 1, 0, 0, 1]), .inLoop (sub (bodyOf Try.f235) [1, 0, 1, 0, 0]), .inBlock 0, .code (sub (bodyOf Try.f235) [1, 1])] ([(0, .ref 0), (1, .ref 1), (7, .val (.int .i64 (s1.length : Int))), (8, .val (.int .i64 i3))]) ([.ro 0 2 (List.map en_api_TrainPair s1), .any 1 (D.fn Try.prog fe_funcapi_TrainPair_bool fd_funcapi_TrainPair_bool f2)]) := by
  intro m
  induction m with
  | zero => intro i3 h; exact none_no h
  | succ m ih =>
    intro i3 h
    rw [ev_slices_IndexFunc_Lapi_TrainPair_api_TrainPair_l0] at h
    refine TC.region ?_
    refine op0 (sp_lss rfl rfl rfl) rfl trivial rfl rfl ?_
    refine TL.nil ?_
    refine TC.seq ?_
    refine TC.cond (b := (decide (i3 < (s1.length : Int)))) rfl (fun h1 => ?_) (fun h1 => ?_)
    · have h := cond_t h h1
      refine TC.skip ?_
      refine TC.seq ?_
      refine TC.block ?_
      refine TC.seq ?_
      refine TC.region ?_
      refine op0 (sp_move rfl rfl) rfl trivial rfl rfl ?_
      refine op0 (sp_assign rfl rfl) rfl trivial rfl rfl ?_
      refine TL.nil ?_
      refine TC.seq ?_
      refine TC.region ?_
      refine op0 (sp_move rfl rfl) rfl trivial rfl rfl ?_
      refine op0 (sp_move rfl rfl) rfl trivial rfl rfl ?_
      refine op0 (sp_move rfl rfl) rfl trivial rfl rfl ?_
      obtain ⟨x4, h2, h3, h⟩ := idx_inv h
      refine op1 0 rfl (sp_indexS rfl rfl rfl isRo sl23 h2 (map_get _ h3)) rfl trivial rfl rfl ?_
      refine op1 0 rfl (sp_loadRA (i := (i3 : Int).toNat) (j := 0) (as_ := [.val (.int .i64 x4.1), .val (.int .i64 x4.2)]) (ns := []) rfl rfl isRo vt61 rfl (map_get _ h3) rfl rfl (by decide) (.v (.v (.nil))) (nodup_of_B rfl)) rfl trivial rfl rfl ?_
      obtain ⟨r5, h4, h⟩ := bind_inv h
      refine op1 1 rfl (sp_callF (avs := [.agg [.val (.int .i64 x4.1), .val (.int .i64 x4.2)]]) (v := .val (.bool r5)) (x4.1, x4.2) rfl rfl rfl rfl rfl h4) rfl trivial rfl rfl ?_
      refine TL.nil ?_
      refine TC.cond (b := r5) rfl (fun h5 => ?_) (fun h5 => ?_)
      · have h := cond_t h h5
        refine TC.seq ?_
        refine TC.region ?_
        refine op0 (sp_move rfl rfl) rfl trivial rfl rfl ?_
        refine op0 (sp_assign rfl rfl) rfl trivial rfl rfl ?_
        refine TL.nil ?_
        cases h
        exact retJ [] (.tmp rfl .nil) rfl trivial rfl rfl
      · have h := cond_f h h5
        refine TC.skip ?_
        refine TC.inBlock ?_
        refine TC.region ?_
        obtain ⟨h6, h⟩ := chk_inv h
        refine op0 (sp_add rfl rfl rfl h6) rfl trivial rfl rfl ?_
        refine op0 (sp_move rfl rfl) rfl trivial rfl rfl ?_
        refine TL.nil ?_
        refine TC.inLoop ?_
        refine TC.seq ?_
        refine subJ [] (ih _ h) ?_ ?_ ?_
        · exact ⟨rfl, rfl, rfl, rfl, trivial⟩
        · exact ⟨mem_at 0 rfl, mem_at 1 rfl, trivial⟩
        · rfl
    · have h := cond_f h h1
      refine TC.exit rfl ?_
      refine TC.seq ?_
      refine TC.region ?_
      refine op0 (sp_assign rfl rfl) rfl trivial rfl rfl ?_
      refine TL.nil ?_
      cases h
      exact retJ [] (.tmp rfl .nil) rfl trivial rfl rfl
def ev_slices_IndexFunc_Lapi_TrainPair_api_TrainPair (n : Nat) (s1 : List (Int × Int)) (f2 : (Int × Int) → Option Bool) : Option Int :=
  ev_slices_IndexFunc_Lapi_TrainPair_api_TrainPair_l0 n s1 f2 n 0
set_option maxRecDepth 100000 in
set_option maxHeartbeats 2000000 in
theorem fc_slices_IndexFunc_Lapi_TrainPair_api_TrainPair {n : Nat} {s1 : List (Int × Int)} {f2 : (Int × Int) → Option Bool} {r : Int} (h : ev_slices_IndexFunc_Lapi_TrainPair_api_TrainPair n s1 f2 = some r) : FC Try.prog 235 [.ref 0, .ref 1] [.ro 0 2 (List.map en_api_TrainPair s1), .any 1 (D.fn Try.prog fe_funcapi_TrainPair_bool fd_funcapi_TrainPair_bool f2)] (.val (.int .i64 r)) [] := by
  refine introJ (nz := 19) Try.func235 rfl rfl rfl (fun w0 R0 env0 => ?_)
  rw [ev_slices_IndexFunc_Lapi_TrainPair_api_TrainPair] at h
  refine TC.seq ?_
  refine TC.region ?_
  refine op0 (sp_assign rfl rfl) rfl trivial rfl rfl ?_
  refine TL.nil ?_
  refine TC.seq ?_
  refine TC.seq ?_
  refine TC.region ?_
  refine op0 (sp_move rfl rfl) rfl trivial rfl rfl ?_
  refine op1 0 rfl (sp_lenM (N := s1.length) (len_map _ _) rfl rfl isRo Try.underlying23) rfl trivial rfl rfl ?_
  refine op0 (sp_move rfl rfl) rfl trivial rfl rfl ?_
  refine TL.nil ?_
  refine TC.block ?_
  refine TC.loop ?_
  refine TC.seq ?_
  refine subJ [] (ok_slices_IndexFunc_Lapi_TrainPair_api_TrainPair_l0 _ _ h) ?_ ?_ ?_
  · exact ⟨rfl, rfl, rfl, rfl, trivial⟩
  · exact ⟨mem_at 0 rfl, mem_at 1 rfl, trivial⟩
  · rfl
/- slices_ContainsFunc_Lapi_TrainPair_api_TrainPair -/
def ev_slices_ContainsFunc_Lapi_TrainPair_api_TrainPair (n : Nat) (s1 : List (Int × Int)) (f2 : (Int × Int) → Option Bool) : Option Bool :=
  (ev_slices_IndexFunc_Lapi_TrainPair_api_TrainPair n s1 f2).bind fun r3 => some (decide ((0 : Int) ≤ r3))
set_option maxRecDepth 100000 in
set_option maxHeartbeats 2000000 in
theorem fc_slices_ContainsFunc_Lapi_TrainPair_api_TrainPair {n : Nat} {s1 : List (Int × Int)} {f2 : (Int × Int) → Option Bool} {r : Bool} (h : ev_slices_ContainsFunc_Lapi_TrainPair_api_TrainPair n s1 f2 = some r) : FC Try.prog 138 [.ref 0, .ref 1] [.ro 0 2 (List.map en_api_TrainPair s1), .any 1 (D.fn Try.prog fe_funcapi_TrainPair_bool fd_funcapi_TrainPair_bool f2)] (.val (.bool r)) [] := by
  refine introJ (nz := 9) Try.func138 rfl rfl rfl (fun w0 R0 env0 => ?_)
  rw [ev_slices_ContainsFunc_Lapi_TrainPair_api_TrainPair] at h
  refine TC.seq ?_
  refine TC.region ?_
  refine op0 (sp_assign rfl rfl) rfl trivial rfl rfl ?_
  refine TL.nil ?_
  refine TC.seq ?_
  refine TC.region ?_
  refine op0 (sp_move rfl rfl) rfl trivial rfl rfl ?_
  refine op0 (sp_move rfl rfl) rfl trivial rfl rfl ?_
  obtain ⟨r3, h1, h⟩ := bind_inv h
  refine opN (need := [.ro 0 2 (List.map en_api_TrainPair s1), .any 1 (D.fn Try.prog fe_funcapi_TrainPair_bool fd_funcapi_TrainPair_bool f2)]) [0, 1] ⟨rfl, rfl, trivial⟩ (sp_call (avs := [.ref 0, .ref 1]) (need := [.ro 0 2 (List.map en_api_TrainPair s1), .any 1 (D.fn Try.prog fe_funcapi_TrainPair_bool fd_funcapi_TrainPair_bool f2)]) (v := .val (.int .i64 r3)) (news := []) rfl rfl rfl Try.call235 (atJ [] [] (fc_slices_IndexFunc_Lapi_TrainPair_api_TrainPair h1) rfl rfl) (.inl (roAll rfl))) rfl trivial rfl rfl ?_
  refine op0 (sp_geq rfl rfl rfl) rfl trivial rfl rfl ?_
  refine op0 (sp_assign rfl rfl) rfl trivial rfl rfl ?_
  refine TL.nil ?_
  cases h
  exact retJ [] (.tmp rfl .nil) rfl trivial rfl rfl
/- slices_IsSorted_Lint_int -/
def ev_slices_IsSorted_Lint_int_l0 (n : Nat) (x1 : List Int) : Nat → Int → Option Bool
  | 0, _ => none
  | m + 1, i2 => cond (decide ((0 : Int) < i2)) (idx x1 i2 fun x3 => chk (in64 (i2 - 1)) <| idx x1 (i2 - 1) fun x4 => (ev_cmp_Less_int n x3 x4).bind fun r5 => cond r5 (some false) (chk (in64 (i2 - 1)) <| ev_slices_IsSorted_Lint_int_l0 n x1 m (i2 - 1))) (some true)
set_option maxRecDepth 100000 in
set_option maxHeartbeats 2000000 in
theorem ok_slices_IsSorted_Lint_int_l0 {n : Nat} {w0 : World} {R0 : Nat → Prop} {env0 : Env} {r : Bool} {x1 : List Int} : ∀ (m : Nat) (i2 : Int), ev_slices_IsSorted_Lint_int_l0 n x1 m i2 = some r → TC Try.prog ⟨w0, fun _ => False, R0⟩ 21 (bodyPost Try.prog Try.f247 (Post ⟨w0, fun _ => False, R0⟩ env0 (.val (.bool r)) [])) [.code (sub (bodyOf Try.f247) [1, 0, 1, 0, 0, 0, 0]), .code (sub (bodyOf Try.f247) [1, 0, 1, 0, 0, 0, 1]), .code (sub (bodyOf Try.f247) [1, 0, 1, 0, 0, 1]), .inLoop (sub (bodyOf Try.f247) [1, 0, 1, 0, 0]), .inBlock 0, .code (sub (bodyOf Try.f247) [1, 1])] ([(0, .ref 0), (3, .val (.int .i64 i2))]) ([.ro 0 1 (List.map en_int x1)]) := by
  intro m
  induction m with
  | zero => intro i2 h; exact none_no h
  | succ m ih =>
    intro i2 h
    rw [ev_slices_IsSorted_Lint_int_l0] at h
    refine TC.region ?_
    refine op0 (sp_move rfl rfl) rfl trivial rfl rfl ?_
    refine op0 (sp_gtr rfl rfl rfl) rfl trivial rfl rfl ?_
    refine TL.nil ?_
    refine TC.cond (b := (decide ((0 : Int) < i2))) rfl (fun h2 => ?_) (fun h2 => ?_)
    · have h := cond_t h h2
      refine TC.skip ?_
      refine TC.seq ?_
      refine TC.block ?_
      refine TC.seq ?_
      obtain ⟨x3, h3, h4, h⟩ := idx_inv h
      obtain ⟨h5, h⟩ := chk_inv h
      obtain ⟨x4, h6, h7, h⟩ := idx_inv h
      refine drawJ 9 [⟨.ref 0, [], [], []⟩, ⟨.val (.int .i64 i2), [], [], []⟩, ⟨.cell 0 ((i2 : Int).toNat * 1), [], [.ro 0 1 (List.map en_int x1)], []⟩, ⟨.val (.int .i64 x3), [], [.ro 0 1 (List.map en_int x1)], []⟩, ⟨.ref 0, [], [], []⟩, ⟨.val (.int .i64 i2), [], [], []⟩, ⟨.val (.int .i64 (i2 - 1)), [], [], []⟩, ⟨.cell 0 (((i2 - 1) : Int).toNat * 1), [], [.ro 0 1 (List.map en_int x1)], []⟩, ⟨.val (.int .i64 x4), [], [.ro 0 1 (List.map en_int x1)], []⟩] rfl ?_ rfl ?_ rfl ?_ ?_
      · kernel_rfl
      · kernel_rfl
      · exact DAll.op' (sp_move rfl rfl) trivial rfl (From.ok (ps := []) trivial) (DAll.op' (sp_move rfl rfl) trivial rfl (From.ok (ps := []) trivial) (DAll.op' (sp_indexS rfl rfl rfl isRo sl50 h3 (map_get _ h4)) trivial rfl (From.ok (ps := [(none, 0)]) ⟨⟨rfl, rfl⟩, trivial⟩) (DAll.op' (sp_loadR (i := (i2 : Int).toNat) (j := 0) rfl rfl isRo vt3 rfl (map_get _ h4) rfl (.v (.nil)) (nodup_of_B rfl)) trivial rfl (From.ok (ps := [(none, 0)]) ⟨⟨rfl, rfl⟩, trivial⟩) (DAll.op' (sp_move rfl rfl) trivial rfl (From.ok (ps := []) trivial) (DAll.op' (sp_move rfl rfl) trivial rfl (From.ok (ps := []) trivial) (DAll.op' (sp_sub rfl rfl rfl h5) trivial rfl (From.ok (ps := []) trivial) (DAll.op' (sp_indexS rfl rfl rfl isRo sl50 h6 (map_get _ h7)) trivial rfl (From.ok (ps := [(none, 0)]) ⟨⟨rfl, rfl⟩, trivial⟩) (DAll.op' (sp_loadR (i := ((i2 - 1) : Int).toNat) (j := 0) rfl rfl isRo vt3 rfl (map_get _ h7) rfl (.v (.nil)) (nodup_of_B rfl)) trivial rfl (From.ok (ps := [(none, 0)]) ⟨⟨rfl, rfl⟩, trivial⟩) (.nil)))))))))
      obtain ⟨r5, h8, h⟩ := bind_inv h
      refine op0 (sp_call (avs := [.val (.int .i64 x3), .val (.int .i64 x4)]) (need := []) (v := .val (.bool r5)) (news := []) rfl rfl rfl Try.call309 (atJ [] [] (fc_cmp_Less_int h8) rfl rfl) (.inl (roAll rfl))) rfl trivial rfl rfl ?_
      refine TL.nil ?_
      refine TC.cond (b := r5) rfl (fun h9 => ?_) (fun h9 => ?_)
      · have h := cond_t h h9
        refine TC.seq ?_
        refine TC.region ?_
        refine op0 (sp_assign rfl rfl) rfl trivial rfl rfl ?_
        refine TL.nil ?_
        cases h
        exact retJ [] (.tmp rfl .nil) rfl trivial rfl rfl
      · have h := cond_f h h9
        refine TC.skip ?_
        refine TC.inBlock ?_
        refine TC.region ?_
        refine op0 (sp_move rfl rfl) rfl trivial rfl rfl ?_
        obtain ⟨h10, h⟩ := chk_inv h
        refine op0 (sp_sub rfl rfl rfl h10) rfl trivial rfl rfl ?_
        refine op0 (sp_assign rfl rfl) rfl trivial rfl rfl ?_
        refine TL.nil ?_
        refine TC.inLoop ?_
        refine TC.seq ?_
        refine TC.seq ?_
        refine subJ [] (ih _ h) ?_ ?_ ?_
        · exact ⟨rfl, rfl, trivial⟩
        · exact ⟨mem_at 0 rfl, trivial⟩
        · rfl
    · have h := cond_f h h2
      refine TC.exit rfl ?_
      refine TC.seq ?_
      refine TC.region ?_
      refine op0 (sp_assign rfl rfl) rfl trivial rfl rfl ?_
      refine TL.nil ?_
      cases h
      exact retJ [] (.tmp rfl .nil) rfl trivial rfl rfl
def ev_slices_IsSorted_Lint_int (n : Nat) (x1 : List Int) : Option Bool :=
  chk (in64 ((x1.length : Int) - 1)) <| ev_slices_IsSorted_Lint_int_l0 n x1 n ((x1.length : Int) - 1)
set_option maxRecDepth 100000 in
set_option maxHeartbeats 2000000 in
theorem fc_slices_IsSorted_Lint_int {n : Nat} {x1 : List Int} {r : Bool} (h : ev_slices_IsSorted_Lint_int n x1 = some r) : FC Try.prog 247 [.ref 0] [.ro 0 1 (List.map en_int x1)] (.val (.bool r)) [] := by
  refine introJ (nz := 21) Try.func247 rfl rfl rfl (fun w0 R0 env0 => ?_)
  rw [ev_slices_IsSorted_Lint_int] at h
  refine TC.seq ?_
  refine TC.region ?_
  refine op0 (sp_assign rfl rfl) rfl trivial rfl rfl ?_
  refine TL.nil ?_
  refine TC.seq ?_
  refine TC.seq ?_
  refine TC.region ?_
  refine op0 (sp_move rfl rfl) rfl trivial rfl rfl ?_
  refine op1 0 rfl (sp_lenM (N := x1.length) (len_map _ _) rfl rfl isRo Try.underlying50) rfl trivial rfl rfl ?_
  obtain ⟨h1, h⟩ := chk_inv h
  refine op0 (sp_sub rfl rfl rfl h1) rfl trivial rfl rfl ?_
  refine op0 (sp_assign rfl rfl) rfl trivial rfl rfl ?_
  refine TL.nil ?_
  refine TC.block ?_
  refine TC.loop ?_
  refine TC.seq ?_
  refine TC.seq ?_
  refine subJ [] (ok_slices_IsSorted_Lint_int_l0 _ _ h) ?_ ?_ ?_
  · exact ⟨rfl, rfl, trivial⟩
  · exact ⟨mem_at 0 rfl, trivial⟩
  · rfl
/- slices_Clone_Lint_int -/
def ev_slices_Clone_Lint_int (n : Nat) (s1 : List Int) : Option ((List Int)) :=
  chk (room 8 (([] : List Int).length + s1.length)) <| some (([] : List Int) ++ s1)
set_option maxRecDepth 100000 in
set_option maxHeartbeats 2000000 in
theorem fc_slices_Clone_Lint_int {n : Nat} {s1 : List Int} {r : (List Int)} (h : ev_slices_Clone_Lint_int n s1 = some r) : FC Try.prog 162 [.ref 0] [.ro 0 1 (List.map en_int s1)] (.ref 0) [.row 0 3 1 (List.map en_int r)] := by
  refine introJ (nz := 8) Try.func162 rfl rfl rfl (fun w0 R0 env0 => ?_)
  rw [ev_slices_Clone_Lint_int] at h
  refine TC.seq ?_
  refine TC.region ?_
  refine op0 (sp_assign rfl rfl) rfl trivial rfl rfl ?_
  refine TL.nil ?_
  refine TC.seq ?_
  refine TC.seq ?_
  refine TC.region ?_
  refine op0 (sp_move rfl rfl) rfl trivial rfl rfl ?_
  refine op1 0 rfl (sp_eqNil 1 rfl Try.underlying50 rfl rfl isRo (len_map _ _)) rfl trivial rfl rfl ?_
  refine TL.nil ?_
  refine condNil 0 rfl rfl (fun hN => ?_) ?_
  · have hx := List.eq_nil_of_length_eq_zero hN
    subst hx
    repeat (have h := (chk_inv h).2)
    refine TC.seq ?_
    refine TC.region ?_
    refine op0 (sp_assign rfl rfl) rfl trivial rfl rfl ?_
    refine TL.nil ?_
    refine nilRowC 2 2 3 1 (List.map en_int []) rfl rfl rfl ?_
    cases h
    exact retJ [(0, 2)] (.tmp rfl .nil) rfl ⟨mem_at 0 rfl, trivial⟩ rfl rfl
  · refine TC.skip ?_
    refine TC.seq ?_
    refine TC.region ?_
    refine op0 (sp_emptyM 3 (List.map en_int []) rfl rfl sl50) rfl trivial rfl rfl ?_
    refine op0 (sp_move rfl rfl) rfl trivial rfl rfl ?_
    obtain ⟨h1, h⟩ := chk_inv h
    refine appM 0 2 (N := ([] : List Int).length) (N2 := s1.length) 4 rfl rfl trivial rfl rfl rfl rfl rfl isRo rfl sl50 (len_map _ _) (len_map _ _) h1 (map_app _ _ _) rfl ?_
    refine op0 (sp_assign rfl rfl) rfl trivial rfl rfl ?_
    refine TL.nil ?_
    cases h
    exact retJ [(0, 4)] (.tmp rfl .nil) rfl ⟨mem_at 0 rfl, trivial⟩ rfl rfl
/- slices_Clip_Lint_int -/
def ev_slices_Clip_Lint_int (n : Nat) (s1 : List Int) : Option ((List Int)) :=
  some s1
set_option maxRecDepth 100000 in
set_option maxHeartbeats 2000000 in
theorem fc_slices_Clip_Lint_int {n : Nat} {s1 : List Int} {r : (List Int)} (h : ev_slices_Clip_Lint_int n s1 = some r) : FC Try.prog 249 [.ref 0] [.ro 0 1 (List.map en_int s1)] (.ref 0) [.any 0 (D.clip 1 (List.map en_int r))] := by
  refine introJ (nz := 9) Try.func249 rfl rfl rfl (fun w0 R0 env0 => ?_)
  rw [ev_slices_Clip_Lint_int] at h
  refine TC.seq ?_
  refine TC.region ?_
  refine op0 (sp_assign rfl rfl) rfl trivial rfl rfl ?_
  refine TL.nil ?_
  refine TC.seq ?_
  refine TC.region ?_
  refine op0 (sp_move rfl rfl) rfl trivial rfl rfl ?_
  refine op0 (sp_move rfl rfl) rfl trivial rfl rfl ?_
  refine op1 0 rfl (sp_lenM (N := s1.length) (len_map _ _) rfl rfl isRo Try.underlying50) rfl trivial rfl rfl ?_
  refine op0 (sp_move rfl rfl) rfl trivial rfl rfl ?_
  refine op1 0 rfl (sp_lenM (N := s1.length) (len_map _ _) rfl rfl isRo Try.underlying50) rfl trivial rfl rfl ?_
  refine op1 0 rfl (sp_clip 1 (len_map _ _) rfl rfl sl50 rfl rfl) rfl trivial rfl rfl ?_
  refine op0 (sp_assign rfl rfl) rfl trivial rfl rfl ?_
  refine TL.nil ?_
  cases h
  exact retJ [(0, 1)] (.tmp rfl .nil) rfl ⟨mem_at 0 rfl, trivial⟩ rfl rfl
/- top_pubDown -/
def ev_top_pubDown (n : Nat) (nn1 : Int) (by_2 : Int) : Option Int :=
  (ev_top_pubRest n nn1 by_2).bind fun r3 => chk (in64 (nn1 - r3)) <| chk (by_2 != 0) <| chk (in64 (Int.tdiv (nn1 - r3) by_2)) <| some (Int.tdiv (nn1 - r3) by_2)
set_option maxRecDepth 100000 in
set_option maxHeartbeats 2000000 in
theorem fc_top_pubDown {n : Nat} {nn1 : Int} {by_2 : Int} {r : Int} (h : ev_top_pubDown n nn1 by_2 = some r) : FC Try.prog 21 [.val (.int .i64 nn1), .val (.int .i64 by_2)] [] (.val (.int .i64 r)) [] := by
  refine introJ (nz := 12) Try.func21 rfl rfl rfl (fun w0 R0 env0 => ?_)
  rw [ev_top_pubDown] at h
  refine TC.seq ?_
  refine TC.region ?_
  refine op0 (sp_assign rfl rfl) rfl trivial rfl rfl ?_
  refine TL.nil ?_
  refine TC.seq ?_
  refine TC.region ?_
  refine op0 (sp_move rfl rfl) rfl trivial rfl rfl ?_
  refine op0 (sp_move rfl rfl) rfl trivial rfl rfl ?_
  refine op0 (sp_move rfl rfl) rfl trivial rfl rfl ?_
  obtain ⟨r3, h1, h⟩ := bind_inv h
  refine op0 (sp_call (avs := [.val (.int .i64 nn1), .val (.int .i64 by_2)]) (need := []) (v := .val (.int .i64 r3)) (news := []) rfl rfl rfl Try.call54 (atJ [] [] (fc_top_pubRest h1) rfl rfl) (.inl (roAll rfl))) rfl trivial rfl rfl ?_
  obtain ⟨h2, h⟩ := chk_inv h
  refine op0 (sp_sub rfl rfl rfl h2) rfl trivial rfl rfl ?_
  refine op0 (sp_move rfl rfl) rfl trivial rfl rfl ?_
  obtain ⟨h3, h⟩ := chk_inv h
  obtain ⟨h4, h⟩ := chk_inv h
  refine op0 (sp_quo rfl rfl rfl h3 h4) rfl trivial rfl rfl ?_
  refine op0 (sp_assign rfl rfl) rfl trivial rfl rfl ?_
  refine TL.nil ?_
  cases h
  exact retJ [] (.tmp rfl .nil) rfl trivial rfl rfl
/- top_pubUp -/
def ev_top_pubUp (n : Nat) (nn1 : Int) (by_2 : Int) : Option Int :=
  chk (in64 (0 - nn1)) <| (ev_top_pubDown n (0 - nn1) by_2).bind fun r3 => chk (in64 (0 - r3)) <| some (0 - r3)
set_option maxRecDepth 100000 in
set_option maxHeartbeats 2000000 in
theorem fc_top_pubUp {n : Nat} {nn1 : Int} {by_2 : Int} {r : Int} (h : ev_top_pubUp n nn1 by_2 = some r) : FC Try.prog 22 [.val (.int .i64 nn1), .val (.int .i64 by_2)] [] (.val (.int .i64 r)) [] := by
  refine introJ (nz := 10) Try.func22 rfl rfl rfl (fun w0 R0 env0 => ?_)
  rw [ev_top_pubUp] at h
  refine TC.seq ?_
  refine TC.region ?_
  refine op0 (sp_assign rfl rfl) rfl trivial rfl rfl ?_
  refine TL.nil ?_
  refine TC.seq ?_
  refine TC.region ?_
  refine op0 (sp_move rfl rfl) rfl trivial rfl rfl ?_
  obtain ⟨h1, h⟩ := chk_inv h
  refine op0 (sp_neg rfl rfl h1) rfl trivial rfl rfl ?_
  refine op0 (sp_move rfl rfl) rfl trivial rfl rfl ?_
  obtain ⟨r3, h2, h⟩ := bind_inv h
  refine op0 (sp_call (avs := [.val (.int .i64 (0 - nn1)), .val (.int .i64 by_2)]) (need := []) (v := .val (.int .i64 r3)) (news := []) rfl rfl rfl Try.call21 (atJ [] [] (fc_top_pubDown h2) rfl rfl) (.inl (roAll rfl))) rfl trivial rfl rfl ?_
  obtain ⟨h3, h⟩ := chk_inv h
  refine op0 (sp_neg rfl rfl h3) rfl trivial rfl rfl ?_
  refine op0 (sp_assign rfl rfl) rfl trivial rfl rfl ?_
  refine TL.nil ?_
  cases h
  exact retJ [] (.tmp rfl .nil) rfl trivial rfl rfl
/- top_pubIn -/
def ev_top_pubIn (n : Nat) (nn1 : Int) (s2 : Int) (s3 : Int) : Option Bool :=
  cond (decide (s2 ≤ nn1)) (some (decide (nn1 ≤ s3))) (some false)
set_option maxRecDepth 100000 in
set_option maxHeartbeats 2000000 in
theorem fc_top_pubIn {n : Nat} {nn1 : Int} {s2 : Int} {s3 : Int} {r : Bool} (h : ev_top_pubIn n nn1 s2 s3 = some r) : FC Try.prog 25 [.val (.int .i64 nn1), .agg [.val (.int .i64 s2), .val (.int .i64 s3)]] [] (.val (.bool r)) [] := by
  refine introJ (nz := 15) Try.func25 rfl rfl rfl (fun w0 R0 env0 => ?_)
  rw [ev_top_pubIn] at h
  refine TC.seq ?_
  refine TC.region ?_
  refine op0 (sp_box 0 rfl rfl rfl rfl rfl) rfl trivial rfl rfl ?_
  refine op0 (sp_assign rfl rfl) rfl trivial rfl rfl ?_
  refine TL.nil ?_
  refine TC.seq ?_
  refine TC.region ?_
  refine op0 (sp_move rfl rfl) rfl trivial rfl rfl ?_
  refine op1 0 rfl (sp_fieldAddrB rfl isBlk rfl ft34_0 vt3 (by decide)) rfl trivial rfl rfl ?_
  refine op1 0 rfl (sp_loadB rfl isBlk rfl vt3 rfl) rfl trivial rfl rfl ?_
  refine op0 (sp_geq rfl rfl rfl) rfl trivial rfl rfl ?_
  refine op0 (sp_move rfl rfl) rfl trivial rfl rfl ?_
  rcases cond_cases h with ⟨h1, h⟩ | ⟨h1, h⟩
  · refine (boolLit 9 rfl h1).2 ?_
    refine op0 (sp_move rfl rfl) rfl ⟨_, rfl, rfl⟩ rfl rfl ?_
    refine op1 0 rfl (sp_fieldAddrB rfl isBlk rfl ft34_1 vt3 (by decide)) rfl ⟨_, rfl, rfl⟩ rfl rfl ?_
    refine op1 0 rfl (sp_loadB rfl isBlk rfl vt3 rfl) rfl ⟨_, rfl, rfl⟩ rfl rfl ?_
    refine op0 (sp_leq rfl rfl rfl) rfl ⟨_, rfl, rfl⟩ rfl rfl ?_
    refine op0 (sp_pickT rfl rfl rfl) rfl trivial rfl rfl ?_
    refine op0 (sp_assign rfl rfl) rfl trivial rfl rfl ?_
    refine TL.nil ?_
    cases h
    exact retJ [] (.tmp rfl .nil) rfl trivial rfl rfl
  · refine (boolLit 9 rfl h1).2 ?_
    refine opSkip rfl ⟨_, rfl, .inl rfl⟩ rfl ?_
    refine opSkip rfl ⟨_, rfl, .inl rfl⟩ rfl ?_
    refine opSkip rfl ⟨_, rfl, .inl rfl⟩ rfl ?_
    refine opSkip rfl ⟨_, rfl, .inl rfl⟩ rfl ?_
    refine op0 (sp_pickF rfl rfl rfl) rfl trivial rfl rfl ?_
    refine op0 (sp_assign rfl rfl) rfl trivial rfl rfl ?_
    refine TL.nil ?_
    cases h
    exact retJ [] (.tmp rfl .nil) rfl trivial rfl rfl
end
end Go.Proofs.Ytgkoldcmbcbbpaa.Sy
