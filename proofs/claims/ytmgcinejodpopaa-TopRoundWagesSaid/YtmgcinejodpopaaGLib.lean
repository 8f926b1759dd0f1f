/- What functions of the program compute, and that they do: printed by symgen.py. -/
import Derived.Test.YtmgcinejodpopaaSymZ
import Derived.Test.YtmgcinejodpopaaProg
set_option linter.unusedSimpArgs false
set_option linter.unusedVariables false
namespace Go.Proofs.Ytmgcinejodpopaa.Sy
open Go.RowKit
noncomputable section

def en_api_BookEntry : Int × Int × Int → List D := fun x => [D.v (.int .i64 x.1), D.v (.int .i64 x.2.1), D.v (.int .i64 x.2.2)]
theorem en_api_BookEntry_flat : ∀ a, ∀ d ∈ en_api_BookEntry a, ∃ x, d = D.v x := by
  intro a d h
  simp only [en_api_BookEntry, List.mem_cons, List.not_mem_nil, or_false] at h
  rcases h with rfl | rfl | rfl <;> exact ⟨_, rfl⟩
def en_int : Int → List D := fun x => [D.v (.int .i64 x)]
theorem en_int_flat : ∀ a, ∀ d ∈ en_int a, ∃ x, d = D.v x := by
  intro a d h
  simp only [en_int, List.mem_cons, List.not_mem_nil, or_false] at h
  rcases h with rfl <;> exact ⟨_, rfl⟩
theorem sl166 : SlT Try.prog 166 35 3 24 := ⟨Try.underlying166, ⟨Try.t35, _, by kernel_rfl, rfl, rfl, rfl, rfl⟩, by decide⟩
theorem vt35 : VarT Try.prog 35 3 true := ⟨Try.isAgg35, Try.sizeOf35⟩
theorem ft35_1 : FieldT Try.prog 35 1 1 33 := ⟨_, _, Try.underlying35, rfl, rfl, rfl⟩
theorem vt33 : VarT Try.prog 33 1 false := ⟨Try.isAgg33, Try.sizeOf33⟩
theorem ft35_0 : FieldT Try.prog 35 0 0 3 := ⟨_, _, Try.underlying35, rfl, rfl, rfl⟩
theorem vt3 : VarT Try.prog 3 1 false := ⟨Try.isAgg3, Try.sizeOf3⟩
theorem sl37 : SlT Try.prog 37 3 1 8 := ⟨Try.underlying37, ⟨Try.t3, _, by kernel_rfl, rfl, rfl, rfl, rfl⟩, by decide⟩
def fe_funcint_bool : Int → List AV := fun a => [.val (.int .i64 a)]
def fd_funcint_bool : Bool → AV := fun b => .val (.bool b)
theorem ft35_2 : FieldT Try.prog 35 2 2 3 := ⟨_, _, Try.underlying35, rfl, rfl, rfl⟩
theorem vt37 : VarT Try.prog 37 1 false := ⟨Try.isAgg37, Try.sizeOf37⟩
def ye_funcbook_clock_bool : Int × Int × Int × Bool → List AV := fun a => [.agg [.val (.int .i64 a.1), .val (.int .i64 a.2.1), .val (.int .i64 a.2.2.1), .val (.bool a.2.2.2)]]
def yn_funcbook_clock_bool : Int × Int × Int × Bool → List NEnt := fun a => []
theorem bt173 : ∀ parts, Try.prog.built 173 parts = Instr.fill (fun i => (#[(0, 1), (1, 1), (2, 1), (3, 1)] : Array (Nat × Nat))[i]?) (AV.denL (fun _ => undef) [.val (.int .i64 0), .val (.int .i64 0), .val (.int .i64 0), .val (.bool false)]).toArray parts := fun _ => by kernel_rfl
theorem vt166 : VarT Try.prog 166 1 false := ⟨Try.isAgg166, Try.sizeOf166⟩
theorem vt173 : VarT Try.prog 173 4 true := ⟨Try.isAgg173, Try.sizeOf173⟩
theorem vt169 : VarT Try.prog 169 1 false := ⟨Try.isAgg169, Try.sizeOf169⟩
def ye_funcint_bool : Int → List AV := fun a => [.val (.int .i64 a)]
def yn_funcint_bool : Int → List NEnt := fun a => []
theorem ft173_3 : FieldT Try.prog 173 3 3 4 := ⟨_, _, Try.underlying173, rfl, rfl, rfl⟩
theorem vt4 : VarT Try.prog 4 1 false := ⟨Try.isAgg4, Try.sizeOf4⟩
theorem ft173_0 : FieldT Try.prog 173 0 0 3 := ⟨_, _, Try.underlying173, rfl, rfl, rfl⟩
theorem ft173_2 : FieldT Try.prog 173 2 2 3 := ⟨_, _, Try.underlying173, rfl, rfl, rfl⟩
theorem ft173_1 : FieldT Try.prog 173 1 1 3 := ⟨_, _, Try.underlying173, rfl, rfl, rfl⟩
theorem vt289 : VarT Try.prog 289 1 false := ⟨Try.isAgg289, Try.sizeOf289⟩
def en_uint8 : Int → List D := fun x => [D.v (.int .u8 x)]
theorem en_uint8_flat : ∀ a, ∀ d ∈ en_uint8 a, ∃ x, d = D.v x := by
  intro a d h
  simp only [en_uint8, List.mem_cons, List.not_mem_nil, or_false] at h
  rcases h with rfl <;> exact ⟨_, rfl⟩
def en_api_BookCard : Int × Int × Int × Int → List D := fun x => [D.v (.int .i64 x.1), D.v (.int .i64 x.2.1), D.v (.int .i64 x.2.2.1), D.v (.int .i64 x.2.2.2)]
theorem en_api_BookCard_flat : ∀ a, ∀ d ∈ en_api_BookCard a, ∃ x, d = D.v x := by
  intro a d h
  simp only [en_api_BookCard, List.mem_cons, List.not_mem_nil, or_false] at h
  rcases h with rfl | rfl | rfl | rfl <;> exact ⟨_, rfl⟩
theorem sl50 : SlT Try.prog 50 52 4 32 := ⟨Try.underlying50, ⟨Try.t52, _, by kernel_rfl, rfl, rfl, rfl, rfl⟩, by decide⟩
theorem sl56 : SlT Try.prog 56 5 1 1 := ⟨Try.underlying56, ⟨Try.t5, _, by kernel_rfl, rfl, rfl, rfl, rfl⟩, by decide⟩
theorem vt5 : VarT Try.prog 5 1 false := ⟨Try.isAgg5, Try.sizeOf5⟩
def en_api_RoundTower : Int × Int × Int × Int × Int → List D := fun x => [D.v (.int .i64 x.1), D.v (.int .i64 x.2.1), D.v (.int .u16 x.2.2.1), D.v (.int .i64 x.2.2.2.1), D.v (.int .i64 x.2.2.2.2)]
theorem en_api_RoundTower_flat : ∀ a, ∀ d ∈ en_api_RoundTower a, ∃ x, d = D.v x := by
  intro a d h
  simp only [en_api_RoundTower, List.mem_cons, List.not_mem_nil, or_false] at h
  rcases h with rfl | rfl | rfl | rfl | rfl <;> exact ⟨_, rfl⟩
def en_Lint : (List Int) → List D := fun x => [D.s 1 (List.map en_int x)]
def en_api_RoundWinder : Int × Int × Int × Int → List D := fun x => [D.v (.int .u16 x.1), D.v (.int .i64 x.2.1), D.v (.int .i64 x.2.2.1), D.v (.int .i64 x.2.2.2)]
theorem en_api_RoundWinder_flat : ∀ a, ∀ d ∈ en_api_RoundWinder a, ∃ x, d = D.v x := by
  intro a d h
  simp only [en_api_RoundWinder, List.mem_cons, List.not_mem_nil, or_false] at h
  rcases h with rfl | rfl | rfl | rfl <;> exact ⟨_, rfl⟩
theorem bt218 : ∀ parts, Try.prog.built 218 parts = Instr.fill (fun i => (#[(0, 1), (1, 1), (2, 1), (3, 1), (4, 1)] : Array (Nat × Nat))[i]?) (AV.denL (fun _ => undef) [.val (.int .i64 0), .val (.int .i64 0), .val (.int .u16 0), .val (.int .i64 0), .val (.int .i64 0)]).toArray parts := fun _ => by kernel_rfl
theorem sl70 : SlT Try.prog 70 218 5 40 := ⟨Try.underlying70, ⟨Try.t218, _, by kernel_rfl, rfl, rfl, rfl, rfl⟩, by decide⟩
theorem sl71 : SlT Try.prog 71 37 1 24 := ⟨Try.underlying71, ⟨Try.t37, _, by kernel_rfl, rfl, rfl, rfl, rfl⟩, by decide⟩
theorem bt213 : ∀ parts, Try.prog.built 213 parts = Instr.fill (fun i => (#[(0, 1), (1, 1), (2, 1), (3, 1)] : Array (Nat × Nat))[i]?) (AV.denL (fun _ => undef) [.val (.int .u16 0), .val (.int .i64 0), .val (.int .i64 0), .val (.int .i64 0)]).toArray parts := fun _ => by kernel_rfl
theorem sl72 : SlT Try.prog 72 213 4 32 := ⟨Try.underlying72, ⟨Try.t213, _, by kernel_rfl, rfl, rfl, rfl, rfl⟩, by decide⟩
theorem bt74 : ∀ parts, Try.prog.built 74 parts = Instr.fill (fun i => (#[(0, 1), (1, 1), (2, 1), (3, 1), (4, 1)] : Array (Nat × Nat))[i]?) (AV.denL (fun _ => undef) [.val (.slice none 0 0), .val (.slice none 0 0), .val (.slice none 0 0), .val (.int .i64 0), .val (.int .i64 0)]).toArray parts := fun _ => by kernel_rfl
theorem vt74 : VarT Try.prog 74 5 true := ⟨Try.isAgg74, Try.sizeOf74⟩
theorem ft74_0 : FieldT Try.prog 74 0 0 70 := ⟨_, _, Try.underlying74, rfl, rfl, rfl⟩
theorem vt70 : VarT Try.prog 70 1 false := ⟨Try.isAgg70, Try.sizeOf70⟩
theorem ft74_1 : FieldT Try.prog 74 1 1 71 := ⟨_, _, Try.underlying74, rfl, rfl, rfl⟩
theorem vt71 : VarT Try.prog 71 1 false := ⟨Try.isAgg71, Try.sizeOf71⟩
def fe_funcapi_RoundTower_bool : Int × Int × Int × Int × Int → List AV := fun a => [.agg [.val (.int .i64 a.1), .val (.int .i64 a.2.1), .val (.int .u16 a.2.2.1), .val (.int .i64 a.2.2.2.1), .val (.int .i64 a.2.2.2.2)]]
def fd_funcapi_RoundTower_bool : Bool → AV := fun b => .val (.bool b)
theorem ft218_0 : FieldT Try.prog 218 0 0 3 := ⟨_, _, Try.underlying218, rfl, rfl, rfl⟩
theorem ft218_1 : FieldT Try.prog 218 1 1 3 := ⟨_, _, Try.underlying218, rfl, rfl, rfl⟩
theorem ft218_3 : FieldT Try.prog 218 3 3 3 := ⟨_, _, Try.underlying218, rfl, rfl, rfl⟩
theorem ft218_4 : FieldT Try.prog 218 4 4 3 := ⟨_, _, Try.underlying218, rfl, rfl, rfl⟩
theorem vt218 : VarT Try.prog 218 5 true := ⟨Try.isAgg218, Try.sizeOf218⟩
theorem vt301 : VarT Try.prog 301 1 false := ⟨Try.isAgg301, Try.sizeOf301⟩
theorem ft74_2 : FieldT Try.prog 74 2 2 72 := ⟨_, _, Try.underlying74, rfl, rfl, rfl⟩
theorem vt72 : VarT Try.prog 72 1 false := ⟨Try.isAgg72, Try.sizeOf72⟩
def fe_funcapi_RoundWinder_bool : Int × Int × Int × Int → List AV := fun a => [.agg [.val (.int .u16 a.1), .val (.int .i64 a.2.1), .val (.int .i64 a.2.2.1), .val (.int .i64 a.2.2.2)]]
def fd_funcapi_RoundWinder_bool : Bool → AV := fun b => .val (.bool b)
theorem ft213_1 : FieldT Try.prog 213 1 1 3 := ⟨_, _, Try.underlying213, rfl, rfl, rfl⟩
theorem ft213_2 : FieldT Try.prog 213 2 2 3 := ⟨_, _, Try.underlying213, rfl, rfl, rfl⟩
theorem ft213_3 : FieldT Try.prog 213 3 3 3 := ⟨_, _, Try.underlying213, rfl, rfl, rfl⟩
theorem vt213 : VarT Try.prog 213 4 true := ⟨Try.isAgg213, Try.sizeOf213⟩
theorem vt304 : VarT Try.prog 304 1 false := ⟨Try.isAgg304, Try.sizeOf304⟩
theorem ft74_3 : FieldT Try.prog 74 3 3 3 := ⟨_, _, Try.underlying74, rfl, rfl, rfl⟩
theorem ft74_4 : FieldT Try.prog 74 4 4 3 := ⟨_, _, Try.underlying74, rfl, rfl, rfl⟩
theorem bt210 : ∀ parts, Try.prog.built 210 parts = Instr.fill (fun i => (#[(0, 1), (1, 1), (2, 1), (3, 1)] : Array (Nat × Nat))[i]?) (AV.denL (fun _ => undef) [.val (.int .i64 0), .val (.slice none 0 0), .val (.int .i64 0), .val (.bool false)]).toArray parts := fun _ => by kernel_rfl
theorem bt215 : ∀ parts, Try.prog.built 215 parts = Instr.fill (fun i => (#[(0, 5), (5, 4), (9, 1), (10, 1), (11, 1), (12, 1), (13, 1)] : Array (Nat × Nat))[i]?) (AV.denL (fun _ => undef) [.val (.slice none 0 0), .val (.slice none 0 0), .val (.slice none 0 0), .val (.int .i64 0), .val (.int .i64 0), .val (.int .u16 0), .val (.int .i64 0), .val (.int .i64 0), .val (.int .i64 0), .val (.int .i64 0), .val (.int .i64 0), .val (.int .i64 0), .val (.int .i64 0), .val (.int .i64 0)]).toArray parts := fun _ => by kernel_rfl
theorem vt215 : VarT Try.prog 215 14 true := ⟨Try.isAgg215, Try.sizeOf215⟩
theorem ft210_3 : FieldT Try.prog 210 3 3 4 := ⟨_, _, Try.underlying210, rfl, rfl, rfl⟩
theorem ft215_6 : FieldT Try.prog 215 6 13 3 := ⟨_, _, Try.underlying215, rfl, rfl, rfl⟩
theorem ft210_2 : FieldT Try.prog 210 2 2 3 := ⟨_, _, Try.underlying210, rfl, rfl, rfl⟩
theorem ft215_3 : FieldT Try.prog 215 3 10 205 := ⟨_, _, Try.underlying215, rfl, rfl, rfl⟩
theorem vt205 : VarT Try.prog 205 1 false := ⟨Try.isAgg205, Try.sizeOf205⟩
theorem ft210_0 : FieldT Try.prog 210 0 0 205 := ⟨_, _, Try.underlying210, rfl, rfl, rfl⟩
theorem ft215_0 : FieldT Try.prog 215 0 0 74 := ⟨_, _, Try.underlying215, rfl, rfl, rfl⟩
theorem ft215_2 : FieldT Try.prog 215 2 9 3 := ⟨_, _, Try.underlying215, rfl, rfl, rfl⟩
theorem ft215_5 : FieldT Try.prog 215 5 12 3 := ⟨_, _, Try.underlying215, rfl, rfl, rfl⟩
theorem ft215_1 : FieldT Try.prog 215 1 5 213 := ⟨_, _, Try.underlying215, rfl, rfl, rfl⟩
theorem ft210_1 : FieldT Try.prog 210 1 1 37 := ⟨_, _, Try.underlying210, rfl, rfl, rfl⟩
theorem ft215_4 : FieldT Try.prog 215 4 11 3 := ⟨_, _, Try.underlying215, rfl, rfl, rfl⟩
theorem ft218_2 : FieldT Try.prog 218 2 2 22 := ⟨_, _, Try.underlying218, rfl, rfl, rfl⟩
theorem vt22 : VarT Try.prog 22 1 false := ⟨Try.isAgg22, Try.sizeOf22⟩
theorem ft213_0 : FieldT Try.prog 213 0 0 22 := ⟨_, _, Try.underlying213, rfl, rfl, rfl⟩
theorem bt79 : ∀ parts, Try.prog.built 79 parts = Instr.fill (fun i => (#[(0, 1), (1, 1)] : Array (Nat × Nat))[i]?) (AV.denL (fun _ => undef) [.val (.int .i64 0), .val (.slice none 0 0)]).toArray parts := fun _ => by kernel_rfl
theorem ft79_0 : FieldT Try.prog 79 0 0 3 := ⟨_, _, Try.underlying79, rfl, rfl, rfl⟩
theorem ft79_1 : FieldT Try.prog 79 1 1 37 := ⟨_, _, Try.underlying79, rfl, rfl, rfl⟩
theorem bt52 : ∀ parts, Try.prog.built 52 parts = Instr.fill (fun i => (#[(0, 1), (1, 1), (2, 1), (3, 1)] : Array (Nat × Nat))[i]?) (AV.denL (fun _ => undef) [.val (.int .i64 0), .val (.int .i64 0), .val (.int .i64 0), .val (.int .i64 0)]).toArray parts := fun _ => by kernel_rfl
theorem vt52 : VarT Try.prog 52 4 true := ⟨Try.isAgg52, Try.sizeOf52⟩
def mk186 : Int → Value := fun k => .int .i64 k
theorem km186 : MKey Try.prog 186 3 52 mk186 := mkey_int Try.underlying186 Try.underlying3
theorem ft52_0 : FieldT Try.prog 52 0 0 3 := ⟨_, _, Try.underlying52, rfl, rfl, rfl⟩
theorem ft52_1 : FieldT Try.prog 52 1 1 3 := ⟨_, _, Try.underlying52, rfl, rfl, rfl⟩
theorem ft52_2 : FieldT Try.prog 52 2 2 3 := ⟨_, _, Try.underlying52, rfl, rfl, rfl⟩
theorem ft52_3 : FieldT Try.prog 52 3 3 3 := ⟨_, _, Try.underlying52, rfl, rfl, rfl⟩
theorem eq52 (a0 : Int) (a1 : Int) (a2 : Int) (a3 : Int) (b0 : Int) (b1 : Int) (b2 : Int) (b3 : Int) : EqT Try.prog 52 [.int .i64 a0, .int .i64 a1, .int .i64 a2, .int .i64 a3] [.int .i64 b0, .int .i64 b1, .int .i64 b2, .int .i64 b3] (((a0 == b0) && ((a1 == b1) && ((a2 == b2) && (a3 == b3))))) := ⟨Try.eqGuardType52, fun w => by
  simp [go_sem, Try.underlying52, Try.underlying3, Try.isAgg52, Try.isAgg3, Try.sizeOf52, Try.sizeOf3, Try.stoodInHeld52]
  (repeat' split) <;> simp_all⟩
theorem bt35 : ∀ parts, Try.prog.built 35 parts = Instr.fill (fun i => (#[(0, 1), (1, 1), (2, 1)] : Array (Nat × Nat))[i]?) (AV.denL (fun _ => undef) [.val (.int .i64 0), .val (.int .i64 0), .val (.int .i64 0)]).toArray parts := fun _ => by kernel_rfl
theorem sl36 : SlT Try.prog 36 35 3 24 := ⟨Try.underlying36, ⟨Try.t35, _, by kernel_rfl, rfl, rfl, rfl, rfl⟩, by decide⟩
/- slices_IndexFunc_Lint_int -/
def ev_slices_IndexFunc_Lint_int_l0 (n : Nat) (s1 : List Int) (f2 : Int → Option Bool) : Nat → Int → Option Int
  | 0, _ => none
  | m + 1, i3 => cond (decide (i3 < (s1.length : Int))) (idx s1 i3 fun x4 => (f2 x4).bind fun r5 => cond r5 (some i3) (chk (in64 (i3 + 1)) <| ev_slices_IndexFunc_Lint_int_l0 n s1 f2 m (i3 + 1))) (some (-1))
set_option maxRecDepth 100000 in
set_option maxHeartbeats 2000000 in
theorem ok_slices_IndexFunc_Lint_int_l0 {n : Nat} {w0 : World} {R0 : Nat → Prop} {env0 : Env} {r : Int} {s1 : List Int} {f2 : Int → Option Bool} : ∀ (m : Nat) (i3 : Int), ev_slices_IndexFunc_Lint_int_l0 n s1 f2 m i3 = some r → TC Try.prog ⟨w0, fun _ => False, R0⟩ 19 (bodyPost Try.prog Try.f229 (Post ⟨w0, fun _ => False, R0⟩ env0 (.val (.int .i64 r)) [])) [.code (sub (bodyOf Try.f229) [1, 0, 1, 0, 0, 0]), .code (sub (bodyOf Try.f229) [1, 0, 1, 0, 0, 1]), .inLoop (sub (bodyOf Try.f229) [1, 0, 1, 0, 0]), .inBlock 0, .code (sub (bodyOf Try.f229) [1, 1])] ([(0, .ref 0), (1, .ref 1), (7, .val (.int .i64 (s1.length : Int))), (8, .val (.int .i64 i3))]) ([.ro 0 1 (List.map en_int s1), .any 1 (D.fn Try.prog fe_funcint_bool fd_funcint_bool f2)]) := by
  intro m
  induction m with
  | zero => intro i3 h; exact none_no h
  | succ m ih =>
    intro i3 h
    rw [ev_slices_IndexFunc_Lint_int_l0] at h
    refine TC.region ?_
    refine op0 (sp_lss rfl rfl rfl) rfl trivial rfl rfl ?_
    refine TL.nil ?_
    refine TC.seq ?_
    refine TC.cond (b := (decide (i3 < (s1.length : Int)))) rfl (fun h1 => ?_) (fun h1 => ?_)
    · have h := cond_t h h1
      refine TC.skip ?_
      refine TC.seq ?_
      refine TC.block ?_
      refine TC.seq ?_
      refine TC.region ?_
      refine op0 (sp_move rfl rfl) rfl trivial rfl rfl ?_
      refine op0 (sp_assign rfl rfl) rfl trivial rfl rfl ?_
      refine TL.nil ?_
      refine TC.seq ?_
      refine TC.region ?_
      refine op0 (sp_move rfl rfl) rfl trivial rfl rfl ?_
      refine op0 (sp_move rfl rfl) rfl trivial rfl rfl ?_
      refine op0 (sp_move rfl rfl) rfl trivial rfl rfl ?_
      obtain ⟨x4, h2, h3, h⟩ := idx_inv h
      refine op1 0 rfl (sp_indexS rfl rfl rfl isRo sl37 h2 (map_get _ h3)) rfl trivial rfl rfl ?_
      refine op1 0 rfl (sp_loadR (i := (i3 : Int).toNat) (j := 0) rfl rfl isRo vt3 rfl (map_get _ h3) rfl (.v (.nil)) (nodup_of_B rfl)) rfl trivial rfl rfl ?_
      obtain ⟨r5, h4, h⟩ := bind_inv h
      refine op1 1 rfl (sp_callF (avs := [.val (.int .i64 x4)]) (v := .val (.bool r5)) x4 rfl rfl rfl rfl rfl h4) rfl trivial rfl rfl ?_
      refine TL.nil ?_
      refine TC.cond (b := r5) rfl (fun h5 => ?_) (fun h5 => ?_)
      · have h := cond_t h h5
        refine TC.seq ?_
        refine TC.region ?_
        refine op0 (sp_move rfl rfl) rfl trivial rfl rfl ?_
        refine op0 (sp_assign rfl rfl) rfl trivial rfl rfl ?_
        refine TL.nil ?_
        cases h
        exact retJ [] (.tmp rfl .nil) rfl trivial rfl rfl
      · have h := cond_f h h5
        refine TC.skip ?_
        refine TC.inBlock ?_
        refine TC.region ?_
        obtain ⟨h6, h⟩ := chk_inv h
        refine op0 (sp_add rfl rfl rfl h6) rfl trivial rfl rfl ?_
        refine op0 (sp_move rfl rfl) rfl trivial rfl rfl ?_
        refine TL.nil ?_
        refine TC.inLoop ?_
        refine TC.seq ?_
        refine subJ [] (ih _ h) ?_ ?_ ?_
        · exact ⟨rfl, rfl, rfl, rfl, trivial⟩
        · exact ⟨mem_at 0 rfl, mem_at 1 rfl, trivial⟩
        · rfl
    · have h := cond_f h h1
      refine TC.exit rfl ?_
      refine TC.seq ?_
      refine TC.region ?_
      refine op0 (sp_assign rfl rfl) rfl trivial rfl rfl ?_
      refine TL.nil ?_
      cases h
      exact retJ [] (.tmp rfl .nil) rfl trivial rfl rfl
def ev_slices_IndexFunc_Lint_int (n : Nat) (s1 : List Int) (f2 : Int → Option Bool) : Option Int :=
  ev_slices_IndexFunc_Lint_int_l0 n s1 f2 n 0
set_option maxRecDepth 100000 in
set_option maxHeartbeats 2000000 in
theorem fc_slices_IndexFunc_Lint_int {n : Nat} {s1 : List Int} {f2 : Int → Option Bool} {r : Int} (h : ev_slices_IndexFunc_Lint_int n s1 f2 = some r) : FC Try.prog 229 [.ref 0, .ref 1] [.ro 0 1 (List.map en_int s1), .any 1 (D.fn Try.prog fe_funcint_bool fd_funcint_bool f2)] (.val (.int .i64 r)) [] := by
  refine introJ (nz := 19) Try.func229 rfl rfl rfl (fun w0 R0 env0 => ?_)
  rw [ev_slices_IndexFunc_Lint_int] at h
  refine TC.seq ?_
  refine TC.region ?_
  refine op0 (sp_assign rfl rfl) rfl trivial rfl rfl ?_
  refine TL.nil ?_
  refine TC.seq ?_
  refine TC.seq ?_
  refine TC.region ?_
  refine op0 (sp_move rfl rfl) rfl trivial rfl rfl ?_
  refine op1 0 rfl (sp_lenM (N := s1.length) (len_map _ _) rfl rfl isRo Try.underlying37) rfl trivial rfl rfl ?_
  refine op0 (sp_move rfl rfl) rfl trivial rfl rfl ?_
  refine TL.nil ?_
  refine TC.block ?_
  refine TC.loop ?_
  refine TC.seq ?_
  refine subJ [] (ok_slices_IndexFunc_Lint_int_l0 _ _ h) ?_ ?_ ?_
  · exact ⟨rfl, rfl, rfl, rfl, trivial⟩
  · exact ⟨mem_at 0 rfl, mem_at 1 rfl, trivial⟩
  · rfl
/- slices_ContainsFunc_Lint_int -/
def ev_slices_ContainsFunc_Lint_int (n : Nat) (s1 : List Int) (f2 : Int → Option Bool) : Option Bool :=
  (ev_slices_IndexFunc_Lint_int n s1 f2).bind fun r3 => some (decide ((0 : Int) ≤ r3))
set_option maxRecDepth 100000 in
set_option maxHeartbeats 2000000 in
theorem fc_slices_ContainsFunc_Lint_int {n : Nat} {s1 : List Int} {f2 : Int → Option Bool} {r : Bool} (h : ev_slices_ContainsFunc_Lint_int n s1 f2 = some r) : FC Try.prog 133 [.ref 0, .ref 1] [.ro 0 1 (List.map en_int s1), .any 1 (D.fn Try.prog fe_funcint_bool fd_funcint_bool f2)] (.val (.bool r)) [] := by
  refine introJ (nz := 9) Try.func133 rfl rfl rfl (fun w0 R0 env0 => ?_)
  rw [ev_slices_ContainsFunc_Lint_int] at h
  refine TC.seq ?_
  refine TC.region ?_
  refine op0 (sp_assign rfl rfl) rfl trivial rfl rfl ?_
  refine TL.nil ?_
  refine TC.seq ?_
  refine TC.region ?_
  refine op0 (sp_move rfl rfl) rfl trivial rfl rfl ?_
  refine op0 (sp_move rfl rfl) rfl trivial rfl rfl ?_
  obtain ⟨r3, h1, h⟩ := bind_inv h
  refine opN (need := [.ro 0 1 (List.map en_int s1), .any 1 (D.fn Try.prog fe_funcint_bool fd_funcint_bool f2)]) [0, 1] ⟨rfl, rfl, trivial⟩ (sp_call (avs := [.ref 0, .ref 1]) (need := [.ro 0 1 (List.map en_int s1), .any 1 (D.fn Try.prog fe_funcint_bool fd_funcint_bool f2)]) (v := .val (.int .i64 r3)) (news := []) rfl rfl rfl Try.call229 (atJ [] [] (fc_slices_IndexFunc_Lint_int h1) rfl rfl) (.inl (roAll rfl))) rfl trivial rfl rfl ?_
  refine op0 (sp_geq rfl rfl rfl) rfl trivial rfl rfl ?_
  refine op0 (sp_assign rfl rfl) rfl trivial rfl rfl ?_
  refine TL.nil ?_
  cases h
  exact retJ [] (.tmp rfl .nil) rfl trivial rfl rfl
/- top_pubTown -/
def ev_top_pubTown (n : Nat) : Option ((List (Int × Int × Int × Int × Int)) × (List ((List Int))) × (List (Int × Int × Int × Int)) × Int × Int) :=
  some (([(10, 20, 1, 5, 8), (5, 15, 2, 3, 2)] : List (Int × Int × Int × Int × Int)), ([([0, 30, 10] : List Int), ([30, 0, 25] : List Int), ([10, 25, 0] : List Int)] : List ((List Int))), ([(3, 10, 200, 100), (2, 3, 100, 45)] : List (Int × Int × Int × Int)), 15, 2)
set_option maxRecDepth 100000 in
set_option maxHeartbeats 2000000 in
theorem fc_top_pubTown {n : Nat}  {r : (List (Int × Int × Int × Int × Int)) × (List ((List Int))) × (List (Int × Int × Int × Int)) × Int × Int} (h : ev_top_pubTown n = some r) : FC Try.prog 26 [] [] (.agg [.ref 0, .ref 1, .ref 2, .val (.int .i64 r.2.2.2.1), .val (.int .i64 r.2.2.2.2)]) [.row 0 218 5 (List.map en_api_RoundTower r.1), .row 1 37 1 (List.map en_Lint r.2.1), .row 2 213 4 (List.map en_api_RoundWinder r.2.2.1)] := by
  refine introJ (nz := 12) Try.func26 rfl rfl rfl (fun w0 R0 env0 => ?_)
  rw [ev_top_pubTown] at h
  refine TC.seq ?_
  refine TC.region ?_
  refine op0 (sp_alloc 0 rfl Try.zeroValue74 rfl) rfl trivial rfl rfl ?_
  refine TL.nil ?_
  refine TC.seq ?_
  refine TC.region ?_
  refine op0 (sp_build (qs := [(0, .val (.int .i64 10)), (1, .val (.int .i64 20)), (2, .val (.int .u16 1)), (3, .val (.int .i64 5)), (4, .val (.int .i64 8))]) rfl bt218 rfl rfl rfl rfl) rfl trivial rfl rfl ?_
  refine op0 (sp_build (qs := [(0, .val (.int .i64 5)), (1, .val (.int .i64 15)), (2, .val (.int .u16 2)), (3, .val (.int .i64 3)), (4, .val (.int .i64 2))]) rfl bt218 rfl rfl rfl rfl) rfl trivial rfl rfl ?_
  refine op0 (sp_buildSlice (qs := [.agg [.val (.int .i64 10), .val (.int .i64 20), .val (.int .u16 1), .val (.int .i64 5), .val (.int .i64 8)], .agg [.val (.int .i64 5), .val (.int .i64 15), .val (.int .u16 2), .val (.int .i64 3), .val (.int .i64 2)]]) (need := []) (els := List.map en_api_RoundTower ([(10, 20, 1, 5, 8), (5, 15, 2, 3, 2)] : List (Int × Int × Int × Int × Int))) 1 rfl sl70 (by decide) (by decide) rfl rfl rfl (.v (.v (.v (.v (.v (.v (.v (.v (.v (.v (.nil))))))))))) (map_len fun _ => rfl) rfl rfl rfl) rfl trivial rfl rfl ?_
  refine op0 (sp_buildSlice (qs := [.val (.int .i64 0), .val (.int .i64 30), .val (.int .i64 10)]) (need := []) (els := List.map en_int ([0, 30, 10] : List Int)) 2 rfl sl37 (by decide) (by decide) rfl rfl rfl (.v (.v (.v (.nil)))) (map_len fun _ => rfl) rfl rfl rfl) rfl trivial rfl rfl ?_
  refine op0 (sp_buildSlice (qs := [.val (.int .i64 30), .val (.int .i64 0), .val (.int .i64 25)]) (need := []) (els := List.map en_int ([30, 0, 25] : List Int)) 3 rfl sl37 (by decide) (by decide) rfl rfl rfl (.v (.v (.v (.nil)))) (map_len fun _ => rfl) rfl rfl rfl) rfl trivial rfl rfl ?_
  refine op0 (sp_buildSlice (qs := [.val (.int .i64 10), .val (.int .i64 25), .val (.int .i64 0)]) (need := []) (els := List.map en_int ([10, 25, 0] : List Int)) 4 rfl sl37 (by decide) (by decide) rfl rfl rfl (.v (.v (.v (.nil)))) (map_len fun _ => rfl) rfl rfl rfl) rfl trivial rfl rfl ?_
  refine TL.freeze 2 rfl ?_
  refine TL.freeze 1 rfl ?_
  refine TL.freeze 0 rfl ?_
  refine opN (need := [.ro 2 1 (List.map en_int ([0, 30, 10] : List Int)), .ro 3 1 (List.map en_int ([30, 0, 25] : List Int)), .ro 4 1 (List.map en_int ([10, 25, 0] : List Int))]) [2, 1, 0] ⟨rfl, rfl, rfl, trivial⟩ (sp_buildSlice (qs := [.ref 2, .ref 3, .ref 4]) (need := [.ro 2 1 (List.map en_int ([0, 30, 10] : List Int)), .ro 3 1 (List.map en_int ([30, 0, 25] : List Int)), .ro 4 1 (List.map en_int ([10, 25, 0] : List Int))]) (els := List.map en_Lint ([([0, 30, 10] : List Int), ([30, 0, 25] : List Int), ([10, 25, 0] : List Int)] : List ((List Int)))) 5 rfl sl71 (by decide) (by decide) rfl rfl rfl (.s (mem_at 0 rfl) (.s (mem_at 1 rfl) (.s (mem_at 2 rfl) (.nil)))) (map_len fun _ => rfl) rfl rfl rfl) rfl trivial rfl rfl ?_
  refine op0 (sp_build (qs := [(0, .val (.int .u16 3)), (1, .val (.int .i64 10)), (2, .val (.int .i64 200)), (3, .val (.int .i64 100))]) rfl bt213 rfl rfl rfl rfl) rfl trivial rfl rfl ?_
  refine op0 (sp_build (qs := [(0, .val (.int .u16 2)), (1, .val (.int .i64 3)), (2, .val (.int .i64 100)), (3, .val (.int .i64 45))]) rfl bt213 rfl rfl rfl rfl) rfl trivial rfl rfl ?_
  refine op0 (sp_buildSlice (qs := [.agg [.val (.int .u16 3), .val (.int .i64 10), .val (.int .i64 200), .val (.int .i64 100)], .agg [.val (.int .u16 2), .val (.int .i64 3), .val (.int .i64 100), .val (.int .i64 45)]]) (need := []) (els := List.map en_api_RoundWinder ([(3, 10, 200, 100), (2, 3, 100, 45)] : List (Int × Int × Int × Int))) 6 rfl sl72 (by decide) (by decide) rfl rfl rfl (.v (.v (.v (.v (.v (.v (.v (.v (.nil))))))))) (map_len fun _ => rfl) rfl rfl rfl) rfl trivial rfl rfl ?_
  refine op0 (sp_build (qs := [(0, .ref 1), (1, .ref 5), (2, .ref 6), (3, .val (.int .i64 15)), (4, .val (.int .i64 2))]) rfl bt74 rfl rfl rfl rfl) rfl trivial rfl rfl ?_
  refine stoB 6 (cells' := [.ref 1, .ref 5, .ref 6, .val (.int .i64 15), .val (.int .i64 2)]) rfl rfl trivial rfl rfl rfl rfl vt74 rfl rfl rfl ?_
  refine TL.nil ?_
  cases h
  exact retJ [(0, 1), (1, 5), (2, 6)] (.cells rfl (mem_at 6 rfl) isBlk vt74 rfl rfl (.nil)) rfl ⟨mem_at 5 rfl, mem_at 1 rfl, mem_at 0 rfl, trivial⟩ rfl rfl
/- slices_IndexFunc_Lapi_RoundTower_api_RoundTower -/
def ev_slices_IndexFunc_Lapi_RoundTower_api_RoundTower_l0 (n : Nat) (s1 : List (Int × Int × Int × Int × Int)) (f2 : (Int × Int × Int × Int × Int) → Option Bool) : Nat → Int → Option Int
  | 0, _ => none
  | m + 1, i3 => cond (decide (i3 < (s1.length : Int))) (idx s1 i3 fun x4 => (f2 (x4.1, x4.2.1, x4.2.2.1, x4.2.2.2.1, x4.2.2.2.2)).bind fun r5 => cond r5 (some i3) (chk (in64 (i3 + 1)) <| ev_slices_IndexFunc_Lapi_RoundTower_api_RoundTower_l0 n s1 f2 m (i3 + 1))) (some (-1))
set_option maxRecDepth 100000 in
set_option maxHeartbeats 2000000 in
theorem ok_slices_IndexFunc_Lapi_RoundTower_api_RoundTower_l0 {n : Nat} {w0 : World} {R0 : Nat → Prop} {env0 : Env} {r : Int} {s1 : List (Int × Int × Int × Int × Int)} {f2 : (Int × Int × Int × Int × Int) → Option Bool} : ∀ (m : Nat) (i3 : Int), ev_slices_IndexFunc_Lapi_RoundTower_api_RoundTower_l0 n s1 f2 m i3 = some r → TC Try.prog ⟨w0, fun _ => False, R0⟩ 19 (bodyPost Try.prog Try.f239 (Post ⟨w0, fun _ => False, R0⟩ env0 (.val (.int .i64 r)) [])) [.code (sub (bodyOf Try.f239) [1, 0, 1, 0, 0, 0]), .code (sub (bodyOf Try.f239) [1, 0, 1, 0, 0, 1]), .inLoop (sub (bodyOf Try.f239) [1, 0, 1, 0, 0]), .inBlock 0, .code (sub (bodyOf Try.f239) [1, 1])] ([(0, .ref 0), (1, .ref 1), (7, .val (.int .i64 (s1.length : Int))), (8, .val (.int .i64 i3))]) ([.ro 0 5 (List.map en_api_RoundTower s1), .any 1 (D.fn Try.prog fe_funcapi_RoundTower_bool fd_funcapi_RoundTower_bool f2)]) := by
  intro m
  induction m with
  | zero => intro i3 h; exact none_no h
  | succ m ih =>
    intro i3 h
    rw [ev_slices_IndexFunc_Lapi_RoundTower_api_RoundTower_l0] at h
    refine TC.region ?_
    refine op0 (sp_lss rfl rfl rfl) rfl trivial rfl rfl ?_
    refine TL.nil ?_
    refine TC.seq ?_
    refine TC.cond (b := (decide (i3 < (s1.length : Int)))) rfl (fun h1 => ?_) (fun h1 => ?_)
    · have h := cond_t h h1
      refine TC.skip ?_
      refine TC.seq ?_
      refine TC.block ?_
      refine TC.seq ?_
      refine TC.region ?_
      refine op0 (sp_move rfl rfl) rfl trivial rfl rfl ?_
      refine op0 (sp_assign rfl rfl) rfl trivial rfl rfl ?_
      refine TL.nil ?_
      refine TC.seq ?_
      refine TC.region ?_
      refine op0 (sp_move rfl rfl) rfl trivial rfl rfl ?_
      refine op0 (sp_move rfl rfl) rfl trivial rfl rfl ?_
      refine op0 (sp_move rfl rfl) rfl trivial rfl rfl ?_
      obtain ⟨x4, h2, h3, h⟩ := idx_inv h
      refine op1 0 rfl (sp_indexS rfl rfl rfl isRo sl70 h2 (map_get _ h3)) rfl trivial rfl rfl ?_
      refine op1 0 rfl (sp_loadRA (i := (i3 : Int).toNat) (j := 0) (as_ := [.val (.int .i64 x4.1), .val (.int .i64 x4.2.1), .val (.int .u16 x4.2.2.1), .val (.int .i64 x4.2.2.2.1), .val (.int .i64 x4.2.2.2.2)]) (ns := []) rfl rfl isRo vt218 rfl (map_get _ h3) rfl rfl (by decide) (.v (.v (.v (.v (.v (.nil)))))) (nodup_of_B rfl)) rfl trivial rfl rfl ?_
      obtain ⟨r5, h4, h⟩ := bind_inv h
      refine op1 1 rfl (sp_callF (avs := [.agg [.val (.int .i64 x4.1), .val (.int .i64 x4.2.1), .val (.int .u16 x4.2.2.1), .val (.int .i64 x4.2.2.2.1), .val (.int .i64 x4.2.2.2.2)]]) (v := .val (.bool r5)) (x4.1, x4.2.1, x4.2.2.1, x4.2.2.2.1, x4.2.2.2.2) rfl rfl rfl rfl rfl h4) rfl trivial rfl rfl ?_
      refine TL.nil ?_
      refine TC.cond (b := r5) rfl (fun h5 => ?_) (fun h5 => ?_)
      · have h := cond_t h h5
        refine TC.seq ?_
        refine TC.region ?_
        refine op0 (sp_move rfl rfl) rfl trivial rfl rfl ?_
        refine op0 (sp_assign rfl rfl) rfl trivial rfl rfl ?_
        refine TL.nil ?_
        cases h
        exact retJ [] (.tmp rfl .nil) rfl trivial rfl rfl
      · have h := cond_f h h5
        refine TC.skip ?_
        refine TC.inBlock ?_
        refine TC.region ?_
        obtain ⟨h6, h⟩ := chk_inv h
        refine op0 (sp_add rfl rfl rfl h6) rfl trivial rfl rfl ?_
        refine op0 (sp_move rfl rfl) rfl trivial rfl rfl ?_
        refine TL.nil ?_
        refine TC.inLoop ?_
        refine TC.seq ?_
        refine subJ [] (ih _ h) ?_ ?_ ?_
        · exact ⟨rfl, rfl, rfl, rfl, trivial⟩
        · exact ⟨mem_at 0 rfl, mem_at 1 rfl, trivial⟩
        · rfl
    · have h := cond_f h h1
      refine TC.exit rfl ?_
      refine TC.seq ?_
      refine TC.region ?_
      refine op0 (sp_assign rfl rfl) rfl trivial rfl rfl ?_
      refine TL.nil ?_
      cases h
      exact retJ [] (.tmp rfl .nil) rfl trivial rfl rfl
def ev_slices_IndexFunc_Lapi_RoundTower_api_RoundTower (n : Nat) (s1 : List (Int × Int × Int × Int × Int)) (f2 : (Int × Int × Int × Int × Int) → Option Bool) : Option Int :=
  ev_slices_IndexFunc_Lapi_RoundTower_api_RoundTower_l0 n s1 f2 n 0
set_option maxRecDepth 100000 in
set_option maxHeartbeats 2000000 in
theorem fc_slices_IndexFunc_Lapi_RoundTower_api_RoundTower {n : Nat} {s1 : List (Int × Int × Int × Int × Int)} {f2 : (Int × Int × Int × Int × Int) → Option Bool} {r : Int} (h : ev_slices_IndexFunc_Lapi_RoundTower_api_RoundTower n s1 f2 = some r) : FC Try.prog 239 [.ref 0, .ref 1] [.ro 0 5 (List.map en_api_RoundTower s1), .any 1 (D.fn Try.prog fe_funcapi_RoundTower_bool fd_funcapi_RoundTower_bool f2)] (.val (.int .i64 r)) [] := by
  refine introJ (nz := 19) Try.func239 rfl rfl rfl (fun w0 R0 env0 => ?_)
  rw [ev_slices_IndexFunc_Lapi_RoundTower_api_RoundTower] at h
  refine TC.seq ?_
  refine TC.region ?_
  refine op0 (sp_assign rfl rfl) rfl trivial rfl rfl ?_
  refine TL.nil ?_
  refine TC.seq ?_
  refine TC.seq ?_
  refine TC.region ?_
  refine op0 (sp_move rfl rfl) rfl trivial rfl rfl ?_
  refine op1 0 rfl (sp_lenM (N := s1.length) (len_map _ _) rfl rfl isRo Try.underlying70) rfl trivial rfl rfl ?_
  refine op0 (sp_move rfl rfl) rfl trivial rfl rfl ?_
  refine TL.nil ?_
  refine TC.block ?_
  refine TC.loop ?_
  refine TC.seq ?_
  refine subJ [] (ok_slices_IndexFunc_Lapi_RoundTower_api_RoundTower_l0 _ _ h) ?_ ?_ ?_
  · exact ⟨rfl, rfl, rfl, rfl, trivial⟩
  · exact ⟨mem_at 0 rfl, mem_at 1 rfl, trivial⟩
  · rfl
/- slices_ContainsFunc_Lapi_RoundTower_api_RoundTower -/
def ev_slices_ContainsFunc_Lapi_RoundTower_api_RoundTower (n : Nat) (s1 : List (Int × Int × Int × Int × Int)) (f2 : (Int × Int × Int × Int × Int) → Option Bool) : Option Bool :=
  (ev_slices_IndexFunc_Lapi_RoundTower_api_RoundTower n s1 f2).bind fun r3 => some (decide ((0 : Int) ≤ r3))
set_option maxRecDepth 100000 in
set_option maxHeartbeats 2000000 in
theorem fc_slices_ContainsFunc_Lapi_RoundTower_api_RoundTower {n : Nat} {s1 : List (Int × Int × Int × Int × Int)} {f2 : (Int × Int × Int × Int × Int) → Option Bool} {r : Bool} (h : ev_slices_ContainsFunc_Lapi_RoundTower_api_RoundTower n s1 f2 = some r) : FC Try.prog 154 [.ref 0, .ref 1] [.ro 0 5 (List.map en_api_RoundTower s1), .any 1 (D.fn Try.prog fe_funcapi_RoundTower_bool fd_funcapi_RoundTower_bool f2)] (.val (.bool r)) [] := by
  refine introJ (nz := 9) Try.func154 rfl rfl rfl (fun w0 R0 env0 => ?_)
  rw [ev_slices_ContainsFunc_Lapi_RoundTower_api_RoundTower] at h
  refine TC.seq ?_
  refine TC.region ?_
  refine op0 (sp_assign rfl rfl) rfl trivial rfl rfl ?_
  refine TL.nil ?_
  refine TC.seq ?_
  refine TC.region ?_
  refine op0 (sp_move rfl rfl) rfl trivial rfl rfl ?_
  refine op0 (sp_move rfl rfl) rfl trivial rfl rfl ?_
  obtain ⟨r3, h1, h⟩ := bind_inv h
  refine opN (need := [.ro 0 5 (List.map en_api_RoundTower s1), .any 1 (D.fn Try.prog fe_funcapi_RoundTower_bool fd_funcapi_RoundTower_bool f2)]) [0, 1] ⟨rfl, rfl, trivial⟩ (sp_call (avs := [.ref 0, .ref 1]) (need := [.ro 0 5 (List.map en_api_RoundTower s1), .any 1 (D.fn Try.prog fe_funcapi_RoundTower_bool fd_funcapi_RoundTower_bool f2)]) (v := .val (.int .i64 r3)) (news := []) rfl rfl rfl Try.call239 (atJ [] [] (fc_slices_IndexFunc_Lapi_RoundTower_api_RoundTower h1) rfl rfl) (.inl (roAll rfl))) rfl trivial rfl rfl ?_
  refine op0 (sp_geq rfl rfl rfl) rfl trivial rfl rfl ?_
  refine op0 (sp_assign rfl rfl) rfl trivial rfl rfl ?_
  refine TL.nil ?_
  cases h
  exact retJ [] (.tmp rfl .nil) rfl trivial rfl rfl
/- slices_IndexFunc_Lapi_RoundWinder_api_RoundWinder -/
def ev_slices_IndexFunc_Lapi_RoundWinder_api_RoundWinder_l0 (n : Nat) (s1 : List (Int × Int × Int × Int)) (f2 : (Int × Int × Int × Int) → Option Bool) : Nat → Int → Option Int
  | 0, _ => none
  | m + 1, i3 => cond (decide (i3 < (s1.length : Int))) (idx s1 i3 fun x4 => (f2 (x4.1, x4.2.1, x4.2.2.1, x4.2.2.2)).bind fun r5 => cond r5 (some i3) (chk (in64 (i3 + 1)) <| ev_slices_IndexFunc_Lapi_RoundWinder_api_RoundWinder_l0 n s1 f2 m (i3 + 1))) (some (-1))
set_option maxRecDepth 100000 in
set_option maxHeartbeats 2000000 in
theorem ok_slices_IndexFunc_Lapi_RoundWinder_api_RoundWinder_l0 {n : Nat} {w0 : World} {R0 : Nat → Prop} {env0 : Env} {r : Int} {s1 : List (Int × Int × Int × Int)} {f2 : (Int × Int × Int × Int) → Option Bool} : ∀ (m : Nat) (i3 : Int), ev_slices_IndexFunc_Lapi_RoundWinder_api_RoundWinder_l0 n s1 f2 m i3 = some r → TC Try.prog ⟨w0, fun _ => False, R0⟩ 19 (bodyPost Try.prog Try.f241 (Post ⟨w0, fun _ => False, R0⟩ env0 (.val (.int .i64 r)) [])) [.code (sub (bodyOf Try.f241) [1, 0, 1, 0, 0, 0]), .code (sub (bodyOf Try.f241) [1, 0, 1, 0, 0, 1]), .inLoop (sub (bodyOf Try.f241) [1, 0, 1, 0, 0]), .inBlock 0, .code (sub (bodyOf Try.f241) [1, 1])] ([(0, .ref 0), (1, .ref 1), (7, .val (.int .i64 (s1.length : Int))), (8, .val (.int .i64 i3))]) ([.ro 0 4 (List.map en_api_RoundWinder s1), .any 1 (D.fn Try.prog fe_funcapi_RoundWinder_bool fd_funcapi_RoundWinder_bool f2)]) := by
  intro m
  induction m with
  | zero => intro i3 h; exact none_no h
  | succ m ih =>
    intro i3 h
    rw [ev_slices_IndexFunc_Lapi_RoundWinder_api_RoundWinder_l0] at h
    refine TC.region ?_
    refine op0 (sp_lss rfl rfl rfl) rfl trivial rfl rfl ?_
    refine TL.nil ?_
    refine TC.seq ?_
    refine TC.cond (b := (decide (i3 < (s1.length : Int)))) rfl (fun h1 => ?_) (fun h1 => ?_)
    · have h := cond_t h h1
      refine TC.skip ?_
      refine TC.seq ?_
      refine TC.block ?_
      refine TC.seq ?_
      refine TC.region ?_
      refine op0 (sp_move rfl rfl) rfl trivial rfl rfl ?_
      refine op0 (sp_assign rfl rfl) rfl trivial rfl rfl ?_
      refine TL.nil ?_
      refine TC.seq ?_
      refine TC.region ?_
      refine op0 (sp_move rfl rfl) rfl trivial rfl rfl ?_
      refine op0 (sp_move rfl rfl) rfl trivial rfl rfl ?_
      refine op0 (sp_move rfl rfl) rfl trivial rfl rfl ?_
      obtain ⟨x4, h2, h3, h⟩ := idx_inv h
      refine op1 0 rfl (sp_indexS rfl rfl rfl isRo sl72 h2 (map_get _ h3)) rfl trivial rfl rfl ?_
      refine op1 0 rfl (sp_loadRA (i := (i3 : Int).toNat) (j := 0) (as_ := [.val (.int .u16 x4.1), .val (.int .i64 x4.2.1), .val (.int .i64 x4.2.2.1), .val (.int .i64 x4.2.2.2)]) (ns := []) rfl rfl isRo vt213 rfl (map_get _ h3) rfl rfl (by decide) (.v (.v (.v (.v (.nil))))) (nodup_of_B rfl)) rfl trivial rfl rfl ?_
      obtain ⟨r5, h4, h⟩ := bind_inv h
      refine op1 1 rfl (sp_callF (avs := [.agg [.val (.int .u16 x4.1), .val (.int .i64 x4.2.1), .val (.int .i64 x4.2.2.1), .val (.int .i64 x4.2.2.2)]]) (v := .val (.bool r5)) (x4.1, x4.2.1, x4.2.2.1, x4.2.2.2) rfl rfl rfl rfl rfl h4) rfl trivial rfl rfl ?_
      refine TL.nil ?_
      refine TC.cond (b := r5) rfl (fun h5 => ?_) (fun h5 => ?_)
      · have h := cond_t h h5
        refine TC.seq ?_
        refine TC.region ?_
        refine op0 (sp_move rfl rfl) rfl trivial rfl rfl ?_
        refine op0 (sp_assign rfl rfl) rfl trivial rfl rfl ?_
        refine TL.nil ?_
        cases h
        exact retJ [] (.tmp rfl .nil) rfl trivial rfl rfl
      · have h := cond_f h h5
        refine TC.skip ?_
        refine TC.inBlock ?_
        refine TC.region ?_
        obtain ⟨h6, h⟩ := chk_inv h
        refine op0 (sp_add rfl rfl rfl h6) rfl trivial rfl rfl ?_
        refine op0 (sp_move rfl rfl) rfl trivial rfl rfl ?_
        refine TL.nil ?_
        refine TC.inLoop ?_
        refine TC.seq ?_
        refine subJ [] (ih _ h) ?_ ?_ ?_
        · exact ⟨rfl, rfl, rfl, rfl, trivial⟩
        · exact ⟨mem_at 0 rfl, mem_at 1 rfl, trivial⟩
        · rfl
    · have h := cond_f h h1
      refine TC.exit rfl ?_
      refine TC.seq ?_
      refine TC.region ?_
      refine op0 (sp_assign rfl rfl) rfl trivial rfl rfl ?_
      refine TL.nil ?_
      cases h
      exact retJ [] (.tmp rfl .nil) rfl trivial rfl rfl
def ev_slices_IndexFunc_Lapi_RoundWinder_api_RoundWinder (n : Nat) (s1 : List (Int × Int × Int × Int)) (f2 : (Int × Int × Int × Int) → Option Bool) : Option Int :=
  ev_slices_IndexFunc_Lapi_RoundWinder_api_RoundWinder_l0 n s1 f2 n 0
set_option maxRecDepth 100000 in
set_option maxHeartbeats 2000000 in
theorem fc_slices_IndexFunc_Lapi_RoundWinder_api_RoundWinder {n : Nat} {s1 : List (Int × Int × Int × Int)} {f2 : (Int × Int × Int × Int) → Option Bool} {r : Int} (h : ev_slices_IndexFunc_Lapi_RoundWinder_api_RoundWinder n s1 f2 = some r) : FC Try.prog 241 [.ref 0, .ref 1] [.ro 0 4 (List.map en_api_RoundWinder s1), .any 1 (D.fn Try.prog fe_funcapi_RoundWinder_bool fd_funcapi_RoundWinder_bool f2)] (.val (.int .i64 r)) [] := by
  refine introJ (nz := 19) Try.func241 rfl rfl rfl (fun w0 R0 env0 => ?_)
  rw [ev_slices_IndexFunc_Lapi_RoundWinder_api_RoundWinder] at h
  refine TC.seq ?_
  refine TC.region ?_
  refine op0 (sp_assign rfl rfl) rfl trivial rfl rfl ?_
  refine TL.nil ?_
  refine TC.seq ?_
  refine TC.seq ?_
  refine TC.region ?_
  refine op0 (sp_move rfl rfl) rfl trivial rfl rfl ?_
  refine op1 0 rfl (sp_lenM (N := s1.length) (len_map _ _) rfl rfl isRo Try.underlying72) rfl trivial rfl rfl ?_
  refine op0 (sp_move rfl rfl) rfl trivial rfl rfl ?_
  refine TL.nil ?_
  refine TC.block ?_
  refine TC.loop ?_
  refine TC.seq ?_
  refine subJ [] (ok_slices_IndexFunc_Lapi_RoundWinder_api_RoundWinder_l0 _ _ h) ?_ ?_ ?_
  · exact ⟨rfl, rfl, rfl, rfl, trivial⟩
  · exact ⟨mem_at 0 rfl, mem_at 1 rfl, trivial⟩
  · rfl
/- slices_ContainsFunc_Lapi_RoundWinder_api_RoundWinder -/
def ev_slices_ContainsFunc_Lapi_RoundWinder_api_RoundWinder (n : Nat) (s1 : List (Int × Int × Int × Int)) (f2 : (Int × Int × Int × Int) → Option Bool) : Option Bool :=
  (ev_slices_IndexFunc_Lapi_RoundWinder_api_RoundWinder n s1 f2).bind fun r3 => some (decide ((0 : Int) ≤ r3))
set_option maxRecDepth 100000 in
set_option maxHeartbeats 2000000 in
theorem fc_slices_ContainsFunc_Lapi_RoundWinder_api_RoundWinder {n : Nat} {s1 : List (Int × Int × Int × Int)} {f2 : (Int × Int × Int × Int) → Option Bool} {r : Bool} (h : ev_slices_ContainsFunc_Lapi_RoundWinder_api_RoundWinder n s1 f2 = some r) : FC Try.prog 157 [.ref 0, .ref 1] [.ro 0 4 (List.map en_api_RoundWinder s1), .any 1 (D.fn Try.prog fe_funcapi_RoundWinder_bool fd_funcapi_RoundWinder_bool f2)] (.val (.bool r)) [] := by
  refine introJ (nz := 9) Try.func157 rfl rfl rfl (fun w0 R0 env0 => ?_)
  rw [ev_slices_ContainsFunc_Lapi_RoundWinder_api_RoundWinder] at h
  refine TC.seq ?_
  refine TC.region ?_
  refine op0 (sp_assign rfl rfl) rfl trivial rfl rfl ?_
  refine TL.nil ?_
  refine TC.seq ?_
  refine TC.region ?_
  refine op0 (sp_move rfl rfl) rfl trivial rfl rfl ?_
  refine op0 (sp_move rfl rfl) rfl trivial rfl rfl ?_
  obtain ⟨r3, h1, h⟩ := bind_inv h
  refine opN (need := [.ro 0 4 (List.map en_api_RoundWinder s1), .any 1 (D.fn Try.prog fe_funcapi_RoundWinder_bool fd_funcapi_RoundWinder_bool f2)]) [0, 1] ⟨rfl, rfl, trivial⟩ (sp_call (avs := [.ref 0, .ref 1]) (need := [.ro 0 4 (List.map en_api_RoundWinder s1), .any 1 (D.fn Try.prog fe_funcapi_RoundWinder_bool fd_funcapi_RoundWinder_bool f2)]) (v := .val (.int .i64 r3)) (news := []) rfl rfl rfl Try.call241 (atJ [] [] (fc_slices_IndexFunc_Lapi_RoundWinder_api_RoundWinder h1) rfl rfl) (.inl (roAll rfl))) rfl trivial rfl rfl ?_
  refine op0 (sp_geq rfl rfl rfl) rfl trivial rfl rfl ?_
  refine op0 (sp_assign rfl rfl) rfl trivial rfl rfl ?_
  refine TL.nil ?_
  cases h
  exact retJ [] (.tmp rfl .nil) rfl trivial rfl rfl
/- slices_Clone_Lint_int -/
def ev_slices_Clone_Lint_int (n : Nat) (s1 : List Int) : Option ((List Int)) :=
  chk (room 8 (([] : List Int).length + s1.length)) <| some (([] : List Int) ++ s1)
set_option maxRecDepth 100000 in
set_option maxHeartbeats 2000000 in
theorem fc_slices_Clone_Lint_int {n : Nat} {s1 : List Int} {r : (List Int)} (h : ev_slices_Clone_Lint_int n s1 = some r) : FC Try.prog 74 [.ref 0] [.ro 0 1 (List.map en_int s1)] (.ref 0) [.row 0 3 1 (List.map en_int r)] := by
  refine introJ (nz := 8) Try.func74 rfl rfl rfl (fun w0 R0 env0 => ?_)
  rw [ev_slices_Clone_Lint_int] at h
  refine TC.seq ?_
  refine TC.region ?_
  refine op0 (sp_assign rfl rfl) rfl trivial rfl rfl ?_
  refine TL.nil ?_
  refine TC.seq ?_
  refine TC.seq ?_
  refine TC.region ?_
  refine op0 (sp_move rfl rfl) rfl trivial rfl rfl ?_
  refine op1 0 rfl (sp_eqNil 1 rfl Try.underlying37 rfl rfl isRo (len_map _ _)) rfl trivial rfl rfl ?_
  refine TL.nil ?_
  refine condNil 0 rfl rfl (fun hN => ?_) ?_
  · have hx := List.eq_nil_of_length_eq_zero hN
    subst hx
    repeat (have h := (chk_inv h).2)
    refine TC.seq ?_
    refine TC.region ?_
    refine op0 (sp_assign rfl rfl) rfl trivial rfl rfl ?_
    refine TL.nil ?_
    refine nilRowC 2 2 3 1 (List.map en_int []) rfl rfl rfl ?_
    cases h
    exact retJ [(0, 2)] (.tmp rfl .nil) rfl ⟨mem_at 0 rfl, trivial⟩ rfl rfl
  · refine TC.skip ?_
    refine TC.seq ?_
    refine TC.region ?_
    refine op0 (sp_emptyM 3 (List.map en_int []) rfl rfl sl37) rfl trivial rfl rfl ?_
    refine op0 (sp_move rfl rfl) rfl trivial rfl rfl ?_
    obtain ⟨h1, h⟩ := chk_inv h
    refine appM 0 2 (N := ([] : List Int).length) (N2 := s1.length) 4 rfl rfl trivial rfl rfl rfl rfl rfl isRo rfl sl37 (len_map _ _) (len_map _ _) h1 (map_app _ _ _) rfl ?_
    refine op0 (sp_assign rfl rfl) rfl trivial rfl rfl ?_
    refine TL.nil ?_
    cases h
    exact retJ [(0, 4)] (.tmp rfl .nil) rfl ⟨mem_at 0 rfl, trivial⟩ rfl rfl
/- slices_Clip_Lint_int -/
def ev_slices_Clip_Lint_int (n : Nat) (s1 : List Int) : Option ((List Int)) :=
  some s1
set_option maxRecDepth 100000 in
set_option maxHeartbeats 2000000 in
theorem fc_slices_Clip_Lint_int {n : Nat} {s1 : List Int} {r : (List Int)} (h : ev_slices_Clip_Lint_int n s1 = some r) : FC Try.prog 162 [.ref 0] [.ro 0 1 (List.map en_int s1)] (.ref 0) [.any 0 (D.clip 1 (List.map en_int r))] := by
  refine introJ (nz := 9) Try.func162 rfl rfl rfl (fun w0 R0 env0 => ?_)
  rw [ev_slices_Clip_Lint_int] at h
  refine TC.seq ?_
  refine TC.region ?_
  refine op0 (sp_assign rfl rfl) rfl trivial rfl rfl ?_
  refine TL.nil ?_
  refine TC.seq ?_
  refine TC.region ?_
  refine op0 (sp_move rfl rfl) rfl trivial rfl rfl ?_
  refine op0 (sp_move rfl rfl) rfl trivial rfl rfl ?_
  refine op1 0 rfl (sp_lenM (N := s1.length) (len_map _ _) rfl rfl isRo Try.underlying37) rfl trivial rfl rfl ?_
  refine op0 (sp_move rfl rfl) rfl trivial rfl rfl ?_
  refine op1 0 rfl (sp_lenM (N := s1.length) (len_map _ _) rfl rfl isRo Try.underlying37) rfl trivial rfl rfl ?_
  refine op1 0 rfl (sp_clip 1 (len_map _ _) rfl rfl sl37 rfl rfl) rfl trivial rfl rfl ?_
  refine op0 (sp_assign rfl rfl) rfl trivial rfl rfl ?_
  refine TL.nil ?_
  cases h
  exact retJ [(0, 1)] (.tmp rfl .nil) rfl ⟨mem_at 0 rfl, trivial⟩ rfl rfl
end
end Go.Proofs.Ytmgcinejodpopaa.Sy
