/- What functions of the program compute, and that they do: printed by symgen.py. -/
import Derived.Test.YtmgcinejodpopaaSymZ
import Derived.Test.YtmgcinejodpopaaProg
set_option linter.unusedSimpArgs false
set_option linter.unusedVariables false
namespace Go.Proofs.Ytmgcinejodpopaa.Sy
open Go.RowKit
noncomputable section

def en_api_BookEntry : Int × Int × Int → List D := fun x => [D.v (.int .i64 x.1), D.v (.int .i64 x.2.1), D.v (.int .i64 x.2.2)]
theorem en_api_BookEntry_flat : ∀ a, ∀ d ∈ en_api_BookEntry a, ∃ x, d = D.v x := by
  intro a d h
  simp only [en_api_BookEntry, List.mem_cons, List.not_mem_nil, or_false] at h
  rcases h with rfl | rfl | rfl <;> exact ⟨_, rfl⟩
def en_int : Int → List D := fun x => [D.v (.int .i64 x)]
theorem en_int_flat : ∀ a, ∀ d ∈ en_int a, ∃ x, d = D.v x := by
  intro a d h
  simp only [en_int, List.mem_cons, List.not_mem_nil, or_false] at h
  rcases h with rfl <;> exact ⟨_, rfl⟩
theorem sl166 : SlT Try.prog 166 35 3 24 := ⟨Try.underlying166, ⟨Try.t35, _, by kernel_rfl, rfl, rfl, rfl, rfl⟩, by decide⟩
theorem vt35 : VarT Try.prog 35 3 true := ⟨Try.isAgg35, Try.sizeOf35⟩
theorem ft35_1 : FieldT Try.prog 35 1 1 33 := ⟨_, _, Try.underlying35, rfl, rfl, rfl⟩
theorem vt33 : VarT Try.prog 33 1 false := ⟨Try.isAgg33, Try.sizeOf33⟩
theorem ft35_0 : FieldT Try.prog 35 0 0 3 := ⟨_, _, Try.underlying35, rfl, rfl, rfl⟩
theorem vt3 : VarT Try.prog 3 1 false := ⟨Try.isAgg3, Try.sizeOf3⟩
theorem sl37 : SlT Try.prog 37 3 1 8 := ⟨Try.underlying37, ⟨Try.t3, _, by kernel_rfl, rfl, rfl, rfl, rfl⟩, by decide⟩
def fe_funcint_bool : Int → List AV := fun a => [.val (.int .i64 a)]
def fd_funcint_bool : Bool → AV := fun b => .val (.bool b)
theorem ft35_2 : FieldT Try.prog 35 2 2 3 := ⟨_, _, Try.underlying35, rfl, rfl, rfl⟩
theorem vt37 : VarT Try.prog 37 1 false := ⟨Try.isAgg37, Try.sizeOf37⟩
def ye_funcbook_clock_bool : Int × Int × Int × Bool → List AV := fun a => [.agg [.val (.int .i64 a.1), .val (.int .i64 a.2.1), .val (.int .i64 a.2.2.1), .val (.bool a.2.2.2)]]
def yn_funcbook_clock_bool : Int × Int × Int × Bool → List NEnt := fun a => []
theorem bt173 : ∀ parts, Try.prog.built 173 parts = Instr.fill (fun i => (#[(0, 1), (1, 1), (2, 1), (3, 1)] : Array (Nat × Nat))[i]?) (AV.denL (fun _ => undef) [.val (.int .i64 0), .val (.int .i64 0), .val (.int .i64 0), .val (.bool false)]).toArray parts := fun _ => by kernel_rfl
theorem vt166 : VarT Try.prog 166 1 false := ⟨Try.isAgg166, Try.sizeOf166⟩
theorem vt173 : VarT Try.prog 173 4 true := ⟨Try.isAgg173, Try.sizeOf173⟩
theorem vt169 : VarT Try.prog 169 1 false := ⟨Try.isAgg169, Try.sizeOf169⟩
def ye_funcint_bool : Int → List AV := fun a => [.val (.int .i64 a)]
def yn_funcint_bool : Int → List NEnt := fun a => []
theorem ft173_3 : FieldT Try.prog 173 3 3 4 := ⟨_, _, Try.underlying173, rfl, rfl, rfl⟩
theorem vt4 : VarT Try.prog 4 1 false := ⟨Try.isAgg4, Try.sizeOf4⟩
theorem ft173_0 : FieldT Try.prog 173 0 0 3 := ⟨_, _, Try.underlying173, rfl, rfl, rfl⟩
theorem ft173_2 : FieldT Try.prog 173 2 2 3 := ⟨_, _, Try.underlying173, rfl, rfl, rfl⟩
theorem ft173_1 : FieldT Try.prog 173 1 1 3 := ⟨_, _, Try.underlying173, rfl, rfl, rfl⟩
theorem vt289 : VarT Try.prog 289 1 false := ⟨Try.isAgg289, Try.sizeOf289⟩
def en_uint8 : Int → List D := fun x => [D.v (.int .u8 x)]
theorem en_uint8_flat : ∀ a, ∀ d ∈ en_uint8 a, ∃ x, d = D.v x := by
  intro a d h
  simp only [en_uint8, List.mem_cons, List.not_mem_nil, or_false] at h
  rcases h with rfl <;> exact ⟨_, rfl⟩
def en_api_RoundTower : Int × Int × Int × Int × Int → List D := fun x => [D.v (.int .i64 x.1), D.v (.int .i64 x.2.1), D.v (.int .u16 x.2.2.1), D.v (.int .i64 x.2.2.2.1), D.v (.int .i64 x.2.2.2.2)]
theorem en_api_RoundTower_flat : ∀ a, ∀ d ∈ en_api_RoundTower a, ∃ x, d = D.v x := by
  intro a d h
  simp only [en_api_RoundTower, List.mem_cons, List.not_mem_nil, or_false] at h
  rcases h with rfl | rfl | rfl | rfl | rfl <;> exact ⟨_, rfl⟩
def en_Lint : (List Int) → List D := fun x => [D.s 1 (List.map en_int x)]
def en_api_RoundWinder : Int × Int × Int × Int → List D := fun x => [D.v (.int .u16 x.1), D.v (.int .i64 x.2.1), D.v (.int .i64 x.2.2.1), D.v (.int .i64 x.2.2.2)]
theorem en_api_RoundWinder_flat : ∀ a, ∀ d ∈ en_api_RoundWinder a, ∃ x, d = D.v x := by
  intro a d h
  simp only [en_api_RoundWinder, List.mem_cons, List.not_mem_nil, or_false] at h
  rcases h with rfl | rfl | rfl | rfl <;> exact ⟨_, rfl⟩
theorem bt213 : ∀ parts, Try.prog.built 213 parts = Instr.fill (fun i => (#[(0, 1), (1, 1), (2, 1), (3, 1)] : Array (Nat × Nat))[i]?) (AV.denL (fun _ => undef) [.val (.int .u16 0), .val (.int .i64 0), .val (.int .i64 0), .val (.int .i64 0)]).toArray parts := fun _ => by kernel_rfl
theorem sl72 : SlT Try.prog 72 213 4 32 := ⟨Try.underlying72, ⟨Try.t213, _, by kernel_rfl, rfl, rfl, rfl, rfl⟩, by decide⟩
theorem bt74 : ∀ parts, Try.prog.built 74 parts = Instr.fill (fun i => (#[(0, 1), (1, 1), (2, 1), (3, 1), (4, 1)] : Array (Nat × Nat))[i]?) (AV.denL (fun _ => undef) [.val (.slice none 0 0), .val (.slice none 0 0), .val (.slice none 0 0), .val (.int .i64 0), .val (.int .i64 0)]).toArray parts := fun _ => by kernel_rfl
theorem vt74 : VarT Try.prog 74 5 true := ⟨Try.isAgg74, Try.sizeOf74⟩
theorem ft74_1 : FieldT Try.prog 74 1 1 71 := ⟨_, _, Try.underlying74, rfl, rfl, rfl⟩
theorem vt71 : VarT Try.prog 71 1 false := ⟨Try.isAgg71, Try.sizeOf71⟩
theorem sl71 : SlT Try.prog 71 37 1 24 := ⟨Try.underlying71, ⟨Try.t37, _, by kernel_rfl, rfl, rfl, rfl, rfl⟩, by decide⟩
theorem ft74_0 : FieldT Try.prog 74 0 0 70 := ⟨_, _, Try.underlying74, rfl, rfl, rfl⟩
theorem vt70 : VarT Try.prog 70 1 false := ⟨Try.isAgg70, Try.sizeOf70⟩
theorem bt218 : ∀ parts, Try.prog.built 218 parts = Instr.fill (fun i => (#[(0, 1), (1, 1), (2, 1), (3, 1), (4, 1)] : Array (Nat × Nat))[i]?) (AV.denL (fun _ => undef) [.val (.int .i64 0), .val (.int .i64 0), .val (.int .u16 0), .val (.int .i64 0), .val (.int .i64 0)]).toArray parts := fun _ => by kernel_rfl
theorem sl70 : SlT Try.prog 70 218 5 40 := ⟨Try.underlying70, ⟨Try.t218, _, by kernel_rfl, rfl, rfl, rfl, rfl⟩, by decide⟩
def en_api_RoundDay : Int × (List Int) → List D := fun x => [D.v (.int .i64 x.1), D.s 1 (List.map en_int x.2)]
theorem sl143 : SlT Try.prog 143 147 2 32 := ⟨Try.underlying143, ⟨Try.t147, _, by kernel_rfl, rfl, rfl, rfl, rfl⟩, by decide⟩
theorem sl56 : SlT Try.prog 56 5 1 1 := ⟨Try.underlying56, ⟨Try.t5, _, by kernel_rfl, rfl, rfl, rfl, rfl⟩, by decide⟩
theorem vt5 : VarT Try.prog 5 1 false := ⟨Try.isAgg5, Try.sizeOf5⟩
theorem bt147 : ∀ parts, Try.prog.built 147 parts = Instr.fill (fun i => (#[(0, 1), (1, 1)] : Array (Nat × Nat))[i]?) (AV.denL (fun _ => undef) [.val (.int .i64 0), .val (.slice none 0 0)]).toArray parts := fun _ => by kernel_rfl
def fe_funcapi_RoundTower_bool : Int × Int × Int × Int × Int → List AV := fun a => [.agg [.val (.int .i64 a.1), .val (.int .i64 a.2.1), .val (.int .u16 a.2.2.1), .val (.int .i64 a.2.2.2.1), .val (.int .i64 a.2.2.2.2)]]
def fd_funcapi_RoundTower_bool : Bool → AV := fun b => .val (.bool b)
theorem ft218_0 : FieldT Try.prog 218 0 0 3 := ⟨_, _, Try.underlying218, rfl, rfl, rfl⟩
theorem ft218_1 : FieldT Try.prog 218 1 1 3 := ⟨_, _, Try.underlying218, rfl, rfl, rfl⟩
theorem ft218_3 : FieldT Try.prog 218 3 3 3 := ⟨_, _, Try.underlying218, rfl, rfl, rfl⟩
theorem ft218_4 : FieldT Try.prog 218 4 4 3 := ⟨_, _, Try.underlying218, rfl, rfl, rfl⟩
theorem vt218 : VarT Try.prog 218 5 true := ⟨Try.isAgg218, Try.sizeOf218⟩
theorem vt301 : VarT Try.prog 301 1 false := ⟨Try.isAgg301, Try.sizeOf301⟩
theorem ft74_2 : FieldT Try.prog 74 2 2 72 := ⟨_, _, Try.underlying74, rfl, rfl, rfl⟩
theorem vt72 : VarT Try.prog 72 1 false := ⟨Try.isAgg72, Try.sizeOf72⟩
def fe_funcapi_RoundWinder_bool : Int × Int × Int × Int → List AV := fun a => [.agg [.val (.int .u16 a.1), .val (.int .i64 a.2.1), .val (.int .i64 a.2.2.1), .val (.int .i64 a.2.2.2)]]
def fd_funcapi_RoundWinder_bool : Bool → AV := fun b => .val (.bool b)
theorem ft213_1 : FieldT Try.prog 213 1 1 3 := ⟨_, _, Try.underlying213, rfl, rfl, rfl⟩
theorem ft213_2 : FieldT Try.prog 213 2 2 3 := ⟨_, _, Try.underlying213, rfl, rfl, rfl⟩
theorem ft213_3 : FieldT Try.prog 213 3 3 3 := ⟨_, _, Try.underlying213, rfl, rfl, rfl⟩
theorem vt213 : VarT Try.prog 213 4 true := ⟨Try.isAgg213, Try.sizeOf213⟩
theorem vt304 : VarT Try.prog 304 1 false := ⟨Try.isAgg304, Try.sizeOf304⟩
theorem ft74_3 : FieldT Try.prog 74 3 3 3 := ⟨_, _, Try.underlying74, rfl, rfl, rfl⟩
theorem ft74_4 : FieldT Try.prog 74 4 4 3 := ⟨_, _, Try.underlying74, rfl, rfl, rfl⟩
theorem vt147 : VarT Try.prog 147 2 true := ⟨Try.isAgg147, Try.sizeOf147⟩
theorem ft147_0 : FieldT Try.prog 147 0 0 3 := ⟨_, _, Try.underlying147, rfl, rfl, rfl⟩
theorem ft147_1 : FieldT Try.prog 147 1 1 37 := ⟨_, _, Try.underlying147, rfl, rfl, rfl⟩
theorem sl271 : SlT Try.prog 271 3 1 8 := ⟨Try.underlying271, ⟨Try.t3, _, by kernel_rfl, rfl, rfl, rfl, rfl⟩, by decide⟩
theorem sl36 : SlT Try.prog 36 35 3 24 := ⟨Try.underlying36, ⟨Try.t35, _, by kernel_rfl, rfl, rfl, rfl, rfl⟩, by decide⟩
theorem bt35 : ∀ parts, Try.prog.built 35 parts = Instr.fill (fun i => (#[(0, 1), (1, 1), (2, 1)] : Array (Nat × Nat))[i]?) (AV.denL (fun _ => undef) [.val (.int .i64 0), .val (.int .i64 0), .val (.int .i64 0)]).toArray parts := fun _ => by kernel_rfl
theorem bt79 : ∀ parts, Try.prog.built 79 parts = Instr.fill (fun i => (#[(0, 1), (1, 1)] : Array (Nat × Nat))[i]?) (AV.denL (fun _ => undef) [.val (.int .i64 0), .val (.slice none 0 0)]).toArray parts := fun _ => by kernel_rfl
theorem ft79_0 : FieldT Try.prog 79 0 0 3 := ⟨_, _, Try.underlying79, rfl, rfl, rfl⟩
theorem ft79_1 : FieldT Try.prog 79 1 1 37 := ⟨_, _, Try.underlying79, rfl, rfl, rfl⟩
theorem bt215 : ∀ parts, Try.prog.built 215 parts = Instr.fill (fun i => (#[(0, 5), (5, 4), (9, 1), (10, 1), (11, 1), (12, 1), (13, 1)] : Array (Nat × Nat))[i]?) (AV.denL (fun _ => undef) [.val (.slice none 0 0), .val (.slice none 0 0), .val (.slice none 0 0), .val (.int .i64 0), .val (.int .i64 0), .val (.int .u16 0), .val (.int .i64 0), .val (.int .i64 0), .val (.int .i64 0), .val (.int .i64 0), .val (.int .i64 0), .val (.int .i64 0), .val (.int .i64 0), .val (.int .i64 0)]).toArray parts := fun _ => by kernel_rfl
theorem vt215 : VarT Try.prog 215 14 true := ⟨Try.isAgg215, Try.sizeOf215⟩
theorem ft215_6 : FieldT Try.prog 215 6 13 3 := ⟨_, _, Try.underlying215, rfl, rfl, rfl⟩
theorem ft215_0 : FieldT Try.prog 215 0 0 74 := ⟨_, _, Try.underlying215, rfl, rfl, rfl⟩
theorem ft215_5 : FieldT Try.prog 215 5 12 3 := ⟨_, _, Try.underlying215, rfl, rfl, rfl⟩
theorem ft215_1 : FieldT Try.prog 215 1 5 213 := ⟨_, _, Try.underlying215, rfl, rfl, rfl⟩
theorem ft215_4 : FieldT Try.prog 215 4 11 3 := ⟨_, _, Try.underlying215, rfl, rfl, rfl⟩
theorem ft215_3 : FieldT Try.prog 215 3 10 205 := ⟨_, _, Try.underlying215, rfl, rfl, rfl⟩
theorem vt205 : VarT Try.prog 205 1 false := ⟨Try.isAgg205, Try.sizeOf205⟩
theorem ft218_2 : FieldT Try.prog 218 2 2 22 := ⟨_, _, Try.underlying218, rfl, rfl, rfl⟩
theorem vt22 : VarT Try.prog 22 1 false := ⟨Try.isAgg22, Try.sizeOf22⟩
theorem ft213_0 : FieldT Try.prog 213 0 0 22 := ⟨_, _, Try.underlying213, rfl, rfl, rfl⟩
theorem ft215_2 : FieldT Try.prog 215 2 9 3 := ⟨_, _, Try.underlying215, rfl, rfl, rfl⟩
theorem bt210 : ∀ parts, Try.prog.built 210 parts = Instr.fill (fun i => (#[(0, 1), (1, 1), (2, 1), (3, 1)] : Array (Nat × Nat))[i]?) (AV.denL (fun _ => undef) [.val (.int .i64 0), .val (.slice none 0 0), .val (.int .i64 0), .val (.bool false)]).toArray parts := fun _ => by kernel_rfl
theorem ft210_3 : FieldT Try.prog 210 3 3 4 := ⟨_, _, Try.underlying210, rfl, rfl, rfl⟩
theorem ft210_2 : FieldT Try.prog 210 2 2 3 := ⟨_, _, Try.underlying210, rfl, rfl, rfl⟩
theorem ft210_0 : FieldT Try.prog 210 0 0 205 := ⟨_, _, Try.underlying210, rfl, rfl, rfl⟩
theorem ft210_1 : FieldT Try.prog 210 1 1 37 := ⟨_, _, Try.underlying210, rfl, rfl, rfl⟩
/- slices_IndexFunc_Lint_int -/
def ev_slices_IndexFunc_Lint_int_l0 (n : Nat) (s1 : List Int) (f2 : Int → Option Bool) : Nat → Int → Option Int
  | 0, _ => none
  | m + 1, i3 => cond (decide (i3 < (s1.length : Int))) (idx s1 i3 fun x4 => (f2 x4).bind fun r5 => cond r5 (some i3) (chk (in64 (i3 + 1)) <| ev_slices_IndexFunc_Lint_int_l0 n s1 f2 m (i3 + 1))) (some (-1))
set_option maxRecDepth 100000 in
set_option maxHeartbeats 2000000 in
theorem ok_slices_IndexFunc_Lint_int_l0 {n : Nat} {w0 : World} {R0 : Nat → Prop} {env0 : Env} {r : Int} {s1 : List Int} {f2 : Int → Option Bool} : ∀ (m : Nat) (i3 : Int), ev_slices_IndexFunc_Lint_int_l0 n s1 f2 m i3 = some r → TC Try.prog ⟨w0, fun _ => False, R0⟩ 19 (bodyPost Try.prog Try.f229 (Post ⟨w0, fun _ => False, R0⟩ env0 (.val (.int .i64 r)) [])) [.code (sub (bodyOf Try.f229) [1, 0, 1, 0, 0, 0]), .code (sub (bodyOf Try.f229) [1, 0, 1, 0, 0, 1]), .inLoop (sub (bodyOf Try.f229) [1, 0, 1, 0, 0]), .inBlock 0, .code (sub (bodyOf Try.f229) [1, 1])] ([(0, .ref 0), (1, .ref 1), (7, .val (.int .i64 (s1.length : Int))), (8, .val (.int .i64 i3))]) ([.ro 0 1 (List.map en_int s1), .any 1 (D.fn Try.prog fe_funcint_bool fd_funcint_bool f2)]) := by
  intro m
  induction m with
  | zero => intro i3 h; exact none_no h
  | succ m ih =>
    intro i3 h
    rw [ev_slices_IndexFunc_Lint_int_l0] at h
    refine TC.region ?_
    refine op0 (sp_lss rfl rfl rfl) rfl trivial rfl rfl ?_
    refine TL.nil ?_
    refine TC.seq ?_
    refine TC.cond (b := (decide (i3 < (s1.length : Int)))) rfl (fun h1 => ?_) (fun h1 => ?_)
    · have h := cond_t h h1
      refine TC.skip ?_
      refine TC.seq ?_
      refine TC.block ?_
      refine TC.seq ?_
      refine TC.region ?_
      refine op0 (sp_move rfl rfl) rfl trivial rfl rfl ?_
      refine op0 (sp_assign rfl rfl) rfl trivial rfl rfl ?_
      refine TL.nil ?_
      refine TC.seq ?_
      refine TC.region ?_
      refine op0 (sp_move rfl rfl) rfl trivial rfl rfl ?_
      refine op0 (sp_move rfl rfl) rfl trivial rfl rfl ?_
      refine op0 (sp_move rfl rfl) rfl trivial rfl rfl ?_
      obtain ⟨x4, h2, h3, h⟩ := idx_inv h
      refine op1 0 rfl (sp_indexS rfl rfl rfl isRo sl37 h2 (map_get _ h3)) rfl trivial rfl rfl ?_
      refine op1 0 rfl (sp_loadR (i := (i3 : Int).toNat) (j := 0) rfl rfl isRo vt3 rfl (map_get _ h3) rfl (.v (.nil)) (nodup_of_B rfl)) rfl trivial rfl rfl ?_
      obtain ⟨r5, h4, h⟩ := bind_inv h
      refine op1 1 rfl (sp_callF (avs := [.val (.int .i64 x4)]) (v := .val (.bool r5)) x4 rfl rfl rfl rfl rfl h4) rfl trivial rfl rfl ?_
      refine TL.nil ?_
      refine TC.cond (b := r5) rfl (fun h5 => ?_) (fun h5 => ?_)
      · have h := cond_t h h5
        refine TC.seq ?_
        refine TC.region ?_
        refine op0 (sp_move rfl rfl) rfl trivial rfl rfl ?_
        refine op0 (sp_assign rfl rfl) rfl trivial rfl rfl ?_
        refine TL.nil ?_
        cases h
        exact retJ [] (.tmp rfl .nil) rfl trivial rfl rfl
      · have h := cond_f h h5
        refine TC.skip ?_
        refine TC.inBlock ?_
        refine TC.region ?_
        obtain ⟨h6, h⟩ := chk_inv h
        refine op0 (sp_add rfl rfl rfl h6) rfl trivial rfl rfl ?_
        refine op0 (sp_move rfl rfl) rfl trivial rfl rfl ?_
        refine TL.nil ?_
        refine TC.inLoop ?_
        refine TC.seq ?_
        refine subJ [] (ih _ h) ?_ ?_ ?_
        · exact ⟨rfl, rfl, rfl, rfl, trivial⟩
        · exact ⟨mem_at 0 rfl, mem_at 1 rfl, trivial⟩
        · rfl
    · have h := cond_f h h1
      refine TC.exit rfl ?_
      refine TC.seq ?_
      refine TC.region ?_
      refine op0 (sp_assign rfl rfl) rfl trivial rfl rfl ?_
      refine TL.nil ?_
      cases h
      exact retJ [] (.tmp rfl .nil) rfl trivial rfl rfl
def ev_slices_IndexFunc_Lint_int (n : Nat) (s1 : List Int) (f2 : Int → Option Bool) : Option Int :=
  ev_slices_IndexFunc_Lint_int_l0 n s1 f2 n 0
set_option maxRecDepth 100000 in
set_option maxHeartbeats 2000000 in
theorem fc_slices_IndexFunc_Lint_int {n : Nat} {s1 : List Int} {f2 : Int → Option Bool} {r : Int} (h : ev_slices_IndexFunc_Lint_int n s1 f2 = some r) : FC Try.prog 229 [.ref 0, .ref 1] [.ro 0 1 (List.map en_int s1), .any 1 (D.fn Try.prog fe_funcint_bool fd_funcint_bool f2)] (.val (.int .i64 r)) [] := by
  refine introJ (nz := 19) Try.func229 rfl rfl rfl (fun w0 R0 env0 => ?_)
  rw [ev_slices_IndexFunc_Lint_int] at h
  refine TC.seq ?_
  refine TC.region ?_
  refine op0 (sp_assign rfl rfl) rfl trivial rfl rfl ?_
  refine TL.nil ?_
  refine TC.seq ?_
  refine TC.seq ?_
  refine TC.region ?_
  refine op0 (sp_move rfl rfl) rfl trivial rfl rfl ?_
  refine op1 0 rfl (sp_lenM (N := s1.length) (len_map _ _) rfl rfl isRo Try.underlying37) rfl trivial rfl rfl ?_
  refine op0 (sp_move rfl rfl) rfl trivial rfl rfl ?_
  refine TL.nil ?_
  refine TC.block ?_
  refine TC.loop ?_
  refine TC.seq ?_
  refine subJ [] (ok_slices_IndexFunc_Lint_int_l0 _ _ h) ?_ ?_ ?_
  · exact ⟨rfl, rfl, rfl, rfl, trivial⟩
  · exact ⟨mem_at 0 rfl, mem_at 1 rfl, trivial⟩
  · rfl
/- slices_ContainsFunc_Lint_int -/
def ev_slices_ContainsFunc_Lint_int (n : Nat) (s1 : List Int) (f2 : Int → Option Bool) : Option Bool :=
  (ev_slices_IndexFunc_Lint_int n s1 f2).bind fun r3 => some (decide ((0 : Int) ≤ r3))
set_option maxRecDepth 100000 in
set_option maxHeartbeats 2000000 in
theorem fc_slices_ContainsFunc_Lint_int {n : Nat} {s1 : List Int} {f2 : Int → Option Bool} {r : Bool} (h : ev_slices_ContainsFunc_Lint_int n s1 f2 = some r) : FC Try.prog 133 [.ref 0, .ref 1] [.ro 0 1 (List.map en_int s1), .any 1 (D.fn Try.prog fe_funcint_bool fd_funcint_bool f2)] (.val (.bool r)) [] := by
  refine introJ (nz := 9) Try.func133 rfl rfl rfl (fun w0 R0 env0 => ?_)
  rw [ev_slices_ContainsFunc_Lint_int] at h
  refine TC.seq ?_
  refine TC.region ?_
  refine op0 (sp_assign rfl rfl) rfl trivial rfl rfl ?_
  refine TL.nil ?_
  refine TC.seq ?_
  refine TC.region ?_
  refine op0 (sp_move rfl rfl) rfl trivial rfl rfl ?_
  refine op0 (sp_move rfl rfl) rfl trivial rfl rfl ?_
  obtain ⟨r3, h1, h⟩ := bind_inv h
  refine opN (need := [.ro 0 1 (List.map en_int s1), .any 1 (D.fn Try.prog fe_funcint_bool fd_funcint_bool f2)]) [0, 1] ⟨rfl, rfl, trivial⟩ (sp_call (avs := [.ref 0, .ref 1]) (need := [.ro 0 1 (List.map en_int s1), .any 1 (D.fn Try.prog fe_funcint_bool fd_funcint_bool f2)]) (v := .val (.int .i64 r3)) (news := []) rfl rfl rfl Try.call229 (atJ [] [] (fc_slices_IndexFunc_Lint_int h1) rfl rfl) (.inl (roAll rfl))) rfl trivial rfl rfl ?_
  refine op0 (sp_geq rfl rfl rfl) rfl trivial rfl rfl ?_
  refine op0 (sp_assign rfl rfl) rfl trivial rfl rfl ?_
  refine TL.nil ?_
  cases h
  exact retJ [] (.tmp rfl .nil) rfl trivial rfl rfl
/- top_pubGoing -/
def ev_top_pubGoing_l0 (n : Nat) : Nat → Int → (List Int) → (List (Int × Int × Int × Int × Int)) → (List ((List Int))) → (List (Int × Int × Int × Int)) → Int → Int → (List (Int × Int × Int × Int × Int)) → (List ((List Int))) → Int → Int → (List (Int × Int × Int × Int)) → Option ((List (Int × Int × Int × Int × Int)) × (List ((List Int))) × (List (Int × Int × Int × Int)) × Int × Int)
  | 0, _, _, _, _, _, _, _, _, _, _, _, _ => none
  | m + 1, i2, l3, l4, l5, l6, i7, i9, l10, l11, i12, i13, l14 => cond (decide (i2 ≤ (l3.length : Int))) (chk (in64 ((l3.length : Int) + 1)) <| chk (decide (0 ≤ ((l3.length : Int) + 1))) <| chk (room 8 (((l3.length : Int) + 1)).toNat) <| chk (room 24 (l11.length + ([(List.replicate (((l3.length : Int) + 1)).toNat (0 : Int))] : List ((List Int))).length)) <| cond (decide (i2 < (l3.length : Int))) (idx l3 i2 fun x15 => chk (room 40 (l10.length + ([(0, 0, 0, 0, x15)] : List (Int × Int × Int × Int × Int)).length)) <| chk (in64 (i2 + 1)) <| ev_top_pubGoing_l0 n m (i2 + 1) l3 l4 l5 l6 i7 i9 (l10 ++ ([(0, 0, 0, 0, x15)] : List (Int × Int × Int × Int × Int))) (l11 ++ ([(List.replicate (((l3.length : Int) + 1)).toNat (0 : Int))] : List ((List Int)))) i12 i13 l14) (chk (in64 (i2 + 1)) <| ev_top_pubGoing_l0 n m (i2 + 1) l3 l4 l5 l6 i7 i9 l10 (l11 ++ ([(List.replicate (((l3.length : Int) + 1)).toNat (0 : Int))] : List ((List Int)))) i12 i13 l14)) (some (l10, l11, l14, i12, i13))
set_option maxRecDepth 100000 in
set_option maxHeartbeats 2000000 in
theorem ok_top_pubGoing_l0 {n : Nat} {w0 : World} {R0 : Nat → Prop} {env0 : Env} {r : (List (Int × Int × Int × Int × Int)) × (List ((List Int))) × (List (Int × Int × Int × Int)) × Int × Int} : ∀ (m : Nat) (i2 : Int) (l3 : List Int) (l4 : List (Int × Int × Int × Int × Int)) (l5 : List ((List Int))) (l6 : List (Int × Int × Int × Int)) (i7 : Int) (i9 : Int) (l10 : List (Int × Int × Int × Int × Int)) (l11 : List ((List Int))) (i12 : Int) (i13 : Int) (l14 : List (Int × Int × Int × Int)), ev_top_pubGoing_l0 n m i2 l3 l4 l5 l6 i7 i9 l10 l11 i12 i13 l14 = some r → TC Try.prog ⟨w0, fun _ => False, R0⟩ 38 (bodyPost Try.prog Try.f50 (Post ⟨w0, fun _ => False, R0⟩ env0 (.agg [.ref 0, .ref 1, .ref 2, .val (.int .i64 r.2.2.2.1), .val (.int .i64 r.2.2.2.2)]) [.row 0 218 5 (List.map en_api_RoundTower r.1), .row 1 37 1 (List.map en_Lint r.2.1), .row 2 213 4 (List.map en_api_RoundWinder r.2.2.1)])) [.code (sub (bodyOf Try.f50) [1, 1, 0, 1, 0, 0, 0, 0]), .code (sub (bodyOf Try.f50) [1, 1, 0, 1, 0, 0, 0, 1]), .code (sub (bodyOf Try.f50) [1, 1, 0, 1, 0, 0, 1]), .inLoop (sub (bodyOf Try.f50) [1, 1, 0, 1, 0, 0]), .inBlock 0, .code (sub (bodyOf Try.f50) [1, 1, 1])] ([(0, .ref 0), (2, .ptr 1 0), (3, .ptr 3 0), (4, .val (.int .i64 i2))]) ([.ro 0 1 (List.map en_int l3), .row 4 218 5 (List.map en_api_RoundTower l4), .row 5 37 1 (List.map en_Lint l5), .row 6 213 4 (List.map en_api_RoundWinder l6), .blk 1 [.ref 4, .ref 5, .ref 6, .val (.int .i64 i7), .val (.int .i64 i9)] 74, .row 7 218 5 (List.map en_api_RoundTower l10), .row 8 37 1 (List.map en_Lint l11), .blk 3 [.ref 7, .ref 8, .ref 2, .val (.int .i64 i12), .val (.int .i64 i13)] 74, .row 2 213 4 (List.map en_api_RoundWinder l14)]) := by
  intro m
  induction m with
  | zero => intro i2 l3 l4 l5 l6 i7 i9 l10 l11 i12 i13 l14 h; exact none_no h
  | succ m ih =>
    intro i2 l3 l4 l5 l6 i7 i9 l10 l11 i12 i13 l14 h
    rw [ev_top_pubGoing_l0] at h
    refine TC.region ?_
    refine op0 (sp_move rfl rfl) rfl trivial rfl rfl ?_
    refine op0 (sp_move rfl rfl) rfl trivial rfl rfl ?_
    refine op1 0 rfl (sp_lenM (N := l3.length) (len_map _ _) rfl rfl isRo Try.underlying37) rfl trivial rfl rfl ?_
    refine op0 (sp_leq rfl rfl rfl) rfl trivial rfl rfl ?_
    refine TL.nil ?_
    refine TC.cond (b := (decide (i2 ≤ (l3.length : Int)))) rfl (fun h1 => ?_) (fun h1 => ?_)
    · have h := cond_t h h1
      refine TC.skip ?_
      refine TC.seq ?_
      refine TC.block ?_
      refine TC.seq ?_
      obtain ⟨h5, h⟩ := chk_inv h
      obtain ⟨h6, h⟩ := chk_inv h
      obtain ⟨h7, h⟩ := chk_inv h
      refine drawJ 7 [⟨.ptr 3 1, [], [.blk 3 [.ref 7, .ref 8, .ref 2, .val (.int .i64 i12), .val (.int .i64 i13)] 74], []⟩, ⟨.ref 8, [], [.blk 3 [.ref 7, .ref 8, .ref 2, .val (.int .i64 i12), .val (.int .i64 i13)] 74], []⟩, ⟨.ref 0, [], [], []⟩, ⟨.val (.int .i64 (l3.length : Int)), [], [.ro 0 1 (List.map en_int l3)], []⟩, ⟨.val (.int .i64 ((l3.length : Int) + 1)), [], [], []⟩, ⟨.ref 11, [.ro 11 1 (List.map en_int (List.replicate (((l3.length : Int) + 1)).toNat (0 : Int)))], [], []⟩, ⟨.ref 12, [.row 12 37 1 (List.map en_Lint ([(List.replicate (((l3.length : Int) + 1)).toNat (0 : Int))] : List ((List Int))))], [.ro 11 1 (List.map en_int (List.replicate (((l3.length : Int) + 1)).toNat (0 : Int)))], []⟩] rfl ?_ rfl ?_ rfl ?_ ?_
      · kernel_rfl
      · kernel_rfl
      · exact DAll.op' (sp_fieldAddrB rfl isBlk rfl ft74_1 vt71 (by decide)) trivial rfl (From.ok (ps := [(none, 7)]) ⟨⟨rfl, rfl⟩, trivial⟩) (DAll.op' (sp_loadB rfl isBlk rfl vt71 rfl) trivial rfl (From.ok (ps := [(none, 7)]) ⟨⟨rfl, rfl⟩, trivial⟩) (DAll.op' (sp_move rfl rfl) trivial rfl (From.ok (ps := []) trivial) (DAll.op' (sp_lenM (N := l3.length) (len_map _ _) rfl rfl isRo Try.underlying37) trivial rfl (From.ok (ps := [(none, 0)]) ⟨⟨rfl, rfl⟩, trivial⟩) (DAll.op' (sp_add rfl rfl rfl h5) trivial rfl (From.ok (ps := []) trivial) (DAll.op' (OpSpec.froz (news := [.row 11 3 1 (List.map en_int (List.replicate (((l3.length : Int) + 1)).toNat (0 : Int)))]) 0 rfl (sp_makeSlice 11 rfl rfl rfl sl37 h6 h7 Try.zeroValue3 rfl (rep_map _ _ en_int rfl))) trivial rfl (From.ok (ps := []) trivial) (DAll.op' (sp_buildSlice (qs := [.ref 11]) (need := [.ro 11 1 (List.map en_int (List.replicate (((l3.length : Int) + 1)).toNat (0 : Int)))]) (els := List.map en_Lint ([(List.replicate (((l3.length : Int) + 1)).toNat (0 : Int))] : List ((List Int)))) 12 rfl sl71 (by decide) (by decide) rfl rfl rfl (.s (mem_at 0 rfl) (.nil)) (map_len fun _ => rfl) rfl rfl rfl) trivial rfl (From.ok (ps := [(some 5, 0)]) ⟨⟨_, rfl, rfl, rfl, rfl⟩, trivial⟩) (.nil)))))))
      obtain ⟨h8, h⟩ := chk_inv h
      refine appM 8 0 (N := l11.length) (N2 := ([(List.replicate (((l3.length : Int) + 1)).toNat (0 : Int))] : List ((List Int))).length) 13 rfl rfl trivial rfl rfl rfl rfl rfl isOwn rfl sl71 (len_map _ _) (len_map _ _) h8 (map_app _ _ _) rfl ?_
      refine op1 9 rfl (sp_fieldAddrB rfl isBlk rfl ft74_1 vt71 (by decide)) rfl trivial rfl rfl ?_
      refine stoB 9 (cells' := [.ref 7, .ref 13, .ref 2, .val (.int .i64 i12), .val (.int .i64 i13)]) rfl rfl trivial rfl rfl rfl rfl vt71 rfl rfl rfl ?_
      refine TL.nil ?_
      refine TC.seq ?_
      refine TC.region ?_
      refine op0 (sp_move rfl rfl) rfl trivial rfl rfl ?_
      refine op0 (sp_move rfl rfl) rfl trivial rfl rfl ?_
      refine op1 3 rfl (sp_lenM (N := l3.length) (len_map _ _) rfl rfl isRo Try.underlying37) rfl trivial rfl rfl ?_
      refine op0 (sp_lss rfl rfl rfl) rfl trivial rfl rfl ?_
      refine TL.nil ?_
      refine TC.cond (b := (decide (i2 < (l3.length : Int)))) rfl (fun h9 => ?_) (fun h9 => ?_)
      · have h := cond_t h h9
        obtain ⟨x15, h10, h11, h⟩ := idx_inv h
        refine drawJ 8 [⟨.ptr 3 0, [], [.blk 3 [.ref 7, .ref 13, .ref 2, .val (.int .i64 i12), .val (.int .i64 i13)] 74], []⟩, ⟨.ref 7, [], [.blk 3 [.ref 7, .ref 13, .ref 2, .val (.int .i64 i12), .val (.int .i64 i13)] 74], []⟩, ⟨.ref 0, [], [], []⟩, ⟨.val (.int .i64 i2), [], [], []⟩, ⟨.cell 0 ((i2 : Int).toNat * 1), [], [.ro 0 1 (List.map en_int l3)], []⟩, ⟨.val (.int .i64 x15), [], [.ro 0 1 (List.map en_int l3)], []⟩, ⟨.agg [.val (.int .i64 0), .val (.int .i64 0), .val (.int .u16 0), .val (.int .i64 0), .val (.int .i64 x15)], [], [], []⟩, ⟨.ref 14, [.row 14 218 5 (List.map en_api_RoundTower ([(0, 0, 0, 0, x15)] : List (Int × Int × Int × Int × Int)))], [], []⟩] rfl ?_ rfl ?_ rfl ?_ ?_
        · kernel_rfl
        · kernel_rfl
        · exact DAll.op' (sp_fieldAddrB rfl isBlk rfl ft74_0 vt70 (by decide)) trivial rfl (From.ok (ps := [(none, 9)]) ⟨⟨rfl, rfl⟩, trivial⟩) (DAll.op' (sp_loadB rfl isBlk rfl vt70 rfl) trivial rfl (From.ok (ps := [(none, 9)]) ⟨⟨rfl, rfl⟩, trivial⟩) (DAll.op' (sp_move rfl rfl) trivial rfl (From.ok (ps := []) trivial) (DAll.op' (sp_move rfl rfl) trivial rfl (From.ok (ps := []) trivial) (DAll.op' (sp_indexS rfl rfl rfl isRo sl37 h10 (map_get _ h11)) trivial rfl (From.ok (ps := [(none, 3)]) ⟨⟨rfl, rfl⟩, trivial⟩) (DAll.op' (sp_loadR (i := (i2 : Int).toNat) (j := 0) rfl rfl isRo vt3 rfl (map_get _ h11) rfl (.v (.nil)) (nodup_of_B rfl)) trivial rfl (From.ok (ps := [(none, 3)]) ⟨⟨rfl, rfl⟩, trivial⟩) (DAll.op' (sp_build (qs := [(4, .val (.int .i64 x15))]) rfl bt218 rfl rfl rfl rfl) trivial rfl (From.ok (ps := []) trivial) (DAll.op' (sp_buildSlice (qs := [.agg [.val (.int .i64 0), .val (.int .i64 0), .val (.int .u16 0), .val (.int .i64 0), .val (.int .i64 x15)]]) (need := []) (els := List.map en_api_RoundTower ([(0, 0, 0, 0, x15)] : List (Int × Int × Int × Int × Int))) 14 rfl sl70 (by decide) (by decide) rfl rfl rfl (.v (.v (.v (.v (.v (.nil)))))) (map_len fun _ => rfl) rfl rfl rfl) trivial rfl (From.ok (ps := []) trivial) (.nil))))))))
        obtain ⟨h12, h⟩ := chk_inv h
        refine appM 9 0 (N := l10.length) (N2 := ([(0, 0, 0, 0, x15)] : List (Int × Int × Int × Int × Int)).length) 15 rfl rfl trivial rfl rfl rfl rfl rfl isOwn rfl sl70 (len_map _ _) (len_map _ _) h12 (map_app _ _ _) rfl ?_
        refine op1 10 rfl (sp_fieldAddrB rfl isBlk rfl ft74_0 vt70 (by decide)) rfl trivial rfl rfl ?_
        refine stoB 10 (cells' := [.ref 15, .ref 13, .ref 2, .val (.int .i64 i12), .val (.int .i64 i13)]) rfl rfl trivial rfl rfl rfl rfl vt70 rfl rfl rfl ?_
        refine TL.nil ?_
        refine TC.inBlock ?_
        refine TC.region ?_
        refine op0 (sp_move rfl rfl) rfl trivial rfl rfl ?_
        obtain ⟨h13, h⟩ := chk_inv h
        refine op0 (sp_add rfl rfl rfl h13) rfl trivial rfl rfl ?_
        refine op0 (sp_assign rfl rfl) rfl trivial rfl rfl ?_
        refine TL.nil ?_
        refine TC.inLoop ?_
        refine TC.seq ?_
        refine TC.seq ?_
        refine subJ [(7, 15), (8, 13)] (ih _ _ _ _ _ _ _ _ _ _ _ _ h) ?_ ?_ ?_
        · exact ⟨rfl, rfl, rfl, rfl, trivial⟩
        · exact ⟨mem_at 5 rfl, mem_at 6 rfl, mem_at 7 rfl, mem_at 8 rfl, mem_at 9 rfl, mem_at 0 rfl, mem_at 2 rfl, mem_at 10 rfl, mem_at 11 rfl, trivial⟩
        · rfl
      · have h := cond_f h h9
        refine TC.skip ?_
        refine TC.inBlock ?_
        refine TC.region ?_
        refine op0 (sp_move rfl rfl) rfl trivial rfl rfl ?_
        obtain ⟨h14, h⟩ := chk_inv h
        refine op0 (sp_add rfl rfl rfl h14) rfl trivial rfl rfl ?_
        refine op0 (sp_assign rfl rfl) rfl trivial rfl rfl ?_
        refine TL.nil ?_
        refine TC.inLoop ?_
        refine TC.seq ?_
        refine TC.seq ?_
        refine subJ [(8, 13)] (ih _ _ _ _ _ _ _ _ _ _ _ _ h) ?_ ?_ ?_
        · exact ⟨rfl, rfl, rfl, rfl, trivial⟩
        · exact ⟨mem_at 3 rfl, mem_at 4 rfl, mem_at 5 rfl, mem_at 6 rfl, mem_at 7 rfl, mem_at 8 rfl, mem_at 0 rfl, mem_at 9 rfl, mem_at 10 rfl, trivial⟩
        · rfl
    · have h := cond_f h h1
      refine TC.exit rfl ?_
      refine TC.seq ?_
      refine TC.region ?_
      refine op1 7 rfl (sp_loadBA rfl isBlk rfl vt74 rfl rfl) rfl trivial rfl rfl ?_
      refine stoB 4 (cells' := [.ref 7, .ref 8, .ref 2, .val (.int .i64 i12), .val (.int .i64 i13)]) rfl rfl trivial rfl rfl rfl rfl vt74 rfl rfl rfl ?_
      refine TL.nil ?_
      cases h
      exact retJ [(0, 7), (1, 8)] (.cells rfl (mem_at 4 rfl) isBlk vt74 rfl rfl (.nil)) rfl ⟨mem_at 5 rfl, mem_at 6 rfl, mem_at 8 rfl, trivial⟩ rfl rfl
def ev_top_pubGoing (n : Nat) (goes1 : List Int) : Option ((List (Int × Int × Int × Int × Int)) × (List ((List Int))) × (List (Int × Int × Int × Int)) × Int × Int) :=
  ev_top_pubGoing_l0 n n 0 goes1 ([] : List (Int × Int × Int × Int × Int)) ([] : List ((List Int))) ([] : List (Int × Int × Int × Int)) 0 0 ([] : List (Int × Int × Int × Int × Int)) ([] : List ((List Int))) 1 0 ([(0, 0, 1440, 1440)] : List (Int × Int × Int × Int))
set_option maxRecDepth 100000 in
set_option maxHeartbeats 2000000 in
theorem fc_top_pubGoing {n : Nat} {goes1 : List Int} {r : (List (Int × Int × Int × Int × Int)) × (List ((List Int))) × (List (Int × Int × Int × Int)) × Int × Int} (h : ev_top_pubGoing n goes1 = some r) : FC Try.prog 50 [.ref 0] [.ro 0 1 (List.map en_int goes1)] (.agg [.ref 0, .ref 1, .ref 2, .val (.int .i64 r.2.2.2.1), .val (.int .i64 r.2.2.2.2)]) [.row 0 218 5 (List.map en_api_RoundTower r.1), .row 1 37 1 (List.map en_Lint r.2.1), .row 2 213 4 (List.map en_api_RoundWinder r.2.2.1)] := by
  refine introJ (nz := 38) Try.func50 rfl rfl rfl (fun w0 R0 env0 => ?_)
  rw [ev_top_pubGoing] at h
  refine TC.seq ?_
  refine TC.region ?_
  refine op0 (sp_alloc 1 rfl Try.zeroValue74 rfl) rfl trivial rfl rfl ?_
  refine TL.nil ?_
  refine TC.seq ?_
  refine TC.region ?_
  refine op0 (sp_build (qs := [(2, .val (.int .i64 1440)), (3, .val (.int .i64 1440))]) rfl bt213 rfl rfl rfl rfl) rfl trivial rfl rfl ?_
  refine op0 (sp_buildSlice (qs := [.agg [.val (.int .u16 0), .val (.int .i64 0), .val (.int .i64 1440), .val (.int .i64 1440)]]) (need := []) (els := List.map en_api_RoundWinder ([(0, 0, 1440, 1440)] : List (Int × Int × Int × Int))) 2 rfl sl72 (by decide) (by decide) rfl rfl rfl (.v (.v (.v (.v (.nil))))) (map_len fun _ => rfl) rfl rfl rfl) rfl trivial rfl rfl ?_
  refine op0 (sp_build (qs := [(2, .ref 2), (3, .val (.int .i64 1))]) rfl bt74 rfl rfl rfl rfl) rfl trivial rfl rfl ?_
  refine op0 (sp_alloc 3 rfl Try.zeroValue74 rfl) rfl trivial rfl rfl ?_
  refine stoB 0 (cells' := [.val (.slice none 0 0), .val (.slice none 0 0), .ref 2, .val (.int .i64 1), .val (.int .i64 0)]) rfl rfl trivial rfl rfl rfl rfl vt74 rfl rfl rfl ?_
  refine TL.nil ?_
  refine TC.seq ?_
  refine TC.seq ?_
  refine TC.region ?_
  refine op0 (sp_assign rfl rfl) rfl trivial rfl rfl ?_
  refine TL.nil ?_
  refine TC.block ?_
  refine TC.loop ?_
  refine TC.seq ?_
  refine TC.seq ?_
  refine nilCellC 2 16 218 5 1 (List.map en_api_RoundTower []) [.ref 16, .val (.slice none 0 0), .val (.slice none 0 0), .val (.int .i64 0), .val (.int .i64 0)] rfl rfl rfl ?_
  refine nilCellC 3 17 37 1 1 (List.map en_Lint []) [.ref 16, .ref 17, .val (.slice none 0 0), .val (.int .i64 0), .val (.int .i64 0)] rfl rfl rfl ?_
  refine nilCellC 4 18 213 4 1 (List.map en_api_RoundWinder []) [.ref 16, .ref 17, .ref 18, .val (.int .i64 0), .val (.int .i64 0)] rfl rfl rfl ?_
  refine nilCellC 3 19 218 5 3 (List.map en_api_RoundTower []) [.ref 19, .val (.slice none 0 0), .ref 2, .val (.int .i64 1), .val (.int .i64 0)] rfl rfl rfl ?_
  refine nilCellC 4 20 37 1 3 (List.map en_Lint []) [.ref 19, .ref 20, .ref 2, .val (.int .i64 1), .val (.int .i64 0)] rfl rfl rfl ?_
  refine subJ [(4, 16), (5, 17), (6, 18), (7, 19), (8, 20)] (ok_top_pubGoing_l0 _ _ _ _ _ _ _ _ _ _ _ _ _ h) ?_ ?_ ?_
  · exact ⟨rfl, rfl, rfl, rfl, trivial⟩
  · exact ⟨mem_at 8 rfl, mem_at 4 rfl, mem_at 3 rfl, mem_at 2 rfl, mem_at 7 rfl, mem_at 1 rfl, mem_at 0 rfl, mem_at 5 rfl, mem_at 6 rfl, trivial⟩
  · rfl
/- top_pubWound -/
def ev_top_pubWound_j1 (n : Nat) (l6 : List Int) (i5 : Int) (i4 : Int) (until3 : Int) (l7 : List (Int × (List Int))) (k_top_pubWound_l0 : Int → Int → (List Int) → (List (Int × (List Int))) → Option ((List (Int × (List Int))))) : Option ((List (Int × (List Int)))) :=
  idx l6 i5 fun x8 => chk (in64 x8) <| chk (in64 ((1 : Int) + (Int.tmod x8 9))) <| chk (in64 (i4 + ((1 : Int) + (Int.tmod x8 9)))) <| cond (decide (until3 < (i4 + ((1 : Int) + (Int.tmod x8 9))))) (some l7) (chk (room 32 (l7.length + ([((i4 + ((1 : Int) + (Int.tmod x8 9))), ([0] : List Int))] : List (Int × (List Int))).length)) <| chk (in64 (i5 + 1)) <| k_top_pubWound_l0 (i4 + ((1 : Int) + (Int.tmod x8 9))) (i5 + 1) l6 (l7 ++ ([((i4 + ((1 : Int) + (Int.tmod x8 9))), ([0] : List Int))] : List (Int × (List Int)))))
set_option maxRecDepth 100000 in
set_option maxHeartbeats 2000000 in
theorem ok_top_pubWound_j1 {n : Nat} {w0 : World} {R0 : Nat → Prop} {env0 : Env} {r : (List (Int × (List Int)))} {most2 : Int} {until3 : Int} {l6 : List Int} {i5 : Int} {i4 : Int} {l7 : List (Int × (List Int))} {k_top_pubWound_l0 : Int → Int → (List Int) → (List (Int × (List Int))) → Option ((List (Int × (List Int))))} (hk_top_pubWound_l0 : ∀ (i4 : Int) (i5 : Int) (l6 : List Int) (l7 : List (Int × (List Int))), k_top_pubWound_l0 i4 i5 l6 l7 = some r → TC Try.prog ⟨w0, fun _ => False, R0⟩ 42 (bodyPost Try.prog Try.f51 (Post ⟨w0, fun _ => False, R0⟩ env0 (.ref 0) [.row 0 147 2 (List.map en_api_RoundDay r)])) [.code (sub (bodyOf Try.f51) [1, 1, 0, 1, 0, 0, 0, 0]), .code (sub (bodyOf Try.f51) [1, 1, 0, 1, 0, 0, 0, 1]), .code (sub (bodyOf Try.f51) [1, 1, 0, 1, 0, 0, 1]), .inLoop (sub (bodyOf Try.f51) [1, 1, 0, 1, 0, 0]), .inBlock 0, .code (sub (bodyOf Try.f51) [1, 1, 1])] ([(0, .ref 0), (1, .val (.int .i64 most2)), (2, .val (.int .i64 until3)), (7, .ref 1), (8, .val (.int .i64 i4)), (9, .val (.int .i64 i5))]) ([.ro 0 1 (List.map en_uint8 l6), .row 1 147 2 (List.map en_api_RoundDay l7)])) (h : ev_top_pubWound_j1 n l6 i5 i4 until3 l7 k_top_pubWound_l0 = some r) : TC Try.prog ⟨w0, fun _ => False, R0⟩ 42 (bodyPost Try.prog Try.f51 (Post ⟨w0, fun _ => False, R0⟩ env0 (.ref 0) [.row 0 147 2 (List.map en_api_RoundDay r)])) [.code (sub (bodyOf Try.f51) [1, 1, 0, 1, 0, 0, 0, 1, 0]), .code (sub (bodyOf Try.f51) [1, 1, 0, 1, 0, 0, 1]), .inLoop (sub (bodyOf Try.f51) [1, 1, 0, 1, 0, 0]), .inBlock 0, .code (sub (bodyOf Try.f51) [1, 1, 1])] ([(0, .ref 0), (1, .val (.int .i64 most2)), (2, .val (.int .i64 until3)), (7, .ref 1), (8, .val (.int .i64 i4)), (9, .val (.int .i64 i5))]) ([.ro 0 1 (List.map en_uint8 l6), .row 1 147 2 (List.map en_api_RoundDay l7)]) := by
  rw [ev_top_pubWound_j1] at h
  refine TC.skip ?_
  refine TC.seq ?_
  refine TC.block ?_
  refine TC.seq ?_
  refine TC.seq ?_
  refine TC.region ?_
  refine op0 (sp_move rfl rfl) rfl trivial rfl rfl ?_
  refine op0 (sp_move rfl rfl) rfl trivial rfl rfl ?_
  refine op0 (sp_move rfl rfl) rfl trivial rfl rfl ?_
  obtain ⟨x8, h3, h4, h⟩ := idx_inv h
  refine op1 0 rfl (sp_indexS rfl rfl rfl isRo sl56 h3 (map_get _ h4)) rfl trivial rfl rfl ?_
  refine op1 0 rfl (sp_loadR (i := (i5 : Int).toNat) (j := 0) rfl rfl isRo vt5 rfl (map_get _ h4) rfl (.v (.nil)) (nodup_of_B rfl)) rfl trivial rfl rfl ?_
  obtain ⟨h5, h⟩ := chk_inv h
  refine op0 (sp_conv rfl Try.underlying5 Try.underlying3 rfl h5) rfl trivial rfl rfl ?_
  refine op0 (sp_rem rfl rfl rfl (by decide)) rfl trivial rfl rfl ?_
  obtain ⟨h6, h⟩ := chk_inv h
  refine op0 (sp_add rfl rfl rfl h6) rfl trivial rfl rfl ?_
  obtain ⟨h7, h⟩ := chk_inv h
  refine op0 (sp_add rfl rfl rfl h7) rfl trivial rfl rfl ?_
  refine op0 (sp_assign rfl rfl) rfl trivial rfl rfl ?_
  refine TL.nil ?_
  refine TC.seq ?_
  refine TC.region ?_
  refine op0 (sp_move rfl rfl) rfl trivial rfl rfl ?_
  refine op0 (sp_move rfl rfl) rfl trivial rfl rfl ?_
  refine op0 (sp_gtr rfl rfl rfl) rfl trivial rfl rfl ?_
  refine TL.nil ?_
  refine TC.cond (b := (decide (until3 < (i4 + ((1 : Int) + (Int.tmod x8 9)))))) rfl (fun h8 => ?_) (fun h8 => ?_)
  · have h := cond_t h h8
    refine TC.exit rfl ?_
    refine TC.seq ?_
    refine TC.region ?_
    refine op0 (sp_move rfl rfl) rfl trivial rfl rfl ?_
    refine op0 (sp_assign rfl rfl) rfl trivial rfl rfl ?_
    refine TL.nil ?_
    cases h
    exact retJ [(0, 1)] (.tmp rfl .nil) rfl ⟨mem_at 1 rfl, trivial⟩ rfl rfl
  · have h := cond_f h h8
    refine TC.skip ?_
    refine TC.region ?_
    refine op0 (sp_move rfl rfl) rfl trivial rfl rfl ?_
    refine op0 (sp_move rfl rfl) rfl trivial rfl rfl ?_
    refine op0 (sp_buildSlice (qs := [.val (.int .i64 0)]) (need := []) (els := List.map en_int ([0] : List Int)) 2 rfl sl37 (by decide) (by decide) rfl rfl rfl (.v (.nil)) (map_len fun _ => rfl) rfl rfl rfl) rfl trivial rfl rfl ?_
    refine op0 (sp_build (qs := [(0, .val (.int .i64 (i4 + ((1 : Int) + (Int.tmod x8 9))))), (1, .ref 2)]) rfl bt147 rfl rfl rfl rfl) rfl trivial rfl rfl ?_
    refine TL.freeze 0 rfl ?_
    refine op1 0 rfl (sp_buildSlice (qs := [.agg [.val (.int .i64 (i4 + ((1 : Int) + (Int.tmod x8 9)))), .ref 2]]) (need := [.ro 2 1 (List.map en_int ([0] : List Int))]) (els := List.map en_api_RoundDay ([((i4 + ((1 : Int) + (Int.tmod x8 9))), ([0] : List Int))] : List (Int × (List Int)))) 3 rfl sl143 (by decide) (by decide) rfl rfl rfl (.v (.s (mem_at 0 rfl) (.nil))) (map_len fun _ => rfl) rfl rfl rfl) rfl trivial rfl rfl ?_
    obtain ⟨h9, h⟩ := chk_inv h
    refine appM 3 0 (N := l7.length) (N2 := ([((i4 + ((1 : Int) + (Int.tmod x8 9))), ([0] : List Int))] : List (Int × (List Int))).length) 4 rfl rfl trivial rfl rfl rfl rfl rfl isOwn rfl sl143 (len_map _ _) (len_map _ _) h9 (map_app _ _ _) rfl ?_
    refine op0 (sp_assign rfl rfl) rfl trivial rfl rfl ?_
    refine TL.nil ?_
    refine TC.inBlock ?_
    refine TC.region ?_
    refine op0 (sp_move rfl rfl) rfl trivial rfl rfl ?_
    obtain ⟨h10, h⟩ := chk_inv h
    refine op0 (sp_add rfl rfl rfl h10) rfl trivial rfl rfl ?_
    refine op0 (sp_assign rfl rfl) rfl trivial rfl rfl ?_
    refine TL.nil ?_
    refine TC.inLoop ?_
    refine TC.seq ?_
    refine TC.seq ?_
    refine subJ [(1, 4)] (hk_top_pubWound_l0 _ _ _ _ h) ?_ ?_ ?_
    · exact ⟨rfl, rfl, rfl, rfl, rfl, rfl, trivial⟩
    · exact ⟨mem_at 3 rfl, mem_at 0 rfl, trivial⟩
    · rfl
def ev_top_pubWound_l0 (n : Nat) (most2 : Int) (until3 : Int) : Nat → Int → Int → (List Int) → (List (Int × (List Int))) → Option ((List (Int × (List Int))))
  | 0, _, _, _, _ => none
  | m + 1, i4, i5, l6, l7 => cond (decide (i5 < (l6.length : Int))) (cond (decide ((l7.length : Int) < most2)) (ev_top_pubWound_j1 n l6 i5 i4 until3 l7 (fun i4q i5q l6q l7q => ev_top_pubWound_l0 n most2 until3 m i4q i5q l6q l7q)) (some l7)) (some l7)
set_option maxRecDepth 100000 in
set_option maxHeartbeats 2000000 in
theorem ok_top_pubWound_l0 {n : Nat} {w0 : World} {R0 : Nat → Prop} {env0 : Env} {r : (List (Int × (List Int)))} {most2 : Int} {until3 : Int} : ∀ (m : Nat) (i4 : Int) (i5 : Int) (l6 : List Int) (l7 : List (Int × (List Int))), ev_top_pubWound_l0 n most2 until3 m i4 i5 l6 l7 = some r → TC Try.prog ⟨w0, fun _ => False, R0⟩ 42 (bodyPost Try.prog Try.f51 (Post ⟨w0, fun _ => False, R0⟩ env0 (.ref 0) [.row 0 147 2 (List.map en_api_RoundDay r)])) [.code (sub (bodyOf Try.f51) [1, 1, 0, 1, 0, 0, 0, 0]), .code (sub (bodyOf Try.f51) [1, 1, 0, 1, 0, 0, 0, 1]), .code (sub (bodyOf Try.f51) [1, 1, 0, 1, 0, 0, 1]), .inLoop (sub (bodyOf Try.f51) [1, 1, 0, 1, 0, 0]), .inBlock 0, .code (sub (bodyOf Try.f51) [1, 1, 1])] ([(0, .ref 0), (1, .val (.int .i64 most2)), (2, .val (.int .i64 until3)), (7, .ref 1), (8, .val (.int .i64 i4)), (9, .val (.int .i64 i5))]) ([.ro 0 1 (List.map en_uint8 l6), .row 1 147 2 (List.map en_api_RoundDay l7)]) := by
  intro m
  induction m with
  | zero => intro i4 i5 l6 l7 h; exact none_no h
  | succ m ih =>
    intro i4 i5 l6 l7 h
    rw [ev_top_pubWound_l0] at h
    refine TC.region ?_
    refine op0 (sp_move rfl rfl) rfl trivial rfl rfl ?_
    refine op0 (sp_move rfl rfl) rfl trivial rfl rfl ?_
    refine op1 0 rfl (sp_lenM (N := l6.length) (len_map _ _) rfl rfl isRo Try.underlying56) rfl trivial rfl rfl ?_
    refine op0 (sp_lss rfl rfl rfl) rfl trivial rfl rfl ?_
    refine op0 (sp_move rfl rfl) rfl trivial rfl rfl ?_
    rcases cond_cases h with ⟨h1, h⟩ | ⟨h1, h⟩
    · refine (boolLit 15 rfl h1).2 ?_
      refine op0 (sp_move rfl rfl) rfl ⟨_, rfl, rfl⟩ rfl rfl ?_
      refine op1 1 rfl (sp_lenM (N := l7.length) (len_map _ _) rfl rfl isOwn Try.underlying143) rfl ⟨_, rfl, rfl⟩ rfl rfl ?_
      refine op0 (sp_move rfl rfl) rfl ⟨_, rfl, rfl⟩ rfl rfl ?_
      refine op0 (sp_lss rfl rfl rfl) rfl ⟨_, rfl, rfl⟩ rfl rfl ?_
      refine op0 (sp_pickT rfl rfl rfl) rfl trivial rfl rfl ?_
      refine TL.nil ?_
      refine TC.cond (b := (decide ((l7.length : Int) < most2))) rfl (fun h2 => ?_) (fun h2 => ?_)
      · have h := cond_t h h2
        refine subJ [] (ok_top_pubWound_j1 (most2 := most2) ih h) ?_ ?_ ?_
        · exact ⟨rfl, rfl, rfl, rfl, rfl, rfl, trivial⟩
        · exact ⟨mem_at 0 rfl, mem_at 1 rfl, trivial⟩
        · rfl
      · have h := cond_f h h2
        refine TC.exit rfl ?_
        refine TC.seq ?_
        refine TC.region ?_
        refine op0 (sp_move rfl rfl) rfl trivial rfl rfl ?_
        refine op0 (sp_assign rfl rfl) rfl trivial rfl rfl ?_
        refine TL.nil ?_
        cases h
        exact retJ [(0, 1)] (.tmp rfl .nil) rfl ⟨mem_at 1 rfl, trivial⟩ rfl rfl
    · refine (boolLit 15 rfl h1).2 ?_
      refine opSkip rfl ⟨_, rfl, .inl rfl⟩ rfl ?_
      refine opSkip rfl ⟨_, rfl, .inl rfl⟩ rfl ?_
      refine opSkip rfl ⟨_, rfl, .inl rfl⟩ rfl ?_
      refine opSkip rfl ⟨_, rfl, .inl rfl⟩ rfl ?_
      refine op0 (sp_pickF rfl rfl rfl) rfl trivial rfl rfl ?_
      refine TL.nil ?_
      refine TC.condF rfl ?_
      refine TC.exit rfl ?_
      refine TC.seq ?_
      refine TC.region ?_
      refine op0 (sp_move rfl rfl) rfl trivial rfl rfl ?_
      refine op0 (sp_assign rfl rfl) rfl trivial rfl rfl ?_
      refine TL.nil ?_
      cases h
      exact retJ [(0, 1)] (.tmp rfl .nil) rfl ⟨mem_at 1 rfl, trivial⟩ rfl rfl
def ev_top_pubWound (n : Nat) (by_1 : List Int) (most2 : Int) (until3 : Int) : Option ((List (Int × (List Int)))) :=
  ev_top_pubWound_l0 n most2 until3 n 0 0 by_1 ([] : List (Int × (List Int)))
set_option maxRecDepth 100000 in
set_option maxHeartbeats 2000000 in
theorem fc_top_pubWound {n : Nat} {by_1 : List Int} {most2 : Int} {until3 : Int} {r : (List (Int × (List Int)))} (h : ev_top_pubWound n by_1 most2 until3 = some r) : FC Try.prog 51 [.ref 0, .val (.int .i64 most2), .val (.int .i64 until3)] [.ro 0 1 (List.map en_uint8 by_1)] (.ref 0) [.row 0 147 2 (List.map en_api_RoundDay r)] := by
  refine introJ (nz := 42) Try.func51 rfl rfl rfl (fun w0 R0 env0 => ?_)
  rw [ev_top_pubWound] at h
  refine TC.seq ?_
  refine TC.region ?_
  refine op0 (sp_assign rfl rfl) rfl trivial rfl rfl ?_
  refine TL.nil ?_
  refine TC.seq ?_
  refine TC.region ?_
  refine op0 (sp_emptyM 1 (List.map en_api_RoundDay []) rfl rfl sl143) rfl trivial rfl rfl ?_
  refine op0 (sp_assign rfl rfl) rfl trivial rfl rfl ?_
  refine op0 (sp_assign rfl rfl) rfl trivial rfl rfl ?_
  refine TL.nil ?_
  refine TC.seq ?_
  refine TC.seq ?_
  refine TC.region ?_
  refine op0 (sp_assign rfl rfl) rfl trivial rfl rfl ?_
  refine TL.nil ?_
  refine TC.block ?_
  refine TC.loop ?_
  refine TC.seq ?_
  refine TC.seq ?_
  refine subJ [] (ok_top_pubWound_l0 _ _ _ _ _ h) ?_ ?_ ?_
  · exact ⟨rfl, rfl, rfl, rfl, rfl, rfl, trivial⟩
  · exact ⟨mem_at 1 rfl, mem_at 0 rfl, trivial⟩
  · rfl
/- slices_IndexFunc_Lapi_RoundTower_api_RoundTower -/
def ev_slices_IndexFunc_Lapi_RoundTower_api_RoundTower_l0 (n : Nat) (s1 : List (Int × Int × Int × Int × Int)) (f2 : (Int × Int × Int × Int × Int) → Option Bool) : Nat → Int → Option Int
  | 0, _ => none
  | m + 1, i3 => cond (decide (i3 < (s1.length : Int))) (idx s1 i3 fun x4 => (f2 (x4.1, x4.2.1, x4.2.2.1, x4.2.2.2.1, x4.2.2.2.2)).bind fun r5 => cond r5 (some i3) (chk (in64 (i3 + 1)) <| ev_slices_IndexFunc_Lapi_RoundTower_api_RoundTower_l0 n s1 f2 m (i3 + 1))) (some (-1))
set_option maxRecDepth 100000 in
set_option maxHeartbeats 2000000 in
theorem ok_slices_IndexFunc_Lapi_RoundTower_api_RoundTower_l0 {n : Nat} {w0 : World} {R0 : Nat → Prop} {env0 : Env} {r : Int} {s1 : List (Int × Int × Int × Int × Int)} {f2 : (Int × Int × Int × Int × Int) → Option Bool} : ∀ (m : Nat) (i3 : Int), ev_slices_IndexFunc_Lapi_RoundTower_api_RoundTower_l0 n s1 f2 m i3 = some r → TC Try.prog ⟨w0, fun _ => False, R0⟩ 19 (bodyPost Try.prog Try.f239 (Post ⟨w0, fun _ => False, R0⟩ env0 (.val (.int .i64 r)) [])) [.code (sub (bodyOf Try.f239) [1, 0, 1, 0, 0, 0]), .code (sub (bodyOf Try.f239) [1, 0, 1, 0, 0, 1]), .inLoop (sub (bodyOf Try.f239) [1, 0, 1, 0, 0]), .inBlock 0, .code (sub (bodyOf Try.f239) [1, 1])] ([(0, .ref 0), (1, .ref 1), (7, .val (.int .i64 (s1.length : Int))), (8, .val (.int .i64 i3))]) ([.ro 0 5 (List.map en_api_RoundTower s1), .any 1 (D.fn Try.prog fe_funcapi_RoundTower_bool fd_funcapi_RoundTower_bool f2)]) := by
  intro m
  induction m with
  | zero => intro i3 h; exact none_no h
  | succ m ih =>
    intro i3 h
    rw [ev_slices_IndexFunc_Lapi_RoundTower_api_RoundTower_l0] at h
    refine TC.region ?_
    refine op0 (sp_lss rfl rfl rfl) rfl trivial rfl rfl ?_
    refine TL.nil ?_
    refine TC.seq ?_
    refine TC.cond (b := (decide (i3 < (s1.length : Int)))) rfl (fun h1 => ?_) (fun h1 => ?_)
    · have h := cond_t h h1
      refine TC.skip ?_
      refine TC.seq ?_
      refine TC.block ?_
      refine TC.seq ?_
      refine TC.region ?_
      refine op0 (sp_move rfl rfl) rfl trivial rfl rfl ?_
      refine op0 (sp_assign rfl rfl) rfl trivial rfl rfl ?_
      refine TL.nil ?_
      refine TC.seq ?_
      refine TC.region ?_
      refine op0 (sp_move rfl rfl) rfl trivial rfl rfl ?_
      refine op0 (sp_move rfl rfl) rfl trivial rfl rfl ?_
      refine op0 (sp_move rfl rfl) rfl trivial rfl rfl ?_
      obtain ⟨x4, h2, h3, h⟩ := idx_inv h
      refine op1 0 rfl (sp_indexS rfl rfl rfl isRo sl70 h2 (map_get _ h3)) rfl trivial rfl rfl ?_
      refine op1 0 rfl (sp_loadRA (i := (i3 : Int).toNat) (j := 0) (as_ := [.val (.int .i64 x4.1), .val (.int .i64 x4.2.1), .val (.int .u16 x4.2.2.1), .val (.int .i64 x4.2.2.2.1), .val (.int .i64 x4.2.2.2.2)]) (ns := []) rfl rfl isRo vt218 rfl (map_get _ h3) rfl rfl (by decide) (.v (.v (.v (.v (.v (.nil)))))) (nodup_of_B rfl)) rfl trivial rfl rfl ?_
      obtain ⟨r5, h4, h⟩ := bind_inv h
      refine op1 1 rfl (sp_callF (avs := [.agg [.val (.int .i64 x4.1), .val (.int .i64 x4.2.1), .val (.int .u16 x4.2.2.1), .val (.int .i64 x4.2.2.2.1), .val (.int .i64 x4.2.2.2.2)]]) (v := .val (.bool r5)) (x4.1, x4.2.1, x4.2.2.1, x4.2.2.2.1, x4.2.2.2.2) rfl rfl rfl rfl rfl h4) rfl trivial rfl rfl ?_
      refine TL.nil ?_
      refine TC.cond (b := r5) rfl (fun h5 => ?_) (fun h5 => ?_)
      · have h := cond_t h h5
        refine TC.seq ?_
        refine TC.region ?_
        refine op0 (sp_move rfl rfl) rfl trivial rfl rfl ?_
        refine op0 (sp_assign rfl rfl) rfl trivial rfl rfl ?_
        refine TL.nil ?_
        cases h
        exact retJ [] (.tmp rfl .nil) rfl trivial rfl rfl
      · have h := cond_f h h5
        refine TC.skip ?_
        refine TC.inBlock ?_
        refine TC.region ?_
        obtain ⟨h6, h⟩ := chk_inv h
        refine op0 (sp_add rfl rfl rfl h6) rfl trivial rfl rfl ?_
        refine op0 (sp_move rfl rfl) rfl trivial rfl rfl ?_
        refine TL.nil ?_
        refine TC.inLoop ?_
        refine TC.seq ?_
        refine subJ [] (ih _ h) ?_ ?_ ?_
        · exact ⟨rfl, rfl, rfl, rfl, trivial⟩
        · exact ⟨mem_at 0 rfl, mem_at 1 rfl, trivial⟩
        · rfl
    · have h := cond_f h h1
      refine TC.exit rfl ?_
      refine TC.seq ?_
      refine TC.region ?_
      refine op0 (sp_assign rfl rfl) rfl trivial rfl rfl ?_
      refine TL.nil ?_
      cases h
      exact retJ [] (.tmp rfl .nil) rfl trivial rfl rfl
def ev_slices_IndexFunc_Lapi_RoundTower_api_RoundTower (n : Nat) (s1 : List (Int × Int × Int × Int × Int)) (f2 : (Int × Int × Int × Int × Int) → Option Bool) : Option Int :=
  ev_slices_IndexFunc_Lapi_RoundTower_api_RoundTower_l0 n s1 f2 n 0
set_option maxRecDepth 100000 in
set_option maxHeartbeats 2000000 in
theorem fc_slices_IndexFunc_Lapi_RoundTower_api_RoundTower {n : Nat} {s1 : List (Int × Int × Int × Int × Int)} {f2 : (Int × Int × Int × Int × Int) → Option Bool} {r : Int} (h : ev_slices_IndexFunc_Lapi_RoundTower_api_RoundTower n s1 f2 = some r) : FC Try.prog 239 [.ref 0, .ref 1] [.ro 0 5 (List.map en_api_RoundTower s1), .any 1 (D.fn Try.prog fe_funcapi_RoundTower_bool fd_funcapi_RoundTower_bool f2)] (.val (.int .i64 r)) [] := by
  refine introJ (nz := 19) Try.func239 rfl rfl rfl (fun w0 R0 env0 => ?_)
  rw [ev_slices_IndexFunc_Lapi_RoundTower_api_RoundTower] at h
  refine TC.seq ?_
  refine TC.region ?_
  refine op0 (sp_assign rfl rfl) rfl trivial rfl rfl ?_
  refine TL.nil ?_
  refine TC.seq ?_
  refine TC.seq ?_
  refine TC.region ?_
  refine op0 (sp_move rfl rfl) rfl trivial rfl rfl ?_
  refine op1 0 rfl (sp_lenM (N := s1.length) (len_map _ _) rfl rfl isRo Try.underlying70) rfl trivial rfl rfl ?_
  refine op0 (sp_move rfl rfl) rfl trivial rfl rfl ?_
  refine TL.nil ?_
  refine TC.block ?_
  refine TC.loop ?_
  refine TC.seq ?_
  refine subJ [] (ok_slices_IndexFunc_Lapi_RoundTower_api_RoundTower_l0 _ _ h) ?_ ?_ ?_
  · exact ⟨rfl, rfl, rfl, rfl, trivial⟩
  · exact ⟨mem_at 0 rfl, mem_at 1 rfl, trivial⟩
  · rfl
/- slices_ContainsFunc_Lapi_RoundTower_api_RoundTower -/
def ev_slices_ContainsFunc_Lapi_RoundTower_api_RoundTower (n : Nat) (s1 : List (Int × Int × Int × Int × Int)) (f2 : (Int × Int × Int × Int × Int) → Option Bool) : Option Bool :=
  (ev_slices_IndexFunc_Lapi_RoundTower_api_RoundTower n s1 f2).bind fun r3 => some (decide ((0 : Int) ≤ r3))
set_option maxRecDepth 100000 in
set_option maxHeartbeats 2000000 in
theorem fc_slices_ContainsFunc_Lapi_RoundTower_api_RoundTower {n : Nat} {s1 : List (Int × Int × Int × Int × Int)} {f2 : (Int × Int × Int × Int × Int) → Option Bool} {r : Bool} (h : ev_slices_ContainsFunc_Lapi_RoundTower_api_RoundTower n s1 f2 = some r) : FC Try.prog 154 [.ref 0, .ref 1] [.ro 0 5 (List.map en_api_RoundTower s1), .any 1 (D.fn Try.prog fe_funcapi_RoundTower_bool fd_funcapi_RoundTower_bool f2)] (.val (.bool r)) [] := by
  refine introJ (nz := 9) Try.func154 rfl rfl rfl (fun w0 R0 env0 => ?_)
  rw [ev_slices_ContainsFunc_Lapi_RoundTower_api_RoundTower] at h
  refine TC.seq ?_
  refine TC.region ?_
  refine op0 (sp_assign rfl rfl) rfl trivial rfl rfl ?_
  refine TL.nil ?_
  refine TC.seq ?_
  refine TC.region ?_
  refine op0 (sp_move rfl rfl) rfl trivial rfl rfl ?_
  refine op0 (sp_move rfl rfl) rfl trivial rfl rfl ?_
  obtain ⟨r3, h1, h⟩ := bind_inv h
  refine opN (need := [.ro 0 5 (List.map en_api_RoundTower s1), .any 1 (D.fn Try.prog fe_funcapi_RoundTower_bool fd_funcapi_RoundTower_bool f2)]) [0, 1] ⟨rfl, rfl, trivial⟩ (sp_call (avs := [.ref 0, .ref 1]) (need := [.ro 0 5 (List.map en_api_RoundTower s1), .any 1 (D.fn Try.prog fe_funcapi_RoundTower_bool fd_funcapi_RoundTower_bool f2)]) (v := .val (.int .i64 r3)) (news := []) rfl rfl rfl Try.call239 (atJ [] [] (fc_slices_IndexFunc_Lapi_RoundTower_api_RoundTower h1) rfl rfl) (.inl (roAll rfl))) rfl trivial rfl rfl ?_
  refine op0 (sp_geq rfl rfl rfl) rfl trivial rfl rfl ?_
  refine op0 (sp_assign rfl rfl) rfl trivial rfl rfl ?_
  refine TL.nil ?_
  cases h
  exact retJ [] (.tmp rfl .nil) rfl trivial rfl rfl
/- slices_IndexFunc_Lapi_RoundWinder_api_RoundWinder -/
def ev_slices_IndexFunc_Lapi_RoundWinder_api_RoundWinder_l0 (n : Nat) (s1 : List (Int × Int × Int × Int)) (f2 : (Int × Int × Int × Int) → Option Bool) : Nat → Int → Option Int
  | 0, _ => none
  | m + 1, i3 => cond (decide (i3 < (s1.length : Int))) (idx s1 i3 fun x4 => (f2 (x4.1, x4.2.1, x4.2.2.1, x4.2.2.2)).bind fun r5 => cond r5 (some i3) (chk (in64 (i3 + 1)) <| ev_slices_IndexFunc_Lapi_RoundWinder_api_RoundWinder_l0 n s1 f2 m (i3 + 1))) (some (-1))
set_option maxRecDepth 100000 in
set_option maxHeartbeats 2000000 in
theorem ok_slices_IndexFunc_Lapi_RoundWinder_api_RoundWinder_l0 {n : Nat} {w0 : World} {R0 : Nat → Prop} {env0 : Env} {r : Int} {s1 : List (Int × Int × Int × Int)} {f2 : (Int × Int × Int × Int) → Option Bool} : ∀ (m : Nat) (i3 : Int), ev_slices_IndexFunc_Lapi_RoundWinder_api_RoundWinder_l0 n s1 f2 m i3 = some r → TC Try.prog ⟨w0, fun _ => False, R0⟩ 19 (bodyPost Try.prog Try.f241 (Post ⟨w0, fun _ => False, R0⟩ env0 (.val (.int .i64 r)) [])) [.code (sub (bodyOf Try.f241) [1, 0, 1, 0, 0, 0]), .code (sub (bodyOf Try.f241) [1, 0, 1, 0, 0, 1]), .inLoop (sub (bodyOf Try.f241) [1, 0, 1, 0, 0]), .inBlock 0, .code (sub (bodyOf Try.f241) [1, 1])] ([(0, .ref 0), (1, .ref 1), (7, .val (.int .i64 (s1.length : Int))), (8, .val (.int .i64 i3))]) ([.ro 0 4 (List.map en_api_RoundWinder s1), .any 1 (D.fn Try.prog fe_funcapi_RoundWinder_bool fd_funcapi_RoundWinder_bool f2)]) := by
  intro m
  induction m with
  | zero => intro i3 h; exact none_no h
  | succ m ih =>
    intro i3 h
    rw [ev_slices_IndexFunc_Lapi_RoundWinder_api_RoundWinder_l0] at h
    refine TC.region ?_
    refine op0 (sp_lss rfl rfl rfl) rfl trivial rfl rfl ?_
    refine TL.nil ?_
    refine TC.seq ?_
    refine TC.cond (b := (decide (i3 < (s1.length : Int)))) rfl (fun h1 => ?_) (fun h1 => ?_)
    · have h := cond_t h h1
      refine TC.skip ?_
      refine TC.seq ?_
      refine TC.block ?_
      refine TC.seq ?_
      refine TC.region ?_
      refine op0 (sp_move rfl rfl) rfl trivial rfl rfl ?_
      refine op0 (sp_assign rfl rfl) rfl trivial rfl rfl ?_
      refine TL.nil ?_
      refine TC.seq ?_
      refine TC.region ?_
      refine op0 (sp_move rfl rfl) rfl trivial rfl rfl ?_
      refine op0 (sp_move rfl rfl) rfl trivial rfl rfl ?_
      refine op0 (sp_move rfl rfl) rfl trivial rfl rfl ?_
      obtain ⟨x4, h2, h3, h⟩ := idx_inv h
      refine op1 0 rfl (sp_indexS rfl rfl rfl isRo sl72 h2 (map_get _ h3)) rfl trivial rfl rfl ?_
      refine op1 0 rfl (sp_loadRA (i := (i3 : Int).toNat) (j := 0) (as_ := [.val (.int .u16 x4.1), .val (.int .i64 x4.2.1), .val (.int .i64 x4.2.2.1), .val (.int .i64 x4.2.2.2)]) (ns := []) rfl rfl isRo vt213 rfl (map_get _ h3) rfl rfl (by decide) (.v (.v (.v (.v (.nil))))) (nodup_of_B rfl)) rfl trivial rfl rfl ?_
      obtain ⟨r5, h4, h⟩ := bind_inv h
      refine op1 1 rfl (sp_callF (avs := [.agg [.val (.int .u16 x4.1), .val (.int .i64 x4.2.1), .val (.int .i64 x4.2.2.1), .val (.int .i64 x4.2.2.2)]]) (v := .val (.bool r5)) (x4.1, x4.2.1, x4.2.2.1, x4.2.2.2) rfl rfl rfl rfl rfl h4) rfl trivial rfl rfl ?_
      refine TL.nil ?_
      refine TC.cond (b := r5) rfl (fun h5 => ?_) (fun h5 => ?_)
      · have h := cond_t h h5
        refine TC.seq ?_
        refine TC.region ?_
        refine op0 (sp_move rfl rfl) rfl trivial rfl rfl ?_
        refine op0 (sp_assign rfl rfl) rfl trivial rfl rfl ?_
        refine TL.nil ?_
        cases h
        exact retJ [] (.tmp rfl .nil) rfl trivial rfl rfl
      · have h := cond_f h h5
        refine TC.skip ?_
        refine TC.inBlock ?_
        refine TC.region ?_
        obtain ⟨h6, h⟩ := chk_inv h
        refine op0 (sp_add rfl rfl rfl h6) rfl trivial rfl rfl ?_
        refine op0 (sp_move rfl rfl) rfl trivial rfl rfl ?_
        refine TL.nil ?_
        refine TC.inLoop ?_
        refine TC.seq ?_
        refine subJ [] (ih _ h) ?_ ?_ ?_
        · exact ⟨rfl, rfl, rfl, rfl, trivial⟩
        · exact ⟨mem_at 0 rfl, mem_at 1 rfl, trivial⟩
        · rfl
    · have h := cond_f h h1
      refine TC.exit rfl ?_
      refine TC.seq ?_
      refine TC.region ?_
      refine op0 (sp_assign rfl rfl) rfl trivial rfl rfl ?_
      refine TL.nil ?_
      cases h
      exact retJ [] (.tmp rfl .nil) rfl trivial rfl rfl
def ev_slices_IndexFunc_Lapi_RoundWinder_api_RoundWinder (n : Nat) (s1 : List (Int × Int × Int × Int)) (f2 : (Int × Int × Int × Int) → Option Bool) : Option Int :=
  ev_slices_IndexFunc_Lapi_RoundWinder_api_RoundWinder_l0 n s1 f2 n 0
set_option maxRecDepth 100000 in
set_option maxHeartbeats 2000000 in
theorem fc_slices_IndexFunc_Lapi_RoundWinder_api_RoundWinder {n : Nat} {s1 : List (Int × Int × Int × Int)} {f2 : (Int × Int × Int × Int) → Option Bool} {r : Int} (h : ev_slices_IndexFunc_Lapi_RoundWinder_api_RoundWinder n s1 f2 = some r) : FC Try.prog 241 [.ref 0, .ref 1] [.ro 0 4 (List.map en_api_RoundWinder s1), .any 1 (D.fn Try.prog fe_funcapi_RoundWinder_bool fd_funcapi_RoundWinder_bool f2)] (.val (.int .i64 r)) [] := by
  refine introJ (nz := 19) Try.func241 rfl rfl rfl (fun w0 R0 env0 => ?_)
  rw [ev_slices_IndexFunc_Lapi_RoundWinder_api_RoundWinder] at h
  refine TC.seq ?_
  refine TC.region ?_
  refine op0 (sp_assign rfl rfl) rfl trivial rfl rfl ?_
  refine TL.nil ?_
  refine TC.seq ?_
  refine TC.seq ?_
  refine TC.region ?_
  refine op0 (sp_move rfl rfl) rfl trivial rfl rfl ?_
  refine op1 0 rfl (sp_lenM (N := s1.length) (len_map _ _) rfl rfl isRo Try.underlying72) rfl trivial rfl rfl ?_
  refine op0 (sp_move rfl rfl) rfl trivial rfl rfl ?_
  refine TL.nil ?_
  refine TC.block ?_
  refine TC.loop ?_
  refine TC.seq ?_
  refine subJ [] (ok_slices_IndexFunc_Lapi_RoundWinder_api_RoundWinder_l0 _ _ h) ?_ ?_ ?_
  · exact ⟨rfl, rfl, rfl, rfl, trivial⟩
  · exact ⟨mem_at 0 rfl, mem_at 1 rfl, trivial⟩
  · rfl
/- slices_ContainsFunc_Lapi_RoundWinder_api_RoundWinder -/
def ev_slices_ContainsFunc_Lapi_RoundWinder_api_RoundWinder (n : Nat) (s1 : List (Int × Int × Int × Int)) (f2 : (Int × Int × Int × Int) → Option Bool) : Option Bool :=
  (ev_slices_IndexFunc_Lapi_RoundWinder_api_RoundWinder n s1 f2).bind fun r3 => some (decide ((0 : Int) ≤ r3))
set_option maxRecDepth 100000 in
set_option maxHeartbeats 2000000 in
theorem fc_slices_ContainsFunc_Lapi_RoundWinder_api_RoundWinder {n : Nat} {s1 : List (Int × Int × Int × Int)} {f2 : (Int × Int × Int × Int) → Option Bool} {r : Bool} (h : ev_slices_ContainsFunc_Lapi_RoundWinder_api_RoundWinder n s1 f2 = some r) : FC Try.prog 157 [.ref 0, .ref 1] [.ro 0 4 (List.map en_api_RoundWinder s1), .any 1 (D.fn Try.prog fe_funcapi_RoundWinder_bool fd_funcapi_RoundWinder_bool f2)] (.val (.bool r)) [] := by
  refine introJ (nz := 9) Try.func157 rfl rfl rfl (fun w0 R0 env0 => ?_)
  rw [ev_slices_ContainsFunc_Lapi_RoundWinder_api_RoundWinder] at h
  refine TC.seq ?_
  refine TC.region ?_
  refine op0 (sp_assign rfl rfl) rfl trivial rfl rfl ?_
  refine TL.nil ?_
  refine TC.seq ?_
  refine TC.region ?_
  refine op0 (sp_move rfl rfl) rfl trivial rfl rfl ?_
  refine op0 (sp_move rfl rfl) rfl trivial rfl rfl ?_
  obtain ⟨r3, h1, h⟩ := bind_inv h
  refine opN (need := [.ro 0 4 (List.map en_api_RoundWinder s1), .any 1 (D.fn Try.prog fe_funcapi_RoundWinder_bool fd_funcapi_RoundWinder_bool f2)]) [0, 1] ⟨rfl, rfl, trivial⟩ (sp_call (avs := [.ref 0, .ref 1]) (need := [.ro 0 4 (List.map en_api_RoundWinder s1), .any 1 (D.fn Try.prog fe_funcapi_RoundWinder_bool fd_funcapi_RoundWinder_bool f2)]) (v := .val (.int .i64 r3)) (news := []) rfl rfl rfl Try.call241 (atJ [] [] (fc_slices_IndexFunc_Lapi_RoundWinder_api_RoundWinder h1) rfl rfl) (.inl (roAll rfl))) rfl trivial rfl rfl ?_
  refine op0 (sp_geq rfl rfl rfl) rfl trivial rfl rfl ?_
  refine op0 (sp_assign rfl rfl) rfl trivial rfl rfl ?_
  refine TL.nil ?_
  cases h
  exact retJ [] (.tmp rfl .nil) rfl trivial rfl rfl
/- slices_Values_Lint_int -/
def ev_slices_Values_Lint_int (n : Nat) (s1 : List Int) : Option ((List Int)) :=
  some s1
set_option maxRecDepth 100000 in
set_option maxHeartbeats 2000000 in
theorem fc_slices_Values_Lint_int {n : Nat} {s1 : List Int} {r : (List Int)} (h : ev_slices_Values_Lint_int n s1 = some r) : FC Try.prog 85 [.ref 0] [.ro 0 1 (List.map en_int s1)] (.fn 150 [] [.ptr 0 0]) [.blk 0 [.ref 1] 37, .ro 1 1 (List.map en_int r)] := by
  refine introJ (nz := 4) Try.func85 rfl rfl rfl (fun w0 R0 env0 => ?_)
  rw [ev_slices_Values_Lint_int] at h
  refine TC.seq ?_
  refine TC.region ?_
  refine op0 (sp_box 1 rfl rfl rfl rfl rfl) rfl trivial rfl rfl ?_
  refine op0 (sp_assign rfl rfl) rfl trivial rfl rfl ?_
  refine TL.nil ?_
  refine TC.seq ?_
  refine TC.region ?_
  refine op0 (sp_makeFunc (fi := []) (ca := [.tmp 1]) (fa := []) (cb := [.ptr 1 0]) rfl rfl rfl) rfl trivial rfl rfl ?_
  refine op0 (sp_assign rfl rfl) rfl trivial rfl rfl ?_
  refine TL.nil ?_
  cases h
  exact retJ [(0, 1), (1, 0)] (.tmp rfl .nil) rfl ⟨mem_at 0 rfl, mem_at 1 rfl, trivial⟩ rfl rfl
/- slices_Values_Lint_int_1 -/
def ev_slices_Values_Lint_int_1_l0 {σ1 : Type} (yb1 : Int → σ1 → Option (Bool × σ1)) (n : Nat) (c2 : List Int) : Nat → Int → σ1 → Option σ1
  | 0, _, _ => none
  | m + 1, i3, y4 => cond (decide (i3 < (c2.length : Int))) (idx c2 i3 fun x5 => (yb1 x5 y4).bind fun r6 => cond (!r6.1) (some r6.2) (chk (in64 (i3 + 1)) <| ev_slices_Values_Lint_int_1_l0 yb1 n c2 m (i3 + 1) r6.2)) (some y4)
set_option maxRecDepth 100000 in
set_option maxHeartbeats 2000000 in
theorem ok_slices_Values_Lint_int_1_l0 {σ1 : Type} {yb1 : Int → σ1 → Option (Bool × σ1)} {I1 : σ1 → Inv} (hI1 : Yields Try.prog ye_funcint_bool yn_funcint_bool yb1 I1) {n : Nat} {w0 : World} {M0 R0 : Nat → Prop} {env0 : Env} {df : List Deferred} {r : σ1} {c2 : List Int} : ∀ (m : Nat) (i3 : Int) (y4 : σ1), ev_slices_Values_Lint_int_1_l0 yb1 n c2 m i3 y4 = some r → TC Try.prog ⟨w0, M0, R0⟩ ⟨16, none, df⟩ (bodyPostM Fence.wide 0 Try.prog Try.f150 (PostT ⟨w0, M0, R0⟩ env0 [0] (.tup []) [.inv 0 (I1 r)])) [.code (sub (bodyOf Try.f150) [1, 0, 0, 0]), .code (sub (bodyOf Try.f150) [1, 0, 0, 1]), .inLoop (sub (bodyOf Try.f150) [1, 0, 0]), .inBlock 0] ([(0, .ref 0), (5, .ref 2), (6, .val (.int .i64 (c2.length : Int))), (7, .val (.int .i64 i3))]) ([.ro 2 1 (List.map en_int c2), .inv 3 (marksI df), .pin 4 0 (env0 0), .inv 0 (I1 y4)]) := by
  intro m
  induction m with
  | zero => intro i3 y4 h; exact none_no h
  | succ m ih =>
    intro i3 y4 h
    rw [ev_slices_Values_Lint_int_1_l0] at h
    refine TC.region ?_
    refine op0 (sp_lss rfl rfl rfl) rfl trivial rfl rfl ?_
    refine TL.nil ?_
    refine TC.seq ?_
    refine TC.cond (b := (decide (i3 < (c2.length : Int)))) rfl (fun h1 => ?_) (fun h1 => ?_)
    · have h := cond_t h h1
      refine TC.skip ?_
      refine TC.seq ?_
      refine TC.block ?_
      refine TC.seq ?_
      refine TC.region ?_
      obtain ⟨x5, h2, h3, h⟩ := idx_inv h
      refine op1 0 rfl (sp_indexS rfl rfl rfl isRo sl37 h2 (map_get _ h3)) rfl trivial rfl rfl ?_
      refine op1 0 rfl (sp_loadR (i := (i3 : Int).toNat) (j := 0) rfl rfl isRo vt3 rfl (map_get _ h3) rfl (.v (.nil)) (nodup_of_B rfl)) rfl trivial rfl rfl ?_
      refine op0 (sp_assign rfl rfl) rfl trivial rfl rfl ?_
      refine TL.nil ?_
      refine TC.seq ?_
      refine TC.region ?_
      refine op0 (sp_move rfl rfl) rfl trivial rfl rfl ?_
      refine op0 (sp_move rfl rfl) rfl trivial rfl rfl ?_
      obtain ⟨r6, h4, h⟩ := bind_inv h
      refine opT (take := [.inv 0 (I1 y4)]) (need := []) (V' := [.inv 0 (I1 r6.2), .ro 2 1 (List.map en_int c2), .inv 3 (marksI df), .pin 4 0 (env0 0)]) [3] [] (ts_yield hI1 (x := x5) (b := r6.1) (avs := [.val (.int .i64 x5)]) (need := []) [] h4 rfl rfl rfl rfl rfl rfl) trivial rfl ⟨rfl, trivial⟩ trivial rfl rfl ?_
      refine op0 (sp_not rfl rfl) rfl trivial rfl rfl ?_
      refine TL.nil ?_
      refine TC.cond (b := (!r6.1)) rfl (fun h5 => ?_) (fun h5 => ?_)
      · have h := cond_t h h5
        cases h
        exact retM [] 2 3 [0] rfl (.nil) rfl ⟨mem_at 0 rfl, trivial⟩ rfl rfl ⟨⟨_, mem_at 2 rfl⟩, trivial⟩ rfl
      · have h := cond_f h h5
        refine TC.skip ?_
        refine TC.inBlock ?_
        refine TC.region ?_
        obtain ⟨h6, h⟩ := chk_inv h
        refine op0 (sp_add rfl rfl rfl h6) rfl trivial rfl rfl ?_
        refine op0 (sp_move rfl rfl) rfl trivial rfl rfl ?_
        refine TL.nil ?_
        refine TC.inLoop ?_
        refine TC.seq ?_
        refine subJ [] (ih _ _ h) ?_ ?_ ?_
        · exact ⟨rfl, rfl, rfl, rfl, trivial⟩
        · exact ⟨mem_at 1 rfl, mem_at 2 rfl, mem_at 3 rfl, mem_at 0 rfl, trivial⟩
        · rfl
    · have h := cond_f h h1
      refine TC.exit rfl ?_
      cases h
      exact endM [] 1 3 [0] rfl (.nil) rfl ⟨mem_at 2 rfl, trivial⟩ rfl rfl ⟨⟨_, mem_at 1 rfl⟩, trivial⟩ rfl
def ev_slices_Values_Lint_int_1 {σ1 : Type} (yb1 : Int → σ1 → Option (Bool × σ1)) (n : Nat) (y1 : σ1) (c2 : List Int) : Option σ1 :=
  ev_slices_Values_Lint_int_1_l0 yb1 n c2 n 0 y1
set_option maxRecDepth 100000 in
set_option maxHeartbeats 2000000 in
theorem ft_slices_Values_Lint_int_1 {σ1 : Type} {yb1 : Int → σ1 → Option (Bool × σ1)} {I1 : σ1 → Inv} (hI1 : Yields Try.prog ye_funcint_bool yn_funcint_bool yb1 I1) {n : Nat} {y1 : σ1} {c2 : List Int} {r : σ1} (h : ev_slices_Values_Lint_int_1 yb1 n y1 c2 = some r) : FT Try.prog 150 [.ref 0, .ptr 1 0] [.inv 0 (I1 y1)] [.rob 1 [.ref 2] 37, .ro 2 1 (List.map en_int c2)] (.tup []) [.inv 0 (I1 r)] := by
  refine introM (nz := 16) 3 [(4, 0)] Try.func150 rfl rfl rfl rfl (fun w0 M0 R0 env0 => ?_)
  rw [ev_slices_Values_Lint_int_1] at h
  refine TC.seq ?_
  refine TC.region ?_
  refine op1 3 rfl (sp_loadB rfl isRob rfl vt37 rfl) rfl trivial rfl rfl ?_
  refine op1 4 rfl (sp_lenM (N := c2.length) (len_map _ _) rfl rfl isRo Try.underlying37) rfl trivial rfl rfl ?_
  refine op0 (sp_move rfl rfl) rfl trivial rfl rfl ?_
  refine TL.nil ?_
  refine TC.block ?_
  refine TC.loop ?_
  refine TC.seq ?_
  refine subJ [] (ok_slices_Values_Lint_int_1_l0 hI1 _ _ _ h) ?_ ?_ ?_
  · exact ⟨rfl, rfl, rfl, rfl, trivial⟩
  · exact ⟨mem_at 4 rfl, mem_at 0 rfl, mem_at 1 rfl, mem_at 2 rfl, trivial⟩
  · rfl
/- slices_AppendSeq_Lint_int -/
def ev_slices_AppendSeq_Lint_int_r0 (n : Nat) (x4 : Int) (y5 : (List Int)) : Option (Nat × ((List Int))) :=
  chk (room 8 (y5.length + ([x4] : List Int).length)) <| some (0, (y5 ++ ([x4] : List Int)))
set_option maxRecDepth 100000 in
set_option maxHeartbeats 2000000 in
theorem ok_slices_AppendSeq_Lint_int_r0 {n : Nat} {u3 : Value} {x4 : Int} {y5 : (List Int)} {r : Nat × ((List Int))} (h : ev_slices_AppendSeq_Lint_int_r0 n x4 y5 = some r) (l0 : Nat) (rec : Loop) (hrd : rec.state = .ready) (w0 : World) (M0 R0 : Nat → Prop) : TC Try.prog ⟨w0, M0, R0⟩ ⟨13, some l0, []⟩ (RoundQ ⟨w0, M0, R0⟩ (.inv 7 (recI l0 (busyR rec)) :: [.pin 6 4 u3, .blk 4 [.ref 0] 37, .row 0 3 1 (List.map en_int r.2)]) [] r.1) [.code (sub (bodyOf Try.f317) [1, 0, 1, 0, 0]), .beginRound, .code (sub (bodyOf Try.f317) [1, 0, 1, 0, 1])] (pSlots [7] (ye_funcint_bool x4) [(2, .ptr 4 0)]) (.inv 7 (recI l0 rec) :: yn_funcint_bool x4 ++ (fun y5 : (List Int) => [.pin 6 4 u3, .blk 4 [.ref 0] 37, .row 0 3 1 (List.map en_int y5)]) y5) := by
  rw [ev_slices_AppendSeq_Lint_int_r0] at h
  refine subJ (s' := [(2, .ptr 4 0), (7, .val (.int .i64 x4))]) (V' := [.inv 7 (recI l0 rec), .pin 6 4 u3, .blk 4 [.ref 0] 37, .row 0 3 1 (List.map en_int y5)]) [] ?_ ⟨rfl, rfl, trivial⟩ ⟨mem_at 0 rfl, mem_at 1 rfl, mem_at 2 rfl, mem_at 3 rfl, trivial⟩ rfl
  refine TC.region ?_
  refine op0 (sp_assign rfl rfl) rfl trivial rfl rfl ?_
  refine TL.nil ?_
  refine TC.beginRound 0 rfl hrd ?_
  refine TC.block ?_
  refine TC.region ?_
  refine op1 2 rfl (sp_loadB rfl isBlk rfl vt37 rfl) rfl trivial rfl rfl ?_
  refine op0 (sp_move rfl rfl) rfl trivial rfl rfl ?_
  refine op0 (sp_buildSlice (qs := [.val (.int .i64 x4)]) (need := []) (els := List.map en_int ([x4] : List Int)) 8 rfl sl37 (by decide) (by decide) rfl rfl rfl (.v (.nil)) (map_len fun _ => rfl) rfl rfl rfl) rfl trivial rfl rfl ?_
  obtain ⟨h1, h⟩ := chk_inv h
  refine appM 4 0 (N := y5.length) (N2 := ([x4] : List Int).length) 9 rfl rfl trivial rfl rfl rfl rfl rfl isOwn rfl sl37 (len_map _ _) (len_map _ _) h1 (map_app _ _ _) rfl ?_
  refine stoB 4 (cells' := [.ref 9]) rfl rfl trivial rfl rfl rfl rfl vt37 rfl rfl rfl ?_
  refine TL.nil ?_
  refine TC.inBlock ?_
  cases h
  exact bodyEnd [(0, 9)] ⟨mem_at 2 rfl, mem_at 3 rfl, mem_at 4 rfl, mem_at 0 rfl, trivial⟩ rfl
def ev_slices_AppendSeq_Lint_int (n : Nat) (s1 : List Int) (seq2 : List Int) : Option ((List Int)) :=
  (ev_slices_Values_Lint_int_1 (loopStep (ev_slices_AppendSeq_Lint_int_r0 n)) n (s1, 0) seq2).bind fun q6 => cond (q6.2 == 0) (some q6.1) (none)
set_option maxRecDepth 100000 in
set_option maxHeartbeats 2000000 in
theorem ft_slices_AppendSeq_Lint_int {n : Nat} {s1 : List Int} {seq2 : List Int} {r : (List Int)} (h : ev_slices_AppendSeq_Lint_int n s1 seq2 = some r) : FT Try.prog 317 [.ref 0, .fn 150 [] [.ptr 1 0]] [.row 0 3 1 (List.map en_int s1)] [.rob 1 [.ref 2] 37, .ro 2 1 (List.map en_int seq2)] (.ref 500) [.row 500 3 1 (List.map en_int r)] := by
  refine introM (nz := 13) 3 [] Try.func317 rfl rfl rfl rfl (fun w0 M0 R0 env0 => ?_)
  rw [ev_slices_AppendSeq_Lint_int] at h
  refine TC.seq ?_
  refine TC.region ?_
  refine op0 (sp_box 4 rfl rfl rfl rfl rfl) rfl trivial rfl rfl ?_
  refine op0 (sp_assign rfl rfl) rfl trivial rfl rfl ?_
  refine TL.nil ?_
  refine TC.seq ?_
  refine TC.seq ?_
  refine TC.region ?_
  refine op0 (sp_move rfl rfl) rfl trivial rfl rfl ?_
  refine TL.nil ?_
  refine TC.block ?_
  refine TC.pin 6 4 rfl rfl fun u3 => ?_
  obtain ⟨q6, h2, h⟩ := bind_inv h
  refine rangeO (T := []) (T' := []) (k := 5) (gm := 3) (grec := 7) (S := [(2, .ptr 4 0)]) (V0 := (fun y5 : (List Int) => [.pin 6 4 u3, .blk 4 [.ref 0] 37, .row 0 3 1 (List.map en_int y5)])) (needI := [.rob 1 [.ref 2] 37, .ro 2 1 (List.map en_int seq2)]) (ps := [7]) (jl := []) (ea := ye_funcint_bool) (en := yn_funcint_bool) (f := (ev_slices_AppendSeq_Lint_int_r0 n)) (s0 := (s1, 0)) (yf := q6) (v := .tup []) (fi := []) (caps := [.ptr 1 0])
    ⟨fun x y r hr l rec hrd w0 M0 R0 => ok_slices_AppendSeq_Lint_int_r0 (u3 := u3) hr l rec hrd w0 M0 R0, ⟨rfl, trivial⟩, At.mem (is := [0, 1, 3]) ⟨rfl, rfl, rfl, trivial⟩, At.mem (is := [4, 5]) ⟨rfl, rfl, trivial⟩, rfl, pinsIn [4] [0] ⟨⟨_, _, fun _ => rfl⟩, trivial⟩ rfl, rfl, fun _ => rfl, fun _ _ => rfl, fun _ => rfl, fun _ _ => rfl, fun _ => rfl, fun _ => rfl, fun _ => rfl, rfl, rfl, fun _ => rfl, rfl⟩
    rfl rfl Try.call150 (takesNil rfl) 2 rfl (fun I hI => atT [(0, 5)] [(0, 5)] (ft_slices_Values_Lint_int_1 hI h2) rfl rfl rfl) (fun d => ?_)
  rcases cond_cases h with ⟨h3, h⟩ | ⟨h3, h⟩
  · refine done0 h3 ?_
    refine TC.inBlock ?_
    refine TC.seq ?_
    refine TC.region ?_
    refine op1 2 rfl (sp_loadB rfl isBlk rfl vt37 rfl) rfl trivial rfl rfl ?_
    refine op0 (sp_assign rfl rfl) rfl trivial rfl rfl ?_
    refine TL.nil ?_
    cases h
    exact retM [(500, 0)] 0 3 [] rfl (.tmp rfl .nil) rfl ⟨mem_at 2 rfl, trivial⟩ rfl rfl trivial rfl
  · exact none_no h
/- slices_Collect_int -/
def ev_slices_Collect_int (n : Nat) (seq1 : List Int) : Option ((List Int)) :=
  (ev_slices_AppendSeq_Lint_int n ([]) seq1).bind fun r2 => some r2
set_option maxRecDepth 100000 in
set_option maxHeartbeats 2000000 in
theorem fc_slices_Collect_int {n : Nat} {seq1 : List Int} {r : (List Int)} (h : ev_slices_Collect_int n seq1 = some r) : FC Try.prog 301 [.fn 150 [] [.ptr 0 0]] [.rob 0 [.ref 1] 37, .ro 1 1 (List.map en_int seq1)] (.ref 0) [.row 0 3 1 (List.map en_int r)] := by
  refine introJ (nz := 5) Try.func301 rfl rfl rfl (fun w0 R0 env0 => ?_)
  rw [ev_slices_Collect_int] at h
  refine TC.seq ?_
  refine TC.region ?_
  refine op0 (sp_assign rfl rfl) rfl trivial rfl rfl ?_
  refine TL.nil ?_
  refine TC.seq ?_
  refine TC.region ?_
  refine op0 (sp_move rfl rfl) rfl trivial rfl rfl ?_
  obtain ⟨r2, h1, h⟩ := bind_inv h
  refine opT (take := []) (need := [.rob 0 [.ref 1] 37, .ro 1 1 (List.map en_int seq1)]) (V' := [.row 3 3 1 (List.map en_int r2), .rob 0 [.ref 1] 37, .ro 1 1 (List.map en_int seq1)]) [] [0, 1] (ts_call (avs := [.val (.slice none 0 0), .fn 150 [] [.ptr 0 0]]) (take := []) (need := [.rob 0 [.ref 1] 37, .ro 1 1 (List.map en_int seq1)]) (v := .ref 3) (news := [.row 3 3 1 (List.map en_int r2)]) rfl rfl rfl Try.call317 (FT.nilT (args := [.ref 2, .fn 150 [] [.ptr 0 0]]) 2 3 1 (atT [(0, 2), (1, 0), (2, 1)] [(500, 3)] (ft_slices_AppendSeq_Lint_int h1) rfl rfl rfl) rfl rfl rfl rfl) rfl rfl) trivial rfl trivial ⟨rfl, rfl, trivial⟩ rfl rfl ?_
  refine op0 (sp_assign rfl rfl) rfl trivial rfl rfl ?_
  refine TL.nil ?_
  cases h
  exact retJ [(0, 3)] (.tmp rfl .nil) rfl ⟨mem_at 0 rfl, trivial⟩ rfl rfl
/- slices_Sort_Lint_int -/
def rn_slices_Sort_Lint_int : Shelf.Ren := ⟨fun n => match n with | 125 => 271 | 128 => 299 | 129 => 300 | 189 => 222 | 215 => 311 | 216 => 308 | 257 => 274 | 294 => 302 | 295 => 303 | 296 => 304 | 297 => 305 | 298 => 306 | 299 => 307 | 300 => 309 | 301 => 310 | 328 => 318 | 329 => 313 | 330 => 314 | 331 => 319 | 332 => 320 | 343 => 322 | _ => 0, fun n => match n with | 0 => 0 | 3 => 3 | 4 => 4 | 5 => 5 | 9 => 9 | 28 => 37 | 46 => 416 | 51 => 131 | 53 => 439 | 131 => 224 | 182 => 431 | 183 => 432 | 218 => 445 | 222 => 311 | 228 => 453 | 229 => 274 | _ => 0, fun x => x⟩
theorem lays_slices_Sort_Lint_int : Lays.n189 Try.prog rn_slices_Sort_Lint_int where
  mixed := rfl
  f125 := Try.func271.trans (congrArg some (by kernel_rfl))
  f128 := Try.func299.trans (congrArg some (by kernel_rfl))
  f129 := Try.func300.trans (congrArg some (by kernel_rfl))
  f189 := Try.func222.trans (congrArg some (by kernel_rfl))
  f215 := Try.func311.trans (congrArg some (by kernel_rfl))
  f216 := Try.func308.trans (congrArg some (by kernel_rfl))
  f257 := Try.func274.trans (congrArg some (by kernel_rfl))
  f294 := Try.func302.trans (congrArg some (by kernel_rfl))
  f295 := Try.func303.trans (congrArg some (by kernel_rfl))
  f296 := Try.func304.trans (congrArg some (by kernel_rfl))
  f297 := Try.func305.trans (congrArg some (by kernel_rfl))
  f298 := Try.func306.trans (congrArg some (by kernel_rfl))
  f299 := Try.func307.trans (congrArg some (by kernel_rfl))
  f300 := Try.func309.trans (congrArg some (by kernel_rfl))
  f301 := Try.func310.trans (congrArg some (by kernel_rfl))
  f328 := Try.func318.trans (congrArg some (by kernel_rfl))
  f329 := Try.func313.trans (congrArg some (by kernel_rfl))
  f330 := Try.func314.trans (congrArg some (by kernel_rfl))
  f331 := Try.func319.trans (congrArg some (by kernel_rfl))
  f332 := Try.func320.trans (congrArg some (by kernel_rfl))
  f343 := Try.func322.trans (congrArg some (by kernel_rfl))
  t0 := Try.underlying0
  a0 := Try.isAgg0
  z0 := Try.sizeOf0
  v0 := Try.zeroValue0
  t3 := Try.underlying3
  a3 := Try.isAgg3
  z3 := Try.sizeOf3
  v3 := Try.zeroValue3
  t4 := Try.underlying4
  a4 := Try.isAgg4
  z4 := Try.sizeOf4
  v4 := Try.zeroValue4
  t5 := Try.underlying5
  a5 := Try.isAgg5
  z5 := Try.sizeOf5
  v5 := Try.zeroValue5
  t9 := Try.underlying9
  a9 := Try.isAgg9
  z9 := Try.sizeOf9
  v9 := Try.zeroValue9
  t28 := Try.underlying37
  a28 := Try.isAgg37
  z28 := Try.sizeOf37
  v28 := Try.zeroValue37
  t46 := Try.underlying416
  a46 := Try.isAgg416
  z46 := Try.sizeOf416
  v46 := Try.zeroValue416
  t51 := Try.underlying131
  a51 := Try.isAgg131
  z51 := Try.sizeOf131
  v51 := Try.zeroValue131
  t53 := Try.underlying439
  a53 := Try.isAgg439
  z53 := Try.sizeOf439
  v53 := Try.zeroValue439
  t131 := Try.underlying224
  a131 := Try.isAgg224
  z131 := Try.sizeOf224
  v131 := Try.zeroValue224
  t182 := Try.underlying431
  a182 := Try.isAgg431
  z182 := Try.sizeOf431
  v182 := Try.zeroValue431
  t183 := Try.underlying432
  a183 := Try.isAgg432
  z183 := Try.sizeOf432
  v183 := Try.zeroValue432
  t218 := Try.underlying445
  a218 := Try.isAgg445
  z218 := Try.sizeOf445
  v218 := Try.zeroValue445
  t222 := Try.underlying311
  a222 := Try.isAgg311
  z222 := Try.sizeOf311
  v222 := Try.zeroValue311
  t228 := Try.underlying453
  a228 := Try.isAgg453
  z228 := Try.sizeOf453
  v228 := Try.zeroValue453
  t229 := Try.underlying274
  a229 := Try.isAgg274
  z229 := Try.sizeOf274
  v229 := Try.zeroValue274
def ev_slices_Sort_Lint_int (n : Nat) (x1 : List Int) : Option (List Int) := chk (room 8 x1.length) (some (srt x1))
theorem ft_slices_Sort_Lint_int {n : Nat} {x1 : List Int} {r : List Int} (h : ev_slices_Sort_Lint_int n x1 = some r) : FT Try.prog 222 [.ref 0] [.row 0 3 1 (List.map en_int x1)] [] (.tup []) [.row 0 3 1 (List.map en_int r)] := by
  obtain ⟨h1, h⟩ := chk_inv h
  cases h
  exact ft_sortS lays_slices_Sort_Lint_int h1
/- slices_Sorted_int -/
def ev_slices_Sorted_int (n : Nat) (seq1 : List Int) : Option ((List Int)) :=
  (ev_slices_Collect_int n seq1).bind fun r2 => (ev_slices_Sort_Lint_int n r2).bind fun r3 => some r3
set_option maxRecDepth 100000 in
set_option maxHeartbeats 2000000 in
theorem fc_slices_Sorted_int {n : Nat} {seq1 : List Int} {r : (List Int)} (h : ev_slices_Sorted_int n seq1 = some r) : FC Try.prog 272 [.fn 150 [] [.ptr 0 0]] [.rob 0 [.ref 1] 37, .ro 1 1 (List.map en_int seq1)] (.ref 0) [.row 0 3 1 (List.map en_int r)] := by
  refine introJ (nz := 9) Try.func272 rfl rfl rfl (fun w0 R0 env0 => ?_)
  rw [ev_slices_Sorted_int] at h
  refine TC.seq ?_
  refine TC.region ?_
  refine op0 (sp_assign rfl rfl) rfl trivial rfl rfl ?_
  refine TL.nil ?_
  refine TC.seq ?_
  refine TC.region ?_
  refine op0 (sp_move rfl rfl) rfl trivial rfl rfl ?_
  obtain ⟨r2, h1, h⟩ := bind_inv h
  refine opN (need := [.rob 0 [.ref 1] 37, .ro 1 1 (List.map en_int seq1)]) [0, 1] ⟨rfl, rfl, trivial⟩ (sp_call (avs := [.fn 150 [] [.ptr 0 0]]) (need := [.rob 0 [.ref 1] 37, .ro 1 1 (List.map en_int seq1)]) (v := .ref 2) (news := [.row 2 3 1 (List.map en_int r2)]) rfl rfl rfl Try.call301 (atJ [] [(0, 2)] (fc_slices_Collect_int h1) rfl rfl) (.inl (roAll rfl))) rfl trivial rfl rfl ?_
  refine op0 (sp_assign rfl rfl) rfl trivial rfl rfl ?_
  refine TL.nil ?_
  refine TC.seq ?_
  refine TC.region ?_
  refine op0 (sp_move rfl rfl) rfl trivial rfl rfl ?_
  obtain ⟨r3, h2, h⟩ := bind_inv h
  refine opT (take := [.row 2 3 1 (List.map en_int r2)]) (need := []) (V' := [.row 2 3 1 (List.map en_int r3), .rob 0 [.ref 1] 37, .ro 1 1 (List.map en_int seq1)]) [0] [] (ts_call (avs := [.ref 2]) (take := [.row 2 3 1 (List.map en_int r2)]) (need := []) (v := .tup []) (news := [.row 2 3 1 (List.map en_int r3)]) rfl rfl rfl Try.call222 (atT [(0, 2)] [(0, 2)] (ft_slices_Sort_Lint_int h2) rfl rfl rfl) rfl rfl) trivial rfl ⟨rfl, trivial⟩ trivial rfl rfl ?_
  refine TL.nil ?_
  refine TC.seq ?_
  refine TC.region ?_
  refine op0 (sp_move rfl rfl) rfl trivial rfl rfl ?_
  refine op0 (sp_assign rfl rfl) rfl trivial rfl rfl ?_
  refine TL.nil ?_
  cases h
  exact retJ [(0, 2)] (.tmp rfl .nil) rfl ⟨mem_at 0 rfl, trivial⟩ rfl rfl
/- slices_Compact_Lint_int -/
def rn_slices_Compact_Lint_int : Shelf.Ren := ⟨fun _ => 223, fun n => match n with | 0 => 0 | 3 => 3 | 4 => 4 | 22 => 37 | _ => 0, fun x => x⟩
theorem lays_slices_Compact_Lint_int : Lays2.n20 Try.prog rn_slices_Compact_Lint_int where
  mixed := rfl
  f20 := Try.func223.trans (congrArg some (by kernel_rfl))
  t0 := Try.underlying0
  a0 := Try.isAgg0
  z0 := Try.sizeOf0
  v0 := Try.zeroValue0
  t3 := Try.underlying3
  a3 := Try.isAgg3
  z3 := Try.sizeOf3
  v3 := Try.zeroValue3
  t4 := Try.underlying4
  a4 := Try.isAgg4
  z4 := Try.sizeOf4
  v4 := Try.zeroValue4
  t22 := Try.underlying37
  a22 := Try.isAgg37
  z22 := Try.sizeOf37
  v22 := Try.zeroValue37
  i3 := by kernel_rfl
def ev_slices_Compact_Lint_int (n : Nat) (s1 : List Int) : Option (List Int) := chk (room 8 s1.length) (some (Lib.compact s1))
theorem ft_slices_Compact_Lint_int {n : Nat} {s1 : List Int} {r : List Int} (h : ev_slices_Compact_Lint_int n s1 = some r) : FT Try.prog 223 [.ref 0] [.row 0 3 1 (List.map en_int s1)] [] (.ref 500) [.row 500 3 1 (List.map en_int r)] := by
  obtain ⟨h1, h⟩ := chk_inv h
  cases h
  exact ft_compactI lays_slices_Compact_Lint_int 500 rfl h1
/- slices_Min_round_clocks_int -/
def ev_slices_Min_round_clocks_int_l1 (n : Nat) (x1 : List Int) : Nat → Int → Int → Option Int
  | 0, _, _ => none
  | m + 1, i3, i4 => cond (decide (i4 < (x1.length : Int))) (idx x1 i4 fun x5 => chk (in64 (i4 + 1)) <| ev_slices_Min_round_clocks_int_l1 n x1 m (min i3 x5) (i4 + 1)) (some i3)
set_option maxRecDepth 100000 in
set_option maxHeartbeats 2000000 in
theorem ok_slices_Min_round_clocks_int_l1 {n : Nat} {w0 : World} {R0 : Nat → Prop} {env0 : Env} {r : Int} {x1 : List Int} : ∀ (m : Nat) (i3 : Int) (i4 : Int), ev_slices_Min_round_clocks_int_l1 n x1 m i3 i4 = some r → TC Try.prog ⟨w0, fun _ => False, R0⟩ 25 (bodyPost Try.prog Try.f216 (Post ⟨w0, fun _ => False, R0⟩ env0 (.val (.int .i64 r)) [])) [.code (sub (bodyOf Try.f216) [1, 1, 1, 0, 1, 0, 0, 0, 0]), .code (sub (bodyOf Try.f216) [1, 1, 1, 0, 1, 0, 0, 0, 1]), .code (sub (bodyOf Try.f216) [1, 1, 1, 0, 1, 0, 0, 1]), .inLoop (sub (bodyOf Try.f216) [1, 1, 1, 0, 1, 0, 0]), .inBlock 0, .code (sub (bodyOf Try.f216) [1, 1, 1, 1])] ([(0, .ref 0), (3, .val (.int .i64 i3)), (4, .val (.int .i64 i4))]) ([.ro 0 1 (List.map en_int x1)]) := by
  intro m
  induction m with
  | zero => intro i3 i4 h; exact none_no h
  | succ m ih =>
    intro i3 i4 h
    rw [ev_slices_Min_round_clocks_int_l1] at h
    refine TC.region ?_
    refine op0 (sp_move rfl rfl) rfl trivial rfl rfl ?_
    refine op0 (sp_move rfl rfl) rfl trivial rfl rfl ?_
    refine op1 0 rfl (sp_lenM (N := x1.length) (len_map _ _) rfl rfl isRo Try.underlying271) rfl trivial rfl rfl ?_
    refine op0 (sp_lss rfl rfl rfl) rfl trivial rfl rfl ?_
    refine TL.nil ?_
    refine TC.cond (b := (decide (i4 < (x1.length : Int)))) rfl (fun h4 => ?_) (fun h4 => ?_)
    · have h := cond_t h h4
      refine TC.skip ?_
      refine TC.seq ?_
      refine TC.block ?_
      refine TC.region ?_
      refine op0 (sp_move rfl rfl) rfl trivial rfl rfl ?_
      refine op0 (sp_move rfl rfl) rfl trivial rfl rfl ?_
      refine op0 (sp_move rfl rfl) rfl trivial rfl rfl ?_
      obtain ⟨x5, h5, h6, h⟩ := idx_inv h
      refine op1 0 rfl (sp_indexS rfl rfl rfl isRo sl271 h5 (map_get _ h6)) rfl trivial rfl rfl ?_
      refine op1 0 rfl (sp_loadR (i := (i4 : Int).toNat) (j := 0) rfl rfl isRo vt3 rfl (map_get _ h6) rfl (.v (.nil)) (nodup_of_B rfl)) rfl trivial rfl rfl ?_
      refine op0 (sp_min rfl rfl rfl) rfl trivial rfl rfl ?_
      refine op0 (sp_assign rfl rfl) rfl trivial rfl rfl ?_
      refine TL.nil ?_
      refine TC.inBlock ?_
      refine TC.region ?_
      refine op0 (sp_move rfl rfl) rfl trivial rfl rfl ?_
      obtain ⟨h7, h⟩ := chk_inv h
      refine op0 (sp_add rfl rfl rfl h7) rfl trivial rfl rfl ?_
      refine op0 (sp_assign rfl rfl) rfl trivial rfl rfl ?_
      refine TL.nil ?_
      refine TC.inLoop ?_
      refine TC.seq ?_
      refine TC.seq ?_
      refine subJ [] (ih _ _ h) ?_ ?_ ?_
      · exact ⟨rfl, rfl, rfl, trivial⟩
      · exact ⟨mem_at 0 rfl, trivial⟩
      · rfl
    · have h := cond_f h h4
      refine TC.exit rfl ?_
      refine TC.seq ?_
      refine TC.region ?_
      refine op0 (sp_move rfl rfl) rfl trivial rfl rfl ?_
      refine op0 (sp_assign rfl rfl) rfl trivial rfl rfl ?_
      refine TL.nil ?_
      cases h
      exact retJ [] (.tmp rfl .nil) rfl trivial rfl rfl
def ev_slices_Min_round_clocks_int_j0 (n : Nat) (x1 : List Int) : Option Int :=
  idx x1 0 fun x2 => ev_slices_Min_round_clocks_int_l1 n x1 n x2 1
set_option maxRecDepth 100000 in
set_option maxHeartbeats 2000000 in
theorem ok_slices_Min_round_clocks_int_j0 {n : Nat} {w0 : World} {R0 : Nat → Prop} {env0 : Env} {r : Int} {x1 : List Int} (h : ev_slices_Min_round_clocks_int_j0 n x1 = some r) : TC Try.prog ⟨w0, fun _ => False, R0⟩ 25 (bodyPost Try.prog Try.f216 (Post ⟨w0, fun _ => False, R0⟩ env0 (.val (.int .i64 r)) [])) [.code (sub (bodyOf Try.f216) [1, 1, 0]), .code (sub (bodyOf Try.f216) [1, 1, 1])] ([(0, .ref 0)]) ([.ro 0 1 (List.map en_int x1)]) := by
  rw [ev_slices_Min_round_clocks_int_j0] at h
  refine TC.region ?_
  refine op0 (sp_move rfl rfl) rfl trivial rfl rfl ?_
  obtain ⟨x2, h2, h3, h⟩ := idx_inv h
  refine op1 0 rfl (sp_indexS rfl rfl rfl isRo sl271 h2 (map_get _ h3)) rfl trivial rfl rfl ?_
  refine op1 0 rfl (sp_loadR (i := (0 : Int).toNat) (j := 0) rfl rfl isRo vt3 rfl (map_get _ h3) rfl (.v (.nil)) (nodup_of_B rfl)) rfl trivial rfl rfl ?_
  refine op0 (sp_assign rfl rfl) rfl trivial rfl rfl ?_
  refine TL.nil ?_
  refine TC.seq ?_
  refine TC.seq ?_
  refine TC.region ?_
  refine op0 (sp_assign rfl rfl) rfl trivial rfl rfl ?_
  refine TL.nil ?_
  refine TC.block ?_
  refine TC.loop ?_
  refine TC.seq ?_
  refine TC.seq ?_
  refine subJ [] (ok_slices_Min_round_clocks_int_l1 _ _ _ h) ?_ ?_ ?_
  · exact ⟨rfl, rfl, rfl, trivial⟩
  · exact ⟨mem_at 0 rfl, trivial⟩
  · rfl
def ev_slices_Min_round_clocks_int (n : Nat) (x1 : List Int) : Option Int :=
  cond (decide ((x1.length : Int) < 1)) (none) (ev_slices_Min_round_clocks_int_j0 n x1)
set_option maxRecDepth 100000 in
set_option maxHeartbeats 2000000 in
theorem fc_slices_Min_round_clocks_int {n : Nat} {x1 : List Int} {r : Int} (h : ev_slices_Min_round_clocks_int n x1 = some r) : FC Try.prog 216 [.ref 0] [.ro 0 1 (List.map en_int x1)] (.val (.int .i64 r)) [] := by
  refine introJ (nz := 25) Try.func216 rfl rfl rfl (fun w0 R0 env0 => ?_)
  rw [ev_slices_Min_round_clocks_int] at h
  refine TC.seq ?_
  refine TC.region ?_
  refine op0 (sp_assign rfl rfl) rfl trivial rfl rfl ?_
  refine TL.nil ?_
  refine TC.seq ?_
  refine TC.seq ?_
  refine TC.region ?_
  refine op0 (sp_move rfl rfl) rfl trivial rfl rfl ?_
  refine op1 0 rfl (sp_lenM (N := x1.length) (len_map _ _) rfl rfl isRo Try.underlying271) rfl trivial rfl rfl ?_
  refine op0 (sp_lss rfl rfl rfl) rfl trivial rfl rfl ?_
  refine TL.nil ?_
  refine TC.cond (b := (decide ((x1.length : Int) < 1))) rfl (fun h1 => ?_) (fun h1 => ?_)
  · have h := cond_t h h1
    refine TC.region ?_
    exact none_no h
  · have h := cond_f h h1
    refine TC.skip ?_
    refine TC.seq ?_
    refine subJ [] (ok_slices_Min_round_clocks_int_j0 h) ?_ ?_ ?_
    · exact ⟨rfl, trivial⟩
    · exact ⟨mem_at 0 rfl, trivial⟩
    · rfl
/- slices_Index_round_clocks_int -/
def ev_slices_Index_round_clocks_int_l0 (n : Nat) (s1 : List Int) (v2 : Int) : Nat → Int → Option Int
  | 0, _ => none
  | m + 1, i3 => cond (decide (i3 < (s1.length : Int))) (idx s1 i3 fun x4 => cond (v2 == x4) (some i3) (chk (in64 (i3 + 1)) <| ev_slices_Index_round_clocks_int_l0 n s1 v2 m (i3 + 1))) (some (-1))
set_option maxRecDepth 100000 in
set_option maxHeartbeats 2000000 in
theorem ok_slices_Index_round_clocks_int_l0 {n : Nat} {w0 : World} {R0 : Nat → Prop} {env0 : Env} {r : Int} {v2 : Int} {s1 : List Int} : ∀ (m : Nat) (i3 : Int), ev_slices_Index_round_clocks_int_l0 n s1 v2 m i3 = some r → TC Try.prog ⟨w0, fun _ => False, R0⟩ 19 (bodyPost Try.prog Try.f217 (Post ⟨w0, fun _ => False, R0⟩ env0 (.val (.int .i64 r)) [])) [.code (sub (bodyOf Try.f217) [1, 0, 1, 0, 0, 0]), .code (sub (bodyOf Try.f217) [1, 0, 1, 0, 0, 1]), .inLoop (sub (bodyOf Try.f217) [1, 0, 1, 0, 0]), .inBlock 0, .code (sub (bodyOf Try.f217) [1, 1])] ([(0, .ref 0), (1, .val (.int .i64 v2)), (7, .val (.int .i64 (s1.length : Int))), (8, .val (.int .i64 i3))]) ([.ro 0 1 (List.map en_int s1)]) := by
  intro m
  induction m with
  | zero => intro i3 h; exact none_no h
  | succ m ih =>
    intro i3 h
    rw [ev_slices_Index_round_clocks_int_l0] at h
    refine TC.region ?_
    refine op0 (sp_lss rfl rfl rfl) rfl trivial rfl rfl ?_
    refine TL.nil ?_
    refine TC.seq ?_
    refine TC.cond (b := (decide (i3 < (s1.length : Int)))) rfl (fun h1 => ?_) (fun h1 => ?_)
    · have h := cond_t h h1
      refine TC.skip ?_
      refine TC.seq ?_
      refine TC.block ?_
      refine TC.seq ?_
      refine TC.region ?_
      refine op0 (sp_move rfl rfl) rfl trivial rfl rfl ?_
      refine op0 (sp_assign rfl rfl) rfl trivial rfl rfl ?_
      refine TL.nil ?_
      refine TC.seq ?_
      refine TC.region ?_
      refine op0 (sp_move rfl rfl) rfl trivial rfl rfl ?_
      refine op0 (sp_move rfl rfl) rfl trivial rfl rfl ?_
      refine op0 (sp_move rfl rfl) rfl trivial rfl rfl ?_
      obtain ⟨x4, h2, h3, h⟩ := idx_inv h
      refine op1 0 rfl (sp_indexS rfl rfl rfl isRo sl271 h2 (map_get _ h3)) rfl trivial rfl rfl ?_
      refine op1 0 rfl (sp_loadR (i := (i3 : Int).toNat) (j := 0) rfl rfl isRo vt3 rfl (map_get _ h3) rfl (.v (.nil)) (nodup_of_B rfl)) rfl trivial rfl rfl ?_
      refine op0 (sp_eql rfl rfl rfl) rfl trivial rfl rfl ?_
      refine TL.nil ?_
      refine TC.cond (b := (v2 == x4)) rfl (fun h4 => ?_) (fun h4 => ?_)
      · have h := cond_t h h4
        refine TC.seq ?_
        refine TC.region ?_
        refine op0 (sp_move rfl rfl) rfl trivial rfl rfl ?_
        refine op0 (sp_assign rfl rfl) rfl trivial rfl rfl ?_
        refine TL.nil ?_
        cases h
        exact retJ [] (.tmp rfl .nil) rfl trivial rfl rfl
      · have h := cond_f h h4
        refine TC.skip ?_
        refine TC.inBlock ?_
        refine TC.region ?_
        obtain ⟨h5, h⟩ := chk_inv h
        refine op0 (sp_add rfl rfl rfl h5) rfl trivial rfl rfl ?_
        refine op0 (sp_move rfl rfl) rfl trivial rfl rfl ?_
        refine TL.nil ?_
        refine TC.inLoop ?_
        refine TC.seq ?_
        refine subJ [] (ih _ h) ?_ ?_ ?_
        · exact ⟨rfl, rfl, rfl, rfl, trivial⟩
        · exact ⟨mem_at 0 rfl, trivial⟩
        · rfl
    · have h := cond_f h h1
      refine TC.exit rfl ?_
      refine TC.seq ?_
      refine TC.region ?_
      refine op0 (sp_assign rfl rfl) rfl trivial rfl rfl ?_
      refine TL.nil ?_
      cases h
      exact retJ [] (.tmp rfl .nil) rfl trivial rfl rfl
def ev_slices_Index_round_clocks_int (n : Nat) (s1 : List Int) (v2 : Int) : Option Int :=
  ev_slices_Index_round_clocks_int_l0 n s1 v2 n 0
set_option maxRecDepth 100000 in
set_option maxHeartbeats 2000000 in
theorem fc_slices_Index_round_clocks_int {n : Nat} {s1 : List Int} {v2 : Int} {r : Int} (h : ev_slices_Index_round_clocks_int n s1 v2 = some r) : FC Try.prog 217 [.ref 0, .val (.int .i64 v2)] [.ro 0 1 (List.map en_int s1)] (.val (.int .i64 r)) [] := by
  refine introJ (nz := 19) Try.func217 rfl rfl rfl (fun w0 R0 env0 => ?_)
  rw [ev_slices_Index_round_clocks_int] at h
  refine TC.seq ?_
  refine TC.region ?_
  refine op0 (sp_assign rfl rfl) rfl trivial rfl rfl ?_
  refine TL.nil ?_
  refine TC.seq ?_
  refine TC.seq ?_
  refine TC.region ?_
  refine op0 (sp_move rfl rfl) rfl trivial rfl rfl ?_
  refine op1 0 rfl (sp_lenM (N := s1.length) (len_map _ _) rfl rfl isRo Try.underlying271) rfl trivial rfl rfl ?_
  refine op0 (sp_move rfl rfl) rfl trivial rfl rfl ?_
  refine TL.nil ?_
  refine TC.block ?_
  refine TC.loop ?_
  refine TC.seq ?_
  refine subJ [] (ok_slices_Index_round_clocks_int_l0 _ _ h) ?_ ?_ ?_
  · exact ⟨rfl, rfl, rfl, rfl, trivial⟩
  · exact ⟨mem_at 0 rfl, trivial⟩
  · rfl
/- top_pubTown -/
def ev_top_pubTown (n : Nat) : Option ((List (Int × Int × Int × Int × Int)) × (List ((List Int))) × (List (Int × Int × Int × Int)) × Int × Int) :=
  some (([(10, 20, 1, 5, 8), (5, 15, 2, 3, 2)] : List (Int × Int × Int × Int × Int)), ([([0, 30, 10] : List Int), ([30, 0, 25] : List Int), ([10, 25, 0] : List Int)] : List ((List Int))), ([(3, 10, 200, 100), (2, 3, 100, 45)] : List (Int × Int × Int × Int)), 15, 2)
set_option maxRecDepth 100000 in
set_option maxHeartbeats 2000000 in
theorem fc_top_pubTown {n : Nat}  {r : (List (Int × Int × Int × Int × Int)) × (List ((List Int))) × (List (Int × Int × Int × Int)) × Int × Int} (h : ev_top_pubTown n = some r) : FC Try.prog 26 [] [] (.agg [.ref 0, .ref 1, .ref 2, .val (.int .i64 r.2.2.2.1), .val (.int .i64 r.2.2.2.2)]) [.row 0 218 5 (List.map en_api_RoundTower r.1), .row 1 37 1 (List.map en_Lint r.2.1), .row 2 213 4 (List.map en_api_RoundWinder r.2.2.1)] := by
  refine introJ (nz := 12) Try.func26 rfl rfl rfl (fun w0 R0 env0 => ?_)
  rw [ev_top_pubTown] at h
  refine TC.seq ?_
  refine TC.region ?_
  refine op0 (sp_alloc 0 rfl Try.zeroValue74 rfl) rfl trivial rfl rfl ?_
  refine TL.nil ?_
  refine TC.seq ?_
  refine TC.region ?_
  refine op0 (sp_build (qs := [(0, .val (.int .i64 10)), (1, .val (.int .i64 20)), (2, .val (.int .u16 1)), (3, .val (.int .i64 5)), (4, .val (.int .i64 8))]) rfl bt218 rfl rfl rfl rfl) rfl trivial rfl rfl ?_
  refine op0 (sp_build (qs := [(0, .val (.int .i64 5)), (1, .val (.int .i64 15)), (2, .val (.int .u16 2)), (3, .val (.int .i64 3)), (4, .val (.int .i64 2))]) rfl bt218 rfl rfl rfl rfl) rfl trivial rfl rfl ?_
  refine op0 (sp_buildSlice (qs := [.agg [.val (.int .i64 10), .val (.int .i64 20), .val (.int .u16 1), .val (.int .i64 5), .val (.int .i64 8)], .agg [.val (.int .i64 5), .val (.int .i64 15), .val (.int .u16 2), .val (.int .i64 3), .val (.int .i64 2)]]) (need := []) (els := List.map en_api_RoundTower ([(10, 20, 1, 5, 8), (5, 15, 2, 3, 2)] : List (Int × Int × Int × Int × Int))) 1 rfl sl70 (by decide) (by decide) rfl rfl rfl (.v (.v (.v (.v (.v (.v (.v (.v (.v (.v (.nil))))))))))) (map_len fun _ => rfl) rfl rfl rfl) rfl trivial rfl rfl ?_
  refine op0 (sp_buildSlice (qs := [.val (.int .i64 0), .val (.int .i64 30), .val (.int .i64 10)]) (need := []) (els := List.map en_int ([0, 30, 10] : List Int)) 2 rfl sl37 (by decide) (by decide) rfl rfl rfl (.v (.v (.v (.nil)))) (map_len fun _ => rfl) rfl rfl rfl) rfl trivial rfl rfl ?_
  refine op0 (sp_buildSlice (qs := [.val (.int .i64 30), .val (.int .i64 0), .val (.int .i64 25)]) (need := []) (els := List.map en_int ([30, 0, 25] : List Int)) 3 rfl sl37 (by decide) (by decide) rfl rfl rfl (.v (.v (.v (.nil)))) (map_len fun _ => rfl) rfl rfl rfl) rfl trivial rfl rfl ?_
  refine op0 (sp_buildSlice (qs := [.val (.int .i64 10), .val (.int .i64 25), .val (.int .i64 0)]) (need := []) (els := List.map en_int ([10, 25, 0] : List Int)) 4 rfl sl37 (by decide) (by decide) rfl rfl rfl (.v (.v (.v (.nil)))) (map_len fun _ => rfl) rfl rfl rfl) rfl trivial rfl rfl ?_
  refine TL.freeze 2 rfl ?_
  refine TL.freeze 1 rfl ?_
  refine TL.freeze 0 rfl ?_
  refine opN (need := [.ro 2 1 (List.map en_int ([0, 30, 10] : List Int)), .ro 3 1 (List.map en_int ([30, 0, 25] : List Int)), .ro 4 1 (List.map en_int ([10, 25, 0] : List Int))]) [2, 1, 0] ⟨rfl, rfl, rfl, trivial⟩ (sp_buildSlice (qs := [.ref 2, .ref 3, .ref 4]) (need := [.ro 2 1 (List.map en_int ([0, 30, 10] : List Int)), .ro 3 1 (List.map en_int ([30, 0, 25] : List Int)), .ro 4 1 (List.map en_int ([10, 25, 0] : List Int))]) (els := List.map en_Lint ([([0, 30, 10] : List Int), ([30, 0, 25] : List Int), ([10, 25, 0] : List Int)] : List ((List Int)))) 5 rfl sl71 (by decide) (by decide) rfl rfl rfl (.s (mem_at 0 rfl) (.s (mem_at 1 rfl) (.s (mem_at 2 rfl) (.nil)))) (map_len fun _ => rfl) rfl rfl rfl) rfl trivial rfl rfl ?_
  refine op0 (sp_build (qs := [(0, .val (.int .u16 3)), (1, .val (.int .i64 10)), (2, .val (.int .i64 200)), (3, .val (.int .i64 100))]) rfl bt213 rfl rfl rfl rfl) rfl trivial rfl rfl ?_
  refine op0 (sp_build (qs := [(0, .val (.int .u16 2)), (1, .val (.int .i64 3)), (2, .val (.int .i64 100)), (3, .val (.int .i64 45))]) rfl bt213 rfl rfl rfl rfl) rfl trivial rfl rfl ?_
  refine op0 (sp_buildSlice (qs := [.agg [.val (.int .u16 3), .val (.int .i64 10), .val (.int .i64 200), .val (.int .i64 100)], .agg [.val (.int .u16 2), .val (.int .i64 3), .val (.int .i64 100), .val (.int .i64 45)]]) (need := []) (els := List.map en_api_RoundWinder ([(3, 10, 200, 100), (2, 3, 100, 45)] : List (Int × Int × Int × Int))) 6 rfl sl72 (by decide) (by decide) rfl rfl rfl (.v (.v (.v (.v (.v (.v (.v (.v (.nil))))))))) (map_len fun _ => rfl) rfl rfl rfl) rfl trivial rfl rfl ?_
  refine op0 (sp_build (qs := [(0, .ref 1), (1, .ref 5), (2, .ref 6), (3, .val (.int .i64 15)), (4, .val (.int .i64 2))]) rfl bt74 rfl rfl rfl rfl) rfl trivial rfl rfl ?_
  refine stoB 6 (cells' := [.ref 1, .ref 5, .ref 6, .val (.int .i64 15), .val (.int .i64 2)]) rfl rfl trivial rfl rfl rfl rfl vt74 rfl rfl rfl ?_
  refine TL.nil ?_
  cases h
  exact retJ [(0, 1), (1, 5), (2, 6)] (.cells rfl (mem_at 6 rfl) isBlk vt74 rfl rfl (.nil)) rfl ⟨mem_at 5 rfl, mem_at 1 rfl, mem_at 0 rfl, trivial⟩ rfl rfl
/- slices_Clone_Lint_int -/
def ev_slices_Clone_Lint_int (n : Nat) (s1 : List Int) : Option ((List Int)) :=
  chk (room 8 (([] : List Int).length + s1.length)) <| some (([] : List Int) ++ s1)
set_option maxRecDepth 100000 in
set_option maxHeartbeats 2000000 in
theorem fc_slices_Clone_Lint_int {n : Nat} {s1 : List Int} {r : (List Int)} (h : ev_slices_Clone_Lint_int n s1 = some r) : FC Try.prog 74 [.ref 0] [.ro 0 1 (List.map en_int s1)] (.ref 0) [.row 0 3 1 (List.map en_int r)] := by
  refine introJ (nz := 8) Try.func74 rfl rfl rfl (fun w0 R0 env0 => ?_)
  rw [ev_slices_Clone_Lint_int] at h
  refine TC.seq ?_
  refine TC.region ?_
  refine op0 (sp_assign rfl rfl) rfl trivial rfl rfl ?_
  refine TL.nil ?_
  refine TC.seq ?_
  refine TC.seq ?_
  refine TC.region ?_
  refine op0 (sp_move rfl rfl) rfl trivial rfl rfl ?_
  refine op1 0 rfl (sp_eqNil 1 rfl Try.underlying37 rfl rfl isRo (len_map _ _)) rfl trivial rfl rfl ?_
  refine TL.nil ?_
  refine condNil 0 rfl rfl (fun hN => ?_) ?_
  · have hx := List.eq_nil_of_length_eq_zero hN
    subst hx
    repeat (have h := (chk_inv h).2)
    refine TC.seq ?_
    refine TC.region ?_
    refine op0 (sp_assign rfl rfl) rfl trivial rfl rfl ?_
    refine TL.nil ?_
    refine nilRowC 2 2 3 1 (List.map en_int []) rfl rfl rfl ?_
    cases h
    exact retJ [(0, 2)] (.tmp rfl .nil) rfl ⟨mem_at 0 rfl, trivial⟩ rfl rfl
  · refine TC.skip ?_
    refine TC.seq ?_
    refine TC.region ?_
    refine op0 (sp_emptyM 3 (List.map en_int []) rfl rfl sl37) rfl trivial rfl rfl ?_
    refine op0 (sp_move rfl rfl) rfl trivial rfl rfl ?_
    obtain ⟨h1, h⟩ := chk_inv h
    refine appM 0 2 (N := ([] : List Int).length) (N2 := s1.length) 4 rfl rfl trivial rfl rfl rfl rfl rfl isRo rfl sl37 (len_map _ _) (len_map _ _) h1 (map_app _ _ _) rfl ?_
    refine op0 (sp_assign rfl rfl) rfl trivial rfl rfl ?_
    refine TL.nil ?_
    cases h
    exact retJ [(0, 4)] (.tmp rfl .nil) rfl ⟨mem_at 0 rfl, trivial⟩ rfl rfl
/- slices_Clip_Lint_int -/
def ev_slices_Clip_Lint_int (n : Nat) (s1 : List Int) : Option ((List Int)) :=
  some s1
set_option maxRecDepth 100000 in
set_option maxHeartbeats 2000000 in
theorem fc_slices_Clip_Lint_int {n : Nat} {s1 : List Int} {r : (List Int)} (h : ev_slices_Clip_Lint_int n s1 = some r) : FC Try.prog 162 [.ref 0] [.ro 0 1 (List.map en_int s1)] (.ref 0) [.any 0 (D.clip 1 (List.map en_int r))] := by
  refine introJ (nz := 9) Try.func162 rfl rfl rfl (fun w0 R0 env0 => ?_)
  rw [ev_slices_Clip_Lint_int] at h
  refine TC.seq ?_
  refine TC.region ?_
  refine op0 (sp_assign rfl rfl) rfl trivial rfl rfl ?_
  refine TL.nil ?_
  refine TC.seq ?_
  refine TC.region ?_
  refine op0 (sp_move rfl rfl) rfl trivial rfl rfl ?_
  refine op0 (sp_move rfl rfl) rfl trivial rfl rfl ?_
  refine op1 0 rfl (sp_lenM (N := s1.length) (len_map _ _) rfl rfl isRo Try.underlying37) rfl trivial rfl rfl ?_
  refine op0 (sp_move rfl rfl) rfl trivial rfl rfl ?_
  refine op1 0 rfl (sp_lenM (N := s1.length) (len_map _ _) rfl rfl isRo Try.underlying37) rfl trivial rfl rfl ?_
  refine op1 0 rfl (sp_clip 1 (len_map _ _) rfl rfl sl37 rfl rfl) rfl trivial rfl rfl ?_
  refine op0 (sp_assign rfl rfl) rfl trivial rfl rfl ?_
  refine TL.nil ?_
  cases h
  exact retJ [(0, 1)] (.tmp rfl .nil) rfl ⟨mem_at 0 rfl, trivial⟩ rfl rfl
end
end Go.Proofs.Ytmgcinejodpopaa.Sy
