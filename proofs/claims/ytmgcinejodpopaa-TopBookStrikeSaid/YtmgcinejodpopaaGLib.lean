/- What functions of the program compute, and that they do: printed by symgen.py. -/
import Derived.Test.YtmgcinejodpopaaSymZ
import Derived.Test.YtmgcinejodpopaaProg
set_option linter.unusedSimpArgs false
set_option linter.unusedVariables false
namespace Go.Proofs.Ytmgcinejodpopaa.Sy
open Go.RowKit
noncomputable section

def en_api_BookEntry : Int × Int × Int → List D := fun x => [D.v (.int .i64 x.1), D.v (.int .i64 x.2.1), D.v (.int .i64 x.2.2)]
theorem en_api_BookEntry_flat : ∀ a, ∀ d ∈ en_api_BookEntry a, ∃ x, d = D.v x := by
  intro a d h
  simp only [en_api_BookEntry, List.mem_cons, List.not_mem_nil, or_false] at h
  rcases h with rfl | rfl | rfl <;> exact ⟨_, rfl⟩
def en_int : Int → List D := fun x => [D.v (.int .i64 x)]
theorem en_int_flat : ∀ a, ∀ d ∈ en_int a, ∃ x, d = D.v x := by
  intro a d h
  simp only [en_int, List.mem_cons, List.not_mem_nil, or_false] at h
  rcases h with rfl <;> exact ⟨_, rfl⟩
theorem sl166 : SlT Try.prog 166 35 3 24 := ⟨Try.underlying166, ⟨Try.t35, _, by kernel_rfl, rfl, rfl, rfl, rfl⟩, by decide⟩
theorem vt35 : VarT Try.prog 35 3 true := ⟨Try.isAgg35, Try.sizeOf35⟩
theorem ft35_1 : FieldT Try.prog 35 1 1 33 := ⟨_, _, Try.underlying35, rfl, rfl, rfl⟩
theorem vt33 : VarT Try.prog 33 1 false := ⟨Try.isAgg33, Try.sizeOf33⟩
theorem ft35_0 : FieldT Try.prog 35 0 0 3 := ⟨_, _, Try.underlying35, rfl, rfl, rfl⟩
theorem vt3 : VarT Try.prog 3 1 false := ⟨Try.isAgg3, Try.sizeOf3⟩
theorem sl37 : SlT Try.prog 37 3 1 8 := ⟨Try.underlying37, ⟨Try.t3, _, by kernel_rfl, rfl, rfl, rfl, rfl⟩, by decide⟩
def fe_funcint_bool : Int → List AV := fun a => [.val (.int .i64 a)]
def fd_funcint_bool : Bool → AV := fun b => .val (.bool b)
theorem ft35_2 : FieldT Try.prog 35 2 2 3 := ⟨_, _, Try.underlying35, rfl, rfl, rfl⟩
theorem vt37 : VarT Try.prog 37 1 false := ⟨Try.isAgg37, Try.sizeOf37⟩
def ye_funcbook_clock_bool : Int × Int × Int × Bool → List AV := fun a => [.agg [.val (.int .i64 a.1), .val (.int .i64 a.2.1), .val (.int .i64 a.2.2.1), .val (.bool a.2.2.2)]]
def yn_funcbook_clock_bool : Int × Int × Int × Bool → List NEnt := fun a => []
theorem bt173 : ∀ parts, Try.prog.built 173 parts = Instr.fill (fun i => (#[(0, 1), (1, 1), (2, 1), (3, 1)] : Array (Nat × Nat))[i]?) (AV.denL (fun _ => undef) [.val (.int .i64 0), .val (.int .i64 0), .val (.int .i64 0), .val (.bool false)]).toArray parts := fun _ => by kernel_rfl
theorem vt166 : VarT Try.prog 166 1 false := ⟨Try.isAgg166, Try.sizeOf166⟩
theorem vt173 : VarT Try.prog 173 4 true := ⟨Try.isAgg173, Try.sizeOf173⟩
theorem vt169 : VarT Try.prog 169 1 false := ⟨Try.isAgg169, Try.sizeOf169⟩
def ye_funcint_bool : Int → List AV := fun a => [.val (.int .i64 a)]
def yn_funcint_bool : Int → List NEnt := fun a => []
theorem ft173_3 : FieldT Try.prog 173 3 3 4 := ⟨_, _, Try.underlying173, rfl, rfl, rfl⟩
theorem vt4 : VarT Try.prog 4 1 false := ⟨Try.isAgg4, Try.sizeOf4⟩
theorem ft173_0 : FieldT Try.prog 173 0 0 3 := ⟨_, _, Try.underlying173, rfl, rfl, rfl⟩
theorem ft173_2 : FieldT Try.prog 173 2 2 3 := ⟨_, _, Try.underlying173, rfl, rfl, rfl⟩
theorem ft173_1 : FieldT Try.prog 173 1 1 3 := ⟨_, _, Try.underlying173, rfl, rfl, rfl⟩
theorem vt289 : VarT Try.prog 289 1 false := ⟨Try.isAgg289, Try.sizeOf289⟩
theorem bt124 : ∀ parts, Try.prog.built 124 parts = Instr.fill (fun i => (#[(0, 1), (1, 1), (2, 1)] : Array (Nat × Nat))[i]?) (AV.denL (fun _ => undef) [.val (.bool false), .val (.bool false), .val (.slice none 0 0)]).toArray parts := fun _ => by kernel_rfl
def en_api_Span : Int × Int → List D := fun x => [D.v (.int .i64 x.1), D.v (.int .i64 x.2)]
theorem en_api_Span_flat : ∀ a, ∀ d ∈ en_api_Span a, ∃ x, d = D.v x := by
  intro a d h
  simp only [en_api_Span, List.mem_cons, List.not_mem_nil, or_false] at h
  rcases h with rfl | rfl <;> exact ⟨_, rfl⟩
theorem vt124 : VarT Try.prog 124 3 true := ⟨Try.isAgg124, Try.sizeOf124⟩
theorem ft124_0 : FieldT Try.prog 124 0 0 4 := ⟨_, _, Try.underlying124, rfl, rfl, rfl⟩
theorem bt250 : ∀ parts, Try.prog.built 250 parts = Instr.fill (fun i => (#[(0, 3), (3, 1)] : Array (Nat × Nat))[i]?) (AV.denL (fun _ => undef) [.val (.bool false), .val (.bool false), .val (.slice none 0 0), .val (.int .i64 0)]).toArray parts := fun _ => by kernel_rfl
theorem ft124_2 : FieldT Try.prog 124 2 2 23 := ⟨_, _, Try.underlying124, rfl, rfl, rfl⟩
theorem vt23 : VarT Try.prog 23 1 false := ⟨Try.isAgg23, Try.sizeOf23⟩
theorem sl23 : SlT Try.prog 23 26 2 16 := ⟨Try.underlying23, ⟨Try.t26, _, by kernel_rfl, rfl, rfl, rfl, rfl⟩, by decide⟩
theorem vt26 : VarT Try.prog 26 2 true := ⟨Try.isAgg26, Try.sizeOf26⟩
theorem ft26_0 : FieldT Try.prog 26 0 0 3 := ⟨_, _, Try.underlying26, rfl, rfl, rfl⟩
theorem ft26_1 : FieldT Try.prog 26 1 1 3 := ⟨_, _, Try.underlying26, rfl, rfl, rfl⟩
theorem vt250 : VarT Try.prog 250 4 true := ⟨Try.isAgg250, Try.sizeOf250⟩
theorem ft250_1 : FieldT Try.prog 250 1 3 3 := ⟨_, _, Try.underlying250, rfl, rfl, rfl⟩
theorem ft250_0 : FieldT Try.prog 250 0 0 124 := ⟨_, _, Try.underlying250, rfl, rfl, rfl⟩
def fe_funcapi_Span_bool : Int × Int → List AV := fun a => [.agg [.val (.int .i64 a.1), .val (.int .i64 a.2)]]
def fd_funcapi_Span_bool : Bool → AV := fun b => .val (.bool b)
theorem bt35 : ∀ parts, Try.prog.built 35 parts = Instr.fill (fun i => (#[(0, 1), (1, 1), (2, 1)] : Array (Nat × Nat))[i]?) (AV.denL (fun _ => undef) [.val (.int .i64 0), .val (.int .i64 0), .val (.int .i64 0)]).toArray parts := fun _ => by kernel_rfl
theorem sl36 : SlT Try.prog 36 35 3 24 := ⟨Try.underlying36, ⟨Try.t35, _, by kernel_rfl, rfl, rfl, rfl, rfl⟩, by decide⟩
def en_api_StrikeStep : Int × Bool → List D := fun x => [D.v (.int .i64 x.1), D.v (.bool x.2)]
theorem en_api_StrikeStep_flat : ∀ a, ∀ d ∈ en_api_StrikeStep a, ∃ x, d = D.v x := by
  intro a d h
  simp only [en_api_StrikeStep, List.mem_cons, List.not_mem_nil, or_false] at h
  rcases h with rfl | rfl <;> exact ⟨_, rfl⟩
theorem sl125 : SlT Try.prog 125 127 2 16 := ⟨Try.underlying125, ⟨Try.t127, _, by kernel_rfl, rfl, rfl, rfl, rfl⟩, by decide⟩
theorem bt127 : ∀ parts, Try.prog.built 127 parts = Instr.fill (fun i => (#[(0, 1), (1, 1)] : Array (Nat × Nat))[i]?) (AV.denL (fun _ => undef) [.val (.int .i64 0), .val (.bool false)]).toArray parts := fun _ => by kernel_rfl
theorem ft124_1 : FieldT Try.prog 124 1 1 4 := ⟨_, _, Try.underlying124, rfl, rfl, rfl⟩
theorem vt127 : VarT Try.prog 127 2 true := ⟨Try.isAgg127, Try.sizeOf127⟩
theorem ft127_0 : FieldT Try.prog 127 0 0 3 := ⟨_, _, Try.underlying127, rfl, rfl, rfl⟩
theorem ft127_1 : FieldT Try.prog 127 1 1 4 := ⟨_, _, Try.underlying127, rfl, rfl, rfl⟩
theorem bt26 : ∀ parts, Try.prog.built 26 parts = Instr.fill (fun i => (#[(0, 1), (1, 1)] : Array (Nat × Nat))[i]?) (AV.denL (fun _ => undef) [.val (.int .i64 0), .val (.int .i64 0)]).toArray parts := fun _ => by kernel_rfl
def mk345 : Int × Int → Value := fun k => .agg #[.int .i64 k.1, .int .i64 k.2]
theorem kc345 (b : Bool) (k : Int × Int) (w : World) (n : Nat) : (Instr.checkKey b (n + 2) 351 (mk345 k)).run Try.prog w = .ok () w := by
  simp [mk345, Instr.checkKey, go_sem, Try.underlying351, Try.underlying3, Try.isAgg351, Try.isAgg3, Try.sizeOf351, Try.sizeOf3, Try.stoodInHeld351]
theorem eq351 (a0 : Int) (a1 : Int) (b0 : Int) (b1 : Int) : EqT Try.prog 351 [.int .i64 a0, .int .i64 a1] [.int .i64 b0, .int .i64 b1] (((a0 == b0) && (a1 == b1))) := ⟨Try.eqGuardType351, fun w => by
  simp [go_sem, Try.underlying351, Try.underlying3, Try.isAgg351, Try.isAgg3, Try.sizeOf351, Try.sizeOf3, Try.stoodInHeld351]
  (repeat' split) <;> simp_all⟩
theorem kq345 (k k' : Int × Int) (w : World) : (Op.equal 351 (mk345 k) (mk345 k')).run Try.prog w = .ok (k == k') w := by
  have h := (eq351 (k.1) (k.2) ((k').1) ((k').2)).2 w
  show (Op.equalIn 10000 351 _ _).run Try.prog w = _
  simp only [mk345]
  exact h
theorem km345 : MKey Try.prog 345 351 353 mk345 := mkey_agg2 Try.underlying345 Try.underlying351 (fun k es i => findNow_struct k es i) (fun b k w => kc345 b k w 9998) kq345 (fun k => by simp [mk345, Instr.sameBits])
def en_strike_cost : Int × Int → List D := fun x => [D.v (.int .i64 x.1), D.v (.int .i64 x.2)]
theorem en_strike_cost_flat : ∀ a, ∀ d ∈ en_strike_cost a, ∃ x, d = D.v x := by
  intro a d h
  simp only [en_strike_cost, List.mem_cons, List.not_mem_nil, or_false] at h
  rcases h with rfl | rfl <;> exact ⟨_, rfl⟩
def mk346 : Int × Int → Value := fun k => .agg #[.int .i64 k.1, .int .i64 k.2]
theorem kc346 (b : Bool) (k : Int × Int) (w : World) (n : Nat) : (Instr.checkKey b (n + 2) 351 (mk346 k)).run Try.prog w = .ok () w := by
  simp [mk346, Instr.checkKey, go_sem, Try.underlying351, Try.underlying3, Try.isAgg351, Try.isAgg3, Try.sizeOf351, Try.sizeOf3, Try.stoodInHeld351]
theorem kq346 (k k' : Int × Int) (w : World) : (Op.equal 351 (mk346 k) (mk346 k')).run Try.prog w = .ok (k == k') w := by
  have h := (eq351 (k.1) (k.2) ((k').1) ((k').2)).2 w
  show (Op.equalIn 10000 351 _ _).run Try.prog w = _
  simp only [mk346]
  exact h
theorem km346 : MKey Try.prog 346 351 127 mk346 := mkey_agg2 Try.underlying346 Try.underlying351 (fun k es i => findNow_struct k es i) (fun b k w => kc346 b k w 9998) kq346 (fun k => by simp [mk346, Instr.sameBits])
def mk347 : Int × Int → Value := fun k => .agg #[.int .i64 k.1, .int .i64 k.2]
theorem kc347 (b : Bool) (k : Int × Int) (w : World) (n : Nat) : (Instr.checkKey b (n + 2) 351 (mk347 k)).run Try.prog w = .ok () w := by
  simp [mk347, Instr.checkKey, go_sem, Try.underlying351, Try.underlying3, Try.isAgg351, Try.isAgg3, Try.sizeOf351, Try.sizeOf3, Try.stoodInHeld351]
theorem kq347 (k k' : Int × Int) (w : World) : (Op.equal 351 (mk347 k) (mk347 k')).run Try.prog w = .ok (k == k') w := by
  have h := (eq351 (k.1) (k.2) ((k').1) ((k').2)).2 w
  show (Op.equalIn 10000 351 _ _).run Try.prog w = _
  simp only [mk347]
  exact h
theorem km347 : MKey Try.prog 347 351 4 mk347 := mkey_agg2 Try.underlying347 Try.underlying351 (fun k es i => findNow_struct k es i) (fun b k w => kc347 b k w 9998) kq347 (fun k => by simp [mk347, Instr.sameBits])
def en_bool : Bool → List D := fun x => [D.v (.bool x)]
theorem en_bool_flat : ∀ a, ∀ d ∈ en_bool a, ∃ x, d = D.v x := by
  intro a d h
  simp only [en_bool, List.mem_cons, List.not_mem_nil, or_false] at h
  rcases h with rfl <;> exact ⟨_, rfl⟩
theorem bt349 : ∀ parts, Try.prog.built 349 parts = Instr.fill (fun i => (#[(0, 4), (4, 1), (5, 1), (6, 1), (7, 1)] : Array (Nat × Nat))[i]?) (AV.denL (fun _ => undef) [.val (.bool false), .val (.bool false), .val (.slice none 0 0), .val (.int .i64 0), .val (.int .i64 0), .val (.map none), .val (.map none), .val (.map none)]).toArray parts := fun _ => by kernel_rfl
theorem bt351 : ∀ parts, Try.prog.built 351 parts = Instr.fill (fun i => (#[(0, 1), (1, 1)] : Array (Nat × Nat))[i]?) (AV.denL (fun _ => undef) [.val (.int .i64 0), .val (.int .i64 0)]).toArray parts := fun _ => by kernel_rfl
theorem vt351 : VarT Try.prog 351 2 true := ⟨Try.isAgg351, Try.sizeOf351⟩
theorem ft351_0 : FieldT Try.prog 351 0 0 3 := ⟨_, _, Try.underlying351, rfl, rfl, rfl⟩
theorem vt344 : VarT Try.prog 344 1 false := ⟨Try.isAgg344, Try.sizeOf344⟩
theorem ft349_1 : FieldT Try.prog 349 1 4 3 := ⟨_, _, Try.underlying349, rfl, rfl, rfl⟩
theorem bt353 : ∀ parts, Try.prog.built 353 parts = Instr.fill (fun i => (#[(0, 1), (1, 1)] : Array (Nat × Nat))[i]?) (AV.denL (fun _ => undef) [.val (.int .i64 0), .val (.int .i64 0)]).toArray parts := fun _ => by kernel_rfl
theorem ft351_1 : FieldT Try.prog 351 1 1 3 := ⟨_, _, Try.underlying351, rfl, rfl, rfl⟩
theorem ft349_0 : FieldT Try.prog 349 0 0 250 := ⟨_, _, Try.underlying349, rfl, rfl, rfl⟩
theorem vt353 : VarT Try.prog 353 2 true := ⟨Try.isAgg353, Try.sizeOf353⟩
theorem ft349_4 : FieldT Try.prog 349 4 7 347 := ⟨_, _, Try.underlying349, rfl, rfl, rfl⟩
theorem vt347 : VarT Try.prog 347 1 false := ⟨Try.isAgg347, Try.sizeOf347⟩
theorem ft349_2 : FieldT Try.prog 349 2 5 345 := ⟨_, _, Try.underlying349, rfl, rfl, rfl⟩
theorem vt345 : VarT Try.prog 345 1 false := ⟨Try.isAgg345, Try.sizeOf345⟩
def ye_funcapi_StrikeStep_bool : Int × Bool → List AV := fun a => [.agg [.val (.int .i64 a.1), .val (.bool a.2)]]
def yn_funcapi_StrikeStep_bool : Int × Bool → List NEnt := fun a => []
theorem bt428 : ∀ parts, Try.prog.built 428 parts = Instr.fill (fun i => some (i * 1, 1)) (AV.denL (fun _ => undef) [.val (.bool false), .val (.bool false)]).toArray parts := fun _ => by kernel_rfl
theorem ft353_0 : FieldT Try.prog 353 0 0 3 := ⟨_, _, Try.underlying353, rfl, rfl, rfl⟩
theorem ft353_1 : FieldT Try.prog 353 1 1 3 := ⟨_, _, Try.underlying353, rfl, rfl, rfl⟩
theorem ft349_3 : FieldT Try.prog 349 3 6 346 := ⟨_, _, Try.underlying349, rfl, rfl, rfl⟩
theorem vt346 : VarT Try.prog 346 1 false := ⟨Try.isAgg346, Try.sizeOf346⟩
theorem eq127 (a0 : Int) (a1 : Bool) (b0 : Int) (b1 : Bool) : EqT Try.prog 127 [.int .i64 a0, .bool a1] [.int .i64 b0, .bool b1] (((a0 == b0) && (a1 == b1))) := ⟨Try.eqGuardType127, fun w => by
  simp [go_sem, Try.underlying127, Try.underlying3, Try.underlying4, Try.isAgg127, Try.isAgg3, Try.isAgg4, Try.sizeOf127, Try.sizeOf3, Try.sizeOf4, Try.stoodInHeld127]
  (repeat' split) <;> simp_all⟩
def en_uint8 : Int → List D := fun x => [D.v (.int .u8 x)]
theorem en_uint8_flat : ∀ a, ∀ d ∈ en_uint8 a, ∃ x, d = D.v x := by
  intro a d h
  simp only [en_uint8, List.mem_cons, List.not_mem_nil, or_false] at h
  rcases h with rfl <;> exact ⟨_, rfl⟩
theorem sl56 : SlT Try.prog 56 5 1 1 := ⟨Try.underlying56, ⟨Try.t5, _, by kernel_rfl, rfl, rfl, rfl, rfl⟩, by decide⟩
theorem vt5 : VarT Try.prog 5 1 false := ⟨Try.isAgg5, Try.sizeOf5⟩
/- slices_IndexFunc_Lint_int -/
def ev_slices_IndexFunc_Lint_int_l0 (n : Nat) (s1 : List Int) (f2 : Int → Option Bool) : Nat → Int → Option Int
  | 0, _ => none
  | m + 1, i3 => cond (decide (i3 < (s1.length : Int))) (idx s1 i3 fun x4 => (f2 x4).bind fun r5 => cond r5 (some i3) (chk (in64 (i3 + 1)) <| ev_slices_IndexFunc_Lint_int_l0 n s1 f2 m (i3 + 1))) (some (-1))
set_option maxRecDepth 100000 in
set_option maxHeartbeats 2000000 in
theorem ok_slices_IndexFunc_Lint_int_l0 {n : Nat} {w0 : World} {R0 : Nat → Prop} {env0 : Env} {r : Int} {s1 : List Int} {f2 : Int → Option Bool} : ∀ (m : Nat) (i3 : Int), ev_slices_IndexFunc_Lint_int_l0 n s1 f2 m i3 = some r → TC Try.prog ⟨w0, fun _ => False, R0⟩ 19 (bodyPost Try.prog Try.f229 (Post ⟨w0, fun _ => False, R0⟩ env0 (.val (.int .i64 r)) [])) [.code (sub (bodyOf Try.f229) [1, 0, 1, 0, 0, 0]), .code (sub (bodyOf Try.f229) [1, 0, 1, 0, 0, 1]), .inLoop (sub (bodyOf Try.f229) [1, 0, 1, 0, 0]), .inBlock 0, .code (sub (bodyOf Try.f229) [1, 1])] ([(0, .ref 0), (1, .ref 1), (7, .val (.int .i64 (s1.length : Int))), (8, .val (.int .i64 i3))]) ([.ro 0 1 (List.map en_int s1), .any 1 (D.fn Try.prog fe_funcint_bool fd_funcint_bool f2)]) := by
  intro m
  induction m with
  | zero => intro i3 h; exact none_no h
  | succ m ih =>
    intro i3 h
    rw [ev_slices_IndexFunc_Lint_int_l0] at h
    refine TC.region ?_
    refine op0 (sp_lss rfl rfl rfl) rfl trivial rfl rfl ?_
    refine TL.nil ?_
    refine TC.seq ?_
    refine TC.cond (b := (decide (i3 < (s1.length : Int)))) rfl (fun h1 => ?_) (fun h1 => ?_)
    · have h := cond_t h h1
      refine TC.skip ?_
      refine TC.seq ?_
      refine TC.block ?_
      refine TC.seq ?_
      refine TC.region ?_
      refine op0 (sp_move rfl rfl) rfl trivial rfl rfl ?_
      refine op0 (sp_assign rfl rfl) rfl trivial rfl rfl ?_
      refine TL.nil ?_
      refine TC.seq ?_
      refine TC.region ?_
      refine op0 (sp_move rfl rfl) rfl trivial rfl rfl ?_
      refine op0 (sp_move rfl rfl) rfl trivial rfl rfl ?_
      refine op0 (sp_move rfl rfl) rfl trivial rfl rfl ?_
      obtain ⟨x4, h2, h3, h⟩ := idx_inv h
      refine op1 0 rfl (sp_indexS rfl rfl rfl isRo sl37 h2 (map_get _ h3)) rfl trivial rfl rfl ?_
      refine op1 0 rfl (sp_loadR (i := (i3 : Int).toNat) (j := 0) rfl rfl isRo vt3 rfl (map_get _ h3) rfl (.v (.nil)) (nodup_of_B rfl)) rfl trivial rfl rfl ?_
      obtain ⟨r5, h4, h⟩ := bind_inv h
      refine op1 1 rfl (sp_callF (avs := [.val (.int .i64 x4)]) (v := .val (.bool r5)) x4 rfl rfl rfl rfl rfl h4) rfl trivial rfl rfl ?_
      refine TL.nil ?_
      refine TC.cond (b := r5) rfl (fun h5 => ?_) (fun h5 => ?_)
      · have h := cond_t h h5
        refine TC.seq ?_
        refine TC.region ?_
        refine op0 (sp_move rfl rfl) rfl trivial rfl rfl ?_
        refine op0 (sp_assign rfl rfl) rfl trivial rfl rfl ?_
        refine TL.nil ?_
        cases h
        exact retJ [] (.tmp rfl .nil) rfl trivial rfl rfl
      · have h := cond_f h h5
        refine TC.skip ?_
        refine TC.inBlock ?_
        refine TC.region ?_
        obtain ⟨h6, h⟩ := chk_inv h
        refine op0 (sp_add rfl rfl rfl h6) rfl trivial rfl rfl ?_
        refine op0 (sp_move rfl rfl) rfl trivial rfl rfl ?_
        refine TL.nil ?_
        refine TC.inLoop ?_
        refine TC.seq ?_
        refine subJ [] (ih _ h) ?_ ?_ ?_
        · exact ⟨rfl, rfl, rfl, rfl, trivial⟩
        · exact ⟨mem_at 0 rfl, mem_at 1 rfl, trivial⟩
        · rfl
    · have h := cond_f h h1
      refine TC.exit rfl ?_
      refine TC.seq ?_
      refine TC.region ?_
      refine op0 (sp_assign rfl rfl) rfl trivial rfl rfl ?_
      refine TL.nil ?_
      cases h
      exact retJ [] (.tmp rfl .nil) rfl trivial rfl rfl
def ev_slices_IndexFunc_Lint_int (n : Nat) (s1 : List Int) (f2 : Int → Option Bool) : Option Int :=
  ev_slices_IndexFunc_Lint_int_l0 n s1 f2 n 0
set_option maxRecDepth 100000 in
set_option maxHeartbeats 2000000 in
theorem fc_slices_IndexFunc_Lint_int {n : Nat} {s1 : List Int} {f2 : Int → Option Bool} {r : Int} (h : ev_slices_IndexFunc_Lint_int n s1 f2 = some r) : FC Try.prog 229 [.ref 0, .ref 1] [.ro 0 1 (List.map en_int s1), .any 1 (D.fn Try.prog fe_funcint_bool fd_funcint_bool f2)] (.val (.int .i64 r)) [] := by
  refine introJ (nz := 19) Try.func229 rfl rfl rfl (fun w0 R0 env0 => ?_)
  rw [ev_slices_IndexFunc_Lint_int] at h
  refine TC.seq ?_
  refine TC.region ?_
  refine op0 (sp_assign rfl rfl) rfl trivial rfl rfl ?_
  refine TL.nil ?_
  refine TC.seq ?_
  refine TC.seq ?_
  refine TC.region ?_
  refine op0 (sp_move rfl rfl) rfl trivial rfl rfl ?_
  refine op1 0 rfl (sp_lenM (N := s1.length) (len_map _ _) rfl rfl isRo Try.underlying37) rfl trivial rfl rfl ?_
  refine op0 (sp_move rfl rfl) rfl trivial rfl rfl ?_
  refine TL.nil ?_
  refine TC.block ?_
  refine TC.loop ?_
  refine TC.seq ?_
  refine subJ [] (ok_slices_IndexFunc_Lint_int_l0 _ _ h) ?_ ?_ ?_
  · exact ⟨rfl, rfl, rfl, rfl, trivial⟩
  · exact ⟨mem_at 0 rfl, mem_at 1 rfl, trivial⟩
  · rfl
/- slices_ContainsFunc_Lint_int -/
def ev_slices_ContainsFunc_Lint_int (n : Nat) (s1 : List Int) (f2 : Int → Option Bool) : Option Bool :=
  (ev_slices_IndexFunc_Lint_int n s1 f2).bind fun r3 => some (decide ((0 : Int) ≤ r3))
set_option maxRecDepth 100000 in
set_option maxHeartbeats 2000000 in
theorem fc_slices_ContainsFunc_Lint_int {n : Nat} {s1 : List Int} {f2 : Int → Option Bool} {r : Bool} (h : ev_slices_ContainsFunc_Lint_int n s1 f2 = some r) : FC Try.prog 133 [.ref 0, .ref 1] [.ro 0 1 (List.map en_int s1), .any 1 (D.fn Try.prog fe_funcint_bool fd_funcint_bool f2)] (.val (.bool r)) [] := by
  refine introJ (nz := 9) Try.func133 rfl rfl rfl (fun w0 R0 env0 => ?_)
  rw [ev_slices_ContainsFunc_Lint_int] at h
  refine TC.seq ?_
  refine TC.region ?_
  refine op0 (sp_assign rfl rfl) rfl trivial rfl rfl ?_
  refine TL.nil ?_
  refine TC.seq ?_
  refine TC.region ?_
  refine op0 (sp_move rfl rfl) rfl trivial rfl rfl ?_
  refine op0 (sp_move rfl rfl) rfl trivial rfl rfl ?_
  obtain ⟨r3, h1, h⟩ := bind_inv h
  refine opN (need := [.ro 0 1 (List.map en_int s1), .any 1 (D.fn Try.prog fe_funcint_bool fd_funcint_bool f2)]) [0, 1] ⟨rfl, rfl, trivial⟩ (sp_call (avs := [.ref 0, .ref 1]) (need := [.ro 0 1 (List.map en_int s1), .any 1 (D.fn Try.prog fe_funcint_bool fd_funcint_bool f2)]) (v := .val (.int .i64 r3)) (news := []) rfl rfl rfl Try.call229 (atJ [] [] (fc_slices_IndexFunc_Lint_int h1) rfl rfl) (.inl (roAll rfl))) rfl trivial rfl rfl ?_
  refine op0 (sp_geq rfl rfl rfl) rfl trivial rfl rfl ?_
  refine op0 (sp_assign rfl rfl) rfl trivial rfl rfl ?_
  refine TL.nil ?_
  cases h
  exact retJ [] (.tmp rfl .nil) rfl trivial rfl rfl
/- slices_Values_Lint_int -/
def ev_slices_Values_Lint_int (n : Nat) (s1 : List Int) : Option ((List Int)) :=
  some s1
set_option maxRecDepth 100000 in
set_option maxHeartbeats 2000000 in
theorem fc_slices_Values_Lint_int {n : Nat} {s1 : List Int} {r : (List Int)} (h : ev_slices_Values_Lint_int n s1 = some r) : FC Try.prog 85 [.ref 0] [.ro 0 1 (List.map en_int s1)] (.fn 150 [] [.ptr 0 0]) [.blk 0 [.ref 1] 37, .ro 1 1 (List.map en_int r)] := by
  refine introJ (nz := 4) Try.func85 rfl rfl rfl (fun w0 R0 env0 => ?_)
  rw [ev_slices_Values_Lint_int] at h
  refine TC.seq ?_
  refine TC.region ?_
  refine op0 (sp_box 1 rfl rfl rfl rfl rfl) rfl trivial rfl rfl ?_
  refine op0 (sp_assign rfl rfl) rfl trivial rfl rfl ?_
  refine TL.nil ?_
  refine TC.seq ?_
  refine TC.region ?_
  refine op0 (sp_makeFunc (fi := []) (ca := [.tmp 1]) (fa := []) (cb := [.ptr 1 0]) rfl rfl rfl) rfl trivial rfl rfl ?_
  refine op0 (sp_assign rfl rfl) rfl trivial rfl rfl ?_
  refine TL.nil ?_
  cases h
  exact retJ [(0, 1), (1, 0)] (.tmp rfl .nil) rfl ⟨mem_at 0 rfl, mem_at 1 rfl, trivial⟩ rfl rfl
/- slices_Values_Lint_int_1 -/
def ev_slices_Values_Lint_int_1_l0 {σ1 : Type} (yb1 : Int → σ1 → Option (Bool × σ1)) (n : Nat) (c2 : List Int) : Nat → Int → σ1 → Option σ1
  | 0, _, _ => none
  | m + 1, i3, y4 => cond (decide (i3 < (c2.length : Int))) (idx c2 i3 fun x5 => (yb1 x5 y4).bind fun r6 => cond (!r6.1) (some r6.2) (chk (in64 (i3 + 1)) <| ev_slices_Values_Lint_int_1_l0 yb1 n c2 m (i3 + 1) r6.2)) (some y4)
set_option maxRecDepth 100000 in
set_option maxHeartbeats 2000000 in
theorem ok_slices_Values_Lint_int_1_l0 {σ1 : Type} {yb1 : Int → σ1 → Option (Bool × σ1)} {I1 : σ1 → Inv} (hI1 : Yields Try.prog ye_funcint_bool yn_funcint_bool yb1 I1) {n : Nat} {w0 : World} {M0 R0 : Nat → Prop} {env0 : Env} {df : List Deferred} {r : σ1} {c2 : List Int} : ∀ (m : Nat) (i3 : Int) (y4 : σ1), ev_slices_Values_Lint_int_1_l0 yb1 n c2 m i3 y4 = some r → TC Try.prog ⟨w0, M0, R0⟩ ⟨16, none, df⟩ (bodyPostM Fence.wide 0 Try.prog Try.f150 (PostT ⟨w0, M0, R0⟩ env0 [0] (.tup []) [.inv 0 (I1 r)])) [.code (sub (bodyOf Try.f150) [1, 0, 0, 0]), .code (sub (bodyOf Try.f150) [1, 0, 0, 1]), .inLoop (sub (bodyOf Try.f150) [1, 0, 0]), .inBlock 0] ([(0, .ref 0), (5, .ref 2), (6, .val (.int .i64 (c2.length : Int))), (7, .val (.int .i64 i3))]) ([.ro 2 1 (List.map en_int c2), .inv 3 (marksI df), .pin 4 0 (env0 0), .inv 0 (I1 y4)]) := by
  intro m
  induction m with
  | zero => intro i3 y4 h; exact none_no h
  | succ m ih =>
    intro i3 y4 h
    rw [ev_slices_Values_Lint_int_1_l0] at h
    refine TC.region ?_
    refine op0 (sp_lss rfl rfl rfl) rfl trivial rfl rfl ?_
    refine TL.nil ?_
    refine TC.seq ?_
    refine TC.cond (b := (decide (i3 < (c2.length : Int)))) rfl (fun h1 => ?_) (fun h1 => ?_)
    · have h := cond_t h h1
      refine TC.skip ?_
      refine TC.seq ?_
      refine TC.block ?_
      refine TC.seq ?_
      refine TC.region ?_
      obtain ⟨x5, h2, h3, h⟩ := idx_inv h
      refine op1 0 rfl (sp_indexS rfl rfl rfl isRo sl37 h2 (map_get _ h3)) rfl trivial rfl rfl ?_
      refine op1 0 rfl (sp_loadR (i := (i3 : Int).toNat) (j := 0) rfl rfl isRo vt3 rfl (map_get _ h3) rfl (.v (.nil)) (nodup_of_B rfl)) rfl trivial rfl rfl ?_
      refine op0 (sp_assign rfl rfl) rfl trivial rfl rfl ?_
      refine TL.nil ?_
      refine TC.seq ?_
      refine TC.region ?_
      refine op0 (sp_move rfl rfl) rfl trivial rfl rfl ?_
      refine op0 (sp_move rfl rfl) rfl trivial rfl rfl ?_
      obtain ⟨r6, h4, h⟩ := bind_inv h
      refine opT (take := [.inv 0 (I1 y4)]) (need := []) (V' := [.inv 0 (I1 r6.2), .ro 2 1 (List.map en_int c2), .inv 3 (marksI df), .pin 4 0 (env0 0)]) [3] [] (ts_yield hI1 (x := x5) (b := r6.1) (avs := [.val (.int .i64 x5)]) (need := []) [] h4 rfl rfl rfl rfl rfl rfl) trivial rfl ⟨rfl, trivial⟩ trivial rfl rfl ?_
      refine op0 (sp_not rfl rfl) rfl trivial rfl rfl ?_
      refine TL.nil ?_
      refine TC.cond (b := (!r6.1)) rfl (fun h5 => ?_) (fun h5 => ?_)
      · have h := cond_t h h5
        cases h
        exact retM [] 2 3 [0] rfl (.nil) rfl ⟨mem_at 0 rfl, trivial⟩ rfl rfl ⟨⟨_, mem_at 2 rfl⟩, trivial⟩ rfl
      · have h := cond_f h h5
        refine TC.skip ?_
        refine TC.inBlock ?_
        refine TC.region ?_
        obtain ⟨h6, h⟩ := chk_inv h
        refine op0 (sp_add rfl rfl rfl h6) rfl trivial rfl rfl ?_
        refine op0 (sp_move rfl rfl) rfl trivial rfl rfl ?_
        refine TL.nil ?_
        refine TC.inLoop ?_
        refine TC.seq ?_
        refine subJ [] (ih _ _ h) ?_ ?_ ?_
        · exact ⟨rfl, rfl, rfl, rfl, trivial⟩
        · exact ⟨mem_at 1 rfl, mem_at 2 rfl, mem_at 3 rfl, mem_at 0 rfl, trivial⟩
        · rfl
    · have h := cond_f h h1
      refine TC.exit rfl ?_
      cases h
      exact endM [] 1 3 [0] rfl (.nil) rfl ⟨mem_at 2 rfl, trivial⟩ rfl rfl ⟨⟨_, mem_at 1 rfl⟩, trivial⟩ rfl
def ev_slices_Values_Lint_int_1 {σ1 : Type} (yb1 : Int → σ1 → Option (Bool × σ1)) (n : Nat) (y1 : σ1) (c2 : List Int) : Option σ1 :=
  ev_slices_Values_Lint_int_1_l0 yb1 n c2 n 0 y1
set_option maxRecDepth 100000 in
set_option maxHeartbeats 2000000 in
theorem ft_slices_Values_Lint_int_1 {σ1 : Type} {yb1 : Int → σ1 → Option (Bool × σ1)} {I1 : σ1 → Inv} (hI1 : Yields Try.prog ye_funcint_bool yn_funcint_bool yb1 I1) {n : Nat} {y1 : σ1} {c2 : List Int} {r : σ1} (h : ev_slices_Values_Lint_int_1 yb1 n y1 c2 = some r) : FT Try.prog 150 [.ref 0, .ptr 1 0] [.inv 0 (I1 y1)] [.rob 1 [.ref 2] 37, .ro 2 1 (List.map en_int c2)] (.tup []) [.inv 0 (I1 r)] := by
  refine introM (nz := 16) 3 [(4, 0)] Try.func150 rfl rfl rfl rfl (fun w0 M0 R0 env0 => ?_)
  rw [ev_slices_Values_Lint_int_1] at h
  refine TC.seq ?_
  refine TC.region ?_
  refine op1 3 rfl (sp_loadB rfl isRob rfl vt37 rfl) rfl trivial rfl rfl ?_
  refine op1 4 rfl (sp_lenM (N := c2.length) (len_map _ _) rfl rfl isRo Try.underlying37) rfl trivial rfl rfl ?_
  refine op0 (sp_move rfl rfl) rfl trivial rfl rfl ?_
  refine TL.nil ?_
  refine TC.block ?_
  refine TC.loop ?_
  refine TC.seq ?_
  refine subJ [] (ok_slices_Values_Lint_int_1_l0 hI1 _ _ _ h) ?_ ?_ ?_
  · exact ⟨rfl, rfl, rfl, rfl, trivial⟩
  · exact ⟨mem_at 4 rfl, mem_at 0 rfl, mem_at 1 rfl, mem_at 2 rfl, trivial⟩
  · rfl
/- slices_IndexFunc_Lapi_Span_api_Span -/
def ev_slices_IndexFunc_Lapi_Span_api_Span_l0 (n : Nat) (s1 : List (Int × Int)) (f2 : (Int × Int) → Option Bool) : Nat → Int → Option Int
  | 0, _ => none
  | m + 1, i3 => cond (decide (i3 < (s1.length : Int))) (idx s1 i3 fun x4 => (f2 (x4.1, x4.2)).bind fun r5 => cond r5 (some i3) (chk (in64 (i3 + 1)) <| ev_slices_IndexFunc_Lapi_Span_api_Span_l0 n s1 f2 m (i3 + 1))) (some (-1))
set_option maxRecDepth 100000 in
set_option maxHeartbeats 2000000 in
theorem ok_slices_IndexFunc_Lapi_Span_api_Span_l0 {n : Nat} {w0 : World} {R0 : Nat → Prop} {env0 : Env} {r : Int} {s1 : List (Int × Int)} {f2 : (Int × Int) → Option Bool} : ∀ (m : Nat) (i3 : Int), ev_slices_IndexFunc_Lapi_Span_api_Span_l0 n s1 f2 m i3 = some r → TC Try.prog ⟨w0, fun _ => False, R0⟩ 19 (bodyPost Try.prog Try.f280 (Post ⟨w0, fun _ => False, R0⟩ env0 (.val (.int .i64 r)) [])) [.code (sub (bodyOf Try.f280) [1, 0, 1, 0, 0, 0]), .code (sub (bodyOf Try.f280) [1, 0, 1, 0, 0, 1]), .inLoop (sub (bodyOf Try.f280) [1, 0, 1, 0, 0]), .inBlock 0, .code (sub (bodyOf Try.f280) [1, 1])] ([(0, .ref 0), (1, .ref 1), (7, .val (.int .i64 (s1.length : Int))), (8, .val (.int .i64 i3))]) ([.ro 0 2 (List.map en_api_Span s1), .any 1 (D.fn Try.prog fe_funcapi_Span_bool fd_funcapi_Span_bool f2)]) := by
  intro m
  induction m with
  | zero => intro i3 h; exact none_no h
  | succ m ih =>
    intro i3 h
    rw [ev_slices_IndexFunc_Lapi_Span_api_Span_l0] at h
    refine TC.region ?_
    refine op0 (sp_lss rfl rfl rfl) rfl trivial rfl rfl ?_
    refine TL.nil ?_
    refine TC.seq ?_
    refine TC.cond (b := (decide (i3 < (s1.length : Int)))) rfl (fun h1 => ?_) (fun h1 => ?_)
    · have h := cond_t h h1
      refine TC.skip ?_
      refine TC.seq ?_
      refine TC.block ?_
      refine TC.seq ?_
      refine TC.region ?_
      refine op0 (sp_move rfl rfl) rfl trivial rfl rfl ?_
      refine op0 (sp_assign rfl rfl) rfl trivial rfl rfl ?_
      refine TL.nil ?_
      refine TC.seq ?_
      refine TC.region ?_
      refine op0 (sp_move rfl rfl) rfl trivial rfl rfl ?_
      refine op0 (sp_move rfl rfl) rfl trivial rfl rfl ?_
      refine op0 (sp_move rfl rfl) rfl trivial rfl rfl ?_
      obtain ⟨x4, h2, h3, h⟩ := idx_inv h
      refine op1 0 rfl (sp_indexS rfl rfl rfl isRo sl23 h2 (map_get _ h3)) rfl trivial rfl rfl ?_
      refine op1 0 rfl (sp_loadRA (i := (i3 : Int).toNat) (j := 0) (as_ := [.val (.int .i64 x4.1), .val (.int .i64 x4.2)]) (ns := []) rfl rfl isRo vt26 rfl (map_get _ h3) rfl rfl (by decide) (.v (.v (.nil))) (nodup_of_B rfl)) rfl trivial rfl rfl ?_
      obtain ⟨r5, h4, h⟩ := bind_inv h
      refine op1 1 rfl (sp_callF (avs := [.agg [.val (.int .i64 x4.1), .val (.int .i64 x4.2)]]) (v := .val (.bool r5)) (x4.1, x4.2) rfl rfl rfl rfl rfl h4) rfl trivial rfl rfl ?_
      refine TL.nil ?_
      refine TC.cond (b := r5) rfl (fun h5 => ?_) (fun h5 => ?_)
      · have h := cond_t h h5
        refine TC.seq ?_
        refine TC.region ?_
        refine op0 (sp_move rfl rfl) rfl trivial rfl rfl ?_
        refine op0 (sp_assign rfl rfl) rfl trivial rfl rfl ?_
        refine TL.nil ?_
        cases h
        exact retJ [] (.tmp rfl .nil) rfl trivial rfl rfl
      · have h := cond_f h h5
        refine TC.skip ?_
        refine TC.inBlock ?_
        refine TC.region ?_
        obtain ⟨h6, h⟩ := chk_inv h
        refine op0 (sp_add rfl rfl rfl h6) rfl trivial rfl rfl ?_
        refine op0 (sp_move rfl rfl) rfl trivial rfl rfl ?_
        refine TL.nil ?_
        refine TC.inLoop ?_
        refine TC.seq ?_
        refine subJ [] (ih _ h) ?_ ?_ ?_
        · exact ⟨rfl, rfl, rfl, rfl, trivial⟩
        · exact ⟨mem_at 0 rfl, mem_at 1 rfl, trivial⟩
        · rfl
    · have h := cond_f h h1
      refine TC.exit rfl ?_
      refine TC.seq ?_
      refine TC.region ?_
      refine op0 (sp_assign rfl rfl) rfl trivial rfl rfl ?_
      refine TL.nil ?_
      cases h
      exact retJ [] (.tmp rfl .nil) rfl trivial rfl rfl
def ev_slices_IndexFunc_Lapi_Span_api_Span (n : Nat) (s1 : List (Int × Int)) (f2 : (Int × Int) → Option Bool) : Option Int :=
  ev_slices_IndexFunc_Lapi_Span_api_Span_l0 n s1 f2 n 0
set_option maxRecDepth 100000 in
set_option maxHeartbeats 2000000 in
theorem fc_slices_IndexFunc_Lapi_Span_api_Span {n : Nat} {s1 : List (Int × Int)} {f2 : (Int × Int) → Option Bool} {r : Int} (h : ev_slices_IndexFunc_Lapi_Span_api_Span n s1 f2 = some r) : FC Try.prog 280 [.ref 0, .ref 1] [.ro 0 2 (List.map en_api_Span s1), .any 1 (D.fn Try.prog fe_funcapi_Span_bool fd_funcapi_Span_bool f2)] (.val (.int .i64 r)) [] := by
  refine introJ (nz := 19) Try.func280 rfl rfl rfl (fun w0 R0 env0 => ?_)
  rw [ev_slices_IndexFunc_Lapi_Span_api_Span] at h
  refine TC.seq ?_
  refine TC.region ?_
  refine op0 (sp_assign rfl rfl) rfl trivial rfl rfl ?_
  refine TL.nil ?_
  refine TC.seq ?_
  refine TC.seq ?_
  refine TC.region ?_
  refine op0 (sp_move rfl rfl) rfl trivial rfl rfl ?_
  refine op1 0 rfl (sp_lenM (N := s1.length) (len_map _ _) rfl rfl isRo Try.underlying23) rfl trivial rfl rfl ?_
  refine op0 (sp_move rfl rfl) rfl trivial rfl rfl ?_
  refine TL.nil ?_
  refine TC.block ?_
  refine TC.loop ?_
  refine TC.seq ?_
  refine subJ [] (ok_slices_IndexFunc_Lapi_Span_api_Span_l0 _ _ h) ?_ ?_ ?_
  · exact ⟨rfl, rfl, rfl, rfl, trivial⟩
  · exact ⟨mem_at 0 rfl, mem_at 1 rfl, trivial⟩
  · rfl
/- slices_ContainsFunc_Lapi_Span_api_Span -/
def ev_slices_ContainsFunc_Lapi_Span_api_Span (n : Nat) (s1 : List (Int × Int)) (f2 : (Int × Int) → Option Bool) : Option Bool :=
  (ev_slices_IndexFunc_Lapi_Span_api_Span n s1 f2).bind fun r3 => some (decide ((0 : Int) ≤ r3))
set_option maxRecDepth 100000 in
set_option maxHeartbeats 2000000 in
theorem fc_slices_ContainsFunc_Lapi_Span_api_Span {n : Nat} {s1 : List (Int × Int)} {f2 : (Int × Int) → Option Bool} {r : Bool} (h : ev_slices_ContainsFunc_Lapi_Span_api_Span n s1 f2 = some r) : FC Try.prog 226 [.ref 0, .ref 1] [.ro 0 2 (List.map en_api_Span s1), .any 1 (D.fn Try.prog fe_funcapi_Span_bool fd_funcapi_Span_bool f2)] (.val (.bool r)) [] := by
  refine introJ (nz := 9) Try.func226 rfl rfl rfl (fun w0 R0 env0 => ?_)
  rw [ev_slices_ContainsFunc_Lapi_Span_api_Span] at h
  refine TC.seq ?_
  refine TC.region ?_
  refine op0 (sp_assign rfl rfl) rfl trivial rfl rfl ?_
  refine TL.nil ?_
  refine TC.seq ?_
  refine TC.region ?_
  refine op0 (sp_move rfl rfl) rfl trivial rfl rfl ?_
  refine op0 (sp_move rfl rfl) rfl trivial rfl rfl ?_
  obtain ⟨r3, h1, h⟩ := bind_inv h
  refine opN (need := [.ro 0 2 (List.map en_api_Span s1), .any 1 (D.fn Try.prog fe_funcapi_Span_bool fd_funcapi_Span_bool f2)]) [0, 1] ⟨rfl, rfl, trivial⟩ (sp_call (avs := [.ref 0, .ref 1]) (need := [.ro 0 2 (List.map en_api_Span s1), .any 1 (D.fn Try.prog fe_funcapi_Span_bool fd_funcapi_Span_bool f2)]) (v := .val (.int .i64 r3)) (news := []) rfl rfl rfl Try.call280 (atJ [] [] (fc_slices_IndexFunc_Lapi_Span_api_Span h1) rfl rfl) (.inl (roAll rfl))) rfl trivial rfl rfl ?_
  refine op0 (sp_geq rfl rfl rfl) rfl trivial rfl rfl ?_
  refine op0 (sp_assign rfl rfl) rfl trivial rfl rfl ?_
  refine TL.nil ?_
  cases h
  exact retJ [] (.tmp rfl .nil) rfl trivial rfl rfl
/- top_pubSpan -/
def ev_top_pubSpan (n : Nat) (low1 : Int) (high2 : Int) : Option (Int × Int) :=
  some (low1, high2)
set_option maxRecDepth 100000 in
set_option maxHeartbeats 2000000 in
theorem fc_top_pubSpan {n : Nat} {low1 : Int} {high2 : Int} {r : Int × Int} (h : ev_top_pubSpan n low1 high2 = some r) : FC Try.prog 14 [.val (.int .i64 low1), .val (.int .i64 high2)] [] (.agg [.val (.int .i64 r.1), .val (.int .i64 r.2)]) [] := by
  refine introJ (nz := 8) Try.func14 rfl rfl rfl (fun w0 R0 env0 => ?_)
  rw [ev_top_pubSpan] at h
  refine TC.seq ?_
  refine TC.region ?_
  refine op0 (sp_alloc 0 rfl Try.zeroValue26 rfl) rfl trivial rfl rfl ?_
  refine TL.nil ?_
  refine TC.seq ?_
  refine TC.region ?_
  refine op0 (sp_move rfl rfl) rfl trivial rfl rfl ?_
  refine op0 (sp_move rfl rfl) rfl trivial rfl rfl ?_
  refine op0 (sp_build (qs := [(0, .val (.int .i64 low1)), (1, .val (.int .i64 high2))]) rfl bt26 rfl rfl rfl rfl) rfl trivial rfl rfl ?_
  refine stoB 0 (cells' := [.val (.int .i64 low1), .val (.int .i64 high2)]) rfl rfl trivial rfl rfl rfl rfl vt26 rfl rfl rfl ?_
  refine TL.nil ?_
  cases h
  exact retJ [] (.cells rfl (mem_at 0 rfl) isBlk vt26 rfl rfl (.nil)) rfl trivial rfl rfl
/- cmp_isNaN_int -/
def ev_cmp_isNaN_int (n : Nat) (x1 : Int) : Option Bool :=
  some (x1 != x1)
set_option maxRecDepth 100000 in
set_option maxHeartbeats 2000000 in
theorem fc_cmp_isNaN_int {n : Nat} {x1 : Int} {r : Bool} (h : ev_cmp_isNaN_int n x1 = some r) : FC Try.prog 311 [.val (.int .i64 x1)] [] (.val (.bool r)) [] := by
  refine introJ (nz := 6) Try.func311 rfl rfl rfl (fun w0 R0 env0 => ?_)
  rw [ev_cmp_isNaN_int] at h
  refine TC.seq ?_
  refine TC.region ?_
  refine op0 (sp_assign rfl rfl) rfl trivial rfl rfl ?_
  refine TL.nil ?_
  refine TC.seq ?_
  refine TC.region ?_
  refine op0 (sp_move rfl rfl) rfl trivial rfl rfl ?_
  refine op0 (sp_move rfl rfl) rfl trivial rfl rfl ?_
  refine op0 (sp_neq rfl rfl rfl) rfl trivial rfl rfl ?_
  refine op0 (sp_assign rfl rfl) rfl trivial rfl rfl ?_
  refine TL.nil ?_
  cases h
  exact retJ [] (.tmp rfl .nil) rfl trivial rfl rfl
/- cmp_Compare_int -/
def ev_cmp_Compare_int (n : Nat) (x1 : Int) (y2 : Int) : Option Int :=
  (ev_cmp_isNaN_int n x1).bind fun r3 => (ev_cmp_isNaN_int n y2).bind fun r4 => cond r3 (cond r4 (some 0) (some (-1))) (cond r4 (some 1) (cond (decide (x1 < y2)) (some (-1)) (cond (decide (y2 < x1)) (some 1) (some 0))))
set_option maxRecDepth 100000 in
set_option maxHeartbeats 2000000 in
theorem fc_cmp_Compare_int {n : Nat} {x1 : Int} {y2 : Int} {r : Int} (h : ev_cmp_Compare_int n x1 y2 = some r) : FC Try.prog 279 [.val (.int .i64 x1), .val (.int .i64 y2)] [] (.val (.int .i64 r)) [] := by
  refine introJ (nz := 20) Try.func279 rfl rfl rfl (fun w0 R0 env0 => ?_)
  rw [ev_cmp_Compare_int] at h
  refine TC.seq ?_
  refine TC.region ?_
  refine op0 (sp_assign rfl rfl) rfl trivial rfl rfl ?_
  refine TL.nil ?_
  refine TC.seq ?_
  refine TC.region ?_
  refine op0 (sp_move rfl rfl) rfl trivial rfl rfl ?_
  obtain ⟨r3, h1, h⟩ := bind_inv h
  refine op0 (sp_call (avs := [.val (.int .i64 x1)]) (need := []) (v := .val (.bool r3)) (news := []) rfl rfl rfl Try.call311 (atJ [] [] (fc_cmp_isNaN_int h1) rfl rfl) (.inl (roAll rfl))) rfl trivial rfl rfl ?_
  refine op0 (sp_assign rfl rfl) rfl trivial rfl rfl ?_
  refine TL.nil ?_
  refine TC.seq ?_
  refine TC.region ?_
  refine op0 (sp_move rfl rfl) rfl trivial rfl rfl ?_
  obtain ⟨r4, h2, h⟩ := bind_inv h
  refine op0 (sp_call (avs := [.val (.int .i64 y2)]) (need := []) (v := .val (.bool r4)) (news := []) rfl rfl rfl Try.call311 (atJ [] [] (fc_cmp_isNaN_int h2) rfl rfl) (.inl (roAll rfl))) rfl trivial rfl rfl ?_
  refine op0 (sp_assign rfl rfl) rfl trivial rfl rfl ?_
  refine TL.nil ?_
  refine TC.seq ?_
  refine TC.seq ?_
  refine TC.region ?_
  refine op0 (sp_move rfl rfl) rfl trivial rfl rfl ?_
  refine TL.nil ?_
  refine TC.cond (b := r3) rfl (fun h3 => ?_) (fun h3 => ?_)
  · have h := cond_t h h3
    refine TC.seq ?_
    refine TC.seq ?_
    refine TC.region ?_
    refine op0 (sp_move rfl rfl) rfl trivial rfl rfl ?_
    refine TL.nil ?_
    refine TC.cond (b := r4) rfl (fun h4 => ?_) (fun h4 => ?_)
    · have h := cond_t h h4
      refine TC.seq ?_
      refine TC.region ?_
      refine op0 (sp_assign rfl rfl) rfl trivial rfl rfl ?_
      refine TL.nil ?_
      cases h
      exact retJ [] (.tmp rfl .nil) rfl trivial rfl rfl
    · have h := cond_f h h4
      refine TC.skip ?_
      refine TC.seq ?_
      refine TC.region ?_
      refine op0 (sp_assign rfl rfl) rfl trivial rfl rfl ?_
      refine TL.nil ?_
      cases h
      exact retJ [] (.tmp rfl .nil) rfl trivial rfl rfl
  · have h := cond_f h h3
    refine TC.skip ?_
    refine TC.seq ?_
    refine TC.seq ?_
    refine TC.region ?_
    refine op0 (sp_move rfl rfl) rfl trivial rfl rfl ?_
    refine TL.nil ?_
    refine TC.cond (b := r4) rfl (fun h5 => ?_) (fun h5 => ?_)
    · have h := cond_t h h5
      refine TC.seq ?_
      refine TC.region ?_
      refine op0 (sp_assign rfl rfl) rfl trivial rfl rfl ?_
      refine TL.nil ?_
      cases h
      exact retJ [] (.tmp rfl .nil) rfl trivial rfl rfl
    · have h := cond_f h h5
      refine TC.skip ?_
      refine TC.seq ?_
      refine TC.seq ?_
      refine TC.region ?_
      refine op0 (sp_move rfl rfl) rfl trivial rfl rfl ?_
      refine op0 (sp_move rfl rfl) rfl trivial rfl rfl ?_
      refine op0 (sp_lss rfl rfl rfl) rfl trivial rfl rfl ?_
      refine TL.nil ?_
      refine TC.cond (b := (decide (x1 < y2))) rfl (fun h6 => ?_) (fun h6 => ?_)
      · have h := cond_t h h6
        refine TC.seq ?_
        refine TC.region ?_
        refine op0 (sp_assign rfl rfl) rfl trivial rfl rfl ?_
        refine TL.nil ?_
        cases h
        exact retJ [] (.tmp rfl .nil) rfl trivial rfl rfl
      · have h := cond_f h h6
        refine TC.skip ?_
        refine TC.seq ?_
        refine TC.seq ?_
        refine TC.region ?_
        refine op0 (sp_move rfl rfl) rfl trivial rfl rfl ?_
        refine op0 (sp_move rfl rfl) rfl trivial rfl rfl ?_
        refine op0 (sp_gtr rfl rfl rfl) rfl trivial rfl rfl ?_
        refine TL.nil ?_
        refine TC.cond (b := (decide (y2 < x1))) rfl (fun h7 => ?_) (fun h7 => ?_)
        · have h := cond_t h h7
          refine TC.seq ?_
          refine TC.region ?_
          refine op0 (sp_assign rfl rfl) rfl trivial rfl rfl ?_
          refine TL.nil ?_
          cases h
          exact retJ [] (.tmp rfl .nil) rfl trivial rfl rfl
        · have h := cond_f h h7
          refine TC.skip ?_
          refine TC.seq ?_
          refine TC.region ?_
          refine op0 (sp_assign rfl rfl) rfl trivial rfl rfl ?_
          refine TL.nil ?_
          cases h
          exact retJ [] (.tmp rfl .nil) rfl trivial rfl rfl
/- cmp_Or_int -/
def ev_cmp_Or_int_l0 (n : Nat) (vals1 : List Int) : Nat → Int → Option Int
  | 0, _ => none
  | m + 1, i2 => cond (decide (i2 < (vals1.length : Int))) (idx vals1 i2 fun x3 => cond (x3 != 0) (some x3) (chk (in64 (i2 + 1)) <| ev_cmp_Or_int_l0 n vals1 m (i2 + 1))) (some 0)
set_option maxRecDepth 100000 in
set_option maxHeartbeats 2000000 in
theorem ok_cmp_Or_int_l0 {n : Nat} {w0 : World} {R0 : Nat → Prop} {env0 : Env} {r : Int} {vals1 : List Int} : ∀ (m : Nat) (i2 : Int), ev_cmp_Or_int_l0 n vals1 m i2 = some r → TC Try.prog ⟨w0, fun _ => False, R0⟩ 18 (bodyPost Try.prog Try.f278 (Post ⟨w0, fun _ => False, R0⟩ env0 (.val (.int .i64 r)) [])) [.code (sub (bodyOf Try.f278) [1, 1, 0, 1, 0, 0, 0]), .code (sub (bodyOf Try.f278) [1, 1, 0, 1, 0, 0, 1]), .inLoop (sub (bodyOf Try.f278) [1, 1, 0, 1, 0, 0]), .inBlock 0, .code (sub (bodyOf Try.f278) [1, 1, 1])] ([(3, .val (.int .i64 0)), (6, .ref 0), (7, .val (.int .i64 (vals1.length : Int))), (8, .val (.int .i64 i2))]) ([.ro 0 1 (List.map en_int vals1)]) := by
  intro m
  induction m with
  | zero => intro i2 h; exact none_no h
  | succ m ih =>
    intro i2 h
    rw [ev_cmp_Or_int_l0] at h
    refine TC.region ?_
    refine op0 (sp_lss rfl rfl rfl) rfl trivial rfl rfl ?_
    refine TL.nil ?_
    refine TC.seq ?_
    refine TC.cond (b := (decide (i2 < (vals1.length : Int)))) rfl (fun h1 => ?_) (fun h1 => ?_)
    · have h := cond_t h h1
      refine TC.skip ?_
      refine TC.seq ?_
      refine TC.block ?_
      refine TC.seq ?_
      refine TC.region ?_
      obtain ⟨x3, h2, h3, h⟩ := idx_inv h
      refine op1 0 rfl (sp_indexS rfl rfl rfl isRo sl37 h2 (map_get _ h3)) rfl trivial rfl rfl ?_
      refine op1 0 rfl (sp_loadR (i := (i2 : Int).toNat) (j := 0) rfl rfl isRo vt3 rfl (map_get _ h3) rfl (.v (.nil)) (nodup_of_B rfl)) rfl trivial rfl rfl ?_
      refine op0 (sp_assign rfl rfl) rfl trivial rfl rfl ?_
      refine TL.nil ?_
      refine TC.seq ?_
      refine TC.region ?_
      refine op0 (sp_move rfl rfl) rfl trivial rfl rfl ?_
      refine op0 (sp_move rfl rfl) rfl trivial rfl rfl ?_
      refine op0 (sp_neq rfl rfl rfl) rfl trivial rfl rfl ?_
      refine TL.nil ?_
      refine TC.cond (b := (x3 != 0)) rfl (fun h4 => ?_) (fun h4 => ?_)
      · have h := cond_t h h4
        refine TC.seq ?_
        refine TC.region ?_
        refine op0 (sp_move rfl rfl) rfl trivial rfl rfl ?_
        refine op0 (sp_assign rfl rfl) rfl trivial rfl rfl ?_
        refine TL.nil ?_
        cases h
        exact retJ [] (.tmp rfl .nil) rfl trivial rfl rfl
      · have h := cond_f h h4
        refine TC.skip ?_
        refine TC.inBlock ?_
        refine TC.region ?_
        obtain ⟨h5, h⟩ := chk_inv h
        refine op0 (sp_add rfl rfl rfl h5) rfl trivial rfl rfl ?_
        refine op0 (sp_move rfl rfl) rfl trivial rfl rfl ?_
        refine TL.nil ?_
        refine TC.inLoop ?_
        refine TC.seq ?_
        refine subJ [] (ih _ h) ?_ ?_ ?_
        · exact ⟨rfl, rfl, rfl, rfl, trivial⟩
        · exact ⟨mem_at 0 rfl, trivial⟩
        · rfl
    · have h := cond_f h h1
      refine TC.exit rfl ?_
      refine TC.seq ?_
      refine TC.region ?_
      refine op0 (sp_move rfl rfl) rfl trivial rfl rfl ?_
      refine op0 (sp_assign rfl rfl) rfl trivial rfl rfl ?_
      refine TL.nil ?_
      cases h
      exact retJ [] (.tmp rfl .nil) rfl trivial rfl rfl
def ev_cmp_Or_int (n : Nat) (vals1 : List Int) : Option Int :=
  ev_cmp_Or_int_l0 n vals1 n 0
set_option maxRecDepth 100000 in
set_option maxHeartbeats 2000000 in
theorem fc_cmp_Or_int {n : Nat} {vals1 : List Int} {r : Int} (h : ev_cmp_Or_int n vals1 = some r) : FC Try.prog 278 [.ref 0] [.ro 0 1 (List.map en_int vals1)] (.val (.int .i64 r)) [] := by
  refine introJ (nz := 18) Try.func278 rfl rfl rfl (fun w0 R0 env0 => ?_)
  rw [ev_cmp_Or_int] at h
  refine TC.seq ?_
  refine TC.region ?_
  refine op0 (sp_assign rfl rfl) rfl trivial rfl rfl ?_
  refine TL.nil ?_
  refine TC.seq ?_
  refine TC.region ?_
  refine op0 (sp_assign rfl rfl) rfl trivial rfl rfl ?_
  refine TL.nil ?_
  refine TC.seq ?_
  refine TC.seq ?_
  refine TC.region ?_
  refine op0 (sp_move rfl rfl) rfl trivial rfl rfl ?_
  refine op1 0 rfl (sp_lenM (N := vals1.length) (len_map _ _) rfl rfl isRo Try.underlying37) rfl trivial rfl rfl ?_
  refine op0 (sp_move rfl rfl) rfl trivial rfl rfl ?_
  refine TL.nil ?_
  refine TC.block ?_
  refine TC.loop ?_
  refine TC.seq ?_
  refine subJ [] (ok_cmp_Or_int_l0 _ _ h) ?_ ?_ ?_
  · exact ⟨rfl, rfl, rfl, rfl, trivial⟩
  · exact ⟨mem_at 0 rfl, trivial⟩
  · rfl
end
end Go.Proofs.Ytmgcinejodpopaa.Sy
