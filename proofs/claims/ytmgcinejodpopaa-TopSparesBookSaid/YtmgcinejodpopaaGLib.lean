/- What functions of the program compute, and that they do: printed by symgen.py. -/
import Derived.Test.YtmgcinejodpopaaSymU
import Derived.Test.YtmgcinejodpopaaProg
set_option linter.unusedSimpArgs false
set_option linter.unusedVariables false
namespace Go.Proofs.Ytmgcinejodpopaa.Sy
open Go.RowKit
noncomputable section

theorem bt26 : ∀ parts, Try.prog.built 26 parts = Instr.fill (fun i => (#[(0, 1), (1, 1)] : Array (Nat × Nat))[i]?) (AV.denL (fun _ => undef) [.val (.int .i64 0), .val (.int .i64 0)]).toArray parts := fun _ => by kernel_rfl
theorem vt26 : VarT Try.prog 26 2 true := ⟨Try.isAgg26, Try.sizeOf26⟩
def en_api_Span : Int × Int → List D := fun x => [D.v (.int .i64 x.1), D.v (.int .i64 x.2)]
theorem en_api_Span_flat : ∀ a, ∀ d ∈ en_api_Span a, ∃ x, d = D.v x := by
  intro a d h
  simp only [en_api_Span, List.mem_cons, List.not_mem_nil, or_false] at h
  rcases h with rfl | rfl <;> exact ⟨_, rfl⟩
theorem sl23 : SlT Try.prog 23 26 2 16 := ⟨Try.underlying23, ⟨Try.t26, _, by kernel_rfl, rfl, rfl, rfl, rfl⟩, by decide⟩
theorem bt29 : ∀ parts, Try.prog.built 29 parts = Instr.fill (fun i => (#[(0, 1), (1, 1)] : Array (Nat × Nat))[i]?) (AV.denL (fun _ => undef) [.val (.int .i64 0), .val (.slice none 0 0)]).toArray parts := fun _ => by kernel_rfl
theorem vt29 : VarT Try.prog 29 2 true := ⟨Try.isAgg29, Try.sizeOf29⟩
theorem ft29_0 : FieldT Try.prog 29 0 0 3 := ⟨_, _, Try.underlying29, rfl, rfl, rfl⟩
theorem vt3 : VarT Try.prog 3 1 false := ⟨Try.isAgg3, Try.sizeOf3⟩
def en_int : Int → List D := fun x => [D.v (.int .i64 x)]
theorem en_int_flat : ∀ a, ∀ d ∈ en_int a, ∃ x, d = D.v x := by
  intro a d h
  simp only [en_int, List.mem_cons, List.not_mem_nil, or_false] at h
  rcases h with rfl <;> exact ⟨_, rfl⟩
theorem sl37 : SlT Try.prog 37 3 1 8 := ⟨Try.underlying37, ⟨Try.t3, _, by kernel_rfl, rfl, rfl, rfl, rfl⟩, by decide⟩
def fe_funcint_bool : Int → List AV := fun a => [.val (.int .i64 a)]
def fd_funcint_bool : Bool → AV := fun b => .val (.bool b)
theorem ft29_1 : FieldT Try.prog 29 1 1 23 := ⟨_, _, Try.underlying29, rfl, rfl, rfl⟩
theorem vt23 : VarT Try.prog 23 1 false := ⟨Try.isAgg23, Try.sizeOf23⟩
def fe_funcapi_Span_bool : Int × Int → List AV := fun a => [.agg [.val (.int .i64 a.1), .val (.int .i64 a.2)]]
def fd_funcapi_Span_bool : Bool → AV := fun b => .val (.bool b)
theorem ft26_0 : FieldT Try.prog 26 0 0 3 := ⟨_, _, Try.underlying26, rfl, rfl, rfl⟩
theorem ft26_1 : FieldT Try.prog 26 1 1 3 := ⟨_, _, Try.underlying26, rfl, rfl, rfl⟩
theorem bt163 : ∀ parts, Try.prog.built 163 parts = Instr.fill (fun i => (#[(0, 2), (2, 1)] : Array (Nat × Nat))[i]?) (AV.denL (fun _ => undef) [.val (.int .i64 0), .val (.slice none 0 0), .val (.slice none 0 0)]).toArray parts := fun _ => by kernel_rfl
theorem vt163 : VarT Try.prog 163 3 true := ⟨Try.isAgg163, Try.sizeOf163⟩
def fe_funcapi_Span_int : Int × Int → List AV := fun a => [.agg [.val (.int .i64 a.1), .val (.int .i64 a.2)]]
def fd_funcapi_Span_int : Int → AV := fun b => .val (.int .i64 b)
def en_api_DropVisit : Int × Int × Int × Int → List D := fun x => [D.v (.int .i64 x.1), D.v (.int .i64 x.2.1), D.v (.int .i64 x.2.2.1), D.v (.int .i64 x.2.2.2)]
theorem en_api_DropVisit_flat : ∀ a, ∀ d ∈ en_api_DropVisit a, ∃ x, d = D.v x := by
  intro a d h
  simp only [en_api_DropVisit, List.mem_cons, List.not_mem_nil, or_false] at h
  rcases h with rfl | rfl | rfl | rfl <;> exact ⟨_, rfl⟩
theorem ft163_0 : FieldT Try.prog 163 0 0 29 := ⟨_, _, Try.underlying163, rfl, rfl, rfl⟩
theorem bt35 : ∀ parts, Try.prog.built 35 parts = Instr.fill (fun i => (#[(0, 1), (1, 1), (2, 1)] : Array (Nat × Nat))[i]?) (AV.denL (fun _ => undef) [.val (.int .i64 0), .val (.int .i64 0), .val (.int .i64 0)]).toArray parts := fun _ => by kernel_rfl
def en_api_BookEntry : Int × Int × Int → List D := fun x => [D.v (.int .i64 x.1), D.v (.int .i64 x.2.1), D.v (.int .i64 x.2.2)]
theorem en_api_BookEntry_flat : ∀ a, ∀ d ∈ en_api_BookEntry a, ∃ x, d = D.v x := by
  intro a d h
  simp only [en_api_BookEntry, List.mem_cons, List.not_mem_nil, or_false] at h
  rcases h with rfl | rfl | rfl <;> exact ⟨_, rfl⟩
theorem sl36 : SlT Try.prog 36 35 3 24 := ⟨Try.underlying36, ⟨Try.t35, _, by kernel_rfl, rfl, rfl, rfl, rfl⟩, by decide⟩
theorem sl166 : SlT Try.prog 166 35 3 24 := ⟨Try.underlying166, ⟨Try.t35, _, by kernel_rfl, rfl, rfl, rfl, rfl⟩, by decide⟩
theorem vt35 : VarT Try.prog 35 3 true := ⟨Try.isAgg35, Try.sizeOf35⟩
theorem ft35_1 : FieldT Try.prog 35 1 1 33 := ⟨_, _, Try.underlying35, rfl, rfl, rfl⟩
theorem vt33 : VarT Try.prog 33 1 false := ⟨Try.isAgg33, Try.sizeOf33⟩
theorem ft35_0 : FieldT Try.prog 35 0 0 3 := ⟨_, _, Try.underlying35, rfl, rfl, rfl⟩
theorem ft35_2 : FieldT Try.prog 35 2 2 3 := ⟨_, _, Try.underlying35, rfl, rfl, rfl⟩
theorem vt37 : VarT Try.prog 37 1 false := ⟨Try.isAgg37, Try.sizeOf37⟩
def ye_funcbook_clock_bool : Int × Int × Int × Bool → List AV := fun a => [.agg [.val (.int .i64 a.1), .val (.int .i64 a.2.1), .val (.int .i64 a.2.2.1), .val (.bool a.2.2.2)]]
def yn_funcbook_clock_bool : Int × Int × Int × Bool → List NEnt := fun a => []
theorem bt173 : ∀ parts, Try.prog.built 173 parts = Instr.fill (fun i => (#[(0, 1), (1, 1), (2, 1), (3, 1)] : Array (Nat × Nat))[i]?) (AV.denL (fun _ => undef) [.val (.int .i64 0), .val (.int .i64 0), .val (.int .i64 0), .val (.bool false)]).toArray parts := fun _ => by kernel_rfl
theorem vt166 : VarT Try.prog 166 1 false := ⟨Try.isAgg166, Try.sizeOf166⟩
theorem vt173 : VarT Try.prog 173 4 true := ⟨Try.isAgg173, Try.sizeOf173⟩
theorem vt169 : VarT Try.prog 169 1 false := ⟨Try.isAgg169, Try.sizeOf169⟩
def ye_funcint_bool : Int → List AV := fun a => [.val (.int .i64 a)]
def yn_funcint_bool : Int → List NEnt := fun a => []
theorem ft173_3 : FieldT Try.prog 173 3 3 4 := ⟨_, _, Try.underlying173, rfl, rfl, rfl⟩
theorem vt4 : VarT Try.prog 4 1 false := ⟨Try.isAgg4, Try.sizeOf4⟩
theorem ft173_0 : FieldT Try.prog 173 0 0 3 := ⟨_, _, Try.underlying173, rfl, rfl, rfl⟩
theorem ft173_2 : FieldT Try.prog 173 2 2 3 := ⟨_, _, Try.underlying173, rfl, rfl, rfl⟩
theorem ft173_1 : FieldT Try.prog 173 1 1 3 := ⟨_, _, Try.underlying173, rfl, rfl, rfl⟩
theorem vt289 : VarT Try.prog 289 1 false := ⟨Try.isAgg289, Try.sizeOf289⟩
theorem eq26 (a0 : Int) (a1 : Int) (b0 : Int) (b1 : Int) : EqT Try.prog 26 [.int .i64 a0, .int .i64 a1] [.int .i64 b0, .int .i64 b1] (((a0 == b0) && (a1 == b1))) := ⟨Try.eqGuardType26, fun w => by
  simp [go_sem, Try.underlying26, Try.underlying3, Try.isAgg26, Try.isAgg3, Try.sizeOf26, Try.sizeOf3, Try.stoodInHeld26]
  (repeat' split) <;> simp_all⟩
def en_uint8 : Int → List D := fun x => [D.v (.int .u8 x)]
theorem en_uint8_flat : ∀ a, ∀ d ∈ en_uint8 a, ∃ x, d = D.v x := by
  intro a d h
  simp only [en_uint8, List.mem_cons, List.not_mem_nil, or_false] at h
  rcases h with rfl <;> exact ⟨_, rfl⟩
theorem sl56 : SlT Try.prog 56 5 1 1 := ⟨Try.underlying56, ⟨Try.t5, _, by kernel_rfl, rfl, rfl, rfl, rfl⟩, by decide⟩
theorem vt5 : VarT Try.prog 5 1 false := ⟨Try.isAgg5, Try.sizeOf5⟩
def en_api_PartContract : Int × Int × Int → List D := fun x => [D.v (.int .i64 x.1), D.v (.int .i64 x.2.1), D.v (.int .i64 x.2.2)]
theorem en_api_PartContract_flat : ∀ a, ∀ d ∈ en_api_PartContract a, ∃ x, d = D.v x := by
  intro a d h
  simp only [en_api_PartContract, List.mem_cons, List.not_mem_nil, or_false] at h
  rcases h with rfl | rfl | rfl <;> exact ⟨_, rfl⟩
theorem sl46 : SlT Try.prog 46 48 3 24 := ⟨Try.underlying46, ⟨Try.t48, _, by kernel_rfl, rfl, rfl, rfl, rfl⟩, by decide⟩
def ax_3_uint8 : Int × Int × Int → List AV := fun x => [.val (.int .u8 x.1), .val (.int .u8 x.2.1), .val (.int .u8 x.2.2)]
theorem vt42 : VarT Try.prog 42 3 true := ⟨Try.isAgg42, Try.sizeOf42⟩
theorem bt48 : ∀ parts, Try.prog.built 48 parts = Instr.fill (fun i => (#[(0, 1), (1, 1), (2, 1)] : Array (Nat × Nat))[i]?) (AV.denL (fun _ => undef) [.val (.int .i64 0), .val (.int .i64 0), .val (.int .i64 0)]).toArray parts := fun _ => by kernel_rfl
theorem vt48 : VarT Try.prog 48 3 true := ⟨Try.isAgg48, Try.sizeOf48⟩
theorem ft48_1 : FieldT Try.prog 48 1 1 3 := ⟨_, _, Try.underlying48, rfl, rfl, rfl⟩
theorem ft48_2 : FieldT Try.prog 48 2 2 3 := ⟨_, _, Try.underlying48, rfl, rfl, rfl⟩
theorem ft48_0 : FieldT Try.prog 48 0 0 3 := ⟨_, _, Try.underlying48, rfl, rfl, rfl⟩
def ax_uint8 : Int → List AV := fun x => [.val (.int .u8 x)]
theorem vt46 : VarT Try.prog 46 1 false := ⟨Try.isAgg46, Try.sizeOf46⟩
def fe_funcapi_PartContract_bool : Int × Int × Int → List AV := fun a => [.agg [.val (.int .i64 a.1), .val (.int .i64 a.2.1), .val (.int .i64 a.2.2)]]
def fd_funcapi_PartContract_bool : Bool → AV := fun b => .val (.bool b)
theorem bt179 : ∀ parts, Try.prog.built 179 parts = Instr.fill (fun i => (#[(0, 3)] : Array (Nat × Nat))[i]?) (AV.denL (fun _ => undef) [.val (.int .i64 0), .val (.int .i64 0), .val (.int .i64 0)]).toArray parts := fun _ => by kernel_rfl
theorem ft179_0 : FieldT Try.prog 179 0 0 48 := ⟨_, _, Try.underlying179, rfl, rfl, rfl⟩
def en_api_BookCard : Int × Int × Int × Int → List D := fun x => [D.v (.int .i64 x.1), D.v (.int .i64 x.2.1), D.v (.int .i64 x.2.2.1), D.v (.int .i64 x.2.2.2)]
theorem en_api_BookCard_flat : ∀ a, ∀ d ∈ en_api_BookCard a, ∃ x, d = D.v x := by
  intro a d h
  simp only [en_api_BookCard, List.mem_cons, List.not_mem_nil, or_false] at h
  rcases h with rfl | rfl | rfl | rfl <;> exact ⟨_, rfl⟩
theorem sl50 : SlT Try.prog 50 52 4 32 := ⟨Try.underlying50, ⟨Try.t52, _, by kernel_rfl, rfl, rfl, rfl, rfl⟩, by decide⟩
theorem bt52 : ∀ parts, Try.prog.built 52 parts = Instr.fill (fun i => (#[(0, 1), (1, 1), (2, 1), (3, 1)] : Array (Nat × Nat))[i]?) (AV.denL (fun _ => undef) [.val (.int .i64 0), .val (.int .i64 0), .val (.int .i64 0), .val (.int .i64 0)]).toArray parts := fun _ => by kernel_rfl
def mk186 : Int → Value := fun k => .int .i64 k
theorem km186 : MKey Try.prog 186 3 52 mk186 := mkey_int Try.underlying186 Try.underlying3
theorem vt52 : VarT Try.prog 52 4 true := ⟨Try.isAgg52, Try.sizeOf52⟩
theorem ft52_0 : FieldT Try.prog 52 0 0 3 := ⟨_, _, Try.underlying52, rfl, rfl, rfl⟩
theorem ft52_1 : FieldT Try.prog 52 1 1 3 := ⟨_, _, Try.underlying52, rfl, rfl, rfl⟩
theorem ft52_2 : FieldT Try.prog 52 2 2 3 := ⟨_, _, Try.underlying52, rfl, rfl, rfl⟩
theorem ft52_3 : FieldT Try.prog 52 3 3 3 := ⟨_, _, Try.underlying52, rfl, rfl, rfl⟩
theorem eq52 (a0 : Int) (a1 : Int) (a2 : Int) (a3 : Int) (b0 : Int) (b1 : Int) (b2 : Int) (b3 : Int) : EqT Try.prog 52 [.int .i64 a0, .int .i64 a1, .int .i64 a2, .int .i64 a3] [.int .i64 b0, .int .i64 b1, .int .i64 b2, .int .i64 b3] (((a0 == b0) && ((a1 == b1) && ((a2 == b2) && (a3 == b3))))) := ⟨Try.eqGuardType52, fun w => by
  simp [go_sem, Try.underlying52, Try.underlying3, Try.isAgg52, Try.isAgg3, Try.sizeOf52, Try.sizeOf3, Try.stoodInHeld52]
  (repeat' split) <;> simp_all⟩
/- top_pubSpan -/
def ev_top_pubSpan (n : Nat) (low1 : Int) (high2 : Int) : Option (Int × Int) :=
  some (low1, high2)
set_option maxRecDepth 100000 in
set_option maxHeartbeats 2000000 in
theorem fc_top_pubSpan {n : Nat} {low1 : Int} {high2 : Int} {r : Int × Int} (h : ev_top_pubSpan n low1 high2 = some r) : FC Try.prog 14 [.val (.int .i64 low1), .val (.int .i64 high2)] [] (.agg [.val (.int .i64 r.1), .val (.int .i64 r.2)]) [] := by
  refine introJ (nz := 8) Try.func14 rfl rfl rfl (fun w0 R0 env0 => ?_)
  rw [ev_top_pubSpan] at h
  refine TC.seq ?_
  refine TC.region ?_
  refine op0 (sp_alloc 0 rfl Try.zeroValue26 rfl) rfl trivial rfl rfl ?_
  refine TL.nil ?_
  refine TC.seq ?_
  refine TC.region ?_
  refine op0 (sp_move rfl rfl) rfl trivial rfl rfl ?_
  refine op0 (sp_move rfl rfl) rfl trivial rfl rfl ?_
  refine op0 (sp_build (qs := [(0, .val (.int .i64 low1)), (1, .val (.int .i64 high2))]) rfl bt26 rfl rfl rfl rfl) rfl trivial rfl rfl ?_
  refine stoB 0 (cells' := [.val (.int .i64 low1), .val (.int .i64 high2)]) rfl rfl trivial rfl rfl rfl rfl vt26 rfl rfl rfl ?_
  refine TL.nil ?_
  cases h
  exact retJ [] (.cells rfl (mem_at 0 rfl) isBlk vt26 rfl rfl (.nil)) rfl trivial rfl rfl
/- top_pubHours -/
def ev_top_pubHours_l0 (n : Nat) : Nat → Int → Int → Int → (List (Int × Int)) → Option ((List (Int × Int)))
  | 0, _, _, _, _ => none
  | m + 1, i3, i4, i5, l6 => cond (decide (i3 < 24)) (chk (room 16 (l6.length + ([(i4, i5)] : List (Int × Int)).length)) <| chk (in64 (i3 + 1)) <| ev_top_pubHours_l0 n m (i3 + 1) i4 i5 (l6 ++ ([(i4, i5)] : List (Int × Int)))) (some l6)
set_option maxRecDepth 100000 in
set_option maxHeartbeats 2000000 in
theorem ok_top_pubHours_l0 {n : Nat} {w0 : World} {R0 : Nat → Prop} {env0 : Env} {r : (List (Int × Int))} : ∀ (m : Nat) (i3 : Int) (i4 : Int) (i5 : Int) (l6 : List (Int × Int)), ev_top_pubHours_l0 n m i3 i4 i5 l6 = some r → TC Try.prog ⟨w0, fun _ => False, R0⟩ 15 (bodyPost Try.prog Try.f13 (Post ⟨w0, fun _ => False, R0⟩ env0 (.ref 0) [.row 0 26 2 (List.map en_api_Span r)])) [.code (sub (bodyOf Try.f13) [1, 1, 0, 1, 0, 0, 0, 0]), .code (sub (bodyOf Try.f13) [1, 1, 0, 1, 0, 0, 0, 1]), .code (sub (bodyOf Try.f13) [1, 1, 0, 1, 0, 0, 1]), .inLoop (sub (bodyOf Try.f13) [1, 1, 0, 1, 0, 0]), .inBlock 0, .code (sub (bodyOf Try.f13) [1, 1, 1])] ([(1, .ptr 0 0), (3, .ref 1), (4, .val (.int .i64 i3))]) ([.blk 0 [.val (.int .i64 i4), .val (.int .i64 i5)] 26, .row 1 26 2 (List.map en_api_Span l6)]) := by
  intro m
  induction m with
  | zero => intro i3 i4 i5 l6 h; exact none_no h
  | succ m ih =>
    intro i3 i4 i5 l6 h
    rw [ev_top_pubHours_l0] at h
    refine TC.region ?_
    refine op0 (sp_move rfl rfl) rfl trivial rfl rfl ?_
    refine op0 (sp_lss rfl rfl rfl) rfl trivial rfl rfl ?_
    refine TL.nil ?_
    refine TC.cond (b := (decide (i3 < 24))) rfl (fun h1 => ?_) (fun h1 => ?_)
    · have h := cond_t h h1
      refine TC.skip ?_
      refine TC.seq ?_
      refine TC.block ?_
      refine TC.region ?_
      refine op0 (sp_move rfl rfl) rfl trivial rfl rfl ?_
      refine op1 0 rfl (sp_loadBA rfl isBlk rfl vt26 rfl rfl) rfl trivial rfl rfl ?_
      refine op0 (sp_buildSlice (qs := [.agg [.val (.int .i64 i4), .val (.int .i64 i5)]]) (need := []) (els := List.map en_api_Span ([(i4, i5)] : List (Int × Int))) 2 rfl sl23 (by decide) (by decide) rfl rfl rfl (.v (.v (.nil))) (map_len fun _ => rfl) rfl rfl rfl) rfl trivial rfl rfl ?_
      obtain ⟨h2, h⟩ := chk_inv h
      refine appM 2 0 (N := l6.length) (N2 := ([(i4, i5)] : List (Int × Int)).length) 3 rfl rfl trivial rfl rfl rfl rfl rfl isOwn rfl sl23 (len_map _ _) (len_map _ _) h2 (map_app _ _ _) rfl ?_
      refine op0 (sp_assign rfl rfl) rfl trivial rfl rfl ?_
      refine TL.nil ?_
      refine TC.inBlock ?_
      refine TC.region ?_
      refine op0 (sp_move rfl rfl) rfl trivial rfl rfl ?_
      obtain ⟨h3, h⟩ := chk_inv h
      refine op0 (sp_add rfl rfl rfl h3) rfl trivial rfl rfl ?_
      refine op0 (sp_assign rfl rfl) rfl trivial rfl rfl ?_
      refine TL.nil ?_
      refine TC.inLoop ?_
      refine TC.seq ?_
      refine TC.seq ?_
      refine subJ [(1, 3)] (ih _ _ _ _ h) ?_ ?_ ?_
      · exact ⟨rfl, rfl, rfl, trivial⟩
      · exact ⟨mem_at 2 rfl, mem_at 0 rfl, trivial⟩
      · rfl
    · have h := cond_f h h1
      refine TC.exit rfl ?_
      refine TC.seq ?_
      refine TC.region ?_
      refine op0 (sp_move rfl rfl) rfl trivial rfl rfl ?_
      refine op0 (sp_assign rfl rfl) rfl trivial rfl rfl ?_
      refine TL.nil ?_
      cases h
      exact retJ [(0, 1)] (.tmp rfl .nil) rfl ⟨mem_at 1 rfl, trivial⟩ rfl rfl
def ev_top_pubHours (n : Nat) (s1 : Int) (s2 : Int) : Option ((List (Int × Int))) :=
  ev_top_pubHours_l0 n n 0 s1 s2 ([] : List (Int × Int))
set_option maxRecDepth 100000 in
set_option maxHeartbeats 2000000 in
theorem fc_top_pubHours {n : Nat} {s1 : Int} {s2 : Int} {r : (List (Int × Int))} (h : ev_top_pubHours n s1 s2 = some r) : FC Try.prog 13 [.agg [.val (.int .i64 s1), .val (.int .i64 s2)]] [] (.ref 0) [.row 0 26 2 (List.map en_api_Span r)] := by
  refine introJ (nz := 15) Try.func13 rfl rfl rfl (fun w0 R0 env0 => ?_)
  rw [ev_top_pubHours] at h
  refine TC.seq ?_
  refine TC.region ?_
  refine op0 (sp_box 0 rfl rfl rfl rfl rfl) rfl trivial rfl rfl ?_
  refine op0 (sp_assign rfl rfl) rfl trivial rfl rfl ?_
  refine TL.nil ?_
  refine TC.seq ?_
  refine TC.region ?_
  refine op0 (sp_emptyM 1 (List.map en_api_Span []) rfl rfl sl23) rfl trivial rfl rfl ?_
  refine op0 (sp_assign rfl rfl) rfl trivial rfl rfl ?_
  refine TL.nil ?_
  refine TC.seq ?_
  refine TC.seq ?_
  refine TC.region ?_
  refine op0 (sp_assign rfl rfl) rfl trivial rfl rfl ?_
  refine TL.nil ?_
  refine TC.block ?_
  refine TC.loop ?_
  refine TC.seq ?_
  refine TC.seq ?_
  refine subJ [] (ok_top_pubHours_l0 _ _ _ _ _ h) ?_ ?_ ?_
  · exact ⟨rfl, rfl, rfl, trivial⟩
  · exact ⟨mem_at 1 rfl, mem_at 0 rfl, trivial⟩
  · rfl
/- slices_IndexFunc_Lint_int -/
def ev_slices_IndexFunc_Lint_int_l0 (n : Nat) (s1 : List Int) (f2 : Int → Option Bool) : Nat → Int → Option Int
  | 0, _ => none
  | m + 1, i3 => cond (decide (i3 < (s1.length : Int))) (idx s1 i3 fun x4 => (f2 x4).bind fun r5 => cond r5 (some i3) (chk (in64 (i3 + 1)) <| ev_slices_IndexFunc_Lint_int_l0 n s1 f2 m (i3 + 1))) (some (-1))
set_option maxRecDepth 100000 in
set_option maxHeartbeats 2000000 in
theorem ok_slices_IndexFunc_Lint_int_l0 {n : Nat} {w0 : World} {R0 : Nat → Prop} {env0 : Env} {r : Int} {s1 : List Int} {f2 : Int → Option Bool} : ∀ (m : Nat) (i3 : Int), ev_slices_IndexFunc_Lint_int_l0 n s1 f2 m i3 = some r → TC Try.prog ⟨w0, fun _ => False, R0⟩ 19 (bodyPost Try.prog Try.f229 (Post ⟨w0, fun _ => False, R0⟩ env0 (.val (.int .i64 r)) [])) [.code (sub (bodyOf Try.f229) [1, 0, 1, 0, 0, 0]), .code (sub (bodyOf Try.f229) [1, 0, 1, 0, 0, 1]), .inLoop (sub (bodyOf Try.f229) [1, 0, 1, 0, 0]), .inBlock 0, .code (sub (bodyOf Try.f229) [1, 1])] ([(0, .ref 0), (1, .ref 1), (7, .val (.int .i64 (s1.length : Int))), (8, .val (.int .i64 i3))]) ([.ro 0 1 (List.map en_int s1), .any 1 (D.fn Try.prog fe_funcint_bool fd_funcint_bool f2)]) := by
  intro m
  induction m with
  | zero => intro i3 h; exact none_no h
  | succ m ih =>
    intro i3 h
    rw [ev_slices_IndexFunc_Lint_int_l0] at h
    refine TC.region ?_
    refine op0 (sp_lss rfl rfl rfl) rfl trivial rfl rfl ?_
    refine TL.nil ?_
    refine TC.seq ?_
    refine TC.cond (b := (decide (i3 < (s1.length : Int)))) rfl (fun h1 => ?_) (fun h1 => ?_)
    · have h := cond_t h h1
      refine TC.skip ?_
      refine TC.seq ?_
      refine TC.block ?_
      refine TC.seq ?_
      refine TC.region ?_
      refine op0 (sp_move rfl rfl) rfl trivial rfl rfl ?_
      refine op0 (sp_assign rfl rfl) rfl trivial rfl rfl ?_
      refine TL.nil ?_
      refine TC.seq ?_
      refine TC.region ?_
      refine op0 (sp_move rfl rfl) rfl trivial rfl rfl ?_
      refine op0 (sp_move rfl rfl) rfl trivial rfl rfl ?_
      refine op0 (sp_move rfl rfl) rfl trivial rfl rfl ?_
      obtain ⟨x4, h2, h3, h⟩ := idx_inv h
      refine op1 0 rfl (sp_indexS rfl rfl rfl isRo sl37 h2 (map_get _ h3)) rfl trivial rfl rfl ?_
      refine op1 0 rfl (sp_loadR (i := (i3 : Int).toNat) (j := 0) rfl rfl isRo vt3 rfl (map_get _ h3) rfl (.v (.nil)) (nodup_of_B rfl)) rfl trivial rfl rfl ?_
      obtain ⟨r5, h4, h⟩ := bind_inv h
      refine op1 1 rfl (sp_callF (avs := [.val (.int .i64 x4)]) (v := .val (.bool r5)) x4 rfl rfl rfl rfl rfl h4) rfl trivial rfl rfl ?_
      refine TL.nil ?_
      refine TC.cond (b := r5) rfl (fun h5 => ?_) (fun h5 => ?_)
      · have h := cond_t h h5
        refine TC.seq ?_
        refine TC.region ?_
        refine op0 (sp_move rfl rfl) rfl trivial rfl rfl ?_
        refine op0 (sp_assign rfl rfl) rfl trivial rfl rfl ?_
        refine TL.nil ?_
        cases h
        exact retJ [] (.tmp rfl .nil) rfl trivial rfl rfl
      · have h := cond_f h h5
        refine TC.skip ?_
        refine TC.inBlock ?_
        refine TC.region ?_
        obtain ⟨h6, h⟩ := chk_inv h
        refine op0 (sp_add rfl rfl rfl h6) rfl trivial rfl rfl ?_
        refine op0 (sp_move rfl rfl) rfl trivial rfl rfl ?_
        refine TL.nil ?_
        refine TC.inLoop ?_
        refine TC.seq ?_
        refine subJ [] (ih _ h) ?_ ?_ ?_
        · exact ⟨rfl, rfl, rfl, rfl, trivial⟩
        · exact ⟨mem_at 0 rfl, mem_at 1 rfl, trivial⟩
        · rfl
    · have h := cond_f h h1
      refine TC.exit rfl ?_
      refine TC.seq ?_
      refine TC.region ?_
      refine op0 (sp_assign rfl rfl) rfl trivial rfl rfl ?_
      refine TL.nil ?_
      cases h
      exact retJ [] (.tmp rfl .nil) rfl trivial rfl rfl
def ev_slices_IndexFunc_Lint_int (n : Nat) (s1 : List Int) (f2 : Int → Option Bool) : Option Int :=
  ev_slices_IndexFunc_Lint_int_l0 n s1 f2 n 0
set_option maxRecDepth 100000 in
set_option maxHeartbeats 2000000 in
theorem fc_slices_IndexFunc_Lint_int {n : Nat} {s1 : List Int} {f2 : Int → Option Bool} {r : Int} (h : ev_slices_IndexFunc_Lint_int n s1 f2 = some r) : FC Try.prog 229 [.ref 0, .ref 1] [.ro 0 1 (List.map en_int s1), .any 1 (D.fn Try.prog fe_funcint_bool fd_funcint_bool f2)] (.val (.int .i64 r)) [] := by
  refine introJ (nz := 19) Try.func229 rfl rfl rfl (fun w0 R0 env0 => ?_)
  rw [ev_slices_IndexFunc_Lint_int] at h
  refine TC.seq ?_
  refine TC.region ?_
  refine op0 (sp_assign rfl rfl) rfl trivial rfl rfl ?_
  refine TL.nil ?_
  refine TC.seq ?_
  refine TC.seq ?_
  refine TC.region ?_
  refine op0 (sp_move rfl rfl) rfl trivial rfl rfl ?_
  refine op1 0 rfl (sp_lenM (N := s1.length) (len_map _ _) rfl rfl isRo Try.underlying37) rfl trivial rfl rfl ?_
  refine op0 (sp_move rfl rfl) rfl trivial rfl rfl ?_
  refine TL.nil ?_
  refine TC.block ?_
  refine TC.loop ?_
  refine TC.seq ?_
  refine subJ [] (ok_slices_IndexFunc_Lint_int_l0 _ _ h) ?_ ?_ ?_
  · exact ⟨rfl, rfl, rfl, rfl, trivial⟩
  · exact ⟨mem_at 0 rfl, mem_at 1 rfl, trivial⟩
  · rfl
/- slices_ContainsFunc_Lint_int -/
def ev_slices_ContainsFunc_Lint_int (n : Nat) (s1 : List Int) (f2 : Int → Option Bool) : Option Bool :=
  (ev_slices_IndexFunc_Lint_int n s1 f2).bind fun r3 => some (decide ((0 : Int) ≤ r3))
set_option maxRecDepth 100000 in
set_option maxHeartbeats 2000000 in
theorem fc_slices_ContainsFunc_Lint_int {n : Nat} {s1 : List Int} {f2 : Int → Option Bool} {r : Bool} (h : ev_slices_ContainsFunc_Lint_int n s1 f2 = some r) : FC Try.prog 133 [.ref 0, .ref 1] [.ro 0 1 (List.map en_int s1), .any 1 (D.fn Try.prog fe_funcint_bool fd_funcint_bool f2)] (.val (.bool r)) [] := by
  refine introJ (nz := 9) Try.func133 rfl rfl rfl (fun w0 R0 env0 => ?_)
  rw [ev_slices_ContainsFunc_Lint_int] at h
  refine TC.seq ?_
  refine TC.region ?_
  refine op0 (sp_assign rfl rfl) rfl trivial rfl rfl ?_
  refine TL.nil ?_
  refine TC.seq ?_
  refine TC.region ?_
  refine op0 (sp_move rfl rfl) rfl trivial rfl rfl ?_
  refine op0 (sp_move rfl rfl) rfl trivial rfl rfl ?_
  obtain ⟨r3, h1, h⟩ := bind_inv h
  refine opN (need := [.ro 0 1 (List.map en_int s1), .any 1 (D.fn Try.prog fe_funcint_bool fd_funcint_bool f2)]) [0, 1] ⟨rfl, rfl, trivial⟩ (sp_call (avs := [.ref 0, .ref 1]) (need := [.ro 0 1 (List.map en_int s1), .any 1 (D.fn Try.prog fe_funcint_bool fd_funcint_bool f2)]) (v := .val (.int .i64 r3)) (news := []) rfl rfl rfl Try.call229 (atJ [] [] (fc_slices_IndexFunc_Lint_int h1) rfl rfl) (.inl (roAll rfl))) rfl trivial rfl rfl ?_
  refine op0 (sp_geq rfl rfl rfl) rfl trivial rfl rfl ?_
  refine op0 (sp_assign rfl rfl) rfl trivial rfl rfl ?_
  refine TL.nil ?_
  cases h
  exact retJ [] (.tmp rfl .nil) rfl trivial rfl rfl
/- slices_IndexFunc_Lapi_Span_api_Span -/
def ev_slices_IndexFunc_Lapi_Span_api_Span_l0 (n : Nat) (s1 : List (Int × Int)) (f2 : (Int × Int) → Option Bool) : Nat → Int → Option Int
  | 0, _ => none
  | m + 1, i3 => cond (decide (i3 < (s1.length : Int))) (idx s1 i3 fun x4 => (f2 (x4.1, x4.2)).bind fun r5 => cond r5 (some i3) (chk (in64 (i3 + 1)) <| ev_slices_IndexFunc_Lapi_Span_api_Span_l0 n s1 f2 m (i3 + 1))) (some (-1))
set_option maxRecDepth 100000 in
set_option maxHeartbeats 2000000 in
theorem ok_slices_IndexFunc_Lapi_Span_api_Span_l0 {n : Nat} {w0 : World} {R0 : Nat → Prop} {env0 : Env} {r : Int} {s1 : List (Int × Int)} {f2 : (Int × Int) → Option Bool} : ∀ (m : Nat) (i3 : Int), ev_slices_IndexFunc_Lapi_Span_api_Span_l0 n s1 f2 m i3 = some r → TC Try.prog ⟨w0, fun _ => False, R0⟩ 19 (bodyPost Try.prog Try.f280 (Post ⟨w0, fun _ => False, R0⟩ env0 (.val (.int .i64 r)) [])) [.code (sub (bodyOf Try.f280) [1, 0, 1, 0, 0, 0]), .code (sub (bodyOf Try.f280) [1, 0, 1, 0, 0, 1]), .inLoop (sub (bodyOf Try.f280) [1, 0, 1, 0, 0]), .inBlock 0, .code (sub (bodyOf Try.f280) [1, 1])] ([(0, .ref 0), (1, .ref 1), (7, .val (.int .i64 (s1.length : Int))), (8, .val (.int .i64 i3))]) ([.ro 0 2 (List.map en_api_Span s1), .any 1 (D.fn Try.prog fe_funcapi_Span_bool fd_funcapi_Span_bool f2)]) := by
  intro m
  induction m with
  | zero => intro i3 h; exact none_no h
  | succ m ih =>
    intro i3 h
    rw [ev_slices_IndexFunc_Lapi_Span_api_Span_l0] at h
    refine TC.region ?_
    refine op0 (sp_lss rfl rfl rfl) rfl trivial rfl rfl ?_
    refine TL.nil ?_
    refine TC.seq ?_
    refine TC.cond (b := (decide (i3 < (s1.length : Int)))) rfl (fun h1 => ?_) (fun h1 => ?_)
    · have h := cond_t h h1
      refine TC.skip ?_
      refine TC.seq ?_
      refine TC.block ?_
      refine TC.seq ?_
      refine TC.region ?_
      refine op0 (sp_move rfl rfl) rfl trivial rfl rfl ?_
      refine op0 (sp_assign rfl rfl) rfl trivial rfl rfl ?_
      refine TL.nil ?_
      refine TC.seq ?_
      refine TC.region ?_
      refine op0 (sp_move rfl rfl) rfl trivial rfl rfl ?_
      refine op0 (sp_move rfl rfl) rfl trivial rfl rfl ?_
      refine op0 (sp_move rfl rfl) rfl trivial rfl rfl ?_
      obtain ⟨x4, h2, h3, h⟩ := idx_inv h
      refine op1 0 rfl (sp_indexS rfl rfl rfl isRo sl23 h2 (map_get _ h3)) rfl trivial rfl rfl ?_
      refine op1 0 rfl (sp_loadRA (i := (i3 : Int).toNat) (j := 0) rfl rfl isRo vt26 rfl (map_get _ h3) rfl rfl (by decide) (.v (.v (.nil))) (nodup_of_B rfl)) rfl trivial rfl rfl ?_
      obtain ⟨r5, h4, h⟩ := bind_inv h
      refine op1 1 rfl (sp_callF (avs := [.agg [.val (.int .i64 x4.1), .val (.int .i64 x4.2)]]) (v := .val (.bool r5)) (x4.1, x4.2) rfl rfl rfl rfl rfl h4) rfl trivial rfl rfl ?_
      refine TL.nil ?_
      refine TC.cond (b := r5) rfl (fun h5 => ?_) (fun h5 => ?_)
      · have h := cond_t h h5
        refine TC.seq ?_
        refine TC.region ?_
        refine op0 (sp_move rfl rfl) rfl trivial rfl rfl ?_
        refine op0 (sp_assign rfl rfl) rfl trivial rfl rfl ?_
        refine TL.nil ?_
        cases h
        exact retJ [] (.tmp rfl .nil) rfl trivial rfl rfl
      · have h := cond_f h h5
        refine TC.skip ?_
        refine TC.inBlock ?_
        refine TC.region ?_
        obtain ⟨h6, h⟩ := chk_inv h
        refine op0 (sp_add rfl rfl rfl h6) rfl trivial rfl rfl ?_
        refine op0 (sp_move rfl rfl) rfl trivial rfl rfl ?_
        refine TL.nil ?_
        refine TC.inLoop ?_
        refine TC.seq ?_
        refine subJ [] (ih _ h) ?_ ?_ ?_
        · exact ⟨rfl, rfl, rfl, rfl, trivial⟩
        · exact ⟨mem_at 0 rfl, mem_at 1 rfl, trivial⟩
        · rfl
    · have h := cond_f h h1
      refine TC.exit rfl ?_
      refine TC.seq ?_
      refine TC.region ?_
      refine op0 (sp_assign rfl rfl) rfl trivial rfl rfl ?_
      refine TL.nil ?_
      cases h
      exact retJ [] (.tmp rfl .nil) rfl trivial rfl rfl
def ev_slices_IndexFunc_Lapi_Span_api_Span (n : Nat) (s1 : List (Int × Int)) (f2 : (Int × Int) → Option Bool) : Option Int :=
  ev_slices_IndexFunc_Lapi_Span_api_Span_l0 n s1 f2 n 0
set_option maxRecDepth 100000 in
set_option maxHeartbeats 2000000 in
theorem fc_slices_IndexFunc_Lapi_Span_api_Span {n : Nat} {s1 : List (Int × Int)} {f2 : (Int × Int) → Option Bool} {r : Int} (h : ev_slices_IndexFunc_Lapi_Span_api_Span n s1 f2 = some r) : FC Try.prog 280 [.ref 0, .ref 1] [.ro 0 2 (List.map en_api_Span s1), .any 1 (D.fn Try.prog fe_funcapi_Span_bool fd_funcapi_Span_bool f2)] (.val (.int .i64 r)) [] := by
  refine introJ (nz := 19) Try.func280 rfl rfl rfl (fun w0 R0 env0 => ?_)
  rw [ev_slices_IndexFunc_Lapi_Span_api_Span] at h
  refine TC.seq ?_
  refine TC.region ?_
  refine op0 (sp_assign rfl rfl) rfl trivial rfl rfl ?_
  refine TL.nil ?_
  refine TC.seq ?_
  refine TC.seq ?_
  refine TC.region ?_
  refine op0 (sp_move rfl rfl) rfl trivial rfl rfl ?_
  refine op1 0 rfl (sp_lenM (N := s1.length) (len_map _ _) rfl rfl isRo Try.underlying23) rfl trivial rfl rfl ?_
  refine op0 (sp_move rfl rfl) rfl trivial rfl rfl ?_
  refine TL.nil ?_
  refine TC.block ?_
  refine TC.loop ?_
  refine TC.seq ?_
  refine subJ [] (ok_slices_IndexFunc_Lapi_Span_api_Span_l0 _ _ h) ?_ ?_ ?_
  · exact ⟨rfl, rfl, rfl, rfl, trivial⟩
  · exact ⟨mem_at 0 rfl, mem_at 1 rfl, trivial⟩
  · rfl
/- slices_ContainsFunc_Lapi_Span_api_Span -/
def ev_slices_ContainsFunc_Lapi_Span_api_Span (n : Nat) (s1 : List (Int × Int)) (f2 : (Int × Int) → Option Bool) : Option Bool :=
  (ev_slices_IndexFunc_Lapi_Span_api_Span n s1 f2).bind fun r3 => some (decide ((0 : Int) ≤ r3))
set_option maxRecDepth 100000 in
set_option maxHeartbeats 2000000 in
theorem fc_slices_ContainsFunc_Lapi_Span_api_Span {n : Nat} {s1 : List (Int × Int)} {f2 : (Int × Int) → Option Bool} {r : Bool} (h : ev_slices_ContainsFunc_Lapi_Span_api_Span n s1 f2 = some r) : FC Try.prog 226 [.ref 0, .ref 1] [.ro 0 2 (List.map en_api_Span s1), .any 1 (D.fn Try.prog fe_funcapi_Span_bool fd_funcapi_Span_bool f2)] (.val (.bool r)) [] := by
  refine introJ (nz := 9) Try.func226 rfl rfl rfl (fun w0 R0 env0 => ?_)
  rw [ev_slices_ContainsFunc_Lapi_Span_api_Span] at h
  refine TC.seq ?_
  refine TC.region ?_
  refine op0 (sp_assign rfl rfl) rfl trivial rfl rfl ?_
  refine TL.nil ?_
  refine TC.seq ?_
  refine TC.region ?_
  refine op0 (sp_move rfl rfl) rfl trivial rfl rfl ?_
  refine op0 (sp_move rfl rfl) rfl trivial rfl rfl ?_
  obtain ⟨r3, h1, h⟩ := bind_inv h
  refine opN (need := [.ro 0 2 (List.map en_api_Span s1), .any 1 (D.fn Try.prog fe_funcapi_Span_bool fd_funcapi_Span_bool f2)]) [0, 1] ⟨rfl, rfl, trivial⟩ (sp_call (avs := [.ref 0, .ref 1]) (need := [.ro 0 2 (List.map en_api_Span s1), .any 1 (D.fn Try.prog fe_funcapi_Span_bool fd_funcapi_Span_bool f2)]) (v := .val (.int .i64 r3)) (news := []) rfl rfl rfl Try.call280 (atJ [] [] (fc_slices_IndexFunc_Lapi_Span_api_Span h1) rfl rfl) (.inl (roAll rfl))) rfl trivial rfl rfl ?_
  refine op0 (sp_geq rfl rfl rfl) rfl trivial rfl rfl ?_
  refine op0 (sp_assign rfl rfl) rfl trivial rfl rfl ?_
  refine TL.nil ?_
  cases h
  exact retJ [] (.tmp rfl .nil) rfl trivial rfl rfl
/- slices_IndexFunc_Lapi_PartContract_api_PartContract -/
def ev_slices_IndexFunc_Lapi_PartContract_api_PartContract_l0 (n : Nat) (s1 : List (Int × Int × Int)) (f2 : (Int × Int × Int) → Option Bool) : Nat → Int → Option Int
  | 0, _ => none
  | m + 1, i3 => cond (decide (i3 < (s1.length : Int))) (idx s1 i3 fun x4 => (f2 (x4.1, x4.2.1, x4.2.2)).bind fun r5 => cond r5 (some i3) (chk (in64 (i3 + 1)) <| ev_slices_IndexFunc_Lapi_PartContract_api_PartContract_l0 n s1 f2 m (i3 + 1))) (some (-1))
set_option maxRecDepth 100000 in
set_option maxHeartbeats 2000000 in
theorem ok_slices_IndexFunc_Lapi_PartContract_api_PartContract_l0 {n : Nat} {w0 : World} {R0 : Nat → Prop} {env0 : Env} {r : Int} {s1 : List (Int × Int × Int)} {f2 : (Int × Int × Int) → Option Bool} : ∀ (m : Nat) (i3 : Int), ev_slices_IndexFunc_Lapi_PartContract_api_PartContract_l0 n s1 f2 m i3 = some r → TC Try.prog ⟨w0, fun _ => False, R0⟩ 19 (bodyPost Try.prog Try.f143 (Post ⟨w0, fun _ => False, R0⟩ env0 (.val (.int .i64 r)) [])) [.code (sub (bodyOf Try.f143) [1, 0, 1, 0, 0, 0]), .code (sub (bodyOf Try.f143) [1, 0, 1, 0, 0, 1]), .inLoop (sub (bodyOf Try.f143) [1, 0, 1, 0, 0]), .inBlock 0, .code (sub (bodyOf Try.f143) [1, 1])] ([(0, .ref 0), (1, .ref 1), (7, .val (.int .i64 (s1.length : Int))), (8, .val (.int .i64 i3))]) ([.ro 0 3 (List.map en_api_PartContract s1), .any 1 (D.fn Try.prog fe_funcapi_PartContract_bool fd_funcapi_PartContract_bool f2)]) := by
  intro m
  induction m with
  | zero => intro i3 h; exact none_no h
  | succ m ih =>
    intro i3 h
    rw [ev_slices_IndexFunc_Lapi_PartContract_api_PartContract_l0] at h
    refine TC.region ?_
    refine op0 (sp_lss rfl rfl rfl) rfl trivial rfl rfl ?_
    refine TL.nil ?_
    refine TC.seq ?_
    refine TC.cond (b := (decide (i3 < (s1.length : Int)))) rfl (fun h1 => ?_) (fun h1 => ?_)
    · have h := cond_t h h1
      refine TC.skip ?_
      refine TC.seq ?_
      refine TC.block ?_
      refine TC.seq ?_
      refine TC.region ?_
      refine op0 (sp_move rfl rfl) rfl trivial rfl rfl ?_
      refine op0 (sp_assign rfl rfl) rfl trivial rfl rfl ?_
      refine TL.nil ?_
      refine TC.seq ?_
      refine TC.region ?_
      refine op0 (sp_move rfl rfl) rfl trivial rfl rfl ?_
      refine op0 (sp_move rfl rfl) rfl trivial rfl rfl ?_
      refine op0 (sp_move rfl rfl) rfl trivial rfl rfl ?_
      obtain ⟨x4, h2, h3, h⟩ := idx_inv h
      refine op1 0 rfl (sp_indexS rfl rfl rfl isRo sl46 h2 (map_get _ h3)) rfl trivial rfl rfl ?_
      refine op1 0 rfl (sp_loadRA (i := (i3 : Int).toNat) (j := 0) rfl rfl isRo vt48 rfl (map_get _ h3) rfl rfl (by decide) (.v (.v (.v (.nil)))) (nodup_of_B rfl)) rfl trivial rfl rfl ?_
      obtain ⟨r5, h4, h⟩ := bind_inv h
      refine op1 1 rfl (sp_callF (avs := [.agg [.val (.int .i64 x4.1), .val (.int .i64 x4.2.1), .val (.int .i64 x4.2.2)]]) (v := .val (.bool r5)) (x4.1, x4.2.1, x4.2.2) rfl rfl rfl rfl rfl h4) rfl trivial rfl rfl ?_
      refine TL.nil ?_
      refine TC.cond (b := r5) rfl (fun h5 => ?_) (fun h5 => ?_)
      · have h := cond_t h h5
        refine TC.seq ?_
        refine TC.region ?_
        refine op0 (sp_move rfl rfl) rfl trivial rfl rfl ?_
        refine op0 (sp_assign rfl rfl) rfl trivial rfl rfl ?_
        refine TL.nil ?_
        cases h
        exact retJ [] (.tmp rfl .nil) rfl trivial rfl rfl
      · have h := cond_f h h5
        refine TC.skip ?_
        refine TC.inBlock ?_
        refine TC.region ?_
        obtain ⟨h6, h⟩ := chk_inv h
        refine op0 (sp_add rfl rfl rfl h6) rfl trivial rfl rfl ?_
        refine op0 (sp_move rfl rfl) rfl trivial rfl rfl ?_
        refine TL.nil ?_
        refine TC.inLoop ?_
        refine TC.seq ?_
        refine subJ [] (ih _ h) ?_ ?_ ?_
        · exact ⟨rfl, rfl, rfl, rfl, trivial⟩
        · exact ⟨mem_at 0 rfl, mem_at 1 rfl, trivial⟩
        · rfl
    · have h := cond_f h h1
      refine TC.exit rfl ?_
      refine TC.seq ?_
      refine TC.region ?_
      refine op0 (sp_assign rfl rfl) rfl trivial rfl rfl ?_
      refine TL.nil ?_
      cases h
      exact retJ [] (.tmp rfl .nil) rfl trivial rfl rfl
def ev_slices_IndexFunc_Lapi_PartContract_api_PartContract (n : Nat) (s1 : List (Int × Int × Int)) (f2 : (Int × Int × Int) → Option Bool) : Option Int :=
  ev_slices_IndexFunc_Lapi_PartContract_api_PartContract_l0 n s1 f2 n 0
set_option maxRecDepth 100000 in
set_option maxHeartbeats 2000000 in
theorem fc_slices_IndexFunc_Lapi_PartContract_api_PartContract {n : Nat} {s1 : List (Int × Int × Int)} {f2 : (Int × Int × Int) → Option Bool} {r : Int} (h : ev_slices_IndexFunc_Lapi_PartContract_api_PartContract n s1 f2 = some r) : FC Try.prog 143 [.ref 0, .ref 1] [.ro 0 3 (List.map en_api_PartContract s1), .any 1 (D.fn Try.prog fe_funcapi_PartContract_bool fd_funcapi_PartContract_bool f2)] (.val (.int .i64 r)) [] := by
  refine introJ (nz := 19) Try.func143 rfl rfl rfl (fun w0 R0 env0 => ?_)
  rw [ev_slices_IndexFunc_Lapi_PartContract_api_PartContract] at h
  refine TC.seq ?_
  refine TC.region ?_
  refine op0 (sp_assign rfl rfl) rfl trivial rfl rfl ?_
  refine TL.nil ?_
  refine TC.seq ?_
  refine TC.seq ?_
  refine TC.region ?_
  refine op0 (sp_move rfl rfl) rfl trivial rfl rfl ?_
  refine op1 0 rfl (sp_lenM (N := s1.length) (len_map _ _) rfl rfl isRo Try.underlying46) rfl trivial rfl rfl ?_
  refine op0 (sp_move rfl rfl) rfl trivial rfl rfl ?_
  refine TL.nil ?_
  refine TC.block ?_
  refine TC.loop ?_
  refine TC.seq ?_
  refine subJ [] (ok_slices_IndexFunc_Lapi_PartContract_api_PartContract_l0 _ _ h) ?_ ?_ ?_
  · exact ⟨rfl, rfl, rfl, rfl, trivial⟩
  · exact ⟨mem_at 0 rfl, mem_at 1 rfl, trivial⟩
  · rfl
/- slices_ContainsFunc_Lapi_PartContract_api_PartContract -/
def ev_slices_ContainsFunc_Lapi_PartContract_api_PartContract (n : Nat) (s1 : List (Int × Int × Int)) (f2 : (Int × Int × Int) → Option Bool) : Option Bool :=
  (ev_slices_IndexFunc_Lapi_PartContract_api_PartContract n s1 f2).bind fun r3 => some (decide ((0 : Int) ≤ r3))
set_option maxRecDepth 100000 in
set_option maxHeartbeats 2000000 in
theorem fc_slices_ContainsFunc_Lapi_PartContract_api_PartContract {n : Nat} {s1 : List (Int × Int × Int)} {f2 : (Int × Int × Int) → Option Bool} {r : Bool} (h : ev_slices_ContainsFunc_Lapi_PartContract_api_PartContract n s1 f2 = some r) : FC Try.prog 68 [.ref 0, .ref 1] [.ro 0 3 (List.map en_api_PartContract s1), .any 1 (D.fn Try.prog fe_funcapi_PartContract_bool fd_funcapi_PartContract_bool f2)] (.val (.bool r)) [] := by
  refine introJ (nz := 9) Try.func68 rfl rfl rfl (fun w0 R0 env0 => ?_)
  rw [ev_slices_ContainsFunc_Lapi_PartContract_api_PartContract] at h
  refine TC.seq ?_
  refine TC.region ?_
  refine op0 (sp_assign rfl rfl) rfl trivial rfl rfl ?_
  refine TL.nil ?_
  refine TC.seq ?_
  refine TC.region ?_
  refine op0 (sp_move rfl rfl) rfl trivial rfl rfl ?_
  refine op0 (sp_move rfl rfl) rfl trivial rfl rfl ?_
  obtain ⟨r3, h1, h⟩ := bind_inv h
  refine opN (need := [.ro 0 3 (List.map en_api_PartContract s1), .any 1 (D.fn Try.prog fe_funcapi_PartContract_bool fd_funcapi_PartContract_bool f2)]) [0, 1] ⟨rfl, rfl, trivial⟩ (sp_call (avs := [.ref 0, .ref 1]) (need := [.ro 0 3 (List.map en_api_PartContract s1), .any 1 (D.fn Try.prog fe_funcapi_PartContract_bool fd_funcapi_PartContract_bool f2)]) (v := .val (.int .i64 r3)) (news := []) rfl rfl rfl Try.call143 (atJ [] [] (fc_slices_IndexFunc_Lapi_PartContract_api_PartContract h1) rfl rfl) (.inl (roAll rfl))) rfl trivial rfl rfl ?_
  refine op0 (sp_geq rfl rfl rfl) rfl trivial rfl rfl ?_
  refine op0 (sp_assign rfl rfl) rfl trivial rfl rfl ?_
  refine TL.nil ?_
  cases h
  exact retJ [] (.tmp rfl .nil) rfl trivial rfl rfl
/- slices_Clone_Lint_int -/
def ev_slices_Clone_Lint_int (n : Nat) (s1 : List Int) : Option ((List Int)) :=
  chk (room 8 (([] : List Int).length + s1.length)) <| some (([] : List Int) ++ s1)
set_option maxRecDepth 100000 in
set_option maxHeartbeats 2000000 in
theorem fc_slices_Clone_Lint_int {n : Nat} {s1 : List Int} {r : (List Int)} (h : ev_slices_Clone_Lint_int n s1 = some r) : FC Try.prog 74 [.ref 0] [.ro 0 1 (List.map en_int s1)] (.ref 0) [.row 0 3 1 (List.map en_int r)] := by
  refine introJ (nz := 8) Try.func74 rfl rfl rfl (fun w0 R0 env0 => ?_)
  rw [ev_slices_Clone_Lint_int] at h
  refine TC.seq ?_
  refine TC.region ?_
  refine op0 (sp_assign rfl rfl) rfl trivial rfl rfl ?_
  refine TL.nil ?_
  refine TC.seq ?_
  refine TC.seq ?_
  refine TC.region ?_
  refine op0 (sp_move rfl rfl) rfl trivial rfl rfl ?_
  refine op1 0 rfl (sp_eqNil 1 rfl Try.underlying37 rfl rfl isRo (len_map _ _)) rfl trivial rfl rfl ?_
  refine TL.nil ?_
  refine condNil 0 rfl rfl (fun hN => ?_) ?_
  · have hx := List.eq_nil_of_length_eq_zero hN
    subst hx
    repeat (have h := (chk_inv h).2)
    refine TC.seq ?_
    refine TC.region ?_
    refine op0 (sp_assign rfl rfl) rfl trivial rfl rfl ?_
    refine TL.nil ?_
    refine nilRowC 2 2 3 1 (List.map en_int []) rfl rfl rfl ?_
    cases h
    exact retJ [(0, 2)] (.tmp rfl .nil) rfl ⟨mem_at 0 rfl, trivial⟩ rfl rfl
  · refine TC.skip ?_
    refine TC.seq ?_
    refine TC.region ?_
    refine op0 (sp_emptyM 3 (List.map en_int []) rfl rfl sl37) rfl trivial rfl rfl ?_
    refine op0 (sp_move rfl rfl) rfl trivial rfl rfl ?_
    obtain ⟨h1, h⟩ := chk_inv h
    refine appM 0 2 (N := ([] : List Int).length) (N2 := s1.length) 4 rfl rfl trivial rfl rfl rfl rfl rfl isRo rfl sl37 (len_map _ _) (len_map _ _) h1 (map_app _ _ _) rfl ?_
    refine op0 (sp_assign rfl rfl) rfl trivial rfl rfl ?_
    refine TL.nil ?_
    cases h
    exact retJ [(0, 4)] (.tmp rfl .nil) rfl ⟨mem_at 0 rfl, trivial⟩ rfl rfl
end
end Go.Proofs.Ytmgcinejodpopaa.Sy
