/- What functions of the program compute, and that they do: printed by symgen.py. -/
import Derived.Test.YtgkoldcmbcbbpaaCmSymXJ
import Derived.Test.YtgkoldcmbcbbpaaProg
set_option linter.unusedSimpArgs false
set_option linter.unusedVariables false
namespace Go.Proofs.Ytgkoldcmbcbbpaa.Sy
open Go.RowKit
noncomputable section
abbrev vi (x : Int) : AV := .val (.int .i64 x)
abbrev LT := List (Int × Int × Int × Int × Int)
abbrev LW := List (Int × Int × Int × Int)
abbrev LL := List ((List Int))
abbrev vb (x : Bool) : AV := .val (.bool x)
abbrev vu (x : Int) : AV := .val (.int .u16 x)
section
variable {P : Program} {c : Ctx} {sz : Fm} {Q : Exit → Act → World → Prop} {t : List Item} {s : List (Nat × AV)} {V : List NEnt} {ops : Array Oper} {rest : List Oper} {o : Oper}
theorem q0 {v : AV} {news : List NEnt} {d : Nat} (hs : OpSpec P o (rho s) [] v news) (k : TL P c sz Q ops rest t ((d, v) :: s) (news ++ V)) (hd : o.dst = some d := by exact rfl) (hw : Wanted ops s o := by exact trivial) (hlt : Nat.blt d sz.sz = true := by exact rfl) (hf : freshN news s V = true := by exact rfl) : TL P c sz Q ops (o :: rest) t s V := op0 hs hd hw hlt hf k
theorem q1 {v : AV} {news : List NEnt} {d : Nat} {y : NEnt} (i : Nat) (hy : V[i]? = some y) (hs : OpSpec P o (rho s) [y] v news) (k : TL P c sz Q ops rest t ((d, v) :: s) (news ++ V)) (hd : o.dst = some d := by exact rfl) (hw : Wanted ops s o := by exact trivial) (hlt : Nat.blt d sz.sz = true := by exact rfl) (hf : freshN news s V = true := by exact rfl) : TL P c sz Q ops (o :: rest) t s V := op1 i hy hs hd hw hlt hf k
theorem q2 {v : AV} {news : List NEnt} {d : Nat} {y : NEnt} (i : Nat) (hy : V[i]? = some y) (hs : OpSpec P o (rho s) [y] v news) (k : TL P c sz Q ops rest t ((d, v) :: s) (news ++ V)) (hd : o.dst = some d := by exact rfl) (hw : Wanted ops s o := by exact ⟨_, rfl, rfl⟩) (hlt : Nat.blt d sz.sz = true := by exact rfl) (hf : freshN news s V = true := by exact rfl) : TL P c sz Q ops (o :: rest) t s V := op1 i hy hs hd hw hlt hf k
theorem q3 {v : AV} {news : List NEnt} {d : Nat} (hs : OpSpec P o (rho s) [] v news) (k : TL P c sz Q ops rest t ((d, v) :: s) (news ++ V)) (hd : o.dst = some d := by exact rfl) (hw : Wanted ops s o := by exact ⟨_, rfl, rfl⟩) (hlt : Nat.blt d sz.sz = true := by exact rfl) (hf : freshN news s V = true := by exact rfl) : TL P c sz Q ops (o :: rest) t s V := op0 hs hd hw hlt hf k
theorem qs {d : Nat} (k : TL P c sz Q ops rest t ((d, .val undef) :: s) V) (hd : o.dst = some d := by exact rfl) (hw : Unwanted ops s o := by exact ⟨_, rfl, .inl rfl⟩) (hlt : Nat.blt d sz.sz = true := by exact rfl) : TL P c sz Q ops (o :: rest) t s V := opSkip hd hw hlt k
theorem qa {d : Nat} {x : Operand} {v : AV} (k : TL P c sz Q ops rest t ((d, v) :: s) V) (hd : o.dst = some d := by exact rfl) (ho : o.op = .assign x := by exact rfl) (hx : rho s x = some v := by exact rfl) (hw : Wanted ops s o := by exact trivial) (hlt : Nat.blt d sz.sz = true := by exact rfl) (hf : freshN [] s V = true := by exact rfl) : TL P c sz Q ops (o :: rest) t s V := op0 (sp_assign ho hx) hd hw hlt hf k
theorem tr {x : List Oper} {y : Code} {id : Nat} (h : TL P c sz Q x.toArray x (.code y :: t) s V) : TC P c sz Q (.code (.seq (.region id x.toArray false) y) :: t) s V := TC.seq (TC.region h)
theorem qm {d : Nat} {x : Operand} {v : AV} (k : TL P c sz Q ops rest t ((d, v) :: s) V) (hd : o.dst = some d := by exact rfl) (ho : o.op = .move x := by exact rfl) (hx : rho s x = some v := by exact rfl) (hw : Wanted ops s o := by exact trivial) (hlt : Nat.blt d sz.sz = true := by exact rfl) (hf : freshN [] s V = true := by exact rfl) : TL P c sz Q ops (o :: rest) t s V := op0 (sp_move ho hx) hd hw hlt hf k
end
section
variable {P : Program} {s : List (Nat × AV)} {o : Oper} {ops : Array Oper} {V : List NEnt} {outs : List DO} {i : Nat} {l : List Oper} {d : DO} {ds : List DO}
theorem dp2 (ps : List (Option Nat × Nat)) (hs : OpSpec P o (rho s) d.need d.v d.news) (hn : From ops outs V i ps d.need) (h : DAll P ops outs V (i + 1) l ds (putS o d.v s)) (hw : Wanted ops s o := by exact trivial) (ht : d.take = [] := by exact rfl) : DAll P ops outs V i (o :: l) (d :: ds) s := .op' hs hw ht (From.ok hn) h
theorem dp0 (hs : OpSpec P o (rho s) d.need d.v d.news) (h : DAll P ops outs V (i + 1) l ds (putS o d.v s)) (hw : Wanted ops s o := by exact trivial) (ht : d.take = [] := by exact rfl) (hn : From ops outs V i [] d.need := by exact trivial) : DAll P ops outs V i (o :: l) (d :: ds) s := .op' hs hw ht (From.ok hn) h
theorem dp1 (k : Nat) (hs : OpSpec P o (rho s) d.need d.v d.news) (h : DAll P ops outs V (i + 1) l ds (putS o d.v s)) (hw : Wanted ops s o := by exact trivial) (ht : d.take = [] := by exact rfl) (hn : From ops outs V i [(none, k)] d.need := by exact ⟨⟨rfl, rfl⟩, trivial⟩) : DAll P ops outs V i (o :: l) (d :: ds) s := .op' hs hw ht (From.ok hn) h
theorem dq2 (ps : List (Option Nat × Nat)) (hs : OpSpec P o (rho s) d.need d.v d.news) (hn : From ops outs V i ps d.need) (h : DAll P ops outs V (i + 1) l ds (putS o d.v s)) (hw : Wanted ops s o := by exact ⟨_, rfl, rfl⟩) (ht : d.take = [] := by exact rfl) : DAll P ops outs V i (o :: l) (d :: ds) s := .op' hs hw ht (From.ok hn) h
theorem dq0 (hs : OpSpec P o (rho s) d.need d.v d.news) (h : DAll P ops outs V (i + 1) l ds (putS o d.v s)) (hw : Wanted ops s o := by exact ⟨_, rfl, rfl⟩) (ht : d.take = [] := by exact rfl) (hn : From ops outs V i [] d.need := by exact trivial) : DAll P ops outs V i (o :: l) (d :: ds) s := .op' hs hw ht (From.ok hn) h
theorem dq1 (k : Nat) (hs : OpSpec P o (rho s) d.need d.v d.news) (h : DAll P ops outs V (i + 1) l ds (putS o d.v s)) (hw : Wanted ops s o := by exact ⟨_, rfl, rfl⟩) (ht : d.take = [] := by exact rfl) (hn : From ops outs V i [(none, k)] d.need := by exact ⟨⟨rfl, rfl⟩, trivial⟩) : DAll P ops outs V i (o :: l) (d :: ds) s := .op' hs hw ht (From.ok hn) h
end
set_option maxRecDepth 100000
set_option maxHeartbeats 2000000
theorem vt5 : VarT Try.prog 5 1 false := ⟨Try.isAgg5, Try.sizeOf5⟩
theorem bt61 : ∀ parts, Try.prog.built 61 parts = Instr.fill (fun i => (#[(0, 1), (1, 1)] : Array (Nat × Nat))[i]?) (AV.denL (fun _ => undef) [vi 0, vi 0]).toArray parts := fun _ => by kernel_rfl
def en_api_TrainPair : Int × Int → List D := fun x => [D.v (.int .i64 x.1), D.v (.int .i64 x.2)]
theorem sl23 : SlT Try.prog 23 61 2 16 := ⟨Try.underlying23, ⟨Try.t61, _, by kernel_rfl, rfl, rfl, rfl, rfl⟩, by decide⟩
def fe_funcapi_TrainPair_bool : Int × Int → List AV := fun a => [.agg [vi a.1, vi a.2]]
def fd_funcapi_TrainPair_bool : Bool → AV := fun b => vb b
theorem vt61 : VarT Try.prog 61 2 true := ⟨Try.isAgg61, Try.sizeOf61⟩
theorem ft61_0 : FieldT Try.prog 61 0 0 3 := ⟨_, _, Try.underlying61, rfl, rfl, rfl⟩
theorem vt3 : VarT Try.prog 3 1 false := ⟨Try.isAgg3, Try.sizeOf3⟩
theorem ft61_1 : FieldT Try.prog 61 1 1 3 := ⟨_, _, Try.underlying61, rfl, rfl, rfl⟩
def en_int : Int → List D := fun x => [D.v (.int .i64 x)]
theorem en_int_flat : ∀ a, ∀ d ∈ en_int a, ∃ x, d = D.v x := by
  intro a d h;simp only [en_int, List.mem_cons, List.not_mem_nil, or_false] at h;rcases h with rfl <;> exact ⟨_, rfl⟩
theorem sl50 : SlT Try.prog 50 3 1 8 := ⟨Try.underlying50, ⟨Try.t3, _, by kernel_rfl, rfl, rfl, rfl, rfl⟩, by decide⟩
def fe_funcint_bool : Int → List AV := fun a => [vi a]
def fd_funcint_bool : Bool → AV := fun b => vb b
def ye_funcapi_Ratio_bool : Int × Int → List AV := fun a => [.agg [vi a.1, vi a.2]]
def yn_funcapi_Ratio_bool : Int × Int → List NEnt := fun a => []
theorem bt26 : ∀ parts, Try.prog.built 26 parts = Instr.fill (fun i => (#[(0, 1), (1, 1)] : Array (Nat × Nat))[i]?) (AV.denL (fun _ => undef) [vi 0, vi 0]).toArray parts := fun _ => by kernel_rfl
theorem vt26 : VarT Try.prog 26 2 true := ⟨Try.isAgg26, Try.sizeOf26⟩
theorem sl178 : SlT Try.prog 178 61 2 16 := ⟨Try.underlying178, ⟨Try.t61, _, by kernel_rfl, rfl, rfl, rfl, rfl⟩, by decide⟩
theorem ft26_0 : FieldT Try.prog 26 0 0 3 := ⟨_, _, Try.underlying26, rfl, rfl, rfl⟩
theorem ft26_1 : FieldT Try.prog 26 1 1 3 := ⟨_, _, Try.underlying26, rfl, rfl, rfl⟩
theorem bt63 : ∀ parts, Try.prog.built 63 parts = Instr.fill (fun i => (#[(0, 1), (1, 2)] : Array (Nat × Nat))[i]?) (AV.denL (fun _ => undef) [vi 0, vi 0, vi 0]).toArray parts := fun _ => by kernel_rfl
def en_api_ChimeCam : Int × Int × Int → List D := fun x => [D.v (.int .i64 x.1), D.v (.int .i64 x.2.1), D.v (.int .i64 x.2.2)]
theorem sl64 : SlT Try.prog 64 63 3 24 := ⟨Try.underlying64, ⟨Try.t63, _, by kernel_rfl, rfl, rfl, rfl, rfl⟩, by decide⟩
def fe_funcapi_ChimeCam_bool : Int × Int × Int → List AV := fun a => [.agg [vi a.1, vi a.2.1, vi a.2.2]]
def fd_funcapi_ChimeCam_bool : Bool → AV := fun b => vb b
theorem vt63 : VarT Try.prog 63 3 true := ⟨Try.isAgg63, Try.sizeOf63⟩
theorem bt197 : ∀ parts, Try.prog.built 197 parts = Instr.fill (fun i => (#[(0, 3)] : Array (Nat × Nat))[i]?) (AV.denL (fun _ => undef) [vi 0, vi 0, vi 0]).toArray parts := fun _ => by kernel_rfl
theorem ft197_0 : FieldT Try.prog 197 0 0 63 := ⟨_, _, Try.underlying197, rfl, rfl, rfl⟩
theorem ft63_0 : FieldT Try.prog 63 0 0 3 := ⟨_, _, Try.underlying63, rfl, rfl, rfl⟩
theorem ft63_1 : FieldT Try.prog 63 1 1 34 := ⟨_, _, Try.underlying63, rfl, rfl, rfl⟩
theorem vt34 : VarT Try.prog 34 2 true := ⟨Try.isAgg34, Try.sizeOf34⟩
theorem ft34_0 : FieldT Try.prog 34 0 0 3 := ⟨_, _, Try.underlying34, rfl, rfl, rfl⟩
theorem ft34_1 : FieldT Try.prog 34 1 1 3 := ⟨_, _, Try.underlying34, rfl, rfl, rfl⟩
theorem bt70 : ∀ parts, Try.prog.built 70 parts = Instr.fill (fun i => (#[(0, 1), (1, 1)] : Array (Nat × Nat))[i]?) (AV.denL (fun _ => undef) [.val (.slice none 0 0), .val (.slice none 0 0)]).toArray parts := fun _ => by kernel_rfl
def en_api_Train : (List Int) × (List Int) → List D := fun x => [D.s 1 (List.map en_int x.1), D.s 1 (List.map en_int x.2)]
theorem vt70 : VarT Try.prog 70 2 true := ⟨Try.isAgg70, Try.sizeOf70⟩
theorem ft70_0 : FieldT Try.prog 70 0 0 50 := ⟨_, _, Try.underlying70, rfl, rfl, rfl⟩
theorem vt50 : VarT Try.prog 50 1 false := ⟨Try.isAgg50, Try.sizeOf50⟩
theorem ft70_1 : FieldT Try.prog 70 1 1 50 := ⟨_, _, Try.underlying70, rfl, rfl, rfl⟩
theorem bt429 : ∀ parts, Try.prog.built 429 parts = Instr.fill (fun i => some (i * 1, 1)) (AV.denL (fun _ => undef) [.val (.slice none 0 0), .val (.slice none 0 0)]).toArray parts := fun _ => by kernel_rfl
theorem vt429 : VarT Try.prog 429 2 true := ⟨Try.isAgg429, Try.sizeOf429⟩
theorem bt207 : ∀ parts, Try.prog.built 207 parts = Instr.fill (fun i => (#[(0, 2), (2, 2)] : Array (Nat × Nat))[i]?) (AV.denL (fun _ => undef) [.val (.slice none 0 0), .val (.slice none 0 0), vi 0, vi 0]).toArray parts := fun _ => by kernel_rfl
theorem vt207 : VarT Try.prog 207 4 true := ⟨Try.isAgg207, Try.sizeOf207⟩
def mk341 : Int → Value := fun k => .int .i64 k
theorem km341 : MKey Try.prog 341 3 346 mk341 := mkey_int Try.underlying341 Try.underlying3
def en_Lint : (List Int) → List D := fun x => [D.s 1 (List.map en_int x)]
def en_LLint : (LL) → List D := fun x => [D.s 1 (List.map en_Lint x)]
theorem vt341 : VarT Try.prog 341 1 false := ⟨Try.isAgg341, Try.sizeOf341⟩
theorem ft207_0 : FieldT Try.prog 207 0 0 70 := ⟨_, _, Try.underlying207, rfl, rfl, rfl⟩
theorem vt431 : VarT Try.prog 431 1 false := ⟨Try.isAgg431, Try.sizeOf431⟩
def ye_functrain_counts_bool : (List Int) × Int → List AV := fun a => [.agg [.ref 900, vi a.2]]
def yn_functrain_counts_bool : (List Int) × Int → List NEnt := fun a => [.ro 900 1 (List.map en_int a.1)]
theorem bt345 : ∀ parts, Try.prog.built 345 parts = Instr.fill (fun i => (#[(0, 1), (1, 1)] : Array (Nat × Nat))[i]?) (AV.denL (fun _ => undef) [.val (.slice none 0 0), vi 0]).toArray parts := fun _ => by kernel_rfl
theorem ft345_0 : FieldT Try.prog 345 0 0 50 := ⟨_, _, Try.underlying345, rfl, rfl, rfl⟩
theorem vt345 : VarT Try.prog 345 2 true := ⟨Try.isAgg345, Try.sizeOf345⟩
theorem ft345_1 : FieldT Try.prog 345 1 1 3 := ⟨_, _, Try.underlying345, rfl, rfl, rfl⟩
theorem sl346 : SlT Try.prog 346 50 1 24 := ⟨Try.underlying346, ⟨Try.t50, _, by kernel_rfl, rfl, rfl, rfl, rfl⟩, by decide⟩
theorem ft207_1 : FieldT Try.prog 207 1 2 26 := ⟨_, _, Try.underlying207, rfl, rfl, rfl⟩
theorem vt71 : VarT Try.prog 71 1 false := ⟨Try.isAgg71, Try.sizeOf71⟩
theorem bt74 : ∀ parts, Try.prog.built 74 parts = Instr.fill (fun i => (#[(0, 1), (1, 1)] : Array (Nat × Nat))[i]?) (AV.denL (fun _ => undef) [.val (.slice none 0 0), .val (.slice none 0 0)]).toArray parts := fun _ => by kernel_rfl
theorem sl71 : SlT Try.prog 71 74 2 48 := ⟨Try.underlying71, ⟨Try.t74, _, by kernel_rfl, rfl, rfl, rfl, rfl⟩, by decide⟩
theorem eq26 (a0 : Int) (a1 : Int) (b0 : Int) (b1 : Int) : EqT Try.prog 26 [.int .i64 a0, .int .i64 a1] [.int .i64 b0, .int .i64 b1] (((a0 == b0) && (a1 == b1))) := ⟨Try.eqGuardType26, fun w => by
  simp [go_sem, Try.underlying26, Try.underlying3, Try.isAgg26, Try.isAgg3, Try.sizeOf26, Try.sizeOf3, Try.stoodInHeld26]
  (repeat' split) <;> simp_all⟩
theorem ft74_0 : FieldT Try.prog 74 0 0 50 := ⟨_, _, Try.underlying74, rfl, rfl, rfl⟩
theorem ft74_1 : FieldT Try.prog 74 1 1 50 := ⟨_, _, Try.underlying74, rfl, rfl, rfl⟩
theorem bt34 : ∀ parts, Try.prog.built 34 parts = Instr.fill (fun i => (#[(0, 1), (1, 1)] : Array (Nat × Nat))[i]?) (AV.denL (fun _ => undef) [vi 0, vi 0]).toArray parts := fun _ => by kernel_rfl
theorem bt201 : ∀ parts, Try.prog.built 201 parts = Instr.fill (fun i => (#[(0, 1), (1, 1)] : Array (Nat × Nat))[i]?) (AV.denL (fun _ => undef) [vi 0, vi 0]).toArray parts := fun _ => by kernel_rfl
def en_api_ChimeBlow : Int × Int → List D := fun x => [D.v (.int .i64 x.1), D.v (.int .i64 x.2)]
theorem sl138 : SlT Try.prog 138 201 2 16 := ⟨Try.underlying138, ⟨Try.t201, _, by kernel_rfl, rfl, rfl, rfl, rfl⟩, by decide⟩
theorem bt203 : ∀ parts, Try.prog.built 203 parts = Instr.fill (fun i => (#[(0, 1), (1, 1)] : Array (Nat × Nat))[i]?) (AV.denL (fun _ => undef) [vi 0, .val (.slice none 0 0)]).toArray parts := fun _ => by kernel_rfl
theorem vt203 : VarT Try.prog 203 2 true := ⟨Try.isAgg203, Try.sizeOf203⟩
def en_api_ChimeHammer : Int × Int → List D := fun x => [D.v (.int .i64 x.1), D.v (.int .i64 x.2)]
theorem en_api_ChimeHammer_flat : ∀ a, ∀ d ∈ en_api_ChimeHammer a, ∃ x, d = D.v x := by
  intro a d h;simp only [en_api_ChimeHammer, List.mem_cons, List.not_mem_nil, or_false] at h;rcases h with rfl | rfl <;> exact ⟨_, rfl⟩
theorem bt333 : ∀ parts, Try.prog.built 333 parts = Instr.fill (fun i => (#[(0, 2), (2, 1)] : Array (Nat × Nat))[i]?) (AV.denL (fun _ => undef) [vi 0, .val (.slice none 0 0), vi 0]).toArray parts := fun _ => by kernel_rfl
theorem vt333 : VarT Try.prog 333 3 true := ⟨Try.isAgg333, Try.sizeOf333⟩
theorem ft333_0 : FieldT Try.prog 333 0 0 203 := ⟨_, _, Try.underlying333, rfl, rfl, rfl⟩
theorem ft203_0 : FieldT Try.prog 203 0 0 3 := ⟨_, _, Try.underlying203, rfl, rfl, rfl⟩
theorem ft203_1 : FieldT Try.prog 203 1 1 138 := ⟨_, _, Try.underlying203, rfl, rfl, rfl⟩
theorem vt138 : VarT Try.prog 138 1 false := ⟨Try.isAgg138, Try.sizeOf138⟩
def fe_funcapi_ChimeBlow_bool : Int × Int → List AV := fun a => [.agg [vi a.1, vi a.2]]
def fd_funcapi_ChimeBlow_bool : Bool → AV := fun b => vb b
theorem vt201 : VarT Try.prog 201 2 true := ⟨Try.isAgg201, Try.sizeOf201⟩
theorem ft201_0 : FieldT Try.prog 201 0 0 3 := ⟨_, _, Try.underlying201, rfl, rfl, rfl⟩
theorem ft201_1 : FieldT Try.prog 201 1 1 3 := ⟨_, _, Try.underlying201, rfl, rfl, rfl⟩
def mk494 : Int × Int → Value := fun k => .agg #[.int .i64 k.1, .int .i64 k.2]
theorem kc494 (b : Bool) (k : Int × Int) (w : World) (n : Nat) : (Instr.checkKey b (n + 2) 201 (mk494 k)).run Try.prog w = .ok () w := by
  simp [mk494, Instr.checkKey, go_sem, Try.underlying201, Try.underlying3, Try.isAgg201, Try.isAgg3, Try.sizeOf201, Try.sizeOf3, Try.stoodInHeld201]
theorem eq201 (a0 : Int) (a1 : Int) (b0 : Int) (b1 : Int) : EqT Try.prog 201 [.int .i64 a0, .int .i64 a1] [.int .i64 b0, .int .i64 b1] (((a0 == b0) && (a1 == b1))) := ⟨Try.eqGuardType201, fun w => by
  simp [go_sem, Try.underlying201, Try.underlying3, Try.isAgg201, Try.isAgg3, Try.sizeOf201, Try.sizeOf3, Try.stoodInHeld201]
  (repeat' split) <;> simp_all⟩
theorem kq494 (k k' : Int × Int) (w : World) : (Op.equal 201 (mk494 k) (mk494 k')).run Try.prog w = .ok (k == k') w := by
  have h := (eq201 (k.1) (k.2) ((k').1) ((k').2)).2 w;show (Op.equalIn 10000 201 _ _).run Try.prog w = _;simp only [mk494];exact h
theorem km494 : MKey Try.prog 494 201 4 mk494 := mkey_agg2 Try.underlying494 Try.underlying201 (fun k es i => findNow_struct k es i) (fun b k w => kc494 b k w 9998) kq494 (fun k => by simp [mk494, Instr.sameBits])
def en_bool : Bool → List D := fun x => [D.v (.bool x)]
def mk424 : Int → Value := fun k => .int .i64 k
theorem km424 : MKey Try.prog 424 3 50 mk424 := mkey_int Try.underlying424 Try.underlying3
def kl424 : Int → Int → Bool := fun a b => decide (a < b)
theorem ft333_1 : FieldT Try.prog 333 1 2 3 := ⟨_, _, Try.underlying333, rfl, rfl, rfl⟩
theorem vt335 : VarT Try.prog 335 16 true := ⟨Try.isAgg335, Try.sizeOf335⟩
theorem bt428 : ∀ parts, Try.prog.built 428 parts = Instr.fill (fun i => (#[(0, 3), (3, 1), (4, 1)] : Array (Nat × Nat))[i]?) (AV.denL (fun _ => undef) [vi 0, .val (.slice none 0 0), vi 0, .val (.slice none 0 0), .val (.slice none 0 0)]).toArray parts := fun _ => by kernel_rfl
def vx_int : Int → List Value := fun x => [.int .i64 x]
theorem ft428_2 : FieldT Try.prog 428 2 4 50 := ⟨_, _, Try.underlying428, rfl, rfl, rfl⟩
theorem ft428_1 : FieldT Try.prog 428 1 3 50 := ⟨_, _, Try.underlying428, rfl, rfl, rfl⟩
theorem ft428_0 : FieldT Try.prog 428 0 0 333 := ⟨_, _, Try.underlying428, rfl, rfl, rfl⟩
theorem vt338 : VarT Try.prog 338 16 true := ⟨Try.isAgg338, Try.sizeOf338⟩
theorem bt266 : ∀ parts, Try.prog.built 266 parts = Instr.fill (fun i => (#[(0, 1), (1, 1)] : Array (Nat × Nat))[i]?) (AV.denL (fun _ => undef) [vi 0, vi 0]).toArray parts := fun _ => by kernel_rfl
theorem sl133 : SlT Try.prog 133 266 2 16 := ⟨Try.underlying133, ⟨Try.t266, _, by kernel_rfl, rfl, rfl, rfl, rfl⟩, by decide⟩
def ev_slices_IndexFunc_Lapi_TrainPair_api_TrainPair_l0 (n : Nat) (s1 : List (Int × Int)) (f2 : (Int × Int) → Option Bool) : Nat → Int → Option Int
  | 0, _ => none
  | m + 1, i3 => cond (decide (i3 < (s1.length : Int))) (idx s1 i3 fun x4 => (f2 (x4.1, x4.2)).bind fun r5 => cond r5 (some i3) (chk (in64 (i3 + 1)) <| ev_slices_IndexFunc_Lapi_TrainPair_api_TrainPair_l0 n s1 f2 m (i3 + 1))) (some (-1))
theorem ok_slices_IndexFunc_Lapi_TrainPair_api_TrainPair_l0 {n : Nat} {w0 : World} {R0 : Nat → Prop} {env0 : Env} {r : Int} {s1 : List (Int × Int)} {f2 : (Int × Int) → Option Bool} : ∀ (m : Nat) (i3 : Int), ev_slices_IndexFunc_Lapi_TrainPair_api_TrainPair_l0 n s1 f2 m i3 = some r → TC Try.prog ⟨w0, fun _ => False, R0⟩ 19 (bodyPost Try.prog Try.f235 (Post ⟨w0, fun _ => False, R0⟩ env0 (vi r) [])) [.code (sub (bodyOf Try.f235) [1, 0, 1, 0, 0, 0]), .code (sub (bodyOf Try.f235) [1, 0, 1, 0, 0, 1]), .inLoop (sub (bodyOf Try.f235) [1, 0, 1, 0, 0]), .inBlock 0, .code (sub (bodyOf Try.f235) [1, 1])] ([(0, .ref 0), (1, .ref 1), (7, vi (s1.length : Int)), (8, vi i3)]) ([.ro 0 2 (List.map en_api_TrainPair s1), .any 1 (D.fn Try.prog fe_funcapi_TrainPair_bool fd_funcapi_TrainPair_bool f2)]) := by
  intro m
  induction m with
  | zero => intro i3 h; exact none_no h
  | succ m ih =>
    intro i3 h;rw [ev_slices_IndexFunc_Lapi_TrainPair_api_TrainPair_l0] at h;refine TC.region ?_;refine q0 (sp_lss rfl rfl rfl) ?_;refine TL.nil ?_;refine TC.seq ?_;refine TC.cond (b := (decide (i3 < (s1.length : Int)))) rfl (fun h1 => ?_) (fun h1 => ?_)
    · have h := cond_t h h1;refine TC.skip ?_;refine TC.seq ?_;refine TC.block ?_;refine tr ?_;refine qm ?_;refine qa ?_;refine TL.nil ?_;refine tr ?_;refine qm ?_;refine qm ?_;refine qm ?_;obtain ⟨x4, h2, h3, h⟩ := idx_inv h;refine q1 0 rfl (sp_indexS rfl rfl rfl isRo sl23 h2 (map_get _ h3)) ?_;refine q1 0 rfl (sp_loadRA (i := (i3 : Int).toNat) (j := 0) (as_ := [vi x4.1, vi x4.2]) (ns := []) rfl rfl isRo vt61 rfl (map_get _ h3) rfl rfl (by decide) (.v (.v (.nil))) (nodup_of_B rfl)) ?_;obtain ⟨r5, h4, h⟩ := bind_inv h;refine q1 1 rfl (sp_callF (avs := [.agg [vi x4.1, vi x4.2]]) (v := vb r5) (x4.1, x4.2) rfl rfl rfl rfl rfl h4) ?_;refine TL.nil ?_;refine TC.cond (b := r5) rfl (fun h5 => ?_) (fun h5 => ?_)
      · have h := cond_t h h5;refine tr ?_;refine qm ?_;refine qa ?_;refine TL.nil ?_;cases h;exact retJ [] (.tmp rfl .nil) rfl trivial rfl rfl
      · have h := cond_f h h5;refine TC.skip ?_;refine TC.inBlock ?_;refine TC.region ?_;obtain ⟨h6, h⟩ := chk_inv h;refine q0 (sp_add rfl rfl rfl h6) ?_;refine qm ?_;refine TL.nil ?_;refine TC.inLoop ?_;refine TC.seq ?_;refine subJ [] (ih _ h) ?_ ?_ ?_
        · exact ⟨rfl, rfl, rfl, rfl, trivial⟩
        · exact ⟨mem_at 0 rfl, mem_at 1 rfl, trivial⟩
        · rfl
    · have h := cond_f h h1;refine TC.exit rfl ?_;refine tr ?_;refine qa ?_;refine TL.nil ?_;cases h;exact retJ [] (.tmp rfl .nil) rfl trivial rfl rfl
def ev_slices_IndexFunc_Lapi_TrainPair_api_TrainPair (n : Nat) (s1 : List (Int × Int)) (f2 : (Int × Int) → Option Bool) : Option Int :=
  ev_slices_IndexFunc_Lapi_TrainPair_api_TrainPair_l0 n s1 f2 n 0
theorem fc_slices_IndexFunc_Lapi_TrainPair_api_TrainPair {n : Nat} {s1 : List (Int × Int)} {f2 : (Int × Int) → Option Bool} {r : Int} (h : ev_slices_IndexFunc_Lapi_TrainPair_api_TrainPair n s1 f2 = some r) : FC Try.prog 235 [.ref 0, .ref 1] [.ro 0 2 (List.map en_api_TrainPair s1), .any 1 (D.fn Try.prog fe_funcapi_TrainPair_bool fd_funcapi_TrainPair_bool f2)] (vi r) [] := by
  refine introJ (nz := 19) Try.func235 rfl rfl rfl (fun w0 R0 env0 => ?_)
  rw [ev_slices_IndexFunc_Lapi_TrainPair_api_TrainPair] at h;refine tr ?_;refine qa ?_;refine TL.nil ?_;refine TC.seq ?_;refine tr ?_;refine qm ?_;refine q1 0 rfl (sp_lenM (N := s1.length) (len_map _ _) rfl rfl isRo Try.underlying23) ?_;refine qm ?_;refine TL.nil ?_;refine TC.block ?_;refine TC.loop ?_;refine TC.seq ?_;refine subJ [] (ok_slices_IndexFunc_Lapi_TrainPair_api_TrainPair_l0 _ _ h) ?_ ?_ ?_
  · exact ⟨rfl, rfl, rfl, rfl, trivial⟩
  · exact ⟨mem_at 0 rfl, mem_at 1 rfl, trivial⟩
  · rfl
def ev_slices_ContainsFunc_Lapi_TrainPair_api_TrainPair (n : Nat) (s1 : List (Int × Int)) (f2 : (Int × Int) → Option Bool) : Option Bool :=
  (ev_slices_IndexFunc_Lapi_TrainPair_api_TrainPair n s1 f2).bind fun r3 => some (decide ((0 : Int) ≤ r3))
theorem fc_slices_ContainsFunc_Lapi_TrainPair_api_TrainPair {n : Nat} {s1 : List (Int × Int)} {f2 : (Int × Int) → Option Bool} {r : Bool} (h : ev_slices_ContainsFunc_Lapi_TrainPair_api_TrainPair n s1 f2 = some r) : FC Try.prog 138 [.ref 0, .ref 1] [.ro 0 2 (List.map en_api_TrainPair s1), .any 1 (D.fn Try.prog fe_funcapi_TrainPair_bool fd_funcapi_TrainPair_bool f2)] (vb r) [] := by
  refine introJ (nz := 9) Try.func138 rfl rfl rfl (fun w0 R0 env0 => ?_)
  rw [ev_slices_ContainsFunc_Lapi_TrainPair_api_TrainPair] at h;refine tr ?_;refine qa ?_;refine TL.nil ?_;refine tr ?_;refine qm ?_;refine qm ?_;obtain ⟨r3, h1, h⟩ := bind_inv h;refine opN (need := [.ro 0 2 (List.map en_api_TrainPair s1), .any 1 (D.fn Try.prog fe_funcapi_TrainPair_bool fd_funcapi_TrainPair_bool f2)]) [0, 1] ⟨rfl, rfl, trivial⟩ (sp_call (avs := [.ref 0, .ref 1]) (need := [.ro 0 2 (List.map en_api_TrainPair s1), .any 1 (D.fn Try.prog fe_funcapi_TrainPair_bool fd_funcapi_TrainPair_bool f2)]) (v := vi r3) (news := []) rfl rfl rfl Try.call235 (atJ [] [] (fc_slices_IndexFunc_Lapi_TrainPair_api_TrainPair h1) rfl rfl) (.inl (roAll rfl))) rfl trivial rfl rfl ?_;refine q0 (sp_geq rfl rfl rfl) ?_;refine qa ?_;refine TL.nil ?_;cases h;exact retJ [] (.tmp rfl .nil) rfl trivial rfl rfl
def ev_slices_IndexFunc_Lint_int_l0 (n : Nat) (s1 : List Int) (f2 : Int → Option Bool) : Nat → Int → Option Int
  | 0, _ => none
  | m + 1, i3 => cond (decide (i3 < (s1.length : Int))) (idx s1 i3 fun x4 => (f2 x4).bind fun r5 => cond r5 (some i3) (chk (in64 (i3 + 1)) <| ev_slices_IndexFunc_Lint_int_l0 n s1 f2 m (i3 + 1))) (some (-1))
theorem ok_slices_IndexFunc_Lint_int_l0 {n : Nat} {w0 : World} {R0 : Nat → Prop} {env0 : Env} {r : Int} {s1 : List Int} {f2 : Int → Option Bool} : ∀ (m : Nat) (i3 : Int), ev_slices_IndexFunc_Lint_int_l0 n s1 f2 m i3 = some r → TC Try.prog ⟨w0, fun _ => False, R0⟩ 19 (bodyPost Try.prog Try.f237 (Post ⟨w0, fun _ => False, R0⟩ env0 (vi r) [])) [.code (sub (bodyOf Try.f237) [1, 0, 1, 0, 0, 0]), .code (sub (bodyOf Try.f237) [1, 0, 1, 0, 0, 1]), .inLoop (sub (bodyOf Try.f237) [1, 0, 1, 0, 0]), .inBlock 0, .code (sub (bodyOf Try.f237) [1, 1])] ([(0, .ref 0), (1, .ref 1), (7, vi (s1.length : Int)), (8, vi i3)]) ([.ro 0 1 (List.map en_int s1), .any 1 (D.fn Try.prog fe_funcint_bool fd_funcint_bool f2)]) := by
  intro m
  induction m with
  | zero => intro i3 h; exact none_no h
  | succ m ih =>
    intro i3 h;rw [ev_slices_IndexFunc_Lint_int_l0] at h;refine TC.region ?_;refine q0 (sp_lss rfl rfl rfl) ?_;refine TL.nil ?_;refine TC.seq ?_;refine TC.cond (b := (decide (i3 < (s1.length : Int)))) rfl (fun h1 => ?_) (fun h1 => ?_)
    · have h := cond_t h h1;refine TC.skip ?_;refine TC.seq ?_;refine TC.block ?_;refine tr ?_;refine qm ?_;refine qa ?_;refine TL.nil ?_;refine tr ?_;refine qm ?_;refine qm ?_;refine qm ?_;obtain ⟨x4, h2, h3, h⟩ := idx_inv h;refine q1 0 rfl (sp_indexS rfl rfl rfl isRo sl50 h2 (map_get _ h3)) ?_;refine q1 0 rfl (sp_loadR (i := (i3 : Int).toNat) (j := 0) rfl rfl isRo vt3 rfl (map_get _ h3) rfl (.v (.nil)) (nodup_of_B rfl)) ?_;obtain ⟨r5, h4, h⟩ := bind_inv h;refine q1 1 rfl (sp_callF (avs := [vi x4]) (v := vb r5) x4 rfl rfl rfl rfl rfl h4) ?_;refine TL.nil ?_;refine TC.cond (b := r5) rfl (fun h5 => ?_) (fun h5 => ?_)
      · have h := cond_t h h5;refine tr ?_;refine qm ?_;refine qa ?_;refine TL.nil ?_;cases h;exact retJ [] (.tmp rfl .nil) rfl trivial rfl rfl
      · have h := cond_f h h5;refine TC.skip ?_;refine TC.inBlock ?_;refine TC.region ?_;obtain ⟨h6, h⟩ := chk_inv h;refine q0 (sp_add rfl rfl rfl h6) ?_;refine qm ?_;refine TL.nil ?_;refine TC.inLoop ?_;refine TC.seq ?_;refine subJ [] (ih _ h) ?_ ?_ ?_
        · exact ⟨rfl, rfl, rfl, rfl, trivial⟩
        · exact ⟨mem_at 0 rfl, mem_at 1 rfl, trivial⟩
        · rfl
    · have h := cond_f h h1;refine TC.exit rfl ?_;refine tr ?_;refine qa ?_;refine TL.nil ?_;cases h;exact retJ [] (.tmp rfl .nil) rfl trivial rfl rfl
def ev_slices_IndexFunc_Lint_int (n : Nat) (s1 : List Int) (f2 : Int → Option Bool) : Option Int :=
  ev_slices_IndexFunc_Lint_int_l0 n s1 f2 n 0
theorem fc_slices_IndexFunc_Lint_int {n : Nat} {s1 : List Int} {f2 : Int → Option Bool} {r : Int} (h : ev_slices_IndexFunc_Lint_int n s1 f2 = some r) : FC Try.prog 237 [.ref 0, .ref 1] [.ro 0 1 (List.map en_int s1), .any 1 (D.fn Try.prog fe_funcint_bool fd_funcint_bool f2)] (vi r) [] := by
  refine introJ (nz := 19) Try.func237 rfl rfl rfl (fun w0 R0 env0 => ?_)
  rw [ev_slices_IndexFunc_Lint_int] at h;refine tr ?_;refine qa ?_;refine TL.nil ?_;refine TC.seq ?_;refine tr ?_;refine qm ?_;refine q1 0 rfl (sp_lenM (N := s1.length) (len_map _ _) rfl rfl isRo Try.underlying50) ?_;refine qm ?_;refine TL.nil ?_;refine TC.block ?_;refine TC.loop ?_;refine TC.seq ?_;refine subJ [] (ok_slices_IndexFunc_Lint_int_l0 _ _ h) ?_ ?_ ?_
  · exact ⟨rfl, rfl, rfl, rfl, trivial⟩
  · exact ⟨mem_at 0 rfl, mem_at 1 rfl, trivial⟩
  · rfl
def ev_slices_ContainsFunc_Lint_int (n : Nat) (s1 : List Int) (f2 : Int → Option Bool) : Option Bool :=
  (ev_slices_IndexFunc_Lint_int n s1 f2).bind fun r3 => some (decide ((0 : Int) ≤ r3))
theorem fc_slices_ContainsFunc_Lint_int {n : Nat} {s1 : List Int} {f2 : Int → Option Bool} {r : Bool} (h : ev_slices_ContainsFunc_Lint_int n s1 f2 = some r) : FC Try.prog 142 [.ref 0, .ref 1] [.ro 0 1 (List.map en_int s1), .any 1 (D.fn Try.prog fe_funcint_bool fd_funcint_bool f2)] (vb r) [] := by
  refine introJ (nz := 9) Try.func142 rfl rfl rfl (fun w0 R0 env0 => ?_)
  rw [ev_slices_ContainsFunc_Lint_int] at h;refine tr ?_;refine qa ?_;refine TL.nil ?_;refine tr ?_;refine qm ?_;refine qm ?_;obtain ⟨r3, h1, h⟩ := bind_inv h;refine opN (need := [.ro 0 1 (List.map en_int s1), .any 1 (D.fn Try.prog fe_funcint_bool fd_funcint_bool f2)]) [0, 1] ⟨rfl, rfl, trivial⟩ (sp_call (avs := [.ref 0, .ref 1]) (need := [.ro 0 1 (List.map en_int s1), .any 1 (D.fn Try.prog fe_funcint_bool fd_funcint_bool f2)]) (v := vi r3) (news := []) rfl rfl rfl Try.call237 (atJ [] [] (fc_slices_IndexFunc_Lint_int h1) rfl rfl) (.inl (roAll rfl))) rfl trivial rfl rfl ?_;refine q0 (sp_geq rfl rfl rfl) ?_;refine qa ?_;refine TL.nil ?_;cases h;exact retJ [] (.tmp rfl .nil) rfl trivial rfl rfl
def ev_slices_IndexFunc_Lapi_ChimeCam_api_ChimeCam_l0 (n : Nat) (s1 : List (Int × Int × Int)) (f2 : (Int × Int × Int) → Option Bool) : Nat → Int → Option Int
  | 0, _ => none
  | m + 1, i3 => cond (decide (i3 < (s1.length : Int))) (idx s1 i3 fun x4 => (f2 (x4.1, x4.2.1, x4.2.2)).bind fun r5 => cond r5 (some i3) (chk (in64 (i3 + 1)) <| ev_slices_IndexFunc_Lapi_ChimeCam_api_ChimeCam_l0 n s1 f2 m (i3 + 1))) (some (-1))
theorem ok_slices_IndexFunc_Lapi_ChimeCam_api_ChimeCam_l0 {n : Nat} {w0 : World} {R0 : Nat → Prop} {env0 : Env} {r : Int} {s1 : List (Int × Int × Int)} {f2 : (Int × Int × Int) → Option Bool} : ∀ (m : Nat) (i3 : Int), ev_slices_IndexFunc_Lapi_ChimeCam_api_ChimeCam_l0 n s1 f2 m i3 = some r → TC Try.prog ⟨w0, fun _ => False, R0⟩ 19 (bodyPost Try.prog Try.f153 (Post ⟨w0, fun _ => False, R0⟩ env0 (vi r) [])) [.code (sub (bodyOf Try.f153) [1, 0, 1, 0, 0, 0]), .code (sub (bodyOf Try.f153) [1, 0, 1, 0, 0, 1]), .inLoop (sub (bodyOf Try.f153) [1, 0, 1, 0, 0]), .inBlock 0, .code (sub (bodyOf Try.f153) [1, 1])] ([(0, .ref 0), (1, .ref 1), (7, vi (s1.length : Int)), (8, vi i3)]) ([.ro 0 3 (List.map en_api_ChimeCam s1), .any 1 (D.fn Try.prog fe_funcapi_ChimeCam_bool fd_funcapi_ChimeCam_bool f2)]) := by
  intro m
  induction m with
  | zero => intro i3 h; exact none_no h
  | succ m ih =>
    intro i3 h;rw [ev_slices_IndexFunc_Lapi_ChimeCam_api_ChimeCam_l0] at h;refine TC.region ?_;refine q0 (sp_lss rfl rfl rfl) ?_;refine TL.nil ?_;refine TC.seq ?_;refine TC.cond (b := (decide (i3 < (s1.length : Int)))) rfl (fun h1 => ?_) (fun h1 => ?_)
    · have h := cond_t h h1;refine TC.skip ?_;refine TC.seq ?_;refine TC.block ?_;refine tr ?_;refine qm ?_;refine qa ?_;refine TL.nil ?_;refine tr ?_;refine qm ?_;refine qm ?_;refine qm ?_;obtain ⟨x4, h2, h3, h⟩ := idx_inv h;refine q1 0 rfl (sp_indexS rfl rfl rfl isRo sl64 h2 (map_get _ h3)) ?_;refine q1 0 rfl (sp_loadRA (i := (i3 : Int).toNat) (j := 0) (as_ := [vi x4.1, vi x4.2.1, vi x4.2.2]) (ns := []) rfl rfl isRo vt63 rfl (map_get _ h3) rfl rfl (by decide) (.v (.v (.v (.nil)))) (nodup_of_B rfl)) ?_;obtain ⟨r5, h4, h⟩ := bind_inv h;refine q1 1 rfl (sp_callF (avs := [.agg [vi x4.1, vi x4.2.1, vi x4.2.2]]) (v := vb r5) (x4.1, x4.2.1, x4.2.2) rfl rfl rfl rfl rfl h4) ?_;refine TL.nil ?_;refine TC.cond (b := r5) rfl (fun h5 => ?_) (fun h5 => ?_)
      · have h := cond_t h h5;refine tr ?_;refine qm ?_;refine qa ?_;refine TL.nil ?_;cases h;exact retJ [] (.tmp rfl .nil) rfl trivial rfl rfl
      · have h := cond_f h h5;refine TC.skip ?_;refine TC.inBlock ?_;refine TC.region ?_;obtain ⟨h6, h⟩ := chk_inv h;refine q0 (sp_add rfl rfl rfl h6) ?_;refine qm ?_;refine TL.nil ?_;refine TC.inLoop ?_;refine TC.seq ?_;refine subJ [] (ih _ h) ?_ ?_ ?_
        · exact ⟨rfl, rfl, rfl, rfl, trivial⟩
        · exact ⟨mem_at 0 rfl, mem_at 1 rfl, trivial⟩
        · rfl
    · have h := cond_f h h1;refine TC.exit rfl ?_;refine tr ?_;refine qa ?_;refine TL.nil ?_;cases h;exact retJ [] (.tmp rfl .nil) rfl trivial rfl rfl
def ev_slices_IndexFunc_Lapi_ChimeCam_api_ChimeCam (n : Nat) (s1 : List (Int × Int × Int)) (f2 : (Int × Int × Int) → Option Bool) : Option Int :=
  ev_slices_IndexFunc_Lapi_ChimeCam_api_ChimeCam_l0 n s1 f2 n 0
theorem fc_slices_IndexFunc_Lapi_ChimeCam_api_ChimeCam {n : Nat} {s1 : List (Int × Int × Int)} {f2 : (Int × Int × Int) → Option Bool} {r : Int} (h : ev_slices_IndexFunc_Lapi_ChimeCam_api_ChimeCam n s1 f2 = some r) : FC Try.prog 153 [.ref 0, .ref 1] [.ro 0 3 (List.map en_api_ChimeCam s1), .any 1 (D.fn Try.prog fe_funcapi_ChimeCam_bool fd_funcapi_ChimeCam_bool f2)] (vi r) [] := by
  refine introJ (nz := 19) Try.func153 rfl rfl rfl (fun w0 R0 env0 => ?_)
  rw [ev_slices_IndexFunc_Lapi_ChimeCam_api_ChimeCam] at h;refine tr ?_;refine qa ?_;refine TL.nil ?_;refine TC.seq ?_;refine tr ?_;refine qm ?_;refine q1 0 rfl (sp_lenM (N := s1.length) (len_map _ _) rfl rfl isRo Try.underlying64) ?_;refine qm ?_;refine TL.nil ?_;refine TC.block ?_;refine TC.loop ?_;refine TC.seq ?_;refine subJ [] (ok_slices_IndexFunc_Lapi_ChimeCam_api_ChimeCam_l0 _ _ h) ?_ ?_ ?_
  · exact ⟨rfl, rfl, rfl, rfl, trivial⟩
  · exact ⟨mem_at 0 rfl, mem_at 1 rfl, trivial⟩
  · rfl
def ev_slices_ContainsFunc_Lapi_ChimeCam_api_ChimeCam (n : Nat) (s1 : List (Int × Int × Int)) (f2 : (Int × Int × Int) → Option Bool) : Option Bool :=
  (ev_slices_IndexFunc_Lapi_ChimeCam_api_ChimeCam n s1 f2).bind fun r3 => some (decide ((0 : Int) ≤ r3))
theorem fc_slices_ContainsFunc_Lapi_ChimeCam_api_ChimeCam {n : Nat} {s1 : List (Int × Int × Int)} {f2 : (Int × Int × Int) → Option Bool} {r : Bool} (h : ev_slices_ContainsFunc_Lapi_ChimeCam_api_ChimeCam n s1 f2 = some r) : FC Try.prog 73 [.ref 0, .ref 1] [.ro 0 3 (List.map en_api_ChimeCam s1), .any 1 (D.fn Try.prog fe_funcapi_ChimeCam_bool fd_funcapi_ChimeCam_bool f2)] (vb r) [] := by
  refine introJ (nz := 9) Try.func73 rfl rfl rfl (fun w0 R0 env0 => ?_)
  rw [ev_slices_ContainsFunc_Lapi_ChimeCam_api_ChimeCam] at h;refine tr ?_;refine qa ?_;refine TL.nil ?_;refine tr ?_;refine qm ?_;refine qm ?_;obtain ⟨r3, h1, h⟩ := bind_inv h;refine opN (need := [.ro 0 3 (List.map en_api_ChimeCam s1), .any 1 (D.fn Try.prog fe_funcapi_ChimeCam_bool fd_funcapi_ChimeCam_bool f2)]) [0, 1] ⟨rfl, rfl, trivial⟩ (sp_call (avs := [.ref 0, .ref 1]) (need := [.ro 0 3 (List.map en_api_ChimeCam s1), .any 1 (D.fn Try.prog fe_funcapi_ChimeCam_bool fd_funcapi_ChimeCam_bool f2)]) (v := vi r3) (news := []) rfl rfl rfl Try.call153 (atJ [] [] (fc_slices_IndexFunc_Lapi_ChimeCam_api_ChimeCam h1) rfl rfl) (.inl (roAll rfl))) rfl trivial rfl rfl ?_;refine q0 (sp_geq rfl rfl rfl) ?_;refine qa ?_;refine TL.nil ?_;cases h;exact retJ [] (.tmp rfl .nil) rfl trivial rfl rfl
def ev_top_pubRest (n : Nat) (nn1 : Int) (by_2 : Int) : Option Int :=
  chk (by_2 != 0) <| chk (in64 ((Int.tmod nn1 by_2) + by_2)) <| chk (by_2 != 0) <| some (Int.tmod ((Int.tmod nn1 by_2) + by_2) by_2)
theorem fc_top_pubRest {n : Nat} {nn1 : Int} {by_2 : Int} {r : Int} (h : ev_top_pubRest n nn1 by_2 = some r) : FC Try.prog 54 [vi nn1, vi by_2] [] (vi r) [] := by
  refine introJ (nz := 12) Try.func54 rfl rfl rfl (fun w0 R0 env0 => ?_)
  rw [ev_top_pubRest] at h;refine tr ?_;refine qa ?_;refine TL.nil ?_;refine tr ?_;refine qm ?_;refine qm ?_;obtain ⟨h1, h⟩ := chk_inv h;refine q0 (sp_rem rfl rfl rfl h1) ?_;refine qm ?_;obtain ⟨h2, h⟩ := chk_inv h;refine q0 (sp_add rfl rfl rfl h2) ?_;refine qm ?_;obtain ⟨h3, h⟩ := chk_inv h;refine q0 (sp_rem rfl rfl rfl h3) ?_;refine qa ?_;refine TL.nil ?_;cases h;exact retJ [] (.tmp rfl .nil) rfl trivial rfl rfl
def ev_top_pubDown (n : Nat) (nn1 : Int) (by_2 : Int) : Option Int :=
  (ev_top_pubRest n nn1 by_2).bind fun r3 => chk (in64 (nn1 - r3)) <| chk (by_2 != 0) <| chk (in64 (Int.tdiv (nn1 - r3) by_2)) <| some (Int.tdiv (nn1 - r3) by_2)
theorem fc_top_pubDown {n : Nat} {nn1 : Int} {by_2 : Int} {r : Int} (h : ev_top_pubDown n nn1 by_2 = some r) : FC Try.prog 21 [vi nn1, vi by_2] [] (vi r) [] := by
  refine introJ (nz := 12) Try.func21 rfl rfl rfl (fun w0 R0 env0 => ?_)
  rw [ev_top_pubDown] at h;refine tr ?_;refine qa ?_;refine TL.nil ?_;refine tr ?_;refine qm ?_;refine qm ?_;refine qm ?_;obtain ⟨r3, h1, h⟩ := bind_inv h;refine q0 (sp_call (avs := [vi nn1, vi by_2]) (need := []) (v := vi r3) (news := []) rfl rfl rfl Try.call54 (atJ [] [] (fc_top_pubRest h1) rfl rfl) (.inl (roAll rfl))) ?_;obtain ⟨h2, h⟩ := chk_inv h;refine q0 (sp_sub rfl rfl rfl h2) ?_;refine qm ?_;obtain ⟨h3, h⟩ := chk_inv h;obtain ⟨h4, h⟩ := chk_inv h;refine q0 (sp_quo rfl rfl rfl h3 h4) ?_;refine qa ?_;refine TL.nil ?_;cases h;exact retJ [] (.tmp rfl .nil) rfl trivial rfl rfl
def ev_top_pubUp (n : Nat) (nn1 : Int) (by_2 : Int) : Option Int :=
  chk (in64 (0 - nn1)) <| (ev_top_pubDown n (0 - nn1) by_2).bind fun r3 => chk (in64 (0 - r3)) <| some (0 - r3)
theorem fc_top_pubUp {n : Nat} {nn1 : Int} {by_2 : Int} {r : Int} (h : ev_top_pubUp n nn1 by_2 = some r) : FC Try.prog 22 [vi nn1, vi by_2] [] (vi r) [] := by
  refine introJ (nz := 10) Try.func22 rfl rfl rfl (fun w0 R0 env0 => ?_)
  rw [ev_top_pubUp] at h;refine tr ?_;refine qa ?_;refine TL.nil ?_;refine tr ?_;refine qm ?_;obtain ⟨h1, h⟩ := chk_inv h;refine q0 (sp_neg rfl rfl h1) ?_;refine qm ?_;obtain ⟨r3, h2, h⟩ := bind_inv h;refine q0 (sp_call (avs := [vi (0 - nn1), vi by_2]) (need := []) (v := vi r3) (news := []) rfl rfl rfl Try.call21 (atJ [] [] (fc_top_pubDown h2) rfl rfl) (.inl (roAll rfl))) ?_;obtain ⟨h3, h⟩ := chk_inv h;refine q0 (sp_neg rfl rfl h3) ?_;refine qa ?_;refine TL.nil ?_;cases h;exact retJ [] (.tmp rfl .nil) rfl trivial rfl rfl
def ev_cmp_isNaN_int (n : Nat) (x1 : Int) : Option Bool :=
  some (x1 != x1)
theorem fc_cmp_isNaN_int {n : Nat} {x1 : Int} {r : Bool} (h : ev_cmp_isNaN_int n x1 = some r) : FC Try.prog 300 [vi x1] [] (vb r) [] := by
  refine introJ (nz := 6) Try.func300 rfl rfl rfl (fun w0 R0 env0 => ?_)
  rw [ev_cmp_isNaN_int] at h;refine tr ?_;refine qa ?_;refine TL.nil ?_;refine tr ?_;refine qm ?_;refine qm ?_;refine q0 (sp_neq rfl rfl rfl) ?_;refine qa ?_;refine TL.nil ?_;cases h;exact retJ [] (.tmp rfl .nil) rfl trivial rfl rfl
def ev_cmp_Less_int (n : Nat) (x1 : Int) (y2 : Int) : Option Bool :=
  (ev_cmp_isNaN_int n x1).bind fun r3 => cond r3 ((ev_cmp_isNaN_int n y2).bind fun r4 => cond (!r4) (some true) (some (decide (x1 < y2)))) (some (decide (x1 < y2)))
theorem fc_cmp_Less_int {n : Nat} {x1 : Int} {y2 : Int} {r : Bool} (h : ev_cmp_Less_int n x1 y2 = some r) : FC Try.prog 309 [vi x1, vi y2] [] (vb r) [] := by
  refine introJ (nz := 17) Try.func309 rfl rfl rfl (fun w0 R0 env0 => ?_)
  rw [ev_cmp_Less_int] at h;refine tr ?_;refine qa ?_;refine TL.nil ?_;refine tr ?_;refine qm ?_;obtain ⟨r3, h1, h⟩ := bind_inv h;refine q0 (sp_call (avs := [vi x1]) (need := []) (v := vb r3) (news := []) rfl rfl rfl Try.call300 (atJ [] [] (fc_cmp_isNaN_int h1) rfl rfl) (.inl (roAll rfl))) ?_;refine qm ?_;rcases cond_cases h with ⟨h2, h⟩ | ⟨h2, h⟩
  · refine (boolLit 7 rfl h2).2 ?_;refine q3 (sp_move rfl rfl) ?_;obtain ⟨r4, h3, h⟩ := bind_inv h;refine q3 (sp_call (avs := [vi y2]) (need := []) (v := vb r4) (news := []) rfl rfl rfl Try.call300 (atJ [] [] (fc_cmp_isNaN_int h3) rfl rfl) (.inl (roAll rfl))) ?_;refine q3 (sp_not rfl rfl) ?_;refine q0 (sp_pickT rfl rfl rfl) ?_;refine qm ?_;rcases cond_cases h with ⟨h4, h⟩ | ⟨h4, h⟩
    · refine (boolLit 12 rfl h4).2 ?_;refine qs ?_;refine qs ?_;refine qs ?_;refine q0 (sp_pickT rfl rfl rfl) ?_;refine qa ?_;refine TL.nil ?_;cases h;exact retJ [] (.tmp rfl .nil) rfl trivial rfl rfl
    · refine (boolLit 12 rfl h4).2 ?_;refine q3 (sp_move rfl rfl) ?_;refine q3 (sp_move rfl rfl) ?_;refine q3 (sp_lss rfl rfl rfl) ?_;refine q0 (sp_pickF rfl rfl rfl) ?_;refine qa ?_;refine TL.nil ?_;cases h;exact retJ [] (.tmp rfl .nil) rfl trivial rfl rfl
  · refine (boolLit 7 rfl h2).2 ?_;refine qs ?_;refine qs ?_;refine qs ?_;refine q0 (sp_pickF rfl rfl rfl) ?_;refine qm ?_;refine q3 (sp_move rfl rfl) ?_;refine q3 (sp_move rfl rfl) ?_;refine q3 (sp_lss rfl rfl rfl) ?_;refine q0 (sp_pickF rfl rfl rfl) ?_;refine qa ?_;refine TL.nil ?_;cases h;exact retJ [] (.tmp rfl .nil) rfl trivial rfl rfl
def ev_slices_IsSorted_Lint_int_l0 (n : Nat) (x1 : List Int) : Nat → Int → Option Bool
  | 0, _ => none
  | m + 1, i2 => cond (decide ((0 : Int) < i2)) (idx x1 i2 fun x3 => chk (in64 (i2 - 1)) <| idx x1 (i2 - 1) fun x4 => (ev_cmp_Less_int n x3 x4).bind fun r5 => cond r5 (some false) (chk (in64 (i2 - 1)) <| ev_slices_IsSorted_Lint_int_l0 n x1 m (i2 - 1))) (some true)
theorem ok_slices_IsSorted_Lint_int_l0 {n : Nat} {w0 : World} {R0 : Nat → Prop} {env0 : Env} {r : Bool} {x1 : List Int} : ∀ (m : Nat) (i2 : Int), ev_slices_IsSorted_Lint_int_l0 n x1 m i2 = some r → TC Try.prog ⟨w0, fun _ => False, R0⟩ 21 (bodyPost Try.prog Try.f247 (Post ⟨w0, fun _ => False, R0⟩ env0 (vb r) [])) [.code (sub (bodyOf Try.f247) [1, 0, 1, 0, 0, 0, 0]), .code (sub (bodyOf Try.f247) [1, 0, 1, 0, 0, 0, 1]), .code (sub (bodyOf Try.f247) [1, 0, 1, 0, 0, 1]), .inLoop (sub (bodyOf Try.f247) [1, 0, 1, 0, 0]), .inBlock 0, .code (sub (bodyOf Try.f247) [1, 1])] ([(0, .ref 0), (3, vi i2)]) ([.ro 0 1 (List.map en_int x1)]) := by
  intro m
  induction m with
  | zero => intro i2 h; exact none_no h
  | succ m ih =>
    intro i2 h;rw [ev_slices_IsSorted_Lint_int_l0] at h;refine TC.region ?_;refine qm ?_;refine q0 (sp_gtr rfl rfl rfl) ?_;refine TL.nil ?_;refine TC.cond (b := (decide ((0 : Int) < i2))) rfl (fun h2 => ?_) (fun h2 => ?_)
    · have h := cond_t h h2;refine TC.skip ?_;refine TC.seq ?_;refine TC.block ?_;refine TC.seq ?_;obtain ⟨x3, h3, h4, h⟩ := idx_inv h;obtain ⟨h5, h⟩ := chk_inv h;obtain ⟨x4, h6, h7, h⟩ := idx_inv h;refine drawJ 9 [⟨.ref 0, [], [], []⟩, ⟨vi i2, [], [], []⟩, ⟨.cell 0 ((i2 : Int).toNat * 1), [], [.ro 0 1 (List.map en_int x1)], []⟩, ⟨vi x3, [], [.ro 0 1 (List.map en_int x1)], []⟩, ⟨.ref 0, [], [], []⟩, ⟨vi i2, [], [], []⟩, ⟨vi (i2 - 1), [], [], []⟩, ⟨.cell 0 (((i2 - 1) : Int).toNat * 1), [], [.ro 0 1 (List.map en_int x1)], []⟩, ⟨vi x4, [], [.ro 0 1 (List.map en_int x1)], []⟩] rfl ?_ rfl ?_ rfl ?_ ?_
      · kernel_rfl
      · kernel_rfl
      · exact dp0 (sp_move rfl rfl) (dp0 (sp_move rfl rfl) (dp1 0 (sp_indexS rfl rfl rfl isRo sl50 h3 (map_get _ h4)) (dp1 0 (sp_loadR (i := (i2 : Int).toNat) (j := 0) rfl rfl isRo vt3 rfl (map_get _ h4) rfl (.v (.nil)) (nodup_of_B rfl)) (dp0 (sp_move rfl rfl) (dp0 (sp_move rfl rfl) (dp0 (sp_sub rfl rfl rfl h5) (dp1 0 (sp_indexS rfl rfl rfl isRo sl50 h6 (map_get _ h7)) (dp1 0 (sp_loadR (i := ((i2 - 1) : Int).toNat) (j := 0) rfl rfl isRo vt3 rfl (map_get _ h7) rfl (.v (.nil)) (nodup_of_B rfl)) (.nil)))))))))
      obtain ⟨r5, h8, h⟩ := bind_inv h;refine q0 (sp_call (avs := [vi x3, vi x4]) (need := []) (v := vb r5) (news := []) rfl rfl rfl Try.call309 (atJ [] [] (fc_cmp_Less_int h8) rfl rfl) (.inl (roAll rfl))) ?_;refine TL.nil ?_;refine TC.cond (b := r5) rfl (fun h9 => ?_) (fun h9 => ?_)
      · have h := cond_t h h9;refine tr ?_;refine qa ?_;refine TL.nil ?_;cases h;exact retJ [] (.tmp rfl .nil) rfl trivial rfl rfl
      · have h := cond_f h h9;refine TC.skip ?_;refine TC.inBlock ?_;refine TC.region ?_;refine qm ?_;obtain ⟨h10, h⟩ := chk_inv h;refine q0 (sp_sub rfl rfl rfl h10) ?_;refine qa ?_;refine TL.nil ?_;refine TC.inLoop ?_;refine TC.seq ?_;refine TC.seq ?_;refine subJ [] (ih _ h) ?_ ?_ ?_
        · exact ⟨rfl, rfl, trivial⟩
        · exact ⟨mem_at 0 rfl, trivial⟩
        · rfl
    · have h := cond_f h h2;refine TC.exit rfl ?_;refine tr ?_;refine qa ?_;refine TL.nil ?_;cases h;exact retJ [] (.tmp rfl .nil) rfl trivial rfl rfl
def ev_slices_IsSorted_Lint_int (n : Nat) (x1 : List Int) : Option Bool :=
  chk (in64 ((x1.length : Int) - 1)) <| ev_slices_IsSorted_Lint_int_l0 n x1 n ((x1.length : Int) - 1)
theorem fc_slices_IsSorted_Lint_int {n : Nat} {x1 : List Int} {r : Bool} (h : ev_slices_IsSorted_Lint_int n x1 = some r) : FC Try.prog 247 [.ref 0] [.ro 0 1 (List.map en_int x1)] (vb r) [] := by
  refine introJ (nz := 21) Try.func247 rfl rfl rfl (fun w0 R0 env0 => ?_)
  rw [ev_slices_IsSorted_Lint_int] at h;refine tr ?_;refine qa ?_;refine TL.nil ?_;refine TC.seq ?_;refine tr ?_;refine qm ?_;refine q1 0 rfl (sp_lenM (N := x1.length) (len_map _ _) rfl rfl isRo Try.underlying50) ?_;obtain ⟨h1, h⟩ := chk_inv h;refine q0 (sp_sub rfl rfl rfl h1) ?_;refine qa ?_;refine TL.nil ?_;refine TC.block ?_;refine TC.loop ?_;refine TC.seq ?_;refine TC.seq ?_;refine subJ [] (ok_slices_IsSorted_Lint_int_l0 _ _ h) ?_ ?_ ?_
  · exact ⟨rfl, rfl, trivial⟩
  · exact ⟨mem_at 0 rfl, trivial⟩
  · rfl
def ev_slices_Clone_Lint_int (n : Nat) (s1 : List Int) : Option ((List Int)) :=
  chk (room 8 (([] : List Int).length + s1.length)) <| some (([] : List Int) ++ s1)
theorem fc_slices_Clone_Lint_int {n : Nat} {s1 : List Int} {r : (List Int)} (h : ev_slices_Clone_Lint_int n s1 = some r) : FC Try.prog 162 [.ref 0] [.ro 0 1 (List.map en_int s1)] (.ref 0) [.row 0 3 1 (List.map en_int r)] := by
  refine introJ (nz := 8) Try.func162 rfl rfl rfl (fun w0 R0 env0 => ?_)
  rw [ev_slices_Clone_Lint_int] at h;refine tr ?_;refine qa ?_;refine TL.nil ?_;refine TC.seq ?_;refine tr ?_;refine qm ?_;refine q1 0 rfl (sp_eqNil 1 rfl Try.underlying50 rfl rfl isRo (len_map _ _)) ?_;refine TL.nil ?_;refine condNil 0 rfl rfl (fun hN => ?_) ?_
  · have hx := List.eq_nil_of_length_eq_zero hN;subst hx
    repeat (have h := (chk_inv h).2)
    refine tr ?_;refine qa ?_;refine TL.nil ?_;refine nilRowC 2 2 3 1 (List.map en_int []) rfl rfl rfl ?_;cases h;exact retJ [(0, 2)] (.tmp rfl .nil) rfl ⟨mem_at 0 rfl, trivial⟩ rfl rfl
  · refine TC.skip ?_;refine tr ?_;refine q0 (sp_emptyM 3 (List.map en_int []) rfl rfl sl50) ?_;refine qm ?_;obtain ⟨h1, h⟩ := chk_inv h;refine appM 0 2 (N := ([] : List Int).length) (N2 := s1.length) 4 rfl rfl trivial rfl rfl rfl rfl rfl isRo rfl sl50 (len_map _ _) (len_map _ _) h1 (map_app _ _ _) rfl ?_;refine qa ?_;refine TL.nil ?_;cases h;exact retJ [(0, 4)] (.tmp rfl .nil) rfl ⟨mem_at 0 rfl, trivial⟩ rfl rfl
def rn_slices_Compact_Lint_int : Shelf.Ren := ⟨fun _ => 131, fun n => match n with | 0 => 0 | 3 => 3 | 4 => 4 | 22 => 50 | _ => 0, fun x => x⟩
theorem lays_slices_Compact_Lint_int : Lays2.n20 Try.prog rn_slices_Compact_Lint_int where
  mixed := rfl
  f20 := Try.func131.trans (congrArg some (by kernel_rfl))
  t0 := Try.underlying0
  a0 := Try.isAgg0
  z0 := Try.sizeOf0
  v0 := Try.zeroValue0
  t3 := Try.underlying3
  a3 := Try.isAgg3
  z3 := Try.sizeOf3
  v3 := Try.zeroValue3
  t4 := Try.underlying4
  a4 := Try.isAgg4
  z4 := Try.sizeOf4
  v4 := Try.zeroValue4
  t22 := Try.underlying50
  a22 := Try.isAgg50
  z22 := Try.sizeOf50
  v22 := Try.zeroValue50
  i3 := by kernel_rfl
def ev_slices_Compact_Lint_int (n : Nat) (s1 : List Int) : Option (List Int) := chk (room 8 s1.length) (some (Lib.compact s1))
theorem ft_slices_Compact_Lint_int {n : Nat} {s1 : List Int} {r : List Int} (h : ev_slices_Compact_Lint_int n s1 = some r) : FT Try.prog 131 [.ref 0] [.row 0 3 1 (List.map en_int s1)] [] (.ref 500) [.row 500 3 1 (List.map en_int r)] := by
  obtain ⟨h1, h⟩ := chk_inv h;cases h;exact ft_compactI lays_slices_Compact_Lint_int 500 rfl h1
def ev_slices_Clip_Lint_int (n : Nat) (s1 : List Int) : Option ((List Int)) :=
  some s1
theorem fc_slices_Clip_Lint_int {n : Nat} {s1 : List Int} {r : (List Int)} (h : ev_slices_Clip_Lint_int n s1 = some r) : FC Try.prog 249 [.ref 0] [.ro 0 1 (List.map en_int s1)] (.ref 0) [.any 0 (D.clip 1 (List.map en_int r))] := by
  refine introJ (nz := 9) Try.func249 rfl rfl rfl (fun w0 R0 env0 => ?_)
  rw [ev_slices_Clip_Lint_int] at h;refine tr ?_;refine qa ?_;refine TL.nil ?_;refine tr ?_;refine qm ?_;refine qm ?_;refine q1 0 rfl (sp_lenM (N := s1.length) (len_map _ _) rfl rfl isRo Try.underlying50) ?_;refine qm ?_;refine q1 0 rfl (sp_lenM (N := s1.length) (len_map _ _) rfl rfl isRo Try.underlying50) ?_;refine q1 0 rfl (sp_clip 1 (len_map _ _) rfl rfl sl50 rfl rfl) ?_;refine qa ?_;refine TL.nil ?_;cases h;exact retJ [(0, 1)] (.tmp rfl .nil) rfl ⟨mem_at 0 rfl, trivial⟩ rfl rfl
def ev_top_pubSpan (n : Nat) (low1 : Int) (high2 : Int) : Option (Int × Int) :=
  some (low1, high2)
theorem fc_top_pubSpan {n : Nat} {low1 : Int} {high2 : Int} {r : Int × Int} (h : ev_top_pubSpan n low1 high2 = some r) : FC Try.prog 20 [vi low1, vi high2] [] (.agg [vi r.1, vi r.2]) [] := by
  refine introJ (nz := 8) Try.func20 rfl rfl rfl (fun w0 R0 env0 => ?_)
  rw [ev_top_pubSpan] at h;refine tr ?_;refine q0 (sp_alloc 0 rfl Try.zeroValue34 rfl) ?_;refine TL.nil ?_;refine tr ?_;refine qm ?_;refine qm ?_;refine q0 (sp_build (qs := [(0, vi low1), (1, vi high2)]) rfl bt34 rfl rfl rfl rfl) ?_;refine stoB 0 (cells' := [vi low1, vi high2]) rfl rfl trivial rfl rfl rfl rfl vt34 rfl rfl rfl ?_;refine TL.nil ?_;cases h;exact retJ [] (.cells rfl (mem_at 0 rfl) isBlk vt34 rfl rfl (.nil)) rfl trivial rfl rfl
def ev_slices_IndexFunc_Lapi_ChimeBlow_api_ChimeBlow_l0 (n : Nat) (s1 : List (Int × Int)) (f2 : (Int × Int) → Option Bool) : Nat → Int → Option Int
  | 0, _ => none
  | m + 1, i3 => cond (decide (i3 < (s1.length : Int))) (idx s1 i3 fun x4 => (f2 (x4.1, x4.2)).bind fun r5 => cond r5 (some i3) (chk (in64 (i3 + 1)) <| ev_slices_IndexFunc_Lapi_ChimeBlow_api_ChimeBlow_l0 n s1 f2 m (i3 + 1))) (some (-1))
theorem ok_slices_IndexFunc_Lapi_ChimeBlow_api_ChimeBlow_l0 {n : Nat} {w0 : World} {R0 : Nat → Prop} {env0 : Env} {r : Int} {s1 : List (Int × Int)} {f2 : (Int × Int) → Option Bool} : ∀ (m : Nat) (i3 : Int), ev_slices_IndexFunc_Lapi_ChimeBlow_api_ChimeBlow_l0 n s1 f2 m i3 = some r → TC Try.prog ⟨w0, fun _ => False, R0⟩ 19 (bodyPost Try.prog Try.f316 (Post ⟨w0, fun _ => False, R0⟩ env0 (vi r) [])) [.code (sub (bodyOf Try.f316) [1, 0, 1, 0, 0, 0]), .code (sub (bodyOf Try.f316) [1, 0, 1, 0, 0, 1]), .inLoop (sub (bodyOf Try.f316) [1, 0, 1, 0, 0]), .inBlock 0, .code (sub (bodyOf Try.f316) [1, 1])] ([(0, .ref 0), (1, .ref 1), (7, vi (s1.length : Int)), (8, vi i3)]) ([.ro 0 2 (List.map en_api_ChimeBlow s1), .any 1 (D.fn Try.prog fe_funcapi_ChimeBlow_bool fd_funcapi_ChimeBlow_bool f2)]) := by
  intro m
  induction m with
  | zero => intro i3 h; exact none_no h
  | succ m ih =>
    intro i3 h;rw [ev_slices_IndexFunc_Lapi_ChimeBlow_api_ChimeBlow_l0] at h;refine TC.region ?_;refine q0 (sp_lss rfl rfl rfl) ?_;refine TL.nil ?_;refine TC.seq ?_;refine TC.cond (b := (decide (i3 < (s1.length : Int)))) rfl (fun h1 => ?_) (fun h1 => ?_)
    · have h := cond_t h h1;refine TC.skip ?_;refine TC.seq ?_;refine TC.block ?_;refine tr ?_;refine qm ?_;refine qa ?_;refine TL.nil ?_;refine tr ?_;refine qm ?_;refine qm ?_;refine qm ?_;obtain ⟨x4, h2, h3, h⟩ := idx_inv h;refine q1 0 rfl (sp_indexS rfl rfl rfl isRo sl138 h2 (map_get _ h3)) ?_;refine q1 0 rfl (sp_loadRA (i := (i3 : Int).toNat) (j := 0) (as_ := [vi x4.1, vi x4.2]) (ns := []) rfl rfl isRo vt201 rfl (map_get _ h3) rfl rfl (by decide) (.v (.v (.nil))) (nodup_of_B rfl)) ?_;obtain ⟨r5, h4, h⟩ := bind_inv h;refine q1 1 rfl (sp_callF (avs := [.agg [vi x4.1, vi x4.2]]) (v := vb r5) (x4.1, x4.2) rfl rfl rfl rfl rfl h4) ?_;refine TL.nil ?_;refine TC.cond (b := r5) rfl (fun h5 => ?_) (fun h5 => ?_)
      · have h := cond_t h h5;refine tr ?_;refine qm ?_;refine qa ?_;refine TL.nil ?_;cases h;exact retJ [] (.tmp rfl .nil) rfl trivial rfl rfl
      · have h := cond_f h h5;refine TC.skip ?_;refine TC.inBlock ?_;refine TC.region ?_;obtain ⟨h6, h⟩ := chk_inv h;refine q0 (sp_add rfl rfl rfl h6) ?_;refine qm ?_;refine TL.nil ?_;refine TC.inLoop ?_;refine TC.seq ?_;refine subJ [] (ih _ h) ?_ ?_ ?_
        · exact ⟨rfl, rfl, rfl, rfl, trivial⟩
        · exact ⟨mem_at 0 rfl, mem_at 1 rfl, trivial⟩
        · rfl
    · have h := cond_f h h1;refine TC.exit rfl ?_;refine tr ?_;refine qa ?_;refine TL.nil ?_;cases h;exact retJ [] (.tmp rfl .nil) rfl trivial rfl rfl
def ev_slices_IndexFunc_Lapi_ChimeBlow_api_ChimeBlow (n : Nat) (s1 : List (Int × Int)) (f2 : (Int × Int) → Option Bool) : Option Int :=
  ev_slices_IndexFunc_Lapi_ChimeBlow_api_ChimeBlow_l0 n s1 f2 n 0
theorem fc_slices_IndexFunc_Lapi_ChimeBlow_api_ChimeBlow {n : Nat} {s1 : List (Int × Int)} {f2 : (Int × Int) → Option Bool} {r : Int} (h : ev_slices_IndexFunc_Lapi_ChimeBlow_api_ChimeBlow n s1 f2 = some r) : FC Try.prog 316 [.ref 0, .ref 1] [.ro 0 2 (List.map en_api_ChimeBlow s1), .any 1 (D.fn Try.prog fe_funcapi_ChimeBlow_bool fd_funcapi_ChimeBlow_bool f2)] (vi r) [] := by
  refine introJ (nz := 19) Try.func316 rfl rfl rfl (fun w0 R0 env0 => ?_)
  rw [ev_slices_IndexFunc_Lapi_ChimeBlow_api_ChimeBlow] at h;refine tr ?_;refine qa ?_;refine TL.nil ?_;refine TC.seq ?_;refine tr ?_;refine qm ?_;refine q1 0 rfl (sp_lenM (N := s1.length) (len_map _ _) rfl rfl isRo Try.underlying138) ?_;refine qm ?_;refine TL.nil ?_;refine TC.block ?_;refine TC.loop ?_;refine TC.seq ?_;refine subJ [] (ok_slices_IndexFunc_Lapi_ChimeBlow_api_ChimeBlow_l0 _ _ h) ?_ ?_ ?_
  · exact ⟨rfl, rfl, rfl, rfl, trivial⟩
  · exact ⟨mem_at 0 rfl, mem_at 1 rfl, trivial⟩
  · rfl
def ev_slices_ContainsFunc_Lapi_ChimeBlow_api_ChimeBlow (n : Nat) (s1 : List (Int × Int)) (f2 : (Int × Int) → Option Bool) : Option Bool :=
  (ev_slices_IndexFunc_Lapi_ChimeBlow_api_ChimeBlow n s1 f2).bind fun r3 => some (decide ((0 : Int) ≤ r3))
theorem fc_slices_ContainsFunc_Lapi_ChimeBlow_api_ChimeBlow {n : Nat} {s1 : List (Int × Int)} {f2 : (Int × Int) → Option Bool} {r : Bool} (h : ev_slices_ContainsFunc_Lapi_ChimeBlow_api_ChimeBlow n s1 f2 = some r) : FC Try.prog 242 [.ref 0, .ref 1] [.ro 0 2 (List.map en_api_ChimeBlow s1), .any 1 (D.fn Try.prog fe_funcapi_ChimeBlow_bool fd_funcapi_ChimeBlow_bool f2)] (vb r) [] := by
  refine introJ (nz := 9) Try.func242 rfl rfl rfl (fun w0 R0 env0 => ?_)
  rw [ev_slices_ContainsFunc_Lapi_ChimeBlow_api_ChimeBlow] at h;refine tr ?_;refine qa ?_;refine TL.nil ?_;refine tr ?_;refine qm ?_;refine qm ?_;obtain ⟨r3, h1, h⟩ := bind_inv h;refine opN (need := [.ro 0 2 (List.map en_api_ChimeBlow s1), .any 1 (D.fn Try.prog fe_funcapi_ChimeBlow_bool fd_funcapi_ChimeBlow_bool f2)]) [0, 1] ⟨rfl, rfl, trivial⟩ (sp_call (avs := [.ref 0, .ref 1]) (need := [.ro 0 2 (List.map en_api_ChimeBlow s1), .any 1 (D.fn Try.prog fe_funcapi_ChimeBlow_bool fd_funcapi_ChimeBlow_bool f2)]) (v := vi r3) (news := []) rfl rfl rfl Try.call316 (atJ [] [] (fc_slices_IndexFunc_Lapi_ChimeBlow_api_ChimeBlow h1) rfl rfl) (.inl (roAll rfl))) rfl trivial rfl rfl ?_;refine q0 (sp_geq rfl rfl rfl) ?_;refine qa ?_;refine TL.nil ?_;cases h;exact retJ [] (.tmp rfl .nil) rfl trivial rfl rfl
end
end Go.Proofs.Ytgkoldcmbcbbpaa.Sy
