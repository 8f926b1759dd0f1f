/- What functions of the program compute, and that they do: printed by symgen.py. -/
import Derived.Test.YthgbjhglhejalaaRBSymRJ
import Derived.Test.YthgbjhglhejalaaProg
set_option linter.unusedSimpArgs false
set_option linter.unusedVariables false
namespace Go.Proofs.Ythgbjhglhejalaa.Sy
open Go.RowKit
noncomputable section
abbrev vi (x : Int) : AV := .val (.int .i64 x)
abbrev LT := List (Int × Int × Int × Int × Int)
abbrev LW := List (Int × Int × Int × Int)
abbrev LL := List ((List Int))
abbrev vb (x : Bool) : AV := .val (.bool x)
abbrev vu (x : Int) : AV := .val (.int .u16 x)
section
variable {P : Program} {c : Ctx} {sz : Fm} {Q : Exit → Act → World → Prop} {t : List Item} {s : List (Nat × AV)} {V : List NEnt} {ops : Array Oper} {rest : List Oper} {o : Oper}
theorem q0 {v : AV} {news : List NEnt} {d : Nat} (hs : OpSpec P o (rho s) [] v news) (k : TL P c sz Q ops rest t ((d, v) :: s) (news ++ V)) (hd : o.dst = some d := by exact rfl) (hw : Wanted ops s o := by exact trivial) (hlt : Nat.blt d sz.sz = true := by exact rfl) (hf : freshN news s V = true := by exact rfl) : TL P c sz Q ops (o :: rest) t s V := op0 hs hd hw hlt hf k
theorem q1 {v : AV} {news : List NEnt} {d : Nat} {y : NEnt} (i : Nat) (hy : V[i]? = some y) (hs : OpSpec P o (rho s) [y] v news) (k : TL P c sz Q ops rest t ((d, v) :: s) (news ++ V)) (hd : o.dst = some d := by exact rfl) (hw : Wanted ops s o := by exact trivial) (hlt : Nat.blt d sz.sz = true := by exact rfl) (hf : freshN news s V = true := by exact rfl) : TL P c sz Q ops (o :: rest) t s V := op1 i hy hs hd hw hlt hf k
theorem q2 {v : AV} {news : List NEnt} {d : Nat} {y : NEnt} (i : Nat) (hy : V[i]? = some y) (hs : OpSpec P o (rho s) [y] v news) (k : TL P c sz Q ops rest t ((d, v) :: s) (news ++ V)) (hd : o.dst = some d := by exact rfl) (hw : Wanted ops s o := by exact ⟨_, rfl, rfl⟩) (hlt : Nat.blt d sz.sz = true := by exact rfl) (hf : freshN news s V = true := by exact rfl) : TL P c sz Q ops (o :: rest) t s V := op1 i hy hs hd hw hlt hf k
theorem q3 {v : AV} {news : List NEnt} {d : Nat} (hs : OpSpec P o (rho s) [] v news) (k : TL P c sz Q ops rest t ((d, v) :: s) (news ++ V)) (hd : o.dst = some d := by exact rfl) (hw : Wanted ops s o := by exact ⟨_, rfl, rfl⟩) (hlt : Nat.blt d sz.sz = true := by exact rfl) (hf : freshN news s V = true := by exact rfl) : TL P c sz Q ops (o :: rest) t s V := op0 hs hd hw hlt hf k
theorem qs {d : Nat} (k : TL P c sz Q ops rest t ((d, .val undef) :: s) V) (hd : o.dst = some d := by exact rfl) (hw : Unwanted ops s o := by exact ⟨_, rfl, .inl rfl⟩) (hlt : Nat.blt d sz.sz = true := by exact rfl) : TL P c sz Q ops (o :: rest) t s V := opSkip hd hw hlt k
theorem qa {d : Nat} {x : Operand} {v : AV} (k : TL P c sz Q ops rest t ((d, v) :: s) V) (hd : o.dst = some d := by exact rfl) (ho : o.op = .assign x := by exact rfl) (hx : rho s x = some v := by exact rfl) (hw : Wanted ops s o := by exact trivial) (hlt : Nat.blt d sz.sz = true := by exact rfl) (hf : freshN [] s V = true := by exact rfl) : TL P c sz Q ops (o :: rest) t s V := op0 (sp_assign ho hx) hd hw hlt hf k
theorem tr {x : List Oper} {y : Code} {id : Nat} (h : TL P c sz Q x.toArray x (.code y :: t) s V) : TC P c sz Q (.code (.seq (.region id x.toArray false) y) :: t) s V := TC.seq (TC.region h)
theorem qm {d : Nat} {x : Operand} {v : AV} (k : TL P c sz Q ops rest t ((d, v) :: s) V) (hd : o.dst = some d := by exact rfl) (ho : o.op = .move x := by exact rfl) (hx : rho s x = some v := by exact rfl) (hw : Wanted ops s o := by exact trivial) (hlt : Nat.blt d sz.sz = true := by exact rfl) (hf : freshN [] s V = true := by exact rfl) : TL P c sz Q ops (o :: rest) t s V := op0 (sp_move ho hx) hd hw hlt hf k
end
section
variable {P : Program} {s : List (Nat × AV)} {o : Oper} {ops : Array Oper} {V : List NEnt} {outs : List DO} {i : Nat} {l : List Oper} {d : DO} {ds : List DO}
theorem dp2 (ps : List (Option Nat × Nat)) (hs : OpSpec P o (rho s) d.need d.v d.news) (hn : From ops outs V i ps d.need) (h : DAll P ops outs V (i + 1) l ds (putS o d.v s)) (hw : Wanted ops s o := by exact trivial) (ht : d.take = [] := by exact rfl) : DAll P ops outs V i (o :: l) (d :: ds) s := .op' hs hw ht (From.ok hn) h
theorem dp0 (hs : OpSpec P o (rho s) d.need d.v d.news) (h : DAll P ops outs V (i + 1) l ds (putS o d.v s)) (hw : Wanted ops s o := by exact trivial) (ht : d.take = [] := by exact rfl) (hn : From ops outs V i [] d.need := by exact trivial) : DAll P ops outs V i (o :: l) (d :: ds) s := .op' hs hw ht (From.ok hn) h
theorem dp1 (k : Nat) (hs : OpSpec P o (rho s) d.need d.v d.news) (h : DAll P ops outs V (i + 1) l ds (putS o d.v s)) (hw : Wanted ops s o := by exact trivial) (ht : d.take = [] := by exact rfl) (hn : From ops outs V i [(none, k)] d.need := by exact ⟨⟨rfl, rfl⟩, trivial⟩) : DAll P ops outs V i (o :: l) (d :: ds) s := .op' hs hw ht (From.ok hn) h
theorem dq2 (ps : List (Option Nat × Nat)) (hs : OpSpec P o (rho s) d.need d.v d.news) (hn : From ops outs V i ps d.need) (h : DAll P ops outs V (i + 1) l ds (putS o d.v s)) (hw : Wanted ops s o := by exact ⟨_, rfl, rfl⟩) (ht : d.take = [] := by exact rfl) : DAll P ops outs V i (o :: l) (d :: ds) s := .op' hs hw ht (From.ok hn) h
theorem dq0 (hs : OpSpec P o (rho s) d.need d.v d.news) (h : DAll P ops outs V (i + 1) l ds (putS o d.v s)) (hw : Wanted ops s o := by exact ⟨_, rfl, rfl⟩) (ht : d.take = [] := by exact rfl) (hn : From ops outs V i [] d.need := by exact trivial) : DAll P ops outs V i (o :: l) (d :: ds) s := .op' hs hw ht (From.ok hn) h
theorem dq1 (k : Nat) (hs : OpSpec P o (rho s) d.need d.v d.news) (h : DAll P ops outs V (i + 1) l ds (putS o d.v s)) (hw : Wanted ops s o := by exact ⟨_, rfl, rfl⟩) (ht : d.take = [] := by exact rfl) (hn : From ops outs V i [(none, k)] d.need := by exact ⟨⟨rfl, rfl⟩, trivial⟩) : DAll P ops outs V i (o :: l) (d :: ds) s := .op' hs hw ht (From.ok hn) h
end
set_option maxRecDepth 100000
set_option maxHeartbeats 2000000
def en_uint8 : Int → List D := fun x => [D.v (.int .u8 x)]
theorem en_uint8_flat : ∀ a, ∀ d ∈ en_uint8 a, ∃ x, d = D.v x := by
  intro a d h;simp only [en_uint8, List.mem_cons, List.not_mem_nil, or_false] at h;rcases h with rfl <;> exact ⟨_, rfl⟩
theorem vt5 : VarT Try.prog 5 1 false := ⟨Try.isAgg5, Try.sizeOf5⟩
theorem bt25 : ∀ parts, Try.prog.built 25 parts = Instr.fill (fun i => (#[(0, 1), (1, 1)] : Array (Nat × Nat))[i]?) (AV.denL (fun _ => undef) [vi 0, vi 0]).toArray parts := fun _ => by kernel_rfl
theorem vt25 : VarT Try.prog 25 2 true := ⟨Try.isAgg25, Try.sizeOf25⟩
def en_bool : Bool → List D := fun x => [D.v (.bool x)]
theorem en_bool_flat : ∀ a, ∀ d ∈ en_bool a, ∃ x, d = D.v x := by
  intro a d h;simp only [en_bool, List.mem_cons, List.not_mem_nil, or_false] at h;rcases h with rfl <;> exact ⟨_, rfl⟩
theorem sl27 : SlT Try.prog 27 4 1 1 := ⟨Try.underlying27, ⟨Try.t4, _, by kernel_rfl, rfl, rfl, rfl, rfl⟩, by decide⟩
theorem bt29 : ∀ parts, Try.prog.built 29 parts = Instr.fill (fun i => (#[(0, 2), (2, 1)] : Array (Nat × Nat))[i]?) (AV.denL (fun _ => undef) [vi 0, vi 0, .val (.slice none 0 0)]).toArray parts := fun _ => by kernel_rfl
theorem vt29 : VarT Try.prog 29 3 true := ⟨Try.isAgg29, Try.sizeOf29⟩
theorem ft29_0 : FieldT Try.prog 29 0 0 25 := ⟨_, _, Try.underlying29, rfl, rfl, rfl⟩
theorem ft25_0 : FieldT Try.prog 25 0 0 3 := ⟨_, _, Try.underlying25, rfl, rfl, rfl⟩
theorem vt3 : VarT Try.prog 3 1 false := ⟨Try.isAgg3, Try.sizeOf3⟩
theorem sl23 : SlT Try.prog 23 5 1 1 := ⟨Try.underlying23, ⟨Try.t5, _, by kernel_rfl, rfl, rfl, rfl, rfl⟩, by decide⟩
theorem ft25_1 : FieldT Try.prog 25 1 1 3 := ⟨_, _, Try.underlying25, rfl, rfl, rfl⟩
theorem bt33 : ∀ parts, Try.prog.built 33 parts = Instr.fill (fun i => (#[(0, 1), (1, 1), (2, 1)] : Array (Nat × Nat))[i]?) (AV.denL (fun _ => undef) [vi 0, vi 0, vi 0]).toArray parts := fun _ => by kernel_rfl
def en_api_BookEntry : Int × Int × Int → List D := fun x => [D.v (.int .i64 x.1), D.v (.int .i64 x.2.1), D.v (.int .i64 x.2.2)]
theorem sl34 : SlT Try.prog 34 33 3 24 := ⟨Try.underlying34, ⟨Try.t33, _, by kernel_rfl, rfl, rfl, rfl, rfl⟩, by decide⟩
def en_api_Span : Int × Int → List D := fun x => [D.v (.int .i64 x.1), D.v (.int .i64 x.2)]
theorem sl38 : SlT Try.prog 38 25 2 16 := ⟨Try.underlying38, ⟨Try.t25, _, by kernel_rfl, rfl, rfl, rfl, rfl⟩, by decide⟩
theorem bt40 : ∀ parts, Try.prog.built 40 parts = Instr.fill (fun i => (#[(0, 1), (1, 1), (2, 2), (4, 1), (5, 1)] : Array (Nat × Nat))[i]?) (AV.denL (fun _ => undef) [vi 0, vi 0, vi 0, vi 0, vi 0, .val (.slice none 0 0)]).toArray parts := fun _ => by kernel_rfl
theorem vt40 : VarT Try.prog 40 6 true := ⟨Try.isAgg40, Try.sizeOf40⟩
def mk147 : Int × Int → Value := fun k => .agg #[.int .i64 k.1, .int .i64 k.2]
theorem kc147 (b : Bool) (k : Int × Int) (w : World) (n : Nat) : (Instr.checkKey b (n + 2) 86 (mk147 k)).run Try.prog w = .ok () w := by
  simp [mk147, Instr.checkKey, go_sem, Try.underlying86, Try.underlying3, Try.underlying77, Try.isAgg86, Try.isAgg3, Try.isAgg77, Try.sizeOf86, Try.sizeOf3, Try.sizeOf77, Try.stoodInHeld86]
theorem eq86 (a0 : Int) (a1 : Int) (b0 : Int) (b1 : Int) : EqT Try.prog 86 [.int .i64 a0, .int .i64 a1] [.int .i64 b0, .int .i64 b1] (((a0 == b0) && (a1 == b1))) := ⟨Try.eqGuardType86, fun w => by
  simp [go_sem, Try.underlying86, Try.underlying3, Try.underlying77, Try.isAgg86, Try.isAgg3, Try.isAgg77, Try.sizeOf86, Try.sizeOf3, Try.sizeOf77, Try.stoodInHeld86]
  (repeat' split) <;> simp_all⟩
theorem kq147 (k k' : Int × Int) (w : World) : (Op.equal 86 (mk147 k) (mk147 k')).run Try.prog w = .ok (k == k') w := by
  have h := (eq86 (k.1) (k.2) ((k').1) ((k').2)).2 w;show (Op.equalIn 10000 86 _ _).run Try.prog w = _;simp only [mk147];exact h
theorem km147 : MKey Try.prog 147 86 120 mk147 := mkey_agg2 Try.underlying147 Try.underlying86 (fun k es i => findNow_struct k es i) (fun b k w => kc147 b k w 9998) kq147 (fun k => by simp [mk147, Instr.sameBits])
def vx_int : Int → List Value := fun x => [.int .i64 x]
def en_p_rate_table : (List Int) → List D := fun x => [(arrI 119 vx_int x).froz]
theorem bt149 : ∀ parts, Try.prog.built 149 parts = Instr.fill (fun i => (#[(0, 6), (6, 1)] : Array (Nat × Nat))[i]?) (AV.denL (fun _ => undef) [vi 0, vi 0, vi 0, vi 0, vi 0, .val (.slice none 0 0), .val (.map none)]).toArray parts := fun _ => by kernel_rfl
theorem ft40_4 : FieldT Try.prog 40 4 5 38 := ⟨_, _, Try.underlying40, rfl, rfl, rfl⟩
theorem vt38 : VarT Try.prog 38 1 false := ⟨Try.isAgg38, Try.sizeOf38⟩
theorem ft40_0 : FieldT Try.prog 40 0 0 3 := ⟨_, _, Try.underlying40, rfl, rfl, rfl⟩
def en_int : Int → List D := fun x => [D.v (.int .i64 x)]
theorem en_int_flat : ∀ a, ∀ d ∈ en_int a, ∃ x, d = D.v x := by
  intro a d h;simp only [en_int, List.mem_cons, List.not_mem_nil, or_false] at h;rcases h with rfl <;> exact ⟨_, rfl⟩
theorem sl49 : SlT Try.prog 49 3 1 8 := ⟨Try.underlying49, ⟨Try.t3, _, by kernel_rfl, rfl, rfl, rfl, rfl⟩, by decide⟩
def fe_funcint_bool : Int → List AV := fun a => [vi a]
def fd_funcint_bool : Bool → AV := fun b => vb b
theorem ft40_1 : FieldT Try.prog 40 1 1 3 := ⟨_, _, Try.underlying40, rfl, rfl, rfl⟩
theorem ft40_2 : FieldT Try.prog 40 2 2 25 := ⟨_, _, Try.underlying40, rfl, rfl, rfl⟩
theorem ft40_3 : FieldT Try.prog 40 3 4 3 := ⟨_, _, Try.underlying40, rfl, rfl, rfl⟩
def fe_funcapi_Span_bool : Int × Int → List AV := fun a => [.agg [vi a.1, vi a.2]]
def fd_funcapi_Span_bool : Bool → AV := fun b => vb b
theorem ft29_1 : FieldT Try.prog 29 1 2 27 := ⟨_, _, Try.underlying29, rfl, rfl, rfl⟩
theorem vt27 : VarT Try.prog 27 1 false := ⟨Try.isAgg27, Try.sizeOf27⟩
theorem ft149_0 : FieldT Try.prog 149 0 0 40 := ⟨_, _, Try.underlying149, rfl, rfl, rfl⟩
theorem vt4 : VarT Try.prog 4 1 false := ⟨Try.isAgg4, Try.sizeOf4⟩
theorem bt86 : ∀ parts, Try.prog.built 86 parts = Instr.fill (fun i => (#[(0, 1), (1, 1)] : Array (Nat × Nat))[i]?) (AV.denL (fun _ => undef) [vi 0, vi 0]).toArray parts := fun _ => by kernel_rfl
theorem vt72 : VarT Try.prog 72 1 false := ⟨Try.isAgg72, Try.sizeOf72⟩
theorem ft149_1 : FieldT Try.prog 149 1 6 147 := ⟨_, _, Try.underlying149, rfl, rfl, rfl⟩
theorem vt147 : VarT Try.prog 147 1 false := ⟨Try.isAgg147, Try.sizeOf147⟩
theorem vt86 : VarT Try.prog 86 2 true := ⟨Try.isAgg86, Try.sizeOf86⟩
theorem vt120 : VarT Try.prog 120 1 false := ⟨Try.isAgg120, Try.sizeOf120⟩
theorem ft119_0 : FieldT Try.prog 119 0 0 117 := ⟨_, _, Try.underlying119, rfl, rfl, rfl⟩
theorem vt117 : VarT Try.prog 117 601 true := ⟨Try.isAgg117, Try.sizeOf117⟩
theorem ft86_0 : FieldT Try.prog 86 0 0 3 := ⟨_, _, Try.underlying86, rfl, rfl, rfl⟩
def ye_funcapi_RateAct_bool : Int × Int → List AV := fun a => [.agg [vi a.1, vi a.2]]
def yn_funcapi_RateAct_bool : Int × Int → List NEnt := fun a => []
theorem bt44 : ∀ parts, Try.prog.built 44 parts = Instr.fill (fun i => (#[(0, 1), (1, 1)] : Array (Nat × Nat))[i]?) (AV.denL (fun _ => undef) [vi 0, vi 0]).toArray parts := fun _ => by kernel_rfl
theorem vt44 : VarT Try.prog 44 2 true := ⟨Try.isAgg44, Try.sizeOf44⟩
theorem ft86_1 : FieldT Try.prog 86 1 1 77 := ⟨_, _, Try.underlying86, rfl, rfl, rfl⟩
theorem vt77 : VarT Try.prog 77 1 false := ⟨Try.isAgg77, Try.sizeOf77⟩
theorem ft44_1 : FieldT Try.prog 44 1 1 3 := ⟨_, _, Try.underlying44, rfl, rfl, rfl⟩
theorem ft44_0 : FieldT Try.prog 44 0 0 3 := ⟨_, _, Try.underlying44, rfl, rfl, rfl⟩
theorem bt159 : ∀ parts, Try.prog.built 159 parts = Instr.fill (fun i => some (i * 1, 1)) (AV.denL (fun _ => undef) [vi 0, vi 0]).toArray parts := fun _ => by kernel_rfl
theorem vt159 : VarT Try.prog 159 2 true := ⟨Try.isAgg159, Try.sizeOf159⟩
theorem ft119_1 : FieldT Try.prog 119 1 601 117 := ⟨_, _, Try.underlying119, rfl, rfl, rfl⟩
theorem vt82 : VarT Try.prog 82 3 true := ⟨Try.isAgg82, Try.sizeOf82⟩
theorem bt82 : ∀ parts, Try.prog.built 82 parts = Instr.fill (fun i => (#[(0, 2), (2, 1)] : Array (Nat × Nat))[i]?) (AV.denL (fun _ => undef) [vi 0, vi 0, vi 0]).toArray parts := fun _ => by kernel_rfl
theorem ft82_1 : FieldT Try.prog 82 1 2 77 := ⟨_, _, Try.underlying82, rfl, rfl, rfl⟩
theorem ft82_0 : FieldT Try.prog 82 0 0 25 := ⟨_, _, Try.underlying82, rfl, rfl, rfl⟩
theorem eq44 (a0 : Int) (a1 : Int) (b0 : Int) (b1 : Int) : EqT Try.prog 44 [.int .i64 a0, .int .i64 a1] [.int .i64 b0, .int .i64 b1] (((a0 == b0) && (a1 == b1))) := ⟨Try.eqGuardType44, fun w => by
  simp [go_sem, Try.underlying44, Try.underlying3, Try.isAgg44, Try.isAgg3, Try.sizeOf44, Try.sizeOf3, Try.stoodInHeld44]
  (repeat' split) <;> simp_all⟩
theorem vt33 : VarT Try.prog 33 3 true := ⟨Try.isAgg33, Try.sizeOf33⟩
theorem sl91 : SlT Try.prog 91 33 3 24 := ⟨Try.underlying91, ⟨Try.t33, _, by kernel_rfl, rfl, rfl, rfl, rfl⟩, by decide⟩
theorem ft33_1 : FieldT Try.prog 33 1 1 31 := ⟨_, _, Try.underlying33, rfl, rfl, rfl⟩
theorem vt31 : VarT Try.prog 31 1 false := ⟨Try.isAgg31, Try.sizeOf31⟩
theorem ft33_0 : FieldT Try.prog 33 0 0 3 := ⟨_, _, Try.underlying33, rfl, rfl, rfl⟩
theorem ft33_2 : FieldT Try.prog 33 2 2 3 := ⟨_, _, Try.underlying33, rfl, rfl, rfl⟩
theorem vt49 : VarT Try.prog 49 1 false := ⟨Try.isAgg49, Try.sizeOf49⟩
def ye_funcbook_clock_bool : Int × Int × Int × Bool → List AV := fun a => [.agg [vi a.1, vi a.2.1, vi a.2.2.1, .val (.bool a.2.2.2)]]
def yn_funcbook_clock_bool : Int × Int × Int × Bool → List NEnt := fun a => []
theorem bt97 : ∀ parts, Try.prog.built 97 parts = Instr.fill (fun i => (#[(0, 1), (1, 1), (2, 1), (3, 1)] : Array (Nat × Nat))[i]?) (AV.denL (fun _ => undef) [vi 0, vi 0, vi 0, vb false]).toArray parts := fun _ => by kernel_rfl
theorem vt91 : VarT Try.prog 91 1 false := ⟨Try.isAgg91, Try.sizeOf91⟩
theorem vt97 : VarT Try.prog 97 4 true := ⟨Try.isAgg97, Try.sizeOf97⟩
theorem vt93 : VarT Try.prog 93 1 false := ⟨Try.isAgg93, Try.sizeOf93⟩
def ye_funcint_bool : Int → List AV := fun a => [vi a]
def yn_funcint_bool : Int → List NEnt := fun a => []
theorem ft97_3 : FieldT Try.prog 97 3 3 4 := ⟨_, _, Try.underlying97, rfl, rfl, rfl⟩
theorem ft97_0 : FieldT Try.prog 97 0 0 3 := ⟨_, _, Try.underlying97, rfl, rfl, rfl⟩
theorem ft97_2 : FieldT Try.prog 97 2 2 3 := ⟨_, _, Try.underlying97, rfl, rfl, rfl⟩
theorem ft97_1 : FieldT Try.prog 97 1 1 3 := ⟨_, _, Try.underlying97, rfl, rfl, rfl⟩
theorem vt131 : VarT Try.prog 131 1 false := ⟨Try.isAgg131, Try.sizeOf131⟩
def ev_top_pubSpan (n : Nat) (low1 : Int) (high2 : Int) : Option (Int × Int) :=
  some (low1, high2)
theorem fc_top_pubSpan {n : Nat} {low1 : Int} {high2 : Int} {r : Int × Int} (h : ev_top_pubSpan n low1 high2 = some r) : FC Try.prog 5 [vi low1, vi high2] [] (.agg [vi r.1, vi r.2]) [] := by
  refine introJ (nz := 8) Try.func5 rfl rfl rfl (fun w0 R0 env0 => ?_)
  rw [ev_top_pubSpan] at h;refine tr ?_;refine q0 (sp_alloc 0 rfl Try.zeroValue25 rfl) ?_;refine TL.nil ?_;refine tr ?_;refine qm ?_;refine qm ?_;refine q0 (sp_build (qs := [(0, vi low1), (1, vi high2)]) rfl bt25 rfl rfl rfl rfl) ?_;refine stoB 0 (cells' := [vi low1, vi high2]) rfl rfl trivial rfl rfl rfl rfl vt25 rfl rfl rfl ?_;refine TL.nil ?_;cases h;exact retJ [] (.cells rfl (mem_at 0 rfl) isBlk vt25 rfl rfl (.nil)) rfl trivial rfl rfl
def ev_top_pubByte (n : Nat) (l1 : List Int) (i2 : Int) : Option Int :=
  cond ((l1.length : Int) == 0) (some 0) (chk ((l1.length : Int) != 0) <| idx l1 (Int.tmod i2 (l1.length : Int)) fun x3 => chk (in64 x3) <| some x3)
theorem fc_top_pubByte {n : Nat} {l1 : List Int} {i2 : Int} {r : Int} (h : ev_top_pubByte n l1 i2 = some r) : FC Try.prog 6 [.ref 0, vi i2] [.ro 0 1 (List.map en_uint8 l1)] (vi r) [] := by
  refine introJ (nz := 16) Try.func6 rfl rfl rfl (fun w0 R0 env0 => ?_)
  rw [ev_top_pubByte] at h;refine tr ?_;refine qa ?_;refine TL.nil ?_;refine TC.seq ?_;refine tr ?_;refine qm ?_;refine q1 0 rfl (sp_lenM (N := l1.length) (len_map _ _) rfl rfl isRo Try.underlying23) ?_;refine q0 (sp_eql rfl rfl rfl) ?_;refine TL.nil ?_;refine TC.cond (b := ((l1.length : Int) == 0)) rfl (fun h1 => ?_) (fun h1 => ?_)
  · have h := cond_t h h1;refine tr ?_;refine qa ?_;refine TL.nil ?_;cases h;exact retJ [] (.tmp rfl .nil) rfl trivial rfl rfl
  · have h := cond_f h h1;refine TC.skip ?_;refine tr ?_;refine qm ?_;refine qm ?_;refine qm ?_;refine q1 0 rfl (sp_lenM (N := l1.length) (len_map _ _) rfl rfl isRo Try.underlying23) ?_;obtain ⟨h2, h⟩ := chk_inv h;refine q0 (sp_rem rfl rfl rfl h2) ?_;obtain ⟨x3, h3, h4, h⟩ := idx_inv h;refine q1 0 rfl (sp_indexS rfl rfl rfl isRo sl23 h3 (map_get _ h4)) ?_;refine q1 0 rfl (sp_loadR (i := ((Int.tmod i2 (l1.length : Int)) : Int).toNat) (j := 0) rfl rfl isRo vt5 rfl (map_get _ h4) rfl (.v (.nil)) (nodup_of_B rfl)) ?_;obtain ⟨h5, h⟩ := chk_inv h;refine q0 (sp_conv rfl Try.underlying5 Try.underlying3 rfl h5) ?_;refine qa ?_;refine TL.nil ?_;cases h;exact retJ [] (.tmp rfl .nil) rfl trivial rfl rfl
def ev_top_pubNut (n : Nat) : Option (Int × Int × Int × Int × Int × (List (Int × Int))) :=
  (ev_top_pubSpan n 8 10).bind fun r1 => (ev_top_pubSpan n 4 6).bind fun r2 => some (5, 1, r1.1, r1.2, 3, ([(r2.1, r2.2)] : List (Int × Int)))
theorem fc_top_pubNut {n : Nat}  {r : Int × Int × Int × Int × Int × (List (Int × Int))} (h : ev_top_pubNut n = some r) : FC Try.prog 8 [] [] (.agg [vi r.1, vi r.2.1, vi r.2.2.1, vi r.2.2.2.1, vi r.2.2.2.2.1, .ref 0]) [.row 0 25 2 (List.map en_api_Span r.2.2.2.2.2)] := by
  refine introJ (nz := 5) Try.func8 rfl rfl rfl (fun w0 R0 env0 => ?_)
  rw [ev_top_pubNut] at h;refine tr ?_;refine q0 (sp_alloc 0 rfl Try.zeroValue40 rfl) ?_;refine TL.nil ?_;refine tr ?_;obtain ⟨r1, h1, h⟩ := bind_inv h;refine q0 (sp_call (avs := [vi 8, vi 10]) (need := []) (v := .agg [vi r1.1, vi r1.2]) (news := []) rfl rfl rfl Try.call5 (atJ [] [] (fc_top_pubSpan h1) rfl rfl) (.inl (roAll rfl))) ?_;obtain ⟨r2, h2, h⟩ := bind_inv h;refine q0 (sp_call (avs := [vi 4, vi 6]) (need := []) (v := .agg [vi r2.1, vi r2.2]) (news := []) rfl rfl rfl Try.call5 (atJ [] [] (fc_top_pubSpan h2) rfl rfl) (.inl (roAll rfl))) ?_;refine q0 (sp_buildSlice (qs := [.agg [vi r2.1, vi r2.2]]) (need := []) (els := List.map en_api_Span ([(r2.1, r2.2)] : List (Int × Int))) 1 rfl sl38 (by decide) (by decide) rfl rfl rfl (.v (.v (.nil))) (map_len fun _ => rfl) rfl rfl rfl) ?_;refine q0 (sp_build (qs := [(0, vi 5), (1, vi 1), (2, .agg [vi r1.1, vi r1.2]), (3, vi 3), (4, .ref 1)]) rfl bt40 rfl rfl rfl rfl) ?_;refine stoB 1 (cells' := [vi 5, vi 1, vi r1.1, vi r1.2, vi 3, .ref 1]) rfl rfl trivial rfl rfl rfl rfl vt40 rfl rfl rfl ?_;refine TL.nil ?_;cases h;exact retJ [(0, 1)] (.cells rfl (mem_at 1 rfl) isBlk vt40 rfl rfl (.nil)) rfl ⟨mem_at 0 rfl, trivial⟩ rfl rfl
def ev_slices_IndexFunc_Lint_int_l0 (n : Nat) (s1 : List Int) (f2 : Int → Option Bool) : Nat → Int → Option Int
  | 0, _ => none
  | m + 1, i3 => cond (decide (i3 < (s1.length : Int))) (idx s1 i3 fun x4 => (f2 x4).bind fun r5 => cond r5 (some i3) (chk (in64 (i3 + 1)) <| ev_slices_IndexFunc_Lint_int_l0 n s1 f2 m (i3 + 1))) (some (-1))
theorem ok_slices_IndexFunc_Lint_int_l0 {n : Nat} {w0 : World} {R0 : Nat → Prop} {env0 : Env} {r : Int} {s1 : List Int} {f2 : Int → Option Bool} : ∀ (m : Nat) (i3 : Int), ev_slices_IndexFunc_Lint_int_l0 n s1 f2 m i3 = some r → TC Try.prog ⟨w0, fun _ => False, R0⟩ 19 (bodyPost Try.prog Try.f74 (Post ⟨w0, fun _ => False, R0⟩ env0 (vi r) [])) [.code (sub (bodyOf Try.f74) [1, 0, 1, 0, 0, 0]), .code (sub (bodyOf Try.f74) [1, 0, 1, 0, 0, 1]), .inLoop (sub (bodyOf Try.f74) [1, 0, 1, 0, 0]), .inBlock 0, .code (sub (bodyOf Try.f74) [1, 1])] ([(0, .ref 0), (1, .ref 1), (7, vi (s1.length : Int)), (8, vi i3)]) ([.ro 0 1 (List.map en_int s1), .any 1 (D.fn Try.prog fe_funcint_bool fd_funcint_bool f2)]) := by
  intro m
  induction m with
  | zero => intro i3 h; exact none_no h
  | succ m ih =>
    intro i3 h;rw [ev_slices_IndexFunc_Lint_int_l0] at h;refine TC.region ?_;refine q0 (sp_lss rfl rfl rfl) ?_;refine TL.nil ?_;refine TC.seq ?_;refine TC.cond (b := (decide (i3 < (s1.length : Int)))) rfl (fun h1 => ?_) (fun h1 => ?_)
    · have h := cond_t h h1;refine TC.skip ?_;refine TC.seq ?_;refine TC.block ?_;refine tr ?_;refine qm ?_;refine qa ?_;refine TL.nil ?_;refine tr ?_;refine qm ?_;refine qm ?_;refine qm ?_;obtain ⟨x4, h2, h3, h⟩ := idx_inv h;refine q1 0 rfl (sp_indexS rfl rfl rfl isRo sl49 h2 (map_get _ h3)) ?_;refine q1 0 rfl (sp_loadR (i := (i3 : Int).toNat) (j := 0) rfl rfl isRo vt3 rfl (map_get _ h3) rfl (.v (.nil)) (nodup_of_B rfl)) ?_;obtain ⟨r5, h4, h⟩ := bind_inv h;refine q1 1 rfl (sp_callF (avs := [vi x4]) (v := vb r5) x4 rfl rfl rfl rfl rfl h4) ?_;refine TL.nil ?_;refine TC.cond (b := r5) rfl (fun h5 => ?_) (fun h5 => ?_)
      · have h := cond_t h h5;refine tr ?_;refine qm ?_;refine qa ?_;refine TL.nil ?_;cases h;exact retJ [] (.tmp rfl .nil) rfl trivial rfl rfl
      · have h := cond_f h h5;refine TC.skip ?_;refine TC.inBlock ?_;refine TC.region ?_;obtain ⟨h6, h⟩ := chk_inv h;refine q0 (sp_add rfl rfl rfl h6) ?_;refine qm ?_;refine TL.nil ?_;refine TC.inLoop ?_;refine TC.seq ?_;refine subJ [] (ih _ h) ?_ ?_ ?_
        · exact ⟨rfl, rfl, rfl, rfl, trivial⟩
        · exact ⟨mem_at 0 rfl, mem_at 1 rfl, trivial⟩
        · rfl
    · have h := cond_f h h1;refine TC.exit rfl ?_;refine tr ?_;refine qa ?_;refine TL.nil ?_;cases h;exact retJ [] (.tmp rfl .nil) rfl trivial rfl rfl
def ev_slices_IndexFunc_Lint_int (n : Nat) (s1 : List Int) (f2 : Int → Option Bool) : Option Int :=
  ev_slices_IndexFunc_Lint_int_l0 n s1 f2 n 0
theorem fc_slices_IndexFunc_Lint_int {n : Nat} {s1 : List Int} {f2 : Int → Option Bool} {r : Int} (h : ev_slices_IndexFunc_Lint_int n s1 f2 = some r) : FC Try.prog 74 [.ref 0, .ref 1] [.ro 0 1 (List.map en_int s1), .any 1 (D.fn Try.prog fe_funcint_bool fd_funcint_bool f2)] (vi r) [] := by
  refine introJ (nz := 19) Try.func74 rfl rfl rfl (fun w0 R0 env0 => ?_)
  rw [ev_slices_IndexFunc_Lint_int] at h;refine tr ?_;refine qa ?_;refine TL.nil ?_;refine TC.seq ?_;refine tr ?_;refine qm ?_;refine q1 0 rfl (sp_lenM (N := s1.length) (len_map _ _) rfl rfl isRo Try.underlying49) ?_;refine qm ?_;refine TL.nil ?_;refine TC.block ?_;refine TC.loop ?_;refine TC.seq ?_;refine subJ [] (ok_slices_IndexFunc_Lint_int_l0 _ _ h) ?_ ?_ ?_
  · exact ⟨rfl, rfl, rfl, rfl, trivial⟩
  · exact ⟨mem_at 0 rfl, mem_at 1 rfl, trivial⟩
  · rfl
def ev_slices_ContainsFunc_Lint_int (n : Nat) (s1 : List Int) (f2 : Int → Option Bool) : Option Bool :=
  (ev_slices_IndexFunc_Lint_int n s1 f2).bind fun r3 => some (decide ((0 : Int) ≤ r3))
theorem fc_slices_ContainsFunc_Lint_int {n : Nat} {s1 : List Int} {f2 : Int → Option Bool} {r : Bool} (h : ev_slices_ContainsFunc_Lint_int n s1 f2 = some r) : FC Try.prog 45 [.ref 0, .ref 1] [.ro 0 1 (List.map en_int s1), .any 1 (D.fn Try.prog fe_funcint_bool fd_funcint_bool f2)] (vb r) [] := by
  refine introJ (nz := 9) Try.func45 rfl rfl rfl (fun w0 R0 env0 => ?_)
  rw [ev_slices_ContainsFunc_Lint_int] at h;refine tr ?_;refine qa ?_;refine TL.nil ?_;refine tr ?_;refine qm ?_;refine qm ?_;obtain ⟨r3, h1, h⟩ := bind_inv h;refine opN (need := [.ro 0 1 (List.map en_int s1), .any 1 (D.fn Try.prog fe_funcint_bool fd_funcint_bool f2)]) [0, 1] ⟨rfl, rfl, trivial⟩ (sp_call (avs := [.ref 0, .ref 1]) (need := [.ro 0 1 (List.map en_int s1), .any 1 (D.fn Try.prog fe_funcint_bool fd_funcint_bool f2)]) (v := vi r3) (news := []) rfl rfl rfl Try.call74 (atJ [] [] (fc_slices_IndexFunc_Lint_int h1) rfl rfl) (.inl (roAll rfl))) rfl trivial rfl rfl ?_;refine q0 (sp_geq rfl rfl rfl) ?_;refine qa ?_;refine TL.nil ?_;cases h;exact retJ [] (.tmp rfl .nil) rfl trivial rfl rfl
def ev_slices_IndexFunc_Lapi_Span_api_Span_l0 (n : Nat) (s1 : List (Int × Int)) (f2 : (Int × Int) → Option Bool) : Nat → Int → Option Int
  | 0, _ => none
  | m + 1, i3 => cond (decide (i3 < (s1.length : Int))) (idx s1 i3 fun x4 => (f2 (x4.1, x4.2)).bind fun r5 => cond r5 (some i3) (chk (in64 (i3 + 1)) <| ev_slices_IndexFunc_Lapi_Span_api_Span_l0 n s1 f2 m (i3 + 1))) (some (-1))
theorem ok_slices_IndexFunc_Lapi_Span_api_Span_l0 {n : Nat} {w0 : World} {R0 : Nat → Prop} {env0 : Env} {r : Int} {s1 : List (Int × Int)} {f2 : (Int × Int) → Option Bool} : ∀ (m : Nat) (i3 : Int), ev_slices_IndexFunc_Lapi_Span_api_Span_l0 n s1 f2 m i3 = some r → TC Try.prog ⟨w0, fun _ => False, R0⟩ 19 (bodyPost Try.prog Try.f98 (Post ⟨w0, fun _ => False, R0⟩ env0 (vi r) [])) [.code (sub (bodyOf Try.f98) [1, 0, 1, 0, 0, 0]), .code (sub (bodyOf Try.f98) [1, 0, 1, 0, 0, 1]), .inLoop (sub (bodyOf Try.f98) [1, 0, 1, 0, 0]), .inBlock 0, .code (sub (bodyOf Try.f98) [1, 1])] ([(0, .ref 0), (1, .ref 1), (7, vi (s1.length : Int)), (8, vi i3)]) ([.ro 0 2 (List.map en_api_Span s1), .any 1 (D.fn Try.prog fe_funcapi_Span_bool fd_funcapi_Span_bool f2)]) := by
  intro m
  induction m with
  | zero => intro i3 h; exact none_no h
  | succ m ih =>
    intro i3 h;rw [ev_slices_IndexFunc_Lapi_Span_api_Span_l0] at h;refine TC.region ?_;refine q0 (sp_lss rfl rfl rfl) ?_;refine TL.nil ?_;refine TC.seq ?_;refine TC.cond (b := (decide (i3 < (s1.length : Int)))) rfl (fun h1 => ?_) (fun h1 => ?_)
    · have h := cond_t h h1;refine TC.skip ?_;refine TC.seq ?_;refine TC.block ?_;refine tr ?_;refine qm ?_;refine qa ?_;refine TL.nil ?_;refine tr ?_;refine qm ?_;refine qm ?_;refine qm ?_;obtain ⟨x4, h2, h3, h⟩ := idx_inv h;refine q1 0 rfl (sp_indexS rfl rfl rfl isRo sl38 h2 (map_get _ h3)) ?_;refine q1 0 rfl (sp_loadRA (i := (i3 : Int).toNat) (j := 0) (as_ := [vi x4.1, vi x4.2]) (ns := []) rfl rfl isRo vt25 rfl (map_get _ h3) rfl rfl (by decide) (.v (.v (.nil))) (nodup_of_B rfl)) ?_;obtain ⟨r5, h4, h⟩ := bind_inv h;refine q1 1 rfl (sp_callF (avs := [.agg [vi x4.1, vi x4.2]]) (v := vb r5) (x4.1, x4.2) rfl rfl rfl rfl rfl h4) ?_;refine TL.nil ?_;refine TC.cond (b := r5) rfl (fun h5 => ?_) (fun h5 => ?_)
      · have h := cond_t h h5;refine tr ?_;refine qm ?_;refine qa ?_;refine TL.nil ?_;cases h;exact retJ [] (.tmp rfl .nil) rfl trivial rfl rfl
      · have h := cond_f h h5;refine TC.skip ?_;refine TC.inBlock ?_;refine TC.region ?_;obtain ⟨h6, h⟩ := chk_inv h;refine q0 (sp_add rfl rfl rfl h6) ?_;refine qm ?_;refine TL.nil ?_;refine TC.inLoop ?_;refine TC.seq ?_;refine subJ [] (ih _ h) ?_ ?_ ?_
        · exact ⟨rfl, rfl, rfl, rfl, trivial⟩
        · exact ⟨mem_at 0 rfl, mem_at 1 rfl, trivial⟩
        · rfl
    · have h := cond_f h h1;refine TC.exit rfl ?_;refine tr ?_;refine qa ?_;refine TL.nil ?_;cases h;exact retJ [] (.tmp rfl .nil) rfl trivial rfl rfl
def ev_slices_IndexFunc_Lapi_Span_api_Span (n : Nat) (s1 : List (Int × Int)) (f2 : (Int × Int) → Option Bool) : Option Int :=
  ev_slices_IndexFunc_Lapi_Span_api_Span_l0 n s1 f2 n 0
theorem fc_slices_IndexFunc_Lapi_Span_api_Span {n : Nat} {s1 : List (Int × Int)} {f2 : (Int × Int) → Option Bool} {r : Int} (h : ev_slices_IndexFunc_Lapi_Span_api_Span n s1 f2 = some r) : FC Try.prog 98 [.ref 0, .ref 1] [.ro 0 2 (List.map en_api_Span s1), .any 1 (D.fn Try.prog fe_funcapi_Span_bool fd_funcapi_Span_bool f2)] (vi r) [] := by
  refine introJ (nz := 19) Try.func98 rfl rfl rfl (fun w0 R0 env0 => ?_)
  rw [ev_slices_IndexFunc_Lapi_Span_api_Span] at h;refine tr ?_;refine qa ?_;refine TL.nil ?_;refine TC.seq ?_;refine tr ?_;refine qm ?_;refine q1 0 rfl (sp_lenM (N := s1.length) (len_map _ _) rfl rfl isRo Try.underlying38) ?_;refine qm ?_;refine TL.nil ?_;refine TC.block ?_;refine TC.loop ?_;refine TC.seq ?_;refine subJ [] (ok_slices_IndexFunc_Lapi_Span_api_Span_l0 _ _ h) ?_ ?_ ?_
  · exact ⟨rfl, rfl, rfl, rfl, trivial⟩
  · exact ⟨mem_at 0 rfl, mem_at 1 rfl, trivial⟩
  · rfl
def ev_slices_ContainsFunc_Lapi_Span_api_Span (n : Nat) (s1 : List (Int × Int)) (f2 : (Int × Int) → Option Bool) : Option Bool :=
  (ev_slices_IndexFunc_Lapi_Span_api_Span n s1 f2).bind fun r3 => some (decide ((0 : Int) ≤ r3))
theorem fc_slices_ContainsFunc_Lapi_Span_api_Span {n : Nat} {s1 : List (Int × Int)} {f2 : (Int × Int) → Option Bool} {r : Bool} (h : ev_slices_ContainsFunc_Lapi_Span_api_Span n s1 f2 = some r) : FC Try.prog 91 [.ref 0, .ref 1] [.ro 0 2 (List.map en_api_Span s1), .any 1 (D.fn Try.prog fe_funcapi_Span_bool fd_funcapi_Span_bool f2)] (vb r) [] := by
  refine introJ (nz := 9) Try.func91 rfl rfl rfl (fun w0 R0 env0 => ?_)
  rw [ev_slices_ContainsFunc_Lapi_Span_api_Span] at h;refine tr ?_;refine qa ?_;refine TL.nil ?_;refine tr ?_;refine qm ?_;refine qm ?_;obtain ⟨r3, h1, h⟩ := bind_inv h;refine opN (need := [.ro 0 2 (List.map en_api_Span s1), .any 1 (D.fn Try.prog fe_funcapi_Span_bool fd_funcapi_Span_bool f2)]) [0, 1] ⟨rfl, rfl, trivial⟩ (sp_call (avs := [.ref 0, .ref 1]) (need := [.ro 0 2 (List.map en_api_Span s1), .any 1 (D.fn Try.prog fe_funcapi_Span_bool fd_funcapi_Span_bool f2)]) (v := vi r3) (news := []) rfl rfl rfl Try.call98 (atJ [] [] (fc_slices_IndexFunc_Lapi_Span_api_Span h1) rfl rfl) (.inl (roAll rfl))) rfl trivial rfl rfl ?_;refine q0 (sp_geq rfl rfl rfl) ?_;refine qa ?_;refine TL.nil ?_;cases h;exact retJ [] (.tmp rfl .nil) rfl trivial rfl rfl
def ev_slices_Min_Lint_int_l1 (n : Nat) (x1 : List Int) : Nat → Int → Int → Option Int
  | 0, _, _ => none
  | m + 1, i3, i4 => cond (decide (i4 < (x1.length : Int))) (idx x1 i4 fun x5 => chk (in64 (i4 + 1)) <| ev_slices_Min_Lint_int_l1 n x1 m (min i3 x5) (i4 + 1)) (some i3)
theorem ok_slices_Min_Lint_int_l1 {n : Nat} {w0 : World} {R0 : Nat → Prop} {env0 : Env} {r : Int} {x1 : List Int} : ∀ (m : Nat) (i3 : Int) (i4 : Int), ev_slices_Min_Lint_int_l1 n x1 m i3 i4 = some r → TC Try.prog ⟨w0, fun _ => False, R0⟩ 25 (bodyPost Try.prog Try.f72 (Post ⟨w0, fun _ => False, R0⟩ env0 (vi r) [])) [.code (sub (bodyOf Try.f72) [1, 1, 1, 0, 1, 0, 0, 0, 0]), .code (sub (bodyOf Try.f72) [1, 1, 1, 0, 1, 0, 0, 0, 1]), .code (sub (bodyOf Try.f72) [1, 1, 1, 0, 1, 0, 0, 1]), .inLoop (sub (bodyOf Try.f72) [1, 1, 1, 0, 1, 0, 0]), .inBlock 0, .code (sub (bodyOf Try.f72) [1, 1, 1, 1])] ([(0, .ref 0), (3, vi i3), (4, vi i4)]) ([.ro 0 1 (List.map en_int x1)]) := by
  intro m
  induction m with
  | zero => intro i3 i4 h; exact none_no h
  | succ m ih =>
    intro i3 i4 h;rw [ev_slices_Min_Lint_int_l1] at h;refine TC.region ?_;refine qm ?_;refine qm ?_;refine q1 0 rfl (sp_lenM (N := x1.length) (len_map _ _) rfl rfl isRo Try.underlying49) ?_;refine q0 (sp_lss rfl rfl rfl) ?_;refine TL.nil ?_;refine TC.cond (b := (decide (i4 < (x1.length : Int)))) rfl (fun h4 => ?_) (fun h4 => ?_)
    · have h := cond_t h h4;refine TC.skip ?_;refine TC.seq ?_;refine TC.block ?_;refine TC.region ?_;refine qm ?_;refine qm ?_;refine qm ?_;obtain ⟨x5, h5, h6, h⟩ := idx_inv h;refine q1 0 rfl (sp_indexS rfl rfl rfl isRo sl49 h5 (map_get _ h6)) ?_;refine q1 0 rfl (sp_loadR (i := (i4 : Int).toNat) (j := 0) rfl rfl isRo vt3 rfl (map_get _ h6) rfl (.v (.nil)) (nodup_of_B rfl)) ?_;refine q0 (sp_min rfl rfl rfl) ?_;refine qa ?_;refine TL.nil ?_;refine TC.inBlock ?_;refine TC.region ?_;refine qm ?_;obtain ⟨h7, h⟩ := chk_inv h;refine q0 (sp_add rfl rfl rfl h7) ?_;refine qa ?_;refine TL.nil ?_;refine TC.inLoop ?_;refine TC.seq ?_;refine TC.seq ?_;refine subJ [] (ih _ _ h) ?_ ?_ ?_
      · exact ⟨rfl, rfl, rfl, trivial⟩
      · exact ⟨mem_at 0 rfl, trivial⟩
      · rfl
    · have h := cond_f h h4;refine TC.exit rfl ?_;refine tr ?_;refine qm ?_;refine qa ?_;refine TL.nil ?_;cases h;exact retJ [] (.tmp rfl .nil) rfl trivial rfl rfl
def ev_slices_Min_Lint_int_j0 (n : Nat) (x1 : List Int) : Option Int :=
  idx x1 0 fun x2 => ev_slices_Min_Lint_int_l1 n x1 n x2 1
theorem ok_slices_Min_Lint_int_j0 {n : Nat} {w0 : World} {R0 : Nat → Prop} {env0 : Env} {r : Int} {x1 : List Int} (h : ev_slices_Min_Lint_int_j0 n x1 = some r) : TC Try.prog ⟨w0, fun _ => False, R0⟩ 25 (bodyPost Try.prog Try.f72 (Post ⟨w0, fun _ => False, R0⟩ env0 (vi r) [])) [.code (sub (bodyOf Try.f72) [1, 1, 0]), .code (sub (bodyOf Try.f72) [1, 1, 1])] ([(0, .ref 0)]) ([.ro 0 1 (List.map en_int x1)]) := by
  rw [ev_slices_Min_Lint_int_j0] at h;refine TC.region ?_;refine qm ?_;obtain ⟨x2, h2, h3, h⟩ := idx_inv h;refine q1 0 rfl (sp_indexS rfl rfl rfl isRo sl49 h2 (map_get _ h3)) ?_;refine q1 0 rfl (sp_loadR (i := (0 : Int).toNat) (j := 0) rfl rfl isRo vt3 rfl (map_get _ h3) rfl (.v (.nil)) (nodup_of_B rfl)) ?_;refine qa ?_;refine TL.nil ?_;refine TC.seq ?_;refine tr ?_;refine qa ?_;refine TL.nil ?_;refine TC.block ?_;refine TC.loop ?_;refine TC.seq ?_;refine TC.seq ?_;refine subJ [] (ok_slices_Min_Lint_int_l1 _ _ _ h) ?_ ?_ ?_
  · exact ⟨rfl, rfl, rfl, trivial⟩
  · exact ⟨mem_at 0 rfl, trivial⟩
  · rfl
def ev_slices_Min_Lint_int (n : Nat) (x1 : List Int) : Option Int :=
  cond (decide ((x1.length : Int) < 1)) (none) (ev_slices_Min_Lint_int_j0 n x1)
theorem fc_slices_Min_Lint_int {n : Nat} {x1 : List Int} {r : Int} (h : ev_slices_Min_Lint_int n x1 = some r) : FC Try.prog 72 [.ref 0] [.ro 0 1 (List.map en_int x1)] (vi r) [] := by
  refine introJ (nz := 25) Try.func72 rfl rfl rfl (fun w0 R0 env0 => ?_)
  rw [ev_slices_Min_Lint_int] at h;refine tr ?_;refine qa ?_;refine TL.nil ?_;refine TC.seq ?_;refine tr ?_;refine qm ?_;refine q1 0 rfl (sp_lenM (N := x1.length) (len_map _ _) rfl rfl isRo Try.underlying49) ?_;refine q0 (sp_lss rfl rfl rfl) ?_;refine TL.nil ?_;refine TC.cond (b := (decide ((x1.length : Int) < 1))) rfl (fun h1 => ?_) (fun h1 => ?_)
  · have h := cond_t h h1;refine TC.region ?_;exact none_no h
  · have h := cond_f h h1;refine TC.skip ?_;refine TC.seq ?_;refine subJ [] (ok_slices_Min_Lint_int_j0 h) ?_ ?_ ?_
    · exact ⟨rfl, trivial⟩
    · exact ⟨mem_at 0 rfl, trivial⟩
    · rfl
def ev_slices_Max_Lint_int_l1 (n : Nat) (x1 : List Int) : Nat → Int → Int → Option Int
  | 0, _, _ => none
  | m + 1, i3, i4 => cond (decide (i4 < (x1.length : Int))) (idx x1 i4 fun x5 => chk (in64 (i4 + 1)) <| ev_slices_Max_Lint_int_l1 n x1 m (max i3 x5) (i4 + 1)) (some i3)
theorem ok_slices_Max_Lint_int_l1 {n : Nat} {w0 : World} {R0 : Nat → Prop} {env0 : Env} {r : Int} {x1 : List Int} : ∀ (m : Nat) (i3 : Int) (i4 : Int), ev_slices_Max_Lint_int_l1 n x1 m i3 i4 = some r → TC Try.prog ⟨w0, fun _ => False, R0⟩ 25 (bodyPost Try.prog Try.f73 (Post ⟨w0, fun _ => False, R0⟩ env0 (vi r) [])) [.code (sub (bodyOf Try.f73) [1, 1, 1, 0, 1, 0, 0, 0, 0]), .code (sub (bodyOf Try.f73) [1, 1, 1, 0, 1, 0, 0, 0, 1]), .code (sub (bodyOf Try.f73) [1, 1, 1, 0, 1, 0, 0, 1]), .inLoop (sub (bodyOf Try.f73) [1, 1, 1, 0, 1, 0, 0]), .inBlock 0, .code (sub (bodyOf Try.f73) [1, 1, 1, 1])] ([(0, .ref 0), (3, vi i3), (4, vi i4)]) ([.ro 0 1 (List.map en_int x1)]) := by
  intro m
  induction m with
  | zero => intro i3 i4 h; exact none_no h
  | succ m ih =>
    intro i3 i4 h;rw [ev_slices_Max_Lint_int_l1] at h;refine TC.region ?_;refine qm ?_;refine qm ?_;refine q1 0 rfl (sp_lenM (N := x1.length) (len_map _ _) rfl rfl isRo Try.underlying49) ?_;refine q0 (sp_lss rfl rfl rfl) ?_;refine TL.nil ?_;refine TC.cond (b := (decide (i4 < (x1.length : Int)))) rfl (fun h4 => ?_) (fun h4 => ?_)
    · have h := cond_t h h4;refine TC.skip ?_;refine TC.seq ?_;refine TC.block ?_;refine TC.region ?_;refine qm ?_;refine qm ?_;refine qm ?_;obtain ⟨x5, h5, h6, h⟩ := idx_inv h;refine q1 0 rfl (sp_indexS rfl rfl rfl isRo sl49 h5 (map_get _ h6)) ?_;refine q1 0 rfl (sp_loadR (i := (i4 : Int).toNat) (j := 0) rfl rfl isRo vt3 rfl (map_get _ h6) rfl (.v (.nil)) (nodup_of_B rfl)) ?_;refine q0 (sp_max rfl rfl rfl) ?_;refine qa ?_;refine TL.nil ?_;refine TC.inBlock ?_;refine TC.region ?_;refine qm ?_;obtain ⟨h7, h⟩ := chk_inv h;refine q0 (sp_add rfl rfl rfl h7) ?_;refine qa ?_;refine TL.nil ?_;refine TC.inLoop ?_;refine TC.seq ?_;refine TC.seq ?_;refine subJ [] (ih _ _ h) ?_ ?_ ?_
      · exact ⟨rfl, rfl, rfl, trivial⟩
      · exact ⟨mem_at 0 rfl, trivial⟩
      · rfl
    · have h := cond_f h h4;refine TC.exit rfl ?_;refine tr ?_;refine qm ?_;refine qa ?_;refine TL.nil ?_;cases h;exact retJ [] (.tmp rfl .nil) rfl trivial rfl rfl
def ev_slices_Max_Lint_int_j0 (n : Nat) (x1 : List Int) : Option Int :=
  idx x1 0 fun x2 => ev_slices_Max_Lint_int_l1 n x1 n x2 1
theorem ok_slices_Max_Lint_int_j0 {n : Nat} {w0 : World} {R0 : Nat → Prop} {env0 : Env} {r : Int} {x1 : List Int} (h : ev_slices_Max_Lint_int_j0 n x1 = some r) : TC Try.prog ⟨w0, fun _ => False, R0⟩ 25 (bodyPost Try.prog Try.f73 (Post ⟨w0, fun _ => False, R0⟩ env0 (vi r) [])) [.code (sub (bodyOf Try.f73) [1, 1, 0]), .code (sub (bodyOf Try.f73) [1, 1, 1])] ([(0, .ref 0)]) ([.ro 0 1 (List.map en_int x1)]) := by
  rw [ev_slices_Max_Lint_int_j0] at h;refine TC.region ?_;refine qm ?_;obtain ⟨x2, h2, h3, h⟩ := idx_inv h;refine q1 0 rfl (sp_indexS rfl rfl rfl isRo sl49 h2 (map_get _ h3)) ?_;refine q1 0 rfl (sp_loadR (i := (0 : Int).toNat) (j := 0) rfl rfl isRo vt3 rfl (map_get _ h3) rfl (.v (.nil)) (nodup_of_B rfl)) ?_;refine qa ?_;refine TL.nil ?_;refine TC.seq ?_;refine tr ?_;refine qa ?_;refine TL.nil ?_;refine TC.block ?_;refine TC.loop ?_;refine TC.seq ?_;refine TC.seq ?_;refine subJ [] (ok_slices_Max_Lint_int_l1 _ _ _ h) ?_ ?_ ?_
  · exact ⟨rfl, rfl, rfl, trivial⟩
  · exact ⟨mem_at 0 rfl, trivial⟩
  · rfl
def ev_slices_Max_Lint_int (n : Nat) (x1 : List Int) : Option Int :=
  cond (decide ((x1.length : Int) < 1)) (none) (ev_slices_Max_Lint_int_j0 n x1)
theorem fc_slices_Max_Lint_int {n : Nat} {x1 : List Int} {r : Int} (h : ev_slices_Max_Lint_int n x1 = some r) : FC Try.prog 73 [.ref 0] [.ro 0 1 (List.map en_int x1)] (vi r) [] := by
  refine introJ (nz := 25) Try.func73 rfl rfl rfl (fun w0 R0 env0 => ?_)
  rw [ev_slices_Max_Lint_int] at h;refine tr ?_;refine qa ?_;refine TL.nil ?_;refine TC.seq ?_;refine tr ?_;refine qm ?_;refine q1 0 rfl (sp_lenM (N := x1.length) (len_map _ _) rfl rfl isRo Try.underlying49) ?_;refine q0 (sp_lss rfl rfl rfl) ?_;refine TL.nil ?_;refine TC.cond (b := (decide ((x1.length : Int) < 1))) rfl (fun h1 => ?_) (fun h1 => ?_)
  · have h := cond_t h h1;refine TC.region ?_;exact none_no h
  · have h := cond_f h h1;refine TC.skip ?_;refine TC.seq ?_;refine subJ [] (ok_slices_Max_Lint_int_j0 h) ?_ ?_ ?_
    · exact ⟨rfl, trivial⟩
    · exact ⟨mem_at 0 rfl, trivial⟩
    · rfl
def ev_top_pubRest (n : Nat) (nn1 : Int) (by_2 : Int) : Option Int :=
  chk (by_2 != 0) <| chk (in64 ((Int.tmod nn1 by_2) + by_2)) <| chk (by_2 != 0) <| some (Int.tmod ((Int.tmod nn1 by_2) + by_2) by_2)
theorem fc_top_pubRest {n : Nat} {nn1 : Int} {by_2 : Int} {r : Int} (h : ev_top_pubRest n nn1 by_2 = some r) : FC Try.prog 14 [vi nn1, vi by_2] [] (vi r) [] := by
  refine introJ (nz := 12) Try.func14 rfl rfl rfl (fun w0 R0 env0 => ?_)
  rw [ev_top_pubRest] at h;refine tr ?_;refine qa ?_;refine TL.nil ?_;refine tr ?_;refine qm ?_;refine qm ?_;obtain ⟨h1, h⟩ := chk_inv h;refine q0 (sp_rem rfl rfl rfl h1) ?_;refine qm ?_;obtain ⟨h2, h⟩ := chk_inv h;refine q0 (sp_add rfl rfl rfl h2) ?_;refine qm ?_;obtain ⟨h3, h⟩ := chk_inv h;refine q0 (sp_rem rfl rfl rfl h3) ?_;refine qa ?_;refine TL.nil ?_;cases h;exact retJ [] (.tmp rfl .nil) rfl trivial rfl rfl
end
end Go.Proofs.Ythgbjhglhejalaa.Sy
