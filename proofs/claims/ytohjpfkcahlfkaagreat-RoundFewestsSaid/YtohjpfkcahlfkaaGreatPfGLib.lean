/- What functions of the program compute, and that they do: printed by symgen.py. -/
import Derived.Test.YtohjpfkcahlfkaaGreatPfSymRR
import Derived.Test.YtohjpfkcahlfkaaGreatProg
set_option linter.unusedSimpArgs false
set_option linter.unusedVariables false
namespace Go.Proofs.YtohjpfkcahlfkaaGreat.Sy
open Go.RowKit
noncomputable section
abbrev vi (x : Int) : AV := .val (.int .i64 x)
abbrev LT := List (Int × Int × Int × Int × Int)
abbrev LW := List (Int × Int × Int × Int)
abbrev LL := List ((List Int))
abbrev vb (x : Bool) : AV := .val (.bool x)
abbrev vu (x : Int) : AV := .val (.int .u16 x)
section
variable {P : Program} {c : Ctx} {sz : Fm} {Q : Exit → Act → World → Prop} {t : List Item} {s : List (Nat × AV)} {V : List NEnt} {ops : Array Oper} {rest : List Oper} {o : Oper}
theorem q0 {v : AV} {news : List NEnt} {d : Nat} (hs : OpSpec P o (rho s) [] v news) (k : TL P c sz Q ops rest t ((d, v) :: s) (news ++ V)) (hd : o.dst = some d := by exact rfl) (hw : Wanted ops s o := by exact trivial) (hlt : Nat.blt d sz.sz = true := by exact rfl) (hf : freshN news s V = true := by exact rfl) : TL P c sz Q ops (o :: rest) t s V := op0 hs hd hw hlt hf k
theorem q1 {v : AV} {news : List NEnt} {d : Nat} {y : NEnt} (i : Nat) (hy : V[i]? = some y) (hs : OpSpec P o (rho s) [y] v news) (k : TL P c sz Q ops rest t ((d, v) :: s) (news ++ V)) (hd : o.dst = some d := by exact rfl) (hw : Wanted ops s o := by exact trivial) (hlt : Nat.blt d sz.sz = true := by exact rfl) (hf : freshN news s V = true := by exact rfl) : TL P c sz Q ops (o :: rest) t s V := op1 i hy hs hd hw hlt hf k
theorem q2 {v : AV} {news : List NEnt} {d : Nat} {y : NEnt} (i : Nat) (hy : V[i]? = some y) (hs : OpSpec P o (rho s) [y] v news) (k : TL P c sz Q ops rest t ((d, v) :: s) (news ++ V)) (hd : o.dst = some d := by exact rfl) (hw : Wanted ops s o := by exact ⟨_, rfl, rfl⟩) (hlt : Nat.blt d sz.sz = true := by exact rfl) (hf : freshN news s V = true := by exact rfl) : TL P c sz Q ops (o :: rest) t s V := op1 i hy hs hd hw hlt hf k
theorem q3 {v : AV} {news : List NEnt} {d : Nat} (hs : OpSpec P o (rho s) [] v news) (k : TL P c sz Q ops rest t ((d, v) :: s) (news ++ V)) (hd : o.dst = some d := by exact rfl) (hw : Wanted ops s o := by exact ⟨_, rfl, rfl⟩) (hlt : Nat.blt d sz.sz = true := by exact rfl) (hf : freshN news s V = true := by exact rfl) : TL P c sz Q ops (o :: rest) t s V := op0 hs hd hw hlt hf k
theorem qs {d : Nat} (k : TL P c sz Q ops rest t ((d, .val undef) :: s) V) (hd : o.dst = some d := by exact rfl) (hw : Unwanted ops s o := by exact ⟨_, rfl, .inl rfl⟩) (hlt : Nat.blt d sz.sz = true := by exact rfl) : TL P c sz Q ops (o :: rest) t s V := opSkip hd hw hlt k
theorem qa {d : Nat} {x : Operand} {v : AV} (k : TL P c sz Q ops rest t ((d, v) :: s) V) (hd : o.dst = some d := by exact rfl) (ho : o.op = .assign x := by exact rfl) (hx : rho s x = some v := by exact rfl) (hw : Wanted ops s o := by exact trivial) (hlt : Nat.blt d sz.sz = true := by exact rfl) (hf : freshN [] s V = true := by exact rfl) : TL P c sz Q ops (o :: rest) t s V := op0 (sp_assign ho hx) hd hw hlt hf k
theorem tr {x : List Oper} {y : Code} {id : Nat} (h : TL P c sz Q x.toArray x (.code y :: t) s V) : TC P c sz Q (.code (.seq (.region id x.toArray false) y) :: t) s V := TC.seq (TC.region h)
theorem qm {d : Nat} {x : Operand} {v : AV} (k : TL P c sz Q ops rest t ((d, v) :: s) V) (hd : o.dst = some d := by exact rfl) (ho : o.op = .move x := by exact rfl) (hx : rho s x = some v := by exact rfl) (hw : Wanted ops s o := by exact trivial) (hlt : Nat.blt d sz.sz = true := by exact rfl) (hf : freshN [] s V = true := by exact rfl) : TL P c sz Q ops (o :: rest) t s V := op0 (sp_move ho hx) hd hw hlt hf k
end
section
variable {P : Program} {s : List (Nat × AV)} {o : Oper} {ops : Array Oper} {V : List NEnt} {outs : List DO} {i : Nat} {l : List Oper} {d : DO} {ds : List DO}
theorem dp2 (ps : List (Option Nat × Nat)) (hs : OpSpec P o (rho s) d.need d.v d.news) (hn : From ops outs V i ps d.need) (h : DAll P ops outs V (i + 1) l ds (putS o d.v s)) (hw : Wanted ops s o := by exact trivial) (ht : d.take = [] := by exact rfl) : DAll P ops outs V i (o :: l) (d :: ds) s := .op' hs hw ht (From.ok hn) h
theorem dp0 (hs : OpSpec P o (rho s) d.need d.v d.news) (h : DAll P ops outs V (i + 1) l ds (putS o d.v s)) (hw : Wanted ops s o := by exact trivial) (ht : d.take = [] := by exact rfl) (hn : From ops outs V i [] d.need := by exact trivial) : DAll P ops outs V i (o :: l) (d :: ds) s := .op' hs hw ht (From.ok hn) h
theorem dp1 (k : Nat) (hs : OpSpec P o (rho s) d.need d.v d.news) (h : DAll P ops outs V (i + 1) l ds (putS o d.v s)) (hw : Wanted ops s o := by exact trivial) (ht : d.take = [] := by exact rfl) (hn : From ops outs V i [(none, k)] d.need := by exact ⟨⟨rfl, rfl⟩, trivial⟩) : DAll P ops outs V i (o :: l) (d :: ds) s := .op' hs hw ht (From.ok hn) h
theorem dq2 (ps : List (Option Nat × Nat)) (hs : OpSpec P o (rho s) d.need d.v d.news) (hn : From ops outs V i ps d.need) (h : DAll P ops outs V (i + 1) l ds (putS o d.v s)) (hw : Wanted ops s o := by exact ⟨_, rfl, rfl⟩) (ht : d.take = [] := by exact rfl) : DAll P ops outs V i (o :: l) (d :: ds) s := .op' hs hw ht (From.ok hn) h
theorem dq0 (hs : OpSpec P o (rho s) d.need d.v d.news) (h : DAll P ops outs V (i + 1) l ds (putS o d.v s)) (hw : Wanted ops s o := by exact ⟨_, rfl, rfl⟩) (ht : d.take = [] := by exact rfl) (hn : From ops outs V i [] d.need := by exact trivial) : DAll P ops outs V i (o :: l) (d :: ds) s := .op' hs hw ht (From.ok hn) h
theorem dq1 (k : Nat) (hs : OpSpec P o (rho s) d.need d.v d.news) (h : DAll P ops outs V (i + 1) l ds (putS o d.v s)) (hw : Wanted ops s o := by exact ⟨_, rfl, rfl⟩) (ht : d.take = [] := by exact rfl) (hn : From ops outs V i [(none, k)] d.need := by exact ⟨⟨rfl, rfl⟩, trivial⟩) : DAll P ops outs V i (o :: l) (d :: ds) s := .op' hs hw ht (From.ok hn) h
end
set_option maxRecDepth 100000
set_option maxHeartbeats 2000000
def en_api_RoundTower : Int × Int × Int × Int × Int → List D := fun x => [D.v (.int .i64 x.1), D.v (.int .i64 x.2.1), D.v (.int .u16 x.2.2.1), D.v (.int .i64 x.2.2.2.1), D.v (.int .i64 x.2.2.2.2)]
def en_int : Int → List D := fun x => [D.v (.int .i64 x)]
theorem en_int_flat : ∀ a, ∀ d ∈ en_int a, ∃ x, d = D.v x := by
  intro a d h;simp only [en_int, List.mem_cons, List.not_mem_nil, or_false] at h;rcases h with rfl <;> exact ⟨_, rfl⟩
def en_Lint : (List Int) → List D := fun x => [D.s 1 (List.map en_int x)]
def en_api_RoundWinder : Int × Int × Int × Int → List D := fun x => [D.v (.int .u16 x.1), D.v (.int .i64 x.2.1), D.v (.int .i64 x.2.2.1), D.v (.int .i64 x.2.2.2)]
theorem vt26 : VarT Tryz.prog 26 5 true := ⟨Tryz.isAgg26, Tryz.sizeOf26⟩
theorem ft26_0 : FieldT Tryz.prog 26 0 0 22 := ⟨_, _, Tryz.underlying26, rfl, rfl, rfl⟩
theorem vt22 : VarT Tryz.prog 22 1 false := ⟨Tryz.isAgg22, Tryz.sizeOf22⟩
theorem ft26_2 : FieldT Tryz.prog 26 2 2 24 := ⟨_, _, Tryz.underlying26, rfl, rfl, rfl⟩
theorem vt24 : VarT Tryz.prog 24 1 false := ⟨Tryz.isAgg24, Tryz.sizeOf24⟩
theorem ft26_1 : FieldT Tryz.prog 26 1 1 23 := ⟨_, _, Tryz.underlying26, rfl, rfl, rfl⟩
theorem vt23 : VarT Tryz.prog 23 1 false := ⟨Tryz.isAgg23, Tryz.sizeOf23⟩
theorem sl23 : SlT Tryz.prog 23 27 1 24 := ⟨Tryz.underlying23, ⟨Tryz.t27, _, by kernel_rfl, rfl, rfl, rfl, rfl⟩, by decide⟩
theorem vt27 : VarT Tryz.prog 27 1 false := ⟨Tryz.isAgg27, Tryz.sizeOf27⟩
theorem bt71 : ∀ parts, Tryz.prog.built 71 parts = Instr.fill (fun i => (#[(0, 1), (1, 1), (2, 1), (3, 1), (4, 1)] : Array (Nat × Nat))[i]?) (AV.denL (fun _ => undef) [vi 0, vi 0, vu 0, vi 0, vi 0]).toArray parts := fun _ => by kernel_rfl
theorem sl22 : SlT Tryz.prog 22 71 5 40 := ⟨Tryz.underlying22, ⟨Tryz.t71, _, by kernel_rfl, rfl, rfl, rfl, rfl⟩, by decide⟩
theorem sl27 : SlT Tryz.prog 27 3 1 8 := ⟨Tryz.underlying27, ⟨Tryz.t3, _, by kernel_rfl, rfl, rfl, rfl, rfl⟩, by decide⟩
theorem bt50 : ∀ parts, Tryz.prog.built 50 parts = Instr.fill (fun i => (#[(0, 1), (1, 1), (2, 1), (3, 1)] : Array (Nat × Nat))[i]?) (AV.denL (fun _ => undef) [vu 0, vi 0, vi 0, vi 0]).toArray parts := fun _ => by kernel_rfl
theorem sl24 : SlT Tryz.prog 24 50 4 32 := ⟨Tryz.underlying24, ⟨Tryz.t50, _, by kernel_rfl, rfl, rfl, rfl, rfl⟩, by decide⟩
theorem bt26 : ∀ parts, Tryz.prog.built 26 parts = Instr.fill (fun i => (#[(0, 1), (1, 1), (2, 1), (3, 1), (4, 1)] : Array (Nat × Nat))[i]?) (AV.denL (fun _ => undef) [.val (.slice none 0 0), .val (.slice none 0 0), .val (.slice none 0 0), vi 0, vi 0]).toArray parts := fun _ => by kernel_rfl
theorem bt29 : ∀ parts, Tryz.prog.built 29 parts = Instr.fill (fun i => (#[(0, 1), (1, 1)] : Array (Nat × Nat))[i]?) (AV.denL (fun _ => undef) [vi 0, .val (.slice none 0 0)]).toArray parts := fun _ => by kernel_rfl
theorem vt3 : VarT Tryz.prog 3 1 false := ⟨Tryz.isAgg3, Tryz.sizeOf3⟩
def fe_funcint_bool : Int → List AV := fun a => [vi a]
def fd_funcint_bool : Bool → AV := fun b => vb b
def fe_funcapi_RoundTower_bool : Int × Int × Int × Int × Int → List AV := fun a => [.agg [vi a.1, vi a.2.1, vu a.2.2.1, vi a.2.2.2.1, vi a.2.2.2.2]]
def fd_funcapi_RoundTower_bool : Bool → AV := fun b => vb b
theorem ft71_0 : FieldT Tryz.prog 71 0 0 3 := ⟨_, _, Tryz.underlying71, rfl, rfl, rfl⟩
theorem ft71_1 : FieldT Tryz.prog 71 1 1 3 := ⟨_, _, Tryz.underlying71, rfl, rfl, rfl⟩
theorem ft71_3 : FieldT Tryz.prog 71 3 3 3 := ⟨_, _, Tryz.underlying71, rfl, rfl, rfl⟩
theorem ft71_4 : FieldT Tryz.prog 71 4 4 3 := ⟨_, _, Tryz.underlying71, rfl, rfl, rfl⟩
theorem vt71 : VarT Tryz.prog 71 5 true := ⟨Tryz.isAgg71, Tryz.sizeOf71⟩
theorem vt72 : VarT Tryz.prog 72 1 false := ⟨Tryz.isAgg72, Tryz.sizeOf72⟩
def fe_funcapi_RoundWinder_bool : Int × Int × Int × Int → List AV := fun a => [.agg [vu a.1, vi a.2.1, vi a.2.2.1, vi a.2.2.2]]
def fd_funcapi_RoundWinder_bool : Bool → AV := fun b => vb b
theorem ft50_1 : FieldT Tryz.prog 50 1 1 3 := ⟨_, _, Tryz.underlying50, rfl, rfl, rfl⟩
theorem ft50_2 : FieldT Tryz.prog 50 2 2 3 := ⟨_, _, Tryz.underlying50, rfl, rfl, rfl⟩
theorem ft50_3 : FieldT Tryz.prog 50 3 3 3 := ⟨_, _, Tryz.underlying50, rfl, rfl, rfl⟩
theorem vt50 : VarT Tryz.prog 50 4 true := ⟨Tryz.isAgg50, Tryz.sizeOf50⟩
theorem vt75 : VarT Tryz.prog 75 1 false := ⟨Tryz.isAgg75, Tryz.sizeOf75⟩
theorem ft26_3 : FieldT Tryz.prog 26 3 3 3 := ⟨_, _, Tryz.underlying26, rfl, rfl, rfl⟩
theorem ft26_4 : FieldT Tryz.prog 26 4 4 3 := ⟨_, _, Tryz.underlying26, rfl, rfl, rfl⟩
theorem ft29_0 : FieldT Tryz.prog 29 0 0 3 := ⟨_, _, Tryz.underlying29, rfl, rfl, rfl⟩
theorem ft29_1 : FieldT Tryz.prog 29 1 1 27 := ⟨_, _, Tryz.underlying29, rfl, rfl, rfl⟩
theorem bt80 : ∀ parts, Tryz.prog.built 80 parts = Instr.fill (fun i => (#[(0, 5), (5, 4), (9, 1), (10, 1), (11, 1), (12, 1), (13, 1)] : Array (Nat × Nat))[i]?) (AV.denL (fun _ => undef) [.val (.slice none 0 0), .val (.slice none 0 0), .val (.slice none 0 0), vi 0, vi 0, vu 0, vi 0, vi 0, vi 0, vi 0, vi 0, vi 0, vi 0, vi 0]).toArray parts := fun _ => by kernel_rfl
theorem vt80 : VarT Tryz.prog 80 14 true := ⟨Tryz.isAgg80, Tryz.sizeOf80⟩
theorem ft80_6 : FieldT Tryz.prog 80 6 13 3 := ⟨_, _, Tryz.underlying80, rfl, rfl, rfl⟩
theorem ft80_0 : FieldT Tryz.prog 80 0 0 26 := ⟨_, _, Tryz.underlying80, rfl, rfl, rfl⟩
theorem ft80_5 : FieldT Tryz.prog 80 5 12 3 := ⟨_, _, Tryz.underlying80, rfl, rfl, rfl⟩
theorem ft80_1 : FieldT Tryz.prog 80 1 5 50 := ⟨_, _, Tryz.underlying80, rfl, rfl, rfl⟩
theorem ft80_4 : FieldT Tryz.prog 80 4 11 3 := ⟨_, _, Tryz.underlying80, rfl, rfl, rfl⟩
theorem ft80_3 : FieldT Tryz.prog 80 3 10 78 := ⟨_, _, Tryz.underlying80, rfl, rfl, rfl⟩
theorem vt78 : VarT Tryz.prog 78 1 false := ⟨Tryz.isAgg78, Tryz.sizeOf78⟩
theorem ft71_2 : FieldT Tryz.prog 71 2 2 48 := ⟨_, _, Tryz.underlying71, rfl, rfl, rfl⟩
theorem vt48 : VarT Tryz.prog 48 1 false := ⟨Tryz.isAgg48, Tryz.sizeOf48⟩
theorem ft50_0 : FieldT Tryz.prog 50 0 0 48 := ⟨_, _, Tryz.underlying50, rfl, rfl, rfl⟩
theorem ft80_2 : FieldT Tryz.prog 80 2 9 3 := ⟨_, _, Tryz.underlying80, rfl, rfl, rfl⟩
theorem bt96 : ∀ parts, Tryz.prog.built 96 parts = Instr.fill (fun i => (#[(0, 1), (1, 1), (2, 1), (3, 1)] : Array (Nat × Nat))[i]?) (AV.denL (fun _ => undef) [vi 0, .val (.slice none 0 0), vi 0, vb false]).toArray parts := fun _ => by kernel_rfl
theorem ft96_3 : FieldT Tryz.prog 96 3 3 4 := ⟨_, _, Tryz.underlying96, rfl, rfl, rfl⟩
theorem vt4 : VarT Tryz.prog 4 1 false := ⟨Tryz.isAgg4, Tryz.sizeOf4⟩
theorem ft96_2 : FieldT Tryz.prog 96 2 2 3 := ⟨_, _, Tryz.underlying96, rfl, rfl, rfl⟩
theorem ft96_0 : FieldT Tryz.prog 96 0 0 78 := ⟨_, _, Tryz.underlying96, rfl, rfl, rfl⟩
theorem ft96_1 : FieldT Tryz.prog 96 1 1 27 := ⟨_, _, Tryz.underlying96, rfl, rfl, rfl⟩
def en_api_RoundTrip : Int × (List Int) → List D := fun x => [D.v (.int .i64 x.1), D.s 1 (List.map en_int x.2)]
def mk102 : Int × Int → Value := fun k => .agg #[.int .i64 k.1, .int .i64 k.2]
theorem kc102 (b : Bool) (k : Int × Int) (w : World) (n : Nat) : (Instr.checkKey b (n + 2) 140 (mk102 k)).run Tryz.prog w = .ok () w := by
  simp [mk102, Instr.checkKey, go_sem, Tryz.underlying140, Tryz.underlying3, Tryz.isAgg140, Tryz.isAgg3, Tryz.sizeOf140, Tryz.sizeOf3, List.range', List.forIn_cons, List.forIn_nil]
theorem eq140 (a0 : Int) (a1 : Int) (b0 : Int) (b1 : Int) : EqT Tryz.prog 140 [.int .i64 a0, .int .i64 a1] [.int .i64 b0, .int .i64 b1] (((a0 == b0) && (a1 == b1))) := ⟨Tryz.eqGuardType140, fun w => by
  have key : ∀ n, (Op.equalIn (n + 1 + 1) 140 (.agg #[.int .i64 a0, .int .i64 a1]) (.agg #[.int .i64 b0, .int .i64 b1])).run Tryz.prog w = .ok (((a0 == b0) && (a1 == b1))) w := fun n => by
    simp [Op.equalIn, go_sem, Tryz.underlying140, Tryz.underlying3, Tryz.isAgg140, Tryz.isAgg3, Tryz.sizeOf140, Tryz.sizeOf3, List.range', List.forIn_cons, List.forIn_nil]
    (repeat' split) <;> simp_all
  exact key 9998⟩
theorem kq102 (k k' : Int × Int) (w : World) : (Op.equal 140 (mk102 k) (mk102 k')).run Tryz.prog w = .ok (k == k') w := by
  have h := (eq140 (k.1) (k.2) ((k').1) ((k').2)).2 w;show (Op.equalIn 10000 140 _ _).run Tryz.prog w = _;simp only [mk102];exact h
theorem km102 : MKey Tryz.prog 102 140 94 mk102 := mkey_agg2 Tryz.underlying102 Tryz.underlying140 (fun k es i => findNow_array k es i) (fun b k w => kc102 b k w 9998) kq102 (fun k => by simp [mk102, Instr.sameBits])
def en_round_search : Int × (List Int) × Int × Bool → List D := fun x => [D.v (.int .i64 x.1), D.s 1 (List.map en_int x.2.1), D.v (.int .i64 x.2.2.1), D.v (.bool x.2.2.2)]
def en_p_round_search : ((Int × (List Int) × Int × Bool)) → List D := fun x => [D.p 96 (en_round_search x)]
theorem bt104 : ∀ parts, Tryz.prog.built 104 parts = Instr.fill (fun i => (#[(0, 5), (5, 1)] : Array (Nat × Nat))[i]?) (AV.denL (fun _ => undef) [.val (.slice none 0 0), .val (.slice none 0 0), .val (.slice none 0 0), vi 0, vi 0, .val (.map none)]).toArray parts := fun _ => by kernel_rfl
theorem bt100 : ∀ parts, Tryz.prog.built 100 parts = Instr.fill (fun i => (#[(0, 1), (1, 1)] : Array (Nat × Nat))[i]?) (AV.denL (fun _ => undef) [.val (.slice none 0 0), vi 0]).toArray parts := fun _ => by kernel_rfl
theorem vt107 : VarT Tryz.prog 107 1 false := ⟨Tryz.isAgg107, Tryz.sizeOf107⟩
theorem vt100 : VarT Tryz.prog 100 2 true := ⟨Tryz.isAgg100, Tryz.sizeOf100⟩
theorem ft100_0 : FieldT Tryz.prog 100 0 0 52 := ⟨_, _, Tryz.underlying100, rfl, rfl, rfl⟩
theorem vt52 : VarT Tryz.prog 52 1 false := ⟨Tryz.isAgg52, Tryz.sizeOf52⟩
theorem ft100_1 : FieldT Tryz.prog 100 1 1 3 := ⟨_, _, Tryz.underlying100, rfl, rfl, rfl⟩
theorem sl52 : SlT Tryz.prog 52 29 2 32 := ⟨Tryz.underlying52, ⟨Tryz.t29, _, by kernel_rfl, rfl, rfl, rfl, rfl⟩, by decide⟩
theorem vt29 : VarT Tryz.prog 29 2 true := ⟨Tryz.isAgg29, Tryz.sizeOf29⟩
theorem vt101 : VarT Tryz.prog 101 1 false := ⟨Tryz.isAgg101, Tryz.sizeOf101⟩
theorem ft104_0 : FieldT Tryz.prog 104 0 0 26 := ⟨_, _, Tryz.underlying104, rfl, rfl, rfl⟩
def ye_funcround_set_round_set_bool : Int × Int → List AV := fun a => [vi a.1, vi a.2]
def yn_funcround_set_round_set_bool : Int × Int → List NEnt := fun a => []
theorem bt140 : ∀ parts, Tryz.prog.built 140 parts = Instr.fill (fun i => some (i * 1, 1)) (AV.denL (fun _ => undef) [vi 0, vi 0]).toArray parts := fun _ => by kernel_rfl
theorem vt140 : VarT Tryz.prog 140 2 true := ⟨Tryz.isAgg140, Tryz.sizeOf140⟩
theorem ft104_1 : FieldT Tryz.prog 104 1 5 102 := ⟨_, _, Tryz.underlying104, rfl, rfl, rfl⟩
theorem vt102 : VarT Tryz.prog 102 1 false := ⟨Tryz.isAgg102, Tryz.sizeOf102⟩
theorem bt63 : ∀ parts, Tryz.prog.built 63 parts = Instr.fill (fun i => (#[(0, 1), (1, 1)] : Array (Nat × Nat))[i]?) (AV.denL (fun _ => undef) [vi 0, .val (.slice none 0 0)]).toArray parts := fun _ => by kernel_rfl
def en_api_RoundDay : Int × (List Int) → List D := fun x => [D.v (.int .i64 x.1), D.s 1 (List.map en_int x.2)]
theorem sl64 : SlT Tryz.prog 64 63 2 32 := ⟨Tryz.underlying64, ⟨Tryz.t63, _, by kernel_rfl, rfl, rfl, rfl, rfl⟩, by decide⟩
theorem vt63 : VarT Tryz.prog 63 2 true := ⟨Tryz.isAgg63, Tryz.sizeOf63⟩
theorem ft63_0 : FieldT Tryz.prog 63 0 0 3 := ⟨_, _, Tryz.underlying63, rfl, rfl, rfl⟩
theorem ft63_1 : FieldT Tryz.prog 63 1 1 27 := ⟨_, _, Tryz.underlying63, rfl, rfl, rfl⟩
def ye_funcint_bool : Int → List AV := fun a => [vi a]
def yn_funcint_bool : Int → List NEnt := fun a => []
theorem sl109 : SlT Tryz.prog 109 3 1 8 := ⟨Tryz.underlying109, ⟨Tryz.t3, _, by kernel_rfl, rfl, rfl, rfl, rfl⟩, by decide⟩
theorem bt56 : ∀ parts, Tryz.prog.built 56 parts = Instr.fill (fun i => (#[(0, 1), (1, 1)] : Array (Nat × Nat))[i]?) (AV.denL (fun _ => undef) [.val (.slice none 0 0), vi 0]).toArray parts := fun _ => by kernel_rfl
theorem vt56 : VarT Tryz.prog 56 2 true := ⟨Tryz.isAgg56, Tryz.sizeOf56⟩
theorem bt87 : ∀ parts, Tryz.prog.built 87 parts = Instr.fill (fun i => (#[(0, 1), (1, 8), (9, 1), (10, 1), (11, 1)] : Array (Nat × Nat))[i]?) (AV.denL (fun _ => undef) [vi 0, vb false, vb false, vb false, vb false, vb false, vb false, vb false, vb false, vi 0, vi 0, vi 0]).toArray parts := fun _ => by kernel_rfl
theorem vt87 : VarT Tryz.prog 87 12 true := ⟨Tryz.isAgg87, Tryz.sizeOf87⟩
theorem ft87_4 : FieldT Tryz.prog 87 4 11 3 := ⟨_, _, Tryz.underlying87, rfl, rfl, rfl⟩
theorem ft87_3 : FieldT Tryz.prog 87 3 10 3 := ⟨_, _, Tryz.underlying87, rfl, rfl, rfl⟩
theorem ft87_1 : FieldT Tryz.prog 87 1 1 85 := ⟨_, _, Tryz.underlying87, rfl, rfl, rfl⟩
theorem vt85 : VarT Tryz.prog 85 8 true := ⟨Tryz.isAgg85, Tryz.sizeOf85⟩
def ax_bool : Bool → List AV := fun x => [vb x]
theorem ft87_2 : FieldT Tryz.prog 87 2 9 3 := ⟨_, _, Tryz.underlying87, rfl, rfl, rfl⟩
theorem ft87_0 : FieldT Tryz.prog 87 0 0 3 := ⟨_, _, Tryz.underlying87, rfl, rfl, rfl⟩
theorem ft56_0 : FieldT Tryz.prog 56 0 0 52 := ⟨_, _, Tryz.underlying56, rfl, rfl, rfl⟩
theorem ft56_1 : FieldT Tryz.prog 56 1 1 3 := ⟨_, _, Tryz.underlying56, rfl, rfl, rfl⟩
def ev_slices_IndexFunc_Lint_int_l0 (n : Nat) (s1 : List Int) (f2 : Int → Option Bool) : Nat → Int → Option Int
  | 0, _ => none
  | m + 1, i3 => cond (decide (i3 < (s1.length : Int))) (idx s1 i3 fun x4 => (f2 x4).bind fun r5 => cond r5 (some i3) (chk (in64 (i3 + 1)) <| ev_slices_IndexFunc_Lint_int_l0 n s1 f2 m (i3 + 1))) (some (-1))
theorem ok_slices_IndexFunc_Lint_int_l0 {n : Nat} {w0 : World} {R0 : Nat → Prop} {env0 : Env} {r : Int} {s1 : List Int} {f2 : Int → Option Bool} : ∀ (m : Nat) (i3 : Int), ev_slices_IndexFunc_Lint_int_l0 n s1 f2 m i3 = some r → TC Tryz.prog ⟨w0, fun _ => False, R0⟩ 19 (bodyPost Tryz.prog Tryz.f83 (Post ⟨w0, fun _ => False, R0⟩ env0 (vi r) [])) [.code (sub (bodyOf Tryz.f83) [1, 0, 1, 0, 0, 0]), .code (sub (bodyOf Tryz.f83) [1, 0, 1, 0, 0, 1]), .inLoop (sub (bodyOf Tryz.f83) [1, 0, 1, 0, 0]), .inBlock 0, .code (sub (bodyOf Tryz.f83) [1, 1])] ([(0, .ref 0), (1, .ref 1), (7, vi (s1.length : Int)), (8, vi i3)]) ([.ro 0 1 (List.map en_int s1), .any 1 (D.fn Tryz.prog fe_funcint_bool fd_funcint_bool f2)]) := by
  intro m
  induction m with
  | zero => intro i3 h; exact none_no h
  | succ m ih =>
    intro i3 h;rw [ev_slices_IndexFunc_Lint_int_l0] at h;refine TC.region ?_;refine q0 (sp_lss rfl rfl rfl) ?_;refine TL.nil ?_;refine TC.seq ?_;refine TC.cond (b := (decide (i3 < (s1.length : Int)))) rfl (fun h1 => ?_) (fun h1 => ?_)
    · have h := cond_t h h1;refine TC.skip ?_;refine TC.seq ?_;refine TC.block ?_;refine tr ?_;refine qm ?_;refine qa ?_;refine TL.nil ?_;refine tr ?_;refine qm ?_;refine qm ?_;refine qm ?_;obtain ⟨x4, h2, h3, h⟩ := idx_inv h;refine q1 0 rfl (sp_indexS rfl rfl rfl isRo sl27 h2 (map_get _ h3)) ?_;refine q1 0 rfl (sp_loadR (i := (i3 : Int).toNat) (j := 0) rfl rfl isRo vt3 rfl (map_get _ h3) rfl (.v (.nil)) (nodup_of_B rfl)) ?_;obtain ⟨r5, h4, h⟩ := bind_inv h;refine q1 1 rfl (sp_callF (avs := [vi x4]) (v := vb r5) x4 rfl rfl rfl rfl rfl h4) ?_;refine TL.nil ?_;refine TC.cond (b := r5) rfl (fun h5 => ?_) (fun h5 => ?_)
      · have h := cond_t h h5;refine tr ?_;refine qm ?_;refine qa ?_;refine TL.nil ?_;cases h;exact retJ [] (.tmp rfl .nil) rfl trivial rfl rfl
      · have h := cond_f h h5;refine TC.skip ?_;refine TC.inBlock ?_;refine TC.region ?_;obtain ⟨h6, h⟩ := chk_inv h;refine q0 (sp_add rfl rfl rfl h6) ?_;refine qm ?_;refine TL.nil ?_;refine TC.inLoop ?_;refine TC.seq ?_;refine subJ [] (ih _ h) ?_ ?_ ?_
        · exact ⟨rfl, rfl, rfl, rfl, trivial⟩
        · exact ⟨mem_at 0 rfl, mem_at 1 rfl, trivial⟩
        · rfl
    · have h := cond_f h h1;refine TC.exit rfl ?_;refine tr ?_;refine qa ?_;refine TL.nil ?_;cases h;exact retJ [] (.tmp rfl .nil) rfl trivial rfl rfl
def ev_slices_IndexFunc_Lint_int (n : Nat) (s1 : List Int) (f2 : Int → Option Bool) : Option Int :=
  ev_slices_IndexFunc_Lint_int_l0 n s1 f2 n 0
theorem fc_slices_IndexFunc_Lint_int {n : Nat} {s1 : List Int} {f2 : Int → Option Bool} {r : Int} (h : ev_slices_IndexFunc_Lint_int n s1 f2 = some r) : FC Tryz.prog 83 [.ref 0, .ref 1] [.ro 0 1 (List.map en_int s1), .any 1 (D.fn Tryz.prog fe_funcint_bool fd_funcint_bool f2)] (vi r) [] := by
  refine introJ (nz := 19) Tryz.func83 rfl rfl rfl (fun w0 R0 env0 => ?_)
  rw [ev_slices_IndexFunc_Lint_int] at h;refine tr ?_;refine qa ?_;refine TL.nil ?_;refine TC.seq ?_;refine tr ?_;refine qm ?_;refine q1 0 rfl (sp_lenM (N := s1.length) (len_map _ _) rfl rfl isRo Tryz.underlying27) ?_;refine qm ?_;refine TL.nil ?_;refine TC.block ?_;refine TC.loop ?_;refine TC.seq ?_;refine subJ [] (ok_slices_IndexFunc_Lint_int_l0 _ _ h) ?_ ?_ ?_
  · exact ⟨rfl, rfl, rfl, rfl, trivial⟩
  · exact ⟨mem_at 0 rfl, mem_at 1 rfl, trivial⟩
  · rfl
def ev_slices_ContainsFunc_Lint_int (n : Nat) (s1 : List Int) (f2 : Int → Option Bool) : Option Bool :=
  (ev_slices_IndexFunc_Lint_int n s1 f2).bind fun r3 => some (decide ((0 : Int) ≤ r3))
theorem fc_slices_ContainsFunc_Lint_int {n : Nat} {s1 : List Int} {f2 : Int → Option Bool} {r : Bool} (h : ev_slices_ContainsFunc_Lint_int n s1 f2 = some r) : FC Tryz.prog 54 [.ref 0, .ref 1] [.ro 0 1 (List.map en_int s1), .any 1 (D.fn Tryz.prog fe_funcint_bool fd_funcint_bool f2)] (vb r) [] := by
  refine introJ (nz := 9) Tryz.func54 rfl rfl rfl (fun w0 R0 env0 => ?_)
  rw [ev_slices_ContainsFunc_Lint_int] at h;refine tr ?_;refine qa ?_;refine TL.nil ?_;refine tr ?_;refine qm ?_;refine qm ?_;obtain ⟨r3, h1, h⟩ := bind_inv h;refine opN (need := [.ro 0 1 (List.map en_int s1), .any 1 (D.fn Tryz.prog fe_funcint_bool fd_funcint_bool f2)]) [0, 1] ⟨rfl, rfl, trivial⟩ (sp_call (avs := [.ref 0, .ref 1]) (need := [.ro 0 1 (List.map en_int s1), .any 1 (D.fn Tryz.prog fe_funcint_bool fd_funcint_bool f2)]) (v := vi r3) (news := []) rfl rfl rfl Tryz.call83 (atJ [] [] (fc_slices_IndexFunc_Lint_int h1) rfl rfl) (.inl (roAll rfl))) rfl trivial rfl rfl ?_;refine q0 (sp_geq rfl rfl rfl) ?_;refine qa ?_;refine TL.nil ?_;cases h;exact retJ [] (.tmp rfl .nil) rfl trivial rfl rfl
def ev_slices_IndexFunc_Lapi_RoundTower_api_RoundTower_l0 (n : Nat) (s1 : LT) (f2 : (Int × Int × Int × Int × Int) → Option Bool) : Nat → Int → Option Int
  | 0, _ => none
  | m + 1, i3 => cond (decide (i3 < (s1.length : Int))) (idx s1 i3 fun x4 => (f2 (x4.1, x4.2.1, x4.2.2.1, x4.2.2.2.1, x4.2.2.2.2)).bind fun r5 => cond r5 (some i3) (chk (in64 (i3 + 1)) <| ev_slices_IndexFunc_Lapi_RoundTower_api_RoundTower_l0 n s1 f2 m (i3 + 1))) (some (-1))
theorem ok_slices_IndexFunc_Lapi_RoundTower_api_RoundTower_l0 {n : Nat} {w0 : World} {R0 : Nat → Prop} {env0 : Env} {r : Int} {s1 : LT} {f2 : (Int × Int × Int × Int × Int) → Option Bool} : ∀ (m : Nat) (i3 : Int), ev_slices_IndexFunc_Lapi_RoundTower_api_RoundTower_l0 n s1 f2 m i3 = some r → TC Tryz.prog ⟨w0, fun _ => False, R0⟩ 19 (bodyPost Tryz.prog Tryz.f56 (Post ⟨w0, fun _ => False, R0⟩ env0 (vi r) [])) [.code (sub (bodyOf Tryz.f56) [1, 0, 1, 0, 0, 0]), .code (sub (bodyOf Tryz.f56) [1, 0, 1, 0, 0, 1]), .inLoop (sub (bodyOf Tryz.f56) [1, 0, 1, 0, 0]), .inBlock 0, .code (sub (bodyOf Tryz.f56) [1, 1])] ([(0, .ref 0), (1, .ref 1), (7, vi (s1.length : Int)), (8, vi i3)]) ([.ro 0 5 (List.map en_api_RoundTower s1), .any 1 (D.fn Tryz.prog fe_funcapi_RoundTower_bool fd_funcapi_RoundTower_bool f2)]) := by
  intro m
  induction m with
  | zero => intro i3 h; exact none_no h
  | succ m ih =>
    intro i3 h;rw [ev_slices_IndexFunc_Lapi_RoundTower_api_RoundTower_l0] at h;refine TC.region ?_;refine q0 (sp_lss rfl rfl rfl) ?_;refine TL.nil ?_;refine TC.seq ?_;refine TC.cond (b := (decide (i3 < (s1.length : Int)))) rfl (fun h1 => ?_) (fun h1 => ?_)
    · have h := cond_t h h1;refine TC.skip ?_;refine TC.seq ?_;refine TC.block ?_;refine tr ?_;refine qm ?_;refine qa ?_;refine TL.nil ?_;refine tr ?_;refine qm ?_;refine qm ?_;refine qm ?_;obtain ⟨x4, h2, h3, h⟩ := idx_inv h;refine q1 0 rfl (sp_indexS rfl rfl rfl isRo sl22 h2 (map_get _ h3)) ?_;refine q1 0 rfl (sp_loadRA (i := (i3 : Int).toNat) (j := 0) (as_ := [vi x4.1, vi x4.2.1, vu x4.2.2.1, vi x4.2.2.2.1, vi x4.2.2.2.2]) (ns := []) rfl rfl isRo vt71 rfl (map_get _ h3) rfl rfl (by decide) (.v (.v (.v (.v (.v (.nil)))))) (nodup_of_B rfl)) ?_;obtain ⟨r5, h4, h⟩ := bind_inv h;refine q1 1 rfl (sp_callF (avs := [.agg [vi x4.1, vi x4.2.1, vu x4.2.2.1, vi x4.2.2.2.1, vi x4.2.2.2.2]]) (v := vb r5) (x4.1, x4.2.1, x4.2.2.1, x4.2.2.2.1, x4.2.2.2.2) rfl rfl rfl rfl rfl h4) ?_;refine TL.nil ?_;refine TC.cond (b := r5) rfl (fun h5 => ?_) (fun h5 => ?_)
      · have h := cond_t h h5;refine tr ?_;refine qm ?_;refine qa ?_;refine TL.nil ?_;cases h;exact retJ [] (.tmp rfl .nil) rfl trivial rfl rfl
      · have h := cond_f h h5;refine TC.skip ?_;refine TC.inBlock ?_;refine TC.region ?_;obtain ⟨h6, h⟩ := chk_inv h;refine q0 (sp_add rfl rfl rfl h6) ?_;refine qm ?_;refine TL.nil ?_;refine TC.inLoop ?_;refine TC.seq ?_;refine subJ [] (ih _ h) ?_ ?_ ?_
        · exact ⟨rfl, rfl, rfl, rfl, trivial⟩
        · exact ⟨mem_at 0 rfl, mem_at 1 rfl, trivial⟩
        · rfl
    · have h := cond_f h h1;refine TC.exit rfl ?_;refine tr ?_;refine qa ?_;refine TL.nil ?_;cases h;exact retJ [] (.tmp rfl .nil) rfl trivial rfl rfl
def ev_slices_IndexFunc_Lapi_RoundTower_api_RoundTower (n : Nat) (s1 : LT) (f2 : (Int × Int × Int × Int × Int) → Option Bool) : Option Int :=
  ev_slices_IndexFunc_Lapi_RoundTower_api_RoundTower_l0 n s1 f2 n 0
theorem fc_slices_IndexFunc_Lapi_RoundTower_api_RoundTower {n : Nat} {s1 : LT} {f2 : (Int × Int × Int × Int × Int) → Option Bool} {r : Int} (h : ev_slices_IndexFunc_Lapi_RoundTower_api_RoundTower n s1 f2 = some r) : FC Tryz.prog 56 [.ref 0, .ref 1] [.ro 0 5 (List.map en_api_RoundTower s1), .any 1 (D.fn Tryz.prog fe_funcapi_RoundTower_bool fd_funcapi_RoundTower_bool f2)] (vi r) [] := by
  refine introJ (nz := 19) Tryz.func56 rfl rfl rfl (fun w0 R0 env0 => ?_)
  rw [ev_slices_IndexFunc_Lapi_RoundTower_api_RoundTower] at h;refine tr ?_;refine qa ?_;refine TL.nil ?_;refine TC.seq ?_;refine tr ?_;refine qm ?_;refine q1 0 rfl (sp_lenM (N := s1.length) (len_map _ _) rfl rfl isRo Tryz.underlying22) ?_;refine qm ?_;refine TL.nil ?_;refine TC.block ?_;refine TC.loop ?_;refine TC.seq ?_;refine subJ [] (ok_slices_IndexFunc_Lapi_RoundTower_api_RoundTower_l0 _ _ h) ?_ ?_ ?_
  · exact ⟨rfl, rfl, rfl, rfl, trivial⟩
  · exact ⟨mem_at 0 rfl, mem_at 1 rfl, trivial⟩
  · rfl
def ev_slices_ContainsFunc_Lapi_RoundTower_api_RoundTower (n : Nat) (s1 : LT) (f2 : (Int × Int × Int × Int × Int) → Option Bool) : Option Bool :=
  (ev_slices_IndexFunc_Lapi_RoundTower_api_RoundTower n s1 f2).bind fun r3 => some (decide ((0 : Int) ≤ r3))
theorem fc_slices_ContainsFunc_Lapi_RoundTower_api_RoundTower {n : Nat} {s1 : LT} {f2 : (Int × Int × Int × Int × Int) → Option Bool} {r : Bool} (h : ev_slices_ContainsFunc_Lapi_RoundTower_api_RoundTower n s1 f2 = some r) : FC Tryz.prog 27 [.ref 0, .ref 1] [.ro 0 5 (List.map en_api_RoundTower s1), .any 1 (D.fn Tryz.prog fe_funcapi_RoundTower_bool fd_funcapi_RoundTower_bool f2)] (vb r) [] := by
  refine introJ (nz := 9) Tryz.func27 rfl rfl rfl (fun w0 R0 env0 => ?_)
  rw [ev_slices_ContainsFunc_Lapi_RoundTower_api_RoundTower] at h;refine tr ?_;refine qa ?_;refine TL.nil ?_;refine tr ?_;refine qm ?_;refine qm ?_;obtain ⟨r3, h1, h⟩ := bind_inv h;refine opN (need := [.ro 0 5 (List.map en_api_RoundTower s1), .any 1 (D.fn Tryz.prog fe_funcapi_RoundTower_bool fd_funcapi_RoundTower_bool f2)]) [0, 1] ⟨rfl, rfl, trivial⟩ (sp_call (avs := [.ref 0, .ref 1]) (need := [.ro 0 5 (List.map en_api_RoundTower s1), .any 1 (D.fn Tryz.prog fe_funcapi_RoundTower_bool fd_funcapi_RoundTower_bool f2)]) (v := vi r3) (news := []) rfl rfl rfl Tryz.call56 (atJ [] [] (fc_slices_IndexFunc_Lapi_RoundTower_api_RoundTower h1) rfl rfl) (.inl (roAll rfl))) rfl trivial rfl rfl ?_;refine q0 (sp_geq rfl rfl rfl) ?_;refine qa ?_;refine TL.nil ?_;cases h;exact retJ [] (.tmp rfl .nil) rfl trivial rfl rfl
def ev_slices_IndexFunc_Lapi_RoundWinder_api_RoundWinder_l0 (n : Nat) (s1 : LW) (f2 : (Int × Int × Int × Int) → Option Bool) : Nat → Int → Option Int
  | 0, _ => none
  | m + 1, i3 => cond (decide (i3 < (s1.length : Int))) (idx s1 i3 fun x4 => (f2 (x4.1, x4.2.1, x4.2.2.1, x4.2.2.2)).bind fun r5 => cond r5 (some i3) (chk (in64 (i3 + 1)) <| ev_slices_IndexFunc_Lapi_RoundWinder_api_RoundWinder_l0 n s1 f2 m (i3 + 1))) (some (-1))
theorem ok_slices_IndexFunc_Lapi_RoundWinder_api_RoundWinder_l0 {n : Nat} {w0 : World} {R0 : Nat → Prop} {env0 : Env} {r : Int} {s1 : LW} {f2 : (Int × Int × Int × Int) → Option Bool} : ∀ (m : Nat) (i3 : Int), ev_slices_IndexFunc_Lapi_RoundWinder_api_RoundWinder_l0 n s1 f2 m i3 = some r → TC Tryz.prog ⟨w0, fun _ => False, R0⟩ 19 (bodyPost Tryz.prog Tryz.f58 (Post ⟨w0, fun _ => False, R0⟩ env0 (vi r) [])) [.code (sub (bodyOf Tryz.f58) [1, 0, 1, 0, 0, 0]), .code (sub (bodyOf Tryz.f58) [1, 0, 1, 0, 0, 1]), .inLoop (sub (bodyOf Tryz.f58) [1, 0, 1, 0, 0]), .inBlock 0, .code (sub (bodyOf Tryz.f58) [1, 1])] ([(0, .ref 0), (1, .ref 1), (7, vi (s1.length : Int)), (8, vi i3)]) ([.ro 0 4 (List.map en_api_RoundWinder s1), .any 1 (D.fn Tryz.prog fe_funcapi_RoundWinder_bool fd_funcapi_RoundWinder_bool f2)]) := by
  intro m
  induction m with
  | zero => intro i3 h; exact none_no h
  | succ m ih =>
    intro i3 h;rw [ev_slices_IndexFunc_Lapi_RoundWinder_api_RoundWinder_l0] at h;refine TC.region ?_;refine q0 (sp_lss rfl rfl rfl) ?_;refine TL.nil ?_;refine TC.seq ?_;refine TC.cond (b := (decide (i3 < (s1.length : Int)))) rfl (fun h1 => ?_) (fun h1 => ?_)
    · have h := cond_t h h1;refine TC.skip ?_;refine TC.seq ?_;refine TC.block ?_;refine tr ?_;refine qm ?_;refine qa ?_;refine TL.nil ?_;refine tr ?_;refine qm ?_;refine qm ?_;refine qm ?_;obtain ⟨x4, h2, h3, h⟩ := idx_inv h;refine q1 0 rfl (sp_indexS rfl rfl rfl isRo sl24 h2 (map_get _ h3)) ?_;refine q1 0 rfl (sp_loadRA (i := (i3 : Int).toNat) (j := 0) (as_ := [vu x4.1, vi x4.2.1, vi x4.2.2.1, vi x4.2.2.2]) (ns := []) rfl rfl isRo vt50 rfl (map_get _ h3) rfl rfl (by decide) (.v (.v (.v (.v (.nil))))) (nodup_of_B rfl)) ?_;obtain ⟨r5, h4, h⟩ := bind_inv h;refine q1 1 rfl (sp_callF (avs := [.agg [vu x4.1, vi x4.2.1, vi x4.2.2.1, vi x4.2.2.2]]) (v := vb r5) (x4.1, x4.2.1, x4.2.2.1, x4.2.2.2) rfl rfl rfl rfl rfl h4) ?_;refine TL.nil ?_;refine TC.cond (b := r5) rfl (fun h5 => ?_) (fun h5 => ?_)
      · have h := cond_t h h5;refine tr ?_;refine qm ?_;refine qa ?_;refine TL.nil ?_;cases h;exact retJ [] (.tmp rfl .nil) rfl trivial rfl rfl
      · have h := cond_f h h5;refine TC.skip ?_;refine TC.inBlock ?_;refine TC.region ?_;obtain ⟨h6, h⟩ := chk_inv h;refine q0 (sp_add rfl rfl rfl h6) ?_;refine qm ?_;refine TL.nil ?_;refine TC.inLoop ?_;refine TC.seq ?_;refine subJ [] (ih _ h) ?_ ?_ ?_
        · exact ⟨rfl, rfl, rfl, rfl, trivial⟩
        · exact ⟨mem_at 0 rfl, mem_at 1 rfl, trivial⟩
        · rfl
    · have h := cond_f h h1;refine TC.exit rfl ?_;refine tr ?_;refine qa ?_;refine TL.nil ?_;cases h;exact retJ [] (.tmp rfl .nil) rfl trivial rfl rfl
def ev_slices_IndexFunc_Lapi_RoundWinder_api_RoundWinder (n : Nat) (s1 : LW) (f2 : (Int × Int × Int × Int) → Option Bool) : Option Int :=
  ev_slices_IndexFunc_Lapi_RoundWinder_api_RoundWinder_l0 n s1 f2 n 0
theorem fc_slices_IndexFunc_Lapi_RoundWinder_api_RoundWinder {n : Nat} {s1 : LW} {f2 : (Int × Int × Int × Int) → Option Bool} {r : Int} (h : ev_slices_IndexFunc_Lapi_RoundWinder_api_RoundWinder n s1 f2 = some r) : FC Tryz.prog 58 [.ref 0, .ref 1] [.ro 0 4 (List.map en_api_RoundWinder s1), .any 1 (D.fn Tryz.prog fe_funcapi_RoundWinder_bool fd_funcapi_RoundWinder_bool f2)] (vi r) [] := by
  refine introJ (nz := 19) Tryz.func58 rfl rfl rfl (fun w0 R0 env0 => ?_)
  rw [ev_slices_IndexFunc_Lapi_RoundWinder_api_RoundWinder] at h;refine tr ?_;refine qa ?_;refine TL.nil ?_;refine TC.seq ?_;refine tr ?_;refine qm ?_;refine q1 0 rfl (sp_lenM (N := s1.length) (len_map _ _) rfl rfl isRo Tryz.underlying24) ?_;refine qm ?_;refine TL.nil ?_;refine TC.block ?_;refine TC.loop ?_;refine TC.seq ?_;refine subJ [] (ok_slices_IndexFunc_Lapi_RoundWinder_api_RoundWinder_l0 _ _ h) ?_ ?_ ?_
  · exact ⟨rfl, rfl, rfl, rfl, trivial⟩
  · exact ⟨mem_at 0 rfl, mem_at 1 rfl, trivial⟩
  · rfl
def ev_slices_ContainsFunc_Lapi_RoundWinder_api_RoundWinder (n : Nat) (s1 : LW) (f2 : (Int × Int × Int × Int) → Option Bool) : Option Bool :=
  (ev_slices_IndexFunc_Lapi_RoundWinder_api_RoundWinder n s1 f2).bind fun r3 => some (decide ((0 : Int) ≤ r3))
theorem fc_slices_ContainsFunc_Lapi_RoundWinder_api_RoundWinder {n : Nat} {s1 : LW} {f2 : (Int × Int × Int × Int) → Option Bool} {r : Bool} (h : ev_slices_ContainsFunc_Lapi_RoundWinder_api_RoundWinder n s1 f2 = some r) : FC Tryz.prog 30 [.ref 0, .ref 1] [.ro 0 4 (List.map en_api_RoundWinder s1), .any 1 (D.fn Tryz.prog fe_funcapi_RoundWinder_bool fd_funcapi_RoundWinder_bool f2)] (vb r) [] := by
  refine introJ (nz := 9) Tryz.func30 rfl rfl rfl (fun w0 R0 env0 => ?_)
  rw [ev_slices_ContainsFunc_Lapi_RoundWinder_api_RoundWinder] at h;refine tr ?_;refine qa ?_;refine TL.nil ?_;refine tr ?_;refine qm ?_;refine qm ?_;obtain ⟨r3, h1, h⟩ := bind_inv h;refine opN (need := [.ro 0 4 (List.map en_api_RoundWinder s1), .any 1 (D.fn Tryz.prog fe_funcapi_RoundWinder_bool fd_funcapi_RoundWinder_bool f2)]) [0, 1] ⟨rfl, rfl, trivial⟩ (sp_call (avs := [.ref 0, .ref 1]) (need := [.ro 0 4 (List.map en_api_RoundWinder s1), .any 1 (D.fn Tryz.prog fe_funcapi_RoundWinder_bool fd_funcapi_RoundWinder_bool f2)]) (v := vi r3) (news := []) rfl rfl rfl Tryz.call58 (atJ [] [] (fc_slices_IndexFunc_Lapi_RoundWinder_api_RoundWinder h1) rfl rfl) (.inl (roAll rfl))) rfl trivial rfl rfl ?_;refine q0 (sp_geq rfl rfl rfl) ?_;refine qa ?_;refine TL.nil ?_;cases h;exact retJ [] (.tmp rfl .nil) rfl trivial rfl rfl
def ev_slices_Clone_Lint_int (n : Nat) (s1 : List Int) : Option ((List Int)) :=
  chk (room 8 (([] : List Int).length + s1.length)) <| some (([] : List Int) ++ s1)
theorem fc_slices_Clone_Lint_int {n : Nat} {s1 : List Int} {r : (List Int)} (h : ev_slices_Clone_Lint_int n s1 = some r) : FC Tryz.prog 67 [.ref 0] [.ro 0 1 (List.map en_int s1)] (.ref 0) [.row 0 3 1 (List.map en_int r)] := by
  refine introJ (nz := 8) Tryz.func67 rfl rfl rfl (fun w0 R0 env0 => ?_)
  rw [ev_slices_Clone_Lint_int] at h;refine tr ?_;refine qa ?_;refine TL.nil ?_;refine TC.seq ?_;refine tr ?_;refine qm ?_;refine q1 0 rfl (sp_eqNil 1 rfl Tryz.underlying27 rfl rfl isRo (len_map _ _)) ?_;refine TL.nil ?_;refine condNil 0 rfl rfl (fun hN => ?_) ?_
  · have hx := List.eq_nil_of_length_eq_zero hN;subst hx
    repeat (have h := (chk_inv h).2)
    refine tr ?_;refine qa ?_;refine TL.nil ?_;refine nilRowC 2 2 3 1 (List.map en_int []) rfl rfl rfl ?_;cases h;exact retJ [(0, 2)] (.tmp rfl .nil) rfl ⟨mem_at 0 rfl, trivial⟩ rfl rfl
  · refine TC.skip ?_;refine tr ?_;refine q0 (sp_emptyM 3 (List.map en_int []) rfl rfl sl27) ?_;refine qm ?_;obtain ⟨h1, h⟩ := chk_inv h;refine appM 0 2 (N := ([] : List Int).length) (N2 := s1.length) 4 rfl rfl trivial rfl rfl rfl rfl rfl isRo rfl sl27 (len_map _ _) (len_map _ _) h1 (map_app _ _ _) rfl ?_;refine qa ?_;refine TL.nil ?_;cases h;exact retJ [(0, 4)] (.tmp rfl .nil) rfl ⟨mem_at 0 rfl, trivial⟩ rfl rfl
def ev_slices_Clip_Lint_int (n : Nat) (s1 : List Int) : Option ((List Int)) :=
  some s1
theorem fc_slices_Clip_Lint_int {n : Nat} {s1 : List Int} {r : (List Int)} (h : ev_slices_Clip_Lint_int n s1 = some r) : FC Tryz.prog 68 [.ref 0] [.ro 0 1 (List.map en_int s1)] (.ref 0) [.any 0 (D.clip 1 (List.map en_int r))] := by
  refine introJ (nz := 9) Tryz.func68 rfl rfl rfl (fun w0 R0 env0 => ?_)
  rw [ev_slices_Clip_Lint_int] at h;refine tr ?_;refine qa ?_;refine TL.nil ?_;refine tr ?_;refine qm ?_;refine qm ?_;refine q1 0 rfl (sp_lenM (N := s1.length) (len_map _ _) rfl rfl isRo Tryz.underlying27) ?_;refine qm ?_;refine q1 0 rfl (sp_lenM (N := s1.length) (len_map _ _) rfl rfl isRo Tryz.underlying27) ?_;refine q1 0 rfl (sp_clip 1 (len_map _ _) rfl rfl sl27 rfl rfl) ?_;refine qa ?_;refine TL.nil ?_;cases h;exact retJ [(0, 1)] (.tmp rfl .nil) rfl ⟨mem_at 0 rfl, trivial⟩ rfl rfl
def ev_cmp_isNaN_int (n : Nat) (x1 : Int) : Option Bool :=
  some (x1 != x1)
theorem fc_cmp_isNaN_int {n : Nat} {x1 : Int} {r : Bool} (h : ev_cmp_isNaN_int n x1 = some r) : FC Tryz.prog 85 [vi x1] [] (vb r) [] := by
  refine introJ (nz := 6) Tryz.func85 rfl rfl rfl (fun w0 R0 env0 => ?_)
  rw [ev_cmp_isNaN_int] at h;refine tr ?_;refine qa ?_;refine TL.nil ?_;refine tr ?_;refine qm ?_;refine qm ?_;refine q0 (sp_neq rfl rfl rfl) ?_;refine qa ?_;refine TL.nil ?_;cases h;exact retJ [] (.tmp rfl .nil) rfl trivial rfl rfl
def ev_cmp_Compare_int (n : Nat) (x1 : Int) (y2 : Int) : Option Int :=
  (ev_cmp_isNaN_int n x1).bind fun r3 => (ev_cmp_isNaN_int n y2).bind fun r4 => cond r3 (cond r4 (some 0) (some (-1))) (cond r4 (some 1) (cond (decide (x1 < y2)) (some (-1)) (cond (decide (y2 < x1)) (some 1) (some 0))))
theorem fc_cmp_Compare_int {n : Nat} {x1 : Int} {y2 : Int} {r : Int} (h : ev_cmp_Compare_int n x1 y2 = some r) : FC Tryz.prog 73 [vi x1, vi y2] [] (vi r) [] := by
  refine introJ (nz := 20) Tryz.func73 rfl rfl rfl (fun w0 R0 env0 => ?_)
  rw [ev_cmp_Compare_int] at h;refine tr ?_;refine qa ?_;refine TL.nil ?_;refine tr ?_;refine qm ?_;obtain ⟨r3, h1, h⟩ := bind_inv h;refine q0 (sp_call (avs := [vi x1]) (need := []) (v := vb r3) (news := []) rfl rfl rfl Tryz.call85 (atJ [] [] (fc_cmp_isNaN_int h1) rfl rfl) (.inl (roAll rfl))) ?_;refine qa ?_;refine TL.nil ?_;refine tr ?_;refine qm ?_;obtain ⟨r4, h2, h⟩ := bind_inv h;refine q0 (sp_call (avs := [vi y2]) (need := []) (v := vb r4) (news := []) rfl rfl rfl Tryz.call85 (atJ [] [] (fc_cmp_isNaN_int h2) rfl rfl) (.inl (roAll rfl))) ?_;refine qa ?_;refine TL.nil ?_;refine TC.seq ?_;refine tr ?_;refine qm ?_;refine TL.nil ?_;refine TC.cond (b := r3) rfl (fun h3 => ?_) (fun h3 => ?_)
  · have h := cond_t h h3;refine TC.seq ?_;refine tr ?_;refine qm ?_;refine TL.nil ?_;refine TC.cond (b := r4) rfl (fun h4 => ?_) (fun h4 => ?_)
    · have h := cond_t h h4;refine tr ?_;refine qa ?_;refine TL.nil ?_;cases h;exact retJ [] (.tmp rfl .nil) rfl trivial rfl rfl
    · have h := cond_f h h4;refine TC.skip ?_;refine tr ?_;refine qa ?_;refine TL.nil ?_;cases h;exact retJ [] (.tmp rfl .nil) rfl trivial rfl rfl
  · have h := cond_f h h3;refine TC.skip ?_;refine TC.seq ?_;refine tr ?_;refine qm ?_;refine TL.nil ?_;refine TC.cond (b := r4) rfl (fun h5 => ?_) (fun h5 => ?_)
    · have h := cond_t h h5;refine tr ?_;refine qa ?_;refine TL.nil ?_;cases h;exact retJ [] (.tmp rfl .nil) rfl trivial rfl rfl
    · have h := cond_f h h5;refine TC.skip ?_;refine TC.seq ?_;refine tr ?_;refine qm ?_;refine qm ?_;refine q0 (sp_lss rfl rfl rfl) ?_;refine TL.nil ?_;refine TC.cond (b := (decide (x1 < y2))) rfl (fun h6 => ?_) (fun h6 => ?_)
      · have h := cond_t h h6;refine tr ?_;refine qa ?_;refine TL.nil ?_;cases h;exact retJ [] (.tmp rfl .nil) rfl trivial rfl rfl
      · have h := cond_f h h6;refine TC.skip ?_;refine TC.seq ?_;refine tr ?_;refine qm ?_;refine qm ?_;refine q0 (sp_gtr rfl rfl rfl) ?_;refine TL.nil ?_;refine TC.cond (b := (decide (y2 < x1))) rfl (fun h7 => ?_) (fun h7 => ?_)
        · have h := cond_t h h7;refine tr ?_;refine qa ?_;refine TL.nil ?_;cases h;exact retJ [] (.tmp rfl .nil) rfl trivial rfl rfl
        · have h := cond_f h h7;refine TC.skip ?_;refine tr ?_;refine qa ?_;refine TL.nil ?_;cases h;exact retJ [] (.tmp rfl .nil) rfl trivial rfl rfl
def ev_slices_Compare_Lint_int_l0 (n : Nat) (s11 : List Int) (s22 : List Int) : Nat → Int → Option Int
  | 0, _ => none
  | m + 1, i3 => cond (decide (i3 < (s11.length : Int))) (idx s11 i3 fun x4 => cond (decide ((s22.length : Int) ≤ i3)) (some 1) (idx s22 i3 fun x5 => (ev_cmp_Compare_int n x4 x5).bind fun r6 => cond (r6 != 0) (some r6) (chk (in64 (i3 + 1)) <| ev_slices_Compare_Lint_int_l0 n s11 s22 m (i3 + 1)))) (cond (decide ((s11.length : Int) < (s22.length : Int))) (some (-1)) (some 0))
theorem ok_slices_Compare_Lint_int_l0 {n : Nat} {w0 : World} {R0 : Nat → Prop} {env0 : Env} {r : Int} {s11 : List Int} {s22 : List Int} : ∀ (m : Nat) (i3 : Int), ev_slices_Compare_Lint_int_l0 n s11 s22 m i3 = some r → TC Tryz.prog ⟨w0, fun _ => False, R0⟩ 36 (bodyPost Tryz.prog Tryz.f74 (Post ⟨w0, fun _ => False, R0⟩ env0 (vi r) [])) [.code (sub (bodyOf Tryz.f74) [1, 0, 1, 0, 0, 0]), .code (sub (bodyOf Tryz.f74) [1, 0, 1, 0, 0, 1]), .inLoop (sub (bodyOf Tryz.f74) [1, 0, 1, 0, 0]), .inBlock 0, .code (sub (bodyOf Tryz.f74) [1, 1])] ([(0, .ref 0), (1, .ref 1), (9, .ref 0), (10, vi (s11.length : Int)), (11, vi i3)]) ([.ro 0 1 (List.map en_int s11), .ro 1 1 (List.map en_int s22)]) := by
  intro m
  induction m with
  | zero => intro i3 h; exact none_no h
  | succ m ih =>
    intro i3 h;rw [ev_slices_Compare_Lint_int_l0] at h;refine TC.region ?_;refine q0 (sp_lss rfl rfl rfl) ?_;refine TL.nil ?_;refine TC.seq ?_;refine TC.cond (b := (decide (i3 < (s11.length : Int)))) rfl (fun h1 => ?_) (fun h1 => ?_)
    · have h := cond_t h h1;refine TC.skip ?_;refine TC.seq ?_;refine TC.block ?_;refine tr ?_;refine qm ?_;obtain ⟨x4, h2, h3, h⟩ := idx_inv h;refine q1 0 rfl (sp_indexS rfl rfl rfl isRo sl27 h2 (map_get _ h3)) ?_;refine q1 0 rfl (sp_loadR (i := (i3 : Int).toNat) (j := 0) rfl rfl isRo vt3 rfl (map_get _ h3) rfl (.v (.nil)) (nodup_of_B rfl)) ?_;refine qa ?_;refine qa ?_;refine TL.nil ?_;refine TC.seq ?_;refine tr ?_;refine qm ?_;refine qm ?_;refine q1 1 rfl (sp_lenM (N := s22.length) (len_map _ _) rfl rfl isRo Tryz.underlying27) ?_;refine q0 (sp_geq rfl rfl rfl) ?_;refine TL.nil ?_;refine TC.cond (b := (decide ((s22.length : Int) ≤ i3))) rfl (fun h4 => ?_) (fun h4 => ?_)
      · have h := cond_t h h4;refine tr ?_;refine qa ?_;refine TL.nil ?_;cases h;exact retJ [] (.tmp rfl .nil) rfl trivial rfl rfl
      · have h := cond_f h h4;refine TC.skip ?_;refine tr ?_;refine qm ?_;refine qm ?_;obtain ⟨x5, h5, h6, h⟩ := idx_inv h;refine q1 1 rfl (sp_indexS rfl rfl rfl isRo sl27 h5 (map_get _ h6)) ?_;refine q1 1 rfl (sp_loadR (i := (i3 : Int).toNat) (j := 0) rfl rfl isRo vt3 rfl (map_get _ h6) rfl (.v (.nil)) (nodup_of_B rfl)) ?_;refine qa ?_;refine TL.nil ?_;refine tr ?_;refine qm ?_;refine qm ?_;obtain ⟨r6, h7, h⟩ := bind_inv h;refine q0 (sp_call (avs := [vi x4, vi x5]) (need := []) (v := vi r6) (news := []) rfl rfl rfl Tryz.call73 (atJ [] [] (fc_cmp_Compare_int h7) rfl rfl) (.inl (roAll rfl))) ?_;refine qa ?_;refine TL.nil ?_;refine tr ?_;refine qm ?_;refine q0 (sp_neq rfl rfl rfl) ?_;refine TL.nil ?_;refine TC.cond (b := (r6 != 0)) rfl (fun h8 => ?_) (fun h8 => ?_)
        · have h := cond_t h h8;refine tr ?_;refine qm ?_;refine qa ?_;refine TL.nil ?_;cases h;exact retJ [] (.tmp rfl .nil) rfl trivial rfl rfl
        · have h := cond_f h h8;refine TC.skip ?_;refine TC.inBlock ?_;refine TC.region ?_;obtain ⟨h9, h⟩ := chk_inv h;refine q0 (sp_add rfl rfl rfl h9) ?_;refine qm ?_;refine TL.nil ?_;refine TC.inLoop ?_;refine TC.seq ?_;refine subJ [] (ih _ h) ?_ ?_ ?_
          · exact ⟨rfl, rfl, rfl, rfl, rfl, trivial⟩
          · exact ⟨mem_at 0 rfl, mem_at 1 rfl, trivial⟩
          · rfl
    · have h := cond_f h h1;refine TC.exit rfl ?_;refine TC.seq ?_;refine tr ?_;refine qm ?_;refine q1 0 rfl (sp_lenM (N := s11.length) (len_map _ _) rfl rfl isRo Tryz.underlying27) ?_;refine qm ?_;refine q1 1 rfl (sp_lenM (N := s22.length) (len_map _ _) rfl rfl isRo Tryz.underlying27) ?_;refine q0 (sp_lss rfl rfl rfl) ?_;refine TL.nil ?_;refine TC.cond (b := (decide ((s11.length : Int) < (s22.length : Int)))) rfl (fun h10 => ?_) (fun h10 => ?_)
      · have h := cond_t h h10;refine tr ?_;refine qa ?_;refine TL.nil ?_;cases h;exact retJ [] (.tmp rfl .nil) rfl trivial rfl rfl
      · have h := cond_f h h10;refine TC.skip ?_;refine tr ?_;refine qa ?_;refine TL.nil ?_;cases h;exact retJ [] (.tmp rfl .nil) rfl trivial rfl rfl
def ev_slices_Compare_Lint_int (n : Nat) (s11 : List Int) (s22 : List Int) : Option Int :=
  ev_slices_Compare_Lint_int_l0 n s11 s22 n 0
theorem fc_slices_Compare_Lint_int {n : Nat} {s11 : List Int} {s22 : List Int} {r : Int} (h : ev_slices_Compare_Lint_int n s11 s22 = some r) : FC Tryz.prog 74 [.ref 0, .ref 1] [.ro 0 1 (List.map en_int s11), .ro 1 1 (List.map en_int s22)] (vi r) [] := by
  refine introJ (nz := 36) Tryz.func74 rfl rfl rfl (fun w0 R0 env0 => ?_)
  rw [ev_slices_Compare_Lint_int] at h;refine tr ?_;refine qa ?_;refine TL.nil ?_;refine TC.seq ?_;refine tr ?_;refine qm ?_;refine q1 0 rfl (sp_lenM (N := s11.length) (len_map _ _) rfl rfl isRo Tryz.underlying27) ?_;refine qm ?_;refine TL.nil ?_;refine TC.block ?_;refine TC.loop ?_;refine TC.seq ?_;refine subJ [] (ok_slices_Compare_Lint_int_l0 _ _ h) ?_ ?_ ?_
  · exact ⟨rfl, rfl, rfl, rfl, rfl, trivial⟩
  · exact ⟨mem_at 0 rfl, mem_at 1 rfl, trivial⟩
  · rfl
def ev_cmp_Or_int_l0 (n : Nat) (vals1 : List Int) : Nat → Int → Option Int
  | 0, _ => none
  | m + 1, i2 => cond (decide (i2 < (vals1.length : Int))) (idx vals1 i2 fun x3 => cond (x3 != 0) (some x3) (chk (in64 (i2 + 1)) <| ev_cmp_Or_int_l0 n vals1 m (i2 + 1))) (some 0)
theorem ok_cmp_Or_int_l0 {n : Nat} {w0 : World} {R0 : Nat → Prop} {env0 : Env} {r : Int} {vals1 : List Int} : ∀ (m : Nat) (i2 : Int), ev_cmp_Or_int_l0 n vals1 m i2 = some r → TC Tryz.prog ⟨w0, fun _ => False, R0⟩ 18 (bodyPost Tryz.prog Tryz.f72 (Post ⟨w0, fun _ => False, R0⟩ env0 (vi r) [])) [.code (sub (bodyOf Tryz.f72) [1, 1, 0, 1, 0, 0, 0]), .code (sub (bodyOf Tryz.f72) [1, 1, 0, 1, 0, 0, 1]), .inLoop (sub (bodyOf Tryz.f72) [1, 1, 0, 1, 0, 0]), .inBlock 0, .code (sub (bodyOf Tryz.f72) [1, 1, 1])] ([(3, vi 0), (6, .ref 0), (7, vi (vals1.length : Int)), (8, vi i2)]) ([.ro 0 1 (List.map en_int vals1)]) := by
  intro m
  induction m with
  | zero => intro i2 h; exact none_no h
  | succ m ih =>
    intro i2 h;rw [ev_cmp_Or_int_l0] at h;refine TC.region ?_;refine q0 (sp_lss rfl rfl rfl) ?_;refine TL.nil ?_;refine TC.seq ?_;refine TC.cond (b := (decide (i2 < (vals1.length : Int)))) rfl (fun h1 => ?_) (fun h1 => ?_)
    · have h := cond_t h h1;refine TC.skip ?_;refine TC.seq ?_;refine TC.block ?_;refine tr ?_;obtain ⟨x3, h2, h3, h⟩ := idx_inv h;refine q1 0 rfl (sp_indexS rfl rfl rfl isRo sl27 h2 (map_get _ h3)) ?_;refine q1 0 rfl (sp_loadR (i := (i2 : Int).toNat) (j := 0) rfl rfl isRo vt3 rfl (map_get _ h3) rfl (.v (.nil)) (nodup_of_B rfl)) ?_;refine qa ?_;refine TL.nil ?_;refine tr ?_;refine qm ?_;refine qm ?_;refine q0 (sp_neq rfl rfl rfl) ?_;refine TL.nil ?_;refine TC.cond (b := (x3 != 0)) rfl (fun h4 => ?_) (fun h4 => ?_)
      · have h := cond_t h h4;refine tr ?_;refine qm ?_;refine qa ?_;refine TL.nil ?_;cases h;exact retJ [] (.tmp rfl .nil) rfl trivial rfl rfl
      · have h := cond_f h h4;refine TC.skip ?_;refine TC.inBlock ?_;refine TC.region ?_;obtain ⟨h5, h⟩ := chk_inv h;refine q0 (sp_add rfl rfl rfl h5) ?_;refine qm ?_;refine TL.nil ?_;refine TC.inLoop ?_;refine TC.seq ?_;refine subJ [] (ih _ h) ?_ ?_ ?_
        · exact ⟨rfl, rfl, rfl, rfl, trivial⟩
        · exact ⟨mem_at 0 rfl, trivial⟩
        · rfl
    · have h := cond_f h h1;refine TC.exit rfl ?_;refine tr ?_;refine qm ?_;refine qa ?_;refine TL.nil ?_;cases h;exact retJ [] (.tmp rfl .nil) rfl trivial rfl rfl
def ev_cmp_Or_int (n : Nat) (vals1 : List Int) : Option Int :=
  ev_cmp_Or_int_l0 n vals1 n 0
theorem fc_cmp_Or_int {n : Nat} {vals1 : List Int} {r : Int} (h : ev_cmp_Or_int n vals1 = some r) : FC Tryz.prog 72 [.ref 0] [.ro 0 1 (List.map en_int vals1)] (vi r) [] := by
  refine introJ (nz := 18) Tryz.func72 rfl rfl rfl (fun w0 R0 env0 => ?_)
  rw [ev_cmp_Or_int] at h;refine tr ?_;refine qa ?_;refine TL.nil ?_;refine tr ?_;refine qa ?_;refine TL.nil ?_;refine TC.seq ?_;refine tr ?_;refine qm ?_;refine q1 0 rfl (sp_lenM (N := vals1.length) (len_map _ _) rfl rfl isRo Tryz.underlying27) ?_;refine qm ?_;refine TL.nil ?_;refine TC.block ?_;refine TC.loop ?_;refine TC.seq ?_;refine subJ [] (ok_cmp_Or_int_l0 _ _ h) ?_ ?_ ?_
  · exact ⟨rfl, rfl, rfl, rfl, trivial⟩
  · exact ⟨mem_at 0 rfl, trivial⟩
  · rfl
def ev_slices_Clip_Lapi_RoundTrip_api_RoundTrip (n : Nat) (s1 : List (Int × (List Int))) : Option ((List (Int × (List Int)))) :=
  some s1
theorem fc_slices_Clip_Lapi_RoundTrip_api_RoundTrip {n : Nat} {s1 : List (Int × (List Int))} {r : (List (Int × (List Int)))} (h : ev_slices_Clip_Lapi_RoundTrip_api_RoundTrip n s1 = some r) : FC Tryz.prog 71 [.ref 0] [.ro 0 2 (List.map en_api_RoundTrip s1)] (.ref 0) [.any 0 (D.clip 2 (List.map en_api_RoundTrip r))] := by
  refine introJ (nz := 9) Tryz.func71 rfl rfl rfl (fun w0 R0 env0 => ?_)
  rw [ev_slices_Clip_Lapi_RoundTrip_api_RoundTrip] at h;refine tr ?_;refine qa ?_;refine TL.nil ?_;refine tr ?_;refine qm ?_;refine qm ?_;refine q1 0 rfl (sp_lenM (N := s1.length) (len_map _ _) rfl rfl isRo Tryz.underlying52) ?_;refine qm ?_;refine q1 0 rfl (sp_lenM (N := s1.length) (len_map _ _) rfl rfl isRo Tryz.underlying52) ?_;refine q1 0 rfl (sp_clip 1 (len_map _ _) rfl rfl sl52 rfl rfl) ?_;refine qa ?_;refine TL.nil ?_;cases h;exact retJ [(0, 1)] (.tmp rfl .nil) rfl ⟨mem_at 0 rfl, trivial⟩ rfl rfl
def ev_slices_Values_Lint_int (n : Nat) (s1 : List Int) : Option ((List Int)) :=
  some s1
theorem fc_slices_Values_Lint_int {n : Nat} {s1 : List Int} {r : (List Int)} (h : ev_slices_Values_Lint_int n s1 = some r) : FC Tryz.prog 87 [.ref 0] [.ro 0 1 (List.map en_int s1)] (.fn 91 [] [.ptr 0 0]) [.blk 0 [.ref 1] 27, .ro 1 1 (List.map en_int r)] := by
  refine introJ (nz := 4) Tryz.func87 rfl rfl rfl (fun w0 R0 env0 => ?_)
  rw [ev_slices_Values_Lint_int] at h;refine tr ?_;refine q0 (sp_box 1 rfl rfl rfl rfl rfl) ?_;refine qa ?_;refine TL.nil ?_;refine tr ?_;refine q0 (sp_makeFunc (fi := []) (ca := [.tmp 1]) (fa := []) (cb := [.ptr 1 0]) rfl rfl rfl) ?_;refine qa ?_;refine TL.nil ?_;cases h;exact retJ [(0, 1), (1, 0)] (.tmp rfl .nil) rfl ⟨mem_at 0 rfl, mem_at 1 rfl, trivial⟩ rfl rfl
def ev_slices_Values_Lint_int_1_l0 {σ1 : Type} (yb1 : Int → σ1 → Option (Bool × σ1)) (n : Nat) (c2 : List Int) : Nat → Int → σ1 → Option σ1
  | 0, _, _ => none
  | m + 1, i3, y4 => cond (decide (i3 < (c2.length : Int))) (idx c2 i3 fun x5 => (yb1 x5 y4).bind fun r6 => cond (!r6.1) (some r6.2) (chk (in64 (i3 + 1)) <| ev_slices_Values_Lint_int_1_l0 yb1 n c2 m (i3 + 1) r6.2)) (some y4)
theorem ok_slices_Values_Lint_int_1_l0 {σ1 : Type} {yb1 : Int → σ1 → Option (Bool × σ1)} {I1 : σ1 → Inv} (hI1 : Yields Tryz.prog ye_funcint_bool yn_funcint_bool yb1 I1) {n : Nat} {w0 : World} {M0 R0 : Nat → Prop} {env0 : Env} {df : List Deferred} {r : σ1} {c2 : List Int} : ∀ (m : Nat) (i3 : Int) (y4 : σ1), ev_slices_Values_Lint_int_1_l0 yb1 n c2 m i3 y4 = some r → TC Tryz.prog ⟨w0, M0, R0⟩ ⟨16, none, df⟩ (bodyPostM Fence.wide 0 Tryz.prog Tryz.f91 (PostT ⟨w0, M0, R0⟩ env0 [0] (.tup []) [.inv 0 (I1 r)])) [.code (sub (bodyOf Tryz.f91) [1, 0, 0, 0]), .code (sub (bodyOf Tryz.f91) [1, 0, 0, 1]), .inLoop (sub (bodyOf Tryz.f91) [1, 0, 0]), .inBlock 0] ([(0, .ref 0), (5, .ref 2), (6, vi (c2.length : Int)), (7, vi i3)]) ([.ro 2 1 (List.map en_int c2), .inv 3 (marksI df), .pin 4 0 (env0 0), .inv 0 (I1 y4)]) := by
  intro m
  induction m with
  | zero => intro i3 y4 h; exact none_no h
  | succ m ih =>
    intro i3 y4 h;rw [ev_slices_Values_Lint_int_1_l0] at h;refine TC.region ?_;refine q0 (sp_lss rfl rfl rfl) ?_;refine TL.nil ?_;refine TC.seq ?_;refine TC.cond (b := (decide (i3 < (c2.length : Int)))) rfl (fun h1 => ?_) (fun h1 => ?_)
    · have h := cond_t h h1;refine TC.skip ?_;refine TC.seq ?_;refine TC.block ?_;refine tr ?_;obtain ⟨x5, h2, h3, h⟩ := idx_inv h;refine q1 0 rfl (sp_indexS rfl rfl rfl isRo sl27 h2 (map_get _ h3)) ?_;refine q1 0 rfl (sp_loadR (i := (i3 : Int).toNat) (j := 0) rfl rfl isRo vt3 rfl (map_get _ h3) rfl (.v (.nil)) (nodup_of_B rfl)) ?_;refine qa ?_;refine TL.nil ?_;refine tr ?_;refine qm ?_;refine qm ?_;obtain ⟨r6, h4, h⟩ := bind_inv h;refine opT (take := [.inv 0 (I1 y4)]) (need := []) (V' := [.inv 0 (I1 r6.2), .ro 2 1 (List.map en_int c2), .inv 3 (marksI df), .pin 4 0 (env0 0)]) [3] [] (ts_yield hI1 (x := x5) (b := r6.1) (avs := [vi x5]) (need := []) [] h4 rfl rfl rfl rfl rfl rfl) trivial rfl ⟨rfl, trivial⟩ trivial rfl rfl ?_;refine q0 (sp_not rfl rfl) ?_;refine TL.nil ?_;refine TC.cond (b := (!r6.1)) rfl (fun h5 => ?_) (fun h5 => ?_)
      · have h := cond_t h h5;cases h;exact retM [] 2 3 [0] rfl (.nil) rfl ⟨mem_at 0 rfl, trivial⟩ rfl rfl ⟨⟨_, mem_at 2 rfl⟩, trivial⟩ rfl
      · have h := cond_f h h5;refine TC.skip ?_;refine TC.inBlock ?_;refine TC.region ?_;obtain ⟨h6, h⟩ := chk_inv h;refine q0 (sp_add rfl rfl rfl h6) ?_;refine qm ?_;refine TL.nil ?_;refine TC.inLoop ?_;refine TC.seq ?_;refine subJ [] (ih _ _ h) ?_ ?_ ?_
        · exact ⟨rfl, rfl, rfl, rfl, trivial⟩
        · exact ⟨mem_at 1 rfl, mem_at 2 rfl, mem_at 3 rfl, mem_at 0 rfl, trivial⟩
        · rfl
    · have h := cond_f h h1;refine TC.exit rfl ?_;cases h;exact endM [] 1 3 [0] rfl (.nil) rfl ⟨mem_at 2 rfl, trivial⟩ rfl rfl ⟨⟨_, mem_at 1 rfl⟩, trivial⟩ rfl
def ev_slices_Values_Lint_int_1 {σ1 : Type} (yb1 : Int → σ1 → Option (Bool × σ1)) (n : Nat) (y1 : σ1) (c2 : List Int) : Option σ1 :=
  ev_slices_Values_Lint_int_1_l0 yb1 n c2 n 0 y1
theorem ft_slices_Values_Lint_int_1 {σ1 : Type} {yb1 : Int → σ1 → Option (Bool × σ1)} {I1 : σ1 → Inv} (hI1 : Yields Tryz.prog ye_funcint_bool yn_funcint_bool yb1 I1) {n : Nat} {y1 : σ1} {c2 : List Int} {r : σ1} (h : ev_slices_Values_Lint_int_1 yb1 n y1 c2 = some r) : FT Tryz.prog 91 [.ref 0, .ptr 1 0] [.inv 0 (I1 y1)] [.rob 1 [.ref 2] 27, .ro 2 1 (List.map en_int c2)] (.tup []) [.inv 0 (I1 r)] := by
  refine introM (nz := 16) 3 [(4, 0)] Tryz.func91 rfl rfl rfl rfl (fun w0 M0 R0 env0 => ?_)
  rw [ev_slices_Values_Lint_int_1] at h;refine tr ?_;refine q1 3 rfl (sp_loadB rfl isRob rfl vt27 rfl) ?_;refine q1 4 rfl (sp_lenM (N := c2.length) (len_map _ _) rfl rfl isRo Tryz.underlying27) ?_;refine qm ?_;refine TL.nil ?_;refine TC.block ?_;refine TC.loop ?_;refine TC.seq ?_;refine subJ [] (ok_slices_Values_Lint_int_1_l0 hI1 _ _ _ h) ?_ ?_ ?_
  · exact ⟨rfl, rfl, rfl, rfl, trivial⟩
  · exact ⟨mem_at 4 rfl, mem_at 0 rfl, mem_at 1 rfl, mem_at 2 rfl, trivial⟩
  · rfl
def ev_slices_AppendSeq_Lint_int_r0 (n : Nat) (x4 : Int) (y5 : (List Int)) : Option (Nat × ((List Int))) :=
  chk (room 8 (y5.length + ([x4] : List Int).length)) <| some (0, (y5 ++ ([x4] : List Int)))
theorem ok_slices_AppendSeq_Lint_int_r0 {n : Nat} {u3 : Value} {x4 : Int} {y5 : (List Int)} {r : Nat × ((List Int))} (h : ev_slices_AppendSeq_Lint_int_r0 n x4 y5 = some r) (l0 : Nat) (rec : Loop) (hrd : rec.state = .ready) (w0 : World) (M0 R0 : Nat → Prop) : TC Tryz.prog ⟨w0, M0, R0⟩ ⟨13, some l0, []⟩ (RoundQ ⟨w0, M0, R0⟩ (.inv 7 (recI l0 (busyR rec)) :: [.pin 6 4 u3, .blk 4 [.ref 0] 27, .row 0 3 1 (List.map en_int r.2)]) [] r.1) [.code (sub (bodyOf Tryz.f92) [1, 0, 1, 0, 0]), .beginRound, .code (sub (bodyOf Tryz.f92) [1, 0, 1, 0, 1])] (pSlots [7] (ye_funcint_bool x4) [(2, .ptr 4 0)]) (.inv 7 (recI l0 rec) :: yn_funcint_bool x4 ++ (fun y5 : (List Int) => [.pin 6 4 u3, .blk 4 [.ref 0] 27, .row 0 3 1 (List.map en_int y5)]) y5) := by
  rw [ev_slices_AppendSeq_Lint_int_r0] at h;refine subJ (s' := [(2, .ptr 4 0), (7, vi x4)]) (V' := [.inv 7 (recI l0 rec), .pin 6 4 u3, .blk 4 [.ref 0] 27, .row 0 3 1 (List.map en_int y5)]) [] ?_ ⟨rfl, rfl, trivial⟩ ⟨mem_at 0 rfl, mem_at 1 rfl, mem_at 2 rfl, mem_at 3 rfl, trivial⟩ rfl;refine TC.region ?_;refine qa ?_;refine TL.nil ?_;refine TC.beginRound 0 rfl hrd ?_;refine TC.block ?_;refine TC.region ?_;refine q1 2 rfl (sp_loadB rfl isBlk rfl vt27 rfl) ?_;refine qm ?_;refine q0 (sp_buildSlice (qs := [vi x4]) (need := []) (els := List.map en_int ([x4] : List Int)) 8 rfl sl27 (by decide) (by decide) rfl rfl rfl (.v (.nil)) (map_len fun _ => rfl) rfl rfl rfl) ?_;obtain ⟨h1, h⟩ := chk_inv h;refine appM 4 0 (N := y5.length) (N2 := ([x4] : List Int).length) 9 rfl rfl trivial rfl rfl rfl rfl rfl isOwn rfl sl27 (len_map _ _) (len_map _ _) h1 (map_app _ _ _) rfl ?_;refine stoB 4 (cells' := [.ref 9]) rfl rfl trivial rfl rfl rfl rfl vt27 rfl rfl rfl ?_;refine TL.nil ?_;refine TC.inBlock ?_;cases h;exact bodyEnd [(0, 9)] ⟨mem_at 2 rfl, mem_at 3 rfl, mem_at 4 rfl, mem_at 0 rfl, trivial⟩ rfl
def ev_slices_AppendSeq_Lint_int (n : Nat) (s1 : List Int) (seq2 : List Int) : Option ((List Int)) :=
  (ev_slices_Values_Lint_int_1 (loopStep (ev_slices_AppendSeq_Lint_int_r0 n)) n (s1, 0) seq2).bind fun q6 => cond (q6.2 == 0) (some q6.1) (none)
theorem ft_slices_AppendSeq_Lint_int {n : Nat} {s1 : List Int} {seq2 : List Int} {r : (List Int)} (h : ev_slices_AppendSeq_Lint_int n s1 seq2 = some r) : FT Tryz.prog 92 [.ref 0, .fn 91 [] [.ptr 1 0]] [.row 0 3 1 (List.map en_int s1)] [.rob 1 [.ref 2] 27, .ro 2 1 (List.map en_int seq2)] (.ref 500) [.row 500 3 1 (List.map en_int r)] := by
  refine introM (nz := 13) 3 [] Tryz.func92 rfl rfl rfl rfl (fun w0 M0 R0 env0 => ?_)
  rw [ev_slices_AppendSeq_Lint_int] at h;refine tr ?_;refine q0 (sp_box 4 rfl rfl rfl rfl rfl) ?_;refine qa ?_;refine TL.nil ?_;refine TC.seq ?_;refine tr ?_;refine qm ?_;refine TL.nil ?_;refine TC.block ?_;refine TC.pin 6 4 rfl rfl fun u3 => ?_
  obtain ⟨q6, h2, h⟩ := bind_inv h;refine rangeO (T := []) (T' := []) (k := 5) (gm := 3) (grec := 7) (S := [(2, .ptr 4 0)]) (V0 := (fun y5 : (List Int) => [.pin 6 4 u3, .blk 4 [.ref 0] 27, .row 0 3 1 (List.map en_int y5)])) (needI := [.rob 1 [.ref 2] 27, .ro 2 1 (List.map en_int seq2)]) (ps := [7]) (jl := []) (ea := ye_funcint_bool) (en := yn_funcint_bool) (f := (ev_slices_AppendSeq_Lint_int_r0 n)) (s0 := (s1, 0)) (yf := q6) (v := .tup []) (fi := []) (caps := [.ptr 1 0])
    ⟨fun x y r hr l rec hrd w0 M0 R0 => ok_slices_AppendSeq_Lint_int_r0 (u3 := u3) hr l rec hrd w0 M0 R0, ⟨rfl, trivial⟩, At.mem (is := [0, 1, 3]) ⟨rfl, rfl, rfl, trivial⟩, At.mem (is := [4, 5]) ⟨rfl, rfl, trivial⟩, rfl, pinsIn [4] [0] ⟨⟨_, _, fun _ => rfl⟩, trivial⟩ rfl, rfl, fun _ => rfl, fun _ _ => rfl, fun _ => rfl, fun _ _ => rfl, fun _ => rfl, fun _ => rfl, fun _ => rfl, rfl, rfl, fun _ => rfl, rfl⟩
    rfl rfl Tryz.call91 (takesNil rfl) 2 rfl (fun I hI => atT [(0, 5)] [(0, 5)] (ft_slices_Values_Lint_int_1 hI h2) rfl rfl rfl) (fun d => ?_)
  rcases cond_cases h with ⟨h3, h⟩ | ⟨h3, h⟩
  · refine done0 h3 ?_;refine TC.inBlock ?_;refine tr ?_;refine q1 2 rfl (sp_loadB rfl isBlk rfl vt27 rfl) ?_;refine qa ?_;refine TL.nil ?_;cases h;exact retM [(500, 0)] 0 3 [] rfl (.tmp rfl .nil) rfl ⟨mem_at 2 rfl, trivial⟩ rfl rfl trivial rfl
  · exact none_no h
def ev_slices_Collect_int (n : Nat) (seq1 : List Int) : Option ((List Int)) :=
  (ev_slices_AppendSeq_Lint_int n ([]) seq1).bind fun r2 => some r2
theorem fc_slices_Collect_int {n : Nat} {seq1 : List Int} {r : (List Int)} (h : ev_slices_Collect_int n seq1 = some r) : FC Tryz.prog 89 [.fn 91 [] [.ptr 0 0]] [.rob 0 [.ref 1] 27, .ro 1 1 (List.map en_int seq1)] (.ref 0) [.row 0 3 1 (List.map en_int r)] := by
  refine introJ (nz := 5) Tryz.func89 rfl rfl rfl (fun w0 R0 env0 => ?_)
  rw [ev_slices_Collect_int] at h;refine tr ?_;refine qa ?_;refine TL.nil ?_;refine tr ?_;refine qm ?_;obtain ⟨r2, h1, h⟩ := bind_inv h;refine opT (take := []) (need := [.rob 0 [.ref 1] 27, .ro 1 1 (List.map en_int seq1)]) (V' := [.row 3 3 1 (List.map en_int r2), .rob 0 [.ref 1] 27, .ro 1 1 (List.map en_int seq1)]) [] [0, 1] (ts_call (avs := [.val (.slice none 0 0), .fn 91 [] [.ptr 0 0]]) (take := []) (need := [.rob 0 [.ref 1] 27, .ro 1 1 (List.map en_int seq1)]) (v := .ref 3) (news := [.row 3 3 1 (List.map en_int r2)]) rfl rfl rfl Tryz.call92 (FT.nilT (args := [.ref 2, .fn 91 [] [.ptr 0 0]]) 2 3 1 (atT [(0, 2), (1, 0), (2, 1)] [(500, 3)] (ft_slices_AppendSeq_Lint_int h1) rfl rfl rfl) rfl rfl rfl rfl) rfl rfl) trivial rfl trivial ⟨rfl, rfl, trivial⟩ rfl rfl ?_;refine qa ?_;refine TL.nil ?_;cases h;exact retJ [(0, 3)] (.tmp rfl .nil) rfl ⟨mem_at 0 rfl, trivial⟩ rfl rfl
def rn_slices_Sort_Lint_int : Shelf.Ren := ⟨fun n => match n with | 125 => 94 | 128 => 104 | 129 => 105 | 189 => 90 | 215 => 85 | 216 => 101 | 257 => 93 | 294 => 95 | 295 => 96 | 296 => 97 | 297 => 98 | 298 => 99 | 299 => 100 | 300 => 102 | 301 => 103 | 328 => 106 | 329 => 107 | 330 => 108 | 331 => 109 | 332 => 110 | 343 => 111 | _ => 0, fun n => match n with | 0 => 0 | 3 => 3 | 4 => 4 | 5 => 5 | 9 => 9 | 28 => 27 | 46 => 150 | 51 => 161 | 53 => 163 | 131 => 158 | 182 => 152 | 183 => 153 | 218 => 164 | 222 => 168 | 228 => 170 | 229 => 113 | _ => 0, fun x => x⟩
theorem lays_slices_Sort_Lint_int : Lays.n189 Tryz.prog rn_slices_Sort_Lint_int where
  mixed := rfl
  f125 := Tryz.func94.trans (congrArg some (by kernel_rfl))
  f128 := Tryz.func104.trans (congrArg some (by kernel_rfl))
  f129 := Tryz.func105.trans (congrArg some (by kernel_rfl))
  f189 := Tryz.func90.trans (congrArg some (by kernel_rfl))
  f215 := Tryz.func85.trans (congrArg some (by kernel_rfl))
  f216 := Tryz.func101.trans (congrArg some (by kernel_rfl))
  f257 := Tryz.func93.trans (congrArg some (by kernel_rfl))
  f294 := Tryz.func95.trans (congrArg some (by kernel_rfl))
  f295 := Tryz.func96.trans (congrArg some (by kernel_rfl))
  f296 := Tryz.func97.trans (congrArg some (by kernel_rfl))
  f297 := Tryz.func98.trans (congrArg some (by kernel_rfl))
  f298 := Tryz.func99.trans (congrArg some (by kernel_rfl))
  f299 := Tryz.func100.trans (congrArg some (by kernel_rfl))
  f300 := Tryz.func102.trans (congrArg some (by kernel_rfl))
  f301 := Tryz.func103.trans (congrArg some (by kernel_rfl))
  f328 := Tryz.func106.trans (congrArg some (by kernel_rfl))
  f329 := Tryz.func107.trans (congrArg some (by kernel_rfl))
  f330 := Tryz.func108.trans (congrArg some (by kernel_rfl))
  f331 := Tryz.func109.trans (congrArg some (by kernel_rfl))
  f332 := Tryz.func110.trans (congrArg some (by kernel_rfl))
  f343 := Tryz.func111.trans (congrArg some (by kernel_rfl))
  t0 := Tryz.underlying0
  a0 := Tryz.isAgg0
  z0 := Tryz.sizeOf0
  v0 := Tryz.zeroValue0
  t3 := Tryz.underlying3
  a3 := Tryz.isAgg3
  z3 := Tryz.sizeOf3
  v3 := Tryz.zeroValue3
  t4 := Tryz.underlying4
  a4 := Tryz.isAgg4
  z4 := Tryz.sizeOf4
  v4 := Tryz.zeroValue4
  t5 := Tryz.underlying5
  a5 := Tryz.isAgg5
  z5 := Tryz.sizeOf5
  v5 := Tryz.zeroValue5
  t9 := Tryz.underlying9
  a9 := Tryz.isAgg9
  z9 := Tryz.sizeOf9
  v9 := Tryz.zeroValue9
  t28 := Tryz.underlying27
  a28 := Tryz.isAgg27
  z28 := Tryz.sizeOf27
  v28 := Tryz.zeroValue27
  t46 := Tryz.underlying150
  a46 := Tryz.isAgg150
  z46 := Tryz.sizeOf150
  v46 := Tryz.zeroValue150
  t51 := Tryz.underlying161
  a51 := Tryz.isAgg161
  z51 := Tryz.sizeOf161
  v51 := Tryz.zeroValue161
  t53 := Tryz.underlying163
  a53 := Tryz.isAgg163
  z53 := Tryz.sizeOf163
  v53 := Tryz.zeroValue163
  t131 := Tryz.underlying158
  a131 := Tryz.isAgg158
  z131 := Tryz.sizeOf158
  v131 := Tryz.zeroValue158
  t182 := Tryz.underlying152
  a182 := Tryz.isAgg152
  z182 := Tryz.sizeOf152
  v182 := Tryz.zeroValue152
  t183 := Tryz.underlying153
  a183 := Tryz.isAgg153
  z183 := Tryz.sizeOf153
  v183 := Tryz.zeroValue153
  t218 := Tryz.underlying164
  a218 := Tryz.isAgg164
  z218 := Tryz.sizeOf164
  v218 := Tryz.zeroValue164
  t222 := Tryz.underlying168
  a222 := Tryz.isAgg168
  z222 := Tryz.sizeOf168
  v222 := Tryz.zeroValue168
  t228 := Tryz.underlying170
  a228 := Tryz.isAgg170
  z228 := Tryz.sizeOf170
  v228 := Tryz.zeroValue170
  t229 := Tryz.underlying113
  a229 := Tryz.isAgg113
  z229 := Tryz.sizeOf113
  v229 := Tryz.zeroValue113
def ev_slices_Sort_Lint_int (n : Nat) (x1 : List Int) : Option (List Int) := chk (room 8 x1.length) (some (srt x1))
theorem ft_slices_Sort_Lint_int {n : Nat} {x1 : List Int} {r : List Int} (h : ev_slices_Sort_Lint_int n x1 = some r) : FT Tryz.prog 90 [.ref 0] [.row 0 3 1 (List.map en_int x1)] [] (.tup []) [.row 0 3 1 (List.map en_int r)] := by
  obtain ⟨h1, h⟩ := chk_inv h;cases h;exact ft_sortS lays_slices_Sort_Lint_int h1
def ev_slices_Sorted_int (n : Nat) (seq1 : List Int) : Option ((List Int)) :=
  (ev_slices_Collect_int n seq1).bind fun r2 => (ev_slices_Sort_Lint_int n r2).bind fun r3 => some r3
theorem fc_slices_Sorted_int {n : Nat} {seq1 : List Int} {r : (List Int)} (h : ev_slices_Sorted_int n seq1 = some r) : FC Tryz.prog 86 [.fn 91 [] [.ptr 0 0]] [.rob 0 [.ref 1] 27, .ro 1 1 (List.map en_int seq1)] (.ref 0) [.row 0 3 1 (List.map en_int r)] := by
  refine introJ (nz := 9) Tryz.func86 rfl rfl rfl (fun w0 R0 env0 => ?_)
  rw [ev_slices_Sorted_int] at h;refine tr ?_;refine qa ?_;refine TL.nil ?_;refine tr ?_;refine qm ?_;obtain ⟨r2, h1, h⟩ := bind_inv h;refine opN (need := [.rob 0 [.ref 1] 27, .ro 1 1 (List.map en_int seq1)]) [0, 1] ⟨rfl, rfl, trivial⟩ (sp_call (avs := [.fn 91 [] [.ptr 0 0]]) (need := [.rob 0 [.ref 1] 27, .ro 1 1 (List.map en_int seq1)]) (v := .ref 2) (news := [.row 2 3 1 (List.map en_int r2)]) rfl rfl rfl Tryz.call89 (atJ [] [(0, 2)] (fc_slices_Collect_int h1) rfl rfl) (.inl (roAll rfl))) rfl trivial rfl rfl ?_;refine qa ?_;refine TL.nil ?_;refine tr ?_;refine qm ?_;obtain ⟨r3, h2, h⟩ := bind_inv h;refine opT (take := [.row 2 3 1 (List.map en_int r2)]) (need := []) (V' := [.row 2 3 1 (List.map en_int r3), .rob 0 [.ref 1] 27, .ro 1 1 (List.map en_int seq1)]) [0] [] (ts_call (avs := [.ref 2]) (take := [.row 2 3 1 (List.map en_int r2)]) (need := []) (v := .tup []) (news := [.row 2 3 1 (List.map en_int r3)]) rfl rfl rfl Tryz.call90 (atT [(0, 2)] [(0, 2)] (ft_slices_Sort_Lint_int h2) rfl rfl rfl) rfl rfl) trivial rfl ⟨rfl, trivial⟩ trivial rfl rfl ?_;refine TL.nil ?_;refine tr ?_;refine qm ?_;refine qa ?_;refine TL.nil ?_;cases h;exact retJ [(0, 2)] (.tmp rfl .nil) rfl ⟨mem_at 0 rfl, trivial⟩ rfl rfl
def rn_slices_Compact_Lint_int : Shelf.Ren := ⟨fun _ => 88, fun n => match n with | 0 => 0 | 3 => 3 | 4 => 4 | 22 => 27 | _ => 0, fun x => x⟩
theorem lays_slices_Compact_Lint_int : Lays2.n20 Tryz.prog rn_slices_Compact_Lint_int where
  mixed := rfl
  f20 := Tryz.func88.trans (congrArg some (by kernel_rfl))
  t0 := Tryz.underlying0
  a0 := Tryz.isAgg0
  z0 := Tryz.sizeOf0
  v0 := Tryz.zeroValue0
  t3 := Tryz.underlying3
  a3 := Tryz.isAgg3
  z3 := Tryz.sizeOf3
  v3 := Tryz.zeroValue3
  t4 := Tryz.underlying4
  a4 := Tryz.isAgg4
  z4 := Tryz.sizeOf4
  v4 := Tryz.zeroValue4
  t22 := Tryz.underlying27
  a22 := Tryz.isAgg27
  z22 := Tryz.sizeOf27
  v22 := Tryz.zeroValue27
  i3 := by kernel_rfl
def ev_slices_Compact_Lint_int (n : Nat) (s1 : List Int) : Option (List Int) := chk (room 8 s1.length) (some (Lib.compact s1))
theorem ft_slices_Compact_Lint_int {n : Nat} {s1 : List Int} {r : List Int} (h : ev_slices_Compact_Lint_int n s1 = some r) : FT Tryz.prog 88 [.ref 0] [.row 0 3 1 (List.map en_int s1)] [] (.ref 500) [.row 500 3 1 (List.map en_int r)] := by
  obtain ⟨h1, h⟩ := chk_inv h;cases h;exact ft_compactI lays_slices_Compact_Lint_int 500 rfl h1
def ev_slices_Min_round_clocks_int_l1 (n : Nat) (x1 : List Int) : Nat → Int → Int → Option Int
  | 0, _, _ => none
  | m + 1, i3, i4 => cond (decide (i4 < (x1.length : Int))) (idx x1 i4 fun x5 => chk (in64 (i4 + 1)) <| ev_slices_Min_round_clocks_int_l1 n x1 m (min i3 x5) (i4 + 1)) (some i3)
theorem ok_slices_Min_round_clocks_int_l1 {n : Nat} {w0 : World} {R0 : Nat → Prop} {env0 : Env} {r : Int} {x1 : List Int} : ∀ (m : Nat) (i3 : Int) (i4 : Int), ev_slices_Min_round_clocks_int_l1 n x1 m i3 i4 = some r → TC Tryz.prog ⟨w0, fun _ => False, R0⟩ 25 (bodyPost Tryz.prog Tryz.f80 (Post ⟨w0, fun _ => False, R0⟩ env0 (vi r) [])) [.code (sub (bodyOf Tryz.f80) [1, 1, 1, 0, 1, 0, 0, 0, 0]), .code (sub (bodyOf Tryz.f80) [1, 1, 1, 0, 1, 0, 0, 0, 1]), .code (sub (bodyOf Tryz.f80) [1, 1, 1, 0, 1, 0, 0, 1]), .inLoop (sub (bodyOf Tryz.f80) [1, 1, 1, 0, 1, 0, 0]), .inBlock 0, .code (sub (bodyOf Tryz.f80) [1, 1, 1, 1])] ([(0, .ref 0), (3, vi i3), (4, vi i4)]) ([.ro 0 1 (List.map en_int x1)]) := by
  intro m
  induction m with
  | zero => intro i3 i4 h; exact none_no h
  | succ m ih =>
    intro i3 i4 h;rw [ev_slices_Min_round_clocks_int_l1] at h;refine TC.region ?_;refine qm ?_;refine qm ?_;refine q1 0 rfl (sp_lenM (N := x1.length) (len_map _ _) rfl rfl isRo Tryz.underlying109) ?_;refine q0 (sp_lss rfl rfl rfl) ?_;refine TL.nil ?_;refine TC.cond (b := (decide (i4 < (x1.length : Int)))) rfl (fun h4 => ?_) (fun h4 => ?_)
    · have h := cond_t h h4;refine TC.skip ?_;refine TC.seq ?_;refine TC.block ?_;refine TC.region ?_;refine qm ?_;refine qm ?_;refine qm ?_;obtain ⟨x5, h5, h6, h⟩ := idx_inv h;refine q1 0 rfl (sp_indexS rfl rfl rfl isRo sl109 h5 (map_get _ h6)) ?_;refine q1 0 rfl (sp_loadR (i := (i4 : Int).toNat) (j := 0) rfl rfl isRo vt3 rfl (map_get _ h6) rfl (.v (.nil)) (nodup_of_B rfl)) ?_;refine q0 (sp_min rfl rfl rfl) ?_;refine qa ?_;refine TL.nil ?_;refine TC.inBlock ?_;refine TC.region ?_;refine qm ?_;obtain ⟨h7, h⟩ := chk_inv h;refine q0 (sp_add rfl rfl rfl h7) ?_;refine qa ?_;refine TL.nil ?_;refine TC.inLoop ?_;refine TC.seq ?_;refine TC.seq ?_;refine subJ [] (ih _ _ h) ?_ ?_ ?_
      · exact ⟨rfl, rfl, rfl, trivial⟩
      · exact ⟨mem_at 0 rfl, trivial⟩
      · rfl
    · have h := cond_f h h4;refine TC.exit rfl ?_;refine tr ?_;refine qm ?_;refine qa ?_;refine TL.nil ?_;cases h;exact retJ [] (.tmp rfl .nil) rfl trivial rfl rfl
def ev_slices_Min_round_clocks_int_j0 (n : Nat) (x1 : List Int) : Option Int :=
  idx x1 0 fun x2 => ev_slices_Min_round_clocks_int_l1 n x1 n x2 1
theorem ok_slices_Min_round_clocks_int_j0 {n : Nat} {w0 : World} {R0 : Nat → Prop} {env0 : Env} {r : Int} {x1 : List Int} (h : ev_slices_Min_round_clocks_int_j0 n x1 = some r) : TC Tryz.prog ⟨w0, fun _ => False, R0⟩ 25 (bodyPost Tryz.prog Tryz.f80 (Post ⟨w0, fun _ => False, R0⟩ env0 (vi r) [])) [.code (sub (bodyOf Tryz.f80) [1, 1, 0]), .code (sub (bodyOf Tryz.f80) [1, 1, 1])] ([(0, .ref 0)]) ([.ro 0 1 (List.map en_int x1)]) := by
  rw [ev_slices_Min_round_clocks_int_j0] at h;refine TC.region ?_;refine qm ?_;obtain ⟨x2, h2, h3, h⟩ := idx_inv h;refine q1 0 rfl (sp_indexS rfl rfl rfl isRo sl109 h2 (map_get _ h3)) ?_;refine q1 0 rfl (sp_loadR (i := (0 : Int).toNat) (j := 0) rfl rfl isRo vt3 rfl (map_get _ h3) rfl (.v (.nil)) (nodup_of_B rfl)) ?_;refine qa ?_;refine TL.nil ?_;refine TC.seq ?_;refine tr ?_;refine qa ?_;refine TL.nil ?_;refine TC.block ?_;refine TC.loop ?_;refine TC.seq ?_;refine TC.seq ?_;refine subJ [] (ok_slices_Min_round_clocks_int_l1 _ _ _ h) ?_ ?_ ?_
  · exact ⟨rfl, rfl, rfl, trivial⟩
  · exact ⟨mem_at 0 rfl, trivial⟩
  · rfl
def ev_slices_Min_round_clocks_int (n : Nat) (x1 : List Int) : Option Int :=
  cond (decide ((x1.length : Int) < 1)) (none) (ev_slices_Min_round_clocks_int_j0 n x1)
theorem fc_slices_Min_round_clocks_int {n : Nat} {x1 : List Int} {r : Int} (h : ev_slices_Min_round_clocks_int n x1 = some r) : FC Tryz.prog 80 [.ref 0] [.ro 0 1 (List.map en_int x1)] (vi r) [] := by
  refine introJ (nz := 25) Tryz.func80 rfl rfl rfl (fun w0 R0 env0 => ?_)
  rw [ev_slices_Min_round_clocks_int] at h;refine tr ?_;refine qa ?_;refine TL.nil ?_;refine TC.seq ?_;refine tr ?_;refine qm ?_;refine q1 0 rfl (sp_lenM (N := x1.length) (len_map _ _) rfl rfl isRo Tryz.underlying109) ?_;refine q0 (sp_lss rfl rfl rfl) ?_;refine TL.nil ?_;refine TC.cond (b := (decide ((x1.length : Int) < 1))) rfl (fun h1 => ?_) (fun h1 => ?_)
  · have h := cond_t h h1;refine TC.region ?_;exact none_no h
  · have h := cond_f h h1;refine TC.skip ?_;refine TC.seq ?_;refine subJ [] (ok_slices_Min_round_clocks_int_j0 h) ?_ ?_ ?_
    · exact ⟨rfl, trivial⟩
    · exact ⟨mem_at 0 rfl, trivial⟩
    · rfl
def ev_slices_Index_round_clocks_int_l0 (n : Nat) (s1 : List Int) (v2 : Int) : Nat → Int → Option Int
  | 0, _ => none
  | m + 1, i3 => cond (decide (i3 < (s1.length : Int))) (idx s1 i3 fun x4 => cond (v2 == x4) (some i3) (chk (in64 (i3 + 1)) <| ev_slices_Index_round_clocks_int_l0 n s1 v2 m (i3 + 1))) (some (-1))
theorem ok_slices_Index_round_clocks_int_l0 {n : Nat} {w0 : World} {R0 : Nat → Prop} {env0 : Env} {r : Int} {v2 : Int} {s1 : List Int} : ∀ (m : Nat) (i3 : Int), ev_slices_Index_round_clocks_int_l0 n s1 v2 m i3 = some r → TC Tryz.prog ⟨w0, fun _ => False, R0⟩ 19 (bodyPost Tryz.prog Tryz.f81 (Post ⟨w0, fun _ => False, R0⟩ env0 (vi r) [])) [.code (sub (bodyOf Tryz.f81) [1, 0, 1, 0, 0, 0]), .code (sub (bodyOf Tryz.f81) [1, 0, 1, 0, 0, 1]), .inLoop (sub (bodyOf Tryz.f81) [1, 0, 1, 0, 0]), .inBlock 0, .code (sub (bodyOf Tryz.f81) [1, 1])] ([(0, .ref 0), (1, vi v2), (7, vi (s1.length : Int)), (8, vi i3)]) ([.ro 0 1 (List.map en_int s1)]) := by
  intro m
  induction m with
  | zero => intro i3 h; exact none_no h
  | succ m ih =>
    intro i3 h;rw [ev_slices_Index_round_clocks_int_l0] at h;refine TC.region ?_;refine q0 (sp_lss rfl rfl rfl) ?_;refine TL.nil ?_;refine TC.seq ?_;refine TC.cond (b := (decide (i3 < (s1.length : Int)))) rfl (fun h1 => ?_) (fun h1 => ?_)
    · have h := cond_t h h1;refine TC.skip ?_;refine TC.seq ?_;refine TC.block ?_;refine tr ?_;refine qm ?_;refine qa ?_;refine TL.nil ?_;refine tr ?_;refine qm ?_;refine qm ?_;refine qm ?_;obtain ⟨x4, h2, h3, h⟩ := idx_inv h;refine q1 0 rfl (sp_indexS rfl rfl rfl isRo sl109 h2 (map_get _ h3)) ?_;refine q1 0 rfl (sp_loadR (i := (i3 : Int).toNat) (j := 0) rfl rfl isRo vt3 rfl (map_get _ h3) rfl (.v (.nil)) (nodup_of_B rfl)) ?_;refine q0 (sp_eql rfl rfl rfl) ?_;refine TL.nil ?_;refine TC.cond (b := (v2 == x4)) rfl (fun h4 => ?_) (fun h4 => ?_)
      · have h := cond_t h h4;refine tr ?_;refine qm ?_;refine qa ?_;refine TL.nil ?_;cases h;exact retJ [] (.tmp rfl .nil) rfl trivial rfl rfl
      · have h := cond_f h h4;refine TC.skip ?_;refine TC.inBlock ?_;refine TC.region ?_;obtain ⟨h5, h⟩ := chk_inv h;refine q0 (sp_add rfl rfl rfl h5) ?_;refine qm ?_;refine TL.nil ?_;refine TC.inLoop ?_;refine TC.seq ?_;refine subJ [] (ih _ h) ?_ ?_ ?_
        · exact ⟨rfl, rfl, rfl, rfl, trivial⟩
        · exact ⟨mem_at 0 rfl, trivial⟩
        · rfl
    · have h := cond_f h h1;refine TC.exit rfl ?_;refine tr ?_;refine qa ?_;refine TL.nil ?_;cases h;exact retJ [] (.tmp rfl .nil) rfl trivial rfl rfl
def ev_slices_Index_round_clocks_int (n : Nat) (s1 : List Int) (v2 : Int) : Option Int :=
  ev_slices_Index_round_clocks_int_l0 n s1 v2 n 0
theorem fc_slices_Index_round_clocks_int {n : Nat} {s1 : List Int} {v2 : Int} {r : Int} (h : ev_slices_Index_round_clocks_int n s1 v2 = some r) : FC Tryz.prog 81 [.ref 0, vi v2] [.ro 0 1 (List.map en_int s1)] (vi r) [] := by
  refine introJ (nz := 19) Tryz.func81 rfl rfl rfl (fun w0 R0 env0 => ?_)
  rw [ev_slices_Index_round_clocks_int] at h;refine tr ?_;refine qa ?_;refine TL.nil ?_;refine TC.seq ?_;refine tr ?_;refine qm ?_;refine q1 0 rfl (sp_lenM (N := s1.length) (len_map _ _) rfl rfl isRo Tryz.underlying109) ?_;refine qm ?_;refine TL.nil ?_;refine TC.block ?_;refine TC.loop ?_;refine TC.seq ?_;refine subJ [] (ok_slices_Index_round_clocks_int_l0 _ _ h) ?_ ?_ ?_
  · exact ⟨rfl, rfl, rfl, rfl, trivial⟩
  · exact ⟨mem_at 0 rfl, trivial⟩
  · rfl
end
end Go.Proofs.YtohjpfkcahlfkaaGreat.Sy
