/- What functions of the program compute, and that they do: printed by symgen.py. -/
import Derived.Test.YtohjpfkcahlfkaaPeSymRS
import Derived.Test.YtohjpfkcahlfkaaProg
set_option linter.unusedSimpArgs false
set_option linter.unusedVariables false
namespace Go.Proofs.Ytohjpfkcahlfkaa.Sy
open Go.RowKit
noncomputable section
abbrev vi (x : Int) : AV := .val (.int .i64 x)
abbrev LT := List (Int × Int × Int × Int × Int)
abbrev LW := List (Int × Int × Int × Int)
abbrev LL := List ((List Int))
abbrev vb (x : Bool) : AV := .val (.bool x)
abbrev vu (x : Int) : AV := .val (.int .u16 x)
section
variable {P : Program} {c : Ctx} {sz : Fm} {Q : Exit → Act → World → Prop} {t : List Item} {s : List (Nat × AV)} {V : List NEnt} {ops : Array Oper} {rest : List Oper} {o : Oper}
theorem q0 {v : AV} {news : List NEnt} {d : Nat} (hs : OpSpec P o (rho s) [] v news) (k : TL P c sz Q ops rest t ((d, v) :: s) (news ++ V)) (hd : o.dst = some d := by exact rfl) (hw : Wanted ops s o := by exact trivial) (hlt : Nat.blt d sz.sz = true := by exact rfl) (hf : freshN news s V = true := by exact rfl) : TL P c sz Q ops (o :: rest) t s V := op0 hs hd hw hlt hf k
theorem q1 {v : AV} {news : List NEnt} {d : Nat} {y : NEnt} (i : Nat) (hy : V[i]? = some y) (hs : OpSpec P o (rho s) [y] v news) (k : TL P c sz Q ops rest t ((d, v) :: s) (news ++ V)) (hd : o.dst = some d := by exact rfl) (hw : Wanted ops s o := by exact trivial) (hlt : Nat.blt d sz.sz = true := by exact rfl) (hf : freshN news s V = true := by exact rfl) : TL P c sz Q ops (o :: rest) t s V := op1 i hy hs hd hw hlt hf k
theorem q2 {v : AV} {news : List NEnt} {d : Nat} {y : NEnt} (i : Nat) (hy : V[i]? = some y) (hs : OpSpec P o (rho s) [y] v news) (k : TL P c sz Q ops rest t ((d, v) :: s) (news ++ V)) (hd : o.dst = some d := by exact rfl) (hw : Wanted ops s o := by exact ⟨_, rfl, rfl⟩) (hlt : Nat.blt d sz.sz = true := by exact rfl) (hf : freshN news s V = true := by exact rfl) : TL P c sz Q ops (o :: rest) t s V := op1 i hy hs hd hw hlt hf k
theorem q3 {v : AV} {news : List NEnt} {d : Nat} (hs : OpSpec P o (rho s) [] v news) (k : TL P c sz Q ops rest t ((d, v) :: s) (news ++ V)) (hd : o.dst = some d := by exact rfl) (hw : Wanted ops s o := by exact ⟨_, rfl, rfl⟩) (hlt : Nat.blt d sz.sz = true := by exact rfl) (hf : freshN news s V = true := by exact rfl) : TL P c sz Q ops (o :: rest) t s V := op0 hs hd hw hlt hf k
theorem qs {d : Nat} (k : TL P c sz Q ops rest t ((d, .val undef) :: s) V) (hd : o.dst = some d := by exact rfl) (hw : Unwanted ops s o := by exact ⟨_, rfl, .inl rfl⟩) (hlt : Nat.blt d sz.sz = true := by exact rfl) : TL P c sz Q ops (o :: rest) t s V := opSkip hd hw hlt k
theorem qa {d : Nat} {x : Operand} {v : AV} (k : TL P c sz Q ops rest t ((d, v) :: s) V) (hd : o.dst = some d := by exact rfl) (ho : o.op = .assign x := by exact rfl) (hx : rho s x = some v := by exact rfl) (hw : Wanted ops s o := by exact trivial) (hlt : Nat.blt d sz.sz = true := by exact rfl) (hf : freshN [] s V = true := by exact rfl) : TL P c sz Q ops (o :: rest) t s V := op0 (sp_assign ho hx) hd hw hlt hf k
theorem tr {x : List Oper} {y : Code} {id : Nat} (h : TL P c sz Q x.toArray x (.code y :: t) s V) : TC P c sz Q (.code (.seq (.region id x.toArray false) y) :: t) s V := TC.seq (TC.region h)
theorem qm {d : Nat} {x : Operand} {v : AV} (k : TL P c sz Q ops rest t ((d, v) :: s) V) (hd : o.dst = some d := by exact rfl) (ho : o.op = .move x := by exact rfl) (hx : rho s x = some v := by exact rfl) (hw : Wanted ops s o := by exact trivial) (hlt : Nat.blt d sz.sz = true := by exact rfl) (hf : freshN [] s V = true := by exact rfl) : TL P c sz Q ops (o :: rest) t s V := op0 (sp_move ho hx) hd hw hlt hf k
end
section
variable {P : Program} {s : List (Nat × AV)} {o : Oper} {ops : Array Oper} {V : List NEnt} {outs : List DO} {i : Nat} {l : List Oper} {d : DO} {ds : List DO}
theorem dp2 (ps : List (Option Nat × Nat)) (hs : OpSpec P o (rho s) d.need d.v d.news) (hn : From ops outs V i ps d.need) (h : DAll P ops outs V (i + 1) l ds (putS o d.v s)) (hw : Wanted ops s o := by exact trivial) (ht : d.take = [] := by exact rfl) : DAll P ops outs V i (o :: l) (d :: ds) s := .op' hs hw ht (From.ok hn) h
theorem dp0 (hs : OpSpec P o (rho s) d.need d.v d.news) (h : DAll P ops outs V (i + 1) l ds (putS o d.v s)) (hw : Wanted ops s o := by exact trivial) (ht : d.take = [] := by exact rfl) (hn : From ops outs V i [] d.need := by exact trivial) : DAll P ops outs V i (o :: l) (d :: ds) s := .op' hs hw ht (From.ok hn) h
theorem dp1 (k : Nat) (hs : OpSpec P o (rho s) d.need d.v d.news) (h : DAll P ops outs V (i + 1) l ds (putS o d.v s)) (hw : Wanted ops s o := by exact trivial) (ht : d.take = [] := by exact rfl) (hn : From ops outs V i [(none, k)] d.need := by exact ⟨⟨rfl, rfl⟩, trivial⟩) : DAll P ops outs V i (o :: l) (d :: ds) s := .op' hs hw ht (From.ok hn) h
theorem dq2 (ps : List (Option Nat × Nat)) (hs : OpSpec P o (rho s) d.need d.v d.news) (hn : From ops outs V i ps d.need) (h : DAll P ops outs V (i + 1) l ds (putS o d.v s)) (hw : Wanted ops s o := by exact ⟨_, rfl, rfl⟩) (ht : d.take = [] := by exact rfl) : DAll P ops outs V i (o :: l) (d :: ds) s := .op' hs hw ht (From.ok hn) h
theorem dq0 (hs : OpSpec P o (rho s) d.need d.v d.news) (h : DAll P ops outs V (i + 1) l ds (putS o d.v s)) (hw : Wanted ops s o := by exact ⟨_, rfl, rfl⟩) (ht : d.take = [] := by exact rfl) (hn : From ops outs V i [] d.need := by exact trivial) : DAll P ops outs V i (o :: l) (d :: ds) s := .op' hs hw ht (From.ok hn) h
theorem dq1 (k : Nat) (hs : OpSpec P o (rho s) d.need d.v d.news) (h : DAll P ops outs V (i + 1) l ds (putS o d.v s)) (hw : Wanted ops s o := by exact ⟨_, rfl, rfl⟩) (ht : d.take = [] := by exact rfl) (hn : From ops outs V i [(none, k)] d.need := by exact ⟨⟨rfl, rfl⟩, trivial⟩) : DAll P ops outs V i (o :: l) (d :: ds) s := .op' hs hw ht (From.ok hn) h
end
set_option maxRecDepth 100000
set_option maxHeartbeats 2000000
def en_5_uint8 : Int × Int × Int × Int × Int → List D := fun x => [D.v (.int .u8 x.1), D.v (.int .u8 x.2.1), D.v (.int .u8 x.2.2.1), D.v (.int .u8 x.2.2.2.1), D.v (.int .u8 x.2.2.2.2)]
def en_uint8 : Int → List D := fun x => [D.v (.int .u8 x)]
def en_4_uint8 : Int × Int × Int × Int → List D := fun x => [D.v (.int .u8 x.1), D.v (.int .u8 x.2.1), D.v (.int .u8 x.2.2.1), D.v (.int .u8 x.2.2.2)]
theorem vt54 : VarT Try.prog 54 5 true := ⟨Try.isAgg54, Try.sizeOf54⟩
def en_api_RoundTower : Int × Int × Int × Int × Int → List D := fun x => [D.v (.int .i64 x.1), D.v (.int .i64 x.2.1), D.v (.int .u16 x.2.2.1), D.v (.int .i64 x.2.2.2.1), D.v (.int .i64 x.2.2.2.2)]
def en_int : Int → List D := fun x => [D.v (.int .i64 x)]
theorem en_int_flat : ∀ a, ∀ d ∈ en_int a, ∃ x, d = D.v x := by
  intro a d h;simp only [en_int, List.mem_cons, List.not_mem_nil, or_false] at h;rcases h with rfl <;> exact ⟨_, rfl⟩
def en_Lint : (List Int) → List D := fun x => [D.s 1 (List.map en_int x)]
def en_api_RoundWinder : Int × Int × Int × Int → List D := fun x => [D.v (.int .u16 x.1), D.v (.int .i64 x.2.1), D.v (.int .i64 x.2.2.1), D.v (.int .i64 x.2.2.2)]
theorem ft54_3 : FieldT Try.prog 54 3 3 5 := ⟨_, _, Try.underlying54, rfl, rfl, rfl⟩
theorem vt5 : VarT Try.prog 5 1 false := ⟨Try.isAgg5, Try.sizeOf5⟩
theorem ft54_4 : FieldT Try.prog 54 4 4 5 := ⟨_, _, Try.underlying54, rfl, rfl, rfl⟩
theorem bt26 : ∀ parts, Try.prog.built 26 parts = Instr.fill (fun i => (#[(0, 1), (1, 1), (2, 1), (3, 1), (4, 1)] : Array (Nat × Nat))[i]?) (AV.denL (fun _ => undef) [.val (.slice none 0 0), .val (.slice none 0 0), .val (.slice none 0 0), vi 0, vi 0]).toArray parts := fun _ => by kernel_rfl
theorem vt26 : VarT Try.prog 26 5 true := ⟨Try.isAgg26, Try.sizeOf26⟩
theorem bt46 : ∀ parts, Try.prog.built 46 parts = Instr.fill (fun i => (#[(0, 1), (1, 1), (2, 1), (3, 1), (4, 1)] : Array (Nat × Nat))[i]?) (AV.denL (fun _ => undef) [vi 0, vi 0, vu 0, vi 0, vi 0]).toArray parts := fun _ => by kernel_rfl
theorem vt46 : VarT Try.prog 46 5 true := ⟨Try.isAgg46, Try.sizeOf46⟩
theorem ft54_0 : FieldT Try.prog 54 0 0 50 := ⟨_, _, Try.underlying54, rfl, rfl, rfl⟩
theorem vt50 : VarT Try.prog 50 1 false := ⟨Try.isAgg50, Try.sizeOf50⟩
theorem sl50 : SlT Try.prog 50 89 5 5 := ⟨Try.underlying50, ⟨Try.t89, _, by kernel_rfl, rfl, rfl, rfl, rfl⟩, by decide⟩
theorem vt89 : VarT Try.prog 89 5 true := ⟨Try.isAgg89, Try.sizeOf89⟩
theorem ft26_0 : FieldT Try.prog 26 0 0 22 := ⟨_, _, Try.underlying26, rfl, rfl, rfl⟩
theorem vt22 : VarT Try.prog 22 1 false := ⟨Try.isAgg22, Try.sizeOf22⟩
theorem sl22 : SlT Try.prog 22 46 5 40 := ⟨Try.underlying22, ⟨Try.t46, _, by kernel_rfl, rfl, rfl, rfl, rfl⟩, by decide⟩
theorem sl30 : SlT Try.prog 30 3 1 8 := ⟨Try.underlying30, ⟨Try.t3, _, by kernel_rfl, rfl, rfl, rfl, rfl⟩, by decide⟩
theorem ft54_1 : FieldT Try.prog 54 1 1 51 := ⟨_, _, Try.underlying54, rfl, rfl, rfl⟩
theorem vt51 : VarT Try.prog 51 1 false := ⟨Try.isAgg51, Try.sizeOf51⟩
theorem sl51 : SlT Try.prog 51 5 1 1 := ⟨Try.underlying51, ⟨Try.t5, _, by kernel_rfl, rfl, rfl, rfl, rfl⟩, by decide⟩
theorem ft26_1 : FieldT Try.prog 26 1 1 23 := ⟨_, _, Try.underlying26, rfl, rfl, rfl⟩
theorem vt23 : VarT Try.prog 23 1 false := ⟨Try.isAgg23, Try.sizeOf23⟩
theorem sl23 : SlT Try.prog 23 30 1 24 := ⟨Try.underlying23, ⟨Try.t30, _, by kernel_rfl, rfl, rfl, rfl, rfl⟩, by decide⟩
theorem bt76 : ∀ parts, Try.prog.built 76 parts = Instr.fill (fun i => (#[(0, 1), (1, 1), (2, 1), (3, 1)] : Array (Nat × Nat))[i]?) (AV.denL (fun _ => undef) [vu 0, vi 0, vi 0, vi 0]).toArray parts := fun _ => by kernel_rfl
theorem vt76 : VarT Try.prog 76 4 true := ⟨Try.isAgg76, Try.sizeOf76⟩
theorem ft54_2 : FieldT Try.prog 54 2 2 52 := ⟨_, _, Try.underlying54, rfl, rfl, rfl⟩
theorem vt52 : VarT Try.prog 52 1 false := ⟨Try.isAgg52, Try.sizeOf52⟩
theorem sl52 : SlT Try.prog 52 90 4 4 := ⟨Try.underlying52, ⟨Try.t90, _, by kernel_rfl, rfl, rfl, rfl, rfl⟩, by decide⟩
theorem vt90 : VarT Try.prog 90 4 true := ⟨Try.isAgg90, Try.sizeOf90⟩
theorem ft26_2 : FieldT Try.prog 26 2 2 24 := ⟨_, _, Try.underlying26, rfl, rfl, rfl⟩
theorem vt24 : VarT Try.prog 24 1 false := ⟨Try.isAgg24, Try.sizeOf24⟩
theorem sl24 : SlT Try.prog 24 76 4 32 := ⟨Try.underlying24, ⟨Try.t76, _, by kernel_rfl, rfl, rfl, rfl, rfl⟩, by decide⟩
theorem bt66 : ∀ parts, Try.prog.built 66 parts = Instr.fill (fun i => some (i * 1, 1)) (AV.denL (fun _ => undef) [vb false, vb false, vb false, vb false, vb false, vb false, vb false, vb false]).toArray parts := fun _ => by kernel_rfl
theorem vt66 : VarT Try.prog 66 8 true := ⟨Try.isAgg66, Try.sizeOf66⟩
theorem vt4 : VarT Try.prog 4 1 false := ⟨Try.isAgg4, Try.sizeOf4⟩
def vx_bool : Bool → List Value := fun x => [.bool x]
theorem vt30 : VarT Try.prog 30 1 false := ⟨Try.isAgg30, Try.sizeOf30⟩
theorem ft76_2 : FieldT Try.prog 76 2 2 3 := ⟨_, _, Try.underlying76, rfl, rfl, rfl⟩
theorem vt3 : VarT Try.prog 3 1 false := ⟨Try.isAgg3, Try.sizeOf3⟩
theorem ft76_3 : FieldT Try.prog 76 3 3 3 := ⟨_, _, Try.underlying76, rfl, rfl, rfl⟩
theorem ft76_0 : FieldT Try.prog 76 0 0 44 := ⟨_, _, Try.underlying76, rfl, rfl, rfl⟩
theorem vt44 : VarT Try.prog 44 1 false := ⟨Try.isAgg44, Try.sizeOf44⟩
theorem ft76_1 : FieldT Try.prog 76 1 1 3 := ⟨_, _, Try.underlying76, rfl, rfl, rfl⟩
theorem ft26_3 : FieldT Try.prog 26 3 3 3 := ⟨_, _, Try.underlying26, rfl, rfl, rfl⟩
def fe_funcint_bool : Int → List AV := fun a => [vi a]
def fd_funcint_bool : Bool → AV := fun b => vb b
def fe_funcapi_RoundTower_bool : Int × Int × Int × Int × Int → List AV := fun a => [.agg [vi a.1, vi a.2.1, vu a.2.2.1, vi a.2.2.2.1, vi a.2.2.2.2]]
def fd_funcapi_RoundTower_bool : Bool → AV := fun b => vb b
theorem ft46_0 : FieldT Try.prog 46 0 0 3 := ⟨_, _, Try.underlying46, rfl, rfl, rfl⟩
theorem ft46_1 : FieldT Try.prog 46 1 1 3 := ⟨_, _, Try.underlying46, rfl, rfl, rfl⟩
theorem ft46_3 : FieldT Try.prog 46 3 3 3 := ⟨_, _, Try.underlying46, rfl, rfl, rfl⟩
theorem ft46_4 : FieldT Try.prog 46 4 4 3 := ⟨_, _, Try.underlying46, rfl, rfl, rfl⟩
theorem vt118 : VarT Try.prog 118 1 false := ⟨Try.isAgg118, Try.sizeOf118⟩
def fe_funcapi_RoundWinder_bool : Int × Int × Int × Int → List AV := fun a => [.agg [vu a.1, vi a.2.1, vi a.2.2.1, vi a.2.2.2]]
def fd_funcapi_RoundWinder_bool : Bool → AV := fun b => vb b
theorem vt121 : VarT Try.prog 121 1 false := ⟨Try.isAgg121, Try.sizeOf121⟩
theorem ft26_4 : FieldT Try.prog 26 4 4 3 := ⟨_, _, Try.underlying26, rfl, rfl, rfl⟩
theorem bt97 : ∀ parts, Try.prog.built 97 parts = Instr.fill (fun i => (#[(0, 1), (1, 1), (2, 1), (3, 1)] : Array (Nat × Nat))[i]?) (AV.denL (fun _ => undef) [vi 0, .val (.slice none 0 0), vi 0, vb false]).toArray parts := fun _ => by kernel_rfl
theorem bt100 : ∀ parts, Try.prog.built 100 parts = Instr.fill (fun i => (#[(0, 5), (5, 4), (9, 1), (10, 1), (11, 1), (12, 1), (13, 1)] : Array (Nat × Nat))[i]?) (AV.denL (fun _ => undef) [.val (.slice none 0 0), .val (.slice none 0 0), .val (.slice none 0 0), vi 0, vi 0, vu 0, vi 0, vi 0, vi 0, vi 0, vi 0, vi 0, vi 0, vi 0]).toArray parts := fun _ => by kernel_rfl
theorem vt100 : VarT Try.prog 100 14 true := ⟨Try.isAgg100, Try.sizeOf100⟩
theorem ft97_3 : FieldT Try.prog 97 3 3 4 := ⟨_, _, Try.underlying97, rfl, rfl, rfl⟩
theorem ft100_6 : FieldT Try.prog 100 6 13 3 := ⟨_, _, Try.underlying100, rfl, rfl, rfl⟩
theorem ft97_2 : FieldT Try.prog 97 2 2 3 := ⟨_, _, Try.underlying97, rfl, rfl, rfl⟩
theorem ft100_3 : FieldT Try.prog 100 3 10 92 := ⟨_, _, Try.underlying100, rfl, rfl, rfl⟩
theorem vt92 : VarT Try.prog 92 1 false := ⟨Try.isAgg92, Try.sizeOf92⟩
theorem ft97_0 : FieldT Try.prog 97 0 0 92 := ⟨_, _, Try.underlying97, rfl, rfl, rfl⟩
theorem ft100_0 : FieldT Try.prog 100 0 0 26 := ⟨_, _, Try.underlying100, rfl, rfl, rfl⟩
theorem ft100_2 : FieldT Try.prog 100 2 9 3 := ⟨_, _, Try.underlying100, rfl, rfl, rfl⟩
theorem ft100_5 : FieldT Try.prog 100 5 12 3 := ⟨_, _, Try.underlying100, rfl, rfl, rfl⟩
theorem ft100_1 : FieldT Try.prog 100 1 5 76 := ⟨_, _, Try.underlying100, rfl, rfl, rfl⟩
theorem ft97_1 : FieldT Try.prog 97 1 1 30 := ⟨_, _, Try.underlying97, rfl, rfl, rfl⟩
theorem ft100_4 : FieldT Try.prog 100 4 11 3 := ⟨_, _, Try.underlying100, rfl, rfl, rfl⟩
theorem ft46_2 : FieldT Try.prog 46 2 2 44 := ⟨_, _, Try.underlying46, rfl, rfl, rfl⟩
def en_api_RoundTrip : Int × (List Int) → List D := fun x => [D.v (.int .i64 x.1), D.s 1 (List.map en_int x.2)]
def mk107 : Int × Int → Value := fun k => .agg #[.int .i64 k.1, .int .i64 k.2]
theorem kc107 (b : Bool) (k : Int × Int) (w : World) (n : Nat) : (Instr.checkKey b (n + 2) 145 (mk107 k)).run Try.prog w = .ok () w := by
  simp [mk107, Instr.checkKey, go_sem, Try.underlying145, Try.underlying3, Try.isAgg145, Try.isAgg3, Try.sizeOf145, Try.sizeOf3, List.range', List.forIn_cons, List.forIn_nil]
theorem eq145 (a0 : Int) (a1 : Int) (b0 : Int) (b1 : Int) : EqT Try.prog 145 [.int .i64 a0, .int .i64 a1] [.int .i64 b0, .int .i64 b1] (((a0 == b0) && (a1 == b1))) := ⟨Try.eqGuardType145, fun w => by
  have key : ∀ n, (Op.equalIn (n + 1 + 1) 145 (.agg #[.int .i64 a0, .int .i64 a1]) (.agg #[.int .i64 b0, .int .i64 b1])).run Try.prog w = .ok (((a0 == b0) && (a1 == b1))) w := fun n => by
    simp [Op.equalIn, go_sem, Try.underlying145, Try.underlying3, Try.isAgg145, Try.isAgg3, Try.sizeOf145, Try.sizeOf3, List.range', List.forIn_cons, List.forIn_nil]
    (repeat' split) <;> simp_all
  exact key 9998⟩
theorem kq107 (k k' : Int × Int) (w : World) : (Op.equal 145 (mk107 k) (mk107 k')).run Try.prog w = .ok (k == k') w := by
  have h := (eq145 (k.1) (k.2) ((k').1) ((k').2)).2 w;show (Op.equalIn 10000 145 _ _).run Try.prog w = _;simp only [mk107];exact h
theorem km107 : MKey Try.prog 107 145 95 mk107 := mkey_agg2 Try.underlying107 Try.underlying145 (fun k es i => findNow_array k es i) (fun b k w => kc107 b k w 9998) kq107 (fun k => by simp [mk107, Instr.sameBits])
def en_round_search : Int × (List Int) × Int × Bool → List D := fun x => [D.v (.int .i64 x.1), D.s 1 (List.map en_int x.2.1), D.v (.int .i64 x.2.2.1), D.v (.bool x.2.2.2)]
def en_p_round_search : ((Int × (List Int) × Int × Bool)) → List D := fun x => [D.p 97 (en_round_search x)]
theorem bt109 : ∀ parts, Try.prog.built 109 parts = Instr.fill (fun i => (#[(0, 5), (5, 1)] : Array (Nat × Nat))[i]?) (AV.denL (fun _ => undef) [.val (.slice none 0 0), .val (.slice none 0 0), .val (.slice none 0 0), vi 0, vi 0, .val (.map none)]).toArray parts := fun _ => by kernel_rfl
theorem bt105 : ∀ parts, Try.prog.built 105 parts = Instr.fill (fun i => (#[(0, 1), (1, 1)] : Array (Nat × Nat))[i]?) (AV.denL (fun _ => undef) [.val (.slice none 0 0), vi 0]).toArray parts := fun _ => by kernel_rfl
theorem vt112 : VarT Try.prog 112 1 false := ⟨Try.isAgg112, Try.sizeOf112⟩
theorem vt105 : VarT Try.prog 105 2 true := ⟨Try.isAgg105, Try.sizeOf105⟩
theorem ft105_0 : FieldT Try.prog 105 0 0 68 := ⟨_, _, Try.underlying105, rfl, rfl, rfl⟩
theorem vt68 : VarT Try.prog 68 1 false := ⟨Try.isAgg68, Try.sizeOf68⟩
theorem ft105_1 : FieldT Try.prog 105 1 1 3 := ⟨_, _, Try.underlying105, rfl, rfl, rfl⟩
theorem sl68 : SlT Try.prog 68 65 2 32 := ⟨Try.underlying68, ⟨Try.t65, _, by kernel_rfl, rfl, rfl, rfl, rfl⟩, by decide⟩
theorem vt65 : VarT Try.prog 65 2 true := ⟨Try.isAgg65, Try.sizeOf65⟩
theorem ft65_0 : FieldT Try.prog 65 0 0 3 := ⟨_, _, Try.underlying65, rfl, rfl, rfl⟩
theorem ft65_1 : FieldT Try.prog 65 1 1 30 := ⟨_, _, Try.underlying65, rfl, rfl, rfl⟩
theorem vt106 : VarT Try.prog 106 1 false := ⟨Try.isAgg106, Try.sizeOf106⟩
theorem ft109_0 : FieldT Try.prog 109 0 0 26 := ⟨_, _, Try.underlying109, rfl, rfl, rfl⟩
def ye_funcround_set_round_set_bool : Int × Int → List AV := fun a => [vi a.1, vi a.2]
def yn_funcround_set_round_set_bool : Int × Int → List NEnt := fun a => []
theorem bt145 : ∀ parts, Try.prog.built 145 parts = Instr.fill (fun i => some (i * 1, 1)) (AV.denL (fun _ => undef) [vi 0, vi 0]).toArray parts := fun _ => by kernel_rfl
theorem vt145 : VarT Try.prog 145 2 true := ⟨Try.isAgg145, Try.sizeOf145⟩
theorem ft109_1 : FieldT Try.prog 109 1 5 107 := ⟨_, _, Try.underlying109, rfl, rfl, rfl⟩
theorem vt107 : VarT Try.prog 107 1 false := ⟨Try.isAgg107, Try.sizeOf107⟩
theorem bt65 : ∀ parts, Try.prog.built 65 parts = Instr.fill (fun i => (#[(0, 1), (1, 1)] : Array (Nat × Nat))[i]?) (AV.denL (fun _ => undef) [vi 0, .val (.slice none 0 0)]).toArray parts := fun _ => by kernel_rfl
theorem bt32 : ∀ parts, Try.prog.built 32 parts = Instr.fill (fun i => (#[(0, 1), (1, 1)] : Array (Nat × Nat))[i]?) (AV.denL (fun _ => undef) [vi 0, .val (.slice none 0 0)]).toArray parts := fun _ => by kernel_rfl
def en_api_RoundDay : Int × (List Int) → List D := fun x => [D.v (.int .i64 x.1), D.s 1 (List.map en_int x.2)]
theorem sl27 : SlT Try.prog 27 32 2 32 := ⟨Try.underlying27, ⟨Try.t32, _, by kernel_rfl, rfl, rfl, rfl, rfl⟩, by decide⟩
theorem vt32 : VarT Try.prog 32 2 true := ⟨Try.isAgg32, Try.sizeOf32⟩
theorem ft32_0 : FieldT Try.prog 32 0 0 3 := ⟨_, _, Try.underlying32, rfl, rfl, rfl⟩
theorem ft32_1 : FieldT Try.prog 32 1 1 30 := ⟨_, _, Try.underlying32, rfl, rfl, rfl⟩
def ye_funcint_bool : Int → List AV := fun a => [vi a]
def yn_funcint_bool : Int → List NEnt := fun a => []
theorem sl83 : SlT Try.prog 83 3 1 8 := ⟨Try.underlying83, ⟨Try.t3, _, by kernel_rfl, rfl, rfl, rfl, rfl⟩, by decide⟩
def ev_slices_IndexFunc_Lint_int_l0 (n : Nat) (s1 : List Int) (f2 : Int → Option Bool) : Nat → Int → Option Int
  | 0, _ => none
  | m + 1, i3 => cond (decide (i3 < (s1.length : Int))) (idx s1 i3 fun x4 => (f2 x4).bind fun r5 => cond r5 (some i3) (chk (in64 (i3 + 1)) <| ev_slices_IndexFunc_Lint_int_l0 n s1 f2 m (i3 + 1))) (some (-1))
theorem ok_slices_IndexFunc_Lint_int_l0 {n : Nat} {w0 : World} {R0 : Nat → Prop} {env0 : Env} {r : Int} {s1 : List Int} {f2 : Int → Option Bool} : ∀ (m : Nat) (i3 : Int), ev_slices_IndexFunc_Lint_int_l0 n s1 f2 m i3 = some r → TC Try.prog ⟨w0, fun _ => False, R0⟩ 19 (bodyPost Try.prog Try.f89 (Post ⟨w0, fun _ => False, R0⟩ env0 (vi r) [])) [.code (sub (bodyOf Try.f89) [1, 0, 1, 0, 0, 0]), .code (sub (bodyOf Try.f89) [1, 0, 1, 0, 0, 1]), .inLoop (sub (bodyOf Try.f89) [1, 0, 1, 0, 0]), .inBlock 0, .code (sub (bodyOf Try.f89) [1, 1])] ([(0, .ref 0), (1, .ref 1), (7, vi (s1.length : Int)), (8, vi i3)]) ([.ro 0 1 (List.map en_int s1), .any 1 (D.fn Try.prog fe_funcint_bool fd_funcint_bool f2)]) := by
  intro m
  induction m with
  | zero => intro i3 h; exact none_no h
  | succ m ih =>
    intro i3 h;rw [ev_slices_IndexFunc_Lint_int_l0] at h;refine TC.region ?_;refine q0 (sp_lss rfl rfl rfl) ?_;refine TL.nil ?_;refine TC.seq ?_;refine TC.cond (b := (decide (i3 < (s1.length : Int)))) rfl (fun h1 => ?_) (fun h1 => ?_)
    · have h := cond_t h h1;refine TC.skip ?_;refine TC.seq ?_;refine TC.block ?_;refine tr ?_;refine qm ?_;refine qa ?_;refine TL.nil ?_;refine tr ?_;refine qm ?_;refine qm ?_;refine qm ?_;obtain ⟨x4, h2, h3, h⟩ := idx_inv h;refine q1 0 rfl (sp_indexS rfl rfl rfl isRo sl30 h2 (map_get _ h3)) ?_;refine q1 0 rfl (sp_loadR (i := (i3 : Int).toNat) (j := 0) rfl rfl isRo vt3 rfl (map_get _ h3) rfl (.v (.nil)) (nodup_of_B rfl)) ?_;obtain ⟨r5, h4, h⟩ := bind_inv h;refine q1 1 rfl (sp_callF (avs := [vi x4]) (v := vb r5) x4 rfl rfl rfl rfl rfl h4) ?_;refine TL.nil ?_;refine TC.cond (b := r5) rfl (fun h5 => ?_) (fun h5 => ?_)
      · have h := cond_t h h5;refine tr ?_;refine qm ?_;refine qa ?_;refine TL.nil ?_;cases h;exact retJ [] (.tmp rfl .nil) rfl trivial rfl rfl
      · have h := cond_f h h5;refine TC.skip ?_;refine TC.inBlock ?_;refine TC.region ?_;obtain ⟨h6, h⟩ := chk_inv h;refine q0 (sp_add rfl rfl rfl h6) ?_;refine qm ?_;refine TL.nil ?_;refine TC.inLoop ?_;refine TC.seq ?_;refine subJ [] (ih _ h) ?_ ?_ ?_
        · exact ⟨rfl, rfl, rfl, rfl, trivial⟩
        · exact ⟨mem_at 0 rfl, mem_at 1 rfl, trivial⟩
        · rfl
    · have h := cond_f h h1;refine TC.exit rfl ?_;refine tr ?_;refine qa ?_;refine TL.nil ?_;cases h;exact retJ [] (.tmp rfl .nil) rfl trivial rfl rfl
def ev_slices_IndexFunc_Lint_int (n : Nat) (s1 : List Int) (f2 : Int → Option Bool) : Option Int :=
  ev_slices_IndexFunc_Lint_int_l0 n s1 f2 n 0
theorem fc_slices_IndexFunc_Lint_int {n : Nat} {s1 : List Int} {f2 : Int → Option Bool} {r : Int} (h : ev_slices_IndexFunc_Lint_int n s1 f2 = some r) : FC Try.prog 89 [.ref 0, .ref 1] [.ro 0 1 (List.map en_int s1), .any 1 (D.fn Try.prog fe_funcint_bool fd_funcint_bool f2)] (vi r) [] := by
  refine introJ (nz := 19) Try.func89 rfl rfl rfl (fun w0 R0 env0 => ?_)
  rw [ev_slices_IndexFunc_Lint_int] at h;refine tr ?_;refine qa ?_;refine TL.nil ?_;refine TC.seq ?_;refine tr ?_;refine qm ?_;refine q1 0 rfl (sp_lenM (N := s1.length) (len_map _ _) rfl rfl isRo Try.underlying30) ?_;refine qm ?_;refine TL.nil ?_;refine TC.block ?_;refine TC.loop ?_;refine TC.seq ?_;refine subJ [] (ok_slices_IndexFunc_Lint_int_l0 _ _ h) ?_ ?_ ?_
  · exact ⟨rfl, rfl, rfl, rfl, trivial⟩
  · exact ⟨mem_at 0 rfl, mem_at 1 rfl, trivial⟩
  · rfl
def ev_slices_ContainsFunc_Lint_int (n : Nat) (s1 : List Int) (f2 : Int → Option Bool) : Option Bool :=
  (ev_slices_IndexFunc_Lint_int n s1 f2).bind fun r3 => some (decide ((0 : Int) ≤ r3))
theorem fc_slices_ContainsFunc_Lint_int {n : Nat} {s1 : List Int} {f2 : Int → Option Bool} {r : Bool} (h : ev_slices_ContainsFunc_Lint_int n s1 f2 = some r) : FC Try.prog 77 [.ref 0, .ref 1] [.ro 0 1 (List.map en_int s1), .any 1 (D.fn Try.prog fe_funcint_bool fd_funcint_bool f2)] (vb r) [] := by
  refine introJ (nz := 9) Try.func77 rfl rfl rfl (fun w0 R0 env0 => ?_)
  rw [ev_slices_ContainsFunc_Lint_int] at h;refine tr ?_;refine qa ?_;refine TL.nil ?_;refine tr ?_;refine qm ?_;refine qm ?_;obtain ⟨r3, h1, h⟩ := bind_inv h;refine opN (need := [.ro 0 1 (List.map en_int s1), .any 1 (D.fn Try.prog fe_funcint_bool fd_funcint_bool f2)]) [0, 1] ⟨rfl, rfl, trivial⟩ (sp_call (avs := [.ref 0, .ref 1]) (need := [.ro 0 1 (List.map en_int s1), .any 1 (D.fn Try.prog fe_funcint_bool fd_funcint_bool f2)]) (v := vi r3) (news := []) rfl rfl rfl Try.call89 (atJ [] [] (fc_slices_IndexFunc_Lint_int h1) rfl rfl) (.inl (roAll rfl))) rfl trivial rfl rfl ?_;refine q0 (sp_geq rfl rfl rfl) ?_;refine qa ?_;refine TL.nil ?_;cases h;exact retJ [] (.tmp rfl .nil) rfl trivial rfl rfl
def ev_slices_IndexFunc_Lapi_RoundTower_api_RoundTower_l0 (n : Nat) (s1 : LT) (f2 : (Int × Int × Int × Int × Int) → Option Bool) : Nat → Int → Option Int
  | 0, _ => none
  | m + 1, i3 => cond (decide (i3 < (s1.length : Int))) (idx s1 i3 fun x4 => (f2 (x4.1, x4.2.1, x4.2.2.1, x4.2.2.2.1, x4.2.2.2.2)).bind fun r5 => cond r5 (some i3) (chk (in64 (i3 + 1)) <| ev_slices_IndexFunc_Lapi_RoundTower_api_RoundTower_l0 n s1 f2 m (i3 + 1))) (some (-1))
theorem ok_slices_IndexFunc_Lapi_RoundTower_api_RoundTower_l0 {n : Nat} {w0 : World} {R0 : Nat → Prop} {env0 : Env} {r : Int} {s1 : LT} {f2 : (Int × Int × Int × Int × Int) → Option Bool} : ∀ (m : Nat) (i3 : Int), ev_slices_IndexFunc_Lapi_RoundTower_api_RoundTower_l0 n s1 f2 m i3 = some r → TC Try.prog ⟨w0, fun _ => False, R0⟩ 19 (bodyPost Try.prog Try.f79 (Post ⟨w0, fun _ => False, R0⟩ env0 (vi r) [])) [.code (sub (bodyOf Try.f79) [1, 0, 1, 0, 0, 0]), .code (sub (bodyOf Try.f79) [1, 0, 1, 0, 0, 1]), .inLoop (sub (bodyOf Try.f79) [1, 0, 1, 0, 0]), .inBlock 0, .code (sub (bodyOf Try.f79) [1, 1])] ([(0, .ref 0), (1, .ref 1), (7, vi (s1.length : Int)), (8, vi i3)]) ([.ro 0 5 (List.map en_api_RoundTower s1), .any 1 (D.fn Try.prog fe_funcapi_RoundTower_bool fd_funcapi_RoundTower_bool f2)]) := by
  intro m
  induction m with
  | zero => intro i3 h; exact none_no h
  | succ m ih =>
    intro i3 h;rw [ev_slices_IndexFunc_Lapi_RoundTower_api_RoundTower_l0] at h;refine TC.region ?_;refine q0 (sp_lss rfl rfl rfl) ?_;refine TL.nil ?_;refine TC.seq ?_;refine TC.cond (b := (decide (i3 < (s1.length : Int)))) rfl (fun h1 => ?_) (fun h1 => ?_)
    · have h := cond_t h h1;refine TC.skip ?_;refine TC.seq ?_;refine TC.block ?_;refine tr ?_;refine qm ?_;refine qa ?_;refine TL.nil ?_;refine tr ?_;refine qm ?_;refine qm ?_;refine qm ?_;obtain ⟨x4, h2, h3, h⟩ := idx_inv h;refine q1 0 rfl (sp_indexS rfl rfl rfl isRo sl22 h2 (map_get _ h3)) ?_;refine q1 0 rfl (sp_loadRA (i := (i3 : Int).toNat) (j := 0) (as_ := [vi x4.1, vi x4.2.1, vu x4.2.2.1, vi x4.2.2.2.1, vi x4.2.2.2.2]) (ns := []) rfl rfl isRo vt46 rfl (map_get _ h3) rfl rfl (by decide) (.v (.v (.v (.v (.v (.nil)))))) (nodup_of_B rfl)) ?_;obtain ⟨r5, h4, h⟩ := bind_inv h;refine q1 1 rfl (sp_callF (avs := [.agg [vi x4.1, vi x4.2.1, vu x4.2.2.1, vi x4.2.2.2.1, vi x4.2.2.2.2]]) (v := vb r5) (x4.1, x4.2.1, x4.2.2.1, x4.2.2.2.1, x4.2.2.2.2) rfl rfl rfl rfl rfl h4) ?_;refine TL.nil ?_;refine TC.cond (b := r5) rfl (fun h5 => ?_) (fun h5 => ?_)
      · have h := cond_t h h5;refine tr ?_;refine qm ?_;refine qa ?_;refine TL.nil ?_;cases h;exact retJ [] (.tmp rfl .nil) rfl trivial rfl rfl
      · have h := cond_f h h5;refine TC.skip ?_;refine TC.inBlock ?_;refine TC.region ?_;obtain ⟨h6, h⟩ := chk_inv h;refine q0 (sp_add rfl rfl rfl h6) ?_;refine qm ?_;refine TL.nil ?_;refine TC.inLoop ?_;refine TC.seq ?_;refine subJ [] (ih _ h) ?_ ?_ ?_
        · exact ⟨rfl, rfl, rfl, rfl, trivial⟩
        · exact ⟨mem_at 0 rfl, mem_at 1 rfl, trivial⟩
        · rfl
    · have h := cond_f h h1;refine TC.exit rfl ?_;refine tr ?_;refine qa ?_;refine TL.nil ?_;cases h;exact retJ [] (.tmp rfl .nil) rfl trivial rfl rfl
def ev_slices_IndexFunc_Lapi_RoundTower_api_RoundTower (n : Nat) (s1 : LT) (f2 : (Int × Int × Int × Int × Int) → Option Bool) : Option Int :=
  ev_slices_IndexFunc_Lapi_RoundTower_api_RoundTower_l0 n s1 f2 n 0
theorem fc_slices_IndexFunc_Lapi_RoundTower_api_RoundTower {n : Nat} {s1 : LT} {f2 : (Int × Int × Int × Int × Int) → Option Bool} {r : Int} (h : ev_slices_IndexFunc_Lapi_RoundTower_api_RoundTower n s1 f2 = some r) : FC Try.prog 79 [.ref 0, .ref 1] [.ro 0 5 (List.map en_api_RoundTower s1), .any 1 (D.fn Try.prog fe_funcapi_RoundTower_bool fd_funcapi_RoundTower_bool f2)] (vi r) [] := by
  refine introJ (nz := 19) Try.func79 rfl rfl rfl (fun w0 R0 env0 => ?_)
  rw [ev_slices_IndexFunc_Lapi_RoundTower_api_RoundTower] at h;refine tr ?_;refine qa ?_;refine TL.nil ?_;refine TC.seq ?_;refine tr ?_;refine qm ?_;refine q1 0 rfl (sp_lenM (N := s1.length) (len_map _ _) rfl rfl isRo Try.underlying22) ?_;refine qm ?_;refine TL.nil ?_;refine TC.block ?_;refine TC.loop ?_;refine TC.seq ?_;refine subJ [] (ok_slices_IndexFunc_Lapi_RoundTower_api_RoundTower_l0 _ _ h) ?_ ?_ ?_
  · exact ⟨rfl, rfl, rfl, rfl, trivial⟩
  · exact ⟨mem_at 0 rfl, mem_at 1 rfl, trivial⟩
  · rfl
def ev_slices_ContainsFunc_Lapi_RoundTower_api_RoundTower (n : Nat) (s1 : LT) (f2 : (Int × Int × Int × Int × Int) → Option Bool) : Option Bool :=
  (ev_slices_IndexFunc_Lapi_RoundTower_api_RoundTower n s1 f2).bind fun r3 => some (decide ((0 : Int) ≤ r3))
theorem fc_slices_ContainsFunc_Lapi_RoundTower_api_RoundTower {n : Nat} {s1 : LT} {f2 : (Int × Int × Int × Int × Int) → Option Bool} {r : Bool} (h : ev_slices_ContainsFunc_Lapi_RoundTower_api_RoundTower n s1 f2 = some r) : FC Try.prog 49 [.ref 0, .ref 1] [.ro 0 5 (List.map en_api_RoundTower s1), .any 1 (D.fn Try.prog fe_funcapi_RoundTower_bool fd_funcapi_RoundTower_bool f2)] (vb r) [] := by
  refine introJ (nz := 9) Try.func49 rfl rfl rfl (fun w0 R0 env0 => ?_)
  rw [ev_slices_ContainsFunc_Lapi_RoundTower_api_RoundTower] at h;refine tr ?_;refine qa ?_;refine TL.nil ?_;refine tr ?_;refine qm ?_;refine qm ?_;obtain ⟨r3, h1, h⟩ := bind_inv h;refine opN (need := [.ro 0 5 (List.map en_api_RoundTower s1), .any 1 (D.fn Try.prog fe_funcapi_RoundTower_bool fd_funcapi_RoundTower_bool f2)]) [0, 1] ⟨rfl, rfl, trivial⟩ (sp_call (avs := [.ref 0, .ref 1]) (need := [.ro 0 5 (List.map en_api_RoundTower s1), .any 1 (D.fn Try.prog fe_funcapi_RoundTower_bool fd_funcapi_RoundTower_bool f2)]) (v := vi r3) (news := []) rfl rfl rfl Try.call79 (atJ [] [] (fc_slices_IndexFunc_Lapi_RoundTower_api_RoundTower h1) rfl rfl) (.inl (roAll rfl))) rfl trivial rfl rfl ?_;refine q0 (sp_geq rfl rfl rfl) ?_;refine qa ?_;refine TL.nil ?_;cases h;exact retJ [] (.tmp rfl .nil) rfl trivial rfl rfl
def ev_slices_IndexFunc_Lapi_RoundWinder_api_RoundWinder_l0 (n : Nat) (s1 : LW) (f2 : (Int × Int × Int × Int) → Option Bool) : Nat → Int → Option Int
  | 0, _ => none
  | m + 1, i3 => cond (decide (i3 < (s1.length : Int))) (idx s1 i3 fun x4 => (f2 (x4.1, x4.2.1, x4.2.2.1, x4.2.2.2)).bind fun r5 => cond r5 (some i3) (chk (in64 (i3 + 1)) <| ev_slices_IndexFunc_Lapi_RoundWinder_api_RoundWinder_l0 n s1 f2 m (i3 + 1))) (some (-1))
theorem ok_slices_IndexFunc_Lapi_RoundWinder_api_RoundWinder_l0 {n : Nat} {w0 : World} {R0 : Nat → Prop} {env0 : Env} {r : Int} {s1 : LW} {f2 : (Int × Int × Int × Int) → Option Bool} : ∀ (m : Nat) (i3 : Int), ev_slices_IndexFunc_Lapi_RoundWinder_api_RoundWinder_l0 n s1 f2 m i3 = some r → TC Try.prog ⟨w0, fun _ => False, R0⟩ 19 (bodyPost Try.prog Try.f81 (Post ⟨w0, fun _ => False, R0⟩ env0 (vi r) [])) [.code (sub (bodyOf Try.f81) [1, 0, 1, 0, 0, 0]), .code (sub (bodyOf Try.f81) [1, 0, 1, 0, 0, 1]), .inLoop (sub (bodyOf Try.f81) [1, 0, 1, 0, 0]), .inBlock 0, .code (sub (bodyOf Try.f81) [1, 1])] ([(0, .ref 0), (1, .ref 1), (7, vi (s1.length : Int)), (8, vi i3)]) ([.ro 0 4 (List.map en_api_RoundWinder s1), .any 1 (D.fn Try.prog fe_funcapi_RoundWinder_bool fd_funcapi_RoundWinder_bool f2)]) := by
  intro m
  induction m with
  | zero => intro i3 h; exact none_no h
  | succ m ih =>
    intro i3 h;rw [ev_slices_IndexFunc_Lapi_RoundWinder_api_RoundWinder_l0] at h;refine TC.region ?_;refine q0 (sp_lss rfl rfl rfl) ?_;refine TL.nil ?_;refine TC.seq ?_;refine TC.cond (b := (decide (i3 < (s1.length : Int)))) rfl (fun h1 => ?_) (fun h1 => ?_)
    · have h := cond_t h h1;refine TC.skip ?_;refine TC.seq ?_;refine TC.block ?_;refine tr ?_;refine qm ?_;refine qa ?_;refine TL.nil ?_;refine tr ?_;refine qm ?_;refine qm ?_;refine qm ?_;obtain ⟨x4, h2, h3, h⟩ := idx_inv h;refine q1 0 rfl (sp_indexS rfl rfl rfl isRo sl24 h2 (map_get _ h3)) ?_;refine q1 0 rfl (sp_loadRA (i := (i3 : Int).toNat) (j := 0) (as_ := [vu x4.1, vi x4.2.1, vi x4.2.2.1, vi x4.2.2.2]) (ns := []) rfl rfl isRo vt76 rfl (map_get _ h3) rfl rfl (by decide) (.v (.v (.v (.v (.nil))))) (nodup_of_B rfl)) ?_;obtain ⟨r5, h4, h⟩ := bind_inv h;refine q1 1 rfl (sp_callF (avs := [.agg [vu x4.1, vi x4.2.1, vi x4.2.2.1, vi x4.2.2.2]]) (v := vb r5) (x4.1, x4.2.1, x4.2.2.1, x4.2.2.2) rfl rfl rfl rfl rfl h4) ?_;refine TL.nil ?_;refine TC.cond (b := r5) rfl (fun h5 => ?_) (fun h5 => ?_)
      · have h := cond_t h h5;refine tr ?_;refine qm ?_;refine qa ?_;refine TL.nil ?_;cases h;exact retJ [] (.tmp rfl .nil) rfl trivial rfl rfl
      · have h := cond_f h h5;refine TC.skip ?_;refine TC.inBlock ?_;refine TC.region ?_;obtain ⟨h6, h⟩ := chk_inv h;refine q0 (sp_add rfl rfl rfl h6) ?_;refine qm ?_;refine TL.nil ?_;refine TC.inLoop ?_;refine TC.seq ?_;refine subJ [] (ih _ h) ?_ ?_ ?_
        · exact ⟨rfl, rfl, rfl, rfl, trivial⟩
        · exact ⟨mem_at 0 rfl, mem_at 1 rfl, trivial⟩
        · rfl
    · have h := cond_f h h1;refine TC.exit rfl ?_;refine tr ?_;refine qa ?_;refine TL.nil ?_;cases h;exact retJ [] (.tmp rfl .nil) rfl trivial rfl rfl
def ev_slices_IndexFunc_Lapi_RoundWinder_api_RoundWinder (n : Nat) (s1 : LW) (f2 : (Int × Int × Int × Int) → Option Bool) : Option Int :=
  ev_slices_IndexFunc_Lapi_RoundWinder_api_RoundWinder_l0 n s1 f2 n 0
theorem fc_slices_IndexFunc_Lapi_RoundWinder_api_RoundWinder {n : Nat} {s1 : LW} {f2 : (Int × Int × Int × Int) → Option Bool} {r : Int} (h : ev_slices_IndexFunc_Lapi_RoundWinder_api_RoundWinder n s1 f2 = some r) : FC Try.prog 81 [.ref 0, .ref 1] [.ro 0 4 (List.map en_api_RoundWinder s1), .any 1 (D.fn Try.prog fe_funcapi_RoundWinder_bool fd_funcapi_RoundWinder_bool f2)] (vi r) [] := by
  refine introJ (nz := 19) Try.func81 rfl rfl rfl (fun w0 R0 env0 => ?_)
  rw [ev_slices_IndexFunc_Lapi_RoundWinder_api_RoundWinder] at h;refine tr ?_;refine qa ?_;refine TL.nil ?_;refine TC.seq ?_;refine tr ?_;refine qm ?_;refine q1 0 rfl (sp_lenM (N := s1.length) (len_map _ _) rfl rfl isRo Try.underlying24) ?_;refine qm ?_;refine TL.nil ?_;refine TC.block ?_;refine TC.loop ?_;refine TC.seq ?_;refine subJ [] (ok_slices_IndexFunc_Lapi_RoundWinder_api_RoundWinder_l0 _ _ h) ?_ ?_ ?_
  · exact ⟨rfl, rfl, rfl, rfl, trivial⟩
  · exact ⟨mem_at 0 rfl, mem_at 1 rfl, trivial⟩
  · rfl
def ev_slices_ContainsFunc_Lapi_RoundWinder_api_RoundWinder (n : Nat) (s1 : LW) (f2 : (Int × Int × Int × Int) → Option Bool) : Option Bool :=
  (ev_slices_IndexFunc_Lapi_RoundWinder_api_RoundWinder n s1 f2).bind fun r3 => some (decide ((0 : Int) ≤ r3))
theorem fc_slices_ContainsFunc_Lapi_RoundWinder_api_RoundWinder {n : Nat} {s1 : LW} {f2 : (Int × Int × Int × Int) → Option Bool} {r : Bool} (h : ev_slices_ContainsFunc_Lapi_RoundWinder_api_RoundWinder n s1 f2 = some r) : FC Try.prog 52 [.ref 0, .ref 1] [.ro 0 4 (List.map en_api_RoundWinder s1), .any 1 (D.fn Try.prog fe_funcapi_RoundWinder_bool fd_funcapi_RoundWinder_bool f2)] (vb r) [] := by
  refine introJ (nz := 9) Try.func52 rfl rfl rfl (fun w0 R0 env0 => ?_)
  rw [ev_slices_ContainsFunc_Lapi_RoundWinder_api_RoundWinder] at h;refine tr ?_;refine qa ?_;refine TL.nil ?_;refine tr ?_;refine qm ?_;refine qm ?_;obtain ⟨r3, h1, h⟩ := bind_inv h;refine opN (need := [.ro 0 4 (List.map en_api_RoundWinder s1), .any 1 (D.fn Try.prog fe_funcapi_RoundWinder_bool fd_funcapi_RoundWinder_bool f2)]) [0, 1] ⟨rfl, rfl, trivial⟩ (sp_call (avs := [.ref 0, .ref 1]) (need := [.ro 0 4 (List.map en_api_RoundWinder s1), .any 1 (D.fn Try.prog fe_funcapi_RoundWinder_bool fd_funcapi_RoundWinder_bool f2)]) (v := vi r3) (news := []) rfl rfl rfl Try.call81 (atJ [] [] (fc_slices_IndexFunc_Lapi_RoundWinder_api_RoundWinder h1) rfl rfl) (.inl (roAll rfl))) rfl trivial rfl rfl ?_;refine q0 (sp_geq rfl rfl rfl) ?_;refine qa ?_;refine TL.nil ?_;cases h;exact retJ [] (.tmp rfl .nil) rfl trivial rfl rfl
def ev_slices_Clone_Lint_int (n : Nat) (s1 : List Int) : Option ((List Int)) :=
  chk (room 8 (([] : List Int).length + s1.length)) <| some (([] : List Int) ++ s1)
theorem fc_slices_Clone_Lint_int {n : Nat} {s1 : List Int} {r : (List Int)} (h : ev_slices_Clone_Lint_int n s1 = some r) : FC Try.prog 57 [.ref 0] [.ro 0 1 (List.map en_int s1)] (.ref 0) [.row 0 3 1 (List.map en_int r)] := by
  refine introJ (nz := 8) Try.func57 rfl rfl rfl (fun w0 R0 env0 => ?_)
  rw [ev_slices_Clone_Lint_int] at h;refine tr ?_;refine qa ?_;refine TL.nil ?_;refine TC.seq ?_;refine tr ?_;refine qm ?_;refine q1 0 rfl (sp_eqNil 1 rfl Try.underlying30 rfl rfl isRo (len_map _ _)) ?_;refine TL.nil ?_;refine condNil 0 rfl rfl (fun hN => ?_) ?_
  · have hx := List.eq_nil_of_length_eq_zero hN;subst hx
    repeat (have h := (chk_inv h).2)
    refine tr ?_;refine qa ?_;refine TL.nil ?_;refine nilRowC 2 2 3 1 (List.map en_int []) rfl rfl rfl ?_;cases h;exact retJ [(0, 2)] (.tmp rfl .nil) rfl ⟨mem_at 0 rfl, trivial⟩ rfl rfl
  · refine TC.skip ?_;refine tr ?_;refine q0 (sp_emptyM 3 (List.map en_int []) rfl rfl sl30) ?_;refine qm ?_;obtain ⟨h1, h⟩ := chk_inv h;refine appM 0 2 (N := ([] : List Int).length) (N2 := s1.length) 4 rfl rfl trivial rfl rfl rfl rfl rfl isRo rfl sl30 (len_map _ _) (len_map _ _) h1 (map_app _ _ _) rfl ?_;refine qa ?_;refine TL.nil ?_;cases h;exact retJ [(0, 4)] (.tmp rfl .nil) rfl ⟨mem_at 0 rfl, trivial⟩ rfl rfl
def ev_slices_Clip_Lint_int (n : Nat) (s1 : List Int) : Option ((List Int)) :=
  some s1
theorem fc_slices_Clip_Lint_int {n : Nat} {s1 : List Int} {r : (List Int)} (h : ev_slices_Clip_Lint_int n s1 = some r) : FC Try.prog 58 [.ref 0] [.ro 0 1 (List.map en_int s1)] (.ref 0) [.any 0 (D.clip 1 (List.map en_int r))] := by
  refine introJ (nz := 9) Try.func58 rfl rfl rfl (fun w0 R0 env0 => ?_)
  rw [ev_slices_Clip_Lint_int] at h;refine tr ?_;refine qa ?_;refine TL.nil ?_;refine tr ?_;refine qm ?_;refine qm ?_;refine q1 0 rfl (sp_lenM (N := s1.length) (len_map _ _) rfl rfl isRo Try.underlying30) ?_;refine qm ?_;refine q1 0 rfl (sp_lenM (N := s1.length) (len_map _ _) rfl rfl isRo Try.underlying30) ?_;refine q1 0 rfl (sp_clip 1 (len_map _ _) rfl rfl sl30 rfl rfl) ?_;refine qa ?_;refine TL.nil ?_;cases h;exact retJ [(0, 1)] (.tmp rfl .nil) rfl ⟨mem_at 0 rfl, trivial⟩ rfl rfl
def ev_cmp_isNaN_int (n : Nat) (x1 : Int) : Option Bool :=
  some (x1 != x1)
theorem fc_cmp_isNaN_int {n : Nat} {x1 : Int} {r : Bool} (h : ev_cmp_isNaN_int n x1 = some r) : FC Try.prog 84 [vi x1] [] (vb r) [] := by
  refine introJ (nz := 6) Try.func84 rfl rfl rfl (fun w0 R0 env0 => ?_)
  rw [ev_cmp_isNaN_int] at h;refine tr ?_;refine qa ?_;refine TL.nil ?_;refine tr ?_;refine qm ?_;refine qm ?_;refine q0 (sp_neq rfl rfl rfl) ?_;refine qa ?_;refine TL.nil ?_;cases h;exact retJ [] (.tmp rfl .nil) rfl trivial rfl rfl
def ev_cmp_Compare_int (n : Nat) (x1 : Int) (y2 : Int) : Option Int :=
  (ev_cmp_isNaN_int n x1).bind fun r3 => (ev_cmp_isNaN_int n y2).bind fun r4 => cond r3 (cond r4 (some 0) (some (-1))) (cond r4 (some 1) (cond (decide (x1 < y2)) (some (-1)) (cond (decide (y2 < x1)) (some 1) (some 0))))
theorem fc_cmp_Compare_int {n : Nat} {x1 : Int} {y2 : Int} {r : Int} (h : ev_cmp_Compare_int n x1 y2 = some r) : FC Try.prog 67 [vi x1, vi y2] [] (vi r) [] := by
  refine introJ (nz := 20) Try.func67 rfl rfl rfl (fun w0 R0 env0 => ?_)
  rw [ev_cmp_Compare_int] at h;refine tr ?_;refine qa ?_;refine TL.nil ?_;refine tr ?_;refine qm ?_;obtain ⟨r3, h1, h⟩ := bind_inv h;refine q0 (sp_call (avs := [vi x1]) (need := []) (v := vb r3) (news := []) rfl rfl rfl Try.call84 (atJ [] [] (fc_cmp_isNaN_int h1) rfl rfl) (.inl (roAll rfl))) ?_;refine qa ?_;refine TL.nil ?_;refine tr ?_;refine qm ?_;obtain ⟨r4, h2, h⟩ := bind_inv h;refine q0 (sp_call (avs := [vi y2]) (need := []) (v := vb r4) (news := []) rfl rfl rfl Try.call84 (atJ [] [] (fc_cmp_isNaN_int h2) rfl rfl) (.inl (roAll rfl))) ?_;refine qa ?_;refine TL.nil ?_;refine TC.seq ?_;refine tr ?_;refine qm ?_;refine TL.nil ?_;refine TC.cond (b := r3) rfl (fun h3 => ?_) (fun h3 => ?_)
  · have h := cond_t h h3;refine TC.seq ?_;refine tr ?_;refine qm ?_;refine TL.nil ?_;refine TC.cond (b := r4) rfl (fun h4 => ?_) (fun h4 => ?_)
    · have h := cond_t h h4;refine tr ?_;refine qa ?_;refine TL.nil ?_;cases h;exact retJ [] (.tmp rfl .nil) rfl trivial rfl rfl
    · have h := cond_f h h4;refine TC.skip ?_;refine tr ?_;refine qa ?_;refine TL.nil ?_;cases h;exact retJ [] (.tmp rfl .nil) rfl trivial rfl rfl
  · have h := cond_f h h3;refine TC.skip ?_;refine TC.seq ?_;refine tr ?_;refine qm ?_;refine TL.nil ?_;refine TC.cond (b := r4) rfl (fun h5 => ?_) (fun h5 => ?_)
    · have h := cond_t h h5;refine tr ?_;refine qa ?_;refine TL.nil ?_;cases h;exact retJ [] (.tmp rfl .nil) rfl trivial rfl rfl
    · have h := cond_f h h5;refine TC.skip ?_;refine TC.seq ?_;refine tr ?_;refine qm ?_;refine qm ?_;refine q0 (sp_lss rfl rfl rfl) ?_;refine TL.nil ?_;refine TC.cond (b := (decide (x1 < y2))) rfl (fun h6 => ?_) (fun h6 => ?_)
      · have h := cond_t h h6;refine tr ?_;refine qa ?_;refine TL.nil ?_;cases h;exact retJ [] (.tmp rfl .nil) rfl trivial rfl rfl
      · have h := cond_f h h6;refine TC.skip ?_;refine TC.seq ?_;refine tr ?_;refine qm ?_;refine qm ?_;refine q0 (sp_gtr rfl rfl rfl) ?_;refine TL.nil ?_;refine TC.cond (b := (decide (y2 < x1))) rfl (fun h7 => ?_) (fun h7 => ?_)
        · have h := cond_t h h7;refine tr ?_;refine qa ?_;refine TL.nil ?_;cases h;exact retJ [] (.tmp rfl .nil) rfl trivial rfl rfl
        · have h := cond_f h h7;refine TC.skip ?_;refine tr ?_;refine qa ?_;refine TL.nil ?_;cases h;exact retJ [] (.tmp rfl .nil) rfl trivial rfl rfl
def ev_slices_Compare_Lint_int_l0 (n : Nat) (s11 : List Int) (s22 : List Int) : Nat → Int → Option Int
  | 0, _ => none
  | m + 1, i3 => cond (decide (i3 < (s11.length : Int))) (idx s11 i3 fun x4 => cond (decide ((s22.length : Int) ≤ i3)) (some 1) (idx s22 i3 fun x5 => (ev_cmp_Compare_int n x4 x5).bind fun r6 => cond (r6 != 0) (some r6) (chk (in64 (i3 + 1)) <| ev_slices_Compare_Lint_int_l0 n s11 s22 m (i3 + 1)))) (cond (decide ((s11.length : Int) < (s22.length : Int))) (some (-1)) (some 0))
theorem ok_slices_Compare_Lint_int_l0 {n : Nat} {w0 : World} {R0 : Nat → Prop} {env0 : Env} {r : Int} {s11 : List Int} {s22 : List Int} : ∀ (m : Nat) (i3 : Int), ev_slices_Compare_Lint_int_l0 n s11 s22 m i3 = some r → TC Try.prog ⟨w0, fun _ => False, R0⟩ 36 (bodyPost Try.prog Try.f68 (Post ⟨w0, fun _ => False, R0⟩ env0 (vi r) [])) [.code (sub (bodyOf Try.f68) [1, 0, 1, 0, 0, 0]), .code (sub (bodyOf Try.f68) [1, 0, 1, 0, 0, 1]), .inLoop (sub (bodyOf Try.f68) [1, 0, 1, 0, 0]), .inBlock 0, .code (sub (bodyOf Try.f68) [1, 1])] ([(0, .ref 0), (1, .ref 1), (9, .ref 0), (10, vi (s11.length : Int)), (11, vi i3)]) ([.ro 0 1 (List.map en_int s11), .ro 1 1 (List.map en_int s22)]) := by
  intro m
  induction m with
  | zero => intro i3 h; exact none_no h
  | succ m ih =>
    intro i3 h;rw [ev_slices_Compare_Lint_int_l0] at h;refine TC.region ?_;refine q0 (sp_lss rfl rfl rfl) ?_;refine TL.nil ?_;refine TC.seq ?_;refine TC.cond (b := (decide (i3 < (s11.length : Int)))) rfl (fun h1 => ?_) (fun h1 => ?_)
    · have h := cond_t h h1;refine TC.skip ?_;refine TC.seq ?_;refine TC.block ?_;refine tr ?_;refine qm ?_;obtain ⟨x4, h2, h3, h⟩ := idx_inv h;refine q1 0 rfl (sp_indexS rfl rfl rfl isRo sl30 h2 (map_get _ h3)) ?_;refine q1 0 rfl (sp_loadR (i := (i3 : Int).toNat) (j := 0) rfl rfl isRo vt3 rfl (map_get _ h3) rfl (.v (.nil)) (nodup_of_B rfl)) ?_;refine qa ?_;refine qa ?_;refine TL.nil ?_;refine TC.seq ?_;refine tr ?_;refine qm ?_;refine qm ?_;refine q1 1 rfl (sp_lenM (N := s22.length) (len_map _ _) rfl rfl isRo Try.underlying30) ?_;refine q0 (sp_geq rfl rfl rfl) ?_;refine TL.nil ?_;refine TC.cond (b := (decide ((s22.length : Int) ≤ i3))) rfl (fun h4 => ?_) (fun h4 => ?_)
      · have h := cond_t h h4;refine tr ?_;refine qa ?_;refine TL.nil ?_;cases h;exact retJ [] (.tmp rfl .nil) rfl trivial rfl rfl
      · have h := cond_f h h4;refine TC.skip ?_;refine tr ?_;refine qm ?_;refine qm ?_;obtain ⟨x5, h5, h6, h⟩ := idx_inv h;refine q1 1 rfl (sp_indexS rfl rfl rfl isRo sl30 h5 (map_get _ h6)) ?_;refine q1 1 rfl (sp_loadR (i := (i3 : Int).toNat) (j := 0) rfl rfl isRo vt3 rfl (map_get _ h6) rfl (.v (.nil)) (nodup_of_B rfl)) ?_;refine qa ?_;refine TL.nil ?_;refine tr ?_;refine qm ?_;refine qm ?_;obtain ⟨r6, h7, h⟩ := bind_inv h;refine q0 (sp_call (avs := [vi x4, vi x5]) (need := []) (v := vi r6) (news := []) rfl rfl rfl Try.call67 (atJ [] [] (fc_cmp_Compare_int h7) rfl rfl) (.inl (roAll rfl))) ?_;refine qa ?_;refine TL.nil ?_;refine tr ?_;refine qm ?_;refine q0 (sp_neq rfl rfl rfl) ?_;refine TL.nil ?_;refine TC.cond (b := (r6 != 0)) rfl (fun h8 => ?_) (fun h8 => ?_)
        · have h := cond_t h h8;refine tr ?_;refine qm ?_;refine qa ?_;refine TL.nil ?_;cases h;exact retJ [] (.tmp rfl .nil) rfl trivial rfl rfl
        · have h := cond_f h h8;refine TC.skip ?_;refine TC.inBlock ?_;refine TC.region ?_;obtain ⟨h9, h⟩ := chk_inv h;refine q0 (sp_add rfl rfl rfl h9) ?_;refine qm ?_;refine TL.nil ?_;refine TC.inLoop ?_;refine TC.seq ?_;refine subJ [] (ih _ h) ?_ ?_ ?_
          · exact ⟨rfl, rfl, rfl, rfl, rfl, trivial⟩
          · exact ⟨mem_at 0 rfl, mem_at 1 rfl, trivial⟩
          · rfl
    · have h := cond_f h h1;refine TC.exit rfl ?_;refine TC.seq ?_;refine tr ?_;refine qm ?_;refine q1 0 rfl (sp_lenM (N := s11.length) (len_map _ _) rfl rfl isRo Try.underlying30) ?_;refine qm ?_;refine q1 1 rfl (sp_lenM (N := s22.length) (len_map _ _) rfl rfl isRo Try.underlying30) ?_;refine q0 (sp_lss rfl rfl rfl) ?_;refine TL.nil ?_;refine TC.cond (b := (decide ((s11.length : Int) < (s22.length : Int)))) rfl (fun h10 => ?_) (fun h10 => ?_)
      · have h := cond_t h h10;refine tr ?_;refine qa ?_;refine TL.nil ?_;cases h;exact retJ [] (.tmp rfl .nil) rfl trivial rfl rfl
      · have h := cond_f h h10;refine TC.skip ?_;refine tr ?_;refine qa ?_;refine TL.nil ?_;cases h;exact retJ [] (.tmp rfl .nil) rfl trivial rfl rfl
def ev_slices_Compare_Lint_int (n : Nat) (s11 : List Int) (s22 : List Int) : Option Int :=
  ev_slices_Compare_Lint_int_l0 n s11 s22 n 0
theorem fc_slices_Compare_Lint_int {n : Nat} {s11 : List Int} {s22 : List Int} {r : Int} (h : ev_slices_Compare_Lint_int n s11 s22 = some r) : FC Try.prog 68 [.ref 0, .ref 1] [.ro 0 1 (List.map en_int s11), .ro 1 1 (List.map en_int s22)] (vi r) [] := by
  refine introJ (nz := 36) Try.func68 rfl rfl rfl (fun w0 R0 env0 => ?_)
  rw [ev_slices_Compare_Lint_int] at h;refine tr ?_;refine qa ?_;refine TL.nil ?_;refine TC.seq ?_;refine tr ?_;refine qm ?_;refine q1 0 rfl (sp_lenM (N := s11.length) (len_map _ _) rfl rfl isRo Try.underlying30) ?_;refine qm ?_;refine TL.nil ?_;refine TC.block ?_;refine TC.loop ?_;refine TC.seq ?_;refine subJ [] (ok_slices_Compare_Lint_int_l0 _ _ h) ?_ ?_ ?_
  · exact ⟨rfl, rfl, rfl, rfl, rfl, trivial⟩
  · exact ⟨mem_at 0 rfl, mem_at 1 rfl, trivial⟩
  · rfl
def ev_cmp_Or_int_l0 (n : Nat) (vals1 : List Int) : Nat → Int → Option Int
  | 0, _ => none
  | m + 1, i2 => cond (decide (i2 < (vals1.length : Int))) (idx vals1 i2 fun x3 => cond (x3 != 0) (some x3) (chk (in64 (i2 + 1)) <| ev_cmp_Or_int_l0 n vals1 m (i2 + 1))) (some 0)
theorem ok_cmp_Or_int_l0 {n : Nat} {w0 : World} {R0 : Nat → Prop} {env0 : Env} {r : Int} {vals1 : List Int} : ∀ (m : Nat) (i2 : Int), ev_cmp_Or_int_l0 n vals1 m i2 = some r → TC Try.prog ⟨w0, fun _ => False, R0⟩ 18 (bodyPost Try.prog Try.f66 (Post ⟨w0, fun _ => False, R0⟩ env0 (vi r) [])) [.code (sub (bodyOf Try.f66) [1, 1, 0, 1, 0, 0, 0]), .code (sub (bodyOf Try.f66) [1, 1, 0, 1, 0, 0, 1]), .inLoop (sub (bodyOf Try.f66) [1, 1, 0, 1, 0, 0]), .inBlock 0, .code (sub (bodyOf Try.f66) [1, 1, 1])] ([(3, vi 0), (6, .ref 0), (7, vi (vals1.length : Int)), (8, vi i2)]) ([.ro 0 1 (List.map en_int vals1)]) := by
  intro m
  induction m with
  | zero => intro i2 h; exact none_no h
  | succ m ih =>
    intro i2 h;rw [ev_cmp_Or_int_l0] at h;refine TC.region ?_;refine q0 (sp_lss rfl rfl rfl) ?_;refine TL.nil ?_;refine TC.seq ?_;refine TC.cond (b := (decide (i2 < (vals1.length : Int)))) rfl (fun h1 => ?_) (fun h1 => ?_)
    · have h := cond_t h h1;refine TC.skip ?_;refine TC.seq ?_;refine TC.block ?_;refine tr ?_;obtain ⟨x3, h2, h3, h⟩ := idx_inv h;refine q1 0 rfl (sp_indexS rfl rfl rfl isRo sl30 h2 (map_get _ h3)) ?_;refine q1 0 rfl (sp_loadR (i := (i2 : Int).toNat) (j := 0) rfl rfl isRo vt3 rfl (map_get _ h3) rfl (.v (.nil)) (nodup_of_B rfl)) ?_;refine qa ?_;refine TL.nil ?_;refine tr ?_;refine qm ?_;refine qm ?_;refine q0 (sp_neq rfl rfl rfl) ?_;refine TL.nil ?_;refine TC.cond (b := (x3 != 0)) rfl (fun h4 => ?_) (fun h4 => ?_)
      · have h := cond_t h h4;refine tr ?_;refine qm ?_;refine qa ?_;refine TL.nil ?_;cases h;exact retJ [] (.tmp rfl .nil) rfl trivial rfl rfl
      · have h := cond_f h h4;refine TC.skip ?_;refine TC.inBlock ?_;refine TC.region ?_;obtain ⟨h5, h⟩ := chk_inv h;refine q0 (sp_add rfl rfl rfl h5) ?_;refine qm ?_;refine TL.nil ?_;refine TC.inLoop ?_;refine TC.seq ?_;refine subJ [] (ih _ h) ?_ ?_ ?_
        · exact ⟨rfl, rfl, rfl, rfl, trivial⟩
        · exact ⟨mem_at 0 rfl, trivial⟩
        · rfl
    · have h := cond_f h h1;refine TC.exit rfl ?_;refine tr ?_;refine qm ?_;refine qa ?_;refine TL.nil ?_;cases h;exact retJ [] (.tmp rfl .nil) rfl trivial rfl rfl
def ev_cmp_Or_int (n : Nat) (vals1 : List Int) : Option Int :=
  ev_cmp_Or_int_l0 n vals1 n 0
theorem fc_cmp_Or_int {n : Nat} {vals1 : List Int} {r : Int} (h : ev_cmp_Or_int n vals1 = some r) : FC Try.prog 66 [.ref 0] [.ro 0 1 (List.map en_int vals1)] (vi r) [] := by
  refine introJ (nz := 18) Try.func66 rfl rfl rfl (fun w0 R0 env0 => ?_)
  rw [ev_cmp_Or_int] at h;refine tr ?_;refine qa ?_;refine TL.nil ?_;refine tr ?_;refine qa ?_;refine TL.nil ?_;refine TC.seq ?_;refine tr ?_;refine qm ?_;refine q1 0 rfl (sp_lenM (N := vals1.length) (len_map _ _) rfl rfl isRo Try.underlying30) ?_;refine qm ?_;refine TL.nil ?_;refine TC.block ?_;refine TC.loop ?_;refine TC.seq ?_;refine subJ [] (ok_cmp_Or_int_l0 _ _ h) ?_ ?_ ?_
  · exact ⟨rfl, rfl, rfl, rfl, trivial⟩
  · exact ⟨mem_at 0 rfl, trivial⟩
  · rfl
def ev_slices_Clip_Lapi_RoundTrip_api_RoundTrip (n : Nat) (s1 : List (Int × (List Int))) : Option ((List (Int × (List Int)))) :=
  some s1
theorem fc_slices_Clip_Lapi_RoundTrip_api_RoundTrip {n : Nat} {s1 : List (Int × (List Int))} {r : (List (Int × (List Int)))} (h : ev_slices_Clip_Lapi_RoundTrip_api_RoundTrip n s1 = some r) : FC Try.prog 65 [.ref 0] [.ro 0 2 (List.map en_api_RoundTrip s1)] (.ref 0) [.any 0 (D.clip 2 (List.map en_api_RoundTrip r))] := by
  refine introJ (nz := 9) Try.func65 rfl rfl rfl (fun w0 R0 env0 => ?_)
  rw [ev_slices_Clip_Lapi_RoundTrip_api_RoundTrip] at h;refine tr ?_;refine qa ?_;refine TL.nil ?_;refine tr ?_;refine qm ?_;refine qm ?_;refine q1 0 rfl (sp_lenM (N := s1.length) (len_map _ _) rfl rfl isRo Try.underlying68) ?_;refine qm ?_;refine q1 0 rfl (sp_lenM (N := s1.length) (len_map _ _) rfl rfl isRo Try.underlying68) ?_;refine q1 0 rfl (sp_clip 1 (len_map _ _) rfl rfl sl68 rfl rfl) ?_;refine qa ?_;refine TL.nil ?_;cases h;exact retJ [(0, 1)] (.tmp rfl .nil) rfl ⟨mem_at 0 rfl, trivial⟩ rfl rfl
def ev_slices_Values_Lint_int (n : Nat) (s1 : List Int) : Option ((List Int)) :=
  some s1
theorem fc_slices_Values_Lint_int {n : Nat} {s1 : List Int} {r : (List Int)} (h : ev_slices_Values_Lint_int n s1 = some r) : FC Try.prog 73 [.ref 0] [.ro 0 1 (List.map en_int s1)] (.fn 87 [] [.ptr 0 0]) [.blk 0 [.ref 1] 30, .ro 1 1 (List.map en_int r)] := by
  refine introJ (nz := 4) Try.func73 rfl rfl rfl (fun w0 R0 env0 => ?_)
  rw [ev_slices_Values_Lint_int] at h;refine tr ?_;refine q0 (sp_box 1 rfl rfl rfl rfl rfl) ?_;refine qa ?_;refine TL.nil ?_;refine tr ?_;refine q0 (sp_makeFunc (fi := []) (ca := [.tmp 1]) (fa := []) (cb := [.ptr 1 0]) rfl rfl rfl) ?_;refine qa ?_;refine TL.nil ?_;cases h;exact retJ [(0, 1), (1, 0)] (.tmp rfl .nil) rfl ⟨mem_at 0 rfl, mem_at 1 rfl, trivial⟩ rfl rfl
def ev_slices_Values_Lint_int_1_l0 {σ1 : Type} (yb1 : Int → σ1 → Option (Bool × σ1)) (n : Nat) (c2 : List Int) : Nat → Int → σ1 → Option σ1
  | 0, _, _ => none
  | m + 1, i3, y4 => cond (decide (i3 < (c2.length : Int))) (idx c2 i3 fun x5 => (yb1 x5 y4).bind fun r6 => cond (!r6.1) (some r6.2) (chk (in64 (i3 + 1)) <| ev_slices_Values_Lint_int_1_l0 yb1 n c2 m (i3 + 1) r6.2)) (some y4)
theorem ok_slices_Values_Lint_int_1_l0 {σ1 : Type} {yb1 : Int → σ1 → Option (Bool × σ1)} {I1 : σ1 → Inv} (hI1 : Yields Try.prog ye_funcint_bool yn_funcint_bool yb1 I1) {n : Nat} {w0 : World} {M0 R0 : Nat → Prop} {env0 : Env} {df : List Deferred} {r : σ1} {c2 : List Int} : ∀ (m : Nat) (i3 : Int) (y4 : σ1), ev_slices_Values_Lint_int_1_l0 yb1 n c2 m i3 y4 = some r → TC Try.prog ⟨w0, M0, R0⟩ ⟨16, none, df⟩ (bodyPostM Fence.wide 0 Try.prog Try.f87 (PostT ⟨w0, M0, R0⟩ env0 [0] (.tup []) [.inv 0 (I1 r)])) [.code (sub (bodyOf Try.f87) [1, 0, 0, 0]), .code (sub (bodyOf Try.f87) [1, 0, 0, 1]), .inLoop (sub (bodyOf Try.f87) [1, 0, 0]), .inBlock 0] ([(0, .ref 0), (5, .ref 2), (6, vi (c2.length : Int)), (7, vi i3)]) ([.ro 2 1 (List.map en_int c2), .inv 3 (marksI df), .pin 4 0 (env0 0), .inv 0 (I1 y4)]) := by
  intro m
  induction m with
  | zero => intro i3 y4 h; exact none_no h
  | succ m ih =>
    intro i3 y4 h;rw [ev_slices_Values_Lint_int_1_l0] at h;refine TC.region ?_;refine q0 (sp_lss rfl rfl rfl) ?_;refine TL.nil ?_;refine TC.seq ?_;refine TC.cond (b := (decide (i3 < (c2.length : Int)))) rfl (fun h1 => ?_) (fun h1 => ?_)
    · have h := cond_t h h1;refine TC.skip ?_;refine TC.seq ?_;refine TC.block ?_;refine tr ?_;obtain ⟨x5, h2, h3, h⟩ := idx_inv h;refine q1 0 rfl (sp_indexS rfl rfl rfl isRo sl30 h2 (map_get _ h3)) ?_;refine q1 0 rfl (sp_loadR (i := (i3 : Int).toNat) (j := 0) rfl rfl isRo vt3 rfl (map_get _ h3) rfl (.v (.nil)) (nodup_of_B rfl)) ?_;refine qa ?_;refine TL.nil ?_;refine tr ?_;refine qm ?_;refine qm ?_;obtain ⟨r6, h4, h⟩ := bind_inv h;refine opT (take := [.inv 0 (I1 y4)]) (need := []) (V' := [.inv 0 (I1 r6.2), .ro 2 1 (List.map en_int c2), .inv 3 (marksI df), .pin 4 0 (env0 0)]) [3] [] (ts_yield hI1 (x := x5) (b := r6.1) (avs := [vi x5]) (need := []) [] h4 rfl rfl rfl rfl rfl rfl) trivial rfl ⟨rfl, trivial⟩ trivial rfl rfl ?_;refine q0 (sp_not rfl rfl) ?_;refine TL.nil ?_;refine TC.cond (b := (!r6.1)) rfl (fun h5 => ?_) (fun h5 => ?_)
      · have h := cond_t h h5;cases h;exact retM [] 2 3 [0] rfl (.nil) rfl ⟨mem_at 0 rfl, trivial⟩ rfl rfl ⟨⟨_, mem_at 2 rfl⟩, trivial⟩ rfl
      · have h := cond_f h h5;refine TC.skip ?_;refine TC.inBlock ?_;refine TC.region ?_;obtain ⟨h6, h⟩ := chk_inv h;refine q0 (sp_add rfl rfl rfl h6) ?_;refine qm ?_;refine TL.nil ?_;refine TC.inLoop ?_;refine TC.seq ?_;refine subJ [] (ih _ _ h) ?_ ?_ ?_
        · exact ⟨rfl, rfl, rfl, rfl, trivial⟩
        · exact ⟨mem_at 1 rfl, mem_at 2 rfl, mem_at 3 rfl, mem_at 0 rfl, trivial⟩
        · rfl
    · have h := cond_f h h1;refine TC.exit rfl ?_;cases h;exact endM [] 1 3 [0] rfl (.nil) rfl ⟨mem_at 2 rfl, trivial⟩ rfl rfl ⟨⟨_, mem_at 1 rfl⟩, trivial⟩ rfl
def ev_slices_Values_Lint_int_1 {σ1 : Type} (yb1 : Int → σ1 → Option (Bool × σ1)) (n : Nat) (y1 : σ1) (c2 : List Int) : Option σ1 :=
  ev_slices_Values_Lint_int_1_l0 yb1 n c2 n 0 y1
theorem ft_slices_Values_Lint_int_1 {σ1 : Type} {yb1 : Int → σ1 → Option (Bool × σ1)} {I1 : σ1 → Inv} (hI1 : Yields Try.prog ye_funcint_bool yn_funcint_bool yb1 I1) {n : Nat} {y1 : σ1} {c2 : List Int} {r : σ1} (h : ev_slices_Values_Lint_int_1 yb1 n y1 c2 = some r) : FT Try.prog 87 [.ref 0, .ptr 1 0] [.inv 0 (I1 y1)] [.rob 1 [.ref 2] 30, .ro 2 1 (List.map en_int c2)] (.tup []) [.inv 0 (I1 r)] := by
  refine introM (nz := 16) 3 [(4, 0)] Try.func87 rfl rfl rfl rfl (fun w0 M0 R0 env0 => ?_)
  rw [ev_slices_Values_Lint_int_1] at h;refine tr ?_;refine q1 3 rfl (sp_loadB rfl isRob rfl vt30 rfl) ?_;refine q1 4 rfl (sp_lenM (N := c2.length) (len_map _ _) rfl rfl isRo Try.underlying30) ?_;refine qm ?_;refine TL.nil ?_;refine TC.block ?_;refine TC.loop ?_;refine TC.seq ?_;refine subJ [] (ok_slices_Values_Lint_int_1_l0 hI1 _ _ _ h) ?_ ?_ ?_
  · exact ⟨rfl, rfl, rfl, rfl, trivial⟩
  · exact ⟨mem_at 4 rfl, mem_at 0 rfl, mem_at 1 rfl, mem_at 2 rfl, trivial⟩
  · rfl
def ev_slices_AppendSeq_Lint_int_r0 (n : Nat) (x4 : Int) (y5 : (List Int)) : Option (Nat × ((List Int))) :=
  chk (room 8 (y5.length + ([x4] : List Int).length)) <| some (0, (y5 ++ ([x4] : List Int)))
theorem ok_slices_AppendSeq_Lint_int_r0 {n : Nat} {u3 : Value} {x4 : Int} {y5 : (List Int)} {r : Nat × ((List Int))} (h : ev_slices_AppendSeq_Lint_int_r0 n x4 y5 = some r) (l0 : Nat) (rec : Loop) (hrd : rec.state = .ready) (w0 : World) (M0 R0 : Nat → Prop) : TC Try.prog ⟨w0, M0, R0⟩ ⟨13, some l0, []⟩ (RoundQ ⟨w0, M0, R0⟩ (.inv 7 (recI l0 (busyR rec)) :: [.pin 6 4 u3, .blk 4 [.ref 0] 30, .row 0 3 1 (List.map en_int r.2)]) [] r.1) [.code (sub (bodyOf Try.f90) [1, 0, 1, 0, 0]), .beginRound, .code (sub (bodyOf Try.f90) [1, 0, 1, 0, 1])] (pSlots [7] (ye_funcint_bool x4) [(2, .ptr 4 0)]) (.inv 7 (recI l0 rec) :: yn_funcint_bool x4 ++ (fun y5 : (List Int) => [.pin 6 4 u3, .blk 4 [.ref 0] 30, .row 0 3 1 (List.map en_int y5)]) y5) := by
  rw [ev_slices_AppendSeq_Lint_int_r0] at h;refine subJ (s' := [(2, .ptr 4 0), (7, vi x4)]) (V' := [.inv 7 (recI l0 rec), .pin 6 4 u3, .blk 4 [.ref 0] 30, .row 0 3 1 (List.map en_int y5)]) [] ?_ ⟨rfl, rfl, trivial⟩ ⟨mem_at 0 rfl, mem_at 1 rfl, mem_at 2 rfl, mem_at 3 rfl, trivial⟩ rfl;refine TC.region ?_;refine qa ?_;refine TL.nil ?_;refine TC.beginRound 0 rfl hrd ?_;refine TC.block ?_;refine TC.region ?_;refine q1 2 rfl (sp_loadB rfl isBlk rfl vt30 rfl) ?_;refine qm ?_;refine q0 (sp_buildSlice (qs := [vi x4]) (need := []) (els := List.map en_int ([x4] : List Int)) 8 rfl sl30 (by decide) (by decide) rfl rfl rfl (.v (.nil)) (map_len fun _ => rfl) rfl rfl rfl) ?_;obtain ⟨h1, h⟩ := chk_inv h;refine appM 4 0 (N := y5.length) (N2 := ([x4] : List Int).length) 9 rfl rfl trivial rfl rfl rfl rfl rfl isOwn rfl sl30 (len_map _ _) (len_map _ _) h1 (map_app _ _ _) rfl ?_;refine stoB 4 (cells' := [.ref 9]) rfl rfl trivial rfl rfl rfl rfl vt30 rfl rfl rfl ?_;refine TL.nil ?_;refine TC.inBlock ?_;cases h;exact bodyEnd [(0, 9)] ⟨mem_at 2 rfl, mem_at 3 rfl, mem_at 4 rfl, mem_at 0 rfl, trivial⟩ rfl
def ev_slices_AppendSeq_Lint_int (n : Nat) (s1 : List Int) (seq2 : List Int) : Option ((List Int)) :=
  (ev_slices_Values_Lint_int_1 (loopStep (ev_slices_AppendSeq_Lint_int_r0 n)) n (s1, 0) seq2).bind fun q6 => cond (q6.2 == 0) (some q6.1) (none)
theorem ft_slices_AppendSeq_Lint_int {n : Nat} {s1 : List Int} {seq2 : List Int} {r : (List Int)} (h : ev_slices_AppendSeq_Lint_int n s1 seq2 = some r) : FT Try.prog 90 [.ref 0, .fn 87 [] [.ptr 1 0]] [.row 0 3 1 (List.map en_int s1)] [.rob 1 [.ref 2] 30, .ro 2 1 (List.map en_int seq2)] (.ref 500) [.row 500 3 1 (List.map en_int r)] := by
  refine introM (nz := 13) 3 [] Try.func90 rfl rfl rfl rfl (fun w0 M0 R0 env0 => ?_)
  rw [ev_slices_AppendSeq_Lint_int] at h;refine tr ?_;refine q0 (sp_box 4 rfl rfl rfl rfl rfl) ?_;refine qa ?_;refine TL.nil ?_;refine TC.seq ?_;refine tr ?_;refine qm ?_;refine TL.nil ?_;refine TC.block ?_;refine TC.pin 6 4 rfl rfl fun u3 => ?_
  obtain ⟨q6, h2, h⟩ := bind_inv h;refine rangeO (T := []) (T' := []) (k := 5) (gm := 3) (grec := 7) (S := [(2, .ptr 4 0)]) (V0 := (fun y5 : (List Int) => [.pin 6 4 u3, .blk 4 [.ref 0] 30, .row 0 3 1 (List.map en_int y5)])) (needI := [.rob 1 [.ref 2] 30, .ro 2 1 (List.map en_int seq2)]) (ps := [7]) (jl := []) (ea := ye_funcint_bool) (en := yn_funcint_bool) (f := (ev_slices_AppendSeq_Lint_int_r0 n)) (s0 := (s1, 0)) (yf := q6) (v := .tup []) (fi := []) (caps := [.ptr 1 0])
    ⟨fun x y r hr l rec hrd w0 M0 R0 => ok_slices_AppendSeq_Lint_int_r0 (u3 := u3) hr l rec hrd w0 M0 R0, ⟨rfl, trivial⟩, At.mem (is := [0, 1, 3]) ⟨rfl, rfl, rfl, trivial⟩, At.mem (is := [4, 5]) ⟨rfl, rfl, trivial⟩, rfl, pinsIn [4] [0] ⟨⟨_, _, fun _ => rfl⟩, trivial⟩ rfl, rfl, fun _ => rfl, fun _ _ => rfl, fun _ => rfl, fun _ _ => rfl, fun _ => rfl, fun _ => rfl, fun _ => rfl, rfl, rfl, fun _ => rfl, rfl⟩
    rfl rfl Try.call87 (takesNil rfl) 2 rfl (fun I hI => atT [(0, 5)] [(0, 5)] (ft_slices_Values_Lint_int_1 hI h2) rfl rfl rfl) (fun d => ?_)
  rcases cond_cases h with ⟨h3, h⟩ | ⟨h3, h⟩
  · refine done0 h3 ?_;refine TC.inBlock ?_;refine tr ?_;refine q1 2 rfl (sp_loadB rfl isBlk rfl vt30 rfl) ?_;refine qa ?_;refine TL.nil ?_;cases h;exact retM [(500, 0)] 0 3 [] rfl (.tmp rfl .nil) rfl ⟨mem_at 2 rfl, trivial⟩ rfl rfl trivial rfl
  · exact none_no h
def ev_slices_Collect_int (n : Nat) (seq1 : List Int) : Option ((List Int)) :=
  (ev_slices_AppendSeq_Lint_int n ([]) seq1).bind fun r2 => some r2
theorem fc_slices_Collect_int {n : Nat} {seq1 : List Int} {r : (List Int)} (h : ev_slices_Collect_int n seq1 = some r) : FC Try.prog 85 [.fn 87 [] [.ptr 0 0]] [.rob 0 [.ref 1] 30, .ro 1 1 (List.map en_int seq1)] (.ref 0) [.row 0 3 1 (List.map en_int r)] := by
  refine introJ (nz := 5) Try.func85 rfl rfl rfl (fun w0 R0 env0 => ?_)
  rw [ev_slices_Collect_int] at h;refine tr ?_;refine qa ?_;refine TL.nil ?_;refine tr ?_;refine qm ?_;obtain ⟨r2, h1, h⟩ := bind_inv h;refine opT (take := []) (need := [.rob 0 [.ref 1] 30, .ro 1 1 (List.map en_int seq1)]) (V' := [.row 3 3 1 (List.map en_int r2), .rob 0 [.ref 1] 30, .ro 1 1 (List.map en_int seq1)]) [] [0, 1] (ts_call (avs := [.val (.slice none 0 0), .fn 87 [] [.ptr 0 0]]) (take := []) (need := [.rob 0 [.ref 1] 30, .ro 1 1 (List.map en_int seq1)]) (v := .ref 3) (news := [.row 3 3 1 (List.map en_int r2)]) rfl rfl rfl Try.call90 (FT.nilT (args := [.ref 2, .fn 87 [] [.ptr 0 0]]) 2 3 1 (atT [(0, 2), (1, 0), (2, 1)] [(500, 3)] (ft_slices_AppendSeq_Lint_int h1) rfl rfl rfl) rfl rfl rfl rfl) rfl rfl) trivial rfl trivial ⟨rfl, rfl, trivial⟩ rfl rfl ?_;refine qa ?_;refine TL.nil ?_;cases h;exact retJ [(0, 3)] (.tmp rfl .nil) rfl ⟨mem_at 0 rfl, trivial⟩ rfl rfl
def rn_slices_Sort_Lint_int : Shelf.Ren := ⟨fun n => match n with | 125 => 92 | 128 => 102 | 129 => 103 | 189 => 86 | 215 => 84 | 216 => 99 | 257 => 91 | 294 => 93 | 295 => 94 | 296 => 95 | 297 => 96 | 298 => 97 | 299 => 98 | 300 => 100 | 301 => 101 | 328 => 104 | 329 => 105 | 330 => 106 | 331 => 107 | 332 => 108 | 343 => 109 | _ => 0, fun n => match n with | 0 => 0 | 3 => 3 | 4 => 4 | 5 => 5 | 9 => 9 | 28 => 30 | 46 => 80 | 51 => 163 | 53 => 165 | 131 => 160 | 182 => 154 | 183 => 155 | 218 => 166 | 222 => 170 | 228 => 172 | 229 => 47 | _ => 0, fun x => x⟩
theorem lays_slices_Sort_Lint_int : Lays.n189 Try.prog rn_slices_Sort_Lint_int where
  mixed := rfl
  f125 := Try.func92.trans (congrArg some (by kernel_rfl))
  f128 := Try.func102.trans (congrArg some (by kernel_rfl))
  f129 := Try.func103.trans (congrArg some (by kernel_rfl))
  f189 := Try.func86.trans (congrArg some (by kernel_rfl))
  f215 := Try.func84.trans (congrArg some (by kernel_rfl))
  f216 := Try.func99.trans (congrArg some (by kernel_rfl))
  f257 := Try.func91.trans (congrArg some (by kernel_rfl))
  f294 := Try.func93.trans (congrArg some (by kernel_rfl))
  f295 := Try.func94.trans (congrArg some (by kernel_rfl))
  f296 := Try.func95.trans (congrArg some (by kernel_rfl))
  f297 := Try.func96.trans (congrArg some (by kernel_rfl))
  f298 := Try.func97.trans (congrArg some (by kernel_rfl))
  f299 := Try.func98.trans (congrArg some (by kernel_rfl))
  f300 := Try.func100.trans (congrArg some (by kernel_rfl))
  f301 := Try.func101.trans (congrArg some (by kernel_rfl))
  f328 := Try.func104.trans (congrArg some (by kernel_rfl))
  f329 := Try.func105.trans (congrArg some (by kernel_rfl))
  f330 := Try.func106.trans (congrArg some (by kernel_rfl))
  f331 := Try.func107.trans (congrArg some (by kernel_rfl))
  f332 := Try.func108.trans (congrArg some (by kernel_rfl))
  f343 := Try.func109.trans (congrArg some (by kernel_rfl))
  t0 := Try.underlying0
  a0 := Try.isAgg0
  z0 := Try.sizeOf0
  v0 := Try.zeroValue0
  t3 := Try.underlying3
  a3 := Try.isAgg3
  z3 := Try.sizeOf3
  v3 := Try.zeroValue3
  t4 := Try.underlying4
  a4 := Try.isAgg4
  z4 := Try.sizeOf4
  v4 := Try.zeroValue4
  t5 := Try.underlying5
  a5 := Try.isAgg5
  z5 := Try.sizeOf5
  v5 := Try.zeroValue5
  t9 := Try.underlying9
  a9 := Try.isAgg9
  z9 := Try.sizeOf9
  v9 := Try.zeroValue9
  t28 := Try.underlying30
  a28 := Try.isAgg30
  z28 := Try.sizeOf30
  v28 := Try.zeroValue30
  t46 := Try.underlying80
  a46 := Try.isAgg80
  z46 := Try.sizeOf80
  v46 := Try.zeroValue80
  t51 := Try.underlying163
  a51 := Try.isAgg163
  z51 := Try.sizeOf163
  v51 := Try.zeroValue163
  t53 := Try.underlying165
  a53 := Try.isAgg165
  z53 := Try.sizeOf165
  v53 := Try.zeroValue165
  t131 := Try.underlying160
  a131 := Try.isAgg160
  z131 := Try.sizeOf160
  v131 := Try.zeroValue160
  t182 := Try.underlying154
  a182 := Try.isAgg154
  z182 := Try.sizeOf154
  v182 := Try.zeroValue154
  t183 := Try.underlying155
  a183 := Try.isAgg155
  z183 := Try.sizeOf155
  v183 := Try.zeroValue155
  t218 := Try.underlying166
  a218 := Try.isAgg166
  z218 := Try.sizeOf166
  v218 := Try.zeroValue166
  t222 := Try.underlying170
  a222 := Try.isAgg170
  z222 := Try.sizeOf170
  v222 := Try.zeroValue170
  t228 := Try.underlying172
  a228 := Try.isAgg172
  z228 := Try.sizeOf172
  v228 := Try.zeroValue172
  t229 := Try.underlying47
  a229 := Try.isAgg47
  z229 := Try.sizeOf47
  v229 := Try.zeroValue47
def ev_slices_Sort_Lint_int (n : Nat) (x1 : List Int) : Option (List Int) := chk (room 8 x1.length) (some (srt x1))
theorem ft_slices_Sort_Lint_int {n : Nat} {x1 : List Int} {r : List Int} (h : ev_slices_Sort_Lint_int n x1 = some r) : FT Try.prog 86 [.ref 0] [.row 0 3 1 (List.map en_int x1)] [] (.tup []) [.row 0 3 1 (List.map en_int r)] := by
  obtain ⟨h1, h⟩ := chk_inv h;cases h;exact ft_sortS lays_slices_Sort_Lint_int h1
def ev_slices_Sorted_int (n : Nat) (seq1 : List Int) : Option ((List Int)) :=
  (ev_slices_Collect_int n seq1).bind fun r2 => (ev_slices_Sort_Lint_int n r2).bind fun r3 => some r3
theorem fc_slices_Sorted_int {n : Nat} {seq1 : List Int} {r : (List Int)} (h : ev_slices_Sorted_int n seq1 = some r) : FC Try.prog 72 [.fn 87 [] [.ptr 0 0]] [.rob 0 [.ref 1] 30, .ro 1 1 (List.map en_int seq1)] (.ref 0) [.row 0 3 1 (List.map en_int r)] := by
  refine introJ (nz := 9) Try.func72 rfl rfl rfl (fun w0 R0 env0 => ?_)
  rw [ev_slices_Sorted_int] at h;refine tr ?_;refine qa ?_;refine TL.nil ?_;refine tr ?_;refine qm ?_;obtain ⟨r2, h1, h⟩ := bind_inv h;refine opN (need := [.rob 0 [.ref 1] 30, .ro 1 1 (List.map en_int seq1)]) [0, 1] ⟨rfl, rfl, trivial⟩ (sp_call (avs := [.fn 87 [] [.ptr 0 0]]) (need := [.rob 0 [.ref 1] 30, .ro 1 1 (List.map en_int seq1)]) (v := .ref 2) (news := [.row 2 3 1 (List.map en_int r2)]) rfl rfl rfl Try.call85 (atJ [] [(0, 2)] (fc_slices_Collect_int h1) rfl rfl) (.inl (roAll rfl))) rfl trivial rfl rfl ?_;refine qa ?_;refine TL.nil ?_;refine tr ?_;refine qm ?_;obtain ⟨r3, h2, h⟩ := bind_inv h;refine opT (take := [.row 2 3 1 (List.map en_int r2)]) (need := []) (V' := [.row 2 3 1 (List.map en_int r3), .rob 0 [.ref 1] 30, .ro 1 1 (List.map en_int seq1)]) [0] [] (ts_call (avs := [.ref 2]) (take := [.row 2 3 1 (List.map en_int r2)]) (need := []) (v := .tup []) (news := [.row 2 3 1 (List.map en_int r3)]) rfl rfl rfl Try.call86 (atT [(0, 2)] [(0, 2)] (ft_slices_Sort_Lint_int h2) rfl rfl rfl) rfl rfl) trivial rfl ⟨rfl, trivial⟩ trivial rfl rfl ?_;refine TL.nil ?_;refine tr ?_;refine qm ?_;refine qa ?_;refine TL.nil ?_;cases h;exact retJ [(0, 2)] (.tmp rfl .nil) rfl ⟨mem_at 0 rfl, trivial⟩ rfl rfl
def rn_slices_Compact_Lint_int : Shelf.Ren := ⟨fun _ => 74, fun n => match n with | 0 => 0 | 3 => 3 | 4 => 4 | 22 => 30 | _ => 0, fun x => x⟩
theorem lays_slices_Compact_Lint_int : Lays2.n20 Try.prog rn_slices_Compact_Lint_int where
  mixed := rfl
  f20 := Try.func74.trans (congrArg some (by kernel_rfl))
  t0 := Try.underlying0
  a0 := Try.isAgg0
  z0 := Try.sizeOf0
  v0 := Try.zeroValue0
  t3 := Try.underlying3
  a3 := Try.isAgg3
  z3 := Try.sizeOf3
  v3 := Try.zeroValue3
  t4 := Try.underlying4
  a4 := Try.isAgg4
  z4 := Try.sizeOf4
  v4 := Try.zeroValue4
  t22 := Try.underlying30
  a22 := Try.isAgg30
  z22 := Try.sizeOf30
  v22 := Try.zeroValue30
  i3 := by kernel_rfl
def ev_slices_Compact_Lint_int (n : Nat) (s1 : List Int) : Option (List Int) := chk (room 8 s1.length) (some (Lib.compact s1))
theorem ft_slices_Compact_Lint_int {n : Nat} {s1 : List Int} {r : List Int} (h : ev_slices_Compact_Lint_int n s1 = some r) : FT Try.prog 74 [.ref 0] [.row 0 3 1 (List.map en_int s1)] [] (.ref 500) [.row 500 3 1 (List.map en_int r)] := by
  obtain ⟨h1, h⟩ := chk_inv h;cases h;exact ft_compactI lays_slices_Compact_Lint_int 500 rfl h1
def ev_slices_Min_round_clocks_int_l1 (n : Nat) (x1 : List Int) : Nat → Int → Int → Option Int
  | 0, _, _ => none
  | m + 1, i3, i4 => cond (decide (i4 < (x1.length : Int))) (idx x1 i4 fun x5 => chk (in64 (i4 + 1)) <| ev_slices_Min_round_clocks_int_l1 n x1 m (min i3 x5) (i4 + 1)) (some i3)
theorem ok_slices_Min_round_clocks_int_l1 {n : Nat} {w0 : World} {R0 : Nat → Prop} {env0 : Env} {r : Int} {x1 : List Int} : ∀ (m : Nat) (i3 : Int) (i4 : Int), ev_slices_Min_round_clocks_int_l1 n x1 m i3 i4 = some r → TC Try.prog ⟨w0, fun _ => False, R0⟩ 25 (bodyPost Try.prog Try.f45 (Post ⟨w0, fun _ => False, R0⟩ env0 (vi r) [])) [.code (sub (bodyOf Try.f45) [1, 1, 1, 0, 1, 0, 0, 0, 0]), .code (sub (bodyOf Try.f45) [1, 1, 1, 0, 1, 0, 0, 0, 1]), .code (sub (bodyOf Try.f45) [1, 1, 1, 0, 1, 0, 0, 1]), .inLoop (sub (bodyOf Try.f45) [1, 1, 1, 0, 1, 0, 0]), .inBlock 0, .code (sub (bodyOf Try.f45) [1, 1, 1, 1])] ([(0, .ref 0), (3, vi i3), (4, vi i4)]) ([.ro 0 1 (List.map en_int x1)]) := by
  intro m
  induction m with
  | zero => intro i3 i4 h; exact none_no h
  | succ m ih =>
    intro i3 i4 h;rw [ev_slices_Min_round_clocks_int_l1] at h;refine TC.region ?_;refine qm ?_;refine qm ?_;refine q1 0 rfl (sp_lenM (N := x1.length) (len_map _ _) rfl rfl isRo Try.underlying83) ?_;refine q0 (sp_lss rfl rfl rfl) ?_;refine TL.nil ?_;refine TC.cond (b := (decide (i4 < (x1.length : Int)))) rfl (fun h4 => ?_) (fun h4 => ?_)
    · have h := cond_t h h4;refine TC.skip ?_;refine TC.seq ?_;refine TC.block ?_;refine TC.region ?_;refine qm ?_;refine qm ?_;refine qm ?_;obtain ⟨x5, h5, h6, h⟩ := idx_inv h;refine q1 0 rfl (sp_indexS rfl rfl rfl isRo sl83 h5 (map_get _ h6)) ?_;refine q1 0 rfl (sp_loadR (i := (i4 : Int).toNat) (j := 0) rfl rfl isRo vt3 rfl (map_get _ h6) rfl (.v (.nil)) (nodup_of_B rfl)) ?_;refine q0 (sp_min rfl rfl rfl) ?_;refine qa ?_;refine TL.nil ?_;refine TC.inBlock ?_;refine TC.region ?_;refine qm ?_;obtain ⟨h7, h⟩ := chk_inv h;refine q0 (sp_add rfl rfl rfl h7) ?_;refine qa ?_;refine TL.nil ?_;refine TC.inLoop ?_;refine TC.seq ?_;refine TC.seq ?_;refine subJ [] (ih _ _ h) ?_ ?_ ?_
      · exact ⟨rfl, rfl, rfl, trivial⟩
      · exact ⟨mem_at 0 rfl, trivial⟩
      · rfl
    · have h := cond_f h h4;refine TC.exit rfl ?_;refine tr ?_;refine qm ?_;refine qa ?_;refine TL.nil ?_;cases h;exact retJ [] (.tmp rfl .nil) rfl trivial rfl rfl
def ev_slices_Min_round_clocks_int_j0 (n : Nat) (x1 : List Int) : Option Int :=
  idx x1 0 fun x2 => ev_slices_Min_round_clocks_int_l1 n x1 n x2 1
theorem ok_slices_Min_round_clocks_int_j0 {n : Nat} {w0 : World} {R0 : Nat → Prop} {env0 : Env} {r : Int} {x1 : List Int} (h : ev_slices_Min_round_clocks_int_j0 n x1 = some r) : TC Try.prog ⟨w0, fun _ => False, R0⟩ 25 (bodyPost Try.prog Try.f45 (Post ⟨w0, fun _ => False, R0⟩ env0 (vi r) [])) [.code (sub (bodyOf Try.f45) [1, 1, 0]), .code (sub (bodyOf Try.f45) [1, 1, 1])] ([(0, .ref 0)]) ([.ro 0 1 (List.map en_int x1)]) := by
  rw [ev_slices_Min_round_clocks_int_j0] at h;refine TC.region ?_;refine qm ?_;obtain ⟨x2, h2, h3, h⟩ := idx_inv h;refine q1 0 rfl (sp_indexS rfl rfl rfl isRo sl83 h2 (map_get _ h3)) ?_;refine q1 0 rfl (sp_loadR (i := (0 : Int).toNat) (j := 0) rfl rfl isRo vt3 rfl (map_get _ h3) rfl (.v (.nil)) (nodup_of_B rfl)) ?_;refine qa ?_;refine TL.nil ?_;refine TC.seq ?_;refine tr ?_;refine qa ?_;refine TL.nil ?_;refine TC.block ?_;refine TC.loop ?_;refine TC.seq ?_;refine TC.seq ?_;refine subJ [] (ok_slices_Min_round_clocks_int_l1 _ _ _ h) ?_ ?_ ?_
  · exact ⟨rfl, rfl, rfl, trivial⟩
  · exact ⟨mem_at 0 rfl, trivial⟩
  · rfl
def ev_slices_Min_round_clocks_int (n : Nat) (x1 : List Int) : Option Int :=
  cond (decide ((x1.length : Int) < 1)) (none) (ev_slices_Min_round_clocks_int_j0 n x1)
theorem fc_slices_Min_round_clocks_int {n : Nat} {x1 : List Int} {r : Int} (h : ev_slices_Min_round_clocks_int n x1 = some r) : FC Try.prog 45 [.ref 0] [.ro 0 1 (List.map en_int x1)] (vi r) [] := by
  refine introJ (nz := 25) Try.func45 rfl rfl rfl (fun w0 R0 env0 => ?_)
  rw [ev_slices_Min_round_clocks_int] at h;refine tr ?_;refine qa ?_;refine TL.nil ?_;refine TC.seq ?_;refine tr ?_;refine qm ?_;refine q1 0 rfl (sp_lenM (N := x1.length) (len_map _ _) rfl rfl isRo Try.underlying83) ?_;refine q0 (sp_lss rfl rfl rfl) ?_;refine TL.nil ?_;refine TC.cond (b := (decide ((x1.length : Int) < 1))) rfl (fun h1 => ?_) (fun h1 => ?_)
  · have h := cond_t h h1;refine TC.region ?_;exact none_no h
  · have h := cond_f h h1;refine TC.skip ?_;refine TC.seq ?_;refine subJ [] (ok_slices_Min_round_clocks_int_j0 h) ?_ ?_ ?_
    · exact ⟨rfl, trivial⟩
    · exact ⟨mem_at 0 rfl, trivial⟩
    · rfl
def ev_slices_Index_round_clocks_int_l0 (n : Nat) (s1 : List Int) (v2 : Int) : Nat → Int → Option Int
  | 0, _ => none
  | m + 1, i3 => cond (decide (i3 < (s1.length : Int))) (idx s1 i3 fun x4 => cond (v2 == x4) (some i3) (chk (in64 (i3 + 1)) <| ev_slices_Index_round_clocks_int_l0 n s1 v2 m (i3 + 1))) (some (-1))
theorem ok_slices_Index_round_clocks_int_l0 {n : Nat} {w0 : World} {R0 : Nat → Prop} {env0 : Env} {r : Int} {v2 : Int} {s1 : List Int} : ∀ (m : Nat) (i3 : Int), ev_slices_Index_round_clocks_int_l0 n s1 v2 m i3 = some r → TC Try.prog ⟨w0, fun _ => False, R0⟩ 19 (bodyPost Try.prog Try.f46 (Post ⟨w0, fun _ => False, R0⟩ env0 (vi r) [])) [.code (sub (bodyOf Try.f46) [1, 0, 1, 0, 0, 0]), .code (sub (bodyOf Try.f46) [1, 0, 1, 0, 0, 1]), .inLoop (sub (bodyOf Try.f46) [1, 0, 1, 0, 0]), .inBlock 0, .code (sub (bodyOf Try.f46) [1, 1])] ([(0, .ref 0), (1, vi v2), (7, vi (s1.length : Int)), (8, vi i3)]) ([.ro 0 1 (List.map en_int s1)]) := by
  intro m
  induction m with
  | zero => intro i3 h; exact none_no h
  | succ m ih =>
    intro i3 h;rw [ev_slices_Index_round_clocks_int_l0] at h;refine TC.region ?_;refine q0 (sp_lss rfl rfl rfl) ?_;refine TL.nil ?_;refine TC.seq ?_;refine TC.cond (b := (decide (i3 < (s1.length : Int)))) rfl (fun h1 => ?_) (fun h1 => ?_)
    · have h := cond_t h h1;refine TC.skip ?_;refine TC.seq ?_;refine TC.block ?_;refine tr ?_;refine qm ?_;refine qa ?_;refine TL.nil ?_;refine tr ?_;refine qm ?_;refine qm ?_;refine qm ?_;obtain ⟨x4, h2, h3, h⟩ := idx_inv h;refine q1 0 rfl (sp_indexS rfl rfl rfl isRo sl83 h2 (map_get _ h3)) ?_;refine q1 0 rfl (sp_loadR (i := (i3 : Int).toNat) (j := 0) rfl rfl isRo vt3 rfl (map_get _ h3) rfl (.v (.nil)) (nodup_of_B rfl)) ?_;refine q0 (sp_eql rfl rfl rfl) ?_;refine TL.nil ?_;refine TC.cond (b := (v2 == x4)) rfl (fun h4 => ?_) (fun h4 => ?_)
      · have h := cond_t h h4;refine tr ?_;refine qm ?_;refine qa ?_;refine TL.nil ?_;cases h;exact retJ [] (.tmp rfl .nil) rfl trivial rfl rfl
      · have h := cond_f h h4;refine TC.skip ?_;refine TC.inBlock ?_;refine TC.region ?_;obtain ⟨h5, h⟩ := chk_inv h;refine q0 (sp_add rfl rfl rfl h5) ?_;refine qm ?_;refine TL.nil ?_;refine TC.inLoop ?_;refine TC.seq ?_;refine subJ [] (ih _ h) ?_ ?_ ?_
        · exact ⟨rfl, rfl, rfl, rfl, trivial⟩
        · exact ⟨mem_at 0 rfl, trivial⟩
        · rfl
    · have h := cond_f h h1;refine TC.exit rfl ?_;refine tr ?_;refine qa ?_;refine TL.nil ?_;cases h;exact retJ [] (.tmp rfl .nil) rfl trivial rfl rfl
def ev_slices_Index_round_clocks_int (n : Nat) (s1 : List Int) (v2 : Int) : Option Int :=
  ev_slices_Index_round_clocks_int_l0 n s1 v2 n 0
theorem fc_slices_Index_round_clocks_int {n : Nat} {s1 : List Int} {v2 : Int} {r : Int} (h : ev_slices_Index_round_clocks_int n s1 v2 = some r) : FC Try.prog 46 [.ref 0, vi v2] [.ro 0 1 (List.map en_int s1)] (vi r) [] := by
  refine introJ (nz := 19) Try.func46 rfl rfl rfl (fun w0 R0 env0 => ?_)
  rw [ev_slices_Index_round_clocks_int] at h;refine tr ?_;refine qa ?_;refine TL.nil ?_;refine TC.seq ?_;refine tr ?_;refine qm ?_;refine q1 0 rfl (sp_lenM (N := s1.length) (len_map _ _) rfl rfl isRo Try.underlying83) ?_;refine qm ?_;refine TL.nil ?_;refine TC.block ?_;refine TC.loop ?_;refine TC.seq ?_;refine subJ [] (ok_slices_Index_round_clocks_int_l0 _ _ h) ?_ ?_ ?_
  · exact ⟨rfl, rfl, rfl, rfl, trivial⟩
  · exact ⟨mem_at 0 rfl, trivial⟩
  · rfl
end
end Go.Proofs.Ytohjpfkcahlfkaa.Sy
