/- What functions of the program compute, and that they do: printed by symgen.py. -/
import Derived.Test.YtjmkjlhnipnkcaaPfSymMJ
import Derived.Test.YtjmkjlhnipnkcaaPfSymRMJ
import Derived.Test.YtjmkjlhnipnkcaaProg
import Derived.Test.YtjmkjlhnipnkcaaPfManP
set_option linter.unusedSimpArgs false
set_option linter.unusedVariables false
namespace Go.Proofs.Ytjmkjlhnipnkcaa.Sy
open Go.RowKit
noncomputable section
abbrev vi (x : Int) : AV := .val (.int .i64 x)
abbrev LT := List (Int × Int × Int × Int × Int)
abbrev LW := List (Int × Int × Int × Int)
abbrev LL := List ((List Int))
abbrev vb (x : Bool) : AV := .val (.bool x)
abbrev vu (x : Int) : AV := .val (.int .u16 x)
section
variable {P : Program} {c : Ctx} {sz : Fm} {Q : Exit → Act → World → Prop} {t : List Item} {s : List (Nat × AV)} {V : List NEnt} {ops : Array Oper} {rest : List Oper} {o : Oper}
theorem q0 {v : AV} {news : List NEnt} {d : Nat} (hs : OpSpec P o (rho s) [] v news) (k : TL P c sz Q ops rest t ((d, v) :: s) (news ++ V)) (hd : o.dst = some d := by exact rfl) (hw : Wanted ops s o := by exact trivial) (hlt : Nat.blt d sz.sz = true := by exact rfl) (hf : freshN news s V = true := by exact rfl) : TL P c sz Q ops (o :: rest) t s V := op0 hs hd hw hlt hf k
theorem q1 {v : AV} {news : List NEnt} {d : Nat} {y : NEnt} (i : Nat) (hy : V[i]? = some y) (hs : OpSpec P o (rho s) [y] v news) (k : TL P c sz Q ops rest t ((d, v) :: s) (news ++ V)) (hd : o.dst = some d := by exact rfl) (hw : Wanted ops s o := by exact trivial) (hlt : Nat.blt d sz.sz = true := by exact rfl) (hf : freshN news s V = true := by exact rfl) : TL P c sz Q ops (o :: rest) t s V := op1 i hy hs hd hw hlt hf k
theorem q2 {v : AV} {news : List NEnt} {d : Nat} {y : NEnt} (i : Nat) (hy : V[i]? = some y) (hs : OpSpec P o (rho s) [y] v news) (k : TL P c sz Q ops rest t ((d, v) :: s) (news ++ V)) (hd : o.dst = some d := by exact rfl) (hw : Wanted ops s o := by exact ⟨_, rfl, rfl⟩) (hlt : Nat.blt d sz.sz = true := by exact rfl) (hf : freshN news s V = true := by exact rfl) : TL P c sz Q ops (o :: rest) t s V := op1 i hy hs hd hw hlt hf k
theorem q3 {v : AV} {news : List NEnt} {d : Nat} (hs : OpSpec P o (rho s) [] v news) (k : TL P c sz Q ops rest t ((d, v) :: s) (news ++ V)) (hd : o.dst = some d := by exact rfl) (hw : Wanted ops s o := by exact ⟨_, rfl, rfl⟩) (hlt : Nat.blt d sz.sz = true := by exact rfl) (hf : freshN news s V = true := by exact rfl) : TL P c sz Q ops (o :: rest) t s V := op0 hs hd hw hlt hf k
theorem qs {d : Nat} (k : TL P c sz Q ops rest t ((d, .val undef) :: s) V) (hd : o.dst = some d := by exact rfl) (hw : Unwanted ops s o := by exact ⟨_, rfl, .inl rfl⟩) (hlt : Nat.blt d sz.sz = true := by exact rfl) : TL P c sz Q ops (o :: rest) t s V := opSkip hd hw hlt k
theorem qa {d : Nat} {x : Operand} {v : AV} (k : TL P c sz Q ops rest t ((d, v) :: s) V) (hd : o.dst = some d := by exact rfl) (ho : o.op = .assign x := by exact rfl) (hx : rho s x = some v := by exact rfl) (hw : Wanted ops s o := by exact trivial) (hlt : Nat.blt d sz.sz = true := by exact rfl) (hf : freshN [] s V = true := by exact rfl) : TL P c sz Q ops (o :: rest) t s V := op0 (sp_assign ho hx) hd hw hlt hf k
theorem tr {x : List Oper} {y : Code} {id : Nat} (h : TL P c sz Q x.toArray x (.code y :: t) s V) : TC P c sz Q (.code (.seq (.region id x.toArray false) y) :: t) s V := TC.seq (TC.region h)
theorem qm {d : Nat} {x : Operand} {v : AV} (k : TL P c sz Q ops rest t ((d, v) :: s) V) (hd : o.dst = some d := by exact rfl) (ho : o.op = .move x := by exact rfl) (hx : rho s x = some v := by exact rfl) (hw : Wanted ops s o := by exact trivial) (hlt : Nat.blt d sz.sz = true := by exact rfl) (hf : freshN [] s V = true := by exact rfl) : TL P c sz Q ops (o :: rest) t s V := op0 (sp_move ho hx) hd hw hlt hf k
end
section
variable {P : Program} {s : List (Nat × AV)} {o : Oper} {ops : Array Oper} {V : List NEnt} {outs : List DO} {i : Nat} {l : List Oper} {d : DO} {ds : List DO}
theorem dp2 (ps : List (Option Nat × Nat)) (hs : OpSpec P o (rho s) d.need d.v d.news) (hn : From ops outs V i ps d.need) (h : DAll P ops outs V (i + 1) l ds (putS o d.v s)) (hw : Wanted ops s o := by exact trivial) (ht : d.take = [] := by exact rfl) : DAll P ops outs V i (o :: l) (d :: ds) s := .op' hs hw ht (From.ok hn) h
theorem dp0 (hs : OpSpec P o (rho s) d.need d.v d.news) (h : DAll P ops outs V (i + 1) l ds (putS o d.v s)) (hw : Wanted ops s o := by exact trivial) (ht : d.take = [] := by exact rfl) (hn : From ops outs V i [] d.need := by exact trivial) : DAll P ops outs V i (o :: l) (d :: ds) s := .op' hs hw ht (From.ok hn) h
theorem dp1 (k : Nat) (hs : OpSpec P o (rho s) d.need d.v d.news) (h : DAll P ops outs V (i + 1) l ds (putS o d.v s)) (hw : Wanted ops s o := by exact trivial) (ht : d.take = [] := by exact rfl) (hn : From ops outs V i [(none, k)] d.need := by exact ⟨⟨rfl, rfl⟩, trivial⟩) : DAll P ops outs V i (o :: l) (d :: ds) s := .op' hs hw ht (From.ok hn) h
theorem dq2 (ps : List (Option Nat × Nat)) (hs : OpSpec P o (rho s) d.need d.v d.news) (hn : From ops outs V i ps d.need) (h : DAll P ops outs V (i + 1) l ds (putS o d.v s)) (hw : Wanted ops s o := by exact ⟨_, rfl, rfl⟩) (ht : d.take = [] := by exact rfl) : DAll P ops outs V i (o :: l) (d :: ds) s := .op' hs hw ht (From.ok hn) h
theorem dq0 (hs : OpSpec P o (rho s) d.need d.v d.news) (h : DAll P ops outs V (i + 1) l ds (putS o d.v s)) (hw : Wanted ops s o := by exact ⟨_, rfl, rfl⟩) (ht : d.take = [] := by exact rfl) (hn : From ops outs V i [] d.need := by exact trivial) : DAll P ops outs V i (o :: l) (d :: ds) s := .op' hs hw ht (From.ok hn) h
theorem dq1 (k : Nat) (hs : OpSpec P o (rho s) d.need d.v d.news) (h : DAll P ops outs V (i + 1) l ds (putS o d.v s)) (hw : Wanted ops s o := by exact ⟨_, rfl, rfl⟩) (ht : d.take = [] := by exact rfl) (hn : From ops outs V i [(none, k)] d.need := by exact ⟨⟨rfl, rfl⟩, trivial⟩) : DAll P ops outs V i (o :: l) (d :: ds) s := .op' hs hw ht (From.ok hn) h
end
def en_api_PulseSeen : Int × Int → List D := fun x => [D.v (.int .i64 x.1), D.v (.int .i64 x.2)]
theorem vt24 : VarT Try.prog 24 3 true := ⟨Try.isAgg24, Try.sizeOf24⟩
theorem ft24_0 : FieldT Try.prog 24 0 0 22 := ⟨_, _, Try.underlying24, rfl, rfl, rfl⟩
theorem vt22 : VarT Try.prog 22 1 false := ⟨Try.isAgg22, Try.sizeOf22⟩
theorem ft24_1 : FieldT Try.prog 24 1 1 3 := ⟨_, _, Try.underlying24, rfl, rfl, rfl⟩
theorem vt3 : VarT Try.prog 3 1 false := ⟨Try.isAgg3, Try.sizeOf3⟩
theorem ft24_2 : FieldT Try.prog 24 2 2 3 := ⟨_, _, Try.underlying24, rfl, rfl, rfl⟩
theorem sl50 : SlT Try.prog 50 53 2 16 := ⟨Try.underlying50, ⟨Try.t53, _, by kernel_rfl, rfl, rfl, rfl, rfl⟩, by decide⟩
theorem ft53_0 : FieldT Try.prog 53 0 0 3 := ⟨_, _, Try.underlying53, rfl, rfl, rfl⟩
theorem vt53 : VarT Try.prog 53 2 true := ⟨Try.isAgg53, Try.sizeOf53⟩
theorem eq53 (a0 : Int) (a1 : Int) (b0 : Int) (b1 : Int) : EqT Try.prog 53 [.int .i64 a0, .int .i64 a1] [.int .i64 b0, .int .i64 b1] (((a0 == b0) && (a1 == b1))) := ⟨Try.eqGuardType53, fun w => by
  simp [go_sem, Try.underlying53, Try.underlying3, Try.isAgg53, Try.isAgg3, Try.sizeOf53, Try.sizeOf3, Try.stoodInHeld53]
  (repeat' split) <;> simp_all⟩
theorem bt37 : ∀ parts, Try.prog.built 37 parts = Instr.fill (fun i => (#[(0, 1), (1, 1)] : Array (Nat × Nat))[i]?) (AV.denL (fun _ => undef) [vi 0, vi 0]).toArray parts := fun _ => by kernel_rfl
theorem vt37 : VarT Try.prog 37 2 true := ⟨Try.isAgg37, Try.sizeOf37⟩
def mk88 : Int × Int → Value := fun k => .agg #[.int .i64 k.1, .int .i64 k.2]
theorem kc88 (b : Bool) (k : Int × Int) (w : World) (n : Nat) : (Instr.checkKey b (n + 2) 37 (mk88 k)).run Try.prog w = .ok () w := by
  simp [mk88, Instr.checkKey, go_sem, Try.underlying37, Try.underlying3, Try.isAgg37, Try.isAgg3, Try.sizeOf37, Try.sizeOf3, Try.stoodInHeld37]
theorem eq37 (a0 : Int) (a1 : Int) (b0 : Int) (b1 : Int) : EqT Try.prog 37 [.int .i64 a0, .int .i64 a1] [.int .i64 b0, .int .i64 b1] (((a0 == b0) && (a1 == b1))) := ⟨Try.eqGuardType37, fun w => by
  simp [go_sem, Try.underlying37, Try.underlying3, Try.isAgg37, Try.isAgg3, Try.sizeOf37, Try.sizeOf3, Try.stoodInHeld37]
  (repeat' split) <;> simp_all⟩
theorem kq88 (k k' : Int × Int) (w : World) : (Op.equal 37 (mk88 k) (mk88 k')).run Try.prog w = .ok (k == k') w := by
  have h := (eq37 (k.1) (k.2) ((k').1) ((k').2)).2 w;show (Op.equalIn 10000 37 _ _).run Try.prog w = _;simp only [mk88];exact h
theorem km88 : MKey Try.prog 88 37 4 mk88 := mkey_agg2 Try.underlying88 Try.underlying37 (fun k es i => findNow_struct k es i) (fun b k w => kc88 b k w 9998) kq88 (fun k => by simp [mk88, Instr.sameBits])
def kl88 : (Int × Int) → (Int × Int) → Bool := fun a b => (decide (a.1 < b.1) || (a.1 == b.1 && decide (a.2 < b.2)))
def en_bool : Bool → List D := fun x => [D.v (.bool x)]
def en_map_turretref09_Dial_bool : (List ((Int × Int) × Bool)) → List D := fun x => [(mapI mk88 false en_bool x).froz]
theorem sl89 : SlT Try.prog 89 88 1 8 := ⟨Try.underlying89, ⟨Try.t88, _, by kernel_rfl, rfl, rfl, rfl, rfl⟩, by decide⟩
theorem vt88 : VarT Try.prog 88 1 false := ⟨Try.isAgg88, Try.sizeOf88⟩
theorem ft37_0 : FieldT Try.prog 37 0 0 3 := ⟨_, _, Try.underlying37, rfl, rfl, rfl⟩
theorem ft37_1 : FieldT Try.prog 37 1 1 3 := ⟨_, _, Try.underlying37, rfl, rfl, rfl⟩
theorem ft53_1 : FieldT Try.prog 53 1 1 3 := ⟨_, _, Try.underlying53, rfl, rfl, rfl⟩
end
end Go.Proofs.Ytjmkjlhnipnkcaa.Sy
