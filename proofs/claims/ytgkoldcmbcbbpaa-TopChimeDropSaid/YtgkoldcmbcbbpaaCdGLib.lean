/- What functions of the program compute, and that they do: printed by symgen.py. -/
import Derived.Test.YtgkoldcmbcbbpaaCdSymZJ
import Derived.Test.YtgkoldcmbcbbpaaProg
import Derived.Test.YtgkoldcmbcbbpaaCdCmpCh
set_option linter.unusedSimpArgs false
set_option linter.unusedVariables false
namespace Go.Proofs.Ytgkoldcmbcbbpaa.Sy
open Go.RowKit
noncomputable section
abbrev vi (x : Int) : AV := .val (.int .i64 x)
abbrev LT := List (Int × Int × Int × Int × Int)
abbrev LW := List (Int × Int × Int × Int)
abbrev LL := List ((List Int))
abbrev vb (x : Bool) : AV := .val (.bool x)
abbrev vu (x : Int) : AV := .val (.int .u16 x)
section
variable {P : Program} {c : Ctx} {sz : Fm} {Q : Exit → Act → World → Prop} {t : List Item} {s : List (Nat × AV)} {V : List NEnt} {ops : Array Oper} {rest : List Oper} {o : Oper}
theorem q0 {v : AV} {news : List NEnt} {d : Nat} (hs : OpSpec P o (rho s) [] v news) (k : TL P c sz Q ops rest t ((d, v) :: s) (news ++ V)) (hd : o.dst = some d := by exact rfl) (hw : Wanted ops s o := by exact trivial) (hlt : Nat.blt d sz.sz = true := by exact rfl) (hf : freshN news s V = true := by exact rfl) : TL P c sz Q ops (o :: rest) t s V := op0 hs hd hw hlt hf k
theorem q1 {v : AV} {news : List NEnt} {d : Nat} {y : NEnt} (i : Nat) (hy : V[i]? = some y) (hs : OpSpec P o (rho s) [y] v news) (k : TL P c sz Q ops rest t ((d, v) :: s) (news ++ V)) (hd : o.dst = some d := by exact rfl) (hw : Wanted ops s o := by exact trivial) (hlt : Nat.blt d sz.sz = true := by exact rfl) (hf : freshN news s V = true := by exact rfl) : TL P c sz Q ops (o :: rest) t s V := op1 i hy hs hd hw hlt hf k
theorem q2 {v : AV} {news : List NEnt} {d : Nat} {y : NEnt} (i : Nat) (hy : V[i]? = some y) (hs : OpSpec P o (rho s) [y] v news) (k : TL P c sz Q ops rest t ((d, v) :: s) (news ++ V)) (hd : o.dst = some d := by exact rfl) (hw : Wanted ops s o := by exact ⟨_, rfl, rfl⟩) (hlt : Nat.blt d sz.sz = true := by exact rfl) (hf : freshN news s V = true := by exact rfl) : TL P c sz Q ops (o :: rest) t s V := op1 i hy hs hd hw hlt hf k
theorem q3 {v : AV} {news : List NEnt} {d : Nat} (hs : OpSpec P o (rho s) [] v news) (k : TL P c sz Q ops rest t ((d, v) :: s) (news ++ V)) (hd : o.dst = some d := by exact rfl) (hw : Wanted ops s o := by exact ⟨_, rfl, rfl⟩) (hlt : Nat.blt d sz.sz = true := by exact rfl) (hf : freshN news s V = true := by exact rfl) : TL P c sz Q ops (o :: rest) t s V := op0 hs hd hw hlt hf k
theorem qs {d : Nat} (k : TL P c sz Q ops rest t ((d, .val undef) :: s) V) (hd : o.dst = some d := by exact rfl) (hw : Unwanted ops s o := by exact ⟨_, rfl, .inl rfl⟩) (hlt : Nat.blt d sz.sz = true := by exact rfl) : TL P c sz Q ops (o :: rest) t s V := opSkip hd hw hlt k
theorem qa {d : Nat} {x : Operand} {v : AV} (k : TL P c sz Q ops rest t ((d, v) :: s) V) (hd : o.dst = some d := by exact rfl) (ho : o.op = .assign x := by exact rfl) (hx : rho s x = some v := by exact rfl) (hw : Wanted ops s o := by exact trivial) (hlt : Nat.blt d sz.sz = true := by exact rfl) (hf : freshN [] s V = true := by exact rfl) : TL P c sz Q ops (o :: rest) t s V := op0 (sp_assign ho hx) hd hw hlt hf k
theorem tr {x : List Oper} {y : Code} {id : Nat} (h : TL P c sz Q x.toArray x (.code y :: t) s V) : TC P c sz Q (.code (.seq (.region id x.toArray false) y) :: t) s V := TC.seq (TC.region h)
theorem qm {d : Nat} {x : Operand} {v : AV} (k : TL P c sz Q ops rest t ((d, v) :: s) V) (hd : o.dst = some d := by exact rfl) (ho : o.op = .move x := by exact rfl) (hx : rho s x = some v := by exact rfl) (hw : Wanted ops s o := by exact trivial) (hlt : Nat.blt d sz.sz = true := by exact rfl) (hf : freshN [] s V = true := by exact rfl) : TL P c sz Q ops (o :: rest) t s V := op0 (sp_move ho hx) hd hw hlt hf k
end
section
variable {P : Program} {s : List (Nat × AV)} {o : Oper} {ops : Array Oper} {V : List NEnt} {outs : List DO} {i : Nat} {l : List Oper} {d : DO} {ds : List DO}
theorem dp2 (ps : List (Option Nat × Nat)) (hs : OpSpec P o (rho s) d.need d.v d.news) (hn : From ops outs V i ps d.need) (h : DAll P ops outs V (i + 1) l ds (putS o d.v s)) (hw : Wanted ops s o := by exact trivial) (ht : d.take = [] := by exact rfl) : DAll P ops outs V i (o :: l) (d :: ds) s := .op' hs hw ht (From.ok hn) h
theorem dp0 (hs : OpSpec P o (rho s) d.need d.v d.news) (h : DAll P ops outs V (i + 1) l ds (putS o d.v s)) (hw : Wanted ops s o := by exact trivial) (ht : d.take = [] := by exact rfl) (hn : From ops outs V i [] d.need := by exact trivial) : DAll P ops outs V i (o :: l) (d :: ds) s := .op' hs hw ht (From.ok hn) h
theorem dp1 (k : Nat) (hs : OpSpec P o (rho s) d.need d.v d.news) (h : DAll P ops outs V (i + 1) l ds (putS o d.v s)) (hw : Wanted ops s o := by exact trivial) (ht : d.take = [] := by exact rfl) (hn : From ops outs V i [(none, k)] d.need := by exact ⟨⟨rfl, rfl⟩, trivial⟩) : DAll P ops outs V i (o :: l) (d :: ds) s := .op' hs hw ht (From.ok hn) h
theorem dq2 (ps : List (Option Nat × Nat)) (hs : OpSpec P o (rho s) d.need d.v d.news) (hn : From ops outs V i ps d.need) (h : DAll P ops outs V (i + 1) l ds (putS o d.v s)) (hw : Wanted ops s o := by exact ⟨_, rfl, rfl⟩) (ht : d.take = [] := by exact rfl) : DAll P ops outs V i (o :: l) (d :: ds) s := .op' hs hw ht (From.ok hn) h
theorem dq0 (hs : OpSpec P o (rho s) d.need d.v d.news) (h : DAll P ops outs V (i + 1) l ds (putS o d.v s)) (hw : Wanted ops s o := by exact ⟨_, rfl, rfl⟩) (ht : d.take = [] := by exact rfl) (hn : From ops outs V i [] d.need := by exact trivial) : DAll P ops outs V i (o :: l) (d :: ds) s := .op' hs hw ht (From.ok hn) h
theorem dq1 (k : Nat) (hs : OpSpec P o (rho s) d.need d.v d.news) (h : DAll P ops outs V (i + 1) l ds (putS o d.v s)) (hw : Wanted ops s o := by exact ⟨_, rfl, rfl⟩) (ht : d.take = [] := by exact rfl) (hn : From ops outs V i [(none, k)] d.need := by exact ⟨⟨rfl, rfl⟩, trivial⟩) : DAll P ops outs V i (o :: l) (d :: ds) s := .op' hs hw ht (From.ok hn) h
end
set_option maxRecDepth 100000
set_option maxHeartbeats 2000000
def en_uint8 : Int → List D := fun x => [D.v (.int .u8 x)]
theorem vt116 : VarT Try.prog 116 6 true := ⟨Try.isAgg116, Try.sizeOf116⟩
def en_int : Int → List D := fun x => [D.v (.int .i64 x)]
theorem en_int_flat : ∀ a, ∀ d ∈ en_int a, ∃ x, d = D.v x := by
  intro a d h;simp only [en_int, List.mem_cons, List.not_mem_nil, or_false] at h;rcases h with rfl <;> exact ⟨_, rfl⟩
def en_api_ChimeHammer : Int × Int → List D := fun x => [D.v (.int .i64 x.1), D.v (.int .i64 x.2)]
theorem en_api_ChimeHammer_flat : ∀ a, ∀ d ∈ en_api_ChimeHammer a, ∃ x, d = D.v x := by
  intro a d h;simp only [en_api_ChimeHammer, List.mem_cons, List.not_mem_nil, or_false] at h;rcases h with rfl | rfl <;> exact ⟨_, rfl⟩
def en_api_ChimePin : Int × Int → List D := fun x => [D.v (.int .i64 x.1), D.v (.int .i64 x.2)]
theorem bt264 : ∀ parts, Try.prog.built 264 parts = Instr.fill (fun i => some (i * 1, 1)) (AV.denL (fun _ => undef) [vi 0, vi 0, vi 0, vi 0, vi 0, vi 0]).toArray parts := fun _ => by kernel_rfl
theorem vt5 : VarT Try.prog 5 1 false := ⟨Try.isAgg5, Try.sizeOf5⟩
theorem vt3 : VarT Try.prog 3 1 false := ⟨Try.isAgg3, Try.sizeOf3⟩
theorem bt266 : ∀ parts, Try.prog.built 266 parts = Instr.fill (fun i => (#[(0, 1), (1, 1)] : Array (Nat × Nat))[i]?) (AV.denL (fun _ => undef) [vi 0, vi 0]).toArray parts := fun _ => by kernel_rfl
theorem sl133 : SlT Try.prog 133 266 2 16 := ⟨Try.underlying133, ⟨Try.t266, _, by kernel_rfl, rfl, rfl, rfl, rfl⟩, by decide⟩
theorem bt136 : ∀ parts, Try.prog.built 136 parts = Instr.fill (fun i => (#[(0, 1), (1, 1), (2, 1), (3, 1), (4, 1), (5, 1)] : Array (Nat × Nat))[i]?) (AV.denL (fun _ => undef) [vi 0, vi 0, .val (.slice none 0 0), vi 0, .val (.slice none 0 0), .val (.slice none 0 0)]).toArray parts := fun _ => by kernel_rfl
theorem vt136 : VarT Try.prog 136 6 true := ⟨Try.isAgg136, Try.sizeOf136⟩
theorem ft136_1 : FieldT Try.prog 136 1 1 3 := ⟨_, _, Try.underlying136, rfl, rfl, rfl⟩
theorem ft136_0 : FieldT Try.prog 136 0 0 3 := ⟨_, _, Try.underlying136, rfl, rfl, rfl⟩
theorem ft136_2 : FieldT Try.prog 136 2 2 50 := ⟨_, _, Try.underlying136, rfl, rfl, rfl⟩
theorem vt50 : VarT Try.prog 50 1 false := ⟨Try.isAgg50, Try.sizeOf50⟩
def ax_uint8 : Int → List AV := fun x => [.val (.int .u8 x)]
theorem sl50 : SlT Try.prog 50 3 1 8 := ⟨Try.underlying50, ⟨Try.t3, _, by kernel_rfl, rfl, rfl, rfl, rfl⟩, by decide⟩
def mk267 : Int → Value := fun k => .int .i64 k
theorem km267 : MKey Try.prog 267 3 4 mk267 := mkey_int Try.underlying267 Try.underlying3
def en_bool : Bool → List D := fun x => [D.v (.bool x)]
theorem sl132 : SlT Try.prog 132 5 1 1 := ⟨Try.underlying132, ⟨Try.t5, _, by kernel_rfl, rfl, rfl, rfl, rfl⟩, by decide⟩
theorem ft136_5 : FieldT Try.prog 136 5 5 134 := ⟨_, _, Try.underlying136, rfl, rfl, rfl⟩
theorem vt134 : VarT Try.prog 134 1 false := ⟨Try.isAgg134, Try.sizeOf134⟩
theorem bt269 : ∀ parts, Try.prog.built 269 parts = Instr.fill (fun i => (#[(0, 1), (1, 1)] : Array (Nat × Nat))[i]?) (AV.denL (fun _ => undef) [vi 0, vi 0]).toArray parts := fun _ => by kernel_rfl
theorem sl134 : SlT Try.prog 134 269 2 16 := ⟨Try.underlying134, ⟨Try.t269, _, by kernel_rfl, rfl, rfl, rfl, rfl⟩, by decide⟩
theorem bt42 : ∀ parts, Try.prog.built 42 parts = Instr.fill (fun i => (#[(0, 1), (1, 1)] : Array (Nat × Nat))[i]?) (AV.denL (fun _ => undef) [vi 0, .val (.slice none 0 0)]).toArray parts := fun _ => by kernel_rfl
theorem vt42 : VarT Try.prog 42 2 true := ⟨Try.isAgg42, Try.sizeOf42⟩
def en_api_Span : Int × Int → List D := fun x => [D.v (.int .i64 x.1), D.v (.int .i64 x.2)]
def en_api_ChimeBlow : Int × Int → List D := fun x => [D.v (.int .i64 x.1), D.v (.int .i64 x.2)]
theorem en_api_ChimeBlow_flat : ∀ a, ∀ d ∈ en_api_ChimeBlow a, ∃ x, d = D.v x := by
  intro a d h;simp only [en_api_ChimeBlow, List.mem_cons, List.not_mem_nil, or_false] at h;rcases h with rfl | rfl <;> exact ⟨_, rfl⟩
theorem bt271 : ∀ parts, Try.prog.built 271 parts = Instr.fill (fun i => (#[(0, 6)] : Array (Nat × Nat))[i]?) (AV.denL (fun _ => undef) [vi 0, vi 0, .val (.slice none 0 0), vi 0, .val (.slice none 0 0), .val (.slice none 0 0)]).toArray parts := fun _ => by kernel_rfl
theorem vt271 : VarT Try.prog 271 6 true := ⟨Try.isAgg271, Try.sizeOf271⟩
theorem ft271_0 : FieldT Try.prog 271 0 0 136 := ⟨_, _, Try.underlying271, rfl, rfl, rfl⟩
def fe_funcint_bool : Int → List AV := fun a => [vi a]
def fd_funcint_bool : Bool → AV := fun b => vb b
theorem ft136_3 : FieldT Try.prog 136 3 3 3 := ⟨_, _, Try.underlying136, rfl, rfl, rfl⟩
def fe_funcapi_ChimePin_bool : Int × Int → List AV := fun a => [.agg [vi a.1, vi a.2]]
def fd_funcapi_ChimePin_bool : Bool → AV := fun b => vb b
theorem vt269 : VarT Try.prog 269 2 true := ⟨Try.isAgg269, Try.sizeOf269⟩
theorem ft136_4 : FieldT Try.prog 136 4 4 133 := ⟨_, _, Try.underlying136, rfl, rfl, rfl⟩
theorem vt133 : VarT Try.prog 133 1 false := ⟨Try.isAgg133, Try.sizeOf133⟩
theorem ft269_0 : FieldT Try.prog 269 0 0 3 := ⟨_, _, Try.underlying269, rfl, rfl, rfl⟩
theorem ft269_1 : FieldT Try.prog 269 1 1 3 := ⟨_, _, Try.underlying269, rfl, rfl, rfl⟩
def mk513 : Int × Int → Value := fun k => .agg #[.int .i64 k.1, .int .i64 k.2]
theorem kc513 (b : Bool) (k : Int × Int) (w : World) (n : Nat) : (Instr.checkKey b (n + 2) 269 (mk513 k)).run Try.prog w = .ok () w := by
  simp [mk513, Instr.checkKey, go_sem, Try.underlying269, Try.underlying3, Try.isAgg269, Try.isAgg3, Try.sizeOf269, Try.sizeOf3, Try.stoodInHeld269]
theorem eq269 (a0 : Int) (a1 : Int) (b0 : Int) (b1 : Int) : EqT Try.prog 269 [.int .i64 a0, .int .i64 a1] [.int .i64 b0, .int .i64 b1] (((a0 == b0) && (a1 == b1))) := ⟨Try.eqGuardType269, fun w => by
  simp [go_sem, Try.underlying269, Try.underlying3, Try.isAgg269, Try.isAgg3, Try.sizeOf269, Try.sizeOf3, Try.stoodInHeld269]
  (repeat' split) <;> simp_all⟩
theorem kq513 (k k' : Int × Int) (w : World) : (Op.equal 269 (mk513 k) (mk513 k')).run Try.prog w = .ok (k == k') w := by
  have h := (eq269 (k.1) (k.2) ((k').1) ((k').2)).2 w;show (Op.equalIn 10000 269 _ _).run Try.prog w = _;simp only [mk513];exact h
theorem km513 : MKey Try.prog 513 269 4 mk513 := mkey_agg2 Try.underlying513 Try.underlying269 (fun k es i => findNow_struct k es i) (fun b k w => kc513 b k w 9998) kq513 (fun k => by simp [mk513, Instr.sameBits])
def fe_funcapi_ChimeHammer_bool : Int × Int → List AV := fun a => [.agg [vi a.1, vi a.2]]
def fd_funcapi_ChimeHammer_bool : Bool → AV := fun b => vb b
theorem vt266 : VarT Try.prog 266 2 true := ⟨Try.isAgg266, Try.sizeOf266⟩
theorem ft266_0 : FieldT Try.prog 266 0 0 3 := ⟨_, _, Try.underlying266, rfl, rfl, rfl⟩
theorem ft266_1 : FieldT Try.prog 266 1 1 3 := ⟨_, _, Try.underlying266, rfl, rfl, rfl⟩
theorem vt273 : VarT Try.prog 273 9 true := ⟨Try.isAgg273, Try.sizeOf273⟩
theorem bt273 : ∀ parts, Try.prog.built 273 parts = Instr.fill (fun i => (#[(0, 6), (6, 1), (7, 1), (8, 1)] : Array (Nat × Nat))[i]?) (AV.denL (fun _ => undef) [vi 0, vi 0, .val (.slice none 0 0), vi 0, .val (.slice none 0 0), .val (.slice none 0 0), vi 0, vi 0, vi 0]).toArray parts := fun _ => by kernel_rfl
def en_chime_strike : Int × Int × Int → List D := fun x => [D.v (.int .i64 x.1), D.v (.int .i64 x.2.1), D.v (.int .i64 x.2.2)]
def ye_funcchime_strike_bool : Int × Int × Int → List AV := fun a => [.agg [vi a.1, vi a.2.1, vi a.2.2]]
def yn_funcchime_strike_bool : Int × Int × Int → List NEnt := fun a => []
theorem ft273_0 : FieldT Try.prog 273 0 0 271 := ⟨_, _, Try.underlying273, rfl, rfl, rfl⟩
theorem ft273_2 : FieldT Try.prog 273 2 7 3 := ⟨_, _, Try.underlying273, rfl, rfl, rfl⟩
theorem ft273_1 : FieldT Try.prog 273 1 6 3 := ⟨_, _, Try.underlying273, rfl, rfl, rfl⟩
theorem ft273_3 : FieldT Try.prog 273 3 8 3 := ⟨_, _, Try.underlying273, rfl, rfl, rfl⟩
theorem bt201 : ∀ parts, Try.prog.built 201 parts = Instr.fill (fun i => (#[(0, 1), (1, 1)] : Array (Nat × Nat))[i]?) (AV.denL (fun _ => undef) [vi 0, vi 0]).toArray parts := fun _ => by kernel_rfl
theorem bt402 : ∀ parts, Try.prog.built 402 parts = Instr.fill (fun i => (#[(0, 2), (2, 1)] : Array (Nat × Nat))[i]?) (AV.denL (fun _ => undef) [vi 0, vi 0, vi 0]).toArray parts := fun _ => by kernel_rfl
theorem vt402 : VarT Try.prog 402 3 true := ⟨Try.isAgg402, Try.sizeOf402⟩
theorem vt399 : VarT Try.prog 399 1 false := ⟨Try.isAgg399, Try.sizeOf399⟩
theorem sl399 : SlT Try.prog 399 402 3 24 := ⟨Try.underlying399, ⟨Try.t402, _, by kernel_rfl, rfl, rfl, rfl, rfl⟩, by decide⟩
theorem ft402_0 : FieldT Try.prog 402 0 0 201 := ⟨_, _, Try.underlying402, rfl, rfl, rfl⟩
theorem vt201 : VarT Try.prog 201 2 true := ⟨Try.isAgg201, Try.sizeOf201⟩
theorem sl138 : SlT Try.prog 138 201 2 16 := ⟨Try.underlying138, ⟨Try.t201, _, by kernel_rfl, rfl, rfl, rfl, rfl⟩, by decide⟩
theorem ft42_1 : FieldT Try.prog 42 1 1 39 := ⟨_, _, Try.underlying42, rfl, rfl, rfl⟩
theorem vt39 : VarT Try.prog 39 1 false := ⟨Try.isAgg39, Try.sizeOf39⟩
theorem bt34 : ∀ parts, Try.prog.built 34 parts = Instr.fill (fun i => (#[(0, 1), (1, 1)] : Array (Nat × Nat))[i]?) (AV.denL (fun _ => undef) [vi 0, vi 0]).toArray parts := fun _ => by kernel_rfl
theorem vt34 : VarT Try.prog 34 2 true := ⟨Try.isAgg34, Try.sizeOf34⟩
theorem sl39 : SlT Try.prog 39 34 2 16 := ⟨Try.underlying39, ⟨Try.t34, _, by kernel_rfl, rfl, rfl, rfl, rfl⟩, by decide⟩
theorem ft42_0 : FieldT Try.prog 42 0 0 3 := ⟨_, _, Try.underlying42, rfl, rfl, rfl⟩
def fe_funcapi_Span_bool : Int × Int → List AV := fun a => [.agg [vi a.1, vi a.2]]
def fd_funcapi_Span_bool : Bool → AV := fun b => vb b
theorem ft34_0 : FieldT Try.prog 34 0 0 3 := ⟨_, _, Try.underlying34, rfl, rfl, rfl⟩
theorem ft34_1 : FieldT Try.prog 34 1 1 3 := ⟨_, _, Try.underlying34, rfl, rfl, rfl⟩
theorem bt186 : ∀ parts, Try.prog.built 186 parts = Instr.fill (fun i => (#[(0, 2), (2, 1)] : Array (Nat × Nat))[i]?) (AV.denL (fun _ => undef) [vi 0, .val (.slice none 0 0), .val (.slice none 0 0)]).toArray parts := fun _ => by kernel_rfl
theorem vt186 : VarT Try.prog 186 3 true := ⟨Try.isAgg186, Try.sizeOf186⟩
def fe_funcapi_Span_int : Int × Int → List AV := fun a => [.agg [vi a.1, vi a.2]]
def fd_funcapi_Span_int : Int → AV := fun b => vi b
def en_api_DropVisit : Int × Int × Int × Int → List D := fun x => [D.v (.int .i64 x.1), D.v (.int .i64 x.2.1), D.v (.int .i64 x.2.2.1), D.v (.int .i64 x.2.2.2)]
theorem ft186_0 : FieldT Try.prog 186 0 0 42 := ⟨_, _, Try.underlying186, rfl, rfl, rfl⟩
theorem eq34 (a0 : Int) (a1 : Int) (b0 : Int) (b1 : Int) : EqT Try.prog 34 [.int .i64 a0, .int .i64 a1] [.int .i64 b0, .int .i64 b1] (((a0 == b0) && (a1 == b1))) := ⟨Try.eqGuardType34, fun w => by
  simp [go_sem, Try.underlying34, Try.underlying3, Try.isAgg34, Try.isAgg3, Try.sizeOf34, Try.sizeOf3, Try.stoodInHeld34]
  (repeat' split) <;> simp_all⟩
theorem bt63 : ∀ parts, Try.prog.built 63 parts = Instr.fill (fun i => (#[(0, 1), (1, 2)] : Array (Nat × Nat))[i]?) (AV.denL (fun _ => undef) [vi 0, vi 0, vi 0]).toArray parts := fun _ => by kernel_rfl
def en_api_ChimeCam : Int × Int × Int → List D := fun x => [D.v (.int .i64 x.1), D.v (.int .i64 x.2.1), D.v (.int .i64 x.2.2)]
theorem sl64 : SlT Try.prog 64 63 3 24 := ⟨Try.underlying64, ⟨Try.t63, _, by kernel_rfl, rfl, rfl, rfl, rfl⟩, by decide⟩
def fe_funcapi_ChimeCam_bool : Int × Int × Int → List AV := fun a => [.agg [vi a.1, vi a.2.1, vi a.2.2]]
def fd_funcapi_ChimeCam_bool : Bool → AV := fun b => vb b
theorem vt63 : VarT Try.prog 63 3 true := ⟨Try.isAgg63, Try.sizeOf63⟩
theorem bt197 : ∀ parts, Try.prog.built 197 parts = Instr.fill (fun i => (#[(0, 3)] : Array (Nat × Nat))[i]?) (AV.denL (fun _ => undef) [vi 0, vi 0, vi 0]).toArray parts := fun _ => by kernel_rfl
theorem ft197_0 : FieldT Try.prog 197 0 0 63 := ⟨_, _, Try.underlying197, rfl, rfl, rfl⟩
theorem ft63_0 : FieldT Try.prog 63 0 0 3 := ⟨_, _, Try.underlying63, rfl, rfl, rfl⟩
theorem ft63_1 : FieldT Try.prog 63 1 1 34 := ⟨_, _, Try.underlying63, rfl, rfl, rfl⟩
theorem bt203 : ∀ parts, Try.prog.built 203 parts = Instr.fill (fun i => (#[(0, 1), (1, 1)] : Array (Nat × Nat))[i]?) (AV.denL (fun _ => undef) [vi 0, .val (.slice none 0 0)]).toArray parts := fun _ => by kernel_rfl
theorem vt203 : VarT Try.prog 203 2 true := ⟨Try.isAgg203, Try.sizeOf203⟩
theorem bt333 : ∀ parts, Try.prog.built 333 parts = Instr.fill (fun i => (#[(0, 2), (2, 1)] : Array (Nat × Nat))[i]?) (AV.denL (fun _ => undef) [vi 0, .val (.slice none 0 0), vi 0]).toArray parts := fun _ => by kernel_rfl
theorem vt333 : VarT Try.prog 333 3 true := ⟨Try.isAgg333, Try.sizeOf333⟩
theorem ft333_0 : FieldT Try.prog 333 0 0 203 := ⟨_, _, Try.underlying333, rfl, rfl, rfl⟩
theorem ft203_0 : FieldT Try.prog 203 0 0 3 := ⟨_, _, Try.underlying203, rfl, rfl, rfl⟩
theorem ft203_1 : FieldT Try.prog 203 1 1 138 := ⟨_, _, Try.underlying203, rfl, rfl, rfl⟩
theorem vt138 : VarT Try.prog 138 1 false := ⟨Try.isAgg138, Try.sizeOf138⟩
def fe_funcapi_ChimeBlow_bool : Int × Int → List AV := fun a => [.agg [vi a.1, vi a.2]]
def fd_funcapi_ChimeBlow_bool : Bool → AV := fun b => vb b
theorem ft201_0 : FieldT Try.prog 201 0 0 3 := ⟨_, _, Try.underlying201, rfl, rfl, rfl⟩
theorem ft201_1 : FieldT Try.prog 201 1 1 3 := ⟨_, _, Try.underlying201, rfl, rfl, rfl⟩
def mk494 : Int × Int → Value := fun k => .agg #[.int .i64 k.1, .int .i64 k.2]
theorem kc494 (b : Bool) (k : Int × Int) (w : World) (n : Nat) : (Instr.checkKey b (n + 2) 201 (mk494 k)).run Try.prog w = .ok () w := by
  simp [mk494, Instr.checkKey, go_sem, Try.underlying201, Try.underlying3, Try.isAgg201, Try.isAgg3, Try.sizeOf201, Try.sizeOf3, Try.stoodInHeld201]
theorem eq201 (a0 : Int) (a1 : Int) (b0 : Int) (b1 : Int) : EqT Try.prog 201 [.int .i64 a0, .int .i64 a1] [.int .i64 b0, .int .i64 b1] (((a0 == b0) && (a1 == b1))) := ⟨Try.eqGuardType201, fun w => by
  simp [go_sem, Try.underlying201, Try.underlying3, Try.isAgg201, Try.isAgg3, Try.sizeOf201, Try.sizeOf3, Try.stoodInHeld201]
  (repeat' split) <;> simp_all⟩
theorem kq494 (k k' : Int × Int) (w : World) : (Op.equal 201 (mk494 k) (mk494 k')).run Try.prog w = .ok (k == k') w := by
  have h := (eq201 (k.1) (k.2) ((k').1) ((k').2)).2 w;show (Op.equalIn 10000 201 _ _).run Try.prog w = _;simp only [mk494];exact h
theorem km494 : MKey Try.prog 494 201 4 mk494 := mkey_agg2 Try.underlying494 Try.underlying201 (fun k es i => findNow_struct k es i) (fun b k w => kc494 b k w 9998) kq494 (fun k => by simp [mk494, Instr.sameBits])
def mk424 : Int → Value := fun k => .int .i64 k
theorem km424 : MKey Try.prog 424 3 50 mk424 := mkey_int Try.underlying424 Try.underlying3
def kl424 : Int → Int → Bool := fun a b => decide (a < b)
def en_Lint : (List Int) → List D := fun x => [D.s 1 (List.map en_int x)]
theorem ft333_1 : FieldT Try.prog 333 1 2 3 := ⟨_, _, Try.underlying333, rfl, rfl, rfl⟩
theorem vt335 : VarT Try.prog 335 16 true := ⟨Try.isAgg335, Try.sizeOf335⟩
theorem bt428 : ∀ parts, Try.prog.built 428 parts = Instr.fill (fun i => (#[(0, 3), (3, 1), (4, 1)] : Array (Nat × Nat))[i]?) (AV.denL (fun _ => undef) [vi 0, .val (.slice none 0 0), vi 0, .val (.slice none 0 0), .val (.slice none 0 0)]).toArray parts := fun _ => by kernel_rfl
def vx_int : Int → List Value := fun x => [.int .i64 x]
theorem ft428_2 : FieldT Try.prog 428 2 4 50 := ⟨_, _, Try.underlying428, rfl, rfl, rfl⟩
theorem ft428_1 : FieldT Try.prog 428 1 3 50 := ⟨_, _, Try.underlying428, rfl, rfl, rfl⟩
theorem ft428_0 : FieldT Try.prog 428 0 0 333 := ⟨_, _, Try.underlying428, rfl, rfl, rfl⟩
theorem vt338 : VarT Try.prog 338 16 true := ⟨Try.isAgg338, Try.sizeOf338⟩
def ev_top_armRing_j2 (n : Nat) (l32 : List Int) (i31 : Int) (i36 : Int) (l39 : List (Int × Bool)) (l45 : List (Int × Int)) (i33 : Int) (i34 : Int) (i35 : Int) (i37 : Int) (i38 : Int) (l40 : List Int) (l41 : List (Int × Int)) (l42 : List (Int × Int)) (l43 : List Int) (l44 : List (Int × Int)) (k_top_armRing_l1 : Int → (List Int) → Int → Int → Int → Int → Int → Int → (List (Int × Bool)) → (List Int) → (List (Int × Int)) → (List (Int × Int)) → (List Int) → (List (Int × Int)) → (List (Int × Int)) → Option (Int × Int × (List Int) × Int × (List (Int × Int)) × (List (Int × Int)))) : Option (Int × Int × (List Int) × Int × (List (Int × Int)) × (List (Int × Int))) :=
  idx l32 i31 fun x46 => chk (in64 x46) <| chk (i36 != 0) <| cond (!((mlook l39 (Int.tmod x46 i36)).getD false)) (chk (room 16 (l45.length + ([(0, (Int.tmod x46 i36))] : List (Int × Int)).length)) <| chk (in64 (i31 + 1)) <| k_top_armRing_l1 (i31 + 1) l32 i33 i34 i35 i36 i37 i38 (mput l39 (Int.tmod x46 i36) true) l40 l41 l42 l43 l44 (l45 ++ ([(0, (Int.tmod x46 i36))] : List (Int × Int)))) (chk (in64 (i31 + 1)) <| k_top_armRing_l1 (i31 + 1) l32 i33 i34 i35 i36 i37 i38 l39 l40 l41 l42 l43 l44 l45)
theorem ok_top_armRing_j2 {n : Nat} {w0 : World} {R0 : Nat → Prop} {env0 : Env} {r : Int × Int × (List Int) × Int × (List (Int × Int)) × (List (Int × Int))} {l32 : List Int} {i31 : Int} {i36 : Int} {l39 : List (Int × Bool)} {l45 : List (Int × Int)} {i33 : Int} {i34 : Int} {i35 : Int} {i37 : Int} {i38 : Int} {l40 : List Int} {l41 : List (Int × Int)} {l42 : List (Int × Int)} {l43 : List Int} {l44 : List (Int × Int)} {k_top_armRing_l1 : Int → (List Int) → Int → Int → Int → Int → Int → Int → (List (Int × Bool)) → (List Int) → (List (Int × Int)) → (List (Int × Int)) → (List Int) → (List (Int × Int)) → (List (Int × Int)) → Option (Int × Int × (List Int) × Int × (List (Int × Int)) × (List (Int × Int)))} (hk_top_armRing_l1 : ∀ (i31 : Int) (l32 : List Int) (i33 : Int) (i34 : Int) (i35 : Int) (i36 : Int) (i37 : Int) (i38 : Int) (l39 : List (Int × Bool)) (l40 : List Int) (l41 : List (Int × Int)) (l42 : List (Int × Int)) (l43 : List Int) (l44 : List (Int × Int)) (l45 : List (Int × Int)), k_top_armRing_l1 i31 l32 i33 i34 i35 i36 i37 i38 l39 l40 l41 l42 l43 l44 l45 = some r → TC Try.prog ⟨w0, fun _ => False, R0⟩ 76 (bodyPost Try.prog Try.f48 (Post ⟨w0, fun _ => False, R0⟩ env0 (.agg [vi r.1, vi r.2.1, .ref 0, vi r.2.2.2.1, .ref 1, .ref 2]) [.row 0 3 1 (List.map en_int r.2.2.1), .row 1 266 2 (List.map en_api_ChimeHammer r.2.2.2.2.1), .row 2 269 2 (List.map en_api_ChimePin r.2.2.2.2.2)])) [.code (sub (bodyOf Try.f48) [1, 1, 1, 1, 1, 0, 1, 0, 0, 0, 0]), .code (sub (bodyOf Try.f48) [1, 1, 1, 1, 1, 0, 1, 0, 0, 0, 1]), .code (sub (bodyOf Try.f48) [1, 1, 1, 1, 1, 0, 1, 0, 0, 1]), .inLoop (sub (bodyOf Try.f48) [1, 1, 1, 1, 1, 0, 1, 0, 0]), .inBlock 2, .code (sub (bodyOf Try.f48) [1, 1, 1, 1, 1, 1])] ([(1, .ref 0), (4, .ptr 2 0), (5, .ptr 4 0), (7, .ref 12), (8, vi i31)]) ([.ro 0 1 (List.map en_uint8 l32), .blk 2 [vi i33, vi i34, .ref 5, vi i35, .ref 6, .ref 7] 136, .blk 4 [vi i36, vi i37, .ref 8, vi i38, .ref 3, .ref 9] 136, .inv 12 (mapI mk267 false en_bool l39), .row 5 3 1 (List.map en_int l40), .row 6 266 2 (List.map en_api_ChimeHammer l41), .row 7 269 2 (List.map en_api_ChimePin l42), .row 8 3 1 (List.map en_int l43), .row 3 266 2 (List.map en_api_ChimeHammer l44), .row 9 269 2 (List.map en_api_ChimePin l45)])) (h : ev_top_armRing_j2 n l32 i31 i36 l39 l45 i33 i34 i35 i37 i38 l40 l41 l42 l43 l44 k_top_armRing_l1 = some r) : TC Try.prog ⟨w0, fun _ => False, R0⟩ 76 (bodyPost Try.prog Try.f48 (Post ⟨w0, fun _ => False, R0⟩ env0 (.agg [vi r.1, vi r.2.1, .ref 0, vi r.2.2.2.1, .ref 1, .ref 2]) [.row 0 3 1 (List.map en_int r.2.2.1), .row 1 266 2 (List.map en_api_ChimeHammer r.2.2.2.2.1), .row 2 269 2 (List.map en_api_ChimePin r.2.2.2.2.2)])) [.code (sub (bodyOf Try.f48) [1, 1, 1, 1, 1, 0, 1, 0, 0, 0, 1, 0]), .code (sub (bodyOf Try.f48) [1, 1, 1, 1, 1, 0, 1, 0, 0, 1]), .inLoop (sub (bodyOf Try.f48) [1, 1, 1, 1, 1, 0, 1, 0, 0]), .inBlock 2, .code (sub (bodyOf Try.f48) [1, 1, 1, 1, 1, 1])] ([(1, .ref 0), (4, .ptr 2 0), (5, .ptr 4 0), (7, .ref 12), (8, vi i31)]) ([.ro 0 1 (List.map en_uint8 l32), .blk 2 [vi i33, vi i34, .ref 5, vi i35, .ref 6, .ref 7] 136, .blk 4 [vi i36, vi i37, .ref 8, vi i38, .ref 3, .ref 9] 136, .inv 12 (mapI mk267 false en_bool l39), .row 5 3 1 (List.map en_int l40), .row 6 266 2 (List.map en_api_ChimeHammer l41), .row 7 269 2 (List.map en_api_ChimePin l42), .row 8 3 1 (List.map en_int l43), .row 3 266 2 (List.map en_api_ChimeHammer l44), .row 9 269 2 (List.map en_api_ChimePin l45)]) := by
  rw [ev_top_armRing_j2] at h;refine TC.skip ?_;refine TC.seq ?_;refine TC.block ?_;refine TC.seq ?_;obtain ⟨x46, h17, h18, h⟩ := idx_inv h;obtain ⟨h19, h⟩ := chk_inv h;refine drawJ 7 [⟨.ref 0, [], [], []⟩, ⟨vi i31, [], [], []⟩, ⟨.cell 0 ((i31 : Int).toNat * 1), [], [.ro 0 1 (List.map en_uint8 l32)], []⟩, ⟨.val (.int .u8 x46), [], [.ro 0 1 (List.map en_uint8 l32)], []⟩, ⟨vi x46, [], [], []⟩, ⟨.ptr 4 0, [], [.blk 4 [vi i36, vi i37, .ref 8, vi i38, .ref 3, .ref 9] 136], []⟩, ⟨vi i36, [], [.blk 4 [vi i36, vi i37, .ref 8, vi i38, .ref 3, .ref 9] 136], []⟩] rfl ?_ rfl ?_ rfl ?_ ?_
  · kernel_rfl
  · kernel_rfl
  · exact dp0 (sp_move rfl rfl) (dp0 (sp_move rfl rfl) (dp1 0 (sp_indexS rfl rfl rfl isRo sl132 h17 (map_get _ h18)) (dp1 0 (sp_loadR (i := (i31 : Int).toNat) (j := 0) rfl rfl isRo vt5 rfl (map_get _ h18) rfl (.v (.nil)) (nodup_of_B rfl)) (dp0 (sp_conv rfl Try.underlying5 Try.underlying3 rfl h19) (dp1 2 (sp_fieldAddrB rfl isBlk rfl ft136_0 vt3 (by decide)) (dp1 2 (sp_loadB rfl isBlk rfl vt3 rfl) (.nil)))))))
  obtain ⟨h20, h⟩ := chk_inv h;refine q0 (sp_rem rfl rfl rfl h20) ?_;refine qa ?_;refine TL.nil ?_;refine tr ?_;refine qm ?_;refine qm ?_;refine q1 3 rfl (sp_lookup (cm := false) (v := .val (.bool ((mlook l39 (Int.tmod x46 i36)).getD false))) (ns := []) (Int.tmod x46 i36) false rfl rfl rfl (fun _ => rfl) isMapO km267 Try.zeroValue4 (fun W R => zok (ZL.v rfl (ZL.nil)) rfl rfl W R) (.v (.nil)) rfl rfl) ?_;refine q0 (sp_not rfl rfl) ?_;refine TL.nil ?_;refine TC.cond (b := (!((mlook l39 (Int.tmod x46 i36)).getD false))) rfl (fun h21 => ?_) (fun h21 => ?_)
  · have h := cond_t h h21;refine tr ?_;refine q1 2 rfl (sp_fieldAddrB rfl isBlk rfl ft136_5 vt134 (by decide)) ?_;refine q1 2 rfl (sp_loadB rfl isBlk rfl vt134 rfl) ?_;refine qm ?_;refine q0 (sp_build (qs := [(1, vi (Int.tmod x46 i36))]) rfl bt269 rfl rfl rfl rfl) ?_;refine q0 (sp_buildSlice (qs := [.agg [vi 0, vi (Int.tmod x46 i36)]]) (need := []) (els := List.map en_api_ChimePin ([(0, (Int.tmod x46 i36))] : List (Int × Int))) 13 rfl sl134 (by decide) (by decide) rfl rfl rfl (.v (.v (.nil))) (map_len fun _ => rfl) rfl rfl rfl) ?_;obtain ⟨h22, h⟩ := chk_inv h;refine appM 10 0 (N := l45.length) (N2 := ([(0, (Int.tmod x46 i36))] : List (Int × Int)).length) 14 rfl rfl trivial rfl rfl rfl rfl rfl isOwn rfl sl134 (len_map _ _) (len_map _ _) h22 (map_app _ _ _) rfl ?_;refine q1 4 rfl (sp_fieldAddrB rfl isBlk rfl ft136_5 vt134 (by decide)) ?_;refine stoB 4 (cells' := [vi i36, vi i37, .ref 8, vi i38, .ref 3, .ref 14]) rfl rfl trivial rfl rfl rfl rfl vt134 rfl rfl rfl ?_;refine TL.nil ?_;refine TC.region ?_;refine qm ?_;refine qm ?_;refine opT (take := [.inv 12 (mapI mk267 false en_bool l39)]) (need := []) (V' := [.inv 12 (mapI mk267 false en_bool (mput l39 (Int.tmod x46 i36) true)), .row 14 269 2 (List.map en_api_ChimePin (l45 ++ ([(0, (Int.tmod x46 i36))] : List (Int × Int)))), .row 13 269 2 (List.map en_api_ChimePin ([(0, (Int.tmod x46 i36))] : List (Int × Int))), .ro 0 1 (List.map en_uint8 l32), .blk 2 [vi i33, vi i34, .ref 5, vi i35, .ref 6, .ref 7] 136, .blk 4 [vi i36, vi i37, .ref 8, vi i38, .ref 3, .ref 14] 136, .row 5 3 1 (List.map en_int l40), .row 6 266 2 (List.map en_api_ChimeHammer l41), .row 7 269 2 (List.map en_api_ChimePin l42), .row 8 3 1 (List.map en_int l43), .row 3 266 2 (List.map en_api_ChimeHammer l44)]) [5] [] (ts_mapUpdate (need := []) (Int.tmod x46 i36) true rfl rfl rfl (fun _ => rfl) rfl rfl rfl (.v (.nil)) km267 (fun _ => .refl _)) trivial rfl ⟨rfl, trivial⟩ trivial rfl rfl ?_;refine TL.nil ?_;refine TC.inBlock ?_;refine TC.region ?_;refine qm ?_;obtain ⟨h23, h⟩ := chk_inv h;refine q0 (sp_add rfl rfl rfl h23) ?_;refine qa ?_;refine TL.nil ?_;refine TC.inLoop ?_;refine TC.seq ?_;refine TC.seq ?_;refine subJ [(9, 14)] (hk_top_armRing_l1 _ _ _ _ _ _ _ _ _ _ _ _ _ _ _ h) ?_ ?_ ?_
    · exact ⟨rfl, rfl, rfl, rfl, rfl, trivial⟩
    · exact ⟨mem_at 3 rfl, mem_at 4 rfl, mem_at 5 rfl, mem_at 0 rfl, mem_at 6 rfl, mem_at 7 rfl, mem_at 8 rfl, mem_at 9 rfl, mem_at 10 rfl, mem_at 1 rfl, trivial⟩
    · rfl
  · have h := cond_f h h21;refine TC.skip ?_;refine TC.inBlock ?_;refine TC.region ?_;refine qm ?_;obtain ⟨h24, h⟩ := chk_inv h;refine q0 (sp_add rfl rfl rfl h24) ?_;refine qa ?_;refine TL.nil ?_;refine TC.inLoop ?_;refine TC.seq ?_;refine TC.seq ?_;refine subJ [] (hk_top_armRing_l1 _ _ _ _ _ _ _ _ _ _ _ _ _ _ _ h) ?_ ?_ ?_
    · exact ⟨rfl, rfl, rfl, rfl, rfl, trivial⟩
    · exact ⟨mem_at 0 rfl, mem_at 1 rfl, mem_at 2 rfl, mem_at 3 rfl, mem_at 4 rfl, mem_at 5 rfl, mem_at 6 rfl, mem_at 7 rfl, mem_at 8 rfl, mem_at 9 rfl, trivial⟩
    · rfl
def ev_top_armRing_l1 (n : Nat) : Nat → Int → (List Int) → Int → Int → Int → Int → Int → Int → (List (Int × Bool)) → (List Int) → (List (Int × Int)) → (List (Int × Int)) → (List Int) → (List (Int × Int)) → (List (Int × Int)) → Option (Int × Int × (List Int) × Int × (List (Int × Int)) × (List (Int × Int)))
  | 0, _, _, _, _, _, _, _, _, _, _, _, _, _, _, _ => none
  | m + 1, i31, l32, i33, i34, i35, i36, i37, i38, l39, l40, l41, l42, l43, l44, l45 => cond (decide (i31 < (l32.length : Int))) (cond (decide (i31 < 20)) (ev_top_armRing_j2 n l32 i31 i36 l39 l45 i33 i34 i35 i37 i38 l40 l41 l42 l43 l44 (fun i31q l32q i33q i34q i35q i36q i37q i38q l39q l40q l41q l42q l43q l44q l45q => ev_top_armRing_l1 n m i31q l32q i33q i34q i35q i36q i37q i38q l39q l40q l41q l42q l43q l44q l45q)) (some (i36, i37, l43, i38, l44, l45))) (some (i36, i37, l43, i38, l44, l45))
theorem ok_top_armRing_l1 {n : Nat} {w0 : World} {R0 : Nat → Prop} {env0 : Env} {r : Int × Int × (List Int) × Int × (List (Int × Int)) × (List (Int × Int))} : ∀ (m : Nat) (i31 : Int) (l32 : List Int) (i33 : Int) (i34 : Int) (i35 : Int) (i36 : Int) (i37 : Int) (i38 : Int) (l39 : List (Int × Bool)) (l40 : List Int) (l41 : List (Int × Int)) (l42 : List (Int × Int)) (l43 : List Int) (l44 : List (Int × Int)) (l45 : List (Int × Int)), ev_top_armRing_l1 n m i31 l32 i33 i34 i35 i36 i37 i38 l39 l40 l41 l42 l43 l44 l45 = some r → TC Try.prog ⟨w0, fun _ => False, R0⟩ 76 (bodyPost Try.prog Try.f48 (Post ⟨w0, fun _ => False, R0⟩ env0 (.agg [vi r.1, vi r.2.1, .ref 0, vi r.2.2.2.1, .ref 1, .ref 2]) [.row 0 3 1 (List.map en_int r.2.2.1), .row 1 266 2 (List.map en_api_ChimeHammer r.2.2.2.2.1), .row 2 269 2 (List.map en_api_ChimePin r.2.2.2.2.2)])) [.code (sub (bodyOf Try.f48) [1, 1, 1, 1, 1, 0, 1, 0, 0, 0, 0]), .code (sub (bodyOf Try.f48) [1, 1, 1, 1, 1, 0, 1, 0, 0, 0, 1]), .code (sub (bodyOf Try.f48) [1, 1, 1, 1, 1, 0, 1, 0, 0, 1]), .inLoop (sub (bodyOf Try.f48) [1, 1, 1, 1, 1, 0, 1, 0, 0]), .inBlock 2, .code (sub (bodyOf Try.f48) [1, 1, 1, 1, 1, 1])] ([(1, .ref 0), (4, .ptr 2 0), (5, .ptr 4 0), (7, .ref 12), (8, vi i31)]) ([.ro 0 1 (List.map en_uint8 l32), .blk 2 [vi i33, vi i34, .ref 5, vi i35, .ref 6, .ref 7] 136, .blk 4 [vi i36, vi i37, .ref 8, vi i38, .ref 3, .ref 9] 136, .inv 12 (mapI mk267 false en_bool l39), .row 5 3 1 (List.map en_int l40), .row 6 266 2 (List.map en_api_ChimeHammer l41), .row 7 269 2 (List.map en_api_ChimePin l42), .row 8 3 1 (List.map en_int l43), .row 3 266 2 (List.map en_api_ChimeHammer l44), .row 9 269 2 (List.map en_api_ChimePin l45)]) := by
  intro m
  induction m with
  | zero => intro i31 l32 i33 i34 i35 i36 i37 i38 l39 l40 l41 l42 l43 l44 l45 h; exact none_no h
  | succ m ih =>
    intro i31 l32 i33 i34 i35 i36 i37 i38 l39 l40 l41 l42 l43 l44 l45 h;rw [ev_top_armRing_l1] at h;refine TC.region ?_;refine qm ?_;refine qm ?_;refine q1 0 rfl (sp_lenM (N := l32.length) (len_map _ _) rfl rfl isRo Try.underlying132) ?_;refine q0 (sp_lss rfl rfl rfl) ?_;refine qm ?_;rcases cond_cases h with ⟨h15, h⟩ | ⟨h15, h⟩
    · refine (boolLit 48 rfl h15).2 ?_;refine q3 (sp_move rfl rfl) ?_;refine q3 (sp_lss rfl rfl rfl) ?_;refine q0 (sp_pickT rfl rfl rfl) ?_;refine TL.nil ?_;refine TC.cond (b := (decide (i31 < 20))) rfl (fun h16 => ?_) (fun h16 => ?_)
      · have h := cond_t h h16;refine subJ [] (ok_top_armRing_j2 ih h) ?_ ?_ ?_
        · exact ⟨rfl, rfl, rfl, rfl, rfl, trivial⟩
        · exact ⟨mem_at 0 rfl, mem_at 1 rfl, mem_at 2 rfl, mem_at 3 rfl, mem_at 4 rfl, mem_at 5 rfl, mem_at 6 rfl, mem_at 7 rfl, mem_at 8 rfl, mem_at 9 rfl, trivial⟩
        · rfl
      · have h := cond_f h h16;refine TC.exit rfl ?_;refine tr ?_;refine q1 2 rfl (sp_loadBA rfl isBlk rfl vt136 rfl rfl) ?_;refine stoB 1 (cells' := [vi i36, vi i37, .ref 8, vi i38, .ref 3, .ref 9]) rfl rfl trivial rfl rfl rfl rfl vt136 rfl rfl rfl ?_;refine TL.nil ?_;cases h;exact retJ [(0, 8), (1, 3), (2, 9)] (.cells rfl (mem_at 1 rfl) isBlk vt136 rfl rfl (.nil)) rfl ⟨mem_at 7 rfl, mem_at 8 rfl, mem_at 9 rfl, trivial⟩ rfl rfl
    · refine (boolLit 48 rfl h15).2 ?_;refine qs ?_;refine qs ?_;refine q0 (sp_pickF rfl rfl rfl) ?_;refine TL.nil ?_;refine TC.condF rfl ?_;refine TC.exit rfl ?_;refine tr ?_;refine q1 2 rfl (sp_loadBA rfl isBlk rfl vt136 rfl rfl) ?_;refine stoB 1 (cells' := [vi i36, vi i37, .ref 8, vi i38, .ref 3, .ref 9]) rfl rfl trivial rfl rfl rfl rfl vt136 rfl rfl rfl ?_;refine TL.nil ?_;cases h;exact retJ [(0, 8), (1, 3), (2, 9)] (.cells rfl (mem_at 1 rfl) isBlk vt136 rfl rfl (.nil)) rfl ⟨mem_at 7 rfl, mem_at 8 rfl, mem_at 9 rfl, trivial⟩ rfl rfl
def ev_top_armRing_l0 (n : Nat) : Nat → Int → (List Int) → Int → Int → Int → Int → Int → Int → Int → Int → (List Int) → Int → (List (Int × Int)) → (List (Int × Int)) → Int → Int → (List Int) → Int → (List (Int × Int)) → (List (Int × Int)) → Option (Int × Int × (List Int) × Int × (List (Int × Int)) × (List (Int × Int)))
  | 0, _, _, _, _, _, _, _, _, _, _, _, _, _, _, _, _, _, _, _, _ => none
  | m + 1, i9, l10, i11, i12, i13, i14, i15, i17, i18, i19, l20, i21, l22, l23, i24, i25, l26, i27, l28, l29 => cond (decide (i9 < 6)) (chk (decide (0 ≤ i9) && decide (i9 < 6)) <| idx ([i11, i12, i13, i14, i15, i17] : List Int) i9 fun x30 => chk (in64 x30) <| chk (i25 != 0) <| chk (in64 ((1 : Int) + (Int.tmod x30 i25))) <| chk (room 8 (l26.length + ([((1 : Int) + (Int.tmod x30 i25))] : List Int).length)) <| chk (in64 (i9 + 1)) <| ev_top_armRing_l0 n m (i9 + 1) l10 i11 i12 i13 i14 i15 i17 i18 i19 l20 i21 l22 l23 i24 i25 (l26 ++ ([((1 : Int) + (Int.tmod x30 i25))] : List Int)) i27 l28 l29) (ev_top_armRing_l1 n n 0 l10 i18 i19 i21 i24 i25 i27 ([] : List (Int × Bool)) l20 l22 l23 l26 l29 l28)
theorem ok_top_armRing_l0 {n : Nat} {w0 : World} {R0 : Nat → Prop} {env0 : Env} {r : Int × Int × (List Int) × Int × (List (Int × Int)) × (List (Int × Int))} : ∀ (m : Nat) (i9 : Int) (l10 : List Int) (i11 : Int) (i12 : Int) (i13 : Int) (i14 : Int) (i15 : Int) (i17 : Int) (i18 : Int) (i19 : Int) (l20 : List Int) (i21 : Int) (l22 : List (Int × Int)) (l23 : List (Int × Int)) (i24 : Int) (i25 : Int) (l26 : List Int) (i27 : Int) (l28 : List (Int × Int)) (l29 : List (Int × Int)), ev_top_armRing_l0 n m i9 l10 i11 i12 i13 i14 i15 i17 i18 i19 l20 i21 l22 l23 i24 i25 l26 i27 l28 l29 = some r → TC Try.prog ⟨w0, fun _ => False, R0⟩ 76 (bodyPost Try.prog Try.f48 (Post ⟨w0, fun _ => False, R0⟩ env0 (.agg [vi r.1, vi r.2.1, .ref 0, vi r.2.2.2.1, .ref 1, .ref 2]) [.row 0 3 1 (List.map en_int r.2.2.1), .row 1 266 2 (List.map en_api_ChimeHammer r.2.2.2.2.1), .row 2 269 2 (List.map en_api_ChimePin r.2.2.2.2.2)])) [.code (sub (bodyOf Try.f48) [1, 1, 1, 0, 1, 0, 0, 0, 0]), .code (sub (bodyOf Try.f48) [1, 1, 1, 0, 1, 0, 0, 0, 1]), .code (sub (bodyOf Try.f48) [1, 1, 1, 0, 1, 0, 0, 1]), .inLoop (sub (bodyOf Try.f48) [1, 1, 1, 0, 1, 0, 0]), .inBlock 0, .code (sub (bodyOf Try.f48) [1, 1, 1, 1])] ([(1, .ref 0), (2, .ptr 1 0), (4, .ptr 2 0), (5, .ptr 4 0), (6, vi i9)]) ([.ro 0 1 (List.map en_uint8 l10), .blk 1 [.val (.int .u8 i11), .val (.int .u8 i12), .val (.int .u8 i13), .val (.int .u8 i14), .val (.int .u8 i15), .val (.int .u8 i17)] 116, .row 5 3 1 (List.map en_int l20), .row 6 266 2 (List.map en_api_ChimeHammer l22), .row 7 269 2 (List.map en_api_ChimePin l23), .blk 2 [vi i18, vi i19, .ref 5, vi i21, .ref 6, .ref 7] 136, .row 8 3 1 (List.map en_int l26), .row 9 269 2 (List.map en_api_ChimePin l28), .blk 4 [vi i24, vi i25, .ref 8, vi i27, .ref 3, .ref 9] 136, .row 3 266 2 (List.map en_api_ChimeHammer l29)]) := by
  intro m
  induction m with
  | zero => intro i9 l10 i11 i12 i13 i14 i15 i17 i18 i19 l20 i21 l22 l23 i24 i25 l26 i27 l28 l29 h; exact none_no h
  | succ m ih =>
    intro i9 l10 i11 i12 i13 i14 i15 i17 i18 i19 l20 i21 l22 l23 i24 i25 l26 i27 l28 l29 h;rw [ev_top_armRing_l0] at h;refine TC.region ?_;refine qm ?_;refine q0 (sp_lss rfl rfl rfl) ?_;refine TL.nil ?_;refine TC.cond (b := (decide (i9 < 6))) rfl (fun h6 => ?_) (fun h6 => ?_)
    · have h := cond_t h h6;refine TC.skip ?_;refine TC.seq ?_;refine TC.block ?_;obtain ⟨h7, h⟩ := chk_inv h;obtain ⟨x30, h8, h9, h⟩ := idx_inv h;obtain ⟨h10, h⟩ := chk_inv h;obtain ⟨h11, h⟩ := chk_inv h;obtain ⟨h12, h⟩ := chk_inv h;refine drawJ 11 [⟨.ptr 4 2, [], [.blk 4 [vi i24, vi i25, .ref 8, vi i27, .ref 3, .ref 9] 136], []⟩, ⟨.ref 8, [], [.blk 4 [vi i24, vi i25, .ref 8, vi i27, .ref 3, .ref 9] 136], []⟩, ⟨vi i9, [], [], []⟩, ⟨.ptr 1 (0 + ((i9).toNat * 1 + 0)), [], [.blk 1 [.val (.int .u8 i11), .val (.int .u8 i12), .val (.int .u8 i13), .val (.int .u8 i14), .val (.int .u8 i15), .val (.int .u8 i17)] 116], []⟩, ⟨.val (.int .u8 x30), [], [.blk 1 [.val (.int .u8 i11), .val (.int .u8 i12), .val (.int .u8 i13), .val (.int .u8 i14), .val (.int .u8 i15), .val (.int .u8 i17)] 116], []⟩, ⟨vi x30, [], [], []⟩, ⟨.ptr 4 1, [], [.blk 4 [vi i24, vi i25, .ref 8, vi i27, .ref 3, .ref 9] 136], []⟩, ⟨vi i25, [], [.blk 4 [vi i24, vi i25, .ref 8, vi i27, .ref 3, .ref 9] 136], []⟩, ⟨vi (Int.tmod x30 i25), [], [], []⟩, ⟨vi ((1 : Int) + (Int.tmod x30 i25)), [], [], []⟩, ⟨.ref 10, [.row 10 3 1 (List.map en_int ([((1 : Int) + (Int.tmod x30 i25))] : List Int))], [], []⟩] rfl ?_ rfl ?_ rfl ?_ ?_
      · kernel_rfl
      · kernel_rfl
      · exact dp1 8 (sp_fieldAddrB rfl isBlk rfl ft136_2 vt50 (by decide)) (dp1 8 (sp_loadB rfl isBlk rfl vt50 rfl) (dp0 (sp_move rfl rfl) (dp1 1 (sp_indexA (len := 6) rfl isBlk rfl rfl Try.underlying116 vt5 h7) (dp1 1 (sp_loadB rfl isBlk rfl vt5 (arr_get (enc := ax_uint8) (j := 0) (fun _ => rfl) rfl (pre := []) (post := []) (xs := ([i11, i12, i13, i14, i15, i17] : List Int)) rfl h9 rfl)) (dp0 (sp_conv rfl Try.underlying5 Try.underlying3 rfl h10) (dp1 8 (sp_fieldAddrB rfl isBlk rfl ft136_1 vt3 (by decide)) (dp1 8 (sp_loadB rfl isBlk rfl vt3 rfl) (dp0 (sp_rem rfl rfl rfl h11) (dp0 (sp_add rfl rfl rfl h12) (dp0 (sp_buildSlice (qs := [vi ((1 : Int) + (Int.tmod x30 i25))]) (need := []) (els := List.map en_int ([((1 : Int) + (Int.tmod x30 i25))] : List Int)) 10 rfl sl50 (by decide) (by decide) rfl rfl rfl (.v (.nil)) (map_len fun _ => rfl) rfl rfl rfl) (.nil)))))))))))
      obtain ⟨h13, h⟩ := chk_inv h;refine appM 7 0 (N := l26.length) (N2 := ([((1 : Int) + (Int.tmod x30 i25))] : List Int).length) 11 rfl rfl trivial rfl rfl rfl rfl rfl isOwn rfl sl50 (len_map _ _) (len_map _ _) h13 (map_app _ _ _) rfl ?_;refine q1 9 rfl (sp_fieldAddrB rfl isBlk rfl ft136_2 vt50 (by decide)) ?_;refine stoB 9 (cells' := [vi i24, vi i25, .ref 11, vi i27, .ref 3, .ref 9]) rfl rfl trivial rfl rfl rfl rfl vt50 rfl rfl rfl ?_;refine TL.nil ?_;refine TC.inBlock ?_;refine TC.region ?_;refine qm ?_;obtain ⟨h14, h⟩ := chk_inv h;refine q0 (sp_add rfl rfl rfl h14) ?_;refine qa ?_;refine TL.nil ?_;refine TC.inLoop ?_;refine TC.seq ?_;refine TC.seq ?_;refine subJ [(8, 11)] (ih _ _ _ _ _ _ _ _ _ _ _ _ _ _ _ _ _ _ _ _ h) ?_ ?_ ?_
      · exact ⟨rfl, rfl, rfl, rfl, rfl, trivial⟩
      · exact ⟨mem_at 2 rfl, mem_at 3 rfl, mem_at 4 rfl, mem_at 5 rfl, mem_at 6 rfl, mem_at 7 rfl, mem_at 0 rfl, mem_at 8 rfl, mem_at 9 rfl, mem_at 10 rfl, trivial⟩
      · rfl
    · have h := cond_f h h6;refine TC.exit rfl ?_;refine tr ?_;refine q0 (sp_makeMap (ek := mk267) (ag := false) (ev := en_bool) 12 ([] : List (Int × Bool)) rfl rfl) ?_;refine qa ?_;refine TL.nil ?_;refine TC.seq ?_;refine tr ?_;refine qa ?_;refine TL.nil ?_;refine TC.block ?_;refine TC.loop ?_;refine TC.seq ?_;refine TC.seq ?_;refine subJ [] (ok_top_armRing_l1 _ _ _ _ _ _ _ _ _ _ _ _ _ _ _ _ h) ?_ ?_ ?_
      · exact ⟨rfl, rfl, rfl, rfl, rfl, trivial⟩
      · exact ⟨mem_at 1 rfl, mem_at 6 rfl, mem_at 9 rfl, mem_at 0 rfl, mem_at 3 rfl, mem_at 4 rfl, mem_at 5 rfl, mem_at 7 rfl, mem_at 10 rfl, mem_at 8 rfl, trivial⟩
      · rfl
def ev_top_armRing (n : Nat) (v1 : Int) (v2 : Int) (v3 : Int) (v4 : Int) (v5 : Int) (v6 : Int) (pins7 : List Int) : Option (Int × Int × (List Int) × Int × (List (Int × Int)) × (List (Int × Int))) :=
  chk (decide (0 ≤ (Int.tmod v1 6)) && decide ((Int.tmod v1 6) < 6)) <| idx ([1, 2, 3, 4, 6, 8] : List Int) (Int.tmod v1 6) fun x8 => chk (in64 v2) <| chk (in64 ((4 : Int) * x8)) <| ev_top_armRing_l0 n n 2 pins7 v1 v2 v3 v4 v5 v6 0 0 ([] : List Int) 0 ([] : List (Int × Int)) ([] : List (Int × Int)) ((4 : Int) * x8) x8 ([] : List Int) 1 ([] : List (Int × Int)) ([((Int.tmod v2 16), 0)] : List (Int × Int))
theorem fc_top_armRing {n : Nat} {v1 : Int} {v2 : Int} {v3 : Int} {v4 : Int} {v5 : Int} {v6 : Int} {pins7 : List Int} {r : Int × Int × (List Int) × Int × (List (Int × Int)) × (List (Int × Int))} (h : ev_top_armRing n v1 v2 v3 v4 v5 v6 pins7 = some r) : FC Try.prog 48 [.agg [.val (.int .u8 v1), .val (.int .u8 v2), .val (.int .u8 v3), .val (.int .u8 v4), .val (.int .u8 v5), .val (.int .u8 v6)], .ref 0] [.ro 0 1 (List.map en_uint8 pins7)] (.agg [vi r.1, vi r.2.1, .ref 0, vi r.2.2.2.1, .ref 1, .ref 2]) [.row 0 3 1 (List.map en_int r.2.2.1), .row 1 266 2 (List.map en_api_ChimeHammer r.2.2.2.2.1), .row 2 269 2 (List.map en_api_ChimePin r.2.2.2.2.2)] := by
  refine introJ (nz := 76) Try.func48 rfl rfl rfl (fun w0 R0 env0 => ?_)
  rw [ev_top_armRing] at h;refine tr ?_;refine q0 (sp_box 1 rfl rfl rfl rfl rfl) ?_;refine q0 (sp_alloc 2 rfl Try.zeroValue136 rfl) ?_;refine TL.nil ?_;refine TC.seq ?_;obtain ⟨h3, h⟩ := chk_inv h;obtain ⟨x8, h1, h2, h⟩ := idx_inv h;obtain ⟨h4, h⟩ := chk_inv h;refine drawJ 13 [⟨.agg [vi 1, vi 2, vi 3, vi 4, vi 6, vi 8], [], [], []⟩, ⟨.ptr 1 0, [], [.blk 1 [.val (.int .u8 v1), .val (.int .u8 v2), .val (.int .u8 v3), .val (.int .u8 v4), .val (.int .u8 v5), .val (.int .u8 v6)] 116], []⟩, ⟨.val (.int .u8 v1), [], [.blk 1 [.val (.int .u8 v1), .val (.int .u8 v2), .val (.int .u8 v3), .val (.int .u8 v4), .val (.int .u8 v5), .val (.int .u8 v6)] 116], []⟩, ⟨.val (.int .u8 (Int.tmod v1 6)), [], [], []⟩, ⟨vi x8, [], [], []⟩, ⟨.ptr 1 1, [], [.blk 1 [.val (.int .u8 v1), .val (.int .u8 v2), .val (.int .u8 v3), .val (.int .u8 v4), .val (.int .u8 v5), .val (.int .u8 v6)] 116], []⟩, ⟨.val (.int .u8 v2), [], [.blk 1 [.val (.int .u8 v1), .val (.int .u8 v2), .val (.int .u8 v3), .val (.int .u8 v4), .val (.int .u8 v5), .val (.int .u8 v6)] 116], []⟩, ⟨vi v2, [], [], []⟩, ⟨vi (Int.tmod v2 16), [], [], []⟩, ⟨.agg [vi (Int.tmod v2 16), vi 0], [], [], []⟩, ⟨.ref 3, [.row 3 266 2 (List.map en_api_ChimeHammer ([((Int.tmod v2 16), 0)] : List (Int × Int)))], [], []⟩, ⟨.agg [vi 0, vi x8, .val (.slice none 0 0), vi 1, .ref 3, .val (.slice none 0 0)], [], [], []⟩, ⟨.ptr 4 0, [.blk 4 [vi 0, vi 0, .val (.slice none 0 0), vi 0, .val (.slice none 0 0), .val (.slice none 0 0)] 136], [], []⟩] rfl ?_ rfl ?_ rfl ?_ ?_
  · kernel_rfl
  · kernel_rfl
  · exact dp0 (sp_build (qs := [(0, vi 1), (1, vi 2), (2, vi 3), (3, vi 4), (4, vi 6), (5, vi 8)]) rfl bt264 rfl rfl rfl rfl) (dp1 1 (sp_indexA (len := 6) (iv := 0) rfl isBlk rfl rfl Try.underlying116 vt5 (by decide)) (dp1 1 (sp_loadB rfl isBlk rfl vt5 rfl) (dp0 (sp_rem rfl rfl rfl (by decide)) (dp0 (sp_index rfl rfl rfl Try.underlying264 vt3 h3 (map_get (fun z => AV.val (.int .i64 z)) h2)) (dp1 1 (sp_indexA (len := 6) (iv := 1) rfl isBlk rfl rfl Try.underlying116 vt5 (by decide)) (dp1 1 (sp_loadB rfl isBlk rfl vt5 rfl) (dp0 (sp_conv rfl Try.underlying5 Try.underlying3 rfl h4) (dp0 (sp_rem rfl rfl rfl (by decide)) (dp0 (sp_build (qs := [(0, vi (Int.tmod v2 16))]) rfl bt266 rfl rfl rfl rfl) (dp0 (sp_buildSlice (qs := [.agg [vi (Int.tmod v2 16), vi 0]]) (need := []) (els := List.map en_api_ChimeHammer ([((Int.tmod v2 16), 0)] : List (Int × Int))) 3 rfl sl133 (by decide) (by decide) rfl rfl rfl (.v (.v (.nil))) (map_len fun _ => rfl) rfl rfl rfl) (dp0 (sp_build (qs := [(1, vi x8), (3, vi 1), (4, .ref 3)]) rfl bt136 rfl rfl rfl rfl) (dp0 (sp_alloc 4 rfl Try.zeroValue136 rfl) (.nil)))))))))))))
  refine stoB 0 (cells' := [vi 0, vi x8, .val (.slice none 0 0), vi 1, .ref 3, .val (.slice none 0 0)]) rfl rfl trivial rfl rfl rfl rfl vt136 rfl rfl rfl ?_;refine TL.nil ?_;refine tr ?_;refine q1 0 rfl (sp_fieldAddrB rfl isBlk rfl ft136_1 vt3 (by decide)) ?_;refine q1 0 rfl (sp_loadB rfl isBlk rfl vt3 rfl) ?_;obtain ⟨h5, h⟩ := chk_inv h;refine q0 (sp_mul rfl rfl rfl h5) ?_;refine q1 0 rfl (sp_fieldAddrB rfl isBlk rfl ft136_0 vt3 (by decide)) ?_;refine stoB 0 (cells' := [vi ((4 : Int) * x8), vi x8, .val (.slice none 0 0), vi 1, .ref 3, .val (.slice none 0 0)]) rfl rfl trivial rfl rfl rfl rfl vt3 rfl rfl rfl ?_;refine TL.nil ?_;refine TC.seq ?_;refine tr ?_;refine qa ?_;refine TL.nil ?_;refine TC.block ?_;refine TC.loop ?_;refine TC.seq ?_;refine TC.seq ?_;refine nilCellC 2 15 3 1 2 (List.map en_int []) [vi 0, vi 0, .ref 15, vi 0, .val (.slice none 0 0), .val (.slice none 0 0)] rfl rfl rfl ?_;refine nilCellC 3 16 266 2 2 (List.map en_api_ChimeHammer []) [vi 0, vi 0, .ref 15, vi 0, .ref 16, .val (.slice none 0 0)] rfl rfl rfl ?_;refine nilCellC 4 17 269 2 2 (List.map en_api_ChimePin []) [vi 0, vi 0, .ref 15, vi 0, .ref 16, .ref 17] rfl rfl rfl ?_;refine nilCellC 3 18 3 1 4 (List.map en_int []) [vi ((4 : Int) * x8), vi x8, .ref 18, vi 1, .ref 3, .val (.slice none 0 0)] rfl rfl rfl ?_;refine nilCellC 4 19 269 2 4 (List.map en_api_ChimePin []) [vi ((4 : Int) * x8), vi x8, .ref 18, vi 1, .ref 3, .ref 19] rfl rfl rfl ?_;refine subJ [(5, 15), (6, 16), (7, 17), (8, 18), (9, 19)] (ok_top_armRing_l0 _ _ _ _ _ _ _ _ _ _ _ _ _ _ _ _ _ _ _ _ _ h) ?_ ?_ ?_
  · exact ⟨rfl, rfl, rfl, rfl, rfl, trivial⟩
  · exact ⟨mem_at 9 rfl, mem_at 8 rfl, mem_at 4 rfl, mem_at 3 rfl, mem_at 2 rfl, mem_at 7 rfl, mem_at 1 rfl, mem_at 0 rfl, mem_at 5 rfl, mem_at 6 rfl, trivial⟩
  · rfl
def ev_slices_IndexFunc_Lint_int_l0 (n : Nat) (s1 : List Int) (f2 : Int → Option Bool) : Nat → Int → Option Int
  | 0, _ => none
  | m + 1, i3 => cond (decide (i3 < (s1.length : Int))) (idx s1 i3 fun x4 => (f2 x4).bind fun r5 => cond r5 (some i3) (chk (in64 (i3 + 1)) <| ev_slices_IndexFunc_Lint_int_l0 n s1 f2 m (i3 + 1))) (some (-1))
theorem ok_slices_IndexFunc_Lint_int_l0 {n : Nat} {w0 : World} {R0 : Nat → Prop} {env0 : Env} {r : Int} {s1 : List Int} {f2 : Int → Option Bool} : ∀ (m : Nat) (i3 : Int), ev_slices_IndexFunc_Lint_int_l0 n s1 f2 m i3 = some r → TC Try.prog ⟨w0, fun _ => False, R0⟩ 19 (bodyPost Try.prog Try.f237 (Post ⟨w0, fun _ => False, R0⟩ env0 (vi r) [])) [.code (sub (bodyOf Try.f237) [1, 0, 1, 0, 0, 0]), .code (sub (bodyOf Try.f237) [1, 0, 1, 0, 0, 1]), .inLoop (sub (bodyOf Try.f237) [1, 0, 1, 0, 0]), .inBlock 0, .code (sub (bodyOf Try.f237) [1, 1])] ([(0, .ref 0), (1, .ref 1), (7, vi (s1.length : Int)), (8, vi i3)]) ([.ro 0 1 (List.map en_int s1), .any 1 (D.fn Try.prog fe_funcint_bool fd_funcint_bool f2)]) := by
  intro m
  induction m with
  | zero => intro i3 h; exact none_no h
  | succ m ih =>
    intro i3 h;rw [ev_slices_IndexFunc_Lint_int_l0] at h;refine TC.region ?_;refine q0 (sp_lss rfl rfl rfl) ?_;refine TL.nil ?_;refine TC.seq ?_;refine TC.cond (b := (decide (i3 < (s1.length : Int)))) rfl (fun h1 => ?_) (fun h1 => ?_)
    · have h := cond_t h h1;refine TC.skip ?_;refine TC.seq ?_;refine TC.block ?_;refine tr ?_;refine qm ?_;refine qa ?_;refine TL.nil ?_;refine tr ?_;refine qm ?_;refine qm ?_;refine qm ?_;obtain ⟨x4, h2, h3, h⟩ := idx_inv h;refine q1 0 rfl (sp_indexS rfl rfl rfl isRo sl50 h2 (map_get _ h3)) ?_;refine q1 0 rfl (sp_loadR (i := (i3 : Int).toNat) (j := 0) rfl rfl isRo vt3 rfl (map_get _ h3) rfl (.v (.nil)) (nodup_of_B rfl)) ?_;obtain ⟨r5, h4, h⟩ := bind_inv h;refine q1 1 rfl (sp_callF (avs := [vi x4]) (v := vb r5) x4 rfl rfl rfl rfl rfl h4) ?_;refine TL.nil ?_;refine TC.cond (b := r5) rfl (fun h5 => ?_) (fun h5 => ?_)
      · have h := cond_t h h5;refine tr ?_;refine qm ?_;refine qa ?_;refine TL.nil ?_;cases h;exact retJ [] (.tmp rfl .nil) rfl trivial rfl rfl
      · have h := cond_f h h5;refine TC.skip ?_;refine TC.inBlock ?_;refine TC.region ?_;obtain ⟨h6, h⟩ := chk_inv h;refine q0 (sp_add rfl rfl rfl h6) ?_;refine qm ?_;refine TL.nil ?_;refine TC.inLoop ?_;refine TC.seq ?_;refine subJ [] (ih _ h) ?_ ?_ ?_
        · exact ⟨rfl, rfl, rfl, rfl, trivial⟩
        · exact ⟨mem_at 0 rfl, mem_at 1 rfl, trivial⟩
        · rfl
    · have h := cond_f h h1;refine TC.exit rfl ?_;refine tr ?_;refine qa ?_;refine TL.nil ?_;cases h;exact retJ [] (.tmp rfl .nil) rfl trivial rfl rfl
def ev_slices_IndexFunc_Lint_int (n : Nat) (s1 : List Int) (f2 : Int → Option Bool) : Option Int :=
  ev_slices_IndexFunc_Lint_int_l0 n s1 f2 n 0
theorem fc_slices_IndexFunc_Lint_int {n : Nat} {s1 : List Int} {f2 : Int → Option Bool} {r : Int} (h : ev_slices_IndexFunc_Lint_int n s1 f2 = some r) : FC Try.prog 237 [.ref 0, .ref 1] [.ro 0 1 (List.map en_int s1), .any 1 (D.fn Try.prog fe_funcint_bool fd_funcint_bool f2)] (vi r) [] := by
  refine introJ (nz := 19) Try.func237 rfl rfl rfl (fun w0 R0 env0 => ?_)
  rw [ev_slices_IndexFunc_Lint_int] at h;refine tr ?_;refine qa ?_;refine TL.nil ?_;refine TC.seq ?_;refine tr ?_;refine qm ?_;refine q1 0 rfl (sp_lenM (N := s1.length) (len_map _ _) rfl rfl isRo Try.underlying50) ?_;refine qm ?_;refine TL.nil ?_;refine TC.block ?_;refine TC.loop ?_;refine TC.seq ?_;refine subJ [] (ok_slices_IndexFunc_Lint_int_l0 _ _ h) ?_ ?_ ?_
  · exact ⟨rfl, rfl, rfl, rfl, trivial⟩
  · exact ⟨mem_at 0 rfl, mem_at 1 rfl, trivial⟩
  · rfl
def ev_slices_ContainsFunc_Lint_int (n : Nat) (s1 : List Int) (f2 : Int → Option Bool) : Option Bool :=
  (ev_slices_IndexFunc_Lint_int n s1 f2).bind fun r3 => some (decide ((0 : Int) ≤ r3))
theorem fc_slices_ContainsFunc_Lint_int {n : Nat} {s1 : List Int} {f2 : Int → Option Bool} {r : Bool} (h : ev_slices_ContainsFunc_Lint_int n s1 f2 = some r) : FC Try.prog 142 [.ref 0, .ref 1] [.ro 0 1 (List.map en_int s1), .any 1 (D.fn Try.prog fe_funcint_bool fd_funcint_bool f2)] (vb r) [] := by
  refine introJ (nz := 9) Try.func142 rfl rfl rfl (fun w0 R0 env0 => ?_)
  rw [ev_slices_ContainsFunc_Lint_int] at h;refine tr ?_;refine qa ?_;refine TL.nil ?_;refine tr ?_;refine qm ?_;refine qm ?_;obtain ⟨r3, h1, h⟩ := bind_inv h;refine opN (need := [.ro 0 1 (List.map en_int s1), .any 1 (D.fn Try.prog fe_funcint_bool fd_funcint_bool f2)]) [0, 1] ⟨rfl, rfl, trivial⟩ (sp_call (avs := [.ref 0, .ref 1]) (need := [.ro 0 1 (List.map en_int s1), .any 1 (D.fn Try.prog fe_funcint_bool fd_funcint_bool f2)]) (v := vi r3) (news := []) rfl rfl rfl Try.call237 (atJ [] [] (fc_slices_IndexFunc_Lint_int h1) rfl rfl) (.inl (roAll rfl))) rfl trivial rfl rfl ?_;refine q0 (sp_geq rfl rfl rfl) ?_;refine qa ?_;refine TL.nil ?_;cases h;exact retJ [] (.tmp rfl .nil) rfl trivial rfl rfl
def ev_slices_IndexFunc_Lapi_ChimePin_api_ChimePin_l0 (n : Nat) (s1 : List (Int × Int)) (f2 : (Int × Int) → Option Bool) : Nat → Int → Option Int
  | 0, _ => none
  | m + 1, i3 => cond (decide (i3 < (s1.length : Int))) (idx s1 i3 fun x4 => (f2 (x4.1, x4.2)).bind fun r5 => cond r5 (some i3) (chk (in64 (i3 + 1)) <| ev_slices_IndexFunc_Lapi_ChimePin_api_ChimePin_l0 n s1 f2 m (i3 + 1))) (some (-1))
theorem ok_slices_IndexFunc_Lapi_ChimePin_api_ChimePin_l0 {n : Nat} {w0 : World} {R0 : Nat → Prop} {env0 : Env} {r : Int} {s1 : List (Int × Int)} {f2 : (Int × Int) → Option Bool} : ∀ (m : Nat) (i3 : Int), ev_slices_IndexFunc_Lapi_ChimePin_api_ChimePin_l0 n s1 f2 m i3 = some r → TC Try.prog ⟨w0, fun _ => False, R0⟩ 19 (bodyPost Try.prog Try.f342 (Post ⟨w0, fun _ => False, R0⟩ env0 (vi r) [])) [.code (sub (bodyOf Try.f342) [1, 0, 1, 0, 0, 0]), .code (sub (bodyOf Try.f342) [1, 0, 1, 0, 0, 1]), .inLoop (sub (bodyOf Try.f342) [1, 0, 1, 0, 0]), .inBlock 0, .code (sub (bodyOf Try.f342) [1, 1])] ([(0, .ref 0), (1, .ref 1), (7, vi (s1.length : Int)), (8, vi i3)]) ([.ro 0 2 (List.map en_api_ChimePin s1), .any 1 (D.fn Try.prog fe_funcapi_ChimePin_bool fd_funcapi_ChimePin_bool f2)]) := by
  intro m
  induction m with
  | zero => intro i3 h; exact none_no h
  | succ m ih =>
    intro i3 h;rw [ev_slices_IndexFunc_Lapi_ChimePin_api_ChimePin_l0] at h;refine TC.region ?_;refine q0 (sp_lss rfl rfl rfl) ?_;refine TL.nil ?_;refine TC.seq ?_;refine TC.cond (b := (decide (i3 < (s1.length : Int)))) rfl (fun h1 => ?_) (fun h1 => ?_)
    · have h := cond_t h h1;refine TC.skip ?_;refine TC.seq ?_;refine TC.block ?_;refine tr ?_;refine qm ?_;refine qa ?_;refine TL.nil ?_;refine tr ?_;refine qm ?_;refine qm ?_;refine qm ?_;obtain ⟨x4, h2, h3, h⟩ := idx_inv h;refine q1 0 rfl (sp_indexS rfl rfl rfl isRo sl134 h2 (map_get _ h3)) ?_;refine q1 0 rfl (sp_loadRA (i := (i3 : Int).toNat) (j := 0) (as_ := [vi x4.1, vi x4.2]) (ns := []) rfl rfl isRo vt269 rfl (map_get _ h3) rfl rfl (by decide) (.v (.v (.nil))) (nodup_of_B rfl)) ?_;obtain ⟨r5, h4, h⟩ := bind_inv h;refine q1 1 rfl (sp_callF (avs := [.agg [vi x4.1, vi x4.2]]) (v := vb r5) (x4.1, x4.2) rfl rfl rfl rfl rfl h4) ?_;refine TL.nil ?_;refine TC.cond (b := r5) rfl (fun h5 => ?_) (fun h5 => ?_)
      · have h := cond_t h h5;refine tr ?_;refine qm ?_;refine qa ?_;refine TL.nil ?_;cases h;exact retJ [] (.tmp rfl .nil) rfl trivial rfl rfl
      · have h := cond_f h h5;refine TC.skip ?_;refine TC.inBlock ?_;refine TC.region ?_;obtain ⟨h6, h⟩ := chk_inv h;refine q0 (sp_add rfl rfl rfl h6) ?_;refine qm ?_;refine TL.nil ?_;refine TC.inLoop ?_;refine TC.seq ?_;refine subJ [] (ih _ h) ?_ ?_ ?_
        · exact ⟨rfl, rfl, rfl, rfl, trivial⟩
        · exact ⟨mem_at 0 rfl, mem_at 1 rfl, trivial⟩
        · rfl
    · have h := cond_f h h1;refine TC.exit rfl ?_;refine tr ?_;refine qa ?_;refine TL.nil ?_;cases h;exact retJ [] (.tmp rfl .nil) rfl trivial rfl rfl
def ev_slices_IndexFunc_Lapi_ChimePin_api_ChimePin (n : Nat) (s1 : List (Int × Int)) (f2 : (Int × Int) → Option Bool) : Option Int :=
  ev_slices_IndexFunc_Lapi_ChimePin_api_ChimePin_l0 n s1 f2 n 0
theorem fc_slices_IndexFunc_Lapi_ChimePin_api_ChimePin {n : Nat} {s1 : List (Int × Int)} {f2 : (Int × Int) → Option Bool} {r : Int} (h : ev_slices_IndexFunc_Lapi_ChimePin_api_ChimePin n s1 f2 = some r) : FC Try.prog 342 [.ref 0, .ref 1] [.ro 0 2 (List.map en_api_ChimePin s1), .any 1 (D.fn Try.prog fe_funcapi_ChimePin_bool fd_funcapi_ChimePin_bool f2)] (vi r) [] := by
  refine introJ (nz := 19) Try.func342 rfl rfl rfl (fun w0 R0 env0 => ?_)
  rw [ev_slices_IndexFunc_Lapi_ChimePin_api_ChimePin] at h;refine tr ?_;refine qa ?_;refine TL.nil ?_;refine TC.seq ?_;refine tr ?_;refine qm ?_;refine q1 0 rfl (sp_lenM (N := s1.length) (len_map _ _) rfl rfl isRo Try.underlying134) ?_;refine qm ?_;refine TL.nil ?_;refine TC.block ?_;refine TC.loop ?_;refine TC.seq ?_;refine subJ [] (ok_slices_IndexFunc_Lapi_ChimePin_api_ChimePin_l0 _ _ h) ?_ ?_ ?_
  · exact ⟨rfl, rfl, rfl, rfl, trivial⟩
  · exact ⟨mem_at 0 rfl, mem_at 1 rfl, trivial⟩
  · rfl
def ev_slices_ContainsFunc_Lapi_ChimePin_api_ChimePin (n : Nat) (s1 : List (Int × Int)) (f2 : (Int × Int) → Option Bool) : Option Bool :=
  (ev_slices_IndexFunc_Lapi_ChimePin_api_ChimePin n s1 f2).bind fun r3 => some (decide ((0 : Int) ≤ r3))
theorem fc_slices_ContainsFunc_Lapi_ChimePin_api_ChimePin {n : Nat} {s1 : List (Int × Int)} {f2 : (Int × Int) → Option Bool} {r : Bool} (h : ev_slices_ContainsFunc_Lapi_ChimePin_api_ChimePin n s1 f2 = some r) : FC Try.prog 294 [.ref 0, .ref 1] [.ro 0 2 (List.map en_api_ChimePin s1), .any 1 (D.fn Try.prog fe_funcapi_ChimePin_bool fd_funcapi_ChimePin_bool f2)] (vb r) [] := by
  refine introJ (nz := 9) Try.func294 rfl rfl rfl (fun w0 R0 env0 => ?_)
  rw [ev_slices_ContainsFunc_Lapi_ChimePin_api_ChimePin] at h;refine tr ?_;refine qa ?_;refine TL.nil ?_;refine tr ?_;refine qm ?_;refine qm ?_;obtain ⟨r3, h1, h⟩ := bind_inv h;refine opN (need := [.ro 0 2 (List.map en_api_ChimePin s1), .any 1 (D.fn Try.prog fe_funcapi_ChimePin_bool fd_funcapi_ChimePin_bool f2)]) [0, 1] ⟨rfl, rfl, trivial⟩ (sp_call (avs := [.ref 0, .ref 1]) (need := [.ro 0 2 (List.map en_api_ChimePin s1), .any 1 (D.fn Try.prog fe_funcapi_ChimePin_bool fd_funcapi_ChimePin_bool f2)]) (v := vi r3) (news := []) rfl rfl rfl Try.call342 (atJ [] [] (fc_slices_IndexFunc_Lapi_ChimePin_api_ChimePin h1) rfl rfl) (.inl (roAll rfl))) rfl trivial rfl rfl ?_;refine q0 (sp_geq rfl rfl rfl) ?_;refine qa ?_;refine TL.nil ?_;cases h;exact retJ [] (.tmp rfl .nil) rfl trivial rfl rfl
def ev_slices_IndexFunc_Lapi_ChimeHammer_api_ChimeHammer_l0 (n : Nat) (s1 : List (Int × Int)) (f2 : (Int × Int) → Option Bool) : Nat → Int → Option Int
  | 0, _ => none
  | m + 1, i3 => cond (decide (i3 < (s1.length : Int))) (idx s1 i3 fun x4 => (f2 (x4.1, x4.2)).bind fun r5 => cond r5 (some i3) (chk (in64 (i3 + 1)) <| ev_slices_IndexFunc_Lapi_ChimeHammer_api_ChimeHammer_l0 n s1 f2 m (i3 + 1))) (some (-1))
theorem ok_slices_IndexFunc_Lapi_ChimeHammer_api_ChimeHammer_l0 {n : Nat} {w0 : World} {R0 : Nat → Prop} {env0 : Env} {r : Int} {s1 : List (Int × Int)} {f2 : (Int × Int) → Option Bool} : ∀ (m : Nat) (i3 : Int), ev_slices_IndexFunc_Lapi_ChimeHammer_api_ChimeHammer_l0 n s1 f2 m i3 = some r → TC Try.prog ⟨w0, fun _ => False, R0⟩ 19 (bodyPost Try.prog Try.f341 (Post ⟨w0, fun _ => False, R0⟩ env0 (vi r) [])) [.code (sub (bodyOf Try.f341) [1, 0, 1, 0, 0, 0]), .code (sub (bodyOf Try.f341) [1, 0, 1, 0, 0, 1]), .inLoop (sub (bodyOf Try.f341) [1, 0, 1, 0, 0]), .inBlock 0, .code (sub (bodyOf Try.f341) [1, 1])] ([(0, .ref 0), (1, .ref 1), (7, vi (s1.length : Int)), (8, vi i3)]) ([.ro 0 2 (List.map en_api_ChimeHammer s1), .any 1 (D.fn Try.prog fe_funcapi_ChimeHammer_bool fd_funcapi_ChimeHammer_bool f2)]) := by
  intro m
  induction m with
  | zero => intro i3 h; exact none_no h
  | succ m ih =>
    intro i3 h;rw [ev_slices_IndexFunc_Lapi_ChimeHammer_api_ChimeHammer_l0] at h;refine TC.region ?_;refine q0 (sp_lss rfl rfl rfl) ?_;refine TL.nil ?_;refine TC.seq ?_;refine TC.cond (b := (decide (i3 < (s1.length : Int)))) rfl (fun h1 => ?_) (fun h1 => ?_)
    · have h := cond_t h h1;refine TC.skip ?_;refine TC.seq ?_;refine TC.block ?_;refine tr ?_;refine qm ?_;refine qa ?_;refine TL.nil ?_;refine tr ?_;refine qm ?_;refine qm ?_;refine qm ?_;obtain ⟨x4, h2, h3, h⟩ := idx_inv h;refine q1 0 rfl (sp_indexS rfl rfl rfl isRo sl133 h2 (map_get _ h3)) ?_;refine q1 0 rfl (sp_loadRA (i := (i3 : Int).toNat) (j := 0) (as_ := [vi x4.1, vi x4.2]) (ns := []) rfl rfl isRo vt266 rfl (map_get _ h3) rfl rfl (by decide) (.v (.v (.nil))) (nodup_of_B rfl)) ?_;obtain ⟨r5, h4, h⟩ := bind_inv h;refine q1 1 rfl (sp_callF (avs := [.agg [vi x4.1, vi x4.2]]) (v := vb r5) (x4.1, x4.2) rfl rfl rfl rfl rfl h4) ?_;refine TL.nil ?_;refine TC.cond (b := r5) rfl (fun h5 => ?_) (fun h5 => ?_)
      · have h := cond_t h h5;refine tr ?_;refine qm ?_;refine qa ?_;refine TL.nil ?_;cases h;exact retJ [] (.tmp rfl .nil) rfl trivial rfl rfl
      · have h := cond_f h h5;refine TC.skip ?_;refine TC.inBlock ?_;refine TC.region ?_;obtain ⟨h6, h⟩ := chk_inv h;refine q0 (sp_add rfl rfl rfl h6) ?_;refine qm ?_;refine TL.nil ?_;refine TC.inLoop ?_;refine TC.seq ?_;refine subJ [] (ih _ h) ?_ ?_ ?_
        · exact ⟨rfl, rfl, rfl, rfl, trivial⟩
        · exact ⟨mem_at 0 rfl, mem_at 1 rfl, trivial⟩
        · rfl
    · have h := cond_f h h1;refine TC.exit rfl ?_;refine tr ?_;refine qa ?_;refine TL.nil ?_;cases h;exact retJ [] (.tmp rfl .nil) rfl trivial rfl rfl
def ev_slices_IndexFunc_Lapi_ChimeHammer_api_ChimeHammer (n : Nat) (s1 : List (Int × Int)) (f2 : (Int × Int) → Option Bool) : Option Int :=
  ev_slices_IndexFunc_Lapi_ChimeHammer_api_ChimeHammer_l0 n s1 f2 n 0
theorem fc_slices_IndexFunc_Lapi_ChimeHammer_api_ChimeHammer {n : Nat} {s1 : List (Int × Int)} {f2 : (Int × Int) → Option Bool} {r : Int} (h : ev_slices_IndexFunc_Lapi_ChimeHammer_api_ChimeHammer n s1 f2 = some r) : FC Try.prog 341 [.ref 0, .ref 1] [.ro 0 2 (List.map en_api_ChimeHammer s1), .any 1 (D.fn Try.prog fe_funcapi_ChimeHammer_bool fd_funcapi_ChimeHammer_bool f2)] (vi r) [] := by
  refine introJ (nz := 19) Try.func341 rfl rfl rfl (fun w0 R0 env0 => ?_)
  rw [ev_slices_IndexFunc_Lapi_ChimeHammer_api_ChimeHammer] at h;refine tr ?_;refine qa ?_;refine TL.nil ?_;refine TC.seq ?_;refine tr ?_;refine qm ?_;refine q1 0 rfl (sp_lenM (N := s1.length) (len_map _ _) rfl rfl isRo Try.underlying133) ?_;refine qm ?_;refine TL.nil ?_;refine TC.block ?_;refine TC.loop ?_;refine TC.seq ?_;refine subJ [] (ok_slices_IndexFunc_Lapi_ChimeHammer_api_ChimeHammer_l0 _ _ h) ?_ ?_ ?_
  · exact ⟨rfl, rfl, rfl, rfl, trivial⟩
  · exact ⟨mem_at 0 rfl, mem_at 1 rfl, trivial⟩
  · rfl
def ev_slices_ContainsFunc_Lapi_ChimeHammer_api_ChimeHammer (n : Nat) (s1 : List (Int × Int)) (f2 : (Int × Int) → Option Bool) : Option Bool :=
  (ev_slices_IndexFunc_Lapi_ChimeHammer_api_ChimeHammer n s1 f2).bind fun r3 => some (decide ((0 : Int) ≤ r3))
theorem fc_slices_ContainsFunc_Lapi_ChimeHammer_api_ChimeHammer {n : Nat} {s1 : List (Int × Int)} {f2 : (Int × Int) → Option Bool} {r : Bool} (h : ev_slices_ContainsFunc_Lapi_ChimeHammer_api_ChimeHammer n s1 f2 = some r) : FC Try.prog 293 [.ref 0, .ref 1] [.ro 0 2 (List.map en_api_ChimeHammer s1), .any 1 (D.fn Try.prog fe_funcapi_ChimeHammer_bool fd_funcapi_ChimeHammer_bool f2)] (vb r) [] := by
  refine introJ (nz := 9) Try.func293 rfl rfl rfl (fun w0 R0 env0 => ?_)
  rw [ev_slices_ContainsFunc_Lapi_ChimeHammer_api_ChimeHammer] at h;refine tr ?_;refine qa ?_;refine TL.nil ?_;refine tr ?_;refine qm ?_;refine qm ?_;obtain ⟨r3, h1, h⟩ := bind_inv h;refine opN (need := [.ro 0 2 (List.map en_api_ChimeHammer s1), .any 1 (D.fn Try.prog fe_funcapi_ChimeHammer_bool fd_funcapi_ChimeHammer_bool f2)]) [0, 1] ⟨rfl, rfl, trivial⟩ (sp_call (avs := [.ref 0, .ref 1]) (need := [.ro 0 2 (List.map en_api_ChimeHammer s1), .any 1 (D.fn Try.prog fe_funcapi_ChimeHammer_bool fd_funcapi_ChimeHammer_bool f2)]) (v := vi r3) (news := []) rfl rfl rfl Try.call341 (atJ [] [] (fc_slices_IndexFunc_Lapi_ChimeHammer_api_ChimeHammer h1) rfl rfl) (.inl (roAll rfl))) rfl trivial rfl rfl ?_;refine q0 (sp_geq rfl rfl rfl) ?_;refine qa ?_;refine TL.nil ?_;cases h;exact retJ [] (.tmp rfl .nil) rfl trivial rfl rfl
def rn_slices_SortFunc_Lchime_strike_chime_strike_k : Shelf.Ren := ⟨fun n => match n with | 6 => 297 | 14 => 344 | 15 => 225 | 20 => 357 | 21 => 358 | 22 => 359 | 23 => 360 | 24 => 361 | 25 => 362 | 26 => 363 | 27 => 364 | 28 => 312 | 29 => 313 | 46 => 369 | 47 => 347 | 48 => 348 | 49 => 370 | 50 => 371 | 57 => 373 | _ => 0, fun n => match n with | 0 => 0 | 3 => 3 | 4 => 4 | 5 => 5 | 9 => 9 | 22 => 399 | 24 => 402 | 25 => 405 | 39 => 413 | 45 => 481 | 46 => 482 | 50 => 360 | 53 => 488 | 55 => 490 | 66 => 517 | 70 => 448 | 76 => 532 | 77 => 533 | _ => 0, fun x => x⟩
theorem lays_slices_SortFunc_Lchime_strike_chime_strike_k : SlLaysF0.n6 Try.prog rn_slices_SortFunc_Lchime_strike_chime_strike_k where
  mixed := rfl
  f6 := ⟨Try.f297.name, by kernel_rfl, Try.func297.trans (congrArg some (by kernel_rfl))⟩
  f14 := ⟨Try.f344.name, by kernel_rfl, Try.func344.trans (congrArg some (by kernel_rfl))⟩
  f15 := Try.func225.trans (congrArg some (by kernel_rfl))
  f20 := ⟨Try.f357.name, by kernel_rfl, Try.func357.trans (congrArg some (by kernel_rfl))⟩
  f21 := ⟨Try.f358.name, by kernel_rfl, Try.func358.trans (congrArg some (by kernel_rfl))⟩
  f22 := ⟨Try.f359.name, by kernel_rfl, Try.func359.trans (congrArg some (by kernel_rfl))⟩
  f23 := ⟨Try.f360.name, by kernel_rfl, Try.func360.trans (congrArg some (by kernel_rfl))⟩
  f24 := ⟨Try.f361.name, by kernel_rfl, Try.func361.trans (congrArg some (by kernel_rfl))⟩
  f25 := ⟨Try.f362.name, by kernel_rfl, Try.func362.trans (congrArg some (by kernel_rfl))⟩
  f26 := ⟨Try.f363.name, by kernel_rfl, Try.func363.trans (congrArg some (by kernel_rfl))⟩
  f27 := ⟨Try.f364.name, by kernel_rfl, Try.func364.trans (congrArg some (by kernel_rfl))⟩
  f28 := Try.func312.trans (congrArg some (by kernel_rfl))
  f29 := Try.func313.trans (congrArg some (by kernel_rfl))
  f46 := ⟨Try.f369.name, by kernel_rfl, Try.func369.trans (congrArg some (by kernel_rfl))⟩
  f47 := Try.func347.trans (congrArg some (by kernel_rfl))
  f48 := Try.func348.trans (congrArg some (by kernel_rfl))
  f49 := ⟨Try.f370.name, by kernel_rfl, Try.func370.trans (congrArg some (by kernel_rfl))⟩
  f50 := ⟨Try.f371.name, by kernel_rfl, Try.func371.trans (congrArg some (by kernel_rfl))⟩
  f57 := ⟨Try.f373.name, by kernel_rfl, Try.func373.trans (congrArg some (by kernel_rfl))⟩
  t0 := Try.underlying0
  a0 := Try.isAgg0
  z0 := Try.sizeOf0
  v0 := Try.zeroValue0
  t3 := Try.underlying3
  a3 := Try.isAgg3
  z3 := Try.sizeOf3
  v3 := Try.zeroValue3
  t4 := Try.underlying4
  a4 := Try.isAgg4
  z4 := Try.sizeOf4
  v4 := Try.zeroValue4
  t5 := Try.underlying5
  a5 := Try.isAgg5
  z5 := Try.sizeOf5
  v5 := Try.zeroValue5
  t9 := Try.underlying9
  a9 := Try.isAgg9
  z9 := Try.sizeOf9
  v9 := Try.zeroValue9
  t22 := Try.underlying399
  a22 := Try.isAgg399
  z22 := Try.sizeOf399
  v22 := Try.zeroValue399
  t25 := Try.underlying405
  a25 := Try.isAgg405
  z25 := Try.sizeOf405
  v25 := Try.zeroValue405
  t39 := Try.underlying413
  a39 := Try.isAgg413
  z39 := Try.sizeOf413
  v39 := Try.zeroValue413
  t45 := Try.underlying481
  a45 := Try.isAgg481
  z45 := Try.sizeOf481
  v45 := Try.zeroValue481
  t46 := Try.underlying482
  a46 := Try.isAgg482
  z46 := Try.sizeOf482
  v46 := Try.zeroValue482
  t50 := Try.underlying360
  a50 := Try.isAgg360
  z50 := Try.sizeOf360
  v50 := Try.zeroValue360
  t53 := Try.underlying488
  a53 := Try.isAgg488
  z53 := Try.sizeOf488
  v53 := Try.zeroValue488
  t55 := Try.underlying490
  a55 := Try.isAgg490
  z55 := Try.sizeOf490
  v55 := Try.zeroValue490
  t66 := Try.underlying517
  a66 := Try.isAgg517
  z66 := Try.sizeOf517
  v66 := Try.zeroValue517
  t70 := Try.underlying448
  a70 := Try.isAgg448
  z70 := Try.sizeOf448
  v70 := Try.zeroValue448
  t76 := Try.underlying532
  a76 := Try.isAgg532
  z76 := Try.sizeOf532
  v76 := Try.zeroValue532
  t77 := Try.underlying533
  a77 := Try.isAgg533
  z77 := Try.sizeOf533
  v77 := Try.zeroValue533
noncomputable def ev_slices_SortFunc_Lchime_strike_chime_strike_k (n : Nat) (x1 : List (Int × Int × Int)) : Option (List (Int × Int × Int)) := chk (decide (x1.length < 4611686018427387904)) (some (pdqL cfCh x1))
theorem ft_slices_SortFunc_Lchime_strike_chime_strike_k {n : Nat} {x1 : List (Int × Int × Int)} {r : List (Int × Int × Int)} (h : ev_slices_SortFunc_Lchime_strike_chime_strike_k n x1 = some r) : FT Try.prog 297 [.ref 0, .fn 211 [] []] [.row 0 402 3 (List.map en_chime_strike x1)] [] (.tup []) [.row 0 402 3 (List.map en_chime_strike r)] := by
  obtain ⟨h1, h⟩ := chk_inv h;cases h;exact ft_sortK (k := 3) (enc := encCh) (en := en_chime_strike) (cf := cfCh) lays_slices_SortFunc_Lchime_strike_chime_strike_k (by decide) (fun _ => rfl) (fun _ => rfl) (fun x v hv => by simp [encCh] at hv; rcases hv with rfl | rfl | rfl <;> rfl) Try.isAgg402 Try.sizeOf402 swo_ch Try.call211 cmpLays_ch h1
def ev_top_pubSpan (n : Nat) (low1 : Int) (high2 : Int) : Option (Int × Int) :=
  some (low1, high2)
theorem fc_top_pubSpan {n : Nat} {low1 : Int} {high2 : Int} {r : Int × Int} (h : ev_top_pubSpan n low1 high2 = some r) : FC Try.prog 20 [vi low1, vi high2] [] (.agg [vi r.1, vi r.2]) [] := by
  refine introJ (nz := 8) Try.func20 rfl rfl rfl (fun w0 R0 env0 => ?_)
  rw [ev_top_pubSpan] at h;refine tr ?_;refine q0 (sp_alloc 0 rfl Try.zeroValue34 rfl) ?_;refine TL.nil ?_;refine tr ?_;refine qm ?_;refine qm ?_;refine q0 (sp_build (qs := [(0, vi low1), (1, vi high2)]) rfl bt34 rfl rfl rfl rfl) ?_;refine stoB 0 (cells' := [vi low1, vi high2]) rfl rfl trivial rfl rfl rfl rfl vt34 rfl rfl rfl ?_;refine TL.nil ?_;cases h;exact retJ [] (.cells rfl (mem_at 0 rfl) isBlk vt34 rfl rfl (.nil)) rfl trivial rfl rfl
def ev_slices_IndexFunc_Lapi_Span_api_Span_l0 (n : Nat) (s1 : List (Int × Int)) (f2 : (Int × Int) → Option Bool) : Nat → Int → Option Int
  | 0, _ => none
  | m + 1, i3 => cond (decide (i3 < (s1.length : Int))) (idx s1 i3 fun x4 => (f2 (x4.1, x4.2)).bind fun r5 => cond r5 (some i3) (chk (in64 (i3 + 1)) <| ev_slices_IndexFunc_Lapi_Span_api_Span_l0 n s1 f2 m (i3 + 1))) (some (-1))
theorem ok_slices_IndexFunc_Lapi_Span_api_Span_l0 {n : Nat} {w0 : World} {R0 : Nat → Prop} {env0 : Env} {r : Int} {s1 : List (Int × Int)} {f2 : (Int × Int) → Option Bool} : ∀ (m : Nat) (i3 : Int), ev_slices_IndexFunc_Lapi_Span_api_Span_l0 n s1 f2 m i3 = some r → TC Try.prog ⟨w0, fun _ => False, R0⟩ 19 (bodyPost Try.prog Try.f239 (Post ⟨w0, fun _ => False, R0⟩ env0 (vi r) [])) [.code (sub (bodyOf Try.f239) [1, 0, 1, 0, 0, 0]), .code (sub (bodyOf Try.f239) [1, 0, 1, 0, 0, 1]), .inLoop (sub (bodyOf Try.f239) [1, 0, 1, 0, 0]), .inBlock 0, .code (sub (bodyOf Try.f239) [1, 1])] ([(0, .ref 0), (1, .ref 1), (7, vi (s1.length : Int)), (8, vi i3)]) ([.ro 0 2 (List.map en_api_Span s1), .any 1 (D.fn Try.prog fe_funcapi_Span_bool fd_funcapi_Span_bool f2)]) := by
  intro m
  induction m with
  | zero => intro i3 h; exact none_no h
  | succ m ih =>
    intro i3 h;rw [ev_slices_IndexFunc_Lapi_Span_api_Span_l0] at h;refine TC.region ?_;refine q0 (sp_lss rfl rfl rfl) ?_;refine TL.nil ?_;refine TC.seq ?_;refine TC.cond (b := (decide (i3 < (s1.length : Int)))) rfl (fun h1 => ?_) (fun h1 => ?_)
    · have h := cond_t h h1;refine TC.skip ?_;refine TC.seq ?_;refine TC.block ?_;refine tr ?_;refine qm ?_;refine qa ?_;refine TL.nil ?_;refine tr ?_;refine qm ?_;refine qm ?_;refine qm ?_;obtain ⟨x4, h2, h3, h⟩ := idx_inv h;refine q1 0 rfl (sp_indexS rfl rfl rfl isRo sl39 h2 (map_get _ h3)) ?_;refine q1 0 rfl (sp_loadRA (i := (i3 : Int).toNat) (j := 0) (as_ := [vi x4.1, vi x4.2]) (ns := []) rfl rfl isRo vt34 rfl (map_get _ h3) rfl rfl (by decide) (.v (.v (.nil))) (nodup_of_B rfl)) ?_;obtain ⟨r5, h4, h⟩ := bind_inv h;refine q1 1 rfl (sp_callF (avs := [.agg [vi x4.1, vi x4.2]]) (v := vb r5) (x4.1, x4.2) rfl rfl rfl rfl rfl h4) ?_;refine TL.nil ?_;refine TC.cond (b := r5) rfl (fun h5 => ?_) (fun h5 => ?_)
      · have h := cond_t h h5;refine tr ?_;refine qm ?_;refine qa ?_;refine TL.nil ?_;cases h;exact retJ [] (.tmp rfl .nil) rfl trivial rfl rfl
      · have h := cond_f h h5;refine TC.skip ?_;refine TC.inBlock ?_;refine TC.region ?_;obtain ⟨h6, h⟩ := chk_inv h;refine q0 (sp_add rfl rfl rfl h6) ?_;refine qm ?_;refine TL.nil ?_;refine TC.inLoop ?_;refine TC.seq ?_;refine subJ [] (ih _ h) ?_ ?_ ?_
        · exact ⟨rfl, rfl, rfl, rfl, trivial⟩
        · exact ⟨mem_at 0 rfl, mem_at 1 rfl, trivial⟩
        · rfl
    · have h := cond_f h h1;refine TC.exit rfl ?_;refine tr ?_;refine qa ?_;refine TL.nil ?_;cases h;exact retJ [] (.tmp rfl .nil) rfl trivial rfl rfl
def ev_slices_IndexFunc_Lapi_Span_api_Span (n : Nat) (s1 : List (Int × Int)) (f2 : (Int × Int) → Option Bool) : Option Int :=
  ev_slices_IndexFunc_Lapi_Span_api_Span_l0 n s1 f2 n 0
theorem fc_slices_IndexFunc_Lapi_Span_api_Span {n : Nat} {s1 : List (Int × Int)} {f2 : (Int × Int) → Option Bool} {r : Int} (h : ev_slices_IndexFunc_Lapi_Span_api_Span n s1 f2 = some r) : FC Try.prog 239 [.ref 0, .ref 1] [.ro 0 2 (List.map en_api_Span s1), .any 1 (D.fn Try.prog fe_funcapi_Span_bool fd_funcapi_Span_bool f2)] (vi r) [] := by
  refine introJ (nz := 19) Try.func239 rfl rfl rfl (fun w0 R0 env0 => ?_)
  rw [ev_slices_IndexFunc_Lapi_Span_api_Span] at h;refine tr ?_;refine qa ?_;refine TL.nil ?_;refine TC.seq ?_;refine tr ?_;refine qm ?_;refine q1 0 rfl (sp_lenM (N := s1.length) (len_map _ _) rfl rfl isRo Try.underlying39) ?_;refine qm ?_;refine TL.nil ?_;refine TC.block ?_;refine TC.loop ?_;refine TC.seq ?_;refine subJ [] (ok_slices_IndexFunc_Lapi_Span_api_Span_l0 _ _ h) ?_ ?_ ?_
  · exact ⟨rfl, rfl, rfl, rfl, trivial⟩
  · exact ⟨mem_at 0 rfl, mem_at 1 rfl, trivial⟩
  · rfl
def ev_slices_ContainsFunc_Lapi_Span_api_Span (n : Nat) (s1 : List (Int × Int)) (f2 : (Int × Int) → Option Bool) : Option Bool :=
  (ev_slices_IndexFunc_Lapi_Span_api_Span n s1 f2).bind fun r3 => some (decide ((0 : Int) ≤ r3))
theorem fc_slices_ContainsFunc_Lapi_Span_api_Span {n : Nat} {s1 : List (Int × Int)} {f2 : (Int × Int) → Option Bool} {r : Bool} (h : ev_slices_ContainsFunc_Lapi_Span_api_Span n s1 f2 = some r) : FC Try.prog 150 [.ref 0, .ref 1] [.ro 0 2 (List.map en_api_Span s1), .any 1 (D.fn Try.prog fe_funcapi_Span_bool fd_funcapi_Span_bool f2)] (vb r) [] := by
  refine introJ (nz := 9) Try.func150 rfl rfl rfl (fun w0 R0 env0 => ?_)
  rw [ev_slices_ContainsFunc_Lapi_Span_api_Span] at h;refine tr ?_;refine qa ?_;refine TL.nil ?_;refine tr ?_;refine qm ?_;refine qm ?_;obtain ⟨r3, h1, h⟩ := bind_inv h;refine opN (need := [.ro 0 2 (List.map en_api_Span s1), .any 1 (D.fn Try.prog fe_funcapi_Span_bool fd_funcapi_Span_bool f2)]) [0, 1] ⟨rfl, rfl, trivial⟩ (sp_call (avs := [.ref 0, .ref 1]) (need := [.ro 0 2 (List.map en_api_Span s1), .any 1 (D.fn Try.prog fe_funcapi_Span_bool fd_funcapi_Span_bool f2)]) (v := vi r3) (news := []) rfl rfl rfl Try.call239 (atJ [] [] (fc_slices_IndexFunc_Lapi_Span_api_Span h1) rfl rfl) (.inl (roAll rfl))) rfl trivial rfl rfl ?_;refine q0 (sp_geq rfl rfl rfl) ?_;refine qa ?_;refine TL.nil ?_;cases h;exact retJ [] (.tmp rfl .nil) rfl trivial rfl rfl
def ev_top_pubHours_l0 (n : Nat) : Nat → Int → Int → Int → (List (Int × Int)) → Option ((List (Int × Int)))
  | 0, _, _, _, _ => none
  | m + 1, i3, i4, i5, l6 => cond (decide (i3 < 24)) (chk (room 16 (l6.length + ([(i4, i5)] : List (Int × Int)).length)) <| chk (in64 (i3 + 1)) <| ev_top_pubHours_l0 n m (i3 + 1) i4 i5 (l6 ++ ([(i4, i5)] : List (Int × Int)))) (some l6)
theorem ok_top_pubHours_l0 {n : Nat} {w0 : World} {R0 : Nat → Prop} {env0 : Env} {r : (List (Int × Int))} : ∀ (m : Nat) (i3 : Int) (i4 : Int) (i5 : Int) (l6 : List (Int × Int)), ev_top_pubHours_l0 n m i3 i4 i5 l6 = some r → TC Try.prog ⟨w0, fun _ => False, R0⟩ 15 (bodyPost Try.prog Try.f24 (Post ⟨w0, fun _ => False, R0⟩ env0 (.ref 0) [.row 0 34 2 (List.map en_api_Span r)])) [.code (sub (bodyOf Try.f24) [1, 1, 0, 1, 0, 0, 0, 0]), .code (sub (bodyOf Try.f24) [1, 1, 0, 1, 0, 0, 0, 1]), .code (sub (bodyOf Try.f24) [1, 1, 0, 1, 0, 0, 1]), .inLoop (sub (bodyOf Try.f24) [1, 1, 0, 1, 0, 0]), .inBlock 0, .code (sub (bodyOf Try.f24) [1, 1, 1])] ([(1, .ptr 0 0), (3, .ref 1), (4, vi i3)]) ([.blk 0 [vi i4, vi i5] 34, .row 1 34 2 (List.map en_api_Span l6)]) := by
  intro m
  induction m with
  | zero => intro i3 i4 i5 l6 h; exact none_no h
  | succ m ih =>
    intro i3 i4 i5 l6 h;rw [ev_top_pubHours_l0] at h;refine TC.region ?_;refine qm ?_;refine q0 (sp_lss rfl rfl rfl) ?_;refine TL.nil ?_;refine TC.cond (b := (decide (i3 < 24))) rfl (fun h1 => ?_) (fun h1 => ?_)
    · have h := cond_t h h1;refine TC.skip ?_;refine TC.seq ?_;refine TC.block ?_;refine TC.region ?_;refine qm ?_;refine q1 0 rfl (sp_loadBA rfl isBlk rfl vt34 rfl rfl) ?_;refine q0 (sp_buildSlice (qs := [.agg [vi i4, vi i5]]) (need := []) (els := List.map en_api_Span ([(i4, i5)] : List (Int × Int))) 2 rfl sl39 (by decide) (by decide) rfl rfl rfl (.v (.v (.nil))) (map_len fun _ => rfl) rfl rfl rfl) ?_;obtain ⟨h2, h⟩ := chk_inv h;refine appM 2 0 (N := l6.length) (N2 := ([(i4, i5)] : List (Int × Int)).length) 3 rfl rfl trivial rfl rfl rfl rfl rfl isOwn rfl sl39 (len_map _ _) (len_map _ _) h2 (map_app _ _ _) rfl ?_;refine qa ?_;refine TL.nil ?_;refine TC.inBlock ?_;refine TC.region ?_;refine qm ?_;obtain ⟨h3, h⟩ := chk_inv h;refine q0 (sp_add rfl rfl rfl h3) ?_;refine qa ?_;refine TL.nil ?_;refine TC.inLoop ?_;refine TC.seq ?_;refine TC.seq ?_;refine subJ [(1, 3)] (ih _ _ _ _ h) ?_ ?_ ?_
      · exact ⟨rfl, rfl, rfl, trivial⟩
      · exact ⟨mem_at 2 rfl, mem_at 0 rfl, trivial⟩
      · rfl
    · have h := cond_f h h1;refine TC.exit rfl ?_;refine tr ?_;refine qm ?_;refine qa ?_;refine TL.nil ?_;cases h;exact retJ [(0, 1)] (.tmp rfl .nil) rfl ⟨mem_at 1 rfl, trivial⟩ rfl rfl
def ev_top_pubHours (n : Nat) (s1 : Int) (s2 : Int) : Option ((List (Int × Int))) :=
  ev_top_pubHours_l0 n n 0 s1 s2 ([] : List (Int × Int))
theorem fc_top_pubHours {n : Nat} {s1 : Int} {s2 : Int} {r : (List (Int × Int))} (h : ev_top_pubHours n s1 s2 = some r) : FC Try.prog 24 [.agg [vi s1, vi s2]] [] (.ref 0) [.row 0 34 2 (List.map en_api_Span r)] := by
  refine introJ (nz := 15) Try.func24 rfl rfl rfl (fun w0 R0 env0 => ?_)
  rw [ev_top_pubHours] at h;refine tr ?_;refine q0 (sp_box 0 rfl rfl rfl rfl rfl) ?_;refine qa ?_;refine TL.nil ?_;refine tr ?_;refine q0 (sp_emptyM 1 (List.map en_api_Span []) rfl rfl sl39) ?_;refine qa ?_;refine TL.nil ?_;refine TC.seq ?_;refine tr ?_;refine qa ?_;refine TL.nil ?_;refine TC.block ?_;refine TC.loop ?_;refine TC.seq ?_;refine TC.seq ?_;refine subJ [] (ok_top_pubHours_l0 _ _ _ _ _ h) ?_ ?_ ?_
  · exact ⟨rfl, rfl, rfl, trivial⟩
  · exact ⟨mem_at 1 rfl, mem_at 0 rfl, trivial⟩
  · rfl
def ev_slices_IndexFunc_Lapi_ChimeCam_api_ChimeCam_l0 (n : Nat) (s1 : List (Int × Int × Int)) (f2 : (Int × Int × Int) → Option Bool) : Nat → Int → Option Int
  | 0, _ => none
  | m + 1, i3 => cond (decide (i3 < (s1.length : Int))) (idx s1 i3 fun x4 => (f2 (x4.1, x4.2.1, x4.2.2)).bind fun r5 => cond r5 (some i3) (chk (in64 (i3 + 1)) <| ev_slices_IndexFunc_Lapi_ChimeCam_api_ChimeCam_l0 n s1 f2 m (i3 + 1))) (some (-1))
theorem ok_slices_IndexFunc_Lapi_ChimeCam_api_ChimeCam_l0 {n : Nat} {w0 : World} {R0 : Nat → Prop} {env0 : Env} {r : Int} {s1 : List (Int × Int × Int)} {f2 : (Int × Int × Int) → Option Bool} : ∀ (m : Nat) (i3 : Int), ev_slices_IndexFunc_Lapi_ChimeCam_api_ChimeCam_l0 n s1 f2 m i3 = some r → TC Try.prog ⟨w0, fun _ => False, R0⟩ 19 (bodyPost Try.prog Try.f153 (Post ⟨w0, fun _ => False, R0⟩ env0 (vi r) [])) [.code (sub (bodyOf Try.f153) [1, 0, 1, 0, 0, 0]), .code (sub (bodyOf Try.f153) [1, 0, 1, 0, 0, 1]), .inLoop (sub (bodyOf Try.f153) [1, 0, 1, 0, 0]), .inBlock 0, .code (sub (bodyOf Try.f153) [1, 1])] ([(0, .ref 0), (1, .ref 1), (7, vi (s1.length : Int)), (8, vi i3)]) ([.ro 0 3 (List.map en_api_ChimeCam s1), .any 1 (D.fn Try.prog fe_funcapi_ChimeCam_bool fd_funcapi_ChimeCam_bool f2)]) := by
  intro m
  induction m with
  | zero => intro i3 h; exact none_no h
  | succ m ih =>
    intro i3 h;rw [ev_slices_IndexFunc_Lapi_ChimeCam_api_ChimeCam_l0] at h;refine TC.region ?_;refine q0 (sp_lss rfl rfl rfl) ?_;refine TL.nil ?_;refine TC.seq ?_;refine TC.cond (b := (decide (i3 < (s1.length : Int)))) rfl (fun h1 => ?_) (fun h1 => ?_)
    · have h := cond_t h h1;refine TC.skip ?_;refine TC.seq ?_;refine TC.block ?_;refine tr ?_;refine qm ?_;refine qa ?_;refine TL.nil ?_;refine tr ?_;refine qm ?_;refine qm ?_;refine qm ?_;obtain ⟨x4, h2, h3, h⟩ := idx_inv h;refine q1 0 rfl (sp_indexS rfl rfl rfl isRo sl64 h2 (map_get _ h3)) ?_;refine q1 0 rfl (sp_loadRA (i := (i3 : Int).toNat) (j := 0) (as_ := [vi x4.1, vi x4.2.1, vi x4.2.2]) (ns := []) rfl rfl isRo vt63 rfl (map_get _ h3) rfl rfl (by decide) (.v (.v (.v (.nil)))) (nodup_of_B rfl)) ?_;obtain ⟨r5, h4, h⟩ := bind_inv h;refine q1 1 rfl (sp_callF (avs := [.agg [vi x4.1, vi x4.2.1, vi x4.2.2]]) (v := vb r5) (x4.1, x4.2.1, x4.2.2) rfl rfl rfl rfl rfl h4) ?_;refine TL.nil ?_;refine TC.cond (b := r5) rfl (fun h5 => ?_) (fun h5 => ?_)
      · have h := cond_t h h5;refine tr ?_;refine qm ?_;refine qa ?_;refine TL.nil ?_;cases h;exact retJ [] (.tmp rfl .nil) rfl trivial rfl rfl
      · have h := cond_f h h5;refine TC.skip ?_;refine TC.inBlock ?_;refine TC.region ?_;obtain ⟨h6, h⟩ := chk_inv h;refine q0 (sp_add rfl rfl rfl h6) ?_;refine qm ?_;refine TL.nil ?_;refine TC.inLoop ?_;refine TC.seq ?_;refine subJ [] (ih _ h) ?_ ?_ ?_
        · exact ⟨rfl, rfl, rfl, rfl, trivial⟩
        · exact ⟨mem_at 0 rfl, mem_at 1 rfl, trivial⟩
        · rfl
    · have h := cond_f h h1;refine TC.exit rfl ?_;refine tr ?_;refine qa ?_;refine TL.nil ?_;cases h;exact retJ [] (.tmp rfl .nil) rfl trivial rfl rfl
def ev_slices_IndexFunc_Lapi_ChimeCam_api_ChimeCam (n : Nat) (s1 : List (Int × Int × Int)) (f2 : (Int × Int × Int) → Option Bool) : Option Int :=
  ev_slices_IndexFunc_Lapi_ChimeCam_api_ChimeCam_l0 n s1 f2 n 0
theorem fc_slices_IndexFunc_Lapi_ChimeCam_api_ChimeCam {n : Nat} {s1 : List (Int × Int × Int)} {f2 : (Int × Int × Int) → Option Bool} {r : Int} (h : ev_slices_IndexFunc_Lapi_ChimeCam_api_ChimeCam n s1 f2 = some r) : FC Try.prog 153 [.ref 0, .ref 1] [.ro 0 3 (List.map en_api_ChimeCam s1), .any 1 (D.fn Try.prog fe_funcapi_ChimeCam_bool fd_funcapi_ChimeCam_bool f2)] (vi r) [] := by
  refine introJ (nz := 19) Try.func153 rfl rfl rfl (fun w0 R0 env0 => ?_)
  rw [ev_slices_IndexFunc_Lapi_ChimeCam_api_ChimeCam] at h;refine tr ?_;refine qa ?_;refine TL.nil ?_;refine TC.seq ?_;refine tr ?_;refine qm ?_;refine q1 0 rfl (sp_lenM (N := s1.length) (len_map _ _) rfl rfl isRo Try.underlying64) ?_;refine qm ?_;refine TL.nil ?_;refine TC.block ?_;refine TC.loop ?_;refine TC.seq ?_;refine subJ [] (ok_slices_IndexFunc_Lapi_ChimeCam_api_ChimeCam_l0 _ _ h) ?_ ?_ ?_
  · exact ⟨rfl, rfl, rfl, rfl, trivial⟩
  · exact ⟨mem_at 0 rfl, mem_at 1 rfl, trivial⟩
  · rfl
def ev_slices_ContainsFunc_Lapi_ChimeCam_api_ChimeCam (n : Nat) (s1 : List (Int × Int × Int)) (f2 : (Int × Int × Int) → Option Bool) : Option Bool :=
  (ev_slices_IndexFunc_Lapi_ChimeCam_api_ChimeCam n s1 f2).bind fun r3 => some (decide ((0 : Int) ≤ r3))
theorem fc_slices_ContainsFunc_Lapi_ChimeCam_api_ChimeCam {n : Nat} {s1 : List (Int × Int × Int)} {f2 : (Int × Int × Int) → Option Bool} {r : Bool} (h : ev_slices_ContainsFunc_Lapi_ChimeCam_api_ChimeCam n s1 f2 = some r) : FC Try.prog 73 [.ref 0, .ref 1] [.ro 0 3 (List.map en_api_ChimeCam s1), .any 1 (D.fn Try.prog fe_funcapi_ChimeCam_bool fd_funcapi_ChimeCam_bool f2)] (vb r) [] := by
  refine introJ (nz := 9) Try.func73 rfl rfl rfl (fun w0 R0 env0 => ?_)
  rw [ev_slices_ContainsFunc_Lapi_ChimeCam_api_ChimeCam] at h;refine tr ?_;refine qa ?_;refine TL.nil ?_;refine tr ?_;refine qm ?_;refine qm ?_;obtain ⟨r3, h1, h⟩ := bind_inv h;refine opN (need := [.ro 0 3 (List.map en_api_ChimeCam s1), .any 1 (D.fn Try.prog fe_funcapi_ChimeCam_bool fd_funcapi_ChimeCam_bool f2)]) [0, 1] ⟨rfl, rfl, trivial⟩ (sp_call (avs := [.ref 0, .ref 1]) (need := [.ro 0 3 (List.map en_api_ChimeCam s1), .any 1 (D.fn Try.prog fe_funcapi_ChimeCam_bool fd_funcapi_ChimeCam_bool f2)]) (v := vi r3) (news := []) rfl rfl rfl Try.call153 (atJ [] [] (fc_slices_IndexFunc_Lapi_ChimeCam_api_ChimeCam h1) rfl rfl) (.inl (roAll rfl))) rfl trivial rfl rfl ?_;refine q0 (sp_geq rfl rfl rfl) ?_;refine qa ?_;refine TL.nil ?_;cases h;exact retJ [] (.tmp rfl .nil) rfl trivial rfl rfl
def ev_slices_IndexFunc_Lapi_ChimeBlow_api_ChimeBlow_l0 (n : Nat) (s1 : List (Int × Int)) (f2 : (Int × Int) → Option Bool) : Nat → Int → Option Int
  | 0, _ => none
  | m + 1, i3 => cond (decide (i3 < (s1.length : Int))) (idx s1 i3 fun x4 => (f2 (x4.1, x4.2)).bind fun r5 => cond r5 (some i3) (chk (in64 (i3 + 1)) <| ev_slices_IndexFunc_Lapi_ChimeBlow_api_ChimeBlow_l0 n s1 f2 m (i3 + 1))) (some (-1))
theorem ok_slices_IndexFunc_Lapi_ChimeBlow_api_ChimeBlow_l0 {n : Nat} {w0 : World} {R0 : Nat → Prop} {env0 : Env} {r : Int} {s1 : List (Int × Int)} {f2 : (Int × Int) → Option Bool} : ∀ (m : Nat) (i3 : Int), ev_slices_IndexFunc_Lapi_ChimeBlow_api_ChimeBlow_l0 n s1 f2 m i3 = some r → TC Try.prog ⟨w0, fun _ => False, R0⟩ 19 (bodyPost Try.prog Try.f316 (Post ⟨w0, fun _ => False, R0⟩ env0 (vi r) [])) [.code (sub (bodyOf Try.f316) [1, 0, 1, 0, 0, 0]), .code (sub (bodyOf Try.f316) [1, 0, 1, 0, 0, 1]), .inLoop (sub (bodyOf Try.f316) [1, 0, 1, 0, 0]), .inBlock 0, .code (sub (bodyOf Try.f316) [1, 1])] ([(0, .ref 0), (1, .ref 1), (7, vi (s1.length : Int)), (8, vi i3)]) ([.ro 0 2 (List.map en_api_ChimeBlow s1), .any 1 (D.fn Try.prog fe_funcapi_ChimeBlow_bool fd_funcapi_ChimeBlow_bool f2)]) := by
  intro m
  induction m with
  | zero => intro i3 h; exact none_no h
  | succ m ih =>
    intro i3 h;rw [ev_slices_IndexFunc_Lapi_ChimeBlow_api_ChimeBlow_l0] at h;refine TC.region ?_;refine q0 (sp_lss rfl rfl rfl) ?_;refine TL.nil ?_;refine TC.seq ?_;refine TC.cond (b := (decide (i3 < (s1.length : Int)))) rfl (fun h1 => ?_) (fun h1 => ?_)
    · have h := cond_t h h1;refine TC.skip ?_;refine TC.seq ?_;refine TC.block ?_;refine tr ?_;refine qm ?_;refine qa ?_;refine TL.nil ?_;refine tr ?_;refine qm ?_;refine qm ?_;refine qm ?_;obtain ⟨x4, h2, h3, h⟩ := idx_inv h;refine q1 0 rfl (sp_indexS rfl rfl rfl isRo sl138 h2 (map_get _ h3)) ?_;refine q1 0 rfl (sp_loadRA (i := (i3 : Int).toNat) (j := 0) (as_ := [vi x4.1, vi x4.2]) (ns := []) rfl rfl isRo vt201 rfl (map_get _ h3) rfl rfl (by decide) (.v (.v (.nil))) (nodup_of_B rfl)) ?_;obtain ⟨r5, h4, h⟩ := bind_inv h;refine q1 1 rfl (sp_callF (avs := [.agg [vi x4.1, vi x4.2]]) (v := vb r5) (x4.1, x4.2) rfl rfl rfl rfl rfl h4) ?_;refine TL.nil ?_;refine TC.cond (b := r5) rfl (fun h5 => ?_) (fun h5 => ?_)
      · have h := cond_t h h5;refine tr ?_;refine qm ?_;refine qa ?_;refine TL.nil ?_;cases h;exact retJ [] (.tmp rfl .nil) rfl trivial rfl rfl
      · have h := cond_f h h5;refine TC.skip ?_;refine TC.inBlock ?_;refine TC.region ?_;obtain ⟨h6, h⟩ := chk_inv h;refine q0 (sp_add rfl rfl rfl h6) ?_;refine qm ?_;refine TL.nil ?_;refine TC.inLoop ?_;refine TC.seq ?_;refine subJ [] (ih _ h) ?_ ?_ ?_
        · exact ⟨rfl, rfl, rfl, rfl, trivial⟩
        · exact ⟨mem_at 0 rfl, mem_at 1 rfl, trivial⟩
        · rfl
    · have h := cond_f h h1;refine TC.exit rfl ?_;refine tr ?_;refine qa ?_;refine TL.nil ?_;cases h;exact retJ [] (.tmp rfl .nil) rfl trivial rfl rfl
def ev_slices_IndexFunc_Lapi_ChimeBlow_api_ChimeBlow (n : Nat) (s1 : List (Int × Int)) (f2 : (Int × Int) → Option Bool) : Option Int :=
  ev_slices_IndexFunc_Lapi_ChimeBlow_api_ChimeBlow_l0 n s1 f2 n 0
theorem fc_slices_IndexFunc_Lapi_ChimeBlow_api_ChimeBlow {n : Nat} {s1 : List (Int × Int)} {f2 : (Int × Int) → Option Bool} {r : Int} (h : ev_slices_IndexFunc_Lapi_ChimeBlow_api_ChimeBlow n s1 f2 = some r) : FC Try.prog 316 [.ref 0, .ref 1] [.ro 0 2 (List.map en_api_ChimeBlow s1), .any 1 (D.fn Try.prog fe_funcapi_ChimeBlow_bool fd_funcapi_ChimeBlow_bool f2)] (vi r) [] := by
  refine introJ (nz := 19) Try.func316 rfl rfl rfl (fun w0 R0 env0 => ?_)
  rw [ev_slices_IndexFunc_Lapi_ChimeBlow_api_ChimeBlow] at h;refine tr ?_;refine qa ?_;refine TL.nil ?_;refine TC.seq ?_;refine tr ?_;refine qm ?_;refine q1 0 rfl (sp_lenM (N := s1.length) (len_map _ _) rfl rfl isRo Try.underlying138) ?_;refine qm ?_;refine TL.nil ?_;refine TC.block ?_;refine TC.loop ?_;refine TC.seq ?_;refine subJ [] (ok_slices_IndexFunc_Lapi_ChimeBlow_api_ChimeBlow_l0 _ _ h) ?_ ?_ ?_
  · exact ⟨rfl, rfl, rfl, rfl, trivial⟩
  · exact ⟨mem_at 0 rfl, mem_at 1 rfl, trivial⟩
  · rfl
def ev_slices_ContainsFunc_Lapi_ChimeBlow_api_ChimeBlow (n : Nat) (s1 : List (Int × Int)) (f2 : (Int × Int) → Option Bool) : Option Bool :=
  (ev_slices_IndexFunc_Lapi_ChimeBlow_api_ChimeBlow n s1 f2).bind fun r3 => some (decide ((0 : Int) ≤ r3))
theorem fc_slices_ContainsFunc_Lapi_ChimeBlow_api_ChimeBlow {n : Nat} {s1 : List (Int × Int)} {f2 : (Int × Int) → Option Bool} {r : Bool} (h : ev_slices_ContainsFunc_Lapi_ChimeBlow_api_ChimeBlow n s1 f2 = some r) : FC Try.prog 242 [.ref 0, .ref 1] [.ro 0 2 (List.map en_api_ChimeBlow s1), .any 1 (D.fn Try.prog fe_funcapi_ChimeBlow_bool fd_funcapi_ChimeBlow_bool f2)] (vb r) [] := by
  refine introJ (nz := 9) Try.func242 rfl rfl rfl (fun w0 R0 env0 => ?_)
  rw [ev_slices_ContainsFunc_Lapi_ChimeBlow_api_ChimeBlow] at h;refine tr ?_;refine qa ?_;refine TL.nil ?_;refine tr ?_;refine qm ?_;refine qm ?_;obtain ⟨r3, h1, h⟩ := bind_inv h;refine opN (need := [.ro 0 2 (List.map en_api_ChimeBlow s1), .any 1 (D.fn Try.prog fe_funcapi_ChimeBlow_bool fd_funcapi_ChimeBlow_bool f2)]) [0, 1] ⟨rfl, rfl, trivial⟩ (sp_call (avs := [.ref 0, .ref 1]) (need := [.ro 0 2 (List.map en_api_ChimeBlow s1), .any 1 (D.fn Try.prog fe_funcapi_ChimeBlow_bool fd_funcapi_ChimeBlow_bool f2)]) (v := vi r3) (news := []) rfl rfl rfl Try.call316 (atJ [] [] (fc_slices_IndexFunc_Lapi_ChimeBlow_api_ChimeBlow h1) rfl rfl) (.inl (roAll rfl))) rfl trivial rfl rfl ?_;refine q0 (sp_geq rfl rfl rfl) ?_;refine qa ?_;refine TL.nil ?_;cases h;exact retJ [] (.tmp rfl .nil) rfl trivial rfl rfl
end
end Go.Proofs.Ytgkoldcmbcbbpaa.Sy
