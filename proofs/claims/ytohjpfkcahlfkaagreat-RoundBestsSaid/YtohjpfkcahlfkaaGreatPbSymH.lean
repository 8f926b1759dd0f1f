/- The small logic of symbolic states: contracts under other names; what the printed proofs use. -/
import Derived.Test.YtohjpfkcahlfkaaGreatPbSymG
set_option linter.unusedSimpArgs false
set_option linter.unusedVariables false
namespace Go.Proofs.YtohjpfkcahlfkaaGreat.Sy
open Go.RowKit
theorem FC.at {P : Program} {f : Nat} {args : List AV} {need news : List NEnt} {v : AV} (p q : Nat → Nat) (h : FC P f args need v news) (hq : (news.map fun x => q x.name).Nodup) (hcl : closedN v news = true) :
    FC P f (AV.renL p args) (need.map (NEnt.ren p)) (v.ren q) (news.map (NEnt.ren q)) := by
  classical
  intro env w0 R0 hn hR
  rw [AV.denL_ren]
  refine (h (fun n => env (p n)) w0 R0 (fun x hx => ?_) hR).mono ?_
  · have := hn (x.ren p) (List.mem_map.2 ⟨x, hx, rfl⟩)
    rw [NEnt.holds_ren] at this; exact this
  rintro e W' ⟨u, he, env', O', R', h1, h2, hst⟩
  have hcl' : ∀ n, (n ∈ v.ns ∨ ∃ x ∈ news, n ∈ x.ns) → ∃ x ∈ news, x.name = n := by
    intro n hn
    have := List.all_eq_true.1 hcl n (by rw [List.mem_append, List.mem_flatMap]; exact hn)
    simpa [List.mem_map] using this
  have hinj := nodup_map_name hq
  let inv : Nat → Nat := fun k => if h : ∃ x ∈ news, q x.name = k then (Classical.choose h).name else k
  have hinv : ∀ x ∈ news, inv (q x.name) = x.name := by
    intro x hx
    have hex : ∃ y ∈ news, q y.name = q x.name := ⟨x, hx, rfl⟩
    simp only [inv, hex, dif_pos]
    obtain ⟨g1, g2⟩ := Classical.choose_spec hex
    cases Classical.em ((Classical.choose hex).name = x.name) with
    | inl e => exact e
    | inr e => exact absurd g2 (hinj _ g1 x hx e)
  let env2 : Env := fun k => if ∃ x ∈ news, q x.name = k then env' (inv k) else env k
  have henv2 : ∀ n, (n ∈ v.ns ∨ ∃ x ∈ news, n ∈ x.ns) → env2 (q n) = env' n := by
    intro n hn
    obtain ⟨x, hx, rfl⟩ := hcl' n hn
    have hex : ∃ y ∈ news, q y.name = q x.name := ⟨x, hx, rfl⟩
    simp only [env2, hex, if_true, hinv x hx]
  refine ⟨u, he, env2, fun k => O' (inv k), R', fun n hn => ?_, ?_, hst.keep, fun y hy => ?_, fun y hy b hb => ?_, fun y hy z hz hne b hb => ?_, hst.ro, hst.r0, ?_⟩
  · have : ¬ ∃ x ∈ news, q x.name = n := fun ⟨x, hx, e⟩ => hn (x.ren q) (List.mem_map.2 ⟨x, hx, rfl⟩) (by rw [NEnt.name_ren]; exact e)
    simp only [env2, this, if_false]
  · rw [h2, AV.den_ren]
    exact AV.den_congr v fun n hn => (henv2 n (.inl (AV.has_ns v hn))).symm
  · obtain ⟨x, hx, rfl⟩ := List.mem_map.1 hy
    rw [NEnt.holds_ren, NEnt.name_ren, hinv x hx]
    exact NEnt.holds_congr (fun n hn => (henv2 n (.inr ⟨x, hx, NEnt.has_ns hn⟩)).symm) (hst.holds x hx)
  · obtain ⟨x, hx, rfl⟩ := List.mem_map.1 hy
    rw [NEnt.name_ren, hinv x hx] at hb
    exact hst.own x hx b hb
  · obtain ⟨x, hx, rfl⟩ := List.mem_map.1 hy
    obtain ⟨x2, hx2, rfl⟩ := List.mem_map.1 hz
    rw [NEnt.name_ren, hinv x hx, NEnt.name_ren, hinv x2 hx2] at hb
    rw [NEnt.name_ren, NEnt.name_ren] at hne
    exact hst.apart x hx x2 hx2 (fun e => hne (by rw [e])) b hb
  · rw [List.map_map]
    have : (NEnt.name ∘ NEnt.ren q) = fun x => q x.name := by funext x; exact NEnt.name_ren q x
    rw [this]; exact hq
section
variable {P : Program} {c : Ctx} {sz : Fm} {Q : Exit → Act → World → Prop} {t : List Item} {s : List (Nat × AV)} {V : List NEnt} {ops : Array Oper} {rest : List Oper} {o : Oper}
theorem op0 {v : AV} {news : List NEnt} {d : Nat} (hs : OpSpec P o (rho s) [] v news) (hd : o.dst = some d) (hw : Wanted ops s o) (hlt : Nat.blt d sz.sz = true) (hf : freshN news s V = true)
    (k : TL P c sz Q ops rest t ((d, v) :: s) (news ++ V)) : TL P c sz Q ops (o :: rest) t s V :=
  TL.op [] hs hd hw (by simpa [Nat.blt_eq] using hlt) (by simp) hf k
theorem op1 {v : AV} {news : List NEnt} {d : Nat} {y : NEnt} (i : Nat) (hy : V[i]? = some y) (hs : OpSpec P o (rho s) [y] v news) (hd : o.dst = some d) (hw : Wanted ops s o) (hlt : Nat.blt d sz.sz = true) (hf : freshN news s V = true)
    (k : TL P c sz Q ops rest t ((d, v) :: s) (news ++ V)) : TL P c sz Q ops (o :: rest) t s V :=
  TL.op [y] hs hd hw (by simpa [Nat.blt_eq] using hlt) (fun x hx => by rw [List.mem_singleton] at hx; subst hx; exact mem_at i hy) hf k
def At (V : List NEnt) : List Nat → List NEnt → Prop
  | [], [] => True
  | i :: is, x :: xs => V[i]? = some x ∧ At V is xs
  | _, _ => False
theorem At.mem {V : List NEnt} : ∀ {is : List Nat} {xs : List NEnt}, At V is xs → ∀ x ∈ xs, x ∈ V := by
  intro is
  induction is with
  | nil => intro xs h; cases xs with
    | nil => simp
    | cons x xs => exact h.elim
  | cons i is ih => intro xs h; cases xs with
    | nil => exact h.elim
    | cons y ys =>
      intro x hx
      rcases List.mem_cons.1 hx with rfl | hx
      · exact mem_at i h.1
      · exact ih h.2 x hx
theorem opN {v : AV} {news need : List NEnt} {d : Nat} (is : List Nat) (hy : At V is need) (hs : OpSpec P o (rho s) need v news) (hd : o.dst = some d) (hw : Wanted ops s o) (hlt : Nat.blt d sz.sz = true) (hf : freshN news s V = true)
    (k : TL P c sz Q ops rest t ((d, v) :: s) (news ++ V)) : TL P c sz Q ops (o :: rest) t s V :=
  TL.op need hs hd hw (by simpa [Nat.blt_eq] using hlt) hy.mem hf k
theorem opSkip {d : Nat} (hd : o.dst = some d) (hw : Unwanted ops s o) (hlt : Nat.blt d sz.sz = true) (k : TL P c sz Q ops rest t ((d, .val undef) :: s) V) : TL P c sz Q ops (o :: rest) t s V :=
  TL.skipG hd hw (by simpa [Nat.blt_eq] using hlt) k
theorem TC.condT {o : Operand} {x y : Code} (hc : rho s o = some (.val (.bool true))) (h : TC P c sz Q (.code x :: t) s V) : TC P c sz Q (.code (.cond o x y) :: t) s V :=
  TC.cond hc (fun _ => h) (fun h => by cases h)
theorem TC.condF {o : Operand} {x y : Code} (hc : rho s o = some (.val (.bool false))) (h : TC P c sz Q (.code y :: t) s V) : TC P c sz Q (.code (.cond o x y) :: t) s V :=
  TC.cond hc (fun h => by cases h) (fun _ => h)
theorem DAll.op' {outs : List DO} {i : Nat} {l : List Oper} {d : DO} {ds : List DO} (hs : OpSpec P o (rho s) d.need d.v d.news) (hw : Wanted ops s o) (ht : d.take = []) (hn : ∀ x ∈ d.need, NeedOk ops outs V i x) (h : DAll P ops outs V (i + 1) l ds (putS o d.v s)) : DAll P ops outs V i (o :: l) (d :: ds) s :=
  .op hw (by rw [ht]; exact hs.t) (by rw [ht]; simp) hn h
theorem DAll.opT {outs : List DO} {i : Nat} {l : List Oper} {d : DO} {ds : List DO} (hs : TSpec P o (rho s) d.take d.need d.v d.news) (hw : Wanted ops s o) (ht : ∀ x ∈ d.take, NeedOk ops outs V i x) (hn : ∀ x ∈ d.need, NeedOk ops outs V i x) (h : DAll P ops outs V (i + 1) l ds (putS o d.v s)) : DAll P ops outs V i (o :: l) (d :: ds) s :=
  .op hw hs ht hn h
end
def From (ops : Array Oper) (outs : List DO) (V : List NEnt) (i : Nat) : List (Option Nat × Nat) → List NEnt → Prop
  | [], [] => True
  | (none, k) :: ps, x :: xs => (V[k]? = some x ∧ delOk ops outs i none x.name = true) ∧ From ops outs V i ps xs
  | (some j, k) :: ps, x :: xs => (∃ d, outs[j]? = some d ∧ anc ops ops.size i j = true ∧ d.news[k]? = some x ∧ delOk ops outs i (some j) x.name = true) ∧ From ops outs V i ps xs
  | _, _ => False
theorem From.ok {ops : Array Oper} {outs : List DO} {V : List NEnt} {i : Nat} : ∀ {ps : List (Option Nat × Nat)} {xs : List NEnt}, From ops outs V i ps xs → ∀ x ∈ xs, NeedOk ops outs V i x := by
  intro ps
  induction ps with
  | nil => intro xs h; cases xs with
    | nil => simp
    | cons x xs => exact h.elim
  | cons p ps ih =>
    intro xs h
    obtain ⟨j, k⟩ := p
    cases xs with
    | nil => cases j <;> exact h.elim
    | cons y ys =>
      intro x hx
      cases j with
      | none =>
        rcases List.mem_cons.1 hx with rfl | hx
        · exact .inl ⟨mem_at k h.1.1, h.1.2⟩
        · exact ih h.2 x hx
      | some j =>
        rcases List.mem_cons.1 hx with rfl | hx
        · obtain ⟨d, h1, h2, h3, h4⟩ := h.1
          exact .inr ⟨j, d, h1, h2, mem_at k h3, h4⟩
        · exact ih h.2 x hx
def chk {α : Type} (b : Bool) (k : Option α) : Option α := cond b k none
theorem chk_inv {α : Type} {b : Bool} {k : Option α} {r : α} (h : chk b k = some r) : b = true ∧ k = some r := by
  cases b
  · cases h
  · exact ⟨rfl, h⟩
def idx {α β : Type} (xs : List α) (i : Int) (k : α → Option β) : Option β := chk (decide (0 ≤ i)) (xs[i.toNat]?.bind k)
theorem idx_inv {α β : Type} {xs : List α} {i : Int} {k : α → Option β} {r : β} (h : idx xs i k = some r) : ∃ x, decide (0 ≤ i) = true ∧ xs[i.toNat]? = some x ∧ k x = some r := by
  obtain ⟨h1, h2⟩ := chk_inv h
  obtain ⟨x, h3, h4⟩ := Option.bind_eq_some_iff.1 h2
  exact ⟨x, h1, h3, h4⟩
theorem bind_inv {α β : Type} {e : Option α} {k : α → Option β} {r : β} (h : e.bind k = some r) : ∃ x, e = some x ∧ k x = some r := Option.bind_eq_some_iff.1 h
theorem cond_t {α : Type} {b : Bool} {x y : Option α} {r : α} (h : cond b x y = some r) (hb : b = true) : x = some r := by subst hb; exact h
theorem cond_f {α : Type} {b : Bool} {x y : Option α} {r : α} (h : cond b x y = some r) (hb : b = false) : y = some r := by subst hb; exact h
theorem map_get {α β : Type} {xs : List α} {i : Nat} {x : α} (f : α → β) (h : xs[i]? = some x) : (xs.map f)[i]? = some (f x) := by simp [h]
theorem map_app {α β : Type} (xs ys : List α) (f : α → β) : xs.map f ++ ys.map f = (xs ++ ys).map f := List.map_append.symm
theorem map_cut {α β : Type} (xs : List α) (f : α → β) (l h : Nat) : ((xs.map f).take h).drop l = ((xs.take h).drop l).map f := by simp [List.map_take, List.map_drop]
theorem map_set {α β : Type} (xs : List α) (f : α → β) (i : Nat) (x : α) : (xs.map f).set i (f x) = (xs.set i x).map f := by simp [List.map_set]
theorem len_map {α β : Type} (xs : List α) (f : α → β) : (xs.map f).length = xs.length := List.length_map ..
def sub : Code → List Nat → Code
  | c, [] => c
  | .seq a b, i :: p => if i = 0 then sub a p else sub b p
  | .cond _ a b, i :: p => if i = 0 then sub a p else sub b p
  | .block _ a, _ :: p => sub a p
  | .loop a, _ :: p => sub a p
  | .scope a, _ :: p => sub a p
  | .rangeFunc _ _ a b, i :: p => if i = 0 then sub a p else sub b p
  | c, _ => c
def bodyOf (f : Func) : Code := f.body.getD .skip
end Go.Proofs.YtohjpfkcahlfkaaGreat.Sy
