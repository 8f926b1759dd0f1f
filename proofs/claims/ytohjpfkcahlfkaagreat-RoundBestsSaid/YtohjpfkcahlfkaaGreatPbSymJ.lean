/- The small logic of symbolic states: side conditions as Bools. -/
import Derived.Test.YtohjpfkcahlfkaaGreatPbSymI
set_option linter.unusedSimpArgs false
set_option linter.unusedVariables false
namespace Go.Proofs.YtohjpfkcahlfkaaGreat.Sy
open Go.RowKit
def nodupB : List Nat → Bool
  | [] => true
  | a :: l => !(l.contains a) && nodupB l
theorem nodup_of_B : ∀ {l : List Nat}, nodupB l = true → l.Nodup := by
  intro l
  induction l with
  | nil => intro _; simp
  | cons a l ih => intro h; simp only [nodupB, Bool.and_eq_true, Bool.not_eq_true', List.contains_eq_mem, decide_eq_false_iff_not] at h; exact List.nodup_cons.2 ⟨h.1, ih h.2⟩
def rnA (l : List (Nat × Nat)) (n : Nat) : Nat := match l with
  | [] => n
  | (a, b) :: l => if a = n then b else rnA l n
section
variable {P : Program} {c : Ctx} {nz : Nat} {sz : Fm} {Q : Exit → Act → World → Prop} {t : List Item} {s s' : List (Nat × AV)} {V V' : List NEnt} {ops : Array Oper} {rest : List Oper} {o : Oper}
theorem subJ (p : List (Nat × Nat)) (h : TC P c sz Q t s' V') (hs : SubS (rnA p) s s') (hV : SubV (rnA p) V V') (hn : nodupB (V'.map fun x => rnA p x.name) = true) : TC P c sz Q t s V := TC.sub (rnA p) h hs hV (nodup_of_B hn)
theorem retJ {fn : Func} {env0 : Env} (p : List (Nat × Nat)) {v : AV} {news : List NEnt} {m : List AV} (hr : ResL P s V fn.results.toList m) (hv : v.ren (rnA p) = resAV m) (hV : SubV (rnA p) V news) (hn : nodupB (news.map fun x => rnA p x.name) = true) (hcl : closedN v news = true) :
    TC P c (Fm.of nz) (bodyPost P fn (Post c env0 v news)) (.code .ret :: t) s V := TC.ret (rnA p) hr hv hV (nodup_of_B hn) hcl
theorem introJ {fn : Func} {f : Nat} {body : Code} {args : List AV} {need news : List NEnt} {v : AV} (hf : P.funcs[f]? = some fn) (hb : fn.body = some body) (hsz : args.length + (fn.ntmps - args.length) = nz) (hnd : nodupB (need.map NEnt.name) = true)
    (h : ∀ (w0 : World) (R0 : Nat → Prop) (env0 : Env), TC P ⟨w0, fun _ => False, R0⟩ (Fm.of nz) (bodyPost P fn (Post ⟨w0, fun _ => False, R0⟩ env0 v news)) [.code body] (args.zipIdx.map fun p => (p.2, p.1)) need) : FC P f args need v news :=
  FC.intro hf hb hsz (nodup_of_B hnd) h
theorem drawJ {id : Nat} {l : List Oper} (m : Nat) (outs : List DO) (hm : P.follows .mixedOrders = true) (hd : dStatic l.toArray m sz.sz = true) (hl : outs.length = m) (hf : dFresh l.toArray outs s V = true) (hnd : nodupB ((vAfter outs V).map NEnt.name) = true)
    (hall : DAll P l.toArray outs V 0 l outs s) (k : TL P c sz Q l.toArray (l.drop m) t (sAfter l outs s) (vAfter outs V)) : TC P c sz Q (.code (.region id l.toArray true) :: t) s V :=
  TC.draw m outs hm hd hl hf (nodup_of_B hnd) hall k
theorem atJ {f : Nat} {args : List AV} {need news : List NEnt} {v : AV} (p q : List (Nat × Nat)) (h : FC P f args need v news) (hq : nodupB (news.map fun x => rnA q x.name) = true) (hcl : closedN v news = true) :
    FC P f (AV.renL (rnA p) args) (need.map (NEnt.ren (rnA p))) (v.ren (rnA q)) (news.map (NEnt.ren (rnA q))) := FC.at (rnA p) (rnA q) h (nodup_of_B hq) hcl
theorem boolLit (d : Nat) {b b' : Bool} (hs : look s d = some (.val (.bool b))) (hb : b = b') : (TC P c sz Q t ((d, .val (.bool b')) :: s) V → TC P c sz Q t s V) ∧ (TL P c sz Q ops rest t ((d, .val (.bool b')) :: s) V → TL P c sz Q ops rest t s V) := by
  subst hb
  refine ghost fun env tm W O R hfr hst => ⟨env, O, R, ⟨hfr.1, fun t a ha => ?_⟩, hst⟩
  simp only [look] at ha
  split at ha
  · rename_i e; subst e; cases ha; exact hfr.2 _ _ hs
  · exact hfr.2 t a ha
theorem nilRowM (d n E size : Nat) (els : List (List D)) (he : els = []) (hs : look s d = some (.val (.slice none 0 0))) (hf : freshN [.row n E size els] s V = true) :
    (TC P c sz Q t ((d, .ref n) :: s) (.row n E size els :: V) → TC P c sz Q t s V) ∧ (TL P c sz Q ops rest t ((d, .ref n) :: s) (.row n E size els :: V) → TL P c sz Q ops rest t s V) := by
  subst he; exact nilRow d n E size hs hf
theorem sp_emptyM {o : Oper} {ρ : Operand → Option AV} {T E : TypeId} {size bytes : Nat} (n : Nat) (els : List (List D)) (he : els = []) (ho : o.op = .buildSlice T 0 #[]) (hT : SlT P T E size bytes) : OpSpec P o ρ [] (.ref n) [.row n E size els] := by
  subst he; exact sp_emptySlice n ho hT
theorem sp_castB {o : Oper} {ρ : Operand → Option AV} {need news : List NEnt} {b b' : Bool} (h : b = b') (hs : OpSpec P o ρ need (.val (.bool b)) news) : OpSpec P o ρ need (.val (.bool b')) news := h ▸ hs
end
theorem cond_cases {α : Type} {b : Bool} {x y : Option α} {r : α} (h : cond b x y = some r) : (b = true ∧ x = some r) ∨ (b = false ∧ y = some r) := by
  cases b
  · exact .inr ⟨rfl, h⟩
  · exact .inl ⟨rfl, h⟩
theorem none_no {α : Type} {r : α} {p : Prop} (h : (none : Option α) = some r) : p := by cases h
end Go.Proofs.YtohjpfkcahlfkaaGreat.Sy
