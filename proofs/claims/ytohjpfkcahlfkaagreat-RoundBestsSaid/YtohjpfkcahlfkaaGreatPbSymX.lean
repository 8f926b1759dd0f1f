/- The small logic of symbolic states: maps that own the rows behind their keys. -/
import Derived.Test.YtohjpfkcahlfkaaGreatPbSymW
set_option linter.unusedSimpArgs false
set_option linter.unusedVariables false
namespace Go.Proofs.YtohjpfkcahlfkaaGreat.Sy
open Go.RowKit
theorem EsOk.of {κ ν : Type} {ek : κ → Value} {ag : Bool} {ev : ν → List D} {W : World} {R : Nat → Prop} : ∀ {es : List MapEntry} {xs : List (κ × ν)}, es.map (·.key) = (xs.map (·.1)).map ek → (∀ (i : Nat) (e : MapEntry) (x : κ × ν), es[i]? = some e → xs[i]? = some x → VOk ag (ev x.2) W R e.val) → EsOk ek ag ev W R es xs := by
  intro es
  induction es with
  | nil => intro xs h _; cases xs with
    | nil => exact .nil
    | cons => simp at h
  | cons a l ih =>
    intro xs h hv
    cases xs with
    | nil => simp at h
    | cons x xs =>
      simp only [List.map_cons, List.cons.injEq] at h
      exact .cons h.1 (hv 0 a x rfl rfl) (ih h.2 fun i e y he hy => hv (i + 1) e y he hy)
section
variable {P : Program} {c : Ctx} {sz : Fm} {Q : Exit → Act → World → Prop} {t : List Item} {s : List (Nat × AV)} {V : List NEnt} {ops : Array Oper} {rest : List Oper}
end
section
variable {P : Program} {s : List (Nat × AV)} {o : Oper} {ρ : Operand → Option AV}
end
section
variable {P : Program} {c : Ctx} {sz : Fm} {Q : Exit → Act → World → Prop} {t : List Item} {s : List (Nat × AV)} {V : List NEnt} {ops : Array Oper} {rest : List Oper} {o1 o2 : Oper}
end
theorem OpSpec.froz {P : Program} {o : Oper} {ρ : Operand → Option AV} {need : List NEnt} {v : AV} {news : List NEnt} {x : NEnt} (j : Nat) (hj : news[j]? = some x) (h : OpSpec P o ρ need v news) : OpSpec P o ρ need v (news.set j x.toRo) := by
  intro ev env W O R he hn hO hR
  refine (h ev env W O R he hn hO hR).mono ?_
  rintro u W' ⟨env', O', R', he', hu, hst⟩
  refine ⟨env', _, _, fun n hn => he' n fun y hy => ?_, hu, hst.freeze j hj⟩
  have hnm := set_names (y := x.toRo) hj (NEnt.toRo_name x)
  have : y.name ∈ (news.set j x.toRo).map NEnt.name := by rw [hnm]; exact List.mem_map.2 ⟨y, hy, rfl⟩
  obtain ⟨z, hz, e⟩ := List.mem_map.1 this
  rw [← e]; exact hn z hz
theorem findAsk2 {P : Program} {K : TypeId} {κ : Type} [BEq κ] [LawfulBEq κ] {ek : κ → Value} (hq : ∀ k k' w, (Op.equal K (ek k) (ek k')).run P w = .ok (k == k') w) (k : κ) : ∀ (es : List MapEntry) (ks : List κ) (i : Nat) (w : World), es.map (·.key) = ks.map ek →
    (Instr.findAsking K (ek k) es i).run P w = .ok ((ks.findIdx? (· == k)).bind fun j => (es[j]?).map fun e => (i + j, e.val)) w := by
  intro es
  induction es with
  | nil => intro ks i w h; cases ks <;> first | rfl | cases h
  | cons e es ih =>
    intro ks i w h
    cases ks with
    | nil => cases h
    | cons z ks =>
      simp only [List.map_cons, List.cons.injEq] at h
      simp only [Instr.findAsking, h.1, Sem.run_bind, hq, Result.andThen_ok, List.findIdx?_cons]
      by_cases hz : k = z
      · subst hz; simp
      · have h1 : (k == z) = false := by simpa using hz
        have h2 : (z == k) = false := by simpa using Ne.symm hz
        simp only [h1, Bool.false_eq_true, if_false, h2, ih ks (i + 1) w h.2]
        cases ks.findIdx? (· == k) <;> simp
        rename_i j
        cases es[j]? <;> simp
        omega
theorem mkey_agg2 {P : Program} {M K V : TypeId} {κ : Type} [BEq κ] [LawfulBEq κ] {ek : κ → Value} {dK : TypeDesc} (hu : P.underlying M = some (.map K V)) (hK : P.underlying K = some dK) (hd : ∀ k es i, Instr.findNow dK k es i = if es = [] then some none else none) (hc : ∀ b k w, (Instr.checkKey b 10000 K (ek k)).run P w = .ok () w)
    (hq : ∀ k k' w, (Op.equal K (ek k) (ek k')).run P w = .ok (k == k') w) (hs : ∀ k, Instr.sameBits 10000 (ek k) (ek k) = true) : MKey P M K V ek where
  under := hu
  check := hc
  find k es ks w h := by
    simp only [Instr.findKey, Sem.run_bind, run_underlying hK, Result.andThen_ok, hd]
    cases es with
    | nil => cases ks <;> first | rfl | cases h
    | cons e es =>
      simp only [reduceCtorEq, if_false]
      have := findAsk2 hq k (e :: es) ks 0 w h
      simpa using this
  stay k w := by simp [Instr.keyThatStays, hs]
  eq ks k i x h1 h2 := by
    obtain ⟨h3, h4, _⟩ := List.findIdx?_eq_some_iff_getElem.1 h1
    rw [List.getElem?_eq_getElem h3] at h2
    cases h2
    simp only [beq_iff_eq] at h4
    rw [h4]
end Go.Proofs.YtohjpfkcahlfkaaGreat.Sy
