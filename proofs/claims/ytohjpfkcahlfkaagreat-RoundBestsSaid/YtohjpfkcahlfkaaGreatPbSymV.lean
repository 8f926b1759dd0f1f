/- The small logic of symbolic states: loops over maps, entries of maps that are changed in two steps. -/
import Derived.Test.YtohjpfkcahlfkaaGreatPbSymU
set_option linter.unusedSimpArgs false
set_option linter.unusedVariables false
namespace Go.Proofs.YtohjpfkcahlfkaaGreat.Sy
open Go.RowKit
theorem erase_perm {α : Type} : ∀ {l : List α} {j : Nat} (hj : j < l.length), (l[j] :: l.eraseIdx j).Perm l := by
  intro l
  induction l with
  | nil => intro j hj; simp at hj
  | cons a l ih =>
    intro j hj
    cases j with
    | zero => exact .refl _
    | succ j =>
      simp only [List.getElem_cons_succ, List.eraseIdx_cons_succ]
      exact (List.Perm.swap _ _ _).trans ((ih (by simpa using hj)).cons a)
theorem perm_idx {α : Type} {ys xs : List α} (p : ys.Perm xs) {j : Nat} (hj : j < ys.length) : ∃ (i : Nat) (hi : i < xs.length), xs[i] = ys[j] ∧ (ys.eraseIdx j).Perm (xs.eraseIdx i) := by
  obtain ⟨i, hi, e⟩ := List.getElem_of_mem (p.mem_iff.1 (List.getElem_mem hj))
  refine ⟨i, hi, e, ?_⟩
  have h1 := erase_perm hj
  have h2 := erase_perm hi
  rw [e] at h2
  exact (h1.trans (p.trans h2.symm)).cons_inv
def unseen (es : Array MapEntry) (seen : Array Nat) : List MapEntry := es.toList.filter fun e => !seen.contains e.born
theorem erase_filter {α : Type} [DecidableEq α] {f : MapEntry → α} : ∀ {l : List MapEntry}, (l.map f).Nodup → ∀ (j : Nat) (hj : j < l.length), l.filter (fun e => !(f e == f l[j])) = l.eraseIdx j := by
  intro l
  induction l with
  | nil => intro _ j hj; simp at hj
  | cons a l ih =>
    intro hn j hj
    rw [List.map_cons, List.nodup_cons] at hn
    cases j with
    | zero =>
      simp only [List.getElem_cons_zero, List.filter_cons, BEq.rfl, Bool.not_true, Bool.false_eq_true, if_false, List.eraseIdx_zero, List.tail_cons]
      rw [List.filter_eq_self]
      intro x hx
      have : f x ≠ f a := fun h => hn.1 (h ▸ List.mem_map.2 ⟨x, hx, rfl⟩)
      simpa using this
    | succ j =>
      simp only [List.length_cons, Nat.add_lt_add_iff_right] at hj
      simp only [List.getElem_cons_succ, List.eraseIdx_cons_succ, List.filter_cons]
      have : f a ≠ f l[j] := fun h => hn.1 (h ▸ List.mem_map.2 ⟨_, List.getElem_mem hj, rfl⟩)
      have h2 : (f a == f l[j]) = false := by simpa using this
      simp only [h2, Bool.not_false, if_true, ih hn.2 j hj]
theorem unseen_push {es : Array MapEntry} {seen : Array Nat} (hn : (es.toList.map (·.born)).Nodup) (j : Nat) (hj : j < (unseen es seen).length) : unseen es (seen.push ((unseen es seen)[j]).born) = (unseen es seen).eraseIdx j := by
  refine Eq.trans ?_ (erase_filter (f := MapEntry.born) (l := unseen es seen) (hn.sublist (List.filter_sublist.map _)) j hj)
  generalize ((unseen es seen)[j]).born = q
  simp only [unseen, List.filter_filter]
  congr 1
  funext e
  rw [Array.contains_push]
  cases seen.contains e.born <;> cases h : (e.born == q) <;> rfl
def mitI {κ ν : Type} (ek : κ → Value) (ag : Bool) (ev : ν → List D) (left : List (κ × ν)) (cur : Option (κ × ν)) : Inv :=
  ⟨fun W O R v => ∃ it m seen cl es ys, v = .pointer (some ⟨it, 0, none⟩) ∧ O it ∧ W.heap[it]? = some (.mapIter (some m) cl seen cl) ∧ R m ∧ W.heap[m]? = some (.map es cl) ∧ BornOk es.toList cl ∧ EsOk ek ag ev W R (unseen es seen) ys ∧ ys.Perm left ∧
      ∀ x, cur = some x → ∃ e, seen.back? = some e.born ∧ e ∈ es.toList ∧ e.key = ek x.1 ∧ VOk ag (ev x.2) W R e.val,
   fun W W' O R R' hO hR v ⟨it, m, seen, cl, es, ys, h1, h2, h3, h4, h5, h6, h7, h8, h9⟩ => ⟨it, m, seen, cl, es, ys, h1, h2, (hO it h2).trans h3, (hR m h4).1, (hR m h4).2.trans h5, h6, h7.keep hR, h8,
      fun x hx => by obtain ⟨e, g1, g2, g3, g4⟩ := h9 x hx; exact ⟨e, g1, g2, g3, g4.keep hR⟩⟩⟩
def drawnW (W : World) (d : Nat) : World := { W with drawn := d }
theorem St.drawn {c : Ctx} {env : Env} {V : List NEnt} {W : World} {O : Nat → Nat → Prop} {R : Nat → Prop} (h : St c env V W O R) (d : Nat) : St c env V (drawnW W d) O R :=
  ⟨⟨h.keep.os, h.keep.tape, h.keep.output, h.keep.size, h.keep.block⟩, fun x hx => NEnt.holds_keep (W := W) (W' := drawnW W d) (fun _ _ => rfl) (fun _ hb => ⟨hb, rfl⟩) (h.holds x hx), h.own, h.apart, h.ro, h.r0, h.names⟩
theorem run_chooseNext {P : Program} {W : World} (n : Nat) (hn : 0 < n) : ∃ j d, j < n ∧ (choose (.mapNext n)).run P W = .ok j (drawnW W d) := by
  by_cases h : n ≤ 1
  · exact ⟨0, W.drawn, hn, by simp [choose, Sem.run, Question.forced, h, drawnW]⟩
  · refine ⟨W.tape W.drawn (.mapNext n) % n, W.drawn + 1, Nat.mod_lt _ hn, ?_⟩
    simp only [choose, Sem.run, Question.forced, decide_eq_true_eq, h, if_false, Question.cut, drawnW]
section
variable {P : Program}
theorem run_nextMap {W : World} {it m cl T : Nat} {seen : Array Nat} {es : Array MapEntry} (h1 : W.heap[it]? = some (.mapIter (some m) cl seen cl)) (h2 : W.heap[m]? = some (.map es cl)) (hb : BornOk es.toList cl) :
    ∃ d, (unseen es seen = [] ∧ (Instr.next (.pointer (some ⟨it, 0, none⟩)) false T).run P W = .ok (.tuple #[.bool false]) (drawnW W d)) ∨
      ∃ (j : Nat) (hj : j < (unseen es seen).length), (Instr.next (.pointer (some ⟨it, 0, none⟩)) false T).run P W = .ok (.tuple #[.bool true, ((unseen es seen)[j]).key, ((unseen es seen)[j]).val]) ((drawnW W d).putObj it (.mapIter (some m) cl (seen.push ((unseen es seen)[j]).born) cl)) := by
  have hge : (es.all fun e => decide (e.born ≥ cl)) = true → es.isEmpty = true := by
    intro h
    by_cases h0 : es.toList = []
    · simpa using h0
    · obtain ⟨e, l, he⟩ := List.exists_cons_of_ne_nil h0
      have := hb.2 e.born (by rw [he]; simp)
      rw [← Array.all_toList] at h
      have h3 := List.all_eq_true.1 h e (by rw [he]; simp)
      simp at h3; omega
  have hpre : (!seen.isEmpty && !es.isEmpty && es.all fun e => decide (e.born ≥ cl)) = false := by
    cases h : (es.all fun e => decide (e.born ≥ cl))
    · simp
    · simp [hge h]
  have hg1 : (getObj it).run P W = .ok (.mapIter (some m) cl seen cl) W := by simp [getObj, Sem.run, h1]
  have hg2 : (getObj m).run P W = .ok (.map es cl) W := by simp [getObj, Sem.run, h2]
  obtain ⟨L, hL⟩ : ∃ L, L = es.filter fun e => !seen.contains e.born := ⟨_, rfl⟩
  have hLl : L.toList = unseen es seen := by rw [hL]; simp [unseen]
  have hold : L.filter (fun e => decide (e.born < cl)) = L := by
    apply Array.toList_inj.1
    rw [Array.toList_filter, List.filter_eq_self]
    intro e he
    rw [hLl] at he
    have := hb.2 e.born (List.mem_map.2 ⟨e, (List.mem_filter.1 he).1, rfl⟩)
    simpa using this
  have hnew : L.filter (fun e => decide (e.born ≥ cl)) = #[] := by
    apply Array.toList_inj.1
    rw [Array.toList_filter]
    show _ = []
    rw [List.filter_eq_nil_iff]
    intro e he
    rw [hLl] at he
    have := hb.2 e.born (List.mem_map.2 ⟨e, (List.mem_filter.1 he).1, rfl⟩)
    simp; omega
  have hrun : (Instr.next (.pointer (some ⟨it, 0, none⟩)) false T).run P W = ((choose (.mapNext ((if L.isEmpty then #[none] else #[]) ++ (L ++ #[]).map some).size)).run P W).andThen fun i w =>
      (match ((if L.isEmpty then #[none] else #[]) ++ (L ++ #[]).map some)[i]? with
        | some (some e) => (do setObj it (.mapIter (some m) cl (seen.push e.born) cl); pure (.tuple #[.bool true, e.key, e.val]) : Sem Value)
        | some none => pure (.tuple #[.bool false])
        | none => stuck "Next: no such candidate").run P w := by
    simp only [Instr.next, Sem.run_bind, hg1, Result.andThen_ok, hg2, hpre, Bool.false_eq_true, if_false, Sem.run_pure, ← hL, hold, hnew]
    rfl
  by_cases h0 : unseen es seen = []
  · have hLe : L = #[] := Array.toList_inj.1 (by rw [hLl, h0])
    subst hLe
    obtain ⟨j, d, hj, hc⟩ := run_chooseNext (P := P) (W := W) 1 (by omega)
    have : j = 0 := by omega
    subst this
    refine ⟨d, .inl ⟨h0, ?_⟩⟩
    have hC : ((if (#[] : Array MapEntry).isEmpty then #[none] else #[]) ++ ((#[] : Array MapEntry) ++ #[]).map some) = #[none] := by simp
    rw [hrun, hC, show (#[none] : Array (Option MapEntry)).size = 1 from rfl, hc]
    rfl
  · have hLe : L.isEmpty = false := by
      cases h : L.isEmpty
      · rfl
      · exfalso; apply h0; rw [← hLl]; simpa using h
    have hsz : ((if L.isEmpty then #[none] else #[]) ++ (L ++ #[]).map some).size = L.size := by simp [hLe]
    have hpos : 0 < L.size := by
      rcases Nat.eq_zero_or_pos L.size with h | h
      · exfalso; apply h0; rw [← hLl]; exact List.eq_nil_of_length_eq_zero (by simpa using h)
      · exact h
    obtain ⟨j, d, hj, hc⟩ := run_chooseNext (P := P) (W := W) L.size hpos
    have hju : j < (unseen es seen).length := by rw [← hLl]; simpa using hj
    have hLj : L[j]? = some (unseen es seen)[j] := by
      rw [← Array.getElem?_toList, hLl]; exact List.getElem?_eq_getElem hju
    refine ⟨d, .inr ⟨j, hju, ?_⟩⟩
    have h1' : (drawnW W d).heap[it]? = some (.mapIter (some m) cl seen cl) := h1
    rw [hrun, hsz, hc]
    simp only [Result.andThen_ok, hLe, Bool.false_eq_true, if_false, Array.empty_append, Array.append_empty, Array.getElem?_map, hLj, Option.map_some, Sem.run_bind]
    have hset : (setObj it (.mapIter (some m) cl (seen.push ((unseen es seen)[j]).born) cl)).run P (drawnW W d) = .ok () ((drawnW W d).putObj it (.mapIter (some m) cl (seen.push ((unseen es seen)[j]).born) cl)) := by
      simp [setObj, Sem.run, h1', World.putObj]
    simp only [hset, Result.andThen_ok, Sem.run_pure]
end
section
variable {P : Program} {o : Oper} {ρ : Operand → Option AV}
end
section
variable {P : Program} {c : Ctx} {sz : Fm} {Q : Exit → Act → World → Prop} {t : List Item} {s : List (Nat × AV)} {V : List NEnt} {ops : Array Oper} {rest : List Oper} {o1 o2 : Oper}
theorem TL.next {κ ν : Type} {n it d1 d2 : Nat} {ek : κ → Value} {ag : Bool} {ev : ν → List D} {left : List (κ × ν)} {cur : Option (κ × ν)} (i : Nat) (hi : V[i]? = some (.inv n (mitI ek ag ev left cur))) (ho1 : o1.op = .next (.tmp it) false) (hg1 : o1.guard = none) (hd1 : o1.dst = some d1)
    (hx : look s it = some (.ref n)) (ho2 : o2.op = .extract (.tmp d1) 0) (hg2 : o2.guard = none) (hd2 : o2.dst = some d2) (hn : look s d1 = none) (hl1 : Nat.blt d1 sz.sz = true) (hl2 : Nat.blt d2 sz.sz = true)
    (h0 : left = [] → TL P c sz Q ops rest t ((d2, .val (.bool false)) :: s) V)
    (h1 : ∀ (j : Nat) (hj : j < left.length), TL P c sz Q ops rest t ((d2, .val (.bool true)) :: s) (V.set i (.inv n (mitI ek ag ev (left.eraseIdx j) (some left[j]))))) :
    TL P c sz Q ops (o1 :: o2 :: rest) t s V := by
  intro env tm W O R hfr hst
  rw [Nat.blt_eq] at hl1 hl2
  have hm := List.mem_of_getElem? hi
  obtain ⟨itb, m, seen, cl, es, ys, e1, hO, g1, hR, g2, hb, hes, hp, hc⟩ := hst.holds _ hm
  have hxe : (Act.eval ⟨tm, sz.df⟩ (.tmp it)) = .pointer (some ⟨itb, 0, none⟩) := by
    have := rho_eval (df := sz.df) hfr (x := .tmp it) hx
    simp only [AV.den, NEnt.name] at this e1
    simpa [e1, oneOf] using this
  have hw1 : Wanted ops s o1 := by simp only [Wanted, hg1]
  have hw2 : Wanted ops s o2 := by simp only [Wanted, hg2]
  unfold wpListIn
  rw [if_pos (wanted_of hfr hw1)]
  refine Does.inn (K := fun u W' => ∃ b, ((∃ k v, u = .tuple #[.bool true, k, v]) ∨ u = .tuple #[.bool false]) ∧ (b = true ↔ ∃ k v, u = .tuple #[.bool true, k, v]) ∧
      ((left = [] ∧ b = false ∧ St c env V W' O R) ∨ ∃ (j : Nat) (hj : j < left.length), b = true ∧ St c env (V.set i (.inv n (mitI ek ag ev (left.eraseIdx j) (some left[j])))) W' O R)) ?_ ?_
  · have hrun : ∀ u W', (Instr.next (.pointer (some ⟨itb, 0, none⟩)) false o1.type).run P W = .ok u W' → (execOp (Act.eval ⟨tm, sz.df⟩) o1).run P W = .ok (.value u) W' := by
      intro u W' h
      simp only [execOp, ho1, hxe, Sem.run_bind, h, Result.andThen_ok, Sem.run_pure]
    obtain ⟨d, hd | ⟨j, hj, hd⟩⟩ := run_nextMap (P := P) (T := o1.type) g1 g2 hb
    · rw [hrun _ _ hd.2]
      refine ⟨false, .inr rfl, ⟨fun h => (by cases h), fun ⟨k, v, h⟩ => by simp at h⟩, .inl ⟨?_, rfl, hst.drawn d⟩⟩
      have h2 := hes.len
      rw [hd.1] at h2
      exact List.eq_nil_of_length_eq_zero (by rw [← hp.length_eq]; simpa using h2.symm)
    · rw [hrun _ _ hd]
      have hjy : j < ys.length := by rw [← hes.len]; exact hj
      obtain ⟨i', hi', ex, pe⟩ := perm_idx hp hjy
      refine ⟨true, .inl ⟨_, _, rfl⟩, ⟨fun _ => ⟨_, _, rfl⟩, fun _ => rfl⟩, .inr ⟨i', hi', rfl, ?_⟩⟩
      have hst' := hst.drawn d
      have hmm : m ≠ itb := fun e => (hst.own _ hm itb hO).2.2 (e ▸ hR)
      have hlt : itb < (drawnW W d).heap.size := (Array.getElem?_eq_some_iff.1 g1).1
      have hRn : ∀ b, R b → b ≠ itb := fun b hb e => (hst.own _ hm itb hO).2.2 (e ▸ hb)
      refine hst'.write i hi ⟨rfl, rfl, rfl, by simp, fun b _ hb => World.putObj_heap_other fun e => hb (e ▸ hO)⟩ rfl ?_
      obtain ⟨e, he, hk, hv⟩ := hes.at (i := j) (x := ys[j]) (List.getElem?_eq_getElem hjy)
      have hkeep : ∀ b, R b → R b ∧ ((drawnW W d).putObj itb (.mapIter (some m) cl (seen.push ((unseen es seen)[j]).born) cl)).heap[b]? = W.heap[b]? := fun b hb => ⟨hb, World.putObj_heap_other (hRn b hb)⟩
      have hej : (unseen es seen)[j] = e := by rw [List.getElem?_eq_getElem hj] at he; exact Option.some.inj he
      refine ⟨itb, m, _, cl, es, _, e1, hO, World.putObj_heap_same hlt, hR, (World.putObj_heap_other hmm).trans g2, hb, ?_, pe, ?_⟩
      · rw [unseen_push hb.1 j hj]
        exact (hes.erase j).keep hkeep
      · intro x hx
        cases hx
        refine ⟨e, by rw [hej]; simp, ?_, by rw [ex]; exact hk, by rw [ex]; exact hv.keep hkeep⟩
        rw [← hej]
        exact (List.mem_filter.1 (List.getElem_mem hj)).1
  rintro u W' ⟨b, hu, hbu, hcase⟩
  rw [hd1]
  have hfr1 : Fr env sz.sz s (tm.setIfInBounds d1 u) := hfr.putNone hn
  have hge : (tm.setIfInBounds d1 u)[d1]? = some u := by rw [Array.getElem?_setIfInBounds, if_pos rfl, if_pos (by rw [hfr.1]; exact hl1)]
  have hu0 : ∃ cs : Array Value, u = .tuple cs ∧ cs[0]? = some (.bool b) := by
    rcases hu with ⟨k, v, rfl⟩ | rfl
    · have : b = true := hbu.2 ⟨_, _, rfl⟩
      subst this; exact ⟨_, rfl, rfl⟩
    · cases b
      · exact ⟨_, rfl, rfl⟩
      · obtain ⟨k, v, h⟩ := hbu.1 rfl; simp at h
  obtain ⟨cs, hcs, hc0⟩ := hu0
  show wpListIn (fw sz.ro) 0 P ops _ (o2 :: rest) ⟨tm.setIfInBounds d1 u, sz.df⟩ W'
  unfold wpListIn
  rw [if_pos (wanted_of hfr1 hw2)]
  have hrun2 : (execOp (Act.eval ⟨tm.setIfInBounds d1 u, sz.df⟩) o2).run P W' = .ok (.value (.bool b)) W' := by
    have hg : (tm.setIfInBounds d1 u).getD d1 undef = u := by rw [Array.getD_eq_getD_getElem?, hge]; rfl
    simp only [execOp, ho2, Act.eval, hg, Instr.extract, Sem.run_bind]
    rw [hcs]
    simp only [hc0, Sem.run_pure, Result.andThen_ok]
  refine Does.inn (K := fun v w => v = .bool b ∧ w = W') ?_ ?_
  · rw [hrun2]; exact ⟨rfl, rfl⟩
  rintro v w ⟨rfl, rfl⟩
  rw [hd2]
  rcases hcase with ⟨hl, rfl, hs⟩ | ⟨j, hj, rfl, hs⟩
  · exact h0 hl env _ w O R (hfr1.put hl2 (a := .val (.bool false))) hs
  · exact h1 j hj env _ w O R (hfr1.put hl2 (a := .val (.bool true))) hs
end
end Go.Proofs.YtohjpfkcahlfkaaGreat.Sy
