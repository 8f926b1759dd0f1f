/- Texts joined into one: SymR, SymS, SymT, SymU, SymV, SymW, SymX, SymY, SymZ, SymPt, SymRR, SymRS, SymTu, SymBe, SymGr, SymRM, SymRN, SymTb. -/
import Derived.Test.YthgbjhglhejalaaRBSymMJ
import Derived.Laws.OwnMore
import Derived.Shelf.Slices.CompactI
import Derived.Shelf.Sort.Plain
import Derived.Shelf.Slices.In.SortNone
import Derived.Shelf.Spec.SlicesGrow
section
set_option linter.unusedSimpArgs false
set_option linter.unusedVariables false
namespace Go.Proofs.Ythgbjhglhejalaa.Sy
open Go.RowKit
section
variable {P : Program} {o : Oper} {ρ : Operand → Option AV}
theorem sp_convW {x : Operand} {S T : TypeId} {k k' : IntKind} {m : Int} {dS : TypeDesc} (ho : o.op = .convert S T x) (hS : P.underlying S = some dS) (hT : P.underlying T = some (.int k')) (hx : ρ x = some (.val (.int k m))) :
    OpSpec P o ρ [] (.val (.int k' (k'.wrap m))) [] :=
  .pure fun ev env W O R he _ => by simp [execOp, ho, he x _ hx, AV.den, convert, run_underlying hS, run_underlying hT, Conv.intToInt]
def strOf (xs : List Int) : ByteArray := xs.foldl (fun s n => s.push (UInt8.ofNat n.toNat)) ByteArray.empty
def strLit (xs : List Nat) : ByteArray := ⟨(xs.map UInt8.ofNat).toArray⟩
def strEq (a b : ByteArray) : Bool := a.toList == b.toList
theorem sp_strEq {x y : Operand} {T U : TypeId} {a b : ByteArray} (ho : o.op = .binOp .eql T x y U) (hx : ρ x = some (.val (.string a))) (hy : ρ y = some (.val (.string b))) : OpSpec P o ρ [] (.val (.bool (strEq a b))) [] :=
  .pure fun ev env W O R he _ => by simp [execOp, ho, he x _ hx, he y _ hy, AV.den, eqGuard, binOp, Op.stringOp, strEq]
end
theorem bytes_loop {P : Program} {W : World} (f : Value → ByteArray → Sem (ForInStep ByteArray)) (hf : ∀ n s, f (.int .u8 n) s = pure (ForInStep.yield (s.push (UInt8.ofNat n.toNat)))) : ∀ (xs : List Int) (s : ByteArray),
    Sem.run P (forIn (m := Sem) (List.map (fun z => Value.int IntKind.u8 z) xs) s f) W = .ok (xs.foldl (fun s n => s.push (UInt8.ofNat n.toNat)) s) W := by
  intro xs
  induction xs with
  | nil => intro s; rfl
  | cons x xs ih =>
    intro s;simp only [List.map_cons, List.forIn_cons, hf, Sem.run_bind, Sem.run_pure, Result.andThen_ok, List.foldl_cons];exact ih _
section
variable {P : Program} {o : Oper} {ρ : Operand → Option AV}
theorem sp_bytesStr {S T E : TypeId} {x : Operand} {n : Nat} {xs : List Int} {y : NEnt} {els : List (List D)} (hels : els = xs.map fun z => [D.v (.int .u8 z)]) (ho : o.op = .convert S T x) (hS : P.underlying S = some (.slice E)) (hE : P.underlying E = some (.int .u8)) (hT : P.underlying T = some .string) (hx : ρ x = some (.ref n)) (hy : IsRow y n 1 els) :
    OpSpec P o ρ [y] (.val (.string (strOf xs))) [] := by
  subst hels;refine .pure fun ev env W O R he hn => ?_
  obtain ⟨a, cap, h1, hnone, hs2, us, hul, hone, hcell, hok⟩ := row_cells hy (by decide) (hn _ (List.mem_singleton.2 rfl));have hx' := he x _ hx;simp only [AV.den, h1, oneOf] at hx';have hus : us = xs.map fun z => Value.int .u8 z := by
    apply List.ext_getElem
    · rw [hul]; simp
    · intro i h2 h3;have hlt : i < xs.length := by simpa using h3
      obtain ⟨u, g1, g2⟩ := hok i (D.v (.int .u8 xs[i])) (by
        have := flatten_get (xs.map fun z => [D.v (.int .u8 z)]) (size := 1) i 0 [D.v (.int .u8 xs[i])] (by intro q hq; obtain ⟨z, _, rfl⟩ := List.mem_map.1 hq; rfl) (by simp [hlt]) (by decide)
        simpa using this)
      have : us[i] = u := by
        have := List.getElem?_eq_getElem h2; rw [this] at g1; exact Option.some.inj g1
      rw [this]; simp only [List.getElem_map]; exact g2
  cases a with
  | none =>
    have hxs : xs = [] := by have := hnone rfl; simpa using this
    subst hxs;simp [execOp, ho, hx', convert, run_underlying hS, run_underlying hT, run_underlying hE, Conv.bytesToString, AV.den, strOf]
  | some ad =>
    have hld := run_loadCells_list (P := P) W ad us (fun j u hj => hcell ad rfl j u hj);have hlen : us.length = xs.length := by rw [hus]; simp
    rw [hlen] at hld;simp only [execOp, ho, hx', convert, run_underlying hS, run_underlying hT, run_underlying hE, Conv.bytesToString, Sem.run_bind, Result.andThen_ok, List.length_map, hld, Sem.run_pure, AV.den];rw [hus];rw [List.forIn_toArray, bytes_loop _ (fun _ _ => rfl)]
    rfl
end
section
variable {P : Program} {o : Oper} {ρ : Operand → Option AV}
end
section
variable {P : Program} {c : Ctx} {sz : Fm} {Q : Exit → Act → World → Prop} {t : List Item} {s : List (Nat × AV)} {V : List NEnt}
end
section
variable {P : Program} {o : Oper} {ρ : Operand → Option AV}
end
section
variable {P : Program} {c : Ctx} {sz : Fm} {Q : Exit → Act → World → Prop} {t : List Item} {s : List (Nat × AV)} {V : List NEnt} {ops : Array Oper} {rest : List Oper}
end
theorem FT.fnArg {P : Program} {α β : Type} {enc : α → List AV} {dec : β → AV} {F : α → Option β} {f g k : Nat} (i : Nat) {args first caps : List AV} {take needC need news : List NEnt} {v : AV} (h : FT P f args take (.any k (D.fn P enc dec F) :: need) v news)
    (hi : args[i]? = some (.ref k)) (hcall : ∀ args w, (callFunc g args).run P w = .ok (.enter g args) w) (hc : ∀ a b, F a = some b → FC P g (first ++ enc a ++ caps) needC (dec b) [])
    (hro : needC.all NEnt.isRoB = true) (henc : ∀ a, (AV.nsL (enc a)).isEmpty = true) (hdec : ∀ b, noName (dec b) = true)
    (hk : (args.zipIdx.all fun p => p.2 == i || !p.1.has k) = true) (hk2 : hasV k needC = false) (hk3 : hasV k need = false) (hk4 : v.has k = false) (hk5 : hasV k news = false) (hk6 : AV.hasL k first = false) (hk7 : AV.hasL k caps = false) (hk8 : hasV k take = false) :
    FT P f (args.set i (.fn g first caps)) take (needC ++ need) v news := by
  intro env w0 M O R0 hst hnd;have hval : AV.denL env (args.set i (.fn g first caps)) = AV.denL (setEnv env k ((AV.fn g first caps).den env)) args := by
    simp only [AV.denL_map];apply List.ext_getElem?;intro j;simp only [List.getElem?_map, List.getElem?_set]
    split
    · rename_i e; subst e
      rw [if_pos (List.getElem?_eq_some_iff.1 hi).1, hi];simp [AV.den, setEnv_same, oneOf]
    · rename_i e
      cases ha : args[j]? with
      | none => rfl
      | some a =>
        have hm : (a, j) ∈ args.zipIdx := List.mem_iff_getElem?.2 ⟨j, by rw [List.getElem?_zipIdx, ha]; simp⟩;have := List.all_eq_true.1 hk (a, j) hm;simp only [Bool.or_eq_true, beq_iff_eq, Bool.not_eq_true'] at this;rcases this with e' | this
        · exact absurd e'.symm e
        · simp only [Option.map_some, Option.some.injEq];exact AV.den_congr a fun n hn => (setEnv_other fun e => by subst e; rw [this] at hn; cases hn).symm
  rw [hval];have hnC : ∀ x ∈ needC, x.holds env w0 (fun _ => False) R0 := fun x hx => (hnd x (by simp [hx])).2
  have hst' : St ⟨w0, M, R0⟩ (setEnv env k ((AV.fn g first caps).den env)) take w0 O R0 := ⟨hst.keep, fun x hx => NEnt.holds_congr (fun n hn' => (setEnv_other fun e => by subst e; rw [hasV_mem hk8 hx] at hn'; cases hn').symm) (hst.holds x hx), hst.own, hst.apart, hst.ro, hst.r0, hst.names⟩;refine (h (setEnv env k ((AV.fn g first caps).den env)) w0 M O R0 hst' (fun x hx => ?_)).mono ?_
  · rcases List.mem_cons.1 hx with rfl | hx
    · refine ⟨rfl, g, (AV.denL env first).toArray, (AV.denL env caps).toArray, by simp [setEnv_same, AV.den], hcall, fun a b hab env' W' R' hr hs => ?_⟩;have hcalls := hc a b hab env W' R' (fun x hx => ro_holds (List.all_eq_true.1 hro x hx) (NEnt.holds_keep (fun _ h => h.elim) hr (hnC x hx)) _) hs;rw [denL_append, denL_append, denL_noName (henc a) env env'] at hcalls;simp only [← List.append_toArray] at hcalls;refine hcalls.mono ?_
      rintro e W2 ⟨u, he, env2, O2, R2, g1, g2, g3⟩
      refine ⟨u, he, env', fun _ _ => False, R2, fun _ _ => rfl, by rw [g2]; exact den_noName (hdec b) _ _, ⟨g3.keep, by simp, by simp, by simp, g3.ro, g3.r0, by simp⟩⟩
    · exact ⟨(hnd x (by simp [hx])).1, NEnt.holds_congr (fun n hn' => (setEnv_other fun e => by subst e; rw [hasV_mem hk3 hx] at hn'; cases hn').symm) (hnd x (by simp [hx])).2⟩
  rintro e W' ⟨u, he, env', O', R', h1, h2, hst2⟩
  have hcn : ∀ n, n ≠ k → setEnv env' k (env k) n = env' n := fun n hne => setEnv_other (Ne.symm hne)
  refine ⟨u, he, setEnv env' k (env k), O', R', fun n hn' => ?_, ?_, hst2.keep, fun x hx => ?_, hst2.own, hst2.apart, hst2.ro, hst2.r0, hst2.names⟩
  · by_cases e : n = k
    · subst e; rw [setEnv_same]
    · rw [hcn n e, h1 n hn', setEnv_other (Ne.symm e)]
  · rw [h2];exact AV.den_congr v fun n hn' => (hcn n fun e => by subst e; rw [hk4] at hn'; cases hn').symm
  · exact NEnt.holds_congr (fun n hn' => (hcn n fun e => by subst e; rw [hasV_mem hk5 hx] at hn'; cases hn').symm) (hst2.holds x hx)
end Go.Proofs.Ythgbjhglhejalaa.Sy
end
section
set_option linter.unusedSimpArgs false
set_option linter.unusedVariables false
namespace Go.Proofs.Ythgbjhglhejalaa.Sy
open Go.RowKit
inductive ZL : List Value → List D → Prop where
  | nil : ZL [] []
  | v {x : Value} {l m} : x.oneCell' = true → ZL l m → ZL (x :: l) (D.v x :: m)
  | s {size l m} : ZL l m → ZL (.slice none 0 0 :: l) (D.s size [] :: m)
theorem ZL.ok {cs : List Value} {ds : List D} (h : ZL cs ds) (W : World) (R : Nat → Prop) : cs.length = ds.length ∧ ∀ (j : Nat) (d : D), ds[j]? = some d → ∃ u : Value, cs[j]? = some u ∧ d.ok W R u ∧ u.oneCell' = true := by
  induction h with
  | nil => exact ⟨rfl, fun j d hj => by simp at hj⟩
  | v hx _ ih =>
    refine ⟨by simp [ih.1], fun j d hj => ?_⟩
    cases j with
    | zero => simp at hj; subst hj; exact ⟨_, rfl, rfl, hx⟩
    | succ j => simpa using ih.2 j d (by simpa using hj)
  | s _ ih =>
    refine ⟨by simp [ih.1], fun j d hj => ?_⟩
    cases j with
    | zero => simp at hj; subst hj; exact ⟨_, rfl, ⟨none, 0, rfl, Nat.le_refl _, Nat.zero_le _, fun _ => rfl, fun i el hi => by simp at hi⟩, rfl⟩
    | succ j => simpa using ih.2 j d (by simpa using hj)
theorem findNow_struct {fs : Array Field} (k : Value) (es : List MapEntry) (i : Nat) : Instr.findNow (.struct fs) k es i = if es = [] then some none else none := by
  cases es with
  | nil => rfl
  | cons e es =>
    simp only [Instr.findNow];have : Instr.sameNow (.struct fs) k e.key = none := by unfold Instr.sameNow; rfl
    simp [this]
section
variable {P : Program} {c : Ctx} {sz : Fm} {Q : Exit → Act → World → Prop} {t : List Item} {s : List (Nat × AV)} {V : List NEnt}
theorem nilRowC (d n E size : Nat) (els : List (List D)) (he : els = []) (hs : look s d = some (.val (.slice none 0 0))) (hf : freshN [.row n E size els] s V = true)
    (h : TC P c sz Q t ((d, .ref n) :: s) (.row n E size els :: V)) : TC P c sz Q t s V := (nilRowM (ops := #[]) (rest := []) d n E size els he hs hf).1 h
end
end Go.Proofs.Ythgbjhglhejalaa.Sy
end
section
set_option linter.unusedSimpArgs false
set_option linter.unusedVariables false
namespace Go.Proofs.Ythgbjhglhejalaa.Sy
open Go.RowKit
section
variable {P : Program} {o : Oper} {ρ : Operand → Option AV}
theorem arr_get {X : Type} {enc : X → List AV} {s : Nat} (hl : ∀ x, (enc x).length = s) (h0 : Nat.blt 0 s = true) {cells pre post : List AV} {xs : List X} {i j : Nat} {x : X} {a : AV} (hc : cells = pre ++ xs.flatMap enc ++ post) (hx : xs[i]? = some x) (hj : (enc x)[j]? = some a) : cells[pre.length + (i * s + j)]? = some a := by
  subst hc;have hjs : j < s := by rw [← hl x]; exact (List.getElem?_eq_some_iff.1 hj).1
  have hf := flatten_get (xs.map enc) (size := s) i j (enc x) (by intro q hq; obtain ⟨z, _, rfl⟩ := List.mem_map.1 hq; exact hl z) (by simp [hx]) hjs;rw [List.append_assoc, List.getElem?_append_right (by omega), Nat.add_sub_cancel_left];have e : xs.flatMap enc = (xs.map enc).flatten := by rw [List.flatMap_def]
  rw [e];have hlt : i * s + j < (xs.map enc).flatten.length := by
    have h2 : (xs.map enc).flatten[i * s + j]? = some a := hf.trans hj;exact (List.getElem?_eq_some_iff.1 h2).1
  rw [List.getElem?_append_left hlt, hf, hj]
end
end Go.Proofs.Ythgbjhglhejalaa.Sy
end
section
set_option linter.unusedSimpArgs false
set_option linter.unusedVariables false
namespace Go.Proofs.Ythgbjhglhejalaa.Sy
open Go.RowKit
theorem map_take {α β : Type} (xs : List α) (f : α → β) (h : Nat) : (xs.map f).take h = (xs.take h).map f := by simp [List.map_take]
section
variable {P : Program} {o : Oper} {s : List (Nat × AV)}
end
end Go.Proofs.Ythgbjhglhejalaa.Sy
end
section
set_option linter.unusedSimpArgs false
set_option linter.unusedVariables false
namespace Go.Proofs.Ythgbjhglhejalaa.Sy
open Go.RowKit
theorem erase_perm {α : Type} : ∀ {l : List α} {j : Nat} (hj : j < l.length), (l[j] :: l.eraseIdx j).Perm l := by
  intro l
  induction l with
  | nil => intro j hj; simp at hj
  | cons a l ih =>
    intro j hj
    cases j with
    | zero => exact .refl _
    | succ j =>
      simp only [List.getElem_cons_succ, List.eraseIdx_cons_succ];exact (List.Perm.swap _ _ _).trans ((ih (by simpa using hj)).cons a)
theorem perm_idx {α : Type} {ys xs : List α} (p : ys.Perm xs) {j : Nat} (hj : j < ys.length) : ∃ (i : Nat) (hi : i < xs.length), xs[i] = ys[j] ∧ (ys.eraseIdx j).Perm (xs.eraseIdx i) := by
  obtain ⟨i, hi, e⟩ := List.getElem_of_mem (p.mem_iff.1 (List.getElem_mem hj));refine ⟨i, hi, e, ?_⟩;have h1 := erase_perm hj;have h2 := erase_perm hi;rw [e] at h2;exact (h1.trans (p.trans h2.symm)).cons_inv
def unseen (es : Array MapEntry) (seen : Array Nat) : List MapEntry := es.toList.filter fun e => !seen.contains e.born
theorem erase_filter {α : Type} [DecidableEq α] {f : MapEntry → α} : ∀ {l : List MapEntry}, (l.map f).Nodup → ∀ (j : Nat) (hj : j < l.length), l.filter (fun e => !(f e == f l[j])) = l.eraseIdx j := by
  intro l
  induction l with
  | nil => intro _ j hj; simp at hj
  | cons a l ih =>
    intro hn j hj;rw [List.map_cons, List.nodup_cons] at hn
    cases j with
    | zero =>
      simp only [List.getElem_cons_zero, List.filter_cons, BEq.rfl, Bool.not_true, Bool.false_eq_true, if_false, List.eraseIdx_zero, List.tail_cons];rw [List.filter_eq_self];intro x hx;have : f x ≠ f a := fun h => hn.1 (h ▸ List.mem_map.2 ⟨x, hx, rfl⟩)
      simpa using this
    | succ j =>
      simp only [List.length_cons, Nat.add_lt_add_iff_right] at hj;simp only [List.getElem_cons_succ, List.eraseIdx_cons_succ, List.filter_cons];have : f a ≠ f l[j] := fun h => hn.1 (h ▸ List.mem_map.2 ⟨_, List.getElem_mem hj, rfl⟩)
      have h2 : (f a == f l[j]) = false := by simpa using this
      simp only [h2, Bool.not_false, if_true, ih hn.2 j hj]
theorem unseen_push {es : Array MapEntry} {seen : Array Nat} (hn : (es.toList.map (·.born)).Nodup) (j : Nat) (hj : j < (unseen es seen).length) : unseen es (seen.push ((unseen es seen)[j]).born) = (unseen es seen).eraseIdx j := by
  refine Eq.trans ?_ (erase_filter (f := MapEntry.born) (l := unseen es seen) (hn.sublist (List.filter_sublist.map _)) j hj)
  generalize ((unseen es seen)[j]).born = q
  simp only [unseen, List.filter_filter]
  congr 1
  funext e
  rw [Array.contains_push];cases seen.contains e.born <;> cases h : (e.born == q) <;> rfl
def mitI {κ ν : Type} (ek : κ → Value) (ag : Bool) (ev : ν → List D) (left : List (κ × ν)) (cur : Option (κ × ν)) : Inv :=
  ⟨fun W O R v => ∃ it m seen cl es ys, v = .pointer (some ⟨it, 0, none⟩) ∧ O it ∧ W.heap[it]? = some (.mapIter (some m) cl seen cl) ∧ R m ∧ W.heap[m]? = some (.map es cl) ∧ BornOk es.toList cl ∧ EsOk ek ag ev W R (unseen es seen) ys ∧ ys.Perm left ∧
      ∀ x, cur = some x → ∃ e, seen.back? = some e.born ∧ e ∈ es.toList ∧ e.key = ek x.1 ∧ VOk ag (ev x.2) W R e.val,
   fun W W' O R R' hO hR v ⟨it, m, seen, cl, es, ys, h1, h2, h3, h4, h5, h6, h7, h8, h9⟩ => ⟨it, m, seen, cl, es, ys, h1, h2, (hO it h2).trans h3, (hR m h4).1, (hR m h4).2.trans h5, h6, h7.keep hR, h8,
      fun x hx => by obtain ⟨e, g1, g2, g3, g4⟩ := h9 x hx; exact ⟨e, g1, g2, g3, g4.keep hR⟩⟩⟩
def drawnW (W : World) (d : Nat) : World := { W with drawn := d }
theorem St.drawn {c : Ctx} {env : Env} {V : List NEnt} {W : World} {O : Nat → Nat → Prop} {R : Nat → Prop} (h : St c env V W O R) (d : Nat) : St c env V (drawnW W d) O R :=
  ⟨⟨h.keep.os, h.keep.tape, h.keep.output, h.keep.size, h.keep.block⟩, fun x hx => NEnt.holds_keep (W := W) (W' := drawnW W d) (fun _ _ => rfl) (fun _ hb => ⟨hb, rfl⟩) (h.holds x hx), h.own, h.apart, h.ro, h.r0, h.names⟩
theorem run_chooseNext {P : Program} {W : World} (n : Nat) (hn : 0 < n) : ∃ j d, j < n ∧ (choose (.mapNext n)).run P W = .ok j (drawnW W d) := by
  by_cases h : n ≤ 1
  · exact ⟨0, W.drawn, hn, by simp [choose, Sem.run, Question.forced, h, drawnW]⟩
  · refine ⟨W.tape W.drawn (.mapNext n) % n, W.drawn + 1, Nat.mod_lt _ hn, ?_⟩;simp only [choose, Sem.run, Question.forced, decide_eq_true_eq, h, if_false, Question.cut, drawnW]
section
variable {P : Program}
theorem run_nextMap {W : World} {it m cl T : Nat} {seen : Array Nat} {es : Array MapEntry} (h1 : W.heap[it]? = some (.mapIter (some m) cl seen cl)) (h2 : W.heap[m]? = some (.map es cl)) (hb : BornOk es.toList cl) :
    ∃ d, (unseen es seen = [] ∧ (Instr.next (.pointer (some ⟨it, 0, none⟩)) false T).run P W = .ok (.tuple #[.bool false]) (drawnW W d)) ∨
      ∃ (j : Nat) (hj : j < (unseen es seen).length), (Instr.next (.pointer (some ⟨it, 0, none⟩)) false T).run P W = .ok (.tuple #[.bool true, ((unseen es seen)[j]).key, ((unseen es seen)[j]).val]) ((drawnW W d).putObj it (.mapIter (some m) cl (seen.push ((unseen es seen)[j]).born) cl)) := by
  have hge : (es.all fun e => decide (e.born ≥ cl)) = true → es.isEmpty = true := by
    intro h
    by_cases h0 : es.toList = []
    · simpa using h0
    · obtain ⟨e, l, he⟩ := List.exists_cons_of_ne_nil h0;have := hb.2 e.born (by rw [he]; simp);rw [← Array.all_toList] at h;have h3 := List.all_eq_true.1 h e (by rw [he]; simp);simp at h3; omega
  have hpre : (!seen.isEmpty && !es.isEmpty && es.all fun e => decide (e.born ≥ cl)) = false := by
    cases h : (es.all fun e => decide (e.born ≥ cl))
    · simp
    · simp [hge h]
  have hg1 : (getObj it).run P W = .ok (.mapIter (some m) cl seen cl) W := by simp [getObj, Sem.run, h1]
  have hg2 : (getObj m).run P W = .ok (.map es cl) W := by simp [getObj, Sem.run, h2]
  obtain ⟨L, hL⟩ : ∃ L, L = es.filter fun e => !seen.contains e.born := ⟨_, rfl⟩
  have hLl : L.toList = unseen es seen := by rw [hL]; simp [unseen]
  have hold : L.filter (fun e => decide (e.born < cl)) = L := by
    apply Array.toList_inj.1;rw [Array.toList_filter, List.filter_eq_self];intro e he;rw [hLl] at he;have := hb.2 e.born (List.mem_map.2 ⟨e, (List.mem_filter.1 he).1, rfl⟩)
    simpa using this
  have hnew : L.filter (fun e => decide (e.born ≥ cl)) = #[] := by
    apply Array.toList_inj.1;rw [Array.toList_filter];show _ = [];rw [List.filter_eq_nil_iff];intro e he;rw [hLl] at he;have := hb.2 e.born (List.mem_map.2 ⟨e, (List.mem_filter.1 he).1, rfl⟩);simp; omega
  have hrun : (Instr.next (.pointer (some ⟨it, 0, none⟩)) false T).run P W = ((choose (.mapNext ((if L.isEmpty then #[none] else #[]) ++ (L ++ #[]).map some).size)).run P W).andThen fun i w =>
      (match ((if L.isEmpty then #[none] else #[]) ++ (L ++ #[]).map some)[i]? with
        | some (some e) => (do setObj it (.mapIter (some m) cl (seen.push e.born) cl); pure (.tuple #[.bool true, e.key, e.val]) : Sem Value)
        | some none => pure (.tuple #[.bool false])
        | none => stuck "Next: no such candidate").run P w := by
    simp only [Instr.next, Sem.run_bind, hg1, Result.andThen_ok, hg2, hpre, Bool.false_eq_true, if_false, Sem.run_pure, ← hL, hold, hnew]
    rfl
  by_cases h0 : unseen es seen = []
  · have hLe : L = #[] := Array.toList_inj.1 (by rw [hLl, h0]);subst hLe;obtain ⟨j, d, hj, hc⟩ := run_chooseNext (P := P) (W := W) 1 (by omega);have : j = 0 := by omega
    subst this;refine ⟨d, .inl ⟨h0, ?_⟩⟩;have hC : ((if (#[] : Array MapEntry).isEmpty then #[none] else #[]) ++ ((#[] : Array MapEntry) ++ #[]).map some) = #[none] := by simp
    rw [hrun, hC, show (#[none] : Array (Option MapEntry)).size = 1 from rfl, hc]
    rfl
  · have hLe : L.isEmpty = false := by
      cases h : L.isEmpty
      · rfl
      · exfalso; apply h0; rw [← hLl]; simpa using h
    have hsz : ((if L.isEmpty then #[none] else #[]) ++ (L ++ #[]).map some).size = L.size := by simp [hLe]
    have hpos : 0 < L.size := by
      rcases Nat.eq_zero_or_pos L.size with h | h
      · exfalso; apply h0; rw [← hLl]; exact List.eq_nil_of_length_eq_zero (by simpa using h)
      · exact h
    obtain ⟨j, d, hj, hc⟩ := run_chooseNext (P := P) (W := W) L.size hpos;have hju : j < (unseen es seen).length := by rw [← hLl]; simpa using hj
    have hLj : L[j]? = some (unseen es seen)[j] := by
      rw [← Array.getElem?_toList, hLl]; exact List.getElem?_eq_getElem hju
    refine ⟨d, .inr ⟨j, hju, ?_⟩⟩;have h1' : (drawnW W d).heap[it]? = some (.mapIter (some m) cl seen cl) := h1;rw [hrun, hsz, hc];simp only [Result.andThen_ok, hLe, Bool.false_eq_true, if_false, Array.empty_append, Array.append_empty, Array.getElem?_map, hLj, Option.map_some, Sem.run_bind];have hset : (setObj it (.mapIter (some m) cl (seen.push ((unseen es seen)[j]).born) cl)).run P (drawnW W d) = .ok () ((drawnW W d).putObj it (.mapIter (some m) cl (seen.push ((unseen es seen)[j]).born) cl)) := by
      simp [setObj, Sem.run, h1', World.putObj]
    simp only [hset, Result.andThen_ok, Sem.run_pure]
end
section
variable {P : Program} {o : Oper} {ρ : Operand → Option AV}
end
section
variable {P : Program} {c : Ctx} {sz : Fm} {Q : Exit → Act → World → Prop} {t : List Item} {s : List (Nat × AV)} {V : List NEnt} {ops : Array Oper} {rest : List Oper} {o1 o2 : Oper}
theorem TL.next {κ ν : Type} {n it d1 d2 : Nat} {ek : κ → Value} {ag : Bool} {ev : ν → List D} {left : List (κ × ν)} {cur : Option (κ × ν)} (i : Nat) (hi : V[i]? = some (.inv n (mitI ek ag ev left cur))) (ho1 : o1.op = .next (.tmp it) false) (hg1 : o1.guard = none) (hd1 : o1.dst = some d1)
    (hx : look s it = some (.ref n)) (ho2 : o2.op = .extract (.tmp d1) 0) (hg2 : o2.guard = none) (hd2 : o2.dst = some d2) (hn : look s d1 = none) (hl1 : Nat.blt d1 sz.sz = true) (hl2 : Nat.blt d2 sz.sz = true)
    (h0 : left = [] → TL P c sz Q ops rest t ((d2, .val (.bool false)) :: s) V)
    (h1 : ∀ (j : Nat) (hj : j < left.length), TL P c sz Q ops rest t ((d2, .val (.bool true)) :: s) (V.set i (.inv n (mitI ek ag ev (left.eraseIdx j) (some left[j]))))) :
    TL P c sz Q ops (o1 :: o2 :: rest) t s V := by
  intro env tm W O R hfr hst;rw [Nat.blt_eq] at hl1 hl2;have hm := List.mem_of_getElem? hi;obtain ⟨itb, m, seen, cl, es, ys, e1, hO, g1, hR, g2, hb, hes, hp, hc⟩ := hst.holds _ hm;have hxe : (Act.eval ⟨tm, sz.df⟩ (.tmp it)) = .pointer (some ⟨itb, 0, none⟩) := by
    have := rho_eval (df := sz.df) hfr (x := .tmp it) hx;simp only [AV.den, NEnt.name] at this e1
    simpa [e1, oneOf] using this
  have hw1 : Wanted ops s o1 := by simp only [Wanted, hg1]
  have hw2 : Wanted ops s o2 := by simp only [Wanted, hg2]
  unfold wpListIn;rw [if_pos (wanted_of hfr hw1)];refine Does.inn (K := fun u W' => ∃ b, ((∃ k v, u = .tuple #[.bool true, k, v]) ∨ u = .tuple #[.bool false]) ∧ (b = true ↔ ∃ k v, u = .tuple #[.bool true, k, v]) ∧
      ((left = [] ∧ b = false ∧ St c env V W' O R) ∨ ∃ (j : Nat) (hj : j < left.length), b = true ∧ St c env (V.set i (.inv n (mitI ek ag ev (left.eraseIdx j) (some left[j])))) W' O R)) ?_ ?_
  · have hrun : ∀ u W', (Instr.next (.pointer (some ⟨itb, 0, none⟩)) false o1.type).run P W = .ok u W' → (execOp (Act.eval ⟨tm, sz.df⟩) o1).run P W = .ok (.value u) W' := by
      intro u W' h;simp only [execOp, ho1, hxe, Sem.run_bind, h, Result.andThen_ok, Sem.run_pure]
    obtain ⟨d, hd | ⟨j, hj, hd⟩⟩ := run_nextMap (P := P) (T := o1.type) g1 g2 hb
    · rw [hrun _ _ hd.2];refine ⟨false, .inr rfl, ⟨fun h => (by cases h), fun ⟨k, v, h⟩ => by simp at h⟩, .inl ⟨?_, rfl, hst.drawn d⟩⟩;have h2 := hes.len;rw [hd.1] at h2;exact List.eq_nil_of_length_eq_zero (by rw [← hp.length_eq]; simpa using h2.symm)
    · rw [hrun _ _ hd];have hjy : j < ys.length := by rw [← hes.len]; exact hj
      obtain ⟨i', hi', ex, pe⟩ := perm_idx hp hjy;refine ⟨true, .inl ⟨_, _, rfl⟩, ⟨fun _ => ⟨_, _, rfl⟩, fun _ => rfl⟩, .inr ⟨i', hi', rfl, ?_⟩⟩;have hst' := hst.drawn d;have hmm : m ≠ itb := fun e => (hst.own _ hm itb hO).2.2 (e ▸ hR)
      have hlt : itb < (drawnW W d).heap.size := (Array.getElem?_eq_some_iff.1 g1).1;have hRn : ∀ b, R b → b ≠ itb := fun b hb e => (hst.own _ hm itb hO).2.2 (e ▸ hb)
      refine hst'.write i hi ⟨rfl, rfl, rfl, by simp, fun b _ hb => World.putObj_heap_other fun e => hb (e ▸ hO)⟩ rfl ?_;obtain ⟨e, he, hk, hv⟩ := hes.at (i := j) (x := ys[j]) (List.getElem?_eq_getElem hjy);have hkeep : ∀ b, R b → R b ∧ ((drawnW W d).putObj itb (.mapIter (some m) cl (seen.push ((unseen es seen)[j]).born) cl)).heap[b]? = W.heap[b]? := fun b hb => ⟨hb, World.putObj_heap_other (hRn b hb)⟩
      have hej : (unseen es seen)[j] = e := by rw [List.getElem?_eq_getElem hj] at he; exact Option.some.inj he
      refine ⟨itb, m, _, cl, es, _, e1, hO, World.putObj_heap_same hlt, hR, (World.putObj_heap_other hmm).trans g2, hb, ?_, pe, ?_⟩
      · rw [unseen_push hb.1 j hj];exact (hes.erase j).keep hkeep
      · intro x hx;cases hx;refine ⟨e, by rw [hej]; simp, ?_, by rw [ex]; exact hk, by rw [ex]; exact hv.keep hkeep⟩;rw [← hej];exact (List.mem_filter.1 (List.getElem_mem hj)).1
  rintro u W' ⟨b, hu, hbu, hcase⟩
  rw [hd1];have hfr1 : Fr env sz.sz s (tm.setIfInBounds d1 u) := hfr.putNone hn;have hge : (tm.setIfInBounds d1 u)[d1]? = some u := by rw [Array.getElem?_setIfInBounds, if_pos rfl, if_pos (by rw [hfr.1]; exact hl1)]
  have hu0 : ∃ cs : Array Value, u = .tuple cs ∧ cs[0]? = some (.bool b) := by
    rcases hu with ⟨k, v, rfl⟩ | rfl
    · have : b = true := hbu.2 ⟨_, _, rfl⟩;subst this; exact ⟨_, rfl, rfl⟩
    · cases b
      · exact ⟨_, rfl, rfl⟩
      · obtain ⟨k, v, h⟩ := hbu.1 rfl; simp at h
  obtain ⟨cs, hcs, hc0⟩ := hu0;show wpListIn (fw sz.ro) 0 P ops _ (o2 :: rest) ⟨tm.setIfInBounds d1 u, sz.df⟩ W';unfold wpListIn;rw [if_pos (wanted_of hfr1 hw2)];have hrun2 : (execOp (Act.eval ⟨tm.setIfInBounds d1 u, sz.df⟩) o2).run P W' = .ok (.value (.bool b)) W' := by
    have hg : (tm.setIfInBounds d1 u).getD d1 undef = u := by rw [Array.getD_eq_getD_getElem?, hge]; rfl
    simp only [execOp, ho2, Act.eval, hg, Instr.extract, Sem.run_bind];rw [hcs];simp only [hc0, Sem.run_pure, Result.andThen_ok]
  refine Does.inn (K := fun v w => v = .bool b ∧ w = W') ?_ ?_
  · rw [hrun2]; exact ⟨rfl, rfl⟩
  rintro v w ⟨rfl, rfl⟩
  rw [hd2];rcases hcase with ⟨hl, rfl, hs⟩ | ⟨j, hj, rfl, hs⟩
  · exact h0 hl env _ w O R (hfr1.put hl2 (a := .val (.bool false))) hs
  · exact h1 j hj env _ w O R (hfr1.put hl2 (a := .val (.bool true))) hs
end
end Go.Proofs.Ythgbjhglhejalaa.Sy
end
section
set_option linter.unusedSimpArgs false
set_option linter.unusedVariables false
namespace Go.Proofs.Ythgbjhglhejalaa.Sy
open Go.RowKit
section
variable {κ ν : Type} [BEq κ]
end
def Inv.at (I : Inv) (val : Value) : Inv := ⟨fun W O R v => v = val ∧ I.ok W O R v, fun W W' O R R' hO hR v h => ⟨h.1, I.keep W W' O R R' hO hR v h.2⟩⟩
theorem St.rename {c : Ctx} {env : Env} {V : List NEnt} {W : World} {O : Nat → Nat → Prop} {R : Nat → Prop} {k : Nat} {x y : NEnt} (h : St c env V W O R) (hk : V[k]? = some x) (hyn : y.name ∉ V.map NEnt.name) (hy : y.holds env W (O x.name) R) :
    ∃ O2, St c env (V.set k y) W O2 R := by
  classical
  have hx : x ∈ V := List.mem_of_getElem? hk;have hne : y.name ≠ x.name := fun e => hyn (e ▸ List.mem_map.2 ⟨x, hx, rfl⟩)
  have hc : ∀ z ∈ V.set k y, z = y ∨ (z ∈ V ∧ z.name ≠ x.name ∧ z.name ≠ y.name) := fun z hz => by
    rcases mem_set_cases h.names hk hz with e | ⟨h1, h2⟩
    · exact .inl e
    · exact .inr ⟨h1, h2, fun e => hyn (e ▸ List.mem_map.2 ⟨z, h1, rfl⟩)⟩
  refine ⟨fun n b => if n = y.name then O x.name b else O n b, h.keep, fun z hz => ?_, fun z hz b hb => ?_, fun z hz z2 hz2 hn b hb => ?_, h.ro, h.r0, ?_⟩
  · rcases hc z hz with rfl | ⟨h1, h2, h3⟩
    · simp only [if_true]; exact hy
    · simp only [h3, if_false]; exact h.holds z h1
  · rcases hc z hz with rfl | ⟨h1, h2, h3⟩
    · simp only [if_true] at hb; exact h.own x hx b hb
    · simp only [h3, if_false] at hb; exact h.own z h1 b hb
  · rcases hc z hz with rfl | ⟨h1, h2, h3⟩ <;> rcases hc z2 hz2 with rfl | ⟨g1, g2, g3⟩
    · exact hn rfl
    · simp only [if_true, g3, if_false] at hb; exact h.apart x hx z2 g1 (Ne.symm g2) b hb
    · simp only [if_true, h3, if_false] at hb; exact h.apart z h1 x hx h2 b hb
    · simp only [h3, g3, if_false] at hb; exact h.apart z h1 z2 g1 hn b hb
  · have : (V.set k y).map NEnt.name = (V.map NEnt.name).set k y.name := List.map_set;rw [this];have hlt := (List.getElem?_eq_some_iff.1 hk).1;rw [List.nodup_iff_pairwise_ne, List.pairwise_iff_getElem];have hnd := List.pairwise_iff_getElem.1 (List.nodup_iff_pairwise_ne.1 h.names);have hm : ∀ i (hi : i < (V.map NEnt.name).length), (V.map NEnt.name)[i] ≠ y.name := fun i hi e => hyn (e ▸ List.getElem_mem hi)
    intro i j hi hj hij;rw [List.length_set] at hi hj;rw [List.getElem_set, List.getElem_set]
    split <;> split
    · omega
    · exact (hm j hj).symm
    · exact hm i hi
    · exact hnd i j hi hj hij
section
variable {P : Program} {c : Ctx} {sz : Fm} {Q : Exit → Act → World → Prop} {t : List Item} {s : List (Nat × AV)} {V : List NEnt} {o : Oper} {ops : Array Oper} {rest : List Oper}
end
end Go.Proofs.Ythgbjhglhejalaa.Sy
end
section
set_option linter.unusedSimpArgs false
set_option linter.unusedVariables false
namespace Go.Proofs.Ythgbjhglhejalaa.Sy
open Go.RowKit
theorem EsOk.of {κ ν : Type} {ek : κ → Value} {ag : Bool} {ev : ν → List D} {W : World} {R : Nat → Prop} : ∀ {es : List MapEntry} {xs : List (κ × ν)}, es.map (·.key) = (xs.map (·.1)).map ek → (∀ (i : Nat) (e : MapEntry) (x : κ × ν), es[i]? = some e → xs[i]? = some x → VOk ag (ev x.2) W R e.val) → EsOk ek ag ev W R es xs := by
  intro es
  induction es with
  | nil => intro xs h _; cases xs with
    | nil => exact .nil
    | cons => simp at h
  | cons a l ih =>
    intro xs h hv
    cases xs with
    | nil => simp at h
    | cons x xs =>
      simp only [List.map_cons, List.cons.injEq] at h;exact .cons h.1 (hv 0 a x rfl rfl) (ih h.2 fun i e y he hy => hv (i + 1) e y he hy)
section
variable {P : Program} {c : Ctx} {sz : Fm} {Q : Exit → Act → World → Prop} {t : List Item} {s : List (Nat × AV)} {V : List NEnt} {ops : Array Oper} {rest : List Oper}
end
section
variable {P : Program} {s : List (Nat × AV)} {o : Oper} {ρ : Operand → Option AV}
end
section
variable {P : Program} {c : Ctx} {sz : Fm} {Q : Exit → Act → World → Prop} {t : List Item} {s : List (Nat × AV)} {V : List NEnt} {ops : Array Oper} {rest : List Oper} {o1 o2 : Oper}
end
theorem OpSpec.froz {P : Program} {o : Oper} {ρ : Operand → Option AV} {need : List NEnt} {v : AV} {news : List NEnt} {x : NEnt} (j : Nat) (hj : news[j]? = some x) (h : OpSpec P o ρ need v news) : OpSpec P o ρ need v (news.set j x.toRo) := by
  intro ev env W O R he hn hO hR;refine (h ev env W O R he hn hO hR).mono ?_
  rintro u W' ⟨env', O', R', he', hu, hst⟩
  refine ⟨env', _, _, fun n hn => he' n fun y hy => ?_, hu, hst.freeze j hj⟩;have hnm := set_names (y := x.toRo) hj (NEnt.toRo_name x);have : y.name ∈ (news.set j x.toRo).map NEnt.name := by rw [hnm]; exact List.mem_map.2 ⟨y, hy, rfl⟩
  obtain ⟨z, hz, e⟩ := List.mem_map.1 this;rw [← e]; exact hn z hz
theorem findAsk2 {P : Program} {K : TypeId} {κ : Type} [BEq κ] [LawfulBEq κ] {ek : κ → Value} (hq : ∀ k k' w, (Op.equal K (ek k) (ek k')).run P w = .ok (k == k') w) (k : κ) : ∀ (es : List MapEntry) (ks : List κ) (i : Nat) (w : World), es.map (·.key) = ks.map ek →
    (Instr.findAsking K (ek k) es i).run P w = .ok ((ks.findIdx? (· == k)).bind fun j => (es[j]?).map fun e => (i + j, e.val)) w := by
  intro es
  induction es with
  | nil => intro ks i w h; cases ks <;> first | rfl | cases h
  | cons e es ih =>
    intro ks i w h
    cases ks with
    | nil => cases h
    | cons z ks =>
      simp only [List.map_cons, List.cons.injEq] at h;simp only [Instr.findAsking, h.1, Sem.run_bind, hq, Result.andThen_ok, List.findIdx?_cons]
      by_cases hz : k = z
      · subst hz; simp
      · have h1 : (k == z) = false := by simpa using hz
        have h2 : (z == k) = false := by simpa using Ne.symm hz
        simp only [h1, Bool.false_eq_true, if_false, h2, ih ks (i + 1) w h.2];cases ks.findIdx? (· == k) <;> simp
        rename_i j
        cases es[j]? <;> simp
        omega
theorem mkey_agg2 {P : Program} {M K V : TypeId} {κ : Type} [BEq κ] [LawfulBEq κ] {ek : κ → Value} {dK : TypeDesc} (hu : P.underlying M = some (.map K V)) (hK : P.underlying K = some dK) (hd : ∀ k es i, Instr.findNow dK k es i = if es = [] then some none else none) (hc : ∀ b k w, (Instr.checkKey b 10000 K (ek k)).run P w = .ok () w)
    (hq : ∀ k k' w, (Op.equal K (ek k) (ek k')).run P w = .ok (k == k') w) (hs : ∀ k, Instr.sameBits 10000 (ek k) (ek k) = true) : MKey P M K V ek where
  under := hu
  check := hc
  find k es ks w h := by
    simp only [Instr.findKey, Sem.run_bind, run_underlying hK, Result.andThen_ok, hd]
    cases es with
    | nil => cases ks <;> first | rfl | cases h
    | cons e es =>
      simp only [reduceCtorEq, if_false];have := findAsk2 hq k (e :: es) ks 0 w h
      simpa using this
  stay k w := by simp [Instr.keyThatStays, hs]
  eq ks k i x h1 h2 := by
    obtain ⟨h3, h4, _⟩ := List.findIdx?_eq_some_iff_getElem.1 h1;rw [List.getElem?_eq_getElem h3] at h2;cases h2;simp only [beq_iff_eq] at h4;rw [h4]
end Go.Proofs.Ythgbjhglhejalaa.Sy
end
section
set_option linter.unusedSimpArgs false
set_option linter.unusedVariables false
namespace Go.Proofs.Ythgbjhglhejalaa.Sy
open Go.RowKit
end Go.Proofs.Ythgbjhglhejalaa.Sy
end
section
set_option linter.unusedSimpArgs false
set_option linter.unusedVariables false
namespace Go.Proofs.Ythgbjhglhejalaa.Sy
open Go.RowKit
section
variable {P : Program} {c : Ctx} {sz : Fm} {Q : Exit → Act → World → Prop} {t : List Item} {s : List (Nat × AV)} {V : List NEnt} {ops : Array Oper} {rest : List Oper} {o : Oper} {ρ : Operand → Option AV}
theorem TL.pin (g n : Nat) (hf : (!hasS g s && !hasV g V) = true) (hg : Nat.beq g n = false) (h : ∀ u, TL P c sz Q ops rest t s (.pin g n u :: V)) : TL P c sz Q ops rest t s V := by
  simp only [Bool.and_eq_true, Bool.not_eq_true'] at hf;intro env tm W O R hfr hst;have hgn : g ≠ n := fun e => by subst e; rw [Nat.beq_refl] at hg; cases hg
  have hst' := hst.addRo (x := .pin g n (env n)) (v := .bool false) hf.2 fun O => by
    simp only [NEnt.holds, NEnt.name, setEnv_other hgn]
  exact h (env n) _ tm W _ R (hfr.congr fun m hm => (setEnv_other fun e => by subst e; simp only [NEnt.name] at hm; rw [hf.1] at hm; cases hm).symm) hst'
end
def arrI {X : Type} (T : TypeId) (enc : X → List Value) (xs : List X) : Inv :=
  ⟨fun W O _ v => ∃ b, v = .pointer (some ⟨b, 0, none⟩) ∧ O b ∧ W.heap[b]? = some (.cells (xs.flatMap enc).toArray T (0, 0)),
   fun W W' O R R' hO _ v h => by obtain ⟨b, h1, h2, h3⟩ := h; exact ⟨b, h1, h2, (hO b h2).trans h3⟩⟩
def IsArr {X : Type} (y : NEnt) (n : Nat) (T : TypeId) (enc : X → List Value) (xs : List X) : Prop := y = .inv n (arrI T enc xs) ∨ y = .any n (arrI T enc xs).froz
section
variable {X : Type} {T' n : Nat} {enc : X → List Value} {xs : List X}
theorem isArrO : IsArr (.inv n (arrI T' enc xs)) n T' enc xs := .inl rfl
theorem isArrR : IsArr (.any n (arrI T' enc xs).froz) n T' enc xs := .inr rfl
theorem arr_holds {y : NEnt} (hy : IsArr y n T' enc xs) {env : Env} {W : World} {O R : Nat → Prop} (h : y.holds env W O R) :
    ∃ b, env n = .pointer (some ⟨b, 0, none⟩) ∧ W.heap[b]? = some (.cells (xs.flatMap enc).toArray T' (0, 0)) := by
  rcases hy with rfl | rfl
  · obtain ⟨b, h1, h2, h3⟩ := h; exact ⟨b, h1, h3⟩
  · obtain ⟨O', _, b, h1, h2, h3⟩ := h; exact ⟨b, h1, h3⟩
theorem flat_get {s : Nat} (hl : ∀ x, (enc x).length = s) {i j : Nat} {x : X} {v : Value} (hx : xs[i]? = some x) (hj : (enc x)[j]? = some v) : (xs.flatMap enc)[i * s + j]? = some v := by
  have h := arr_get (enc := fun x => (enc x).map AV.val) (s := s) (cells := (xs.flatMap fun x => (enc x).map AV.val)) (pre := []) (post := []) (xs := xs) (a := .val v) (i := i) (j := j) (x := x) (fun x => by simp [hl x]) (by
    have := (List.getElem?_eq_some_iff.1 hj).1;rw [hl] at this;simp [Nat.blt_eq]; omega) (by simp) hx (by simp [hj])
  have e : (xs.flatMap fun x => (enc x).map AV.val) = (xs.flatMap enc).map AV.val := by rw [List.map_flatMap]
  rw [e] at h
  simpa using h
variable {P : Program} {s : List (Nat × AV)} {o : Oper} {ρ : Operand → Option AV}
theorem sp_nilCheckX {x : Operand} {off : Nat} {y : NEnt} (ho : o.op = .nilCheck x) (hy : IsArr y n T' enc xs) (hx : ρ x = some (.ptr n off)) : OpSpec P o ρ [y] (.ptr n off) [] :=
  .pure fun ev env W O R he hn => by
    obtain ⟨b, hb, _⟩ := arr_holds hy (hn _ (List.mem_singleton.2 rfl));simp [execOp, ho, he x _ hx, AV.den, hb, blockOff]
theorem sp_loadX {T : TypeId} {x : Operand} {off size i j : Nat} {y : NEnt} {z : X} {v : Value} (ho : o.op = .load T x) (hy : IsArr y n T' enc xs) (hx : ρ x = some (.ptr n off)) (hT : VarT P T 1 false) (hl : ∀ x, (enc x).length = size) (hoff : off = 0 + i * size + j) (hi : xs[i]? = some z) (hj : (enc z)[j]? = some v) :
    OpSpec P o ρ [y] (.val v) [] :=
  .pure fun ev env W O R he hn => by
    rw [Nat.zero_add] at hoff; subst hoff;obtain ⟨b, h1, h3⟩ := arr_holds hy (hn _ (List.mem_singleton.2 rfl));have h4 : W.cell? ⟨b, i * size + j, none⟩ = some v := by simp [World.cell?, h3, flat_get hl hi hj]
    simp [execOp, ho, he x _ hx, AV.den, h1, blockOff, Instr.loadAt, Instr.sureAddr, loadVar, hT.isAgg, h4]
theorem flat_set {enc : X → List Value} {sz : Nat} (hl : ∀ x, (enc x).length = sz) {j : Nat} {z z' : X} {vs : List Value} : ∀ {xs : List X} {i : Nat}, xs[i]? = some z → j + vs.length ≤ sz → enc z' = (enc z).take j ++ vs ++ (enc z).drop (j + vs.length) →
    (xs.flatMap enc).take (i * sz + j) ++ vs ++ (xs.flatMap enc).drop (i * sz + j + vs.length) = (xs.set i z').flatMap enc := by
  intro xs
  induction xs with
  | nil => intro i h; simp at h
  | cons x l ih =>
    intro i hi hle he
    cases i with
    | zero =>
      simp only [List.getElem?_cons_zero, Option.some.injEq] at hi;subst hi;have hx := hl x;simp only [Nat.zero_mul, Nat.zero_add, List.flatMap_cons, List.set_cons_zero, he];rw [List.take_append_of_le_length (by omega), List.drop_append_of_le_length (by omega)];simp
    | succ i =>
      simp only [List.getElem?_cons_succ] at hi;have hx := hl x;have := ih hi hle he;simp only [List.flatMap_cons, List.set_cons_succ, ← this];have e1 : (i + 1) * sz + j = (enc x).length + (i * sz + j) := by rw [hx, Nat.add_mul]; omega
      rw [e1, Nat.add_assoc, List.take_length_add_append, List.drop_length_add_append];simp
theorem flat_len {enc : X → List Value} {sz : Nat} (hl : ∀ x, (enc x).length = sz) : ∀ xs : List X, (xs.flatMap enc).length = xs.length * sz
  | [] => by simp
  | x :: l => by rw [List.flatMap_cons, List.length_append, hl x, flat_len hl l, List.length_cons, Nat.add_mul]; omega
theorem ts_storeX {T off size i j N : Nat} {ag : Bool} {x y : Operand} {a : AV} {z z' : X} {vs : List Value} {need : List NEnt} (ho : o.op = .store T x y) (hx : rho s x = some (.ptr n off)) (hy : rho s y = some a) (hfl : a.flat = true) (hcs : a.cs = vs.map .val)
    (hT : VarT P T N ag) (hN : a.cs.length = N) (hl : ∀ x, (enc x).length = size) (hoff : off = 0 + i * size + j) (hi : xs[i]? = some z) (hle : Nat.ble (j + vs.length) size = true) (he : enc z' = (enc z).take j ++ vs ++ (enc z).drop (j + vs.length)) :
    TSpec P o (rho s) [.inv n (arrI T' enc xs)] need (.val undef) [.inv n (arrI T' enc (xs.set i z'))] := by
  rw [Nat.zero_add] at hoff; subst hN; subst hoff;intro ev c env V W O R hev hst ht _ _;obtain ⟨k, hk⟩ := List.mem_iff_getElem?.1 (ht _ (List.mem_singleton.2 rfl));have hle' := Nat.le_of_ble_eq_true hle;have hdv : ∀ (e : Env) (l : List Value), AV.denL e (l.map .val) = l := fun e l => by rw [AV.denL_map]; simp [AV.den, Function.comp_def]
  have hst1 := hst.write k (y := .blk n ((xs.flatMap enc).map .val) T') hk (Keep.refl _ W) rfl (by
    obtain ⟨b, h1, h2, h3⟩ := hst.holds _ (List.mem_of_getElem? hk);exact ⟨b, h1, h2, by rw [hdv]; exact h3⟩)
  have hlt : k < V.length := (List.getElem?_eq_some_iff.1 hk).1;have hk1 : (V.set k (NEnt.blk n ((xs.flatMap enc).map .val) T'))[k]? = some (.blk n ((xs.flatMap enc).map .val) T') := by rw [List.getElem?_set_self hlt]
  have hlen : i * size + j + vs.length ≤ (xs.flatMap enc).length := by
    have hv := flat_len hl xs;have hi' : i < xs.length := (List.getElem?_eq_some_iff.1 hi).1;have : (i + 1) * size ≤ xs.length * size := Nat.mul_le_mul_right _ hi';rw [Nat.add_mul] at this
    omega
  refine (coreB hev hst1 k ho hx hk1 hy hfl hT.sizeOf (by rw [hcs]; simpa using hlen)).mono ?_
  rintro u W' ⟨rfl, h⟩
  rw [List.set_set] at h;have e : ((xs.flatMap enc).map AV.val).take (i * size + j) ++ a.cs ++ ((xs.flatMap enc).map AV.val).drop (i * size + j + a.cs.length) = ((xs.set i z').flatMap enc).map .val := by
    rw [hcs, ← flat_set hl hi hle' he, List.length_map];simp only [List.map_append, List.map_take, List.map_drop]
  rw [e] at h;have hk2 : (V.set k (NEnt.blk n (((xs.set i z').flatMap enc).map .val) T'))[k]? = some (.blk n (((xs.set i z').flatMap enc).map .val) T') := by rw [List.getElem?_set_self hlt]
  have h2 := h.write k (y := .inv n (arrI T' enc (xs.set i z'))) hk2 (Keep.refl _ W') rfl (by
    obtain ⟨b, h1, h2, h3⟩ := h.holds _ (List.mem_of_getElem? hk2);exact ⟨b, h1, h2, by rw [hdv] at h3; exact h3⟩)
  rw [List.set_set] at h2;exact ⟨env, O, R, fun _ _ => rfl, rfl, St.set_del hk hst.names rfl h2⟩
variable {c : Ctx} {sz : Fm} {Q : Exit → Act → World → Prop} {t : List Item} {V : List NEnt} {ops : Array Oper} {rest : List Oper}
theorem TSpec.froz {P : Program} {o : Oper} {ρ : Operand → Option AV} {take need : List NEnt} {v : AV} {news : List NEnt} {x : NEnt} (j : Nat) (hj : news[j]? = some x) (h : TSpec P o ρ take need v news) : TSpec P o ρ take need v (news.set j x.toRo) := by
  intro ev c env V W O R he hst ht hk hn;have hnm := set_names (y := x.toRo) hj (NEnt.toRo_name x);have hmem : ∀ y ∈ news, ∃ z ∈ news.set j x.toRo, z.name = y.name := fun y hy => by
    have : y.name ∈ (news.set j x.toRo).map NEnt.name := by rw [hnm]; exact List.mem_map.2 ⟨y, hy, rfl⟩
    obtain ⟨z, hz, e⟩ := List.mem_map.1 this;exact ⟨z, hz, e⟩
  refine (h ev c env V W O R he hst ht hk (fun y hy => by obtain ⟨z, hz, e⟩ := hmem y hy; rw [← e]; exact hn z hz)).mono ?_
  rintro u W' ⟨env', O', R', he', hu, hst'⟩
  have hlt := (List.getElem?_eq_some_iff.1 hj).1;have hf := hst'.freeze j (x := x) (by rw [List.getElem?_append_left hlt]; exact hj);rw [List.set_append_left _ _ hlt] at hf;refine ⟨env', _, _, fun n hn2 => he' n fun y hy hyt e => ?_, hu, hf⟩;obtain ⟨z, hz, e2⟩ := hmem y hy;exact hn2 z hz (by rw [e2]; exact hyt) (by rw [e2]; exact e)
end
end Go.Proofs.Ythgbjhglhejalaa.Sy
end
section
set_option linter.unusedSimpArgs false
set_option linter.unusedVariables false
namespace Go.Proofs.Ythgbjhglhejalaa.Sy
open Go.RowKit Instr
section
variable {P : Program} {o : Oper} {ρ : Operand → Option AV}
def evO {ν : Type} (ev : ν → List D) : Option ν → List D
  | none => [D.v (.pointer none)]
  | some v => ev v
theorem EsOk.opt {κ ν : Type} {ek : κ → Value} {ag : Bool} {ev : ν → List D} {W : World} {R : Nat → Prop} {es : List MapEntry} {xs : List (κ × ν)} (h : EsOk ek ag ev W R es xs) : EsOk ek ag (evO ev) W R es (xs.map fun x => (x.1, some x.2)) := by
  induction h with
  | nil => exact .nil
  | cons h1 h2 _ ih => exact .cons h1 h2 ih
theorem mfind_opt {κ ν : Type} [BEq κ] (xs : List (κ × ν)) (k : κ) : mfind (xs.map fun x => (x.1, some x.2)) k = mfind xs k := by
  simp [mfind, List.map_map, Function.comp_def]
theorem mlook_opt {κ ν : Type} [BEq κ] (xs : List (κ × ν)) (k : κ) : mlook (xs.map fun x => (x.1, some x.2)) k = (mlook xs k).map some := by
  simp only [mlook, mfind_opt]
  cases mfind xs k with
  | none => rfl
  | some i => simp [List.getElem?_map]; cases xs[i]? <;> rfl
theorem look_ptr {κ ν : Type} [BEq κ] {M K V : TypeId} {ek : κ → Value} {ev : ν → List D} {xs : List (κ × ν)} {W : World} {R : Nat → Prop} {r cl : Nat} {es : Array MapEntry} (hk : MKey P M K V ek) (h : W.heap[r]? = some (.map es cl)) (hes : EsOk ek false ev W R es.toList xs) (k : κ)
    (hz : ∀ w, (zeroValue V).run P w = .ok (.pointer none) w) : ∃ v, VOk false (evO ev (mlook xs k)) W R v ∧ (Instr.lookup M (.map (some r)) (ek k) true).run P W = .ok (.tuple #[v, .bool (mlook xs k).isSome]) W := by
  obtain ⟨v, h1, h2⟩ := look_val hk h hes.opt k none (z := .pointer none) hz ⟨[.pointer none], rfl, rfl, rfl, fun j d hj => by
    cases j with
    | zero => simp [evO] at hj; subst hj; exact ⟨_, rfl, rfl, rfl⟩
    | succ j => simp [evO] at hj⟩ true
  rw [mlook_opt] at h1 h2;have e : ((mlook xs k).map some).getD none = mlook xs k := by cases mlook xs k <;> rfl
  have e2 : ((mlook xs k).map some).isSome = (mlook xs k).isSome := by cases mlook xs k <;> rfl
  rw [e] at h1;rw [e2] at h2;exact ⟨v, h1, h2⟩
theorem sp_lookupN {κ ν : Type} [BEq κ] [LawfulBEq κ] {M K V n : Nat} {x i : Operand} {ek : κ → Value} {ev : ν → List D} {xs : List (κ × ν)} {y : NEnt} (k : κ) {ka : AV} (hN : mlook xs k = none) (ho : o.op = .lookup M x i true) (hx : ρ x = some (.ref n)) (hi : ρ i = some ka) (hka : ∀ e, ka.den e = ek k) (hy : IsMapE y n ek false ev xs) (hk : MKey P M K V ek)
    (hz : ∀ w, (zeroValue V).run P w = .ok (.pointer none) w) : OpSpec P o ρ [y] (.tup [.val (.pointer none), .val (.bool false)]) [] := by
  intro evl env W O R he hn _ hR;obtain ⟨r, cl, es, ys, h1, h2, h3, h4⟩ := map_read hy (hn _ (List.mem_singleton.2 rfl));have hx' := he x _ hx;simp only [AV.den, h1, oneOf] at hx';have hi' := he i _ hi;rw [hka] at hi';obtain ⟨u, hu, hrun⟩ := look_ptr hk h2 h3 k hz;rw [mlook_perm h4.1 h4.2.1, hN] at hu hrun;have : (execOp evl o).run P W = .ok (.value (.tuple #[u, .bool false])) W := by
    simp only [execOp, ho, hx', hi', Sem.run_bind, hrun, Result.andThen_ok, Sem.run_pure, Option.isSome_none]
  rw [this];obtain ⟨cs, hc1, hc2, hc3, hc4⟩ := hu;obtain ⟨u0, g1, g2, _⟩ := hc4 0 (D.v (.pointer none)) rfl;have hu : u = .pointer none := by
    rw [hc2]
    cases cs with
    | nil => simp at g1
    | cons c l => simp at g1; subst g1; exact g2
  subst hu;exact ⟨env, _, R, fun _ _ => rfl, by simp only [AV.den, AV.denL], St.roNews hR (by simp) (by simp)⟩
end
section
variable {P : Program} {c : Ctx} {sz : Fm} {Q : Exit → Act → World → Prop} {t : List Item} {s : List (Nat × AV)} {V : List NEnt}
end
def lookW {α β : Type} (o : Option α) (e1 : Option β) (e2 : α → Option β) : Option β := match o with
  | none => e1
  | some p => e2 p
theorem lookW_inv {α β : Type} {o : Option α} {e1 : Option β} {e2 : α → Option β} {r : β} (h : lookW o e1 e2 = some r) : (o = none ∧ e1 = some r) ∨ ∃ p, o = some p ∧ e2 p = some r := by
  cases o with
  | none => exact .inl ⟨rfl, h⟩
  | some p => exact .inr ⟨p, rfl, h⟩
end Go.Proofs.Ythgbjhglhejalaa.Sy
end
section
set_option linter.unusedSimpArgs false
set_option linter.unusedVariables false
namespace Go.Proofs.Ythgbjhglhejalaa.Sy
open Go.RowKit
section
variable {P : Program} {c : Ctx} {sz : Fm} {Q : Exit → Act → World → Prop} {t : List Item} {s : List (Nat × AV)} {V : List NEnt} {ops : Array Oper} {rest : List Oper}
end
section
variable {P : Program} {s : List (Nat × AV)} {o : Oper} {ρ : Operand → Option AV}
end
end Go.Proofs.Ythgbjhglhejalaa.Sy
end
section
set_option linter.unusedSimpArgs false
set_option linter.unusedVariables false
namespace Go.Proofs.Ythgbjhglhejalaa.Sy
open Go.RowKit
section
variable {P : Program} {c : Ctx} {sz : Fm} {Q : Exit → Act → World → Prop} {t : List Item} {s : List (Nat × AV)} {V : List NEnt} {ops : Array Oper} {rest : List Oper}
end
section
variable {P : Program} {s : List (Nat × AV)} {o : Oper} {ρ : Operand → Option AV}
end
end Go.Proofs.Ythgbjhglhejalaa.Sy
end
section
set_option linter.unusedSimpArgs false
set_option linter.unusedVariables false
namespace Go.Proofs.Ythgbjhglhejalaa.Sy
open Go.RowKit
section
variable {X : Type} {P : Program} {c : Ctx} {sz : Fm} {Q : Exit → Act → World → Prop} {t : List Item} {s : List (Nat × AV)} {V : List NEnt} {ops : Array Oper} {rest : List Oper} {T' n : Nat} {enc : X → List Value} {xs : List X}
end
section
variable {P : Program} {o : Oper} {ρ : Operand → Option AV}
theorem sp_sliceA0 {T E : TypeId} {size n len m : Nat} {ag : Bool} {x : Operand} {cells : List AV} {T' : TypeId} {els : List (List D)} {need : List NEnt} (ho : o.op = .slice T x none none none) (hx : ρ x = some (.ptr n 0)) (hT : P.underlying T = some (.array len E)) (hE : VarT P E size ag)
    (hsz : ∀ el ∈ els, el.length = size) (hl : els.length = len) (hm : Nat.ble len 140737488355327 = true) (hp : Nat.blt 0 len = true) (hcl : cells.length = len * size) (had : ADL need cells els.flatten) (hone : cells.all AV.one = true) (hps : Nat.blt 0 size = true) : OpSpec P o ρ (.rob n cells T' :: need) (.ref m) [.ro m size els] := by
  intro ev env W O R hev hn _ hR;obtain ⟨b, h1, h2, h3⟩ := hn (.rob n cells T') (by simp);have hx' := hev x _ hx;simp only [AV.den, h1, blockOff] at hx';have hp' : 0 < len := by simpa [Nat.blt_eq] using hp
  have hrun : (execOp ev o).run P W = .ok (.value (.slice (some ⟨b, 0, none⟩) len len)) W := by
    simp [execOp, ho, Instr.sliceAt, Instr.slice, hx', run_underlying hT, Instr.sliceBounds, Instr.sliceBound, asIntOf, hE.sizeOf, Nat.ne_of_gt hp', Instr.sureAddr, add_lit]
  rw [hrun];obtain ⟨hal, hak⟩ := had.ok (fun z hz => hn z (by simp [hz]));refine ⟨setEnv env m (.slice (some ⟨b, 0, none⟩) len len), fun _ _ => False, R, fun k hk => setEnv_other (hk (.ro m size els) (by simp)), by simp [AV.den, setEnv_same, oneOf], ?_⟩;refine St.fresh (Keep.refl _ W) hR ?_ (fun b hb => hb.elim);simp only [NEnt.holds, setEnv_same];refine ⟨some ⟨b, 0, none⟩, len, by rw [hl], by omega, (by have := Nat.le_of_ble_eq_true hm; simp only [maxLen]; omega), (fun h => nomatch h), fun i el hi => ⟨hsz el (List.mem_of_getElem? hi), fun j d hj => ⟨b, 0, rfl, h2, ?_⟩⟩⟩;have hjs : j < size := by
    have := (List.getElem?_eq_some_iff.1 hj).1; rw [hsz el (List.mem_of_getElem? hi)] at this; exact this
  have hf := flatten_get els i j el hsz hi hjs;obtain ⟨u, hu, hok⟩ := hak (i * size + j) d (by rw [hf]; exact hj);refine ⟨u, ?_, hok, denL_one hone u (List.mem_of_getElem? hu)⟩;simp only [World.cell?, h3, Nat.zero_add]
  simpa using hu
end
end Go.Proofs.Ythgbjhglhejalaa.Sy
end
section
set_option linter.unusedSimpArgs false
set_option linter.unusedVariables false
namespace Go.Proofs.Ythgbjhglhejalaa.Sy
open Go.RowKit
section
variable {P : Program} {c : Ctx} {sz : Fm} {Q : Exit → Act → World → Prop} {t : List Item} {s : List (Nat × AV)} {V : List NEnt} {ops : Array Oper} {rest : List Oper} {o : Oper} {ρ : Operand → Option AV}
theorem sp_nilCheckV {x : Operand} {a : Addr} (ho : o.op = .nilCheck x) (hx : ρ x = some (.val (.pointer (some a)))) : OpSpec P o ρ [] (.val (.pointer (some a))) [] :=
  .pure fun ev env W O R he hn => by simp [execOp, ho, he x _ hx, AV.den]
theorem sp_indexAV {T E : TypeId} {size len b off : Nat} {ag : Bool} {x i : Operand} {k : IntKind} {iv : Int} (ho : o.op = .indexAddr T x i) (hx : ρ x = some (.val (.pointer (some ⟨b, off, none⟩)))) (hi : ρ i = some (.val (.int k iv))) (hT : P.underlying T = some (.array len E)) (hE : VarT P E size ag)
    (h0 : (decide (0 ≤ iv) && decide (iv < len)) = true) : OpSpec P o ρ [] (.val (.pointer (some ⟨b, off + iv.toNat * size, none⟩))) [] :=
  .pure fun ev env W O R hev hn => by
    simp only [Bool.and_eq_true, decide_eq_true_eq] at h0;simp [execOp, ho, hev x _ hx, hev i _ hi, AV.den, Instr.indexAt, asIntOf, run_underlying hT, Instr.sureAddr, hE.sizeOf, h0.1, h0.2, add_lit]
end
end Go.Proofs.Ythgbjhglhejalaa.Sy
end
section
set_option linter.unusedSimpArgs false
set_option linter.unusedVariables false
namespace Go.Proofs.Ythgbjhglhejalaa.Sy
open Go.RowKit Go.Shelf
end Go.Proofs.Ythgbjhglhejalaa.Sy
end
section
set_option linter.unusedSimpArgs false
set_option linter.unusedVariables false
namespace Go.Proofs.Ythgbjhglhejalaa.Sy
open Go.RowKit
section
variable {P : Program} {c : Ctx} {sz : Fm} {Q : Exit → Act → World → Prop} {t : List Item} {s : List (Nat × AV)} {V : List NEnt} {ops : Array Oper} {rest : List Oper} {o : Oper} {ρ : Operand → Option AV}
end
end Go.Proofs.Ythgbjhglhejalaa.Sy
end
section
set_option linter.unusedSimpArgs false
set_option linter.unusedVariables false
namespace Go.Proofs.Ythgbjhglhejalaa.Sy
open Go.RowKit
section
variable {P : Program} {o : Oper} {ρ : Operand → Option AV}
end
def mitM {κ ν : Type} (ek : κ → Value) (ag : Bool) (ev : ν → List D) (u : Value) (xs left : List (κ × ν)) (cur : Option (κ × ν)) : Inv :=
  ⟨fun W O R v => ∃ (it m : Nat) (seen : Array Nat) (cl : Nat) (es : Array MapEntry) (zs ys : List (κ × ν)), v = .pointer (some ⟨it, 0, none⟩) ∧ u = .map (some m) ∧ O it ∧ O m ∧ it ≠ m ∧ W.heap[it]? = some (.mapIter (some m) cl seen cl) ∧ W.heap[m]? = some (.map es cl) ∧ EsOk ek ag ev W R es.toList zs ∧ MapOk es.toList cl zs xs ∧
      EsOk ek ag ev W R (unseen es seen) ys ∧ ys.Perm left ∧ ∀ x, cur = some x → ∃ e, seen.back? = some e.born ∧ e ∈ es.toList ∧ e.key = ek x.1 ∧ VOk ag (ev x.2) W R e.val,
   fun W W' O R R' hO hR v ⟨it, m, seen, cl, es, zs, ys, h1, h2, h3, h4, h5, h6, h7, h8, h9, h10, h11, h12⟩ => ⟨it, m, seen, cl, es, zs, ys, h1, h2, h3, h4, h5, (hO it h3).trans h6, (hO m h4).trans h7, h8.keep hR, h9, h10.keep hR, h11,
      fun x hx => by obtain ⟨e, g1, g2, g3, g4⟩ := h12 x hx; exact ⟨e, g1, g2, g3, g4.keep hR⟩⟩⟩
section
variable {P : Program} {o : Oper} {ρ : Operand → Option AV}
end
section
variable {P : Program} {c : Ctx} {sz : Fm} {Q : Exit → Act → World → Prop} {t : List Item} {s : List (Nat × AV)} {V : List NEnt} {ops : Array Oper} {rest : List Oper} {o o1 o2 : Oper}
theorem TL.endM {κ ν : Type} {n m g : Nat} {ek : κ → Value} {ag : Bool} {ev : ν → List D} {u0 : Value} {xs left : List (κ × ν)} {cur : Option (κ × ν)} (i j : Nat) (hi : V[i]? = some (.inv n (mitM ek ag ev u0 xs left cur))) (hj : V[j]? = some (.pin g m u0)) (hij : Nat.beq i j = false) (hn : ((V.map NEnt.name).contains m) = false)
    (h : TL P c sz Q ops rest t s (V.set i (.inv m (mapI ek ag ev xs)))) : TL P c sz Q ops rest t s V := by
  intro env tm W O R hfr hst;have hv := hst.holds _ (List.mem_of_getElem? hi);have hp : env m = u0 := hst.holds _ (List.mem_of_getElem? hj);obtain ⟨O2, h2⟩ := hst.rename (y := .inv m (mapI ek ag ev xs)) hi (fun h => by have h := List.contains_iff_mem.2 (show m ∈ V.map NEnt.name from h); rw [hn] at h; cases h) (by
    obtain ⟨it, r, seen, cl, es, zs, ys, h1, h2, h3, h4, h5, h6, h7, h8, h9, _⟩ := hv;exact ⟨r, cl, es, zs, by rw [hp]; exact h2, h4, h7, h8, h9⟩)
  exact h env tm W O2 R hfr h2
end
end Go.Proofs.Ythgbjhglhejalaa.Sy
end
section
set_option linter.unusedSimpArgs false
set_option linter.unusedVariables false
namespace Go.Proofs.Ythgbjhglhejalaa.Sy
open Go.RowKit
section
variable {P : Program} {o : Oper} {ρ : Operand → Option AV} {X : Type} {T' n : Nat} {enc : X → List Value} {xs : List X}
theorem sp_fieldAddrX {T : TypeId} {x : Operand} {f off ft sz k : Nat} {ag : Bool} {y : NEnt} (ho : o.op = .fieldAddr T x f) (hy : IsArr y n T' enc xs) (hx : ρ x = some (.ptr n k)) (hf : FieldT P T f off ft) (hT : VarT P ft sz ag) (h0 : sz ≠ 0) : OpSpec P o ρ [y] (.ptr n (k + off)) [] :=
  .pure fun ev env W O R he hn => by
    obtain ⟨fs, fd, h1, h2, h3, h4⟩ := hf;subst h3; subst h4;obtain ⟨b, hb, _⟩ := arr_holds hy (hn _ (List.mem_singleton.2 rfl));simp [execOp, ho, he x _ hx, AV.den, hb, blockOff, Instr.fieldAt, run_underlying h1, h2, Instr.sureAddr, fieldPlace, hT.sizeOf, h0, add_lit]
theorem sp_buildZ {T : Nat} {cs : List Value} (ho : o.op = .build T #[]) (hb : P.built T [] = some cs.toArray) : OpSpec P o ρ [] (.val (.agg cs.toArray)) [] :=
  .pure fun ev env W O R he _ => by
    have h3 := run_build W T (#[] : Array (Nat × Value)) _ hb;simp only [execOp, ho, Sem.run_bind, Sem.run_pure, Result.andThen_ok, AV.den];have e : (#[] : Array (Nat × Operand)).map (fun x => (x.1, ev x.2)) = #[] := by simp
    rw [e, h3]
    rfl
theorem sp_boxX {T N : Nat} {x : Operand} {cs : List Value} (m : Nat) (z0 : X) (ho : o.op = .box T x) (hx : ρ x = some (.val (.agg cs.toArray))) (hc : cs = (List.replicate N z0).flatMap enc) : OpSpec P o ρ [] (.ptr m 0) [.inv m (arrI T enc (List.replicate N z0))] := by
  intro ev env W O R he hn _ hR;have : (execOp ev o).run P W = .ok (.value (.pointer (some ⟨W.heap.size, 0, none⟩))) (W.alloc (.cells cs.toArray T (0, 0))) := by
    have hx' := he x _ hx;simp only [AV.den] at hx';simp [execOp, ho, Instr.box, newVar, newRow, hx', Value.cells]
  rw [this];refine ⟨setEnv env m (.pointer (some ⟨W.heap.size, 0, none⟩)), fun _ b => b = W.heap.size, R, fun q hq => setEnv_other (hq _ (List.mem_singleton.2 rfl)), by simp [AV.den, setEnv_same, blockOff], ?_⟩;refine St.fresh (keep_alloc W _) hR ?_ (fun b hb => by subst hb; simp);simp only [NEnt.holds, setEnv_same];exact ⟨_, rfl, rfl, by rw [← hc]; exact World.alloc_heap_new W _⟩
theorem FC.atPtr {f off k : Nat} {i : AV} {y : NEnt} (hy : ∀ (env : Env) (W : World) (R : Nat → Prop), y.holds env W (fun _ => False) R → ∃ b, env n = .pointer (some ⟨b, 0, none⟩)) (h : ∀ b, FC P f [.val (.pointer (some ⟨b, off, none⟩)), i] [] (.val (.pointer (some ⟨b, off + k, none⟩))) []) :
    FC P f [.ptr n off, i] [y] (.ptr n (off + k)) [] := by
  intro env w0 R0 hn hR;obtain ⟨b, hb⟩ := hy env w0 R0 (hn _ (List.mem_singleton.2 rfl));have h2 := h b env w0 R0 (by simp) hR;have e : AV.denL env [.ptr n off, i] = AV.denL env [.val (.pointer (some ⟨b, off, none⟩)), i] := by simp [AV.denL, AV.den, hb, blockOff]
  rw [e];refine h2.mono ?_
  rintro en w' ⟨u, he, env', O', R', ha, hu, hst⟩
  refine ⟨u, he, env', O', R', ha, ?_, hst⟩;have hn' : env' n = env n := ha n (by simp);rw [hu];simp [AV.den, hn', hb, blockOff]
theorem FC.atX {f off k : Nat} {i : AV} {y : NEnt} (hy : ∀ {env : Env} {W : World} {R : Nat → Prop}, y.holds env W (fun _ => False) R → ∃ b, env n = .pointer (some ⟨b, 0, none⟩)) (h : ∀ b, FC P f [.val (.pointer (some ⟨b, off, none⟩)), i] [] (.val (.pointer (some ⟨b, off + k, none⟩))) []) :
    FC P f [.ptr n off, i] [y] (.ptr n (0 + ((off + k) * 1))) [] := by
  rw [Nat.zero_add, Nat.mul_one];exact FC.atPtr (fun _ _ _ => hy) h
theorem arrR_ptr {env : Env} {W : World} {R : Nat → Prop} (h : (NEnt.any n (arrI T' enc xs).froz).holds env W (fun _ => False) R) : ∃ b, env n = .pointer (some ⟨b, 0, none⟩) := by
  obtain ⟨O, _, b, h1, _⟩ := h;exact ⟨b, h1⟩
theorem sp_lookupA {κ ν Y : Type} [BEq κ] [LawfulBEq κ] {M K V n T : Nat} {x i : Operand} {ek : κ → Value} {ev : ν → List D} {xs : List (κ × ν)} {y : NEnt} (m : Nat) (k : κ) (p : ν) {encY : Y → List Value} {ps : List Y} {ka : AV} (hS : mlook xs k = some p) (ho : o.op = .lookup M x i true) (hx : ρ x = some (.ref n)) (hi : ρ i = some ka) (hka : ∀ e, ka.den e = ek k) (hy : IsMapE y n ek false ev xs) (hk : MKey P M K V ek)
    (hz : ∀ w, (zeroValue V).run P w = .ok (.pointer none) w) (hev : ev p = [(arrI T encY ps).froz]) : OpSpec P o ρ [y] (.tup [.ptr m 0, .val (.bool true)]) [.any m (arrI T encY ps).froz] := by
  intro evl env W O R he hn _ hR;obtain ⟨r, cl, es, ys, h1, h2, h3, h4⟩ := map_read hy (hn _ (List.mem_singleton.2 rfl));have hx' := he x _ hx;simp only [AV.den, h1, oneOf] at hx';have hi' := he i _ hi;rw [hka] at hi';obtain ⟨u, hu, hrun⟩ := look_ptr hk h2 h3 k hz;rw [mlook_perm h4.1 h4.2.1, hS] at hu hrun;have : (execOp evl o).run P W = .ok (.value (.tuple #[u, .bool true])) W := by
    simp only [execOp, ho, hx', hi', Sem.run_bind, hrun, Result.andThen_ok, Sem.run_pure, Option.isSome_some]
  rw [this];obtain ⟨cs, hc1, hc2, hc3, hc4⟩ := hu;simp only [evO, hev] at hc3 hc4;obtain ⟨u0, g1, hdok, _⟩ := hc4 0 _ rfl;have hd2 := hdok;obtain ⟨O', hO', b, q1, q2, q3⟩ := hdok;have hu : u = .pointer (some ⟨b, 0, none⟩) := by
    rw [hc2]
    cases cs with
    | nil => simp at g1
    | cons c l => simp at g1; subst g1; exact q1
  subst hu;rw [q1] at hd2;refine ⟨setEnv env m (.pointer (some ⟨b, 0, none⟩)), _, R, fun k hk => setEnv_other (hk _ (List.mem_singleton.2 rfl)), by simp [AV.den, AV.denL, setEnv_same, blockOff], St.roNews hR (fun z hz O => ?_) (by simp)⟩;rw [List.mem_singleton] at hz;subst hz;simp only [NEnt.holds, setEnv_same];exact hd2
end
theorem vok_arr {Y : Type} {m T : Nat} {encY : Y → List Value} {ps : List Y} {env : Env} {W : World} {O R : Nat → Prop} (h : (NEnt.any m (arrI T encY ps).froz).holds env W O R) : VOk false [(arrI T encY ps).froz] W R ((AV.ptr m 0).den env) := by
  have h' := h;obtain ⟨O', hO', b, h1, h2, h3⟩ := h;have e : (AV.ptr m 0).den env = .pointer (some ⟨b, 0, none⟩) := by simp [AV.den, h1, blockOff]
  rw [e];refine ⟨[.pointer (some ⟨b, 0, none⟩)], by simp [Value.cells], rfl, rfl, fun j d hj => ?_⟩
  cases j with
  | succ j => simp at hj
  | zero =>
    simp at hj;subst hj;exact ⟨_, rfl, ⟨O', hO', b, rfl, h2, h3⟩, rfl⟩
section
variable {P : Program} {o : Oper} {s : List (Nat × AV)}
theorem ts_mapUpdateV {κ ν : Type} [BEq κ] [LawfulBEq κ] {M K V n : Nat} {x i y : Operand} {ek : κ → Value} {ag : Bool} {ev : ν → List D} {xs : List (κ × ν)} (k : κ) (d : ν) {ka va : AV} {ys : List (κ × ν)} {need : List NEnt} (ho : o.op = .mapUpdate M x i y) (hx : rho s x = some (.ref n)) (hi : rho s i = some ka) (hka : ∀ e, ka.den e = ek k) (hy : rho s y = some va)
    (hvk : ∀ (env : Env) (W : World) (O : Nat → Nat → Prop) (R : Nat → Prop), (∀ z ∈ need, z.holds env W (O z.name) R) → VOk ag (ev d) W R (va.den env)) (hk : MKey P M K V ek) (hys : (xs.map (·.1)).Nodup → ys.Perm (mput xs k d)) :
    TSpec P o (rho s) [.inv n (mapI ek ag ev xs)] need (.val undef) [.inv n (mapI ek ag ev ys)] := by
  intro evl c env W0 W O R he hst ht hnd _;have hm := ht _ (List.mem_singleton.2 rfl);obtain ⟨kk, hkk⟩ := List.mem_iff_getElem?.1 hm;obtain ⟨r, cl, es, zs, h1, hOr, h2, h3, hp, hnd', hb⟩ := hst.holds _ hm;have hys' := hys ((hp.map _).nodup_iff.1 hnd');have hx' := he x _ hx;simp only [AV.den, h1, oneOf] at hx';have hi' := he i _ hi;rw [hka] at hi';have hy' := he y _ hy;have hvo : VOk ag (ev d) W R (va.den env) := hvk env W O R fun z hz => hst.holds z (hnd z hz)
  have hf := hk.find k es.toList (zs.map (·.1)) W h3.keys;have hR' : ∀ b, R b → b ≠ r := fun b hb e => (hst.own _ hm r hOr).2.2 (e ▸ hb)
  have hlt : r < W.heap.size := (Array.getElem?_eq_some_iff.1 h2).1;have key : ∀ (es' : Array MapEntry) (cl' : Nat), EsOk ek ag ev W R es'.toList (mput zs k d) → BornOk es'.toList cl' → St c env ([.inv n (mapI ek ag ev ys)] ++ delV [n] W0) (W.putObj r (.map es' cl')) O R := by
    intro es' cl' hes hbo;refine St.set_del hkk hst.names rfl (hst.write kk hkk ⟨rfl, rfl, rfl, by simp, fun b _ hb => World.putObj_heap_other fun e => hb (e ▸ hOr)⟩ rfl ?_)
    exact ⟨r, cl', es', _, h1, hOr, World.putObj_heap_same hlt, hes.keep fun b hb => ⟨hb, World.putObj_heap_other (hR' b hb)⟩, (mput_perm hp hnd' k d).trans hys'.symm, nodup_put hnd' k d, hbo⟩
  cases hfi : (zs.map (·.1)).findIdx? (· == k) with
  | none =>
    rw [hfi] at hf;have hrun : (execOp evl o).run P W = .ok .skip (W.putObj r (.map (es.push { key := ek k, val := va.den env, born := cl }) (cl + 1))) := by
      simp only [execOp, ho, Instr.mapUpdate, hx', hi', hy', Sem.run_bind, run_underlying hk.under, Result.andThen_ok, getObj_map h2, hk.check, hf, Option.bind_none, setObj_map _ h2, Sem.run_pure]
    rw [hrun];refine ⟨env, O, R, fun _ _ => rfl, rfl, key _ _ ?_ ?_⟩
    · simp only [mput, mfind, hfi, Array.toList_push];exact h3.snoc rfl hvo
    · rw [Array.toList_push]; exact hb.push rfl
  | some j =>
    have hjl : j < zs.length := by have := (List.findIdx?_eq_some_iff_getElem.1 hfi).1; simpa using this
    obtain ⟨e, hej, hek, _⟩ := h3.at (i := j) (x := zs[j]) (by simp [hjl]);rw [hfi] at hf;simp only [Option.bind_some, hej, Option.map_some] at hf;have hke : e.key = ek k := by rw [hek]; exact hk.eq _ k j _ hfi (by simp [hjl])
    have hej' : es[j]? = some e := by simpa using hej
    have hrun : (execOp evl o).run P W = .ok .skip (W.putObj r (.map (es.modify j fun e => { e with key := ek k, val := va.den env }) cl)) := by
      simp only [execOp, ho, Instr.mapUpdate, hx', hi', hy', Sem.run_bind, run_underlying hk.under, Result.andThen_ok, getObj_map h2, hk.check, hf, hej', Option.map_some, Option.getD_some, hke, hk.stay, setObj_map _ h2, Sem.run_pure]
    rw [hrun];refine ⟨env, O, R, fun _ _ => rfl, rfl, key _ _ ?_ ?_⟩
    rotate_left
    · refine hb.same ?_;rw [Array.toList_modify];apply List.ext_getElem?;intro q;rw [List.getElem?_map, List.getElem?_map, List.getElem?_modify]
      by_cases e' : j = q
      · subst e'; cases es.toList[j]? <;> simp
      · simp [e']
    simp only [mput, mfind, hfi, Array.toList_modify];have : es.toList.modify j (fun e => { e with key := ek k, val := va.den env }) = es.toList.set j { e with key := ek k, val := va.den env } := by
      apply List.ext_getElem?;intro q;rw [List.getElem?_modify, List.getElem?_set]
      by_cases e' : j = q
      · subst e';have hq : j < es.toList.length := (List.getElem?_eq_some_iff.1 hej).1;simp [hej]
        simpa using hq
      · simp [e']
    rw [this];exact h3.set j rfl hvo
end
end Go.Proofs.Ythgbjhglhejalaa.Sy
end
