/- The small logic of symbolic states: cuts of slices, calls, returns, the entry of a function. -/
import Derived.Test.YtohjpfkcahlfkaaGreatPbSymE
set_option linter.unusedSimpArgs false
set_option linter.unusedVariables false
namespace Go.Proofs.YtohjpfkcahlfkaaGreat.Sy
open Go.RowKit
section
variable {P : Program} {o : Oper} {ρ : Operand → Option AV}
def Cut (ρ : Operand → Option AV) (x : Option Operand) (dflt z : Int) : Prop := match x with
  | none => z = dflt
  | some x => ∃ k, ρ x = some (.val (.int k z))
theorem cut_none {z : Int} : Cut ρ none z z := rfl
theorem cut_some {x : Operand} {d z : Int} {k : IntKind} (h : ρ x = some (.val (.int k z))) : Cut ρ (some x) d z := ⟨k, h⟩
theorem sp_slice {T E : TypeId} {size bytes n : Nat} (m : Nat) {x : Operand} {lo hi : Option Operand} {l h : Int} {els els' : List (List D)} (ho : o.op = .slice T x lo hi none) (hx : ρ x = some (.ref n)) (hT : SlT P T E size bytes)
    (hlo : Cut ρ lo 0 l) (hhi : Cut ρ hi els.length h) (hb : (decide (0 ≤ l) && (decide (l ≤ h) && decide (h ≤ els.length))) = true) (he : (els.take h.toNat).drop l.toNat = els') :
    OpSpec P o ρ [.ro n size els] (.ref m) [.ro m size els'] := by
  intro ev env W O R hev hn _ hR
  simp only [Bool.and_eq_true, decide_eq_true_eq] at hb
  obtain ⟨hb1, hb2, hb3⟩ := hb
  obtain ⟨h, rfl⟩ : ∃ h' : Nat, h = h' := ⟨h.toNat, by omega⟩
  obtain ⟨l, rfl⟩ : ∃ l' : Nat, l = l' := ⟨l.toNat, by omega⟩
  simp only [Int.toNat_natCast] at he
  have hro : reads size els W R (env n) := hn _ (List.mem_singleton.2 rfl)
  obtain ⟨a, cap, h1, h2, h3, h4, h5⟩ := hro
  obtain ⟨ti, z, hti, _, hts, _, _⟩ := hT.info
  have hx' := hev x _ hx
  simp only [AV.den, h1, oneOf] at hx'
  have hhc : h ≤ cap := by omega
  have hrun : (execOp ev o).run P W = .ok (.value (.slice (if cap = l then a else a.map (·.add (l * size))) (h - l) (cap - l))) W := by
    have hsb : ∀ (w : World), (Instr.sliceBounds true els.length cap (lo.map ev) (hi.map ev) none).run P w = .ok (l, h, cap) w := by
      intro w
      have hh : (match hi.map ev, (none : Option Value) with
          | some v, some _ => Instr.sliceBound v cap .slice3B
          | some v, none => Instr.sliceBound v cap .sliceAcap
          | none, none => pure els.length
          | none, some _ => stuck "Slice: max without high").run P w = .ok h w := by
        cases hi with
        | none => simp only [Cut] at hhi; simp; omega
        | some y => obtain ⟨k, hk⟩ := hhi; simp [hev y _ hk, AV.den, Instr.sliceBound, asIntOf, hhc]
      have hl : (match lo.map ev with
          | some v => Instr.sliceBound v h .sliceB
          | none => pure 0).run P w = .ok l w := by
        cases lo with
        | none => simp only [Cut] at hlo; simp; omega
        | some y => obtain ⟨k, hk⟩ := hlo; simp [hev y _ hk, AV.den, Instr.sliceBound, asIntOf, show l ≤ h by omega]
      cases hi <;> cases lo <;> simp [Instr.sliceBounds] at hh hl ⊢ <;> simp [hh, hl]
    simp only [execOp, ho, Instr.sliceAt, Instr.slice, Sem.run_bind, run_underlying hT.under, Result.andThen_ok, hx', Option.map_none, hsb, sizeOf, typeInfo, run_program, hti, hts, Sem.run_pure]
  rw [hrun]
  refine ⟨setEnv env m (.slice (if cap = l then a else a.map (·.add (l * size))) (h - l) (cap - l)), fun _ _ => False, R, fun k hk => setEnv_other (hk (.ro m size els') (by simp)), by simp [AV.den, setEnv_same, oneOf], ?_⟩
  refine St.fresh (Keep.refl _ W) hR ?_ (fun b hb => hb.elim)
  simp only [NEnt.holds, setEnv_same]
  have hlen : els'.length = h - l := by subst he; simp; omega
  refine ⟨_, cap - l, by rw [hlen], by omega, by omega, fun hnone => ?_, fun i el hi' => ?_⟩
  · split at hnone
    · omega
    · cases a with
      | none => have := h4 rfl; omega
      | some a => simp at hnone
  · subst he
    have hget : els[l + i]? = some el := by
      rw [List.getElem?_drop, List.getElem?_take] at hi'
      split at hi'
      · exact hi'
      · cases hi'
    refine ⟨(h5 _ _ hget).1, fun j d hj => ?_⟩
    obtain ⟨b, o', ha, hb', u, hu, hok⟩ := (h5 _ _ hget).2 j d hj
    subst ha
    have hilt : i < h - l := by
      have := (List.getElem?_eq_some_iff.1 hi').1; simp at this; omega
    rw [if_neg (by omega)]
    refine ⟨b, o' + l * size, by simp [add_lit], hb', u, ?_, hok⟩
    rw [show o' + l * size + (i * size + j) = o' + ((l + i) * size + j) by rw [Nat.add_mul]; omega]
    exact hu
def Post (c : Ctx) (env : Env) (v : AV) (news : List NEnt) (e : Ending) (W' : World) : Prop := ∃ u, e = .returned u ∧ Got c env v news u W'
def FC (P : Program) (f : Nat) (args : List AV) (need : List NEnt) (v : AV) (news : List NEnt) : Prop :=
  ∀ (env : Env) (w0 : World) (R0 : Nat → Prop), (∀ x ∈ need, x.holds env w0 (fun _ => False) R0) → (∀ b, R0 b → b < w0.heap.size) →
    Calls P f (AV.denL env args).toArray w0 (Post ⟨w0, fun _ => False, R0⟩ env v news)
def NEnt.indep (x : NEnt) : Prop := ∀ env W O R, x.holds env W O R → x.holds env W O (fun _ => False)
theorem indep_row {n E size : Nat} {els : List (List D)} (h : ∀ el ∈ els, ∀ d ∈ el, ∃ x, d = D.v x) : (NEnt.row n E size els).indep := by
  intro env W O R ⟨h1, cells, h2, h3, h4⟩
  refine ⟨h1, cells, h2, h3, fun k d hk => ?_⟩
  obtain ⟨u, hu, hok, hone⟩ := h4 k d hk
  obtain ⟨el, hel, hd⟩ := List.mem_flatten.1 (List.mem_of_getElem? hk)
  obtain ⟨x, rfl⟩ := h el hel d hd
  exact ⟨u, hu, hok, hone⟩
theorem indep_map {α : Type} {n E size : Nat} {xs : List α} {enc : α → List D} (h : ∀ a, ∀ d ∈ enc a, ∃ x, d = D.v x) : (NEnt.row n E size (xs.map enc)).indep :=
  indep_row fun el hel => by
    obtain ⟨a, _, rfl⟩ := List.mem_map.1 hel
    exact h a
theorem args_map {ev : Operand → Value} {env : Env} (he : ∀ x a, ρ x = some a → ev x = a.den env) : ∀ (l : List Operand) (m : List AV), l.map ρ = m.map some → l.map ev = AV.denL env m := by
  intro l
  induction l with
  | nil => intro m h; cases m <;> first | rfl | cases h
  | cons x l ih =>
    intro m h
    cases m with
    | nil => cases h
    | cons b m =>
      simp only [List.map_cons, List.cons.injEq] at h
      simp only [List.map_cons, AV.denL, he x b h.1, ih m h.2]
theorem sp_call {fo : Operand} {as_ : List Operand} {avs fi ca : List AV} {ats : Array TypeId} {f : Nat} {need news : List NEnt} {v : AV} (ho : o.op = .call { callee := .value fo, args := as_.toArray, argTypes := ats }) (hf : ρ fo = some (.fn f fi ca)) (has : as_.map ρ = avs.map some)
    (hc : ∀ args w, (callFunc f args).run P w = .ok (.enter f args) w) (hfc : FC P f (fi ++ avs ++ ca) (need.map NEnt.toRo) v news) (hb : (∀ x ∈ need, x.toRo = x) ∨ (∀ x ∈ news, x.indep)) : OpSpec P o ρ need v news := by
  intro ev env W O R hev hn hO hR
  have hfo := hev fo _ hf
  simp only [AV.den] at hfo
  have hargs := args_map hev as_ avs has
  have hrun : (execOp ev o).run P W = .ok (.enter f (AV.denL env (fi ++ avs ++ ca)).toArray) W := by
    simp only [execOp, ho, resolve, hfo, Deferred.ofValue, Sem.run_bind, Sem.run_pure, Result.andThen_ok, invoke, hc, List.map_toArray, hargs, denL_append, List.append_toArray]
  rw [hrun]
  rcases hb with hb | hb
  · refine (hfc env W R (fun x hx => ?_) hR).mono fun e W' ⟨u, he, hg⟩ => ⟨u, he, hg⟩
    obtain ⟨y, hy, rfl⟩ := List.mem_map.1 hx
    exact NEnt.toRo_holds (x := y.toRo) (O := fun _ => False) (R := R) (fun b hb => hb.elim) (fun b hb => hb) (by
      have h1 := hn y hy
      rw [hb y hy]
      cases y with
      | row n E size els => have := hb _ hy; simp [NEnt.toRo] at this
      | blk n cells T => have := hb _ hy; simp [NEnt.toRo] at this
      | ro n size els => exact h1
      | rob n cells T => exact h1
      | any n d => exact h1
      | inv n I => have := hb _ hy; simp [NEnt.toRo] at this
      | pin g n u => exact h1) _ |> fun h => by
        have e : y.toRo.toRo = y.toRo := by cases y <;> rfl
        rw [e] at h; exact h
  · refine (hfc env W (fun b => R b ∨ ∃ x ∈ need, O x.name b) (fun x hx => ?_) (fun b hb => hb.elim (hR b) (fun ⟨x, hx, h⟩ => hO x hx b h))).mono fun e W' ⟨u, he, env', O', R', h1, h2, hst⟩ => ⟨u, he, env', O', fun b => R b ∨ (R' b ∧ W.heap.size ≤ b), h1, h2, ?_⟩
    · obtain ⟨y, hy, rfl⟩ := List.mem_map.1 hx
      exact NEnt.toRo_holds (O := O y.name) (R := R) (fun b hb => .inr ⟨y, hy, hb⟩) (fun b hb => .inl hb) (hn y hy) _
    · refine ⟨hst.keep, fun x hx => ?_, fun x hx b hb' => ?_, hst.apart, fun b hb' => ?_, fun b hb' => .inl hb', hst.names⟩
      · exact NEnt.holds_keep (fun _ _ => rfl) (fun b hb => hb.elim) (hb x hx _ _ _ _ (hst.holds x hx))
      · obtain ⟨g1, g2, g3⟩ := hst.own x hx b hb'
        refine ⟨g1, g2, fun hr => hr.elim (fun hr => ?_) (fun hr => g3 hr.1)⟩
        rcases g2 with g2 | g2
        · have : W.heap.size ≤ b := g2
          have := hR b hr; omega
        · exact g2
      · rcases hb' with hb' | ⟨hb', hge⟩
        · exact ⟨Nat.lt_of_lt_of_le (hR b hb') hst.keep.size, .inr (.inl hb')⟩
        · exact ⟨(hst.ro b hb').1, .inl hge⟩
end
inductive ResL (P : Program) (s : List (Nat × AV)) (V : List NEnt) : List ResultVar → List AV → Prop where
  | nil : ResL P s V [] []
  | tmp {t a l m} : look s t = some a → ResL P s V l m → ResL P s V (.tmp t :: l) (a :: m)
  | cell {t T n off sz cells y a l m} : look s t = some (.ptr n off) → y ∈ V → IsBlk y n cells → VarT P T sz false → cells[off]? = some a → ResL P s V l m → ResL P s V (.cell t T :: l) (a :: m)
  | cells {t T n off sz cells as_ y l m} : look s t = some (.ptr n off) → y ∈ V → IsBlk y n cells → VarT P T sz true → (cells.drop off).take sz = as_ → as_.length = sz → ResL P s V l m → ResL P s V (.cell t T :: l) (.agg as_ :: m)
def resAV : List AV → AV
  | [a] => a
  | l => .tup l
def resOne (tm : Array Value) : ResultVar → Sem Value
  | .tmp t => Pure.pure (tm.getD t undef)
  | .cell a t => do loadVar t (← asAddr (tm.getD a undef))
theorem results_eq (fn : Func) (tm : Array Value) : results fn tm = (do let vs ← fn.results.mapM (resOne tm); Pure.pure (if h : vs.size = 1 then vs[0] else .tuple vs)) := by
  unfold results
  congr 2
theorem results_run {P : Program} {c : Ctx} {s : List (Nat × AV)} {V : List NEnt} {l : List ResultVar} {m : List AV} (h : ResL P s V l m) {env : Env} {sz : Nat} {tm : Array Value} {W : World} {O : Nat → Nat → Prop} {R : Nat → Prop} (hf : Fr env sz s tm) (hst : St c env V W O R) :
    (l.mapM (resOne tm)).run P W = .ok (AV.denL env m) W := by
  induction h with
  | nil => rfl
  | tmp h1 _ ih =>
    have := hf.2 _ _ h1
    simp only [List.mapM_cons, Sem.run_bind, Result.andThen_ok, resOne, Sem.run_pure, ih]
    simp [this, AV.denL]
  | cell h1 hy hb hT hc _ ih =>
    have := hf.2 _ _ h1
    obtain ⟨b, T', e1, e2, e3⟩ := blk_cell hb (hst.holds _ hy)
    have h2 : ∀ x : ResultVar, ∀ t T, x = .cell t T → True := fun _ _ _ _ => trivial
    simp only [List.mapM_cons, Sem.run_bind]
    simp only [resOne]
    simp [this, AV.denL, AV.den, e1, blockOff, asAddr, loadVar, hT.isAgg, e3 _ _ hc, ih]
  | @cells t T n off sz' cells as_ y l m h1 hy hb hT hc hl _ ih =>
    have := hf.2 _ _ h1
    obtain ⟨b, T', e1, e2, e3⟩ := blk_cell hb (hst.holds _ hy)
    have hld := run_loadCells_list (P := P) W ⟨b, off, none⟩ (AV.denL env as_) (fun j v hj => by
      rw [add_lit]
      have hj' : j < sz' := by
        have := (List.getElem?_eq_some_iff.1 hj).1
        rw [denL_length] at this; omega
      subst hc
      rw [denL_take, denL_drop, List.getElem?_take_of_lt hj', List.getElem?_drop] at hj
      rw [AV.denL_map, List.getElem?_map] at hj
      cases hcell : cells[off + j]? with
      | none => rw [hcell] at hj; cases hj
      | some a => rw [hcell] at hj; cases hj; exact e3 _ _ hcell)
    rw [denL_length, hl] at hld
    simp only [List.mapM_cons, Sem.run_bind]
    simp only [resOne]
    simp [this, AV.denL, AV.den, e1, blockOff, asAddr, loadVar, hT.isAgg, hT.sizeOf, hld, ih]
mutual
def AV.ns : AV → List Nat
  | .val _ => []
  | .ref m => [m]
  | .ptr m _ => [m]
  | .cell m _ => [m]
  | .agg cs => AV.nsL cs
  | .tup cs => AV.nsL cs
  | .fn _ a b => AV.nsL a ++ AV.nsL b
def AV.nsL : List AV → List Nat
  | [] => []
  | a :: l => a.ns ++ AV.nsL l
end
mutual
theorem AV.has_ns {n : Nat} : ∀ (a : AV), a.has n = true → n ∈ a.ns
  | .val _, h => by cases h
  | .ref m, h => by simp [AV.has] at h; simp [AV.ns, h]
  | .ptr m _, h => by simp [AV.has] at h; simp [AV.ns, h]
  | .cell m _, h => by simp [AV.has] at h; simp [AV.ns, h]
  | .agg cs, h => AV.hasL_ns cs h
  | .tup cs, h => AV.hasL_ns cs h
  | .fn _ a b, h => by
    simp only [AV.has, Bool.or_eq_true] at h
    exact List.mem_append.2 (h.imp (AV.hasL_ns a) (AV.hasL_ns b))
theorem AV.hasL_ns {n : Nat} : ∀ (l : List AV), AV.hasL n l = true → n ∈ AV.nsL l
  | [], h => by cases h
  | a :: l, h => by
    simp only [AV.hasL, Bool.or_eq_true] at h
    exact List.mem_append.2 (h.imp (AV.has_ns a) (AV.hasL_ns l))
end
def NEnt.ns : NEnt → List Nat
  | .blk n cells _ => n :: AV.nsL cells
  | .row n _ _ _ => [n]
  | .ro n _ _ => [n]
  | .rob n cells _ => n :: AV.nsL cells
  | .any n _ => [n]
  | .inv n _ => [n]
  | .pin g n _ => [g, n]
theorem NEnt.has_ns {n : Nat} {x : NEnt} (h : x.has n = true) : n ∈ x.ns := by
  cases x <;> simp only [NEnt.has, Bool.or_eq_true, beq_iff_eq] at h <;> simp only [NEnt.ns, List.mem_cons, List.not_mem_nil, or_false]
  · exact h.imp Eq.symm (AV.hasL_ns _)
  · exact h.symm
  · exact h.symm
  · exact h.imp Eq.symm (AV.hasL_ns _)
  · exact h.symm
  · exact h.symm
  · exact h.imp Eq.symm Eq.symm
def closedN (v : AV) (news : List NEnt) : Bool := (v.ns ++ news.flatMap NEnt.ns).all fun n => (news.map NEnt.name).contains n
section
variable {P : Program} {c : Ctx} {sz : Nat} {fn : Func} {t : List Item} {s : List (Nat × AV)} {V : List NEnt}
theorem Got.mk {env0 env : Env} {W : World} {O : Nat → Nat → Prop} {R : Nat → Prop} (hst : St c env V W O R) (p : Nat → Nat) {v rv : AV} {news : List NEnt} (hv : v.ren p = rv) (hV : SubV p V news) (hn : (news.map fun x => p x.name).Nodup) (hcl : closedN v news = true) :
    Got c env0 v news (rv.den env) W := by
  classical
  have hcl' : ∀ n, (n ∈ v.ns ∨ ∃ x ∈ news, n ∈ x.ns) → ∃ x ∈ news, x.name = n := by
    intro n hn
    have := List.all_eq_true.1 hcl n (by
      rw [List.mem_append, List.mem_flatMap]; exact hn)
    simpa [List.mem_map] using this
  refine ⟨fun n => if ∃ x ∈ news, x.name = n then env (p n) else env0 n, fun n => O (p n), R, fun n hn => ?_, ?_, ?_⟩
  · exact if_neg (by rintro ⟨x, hx, e⟩; exact hn x hx e)
  · subst hv
    rw [AV.den_ren]
    exact AV.den_congr v fun n hn => by rw [if_pos (hcl' n (.inl (AV.has_ns v hn)))]
  · have h2 := hst.sub p hV.mem hn
    exact ⟨h2.keep, fun x hx => NEnt.holds_congr (fun n hn => by rw [if_pos (hcl' n (.inr ⟨x, hx, NEnt.has_ns hn⟩))]) (h2.holds x hx), h2.own, h2.apart, h2.ro, h2.r0, h2.names⟩
theorem TC.ret {env0 : Env} (p : Nat → Nat) {v : AV} {news : List NEnt} {m : List AV} (hr : ResL P s V fn.results.toList m) (hv : v.ren p = resAV m) (hV : SubV p V news) (hn : (news.map fun x => p x.name).Nodup) (hcl : closedN v news = true) :
    TC P c (Fm.of sz) (bodyPost P fn (Post c env0 v news)) (.code .ret :: t) s V := by
  intro env tm W O R hf hst
  refine Gw.ret ⟨rfl, (resAV m).den env, ?_, _, rfl, Got.mk hst p hv hV hn hcl⟩
  have h := results_run hr hf hst
  simp only [results_eq, Array.mapM_eq_mapM_toList, Sem.run_bind, Sem.run_map, h, Result.andThen_ok]
  cases m with
  | nil => rfl
  | cons a m => cases m with
    | nil => rfl
    | cons b m => rfl
theorem FC.intro {f : Nat} {body : Code} {args : List AV} {need news : List NEnt} {v : AV} (hf : P.funcs[f]? = some fn) (hb : fn.body = some body) (hsz : args.length + (fn.ntmps - args.length) = sz) (hnd : (need.map NEnt.name).Nodup)
    (h : ∀ (w0 : World) (R0 : Nat → Prop) (env0 : Env), TC P ⟨w0, fun _ => False, R0⟩ (Fm.of sz) (bodyPost P fn (Post ⟨w0, fun _ => False, R0⟩ env0 v news)) [.code body] (args.zipIdx.map fun p => (p.2, p.1)) need) : FC P f args need v news := by
  intro env w0 R0 hn hR
  refine calls_of_wp hf hb ?_
  refine Gw.wp (h w0 R0 env env _ w0 (fun _ _ => False) R0 ⟨by simp [denL_length, ← hsz, Fm.of], fun t a ha => ?_⟩ ⟨Keep.refl _ _, hn, fun _ _ _ h => h.elim, fun _ _ _ _ _ _ h => h.1, fun b hb => ⟨hR b hb, .inr (.inl hb)⟩, fun _ h => h, hnd⟩)
  have key : ∀ (l : List AV) (k : Nat), look ((l.zipIdx k).map fun p => (p.2, p.1)) t = some a → k ≤ t ∧ l[t - k]? = some a := by
    intro l
    induction l with
    | nil => intro k h; cases h
    | cons b l ih =>
      intro k h
      simp only [List.zipIdx_cons, List.map_cons, look] at h
      split at h
      · rename_i e; subst e; cases h; simp
      · obtain ⟨h1, h2⟩ := ih (k + 1) h
        refine ⟨by omega, ?_⟩
        rw [show t - k = (t - (k + 1)) + 1 by omega]
        simpa using h2
  obtain ⟨_, hk⟩ := key args 0 ha
  have := denL_get (e := env) hk
  simp only [Nat.sub_zero] at this
  rw [Array.getElem?_append_left (by simpa using (List.getElem?_eq_some_iff.1 this).1)]
  simpa using this
end
end Go.Proofs.YtohjpfkcahlfkaaGreat.Sy
