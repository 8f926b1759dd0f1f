/- The small logic of symbolic states: loops over functions. -/
import Derived.Test.YtohjpfkcahlfkaaGreatPbSymM
set_option linter.unusedSimpArgs false
set_option linter.unusedVariables false
namespace Go.Proofs.YtohjpfkcahlfkaaGreat.Sy
open Go.RowKit
structure Yields (P : Program) {X σ : Type} (ea : X → List AV) (en : X → List NEnt) (step : X → σ → Option (Bool × σ)) (I : σ → Inv) : Prop where
  isFn : ∀ s W O R v, (I s).ok W O R v → oneOf v = v ∧ ∃ g a b, v = .func g a b ∧ ∀ m, g ≠ .method m
  call : ∀ x s c s', step x s = some (c, s') → ∀ (o : Oper) (ev : Operand → Value) (fo : Operand) (as_ : List Operand) (ats : Array TypeId), o.op = .call { callee := .value fo, args := as_.toArray, argTypes := ats } →
    ∀ (env : Env) (W : World) (O R : Nat → Prop), as_.map ev = AV.denL env (ea x) → (∀ y ∈ en x, y.holds env W (fun _ => False) R) → (I s).ok W O R (ev fo) → (∀ b, O b → b < W.heap.size ∧ ¬ R b) → (∀ b, R b → b < W.heap.size) →
    Does P ((execOp ev o).run P W) fun u W' => u = .bool c ∧ ∃ O' R' : Nat → Prop, Keep O W W' ∧ (I s').ok W' O' R' (ev fo) ∧ (∀ b, O' b → b < W'.heap.size ∧ (W.heap.size ≤ b ∨ O b) ∧ ¬ R' b) ∧ (∀ b, R' b → b < W'.heap.size ∧ (W.heap.size ≤ b ∨ R b ∨ O b)) ∧ (∀ b, R b → R' b)
theorem ts_yield {P : Program} {s : List (Nat × AV)} {o : Oper} {X σ : Type} {ea : X → List AV} {en : X → List NEnt} {step : X → σ → Option (Bool × σ)} {I : σ → Inv} (hI : Yields P ea en step I) {x : X} {y y' : σ} {b : Bool} (p : List (Nat × Nat)) {fo : Operand} {as_ : List Operand} {avs : List AV} {ats : Array TypeId} {k : Nat} {need : List NEnt}
    (h : step x y = some (b, y')) (ho : o.op = .call { callee := .value fo, args := as_.toArray, argTypes := ats }) (hf : rho s fo = some (.ref k)) (has : as_.map (rho s) = avs.map some) (ha : avs = AV.renL (rnA p) (ea x)) (hn : need = (en x).map (NEnt.ren (rnA p))) (hro : need.all NEnt.isRoB = true) :
    TSpec P o (rho s) [.inv k (I y)] need (.val (.bool b)) [.inv k (I y')] := by
  subst ha; subst hn
  intro ev c env V W O R hev hst ht hk _
  have hk1 := ht _ (List.mem_singleton.2 rfl)
  have hok := hst.holds _ hk1
  simp only [NEnt.holds, NEnt.name] at hok
  have hone := (hI.isFn _ _ _ _ _ hok).1
  have hfo : ev fo = env k := by rw [hev fo _ hf]; exact hone
  have hargs := args_map hev as_ _ has
  rw [AV.denL_ren] at hargs
  rw [← hfo] at hok
  refine (hI.call x y b y' h o ev fo as_ ats ho (fun n => env (rnA p n)) W (O k) R hargs (fun z hz => ?_) hok (fun q hq => ⟨(hst.own _ hk1 q hq).1, (hst.own _ hk1 q hq).2.2⟩) (fun q hq => (hst.ro q hq).1)).mono ?_
  · have hz' : z.ren (rnA p) ∈ (en x).map (NEnt.ren (rnA p)) := List.mem_map.2 ⟨z, hz, rfl⟩
    have := ro_holds (List.all_eq_true.1 hro _ hz') (hst.holds _ (hk _ hz')) (fun _ => False)
    rw [NEnt.holds_ren] at this; exact this
  rintro u W' ⟨rfl, O', R', h1, h2, h3, h4, h5⟩
  have hg : St ⟨W, O k, R⟩ env [.inv k (I y')] W' (fun _ => O') R' := by
    refine ⟨h1, fun z hz => ?_, fun z hz q hq => ?_, fun z hz z2 hz2 hne => ?_, h4, h5, by simp⟩
    · rw [List.mem_singleton] at hz; subst hz
      simp only [NEnt.holds]; rw [← hfo]; exact h2
    · exact h3 q hq
    · rw [List.mem_singleton] at hz hz2; subst hz; subst hz2; exact absurd rfl hne
  obtain ⟨O2, h6⟩ := hst.over (take := [.inv k (I y)]) (fun z hz => by rw [List.mem_singleton] at hz; subst hz; exact hk1) (fun q hq => ⟨_, List.mem_singleton.2 rfl, hq⟩) hg (fun _ _ => rfl) (fun z hz => by rw [List.mem_singleton] at hz; subst hz; exact .inl (by simp [NEnt.name]))
  exact ⟨env, O2, R', fun _ _ => rfl, rfl, h6⟩
def loopStep {X σ : Type} (f : X → σ → Option (Nat × σ)) (x : X) (y : σ × Nat) : Option (Bool × (σ × Nat)) :=
  if y.2 = 0 then (f x y.1).bind fun r => some (r.1 == 0, (r.2, r.1)) else none
def jmp (jl : List Code) (j : Nat) : Option Code := if j = 0 then none else some (jl.getD (j - 1) .ret)
theorem jmp_isNone (jl : List Code) (j : Nat) : (jmp jl j).isNone = (j == 0) := by
  unfold jmp; by_cases h : j = 0 <;> simp [h]
def recI (l : Nat) (r : Loop) : Inv := ⟨fun W O _ _ => O l ∧ W.heap[l]? = some (.loop r), fun W W' O R R' hO _ v h => ⟨h.1, (hO l h.1).trans h.2⟩⟩
def busyR (r : Loop) : Loop := { r with state := .busy }
def mkRec (fn : FuncId) (tm : Array Value) (ps : Array Tmp) (assign body : Code) (D : Nat) (st : LoopState) (pe : Option Code) : Loop := { state := st, pending := pe, fn, tmps := tm, params := ps, assign, body, defers := D }
def loopI {σ : Type} (sz : Nat) (S : List (Nat × AV)) (tm : Array Value) (V : σ → List NEnt) (jl : List Code) (mk : LoopState → Option Code → Loop) (l : Nat) (y : σ × Nat) : Inv where
  ok W O R v := v = .func (.yield l) #[] #[] ∧ O l ∧ W.heap[l]? = some (.loop (mk (if y.2 = 0 then .ready else .done) (jmp jl y.2))) ∧ ∃ (env : Env) (O' : Nat → Nat → Prop), Fr env sz S tm ∧ (∀ x ∈ V y.1, x.holds env W (O' x.name) R) ∧
    (∀ x ∈ V y.1, ∀ b, O' x.name b → O b ∧ b ≠ l) ∧ (∀ x ∈ V y.1, ∀ z ∈ V y.1, x.name ≠ z.name → ∀ b, ¬ (O' x.name b ∧ O' z.name b))
  keep W W' O R R' hO hR v h := by
    obtain ⟨h1, h2, h3, env, O', h4, h5, h6, h7⟩ := h
    exact ⟨h1, h2, (hO l h2).trans h3, env, O', h4, fun x hx => NEnt.holds_keep (fun b hb => hO b (h6 x hx b hb).1) hR (h5 x hx), h6, h7⟩
def exitCode : Exit → Option (Option Code)
  | .normal => some none
  | .ret => some (some .ret)
  | .exit id => some (some (.exit id))
  | _ => none
def RoundQ (c : Ctx) (V' : List NEnt) (jl : List Code) (j : Nat) (e : Exit) (_ : Act) (w : World) : Prop :=
  exitCode e = some (jmp jl j) ∧ ∃ env O' R', St c env V' w O' R'
section
variable {P : Program} {c : Ctx} {n : Nat} {ro : Option Nat} {df : List Deferred} {t : List Item} {s : List (Nat × AV)} {V V' : List NEnt} {jl : List Code}
theorem St.subV {env : Env} {W : World} {O : Nat → Nat → Prop} {R : Nat → Prop} (hst : St c env V W O R) (p : List (Nat × Nat)) (hV : SubV (rnA p) V V') (hn : nodupB (V'.map fun x => rnA p x.name) = true) : ∃ env O' R', St c env V' W O' R' :=
  ⟨_, _, _, hst.sub (rnA p) hV.mem (nodup_of_B hn)⟩
theorem bodyEnd (p : List (Nat × Nat)) (hV : SubV (rnA p) V V') (hn : nodupB (V'.map fun x => rnA p x.name) = true) : TC P c ⟨n, ro, df⟩ (RoundQ c V' jl 0) [] s V :=
  fun env tm W O R hf hst => Gw.nil ⟨rfl, hst.subV p hV hn⟩
end
section
variable {P : Program} {c : Ctx} {n : Nat} {ro : Option Nat} {df : List Deferred} {t : List Item} {s : List (Nat × AV)} {V V' : List NEnt} {Q : Exit → Act → World → Prop}
theorem Gw.mono {Q' : Exit → Act → World → Prop} {a : Act} {w : World} (h : Gw P ro t Q a w) (hq : ∀ e a w, Q e a w → Q' e a w) : Gw P ro t Q' a w := fun b k cs hb => by
  obtain ⟨e, a', w', h1, h2⟩ := h b k cs hb
  exact ⟨e, a', w', hq _ _ _ h1, h2⟩
theorem Gw.beginRound {l : Nat} {a : Act} {w w' : World} (h : (Instr.beginRound l).run P w = .ok () w') (k : Gw P (some l) t Q a w') : Gw P (some l) (.beginRound :: t) Q a w := by
  intro b k0 cs hb
  obtain ⟨e, a', w1, hq, ha⟩ := k b k0 cs hb
  exact ⟨e, a', w1, hq, .of_steps (.one (fw_calm rfl) (stepR_beginRound hb h)) ha⟩
theorem TC.beginRound {l g : Nat} {rec : Loop} (k : Nat) (hk : V[k]? = some (.inv g (recI l rec))) (hr : rec.state = .ready) (h : TC P c ⟨n, some l, df⟩ Q t s (V.set k (.inv g (recI l (busyR rec))))) : TC P c ⟨n, some l, df⟩ Q (.beginRound :: t) s V := by
  intro env tm W O R hf hst
  obtain ⟨h1, h2⟩ : O g l ∧ W.heap[l]? = some (.loop rec) := hst.holds _ (List.mem_of_getElem? hk)
  refine Gw.beginRound (run_beginRound h2 hr) (h env tm _ O R hf ?_)
  refine hst.write k hk ⟨rfl, rfl, rfl, by simp, fun b _ hb => World.putObj_heap_other fun e => hb (e ▸ h1)⟩ rfl ⟨h1, ?_⟩
  exact World.putObj_heap_same (Array.getElem?_eq_some_iff.1 h2).1
theorem roundIn_of_gw {l : Nat} {f : FuncId} {tmps : Array Value} {assign body : Code} {w : World} {R : Ending → World → Prop} (h : Gw P (some l) [.code assign, .beginRound, .code body] (roundPost P l R) ⟨tmps, []⟩ w) : RoundIn Fence.wide 0 P l f tmps assign body w R := by
  refine ⟨trivial, fun c cs hr => ?_⟩
  let b : Frame := { (default : Frame) with fn := f, kind := .normal, roundOf := some l }
  have hb0 : Frame.round l f tmps assign body .normal = b.atR { tmps := tmps, defers := [] } [.code assign, .beginRound, .code body] := by
    simp [Frame.round, Frame.atR, b]
  have hr' : (Fence.wide.inRound l).room ((c :: cs).length + 1 + 0) := hr
  have hF' : (Fence.wide.inRound l).fn b.fn := trivial
  rw [hb0]
  obtain ⟨e₂, a₂, w₃, hq₂, harr₂⟩ := h b [] (c :: cs) rfl
  simp only [List.append_nil] at harr₂
  cases e₂ with
  | normal =>
    obtain ⟨v, w₄, hend, hR⟩ := hq₂
    exact ⟨.returned v, w₄, hR, StepsIn.trans harr₂ (.one (fenced_calm (fr := b.atR a₂ []) hF' hr' rfl) (stepR_round_end rfl rfl hend))⟩
  | ret =>
    obtain ⟨v, w₄, hend, hR⟩ := hq₂
    obtain ⟨k₁, hs⟩ := harr₂.2 rfl
    exact ⟨.returned v, w₄, hR, StepsIn.trans hs (.one (fenced_calm (fr := b.atR a₂ (.code .ret :: k₁)) hF' hr' rfl) (stepR_round_ret rfl rfl hend))⟩
  | exit id =>
    obtain ⟨v, w₄, hend, hR⟩ := hq₂
    obtain ⟨k₁, hk, hs⟩ := harr₂.2 rfl rfl
    exact ⟨.returned v, w₄, hR, StepsIn.trans hs (.one (fenced_calm (fr := b.atR a₂ (.code (.exit id) :: k₁)) hF' hr' rfl) (stepR_round_exit rfl rfl hk hend))⟩
  | goto t =>
    obtain ⟨v, w₄, hend, hR⟩ := hq₂
    obtain ⟨k₁, hk, hs⟩ := harr₂.2 rfl rfl
    exact ⟨.returned v, w₄, hR, StepsIn.trans hs (.one (fenced_calm (fr := b.atR a₂ (.code (.goto t) :: k₁)) hF' hr' rfl) (stepR_round_goto rfl rfl hk hend))⟩
  | panic chain => exact hq₂.elim
  | outgrown => exact hq₂.elim
end
def pSlots : List Nat → List AV → List (Nat × AV) → List (Nat × AV)
  | p :: ps, a :: as_, s => pSlots ps as_ ((p, a) :: s)
  | _, _, s => s
theorem pSlots_fr {env : Env} {n : Nat} : ∀ (ps : List Nat) (as_ : List AV) (s : List (Nat × AV)) (tm : Array Value), Fr env n s tm → (ps.all fun p => Nat.blt p n) = true → ps.length = as_.length →
    Fr env n (pSlots ps as_ s) ((ps.zip (AV.denL env as_)).foldl (fun t (q : Nat × Value) => t.setIfInBounds q.1 q.2) tm) := by
  intro ps
  induction ps with
  | nil => intro as_ s tm h _ hl; cases as_ <;> first | exact h | cases hl
  | cons p ps ih =>
    intro as_ s tm h hp hl
    cases as_ with
    | nil => cases hl
    | cons a as_ =>
      simp only [List.all_cons, Bool.and_eq_true] at hp
      simp only [pSlots, AV.denL, List.zip_cons_cons, List.foldl_cons]
      exact ih as_ _ _ (h.put (by simpa [Nat.blt_eq] using hp.1)) hp.2 (by simpa using hl)
def PinsIn {σ : Type} (V : σ → List NEnt) (S : List (Nat × AV)) : Prop := ∀ n, hasS n S = true → ∃ g u, ∀ y, NEnt.pin g n u ∈ V y
section
variable {P : Program} {X σ : Type} {n : Nat} {S : List (Nat × AV)} {tm : Array Value} {V : σ → List NEnt} {jl : List Code} {fn : FuncId} {ps : List Nat} {assign body : Code} {D l : Nat} {ea : X → List AV} {en : X → List NEnt} {f : X → σ → Option (Nat × σ)}
theorem loop_yields (grec : Nat) (hpin : PinsIn V S) (hps : (ps.all fun p => Nat.blt p n) = true) (hlen : ∀ x, ps.length = (ea x).length) (hnd : ∀ x y, nodupB (grec :: (en x).map NEnt.name ++ (V y).map NEnt.name) = true)
    (hfr : ∀ x y, ((grec :: (en x).map NEnt.name).all fun k => !hasS k S && !hasV k (V y)) = true) (hcl : ∀ x, closedN (.tup (ea x)) (en x) = true) (hroE : ∀ x, (en x).all NEnt.isRoB = true) (hgE : ∀ x, (!hasV grec (en x)) = true)
    (hbody : ∀ x y r, f x y = some r → ∀ (rec : Loop) (hrd : rec.state = .ready) (w0 : World) (M R0 : Nat → Prop), TC P ⟨w0, M, R0⟩ ⟨n, some l, []⟩ (RoundQ ⟨w0, M, R0⟩ (.inv grec (recI l (busyR rec)) :: V r.2) jl r.1) [.code assign, .beginRound, .code body] (pSlots ps (ea x) S) (.inv grec (recI l rec) :: en x ++ V y)) :
    Yields P ea en (loopStep f) (loopI n S tm V jl (mkRec fn tm ps.toArray assign body D) l) := by
  refine ⟨fun s W O R v h => ?_, ?_⟩
  · obtain ⟨rfl, _⟩ := h
    exact ⟨rfl, _, _, _, rfl, fun _ h => nomatch h⟩
  intro x y b y' hstep o ev fo as_ ats ho env W O R hargs hens hok hO hR
  obtain ⟨hv, hOl, hrec, envi, Oi, hFr, hhold, hown, hapart⟩ := hok
  unfold loopStep at hstep
  split at hstep
  case isFalse => cases hstep
  rename_i hy0
  simp only [hy0, if_true] at hrec
  obtain ⟨r, hr, hst⟩ := Option.bind_eq_some_iff.1 hstep
  obtain ⟨j, s'⟩ := r
  simp only [Option.some.injEq, Prod.mk.injEq] at hst
  obtain ⟨rfl, rfl⟩ := hst
  have hj0 : jmp jl 0 = none := rfl
  rw [hj0] at hrec
  have hall : (AV.denL env (ea x)).length = ps.length := by rw [denL_length, hlen x]
  have hyr := run_yield (P := P) (args := (as_.map ev).toArray) hrec (by rw [hargs]; simp [mkRec, hall])
  have hrun : (execOp ev o).run P W = .ok (.round l fn ((ps.toArray.zip (AV.denL env (ea x)).toArray).foldl (fun t (q : Tmp × Value) => t.setIfInBounds q.1 q.2) tm) assign body) W := by
    simp only [execOp, ho, resolve, hv, Deferred.ofValue, Sem.run_bind, Sem.run_pure, Result.andThen_ok, invoke, List.map_toArray, Array.append_empty, Array.empty_append]
    have : (Array.append #[] (as_.map ev).toArray ++ #[]) = (as_.map ev).toArray := by simp
    first
      | (rw [hyr]; simp [mkRec, hargs])
      | (simp only [Array.append_empty, Array.empty_append] at *; rw [hyr]; simp [mkRec, hargs])
      | (simp [hyr]; simp [mkRec, hargs])
  rw [hrun]
  show RoundIn Fence.wide 0 P l fn _ assign body W _
  obtain ⟨rec, hrecE⟩ : ∃ rec : Loop, rec = mkRec fn tm ps.toArray assign body D .ready none := ⟨_, rfl⟩
  obtain ⟨busy, hbusy⟩ : ∃ busy : Loop, busy = busyR rec := ⟨_, rfl⟩
  rw [← hrecE] at hrec
  have hrd : rec.state = .ready := by rw [hrecE]; rfl
  have hlt : l < W.heap.size := (Array.getElem?_eq_some_iff.1 hrec).1
  have hRl : ¬ R l := (hO l hOl).2
  have hrb : ∀ b, R b → R b ∧ W.heap[b]? = W.heap[b]? := fun b hb => ⟨hb, rfl⟩
  classical
  -- the names of what the round is handed, and those of the loop
  have hfr1 : ∀ k ∈ grec :: (en x).map NEnt.name, hasS k S = false ∧ hasV k (V y.1) = false := by
    intro k hk
    have := List.all_eq_true.1 (hfr x y.1) k hk
    simpa using this
  have hgE1 : hasV grec (en x) = false := by have := hgE x; simpa using this
  obtain ⟨e2, he2⟩ : ∃ e2 : Env, e2 = fun k => if k ∈ (en x).map NEnt.name then env k else envi k := ⟨_, rfl⟩
  have heV : ∀ k, (k ∈ (en x).map NEnt.name → False) → e2 k = envi k := fun k hk => by rw [he2]; exact if_neg hk
  have hnotin : ∀ z ∈ V y.1, ∀ k, z.has k = true → k ∈ grec :: (en x).map NEnt.name → False := fun z hz k hzk hk => by
    have := (hfr1 k hk).2; rw [mem_has hz hzk] at this; cases this
  have hclo := hcl x
  have hin : ∀ k, (k ∈ AV.nsL (ea x) ∨ ∃ z ∈ en x, k ∈ z.ns) → e2 k = env k := fun k hk => by
    have := List.all_eq_true.1 hclo k (by rw [List.mem_append, List.mem_flatMap]; simpa [AV.ns] using hk)
    rw [he2]; exact if_pos (by simpa using this)
  have hnd1 := nodup_of_B (hnd x y.1)
  have hne1 : ∀ z ∈ V y.1, z.name ≠ grec := fun z hz e => hnotin z hz z.name (NEnt.has_name z) (by rw [e]; simp)
  have hne2 : ∀ z ∈ en x, z.name ≠ grec := fun z hz e => by
    have := mem_has hz (NEnt.has_name z); rw [e, hgE1] at this; cases this
  have hstB : St ⟨W, O, R⟩ e2 (.inv grec (recI l rec) :: en x ++ V y.1) W (fun k b => if k = grec then b = l else k ∈ (V y.1).map NEnt.name ∧ Oi k b) R := by
    have hmem : ∀ z ∈ V y.1, z.name ∈ (V y.1).map NEnt.name := fun z hz => List.mem_map.2 ⟨z, hz, rfl⟩
    have hen : ∀ z ∈ en x, z.name ∉ (V y.1).map NEnt.name := fun z hz hm => by
      obtain ⟨w, hw, e⟩ := List.mem_map.1 hm
      exact hnotin w hw w.name (NEnt.has_name w) (by rw [e]; exact List.mem_cons_of_mem _ (List.mem_map.2 ⟨z, hz, rfl⟩))
    have hown' : ∀ z ∈ V y.1, ∀ b, Oi z.name b → b < W.heap.size ∧ O b ∧ b ≠ l ∧ ¬ R b := fun z hz b hb => ⟨(hO b (hown z hz b hb).1).1, (hown z hz b hb).1, (hown z hz b hb).2, (hO b (hown z hz b hb).1).2⟩
    have hcase : ∀ z ∈ (.inv grec (recI l rec) :: en x ++ V y.1), z = .inv grec (recI l rec) ∨ z ∈ en x ∨ z ∈ V y.1 := fun z hz => by simpa [or_assoc] using hz
    refine ⟨Keep.refl _ _, fun z hz => ?_, fun z hz b hb => ?_, fun z hz w hw hne b hb => ?_, fun b hb => ⟨hR b hb, .inr (.inl hb)⟩, fun _ h => h, ?_⟩
    · rcases hcase z hz with rfl | hz | hz
      · exact ⟨by simp [NEnt.name], hrec⟩
      · refine ro_holds (O := fun _ => False) (List.all_eq_true.1 (hroE x) z hz) ?_ _
        refine NEnt.holds_congr (e := env) (fun k hk => (hin k (.inr ⟨z, hz, NEnt.has_ns hk⟩)).symm) ?_
        exact NEnt.holds_keep (fun _ h => h.elim) hrb (hens z hz)
      · have e : (fun b => if z.name = grec then b = l else z.name ∈ (V y.1).map NEnt.name ∧ Oi z.name b) = Oi z.name := by
          funext b; simp only [hne1 z hz, if_false, hmem z hz, true_and]
        rw [e]
        refine NEnt.holds_congr (e := envi) (fun k hk => (heV k fun h => hnotin z hz k hk (List.mem_cons_of_mem _ h)).symm) ?_
        exact NEnt.holds_keep (fun b hb => rfl) hrb (hhold z hz)
    · rcases hcase z hz with rfl | hz | hz
      · simp only [NEnt.name, if_true] at hb; subst hb
        exact ⟨hlt, .inr hOl, hRl⟩
      · simp only [hne2 z hz, if_false] at hb; exact absurd hb.1 (hen z hz)
      · simp only [hne1 z hz, if_false] at hb
        obtain ⟨h1, h2, h3, h4⟩ := hown' z hz b hb.2
        exact ⟨h1, .inr h2, h4⟩
    · rcases hcase z hz with rfl | hz | hz <;> rcases hcase w hw with rfl | hw | hw
      · exact hne rfl
      · simp only [hne2 w hw, if_false] at hb; exact absurd hb.2.1 (hen w hw)
      · have hb2 := hb.2
        simp only [hne1 w hw, if_false] at hb2
        exact (hown' w hw b hb2.2).2.2.1 (by simpa [NEnt.name] using hb.1)
      · simp only [hne2 z hz, if_false] at hb; exact absurd hb.1.1 (hen z hz)
      · simp only [hne2 z hz, if_false] at hb; exact absurd hb.1.1 (hen z hz)
      · simp only [hne2 z hz, if_false] at hb; exact absurd hb.1.1 (hen z hz)
      · have hb1 := hb.1
        simp only [hne1 z hz, if_false] at hb1
        exact (hown' z hz b hb1.2).2.2.1 (by simpa [NEnt.name] using hb.2)
      · simp only [hne2 w hw, if_false] at hb; exact absurd hb.2.1 (hen w hw)
      · simp only [hne1 z hz, hne1 w hw, if_false] at hb
        exact hapart z hz w hw hne b ⟨hb.1.2, hb.2.2⟩
    · simpa [NEnt.name] using hnd1
  have hFr2 : Fr e2 n (pSlots ps (ea x) S) ((ps.toArray.zip (AV.denL env (ea x)).toArray).foldl (fun t (q : Tmp × Value) => t.setIfInBounds q.1 q.2) tm) := by
    have h1 : Fr e2 n S tm := hFr.congr fun k hk => (heV k fun h => by
      have := (hfr1 k (List.mem_cons_of_mem _ h)).1; rw [hk] at this; cases this).symm
    have h2 := pSlots_fr ps (ea x) S tm h1 hps (hlen x)
    have h3 : AV.denL e2 (ea x) = AV.denL env (ea x) := AV.denL_congr _ fun k hk => hin k (.inl (AV.hasL_ns _ hk))
    rw [h3] at h2
    have : ((ps.toArray.zip (AV.denL env (ea x)).toArray).foldl (fun t (q : Tmp × Value) => t.setIfInBounds q.1 q.2) tm) = ((ps.zip (AV.denL env (ea x))).foldl (fun t (q : Nat × Value) => t.setIfInBounds q.1 q.2) tm) := by
      rw [List.zip_toArray, List.foldl_toArray]
    rw [this]; exact h2
  refine roundIn_of_gw (Gw.mono (hbody x y.1 (j, s') hr rec hrd W O R e2 _ _ _ _ hFr2 hstB) ?_)
  rw [← hbusy]
  rintro e a3 W3 ⟨hex, env3, O3, R3, hst3⟩
  -- the round's end
  have hrec3 := hst3.holds (.inv grec (recI l busy)) (by simp)
  have hrec3' : O3 grec l ∧ W3.heap[l]? = some (.loop busy) := hrec3
  have hkO : Keep O W W3 := hst3.keep
  have hend := run_endRound (P := P) (jmp jl j) hrec3'.2
  have hok3 : ∀ (W4 : World), W4 = W3.putObj l (.loop { busy with state := if (jmp jl j).isNone then .ready else .done, pending := jmp jl j }) →
      ∃ O' R' : Nat → Prop, Keep O W W4 ∧ (loopI n S tm V jl (mkRec fn tm ps.toArray assign body D) l (s', j)).ok W4 O' R' (ev fo) ∧ (∀ b, O' b → b < W4.heap.size ∧ (W.heap.size ≤ b ∨ O b) ∧ ¬ R' b) ∧ (∀ b, R' b → b < W4.heap.size ∧ (W.heap.size ≤ b ∨ R b ∨ O b)) ∧ (∀ b, R b → R' b) := by
    intro W4 hW4
    have hlt3 : l < W3.heap.size := (Array.getElem?_eq_some_iff.1 hrec3'.2).1
    have hsz4 : W4.heap.size = W3.heap.size := by rw [hW4]; simp
    have hoth4 : ∀ b, b ≠ l → W4.heap[b]? = W3.heap[b]? := fun b hb => by rw [hW4]; exact World.putObj_heap_other hb
    have hR3l : ¬ R3 l := (hst3.own (.inv grec (recI l busy)) (by simp) l hrec3'.1).2.2
    have hown3 : ∀ z ∈ (.inv grec (recI l busy) :: V s'), ∀ b, O3 z.name b → b < W3.heap.size ∧ (W.heap.size ≤ b ∨ O b) ∧ ¬ R3 b := fun z hz b hb => by
      obtain ⟨g1, g2, g3⟩ := hst3.own z hz b hb
      exact ⟨g1, g2.imp id id, g3⟩
    have hsl : ∀ z ∈ V s', ∀ b, O3 z.name b → b ≠ l := fun z hz b hb e => by
      have hndr := nodup_of_B (hnd x s')
      have hzn : z.name ≠ grec := fun e => by
        simp only [List.cons_append, List.nodup_cons, List.mem_append, List.mem_map, not_or, not_exists, not_and] at hndr
        exact hndr.1.2 z hz e
      exact hst3.apart z (List.mem_cons_of_mem _ hz) (NEnt.inv grec (recI l busy)) (List.mem_cons_self ..) hzn l ⟨e ▸ hb, (show O3 (NEnt.inv grec (recI l busy)).name l from hrec3'.1)⟩
    refine ⟨fun b => ∃ z ∈ (.inv grec (recI l busy) :: V s'), O3 z.name b, R3, ?_, ⟨hv, ⟨NEnt.inv grec (recI l busy), List.mem_cons_self .., hrec3'.1⟩, ?_, env3, O3, ?_, fun z hz => ?_, fun z hz b hb => ⟨⟨z, by simp [hz], hb⟩, hsl z hz b hb⟩, fun z hz w hw hne => hst3.apart z (by simp [hz]) w (by simp [hw]) hne⟩, fun b hb => ?_, fun b hb => ?_, fun b hb => hst3.r0 b hb⟩
    · exact hkO.trans (show Keep O W3 W4 from by rw [hW4]; exact ⟨rfl, rfl, rfl, by simp, fun k _ hn => World.putObj_heap_other fun e => hn (e ▸ hOl)⟩) fun _ _ h => h
    · rw [hW4, World.putObj_heap_same hlt3, jmp_isNone, hbusy, hrecE]
      by_cases e : j = 0 <;> simp [e, mkRec, busyR]
    · have hp3 := hst3
      refine hFr.congr fun k hk => ?_
      obtain ⟨g, u, hgu⟩ := hpin k hk
      have g1 := hhold _ (hgu y.1)
      have g2 := hst3.holds _ (List.mem_cons_of_mem _ (hgu s'))
      simp only [NEnt.holds] at g1 g2
      rw [g1, g2]
    · refine NEnt.holds_keep (fun b hb => hoth4 b (hsl z hz b hb)) (fun b hb => ⟨hb, hoth4 b fun e => hR3l (e ▸ hb)⟩) (hst3.holds z (by simp [hz]))
    · obtain ⟨z, hz, hzb⟩ := hb
      rw [hsz4]; exact hown3 z hz b hzb
    · rw [hsz4]
      obtain ⟨g1, g2⟩ := hst3.ro b hb
      refine ⟨g1, g2.imp id id⟩
  have hjb : (jmp jl j).isNone = (j == 0) := jmp_isNone jl j
  rw [hjb] at hend
  have hok4 := hok3 _ (by rw [hjb])
  cases e with
  | normal =>
    simp only [exitCode, Option.some.injEq] at hex
    rw [← hex] at hend hok4
    exact ⟨_, _, hend, _, rfl, rfl, hok4⟩
  | ret =>
    simp only [exitCode, Option.some.injEq] at hex
    rw [← hex] at hend hok4
    exact ⟨_, _, hend, _, rfl, rfl, hok4⟩
  | exit id =>
    simp only [exitCode, Option.some.injEq] at hex
    rw [← hex] at hend hok4
    exact ⟨_, _, hend, _, rfl, rfl, hok4⟩
  | goto l => simp [exitCode] at hex
  | panic ch => simp [exitCode] at hex
  | outgrown => simp [exitCode] at hex
end
end Go.Proofs.YtohjpfkcahlfkaaGreat.Sy
