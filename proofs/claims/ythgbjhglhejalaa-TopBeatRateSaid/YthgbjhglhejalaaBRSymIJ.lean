/- Texts joined into one: SymI, SymJ, SymK, SymL, SymM, SymN, SymP. -/
import Derived.Test.YthgbjhglhejalaaBRSymDJ
import Derived.RangeFuncIn
import Derived.RangeFuncLeaves
import Derived.RangeFuncNested
section
set_option linter.unusedSimpArgs false
set_option linter.unusedVariables false
namespace Go.Proofs.Ythgbjhglhejalaa.Sy
open Go.RowKit
def NEnt.isRoB : NEnt → Bool
  | .row _ _ _ _ => false
  | .blk _ _ _ => false
  | .inv _ _ => false
  | _ => true
theorem roAll {need : List NEnt} (h : need.all NEnt.isRoB = true) : ∀ x ∈ need, x.toRo = x := fun x hx => by
  have := List.all_eq_true.1 h x hx;cases x <;> first | rfl | cases this
theorem map_len {α β : Type} {xs : List α} {f : α → List β} {size : Nat} (h : ∀ x, (f x).length = size) : ∀ el ∈ xs.map f, el.length = size := fun el he => by
  obtain ⟨x, _, rfl⟩ := List.mem_map.1 he;exact h x
section
variable {P : Program} {o : Oper} {ρ : Operand → Option AV}
theorem sp_lenM {T E : TypeId} {size n N : Nat} {x : Operand} {els : List (List D)} {y : NEnt} (hl : els.length = N) (ho : o.op = .call { callee := .builtin .len, args := #[x], argTypes := #[T] }) (hx : ρ x = some (.ref n)) (hy : IsRow y n size els) (hT : P.underlying T = some (.slice E)) :
    OpSpec P o ρ [y] (.val (.int .i64 (N : Int))) [] := by subst hl; exact sp_len ho hx hy hT
theorem sp_sliceM {T E : TypeId} {size bytes n N : Nat} (m : Nat) {x : Operand} {lo hi : Option Operand} {l h : Int} {els els' : List (List D)} (hl : els.length = N) (ho : o.op = .slice T x lo hi none) (hx : ρ x = some (.ref n)) (hT : SlT P T E size bytes)
    (hlo : Cut ρ lo 0 l) (hhi : Cut ρ hi (N : Int) h) (hb : (decide (0 ≤ l) && (decide (l ≤ h) && decide (h ≤ (N : Int)))) = true) (he : (els.take h.toNat).drop l.toNat = els') :
    OpSpec P o ρ [.ro n size els] (.ref m) [.ro m size els'] := by subst hl; exact sp_slice m ho hx hT hlo hhi hb he
end
section
variable {P : Program} {c : Ctx} {sz : Fm} {Q : Exit → Act → World → Prop} {t : List Item} {s : List (Nat × AV)} {V : List NEnt} {ops : Array Oper} {rest : List Oper} {o : Oper}
theorem appM (k j : Nat) {T E size bytes n m d N N2 : Nat} (r : Nat) {x y : Operand} {els els2 els3 : List (List D)} {ym : NEnt} (ho : o.op = .call { callee := .builtin .append, args := #[x, y], argTypes := #[T, T] }) (hd : o.dst = some d) (hw : Wanted ops s o) (hlt : Nat.blt d sz.sz = true)
    (hx : rho s x = some (.ref n)) (hk : V[k]? = some (.row n E size els)) (hy : rho s y = some (.ref m)) (hm : V[j]? = some ym) (hym : IsRow ym m size els2) (hnm : (m == n) = false) (hT : SlT P T E size bytes) (h1 : els.length = N) (h2 : els2.length = N2) (hroom : room bytes (N + N2) = true)
    (he : els ++ els2 = els3) (hf : freshN [.row r E size els3] s V = true) (h : TL P c sz Q ops rest t ((d, .ref r) :: s) (.row r E size els3 :: V.eraseIdx k)) : TL P c sz Q ops (o :: rest) t s V := by
  subst h1; subst h2; subst he;exact TL.append k r ho hd hw (by simpa [Nat.blt_eq] using hlt) hx hk hy (mem_at j hm) hym (by simpa using hnm) hT hroom hf h
theorem stoB (k : Nat) {T n off : Nat} {x y : Operand} {cells : List AV} {T' : TypeId} {a : AV} {N : Nat} {ag : Bool} (ho : o.op = .store T x y) (hd : o.dst = none) (hw : Wanted ops s o) (hx : rho s x = some (.ptr n off)) (hk : V[k]? = some (.blk n cells T')) (hy : rho s y = some a) (hfl : a.flat = true)
    (hT : VarT P T N ag) (hN : a.cs.length = N) (hle : Nat.ble (off + a.cs.length) cells.length = true) {cells' : List AV} (hc : cells.take off ++ a.cs ++ cells.drop (off + a.cs.length) = cells') (h : TL P c sz Q ops rest t s (V.set k (.blk n cells' T'))) : TL P c sz Q ops (o :: rest) t s V := by
  subst hc; subst hN;exact TL.storeB k ho hd hw hx hk hy hfl hT.sizeOf (Nat.le_of_ble_eq_true hle) h
end
mutual
def AV.nl (k : Nat) : AV → AV
  | .val v => .val v
  | .ref m => if m = k then .val (.slice none 0 0) else .ref m
  | .ptr m o => if m = k then .val (.bool false) else .ptr m o
  | .cell m o => if m = k then .val (.bool false) else .cell m o
  | .agg cs => .agg (AV.nlL k cs)
  | .tup cs => .tup (AV.nlL k cs)
  | .fn f a b => .fn f (AV.nlL k a) (AV.nlL k b)
def AV.nlL (k : Nat) : List AV → List AV
  | [] => []
  | a :: l => a.nl k :: AV.nlL k l
end
mutual
theorem AV.den_nl (e : Env) (k : Nat) : ∀ (a : AV), (a.nl k).den e = a.den (setEnv e k (.slice none 0 0))
  | .val _ => rfl
  | .ref m => by
    simp only [AV.nl]
    split
    · rename_i h; subst h; simp [AV.den, setEnv_same, oneOf]
    · rename_i h; simp [AV.den, setEnv_other (Ne.symm h)]
  | .ptr m _ => by
    simp only [AV.nl]
    split
    · rename_i h; subst h; simp [AV.den, setEnv_same, blockOff]
    · rename_i h; simp [AV.den, setEnv_other (Ne.symm h)]
  | .cell m _ => by
    simp only [AV.nl]
    split
    · rename_i h; subst h; simp [AV.den, setEnv_same, cellAt]
    · rename_i h; simp [AV.den, setEnv_other (Ne.symm h)]
  | .agg cs => by simp only [AV.nl, AV.den, AV.denL_nl e k cs]
  | .tup cs => by simp only [AV.nl, AV.den, AV.denL_nl e k cs]
  | .fn f a b => by simp only [AV.nl, AV.den, AV.denL_nl e k a, AV.denL_nl e k b]
theorem AV.denL_nl (e : Env) (k : Nat) : ∀ (l : List AV), AV.denL e (AV.nlL k l) = AV.denL (setEnv e k (.slice none 0 0)) l
  | [] => rfl
  | a :: l => by simp only [AV.nlL, AV.denL, AV.den_nl e k a, AV.denL_nl e k l]
end
theorem FC.nil {P : Program} {f : Nat} {args : List AV} {need news : List NEnt} {v : AV} (k size : Nat) (h : FC P f args (.ro k size [] :: need) v news) (hk : hasV k need = false) (hv : v.has k = false) (hn : hasV k news = false) :
    FC P f (AV.nlL k args) need v news := by
  intro env w0 R0 hnd hR;rw [AV.denL_nl];refine (h (setEnv env k (.slice none 0 0)) w0 R0 (fun x hx => ?_) hR).mono ?_
  · rcases List.mem_cons.1 hx with rfl | hx
    · simp only [NEnt.holds, setEnv_same];exact ⟨none, 0, rfl, Nat.le_refl _, Nat.zero_le _, fun _ => rfl, by simp⟩
    · exact NEnt.holds_congr (fun n hn' => (setEnv_other fun e => by subst e; rw [hasV_mem hk hx] at hn'; cases hn').symm) (hnd x hx)
  rintro e W' ⟨u, he, env', O', R', h1, h2, hst⟩
  have hc : ∀ n, n ≠ k → setEnv env' k (env k) n = env' n := fun n hne => setEnv_other (Ne.symm hne)
  refine ⟨u, he, setEnv env' k (env k), O', R', fun n hn' => ?_, ?_, hst.keep, fun x hx => ?_, hst.own, hst.apart, hst.ro, hst.r0, hst.names⟩
  · by_cases e : n = k
    · subst e; rw [setEnv_same]
    · rw [hc n e, h1 n hn', setEnv_other (Ne.symm e)]
  · rw [h2];exact AV.den_congr v fun n hn' => (hc n fun e => by subst e; rw [hv] at hn'; cases hn').symm
  · exact NEnt.holds_congr (fun n hn' => (hc n fun e => by subst e; rw [hasV_mem hn hx] at hn'; cases hn').symm) (hst.holds x hx)
end Go.Proofs.Ythgbjhglhejalaa.Sy
end
section
set_option linter.unusedSimpArgs false
set_option linter.unusedVariables false
namespace Go.Proofs.Ythgbjhglhejalaa.Sy
open Go.RowKit
def nodupB : List Nat → Bool
  | [] => true
  | a :: l => !(l.contains a) && nodupB l
theorem nodup_of_B : ∀ {l : List Nat}, nodupB l = true → l.Nodup := by
  intro l
  induction l with
  | nil => intro _; simp
  | cons a l ih => intro h; simp only [nodupB, Bool.and_eq_true, Bool.not_eq_true', List.contains_eq_mem, decide_eq_false_iff_not] at h; exact List.nodup_cons.2 ⟨h.1, ih h.2⟩
def rnA (l : List (Nat × Nat)) (n : Nat) : Nat := match l with
  | [] => n
  | (a, b) :: l => if a = n then b else rnA l n
section
variable {P : Program} {c : Ctx} {nz : Nat} {sz : Fm} {Q : Exit → Act → World → Prop} {t : List Item} {s s' : List (Nat × AV)} {V V' : List NEnt} {ops : Array Oper} {rest : List Oper} {o : Oper}
theorem subJ (p : List (Nat × Nat)) (h : TC P c sz Q t s' V') (hs : SubS (rnA p) s s') (hV : SubV (rnA p) V V') (hn : nodupB (V'.map fun x => rnA p x.name) = true) : TC P c sz Q t s V := TC.sub (rnA p) h hs hV (nodup_of_B hn)
theorem retJ {fn : Func} {env0 : Env} (p : List (Nat × Nat)) {v : AV} {news : List NEnt} {m : List AV} (hr : ResL P s V fn.results.toList m) (hv : v.ren (rnA p) = resAV m) (hV : SubV (rnA p) V news) (hn : nodupB (news.map fun x => rnA p x.name) = true) (hcl : closedN v news = true) :
    TC P c (Fm.of nz) (bodyPost P fn (Post c env0 v news)) (.code .ret :: t) s V := TC.ret (rnA p) hr hv hV (nodup_of_B hn) hcl
theorem introJ {fn : Func} {f : Nat} {body : Code} {args : List AV} {need news : List NEnt} {v : AV} (hf : P.funcs[f]? = some fn) (hb : fn.body = some body) (hsz : args.length + (fn.ntmps - args.length) = nz) (hnd : nodupB (need.map NEnt.name) = true)
    (h : ∀ (w0 : World) (R0 : Nat → Prop) (env0 : Env), TC P ⟨w0, fun _ => False, R0⟩ (Fm.of nz) (bodyPost P fn (Post ⟨w0, fun _ => False, R0⟩ env0 v news)) [.code body] (args.zipIdx.map fun p => (p.2, p.1)) need) : FC P f args need v news :=
  FC.intro hf hb hsz (nodup_of_B hnd) h
theorem drawJ {id : Nat} {l : List Oper} (m : Nat) (outs : List DO) (hm : P.follows .mixedOrders = true) (hd : dStatic l.toArray m sz.sz = true) (hl : outs.length = m) (hf : dFresh l.toArray outs s V = true) (hnd : nodupB ((vAfter outs V).map NEnt.name) = true)
    (hall : DAll P l.toArray outs V 0 l outs s) (k : TL P c sz Q l.toArray (l.drop m) t (sAfter l outs s) (vAfter outs V)) : TC P c sz Q (.code (.region id l.toArray true) :: t) s V :=
  TC.draw m outs hm hd hl hf (nodup_of_B hnd) hall k
theorem atJ {f : Nat} {args : List AV} {need news : List NEnt} {v : AV} (p q : List (Nat × Nat)) (h : FC P f args need v news) (hq : nodupB (news.map fun x => rnA q x.name) = true) (hcl : closedN v news = true) :
    FC P f (AV.renL (rnA p) args) (need.map (NEnt.ren (rnA p))) (v.ren (rnA q)) (news.map (NEnt.ren (rnA q))) := FC.at (rnA p) (rnA q) h (nodup_of_B hq) hcl
theorem boolLit (d : Nat) {b b' : Bool} (hs : look s d = some (.val (.bool b))) (hb : b = b') : (TC P c sz Q t ((d, .val (.bool b')) :: s) V → TC P c sz Q t s V) ∧ (TL P c sz Q ops rest t ((d, .val (.bool b')) :: s) V → TL P c sz Q ops rest t s V) := by
  subst hb;refine ghost fun env tm W O R hfr hst => ⟨env, O, R, ⟨hfr.1, fun t a ha => ?_⟩, hst⟩
  simp only [look] at ha
  split at ha
  · rename_i e; subst e; cases ha; exact hfr.2 _ _ hs
  · exact hfr.2 t a ha
theorem sp_emptyM {o : Oper} {ρ : Operand → Option AV} {T E : TypeId} {size bytes : Nat} (n : Nat) (els : List (List D)) (he : els = []) (ho : o.op = .buildSlice T 0 #[]) (hT : SlT P T E size bytes) : OpSpec P o ρ [] (.ref n) [.row n E size els] := by
  subst he; exact sp_emptySlice n ho hT
theorem sp_castB {o : Oper} {ρ : Operand → Option AV} {need news : List NEnt} {b b' : Bool} (h : b = b') (hs : OpSpec P o ρ need (.val (.bool b)) news) : OpSpec P o ρ need (.val (.bool b')) news := h ▸ hs
end
theorem cond_cases {α : Type} {b : Bool} {x y : Option α} {r : α} (h : cond b x y = some r) : (b = true ∧ x = some r) ∨ (b = false ∧ y = some r) := by
  cases b
  · exact .inr ⟨rfl, h⟩
  · exact .inl ⟨rfl, h⟩
theorem none_no {α : Type} {r : α} {p : Prop} (h : (none : Option α) = some r) : p := by cases h
end Go.Proofs.Ythgbjhglhejalaa.Sy
end
section
set_option linter.unusedSimpArgs false
set_option linter.unusedVariables false
namespace Go.Proofs.Ythgbjhglhejalaa.Sy
open Go.RowKit
def D.fn (P : Program) {α β : Type} (enc : α → List AV) (dec : β → AV) (f : α → Option β) : D :=
  ⟨fun W R v => ∃ g first caps, v = .func (.func g) first caps ∧ (∀ args w, (callFunc g args).run P w = .ok (.enter g args) w) ∧ ∀ a b, f a = some b → ∀ (env : Env) (W' : World) (R' : Nat → Prop),
      (∀ k, R k → R' k ∧ W'.heap[k]? = W.heap[k]?) → (∀ k, R' k → k < W'.heap.size) → Calls P g (first ++ (AV.denL env (enc a)).toArray ++ caps) W' (Post ⟨W', fun _ => False, R'⟩ env (dec b) []),
   fun W W' R R' hm v ⟨g, first, caps, h1, h2, h3⟩ => ⟨g, first, caps, h1, h2, fun a b hab env W2 R2 hr hs => h3 a b hab env W2 R2 (fun k hk => ⟨(hr k (hm k hk).1).1, ((hr k (hm k hk).1).2).trans (hm k hk).2⟩) hs⟩⟩
section
variable {P : Program} {o : Oper} {ρ : Operand → Option AV}
theorem sp_callF {α β : Type} {enc : α → List AV} {dec : β → AV} {F : α → Option β} {fo : Operand} {as_ : List Operand} {avs : List AV} {ats : Array TypeId} {n : Nat} {v : AV} (a : α) {b : β} (ho : o.op = .call { callee := .value fo, args := as_.toArray, argTypes := ats }) (hf : ρ fo = some (.ref n))
    (has : as_.map ρ = avs.map some) (ha : avs = enc a) (hv : dec b = v) (hab : F a = some b) : OpSpec P o ρ [.any n (D.fn P enc dec F)] v [] := by
  intro ev env W O R hev hn hO hR;obtain ⟨g, first, caps, h1, h2, h3⟩ := hn _ (List.mem_singleton.2 rfl);have hfo := hev fo _ hf;have h1' : env n = .func (.func g) first caps := h1;simp only [AV.den, h1', oneOf] at hfo;have hargs := args_map hev as_ avs has;have hrun : (execOp ev o).run P W = .ok (.enter g (first ++ (AV.denL env (enc a)).toArray ++ caps)) W := by
    simp only [execOp, ho, resolve, hfo, Deferred.ofValue, Sem.run_bind, Sem.run_pure, Result.andThen_ok, invoke, h2, List.map_toArray, hargs, ha]
  rw [hrun];subst hv;exact (h3 a b hab env W R (fun k hk => ⟨hk, rfl⟩) hR).mono fun e W' ⟨u, he, hg⟩ => ⟨u, he, hg⟩
end
def noName (v : AV) : Bool := v.ns.isEmpty
theorem den_noName {v : AV} (h : noName v = true) (e e' : Env) : v.den e = v.den e' := AV.den_congr v fun n hn => by
  have := AV.has_ns v hn;simp only [noName, List.isEmpty_iff] at h;rw [h] at this; cases this
theorem denL_noName {l : List AV} (h : (AV.nsL l).isEmpty = true) (e e' : Env) : AV.denL e l = AV.denL e' l := AV.denL_congr l fun n hn => by
  have := AV.hasL_ns l hn;simp only [List.isEmpty_iff] at h;rw [h] at this; cases this
theorem FC.fnArg {P : Program} {α β : Type} {enc : α → List AV} {dec : β → AV} {F : α → Option β} {f g k : Nat} (i : Nat) {args first caps : List AV} {needC need news : List NEnt} {v : AV} (h : FC P f args (.any k (D.fn P enc dec F) :: need) v news)
    (hi : args[i]? = some (.ref k)) (hcall : ∀ args w, (callFunc g args).run P w = .ok (.enter g args) w) (hc : ∀ a b, F a = some b → FC P g (first ++ enc a ++ caps) needC (dec b) [])
    (hro : needC.all NEnt.isRoB = true) (henc : ∀ a, (AV.nsL (enc a)).isEmpty = true) (hdec : ∀ b, noName (dec b) = true)
    (hk : (args.zipIdx.all fun p => p.2 == i || !p.1.has k) = true) (hk2 : hasV k needC = false) (hk3 : hasV k need = false) (hk4 : v.has k = false) (hk5 : hasV k news = false) (hk6 : AV.hasL k first = false) (hk7 : AV.hasL k caps = false) :
    FC P f (args.set i (.fn g first caps)) (needC ++ need) v news := by
  intro env w0 R0 hnd hR;have hval : AV.denL env (args.set i (.fn g first caps)) = AV.denL (setEnv env k ((AV.fn g first caps).den env)) args := by
    simp only [AV.denL_map];apply List.ext_getElem?;intro j;simp only [List.getElem?_map, List.getElem?_set]
    split
    · rename_i e; subst e
      rw [if_pos (List.getElem?_eq_some_iff.1 hi).1, hi];simp [AV.den, setEnv_same, oneOf]
    · rename_i e
      cases ha : args[j]? with
      | none => rfl
      | some a =>
        have hm : (a, j) ∈ args.zipIdx := List.mem_iff_getElem?.2 ⟨j, by rw [List.getElem?_zipIdx, ha]; simp⟩;have := List.all_eq_true.1 hk (a, j) hm;simp only [Bool.or_eq_true, beq_iff_eq, Bool.not_eq_true'] at this;rcases this with e' | this
        · exact absurd e'.symm e
        · simp only [Option.map_some, Option.some.injEq];exact AV.den_congr a fun n hn => (setEnv_other fun e => by subst e; rw [this] at hn; cases hn).symm
  rw [hval];have hnC : ∀ x ∈ needC, x.holds env w0 (fun _ => False) R0 := fun x hx => hnd x (by simp [hx])
  refine (h (setEnv env k ((AV.fn g first caps).den env)) w0 R0 (fun x hx => ?_) hR).mono ?_
  · rcases List.mem_cons.1 hx with rfl | hx
    · refine ⟨g, (AV.denL env first).toArray, (AV.denL env caps).toArray, by simp [setEnv_same, AV.den], hcall, fun a b hab env' W' R' hr hs => ?_⟩;have hcalls := hc a b hab env W' R' (fun x hx => by
        have h1 := hnC x hx;have hxr := List.all_eq_true.1 hro x hx
        cases x with
        | row n E size els => cases hxr
        | blk n cells T => cases hxr
        | ro n size els => exact NEnt.holds_keep (x := .ro n size els) (fun _ h => h.elim) hr h1
        | rob n cells T => exact NEnt.holds_keep (x := .rob n cells T) (fun _ h => h.elim) hr h1
        | any n d => exact NEnt.holds_keep (x := .any n d) (fun _ h => h.elim) hr h1
        | inv n I => cases hxr
        | pin g n u => exact h1) hs
      rw [denL_append, denL_append, denL_noName (henc a) env env'] at hcalls;simp only [← List.append_toArray] at hcalls;refine hcalls.mono ?_
      rintro e W2 ⟨u, he, env2, O2, R2, g1, g2, g3⟩
      refine ⟨u, he, env', fun _ _ => False, R2, fun _ _ => rfl, by rw [g2]; exact den_noName (hdec b) _ _, ⟨g3.keep, by simp, by simp, by simp, g3.ro, g3.r0, by simp⟩⟩
    · exact NEnt.holds_congr (fun n hn' => (setEnv_other fun e => by subst e; rw [hasV_mem hk3 hx] at hn'; cases hn').symm) (hnd x (by simp [hx]))
  rintro e W' ⟨u, he, env', O', R', h1, h2, hst⟩
  have hcn : ∀ n, n ≠ k → setEnv env' k (env k) n = env' n := fun n hne => setEnv_other (Ne.symm hne)
  refine ⟨u, he, setEnv env' k (env k), O', R', fun n hn' => ?_, ?_, hst.keep, fun x hx => ?_, hst.own, hst.apart, hst.ro, hst.r0, hst.names⟩
  · by_cases e : n = k
    · subst e; rw [setEnv_same]
    · rw [hcn n e, h1 n hn', setEnv_other (Ne.symm e)]
  · rw [h2];exact AV.den_congr v fun n hn' => (hcn n fun e => by subst e; rw [hk4] at hn'; cases hn').symm
  · exact NEnt.holds_congr (fun n hn' => (hcn n fun e => by subst e; rw [hasV_mem hk5 hx] at hn'; cases hn').symm) (hst.holds x hx)
theorem FC.needJ {P : Program} {f : Nat} {args : List AV} {need need' news : List NEnt} {v : AV} (is : List Nat) (hn : At need is need') (h : FC P f args need' v news) : FC P f args need v news :=
  fun env w0 R0 hnd hR => h env w0 R0 (fun x hx => hnd x (hn.mem x hx)) hR
end Go.Proofs.Ythgbjhglhejalaa.Sy
end
section
set_option linter.unusedSimpArgs false
set_option linter.unusedVariables false
namespace Go.Proofs.Ythgbjhglhejalaa.Sy
open Go.RowKit
section
variable {P : Program} {c : Ctx} {sz : Fm} {Q : Exit → Act → World → Prop} {t : List Item} {s : List (Nat × AV)} {V : List NEnt} {ops : Array Oper} {rest : List Oper}
theorem hold_nl {env : Env} {W : World} {O R : Nat → Prop} {b n : Nat} {cells : List AV} {T : TypeId} (hb : b ≠ n) :
    ((NEnt.blk b (AV.nlL n cells) T).holds env W O R → (NEnt.blk b cells T).holds (setEnv env n (.slice none 0 0)) W O R) ∧ ((NEnt.rob b (AV.nlL n cells) T).holds env W O R → (NEnt.rob b cells T).holds (setEnv env n (.slice none 0 0)) W O R) := by
  constructor
  · rintro ⟨q, h1, h2, h3⟩
    rw [AV.denL_nl] at h3;exact ⟨q, by rw [setEnv_other (Ne.symm hb)]; exact h1, h2, h3⟩
  · rintro ⟨q, h1, h2, h3⟩
    rw [AV.denL_nl] at h3;exact ⟨q, by rw [setEnv_other (Ne.symm hb)]; exact h1, h2, h3⟩
theorem nil_swap {env : Env} {W : World} {O : Nat → Nat → Prop} {R : Nat → Prop} {x y z : NEnt} {n k : Nat} (hst : St c env (z :: V) W O R) (hk : V[k]? = some x) (hn : y.name = x.name) (hy : y.holds env W (O x.name) R) : St c env (z :: V.set k y) W O R :=
  hst.write (k + 1) (by simpa using hk) (Keep.refl _ _) hn hy
theorem nilCellR (k n E size b : Nat) (els : List (List D)) (cells : List AV) {T : TypeId} (he : els = []) (hk : V[k]? = some (.blk b (AV.nlL n cells) T)) (hf : freshN [.row n E size els] s V = true) :
    (TC P c sz Q t s (.row n E size els :: V.set k (.blk b cells T)) → TC P c sz Q t s V) ∧ (TL P c sz Q ops rest t s (.row n E size els :: V.set k (.blk b cells T)) → TL P c sz Q ops rest t s V) := by
  subst he;have hf' : hasS n s = false ∧ hasV n V = false := by simpa [freshN, NEnt.name] using hf
  refine ghost fun env tm W O R hfr hst => ?_
  have hadd := hst.addRo (x := .row n E size []) (v := .slice none 0 0) hf'.2 fun O => by
    simp only [NEnt.holds, NEnt.name, setEnv_same];exact ⟨by simp, [], World.ownsRow_nil _ _ _ _, by simp [Value.ownBlock], by simp⟩
  have hm := List.mem_of_getElem? hk;have hbn : b ≠ n := fun e => by have := hasV_mem hf'.2 hm; simp [NEnt.has, e] at this
  refine ⟨setEnv env n (.slice none 0 0), _, R, ⟨hfr.1, fun t a ha => by rw [hfr.2 t a ha, AV.den_congr a (fun m hm => (setEnv_other (n := n) (m := m) fun e => by subst e; rw [look_has ha hm] at hf'; cases hf'.1).symm)]⟩, nil_swap (n := n) hadd hk rfl ?_⟩;have h1 := (hold_nl (n := n) hbn).1 (hst.holds _ hm)
  simpa [NEnt.name, hbn] using h1
end
section
variable {P : Program} {o : Oper} {ρ : Operand → Option AV}
def shK (k : IntKind) (y : Int) : Nat := 2 ^ (min y.toNat k.bits)
theorem sp_shr {x y : Operand} {T U : TypeId} {k k' : IntKind} {m n : Int} (ho : o.op = .binOp .shr T x y U) (hx : ρ x = some (.val (.int k m))) (hy : ρ y = some (.val (.int k' n))) (h0 : decide (0 ≤ n) = true) : OpSpec P o ρ [] (.val (.int k (m / (shK k n : Int)))) [] :=
  .pure fun ev env W O R he _ => by
    have h0' : ¬ n < 0 := by simpa using h0
    have hp : (0 : Int) ≤ 2 ^ (min n.toNat k.bits) := Int.pow_nonneg (by decide);simp [execOp, ho, he x _ hx, he y _ hy, AV.den, eqGuard, binOp, Op.shift, h0', shK, Int.fdiv_eq_ediv_of_nonneg _ hp]
def bitK (k : IntKind) (op : BinOp) (x y : Int) : Int := match op with
  | .and => k.wrap (BitVec.ofInt k.bits x &&& BitVec.ofInt k.bits y).toNat
  | .or => k.wrap (BitVec.ofInt k.bits x ||| BitVec.ofInt k.bits y).toNat
  | .xor => k.wrap (BitVec.ofInt k.bits x ^^^ BitVec.ofInt k.bits y).toNat
  | _ => k.wrap (BitVec.ofInt k.bits x &&& ~~~ BitVec.ofInt k.bits y).toNat
theorem sp_bit {x y : Operand} {T U : TypeId} {k : IntKind} {m n : Int} (op : BinOp) (ho : o.op = .binOp op T x y U) (hop : (op == .and || op == .or || op == .xor || op == .andNot) = true) (hx : ρ x = some (.val (.int k m))) (hy : ρ y = some (.val (.int k n))) : OpSpec P o ρ [] (.val (.int k (bitK k op m n))) [] :=
  .pure fun ev env W O R he _ => by
    cases op <;> first | (exfalso; revert hop; decide) | simp [execOp, ho, he x _ hx, he y _ hy, AV.den, eqGuard, binOp, Op.intBits, bitK]
theorem sp_shl {x y : Operand} {T U : TypeId} {k k' : IntKind} {m n : Int} (ho : o.op = .binOp .shl T x y U) (hx : ρ x = some (.val (.int k m))) (hy : ρ y = some (.val (.int k' n))) (h0 : decide (0 ≤ n) = true) (hz : inK k (m * (shK k n : Int)) = true) : OpSpec P o ρ [] (.val (.int k (m * (shK k n : Int)))) [] :=
  .pure fun ev env W O R he _ => by
    have h0' : ¬ n < 0 := by simpa using h0
    have hz' := wrap_inK hz;simp only [shK, Int.natCast_pow, Int.cast_ofNat_Int] at hz';simp [execOp, ho, he x _ hx, he y _ hy, AV.den, eqGuard, binOp, Op.shift, h0', shK, hz']
end
end Go.Proofs.Ythgbjhglhejalaa.Sy
end
section
set_option linter.unusedSimpArgs false
set_option linter.unusedVariables false
namespace Go.Proofs.Ythgbjhglhejalaa.Sy
open Go.RowKit
theorem ro_holds {x : NEnt} (hx : x.isRoB = true) {e : Env} {W : World} {O R : Nat → Prop} (h : x.holds e W O R) (O' : Nat → Prop) : x.holds e W O' R := by
  cases x with
  | row n E size els => cases hx
  | blk n cells T => cases hx
  | inv n I => cases hx
  | ro n size els => exact h
  | rob n cells T => exact h
  | any n d => exact h
  | pin g n u => exact h
theorem St.over {c : Ctx} {env env' : Env} {V take news : List NEnt} {W W' : World} {O O' : Nat → Nat → Prop} {R R' M1 : Nat → Prop} (h : St c env V W O R) (ht : ∀ x ∈ take, x ∈ V) (hM : ∀ b, M1 b → ∃ x ∈ take, O x.name b)
    (hg : St ⟨W, M1, R⟩ env' news W' O' R') (he : ∀ n, (∀ y ∈ news, y.name ∉ take.map NEnt.name → y.name ≠ n) → env' n = env n) (hf : ∀ y ∈ news, y.name ∈ take.map NEnt.name ∨ hasV y.name V = false) :
    ∃ O2, St c env' (news ++ delV (take.map NEnt.name) V) W' O2 R' := by
  have hnv : ∀ x ∈ news, ∀ z ∈ delV (take.map NEnt.name) V, x.name ≠ z.name := by
    intro x hx z hz e;obtain ⟨hz, hzt⟩ := mem_delV.1 hz;rcases hf x hx with h1 | h1
    · exact hzt (e ▸ h1)
    · rw [mem_has hz (by rw [e]; exact NEnt.has_name z)] at h1; cases h1
  have hev : ∀ n, hasV n V = true → env' n = env n := fun n hn => he n fun y hy hyt e => by
    rcases hf y hy with h1 | h1
    · exact hyt h1
    · subst e; rw [h1] at hn; cases hn
  have hnm : ∀ z ∈ delV (take.map NEnt.name) V, ∀ b, O z.name b → ¬ M1 b := by
    intro z hz b hb hm;obtain ⟨hz, hzt⟩ := mem_delV.1 hz;obtain ⟨x, hx, hxb⟩ := hM b hm;exact h.apart z hz x (ht x hx) (fun e => hzt (List.mem_map.2 ⟨x, hx, e.symm⟩)) b ⟨hb, hxb⟩
  have hrm : ∀ b, R b → ¬ M1 b := by
    intro b hb hm;obtain ⟨x, hx, hxb⟩ := hM b hm;exact (h.own x (ht x hx) b hxb).2.2 hb
  have hmo : ∀ b, M1 b → b < W.heap.size ∧ (c.w0.heap.size ≤ b ∨ c.M b) := by
    intro b hm;obtain ⟨x, hx, hxb⟩ := hM b hm;exact ⟨(h.own x (ht x hx) b hxb).1, (h.own x (ht x hx) b hxb).2.1⟩
  classical
  refine ⟨fun n b => if (∃ x ∈ news, x.name = n) then O' n b else O n b, ⟨h.keep.trans hg.keep (fun i hi hm => ?_), ?_, ?_, ?_, ?_, ?_, ?_⟩⟩
  · rcases (hmo i hm).2 with h1 | h1
    · omega
    · exact h1
  · intro x hx;rcases List.mem_append.1 hx with hx | hx
    · have : ∃ y ∈ news, y.name = x.name := ⟨x, hx, rfl⟩
      simpa only [this, if_true] using hg.holds x hx
    · have hno : ¬ ∃ y ∈ news, y.name = x.name := fun ⟨y, hy, e⟩ => hnv y hy x hx e
      have hxV := (mem_delV.1 hx).1;simp only [hno, if_false];refine NEnt.holds_congr (fun n hn => (hev n (mem_has hxV hn)).symm) (NEnt.holds_keep (fun b hb => ?_) (fun b hb => ?_) (h.holds x hxV))
      · exact hg.keep.block b (h.own x hxV b hb).1 (hnm x hx b hb)
      · exact ⟨hg.r0 b hb, hg.keep.block b (h.ro b hb).1 (hrm b hb)⟩
  · intro x hx b hb;rcases List.mem_append.1 hx with hx | hx
    · have : ∃ y ∈ news, y.name = x.name := ⟨x, hx, rfl⟩;simp only [this, if_true] at hb;obtain ⟨h1, h2, h3⟩ := hg.own x hx b hb;refine ⟨h1, ?_, h3⟩;rcases h2 with h2 | h2
      · exact .inl (Nat.le_trans h.keep.size h2)
      · exact (hmo b h2).2
    · have hno : ¬ ∃ y ∈ news, y.name = x.name := fun ⟨y, hy, e⟩ => hnv y hy x hx e
      have hxV := (mem_delV.1 hx).1;simp only [hno, if_false] at hb;obtain ⟨h1, h2, h3⟩ := h.own x hxV b hb;refine ⟨Nat.lt_of_lt_of_le h1 hg.keep.size, h2, fun hr => ?_⟩;rcases (hg.ro b hr).2 with h4 | h4 | h4
      · have : W.heap.size ≤ b := h4; omega
      · exact h3 h4
      · exact hnm x hx b hb h4
  · intro x hx y hy hne b ⟨h1, h2⟩
    by_cases ex : ∃ z ∈ news, z.name = x.name <;> by_cases ey : ∃ z ∈ news, z.name = y.name <;> simp only [ex, ey, if_true, if_false] at h1 h2
    · obtain ⟨x', hx', e1⟩ := ex; obtain ⟨y', hy', e2⟩ := ey;rw [← e1] at h1; rw [← e2] at h2;exact hg.apart x' hx' y' hy' (by rw [e1, e2]; exact hne) b ⟨h1, h2⟩
    · obtain ⟨x', hx', e1⟩ := ex;have hyD : y ∈ delV (take.map NEnt.name) V := (List.mem_append.1 hy).resolve_left fun h => ey ⟨y, h, rfl⟩
      have hyV := (mem_delV.1 hyD).1;rw [← e1] at h1;have := (hg.own x' hx' b h1).2.1;have h3 := (h.own y hyV b h2).1;rcases this with h4 | h4
      · have : W.heap.size ≤ b := h4; omega
      · exact hnm y hyD b h2 h4
    · obtain ⟨y', hy', e2⟩ := ey;have hxD : x ∈ delV (take.map NEnt.name) V := (List.mem_append.1 hx).resolve_left fun h => ex ⟨x, h, rfl⟩
      have hxV := (mem_delV.1 hxD).1;rw [← e2] at h2;have := (hg.own y' hy' b h2).2.1;have h3 := (h.own x hxV b h1).1;rcases this with h4 | h4
      · have : W.heap.size ≤ b := h4; omega
      · exact hnm x hxD b h1 h4
    · have hxV : x ∈ V := (mem_delV.1 ((List.mem_append.1 hx).resolve_left fun h => ex ⟨x, h, rfl⟩)).1;have hyV : y ∈ V := (mem_delV.1 ((List.mem_append.1 hy).resolve_left fun h => ey ⟨y, h, rfl⟩)).1;exact h.apart x hxV y hyV hne b ⟨h1, h2⟩
  · intro b hb;obtain ⟨h1, h2⟩ := hg.ro b hb;refine ⟨h1, ?_⟩;rcases h2 with h2 | h2 | h2
    · exact .inl (Nat.le_trans h.keep.size h2)
    · exact (h.ro b h2).2
    · exact (hmo b h2).2.elim .inl fun h => .inr (.inr h)
  · intro b hb;exact hg.r0 b (h.r0 b hb)
  · rw [List.map_append, List.nodup_append];refine ⟨hg.names, h.names.sublist ((delV_sub _ _).map NEnt.name), fun a ha b hb e => ?_⟩;obtain ⟨x, hx, rfl⟩ := List.mem_map.1 ha;obtain ⟨y, hy, rfl⟩ := List.mem_map.1 hb;exact hnv x hx y hy e
def PostT (c : Ctx) (env : Env) (tn : List Nat) (v : AV) (news : List NEnt) (e : Ending) (W' : World) : Prop :=
  ∃ u, e = .returned u ∧ ∃ env' O' R', (∀ n, (∀ y ∈ news, y.name ∉ tn → y.name ≠ n) → env' n = env n) ∧ u = v.den env' ∧ St c env' news W' O' R'
def FT (P : Program) (f : Nat) (args : List AV) (take need : List NEnt) (v : AV) (news : List NEnt) : Prop :=
  ∀ (env : Env) (w0 : World) (M : Nat → Prop) (O : Nat → Nat → Prop) (R0 : Nat → Prop), St ⟨w0, M, R0⟩ env take w0 O R0 → (∀ x ∈ need, x.isRoB = true ∧ x.holds env w0 (fun _ => False) R0) →
    Calls P f (AV.denL env args).toArray w0 (PostT ⟨w0, M, R0⟩ env (take.map NEnt.name) v news)
theorem FT.apply {P : Program} {f : Nat} {args : List AV} {take need news : List NEnt} {v : AV} (h : FT P f args take need v news) {c : Ctx} {env : Env} {V : List NEnt} {W : World} {O : Nat → Nat → Prop} {R : Nat → Prop} (hst : St c env V W O R)
    (ht : ∀ x ∈ take, x ∈ V) (hk : ∀ x ∈ need, x ∈ V) (hro : need.all NEnt.isRoB = true) (hnd : nodupB (take.map NEnt.name) = true) (hf : ∀ y ∈ news, y.name ∈ take.map NEnt.name ∨ hasV y.name V = false) :
    Calls P f (AV.denL env args).toArray W fun e W' => ∃ u, e = .returned u ∧ ∃ env' O2 R', (∀ n, (∀ y ∈ news, y.name ∉ take.map NEnt.name → y.name ≠ n) → env' n = env n) ∧ u = v.den env' ∧ St c env' (news ++ delV (take.map NEnt.name) V) W' O2 R' := by
  have hroA : ∀ x ∈ need, x.isRoB = true := fun x hx => List.all_eq_true.1 hro x hx
  have hst1 : St ⟨W, fun b => ∃ x ∈ take, O x.name b, R⟩ env take W O R := by
    refine ⟨Keep.refl _ _, fun x hx => hst.holds x (ht x hx), fun x hx b hb => ?_, fun x hx y hy hne b hb => hst.apart x (ht x hx) y (ht y hy) hne b hb, fun b hb => ⟨(hst.ro b hb).1, .inr (.inl hb)⟩, fun _ h => h, nodup_of_B hnd⟩;obtain ⟨h1, h2, h3⟩ := hst.own x (ht x hx) b hb;exact ⟨h1, .inr ⟨x, hx, hb⟩, h3⟩
  refine (h env W _ _ R hst1 fun x hx => ⟨hroA x hx, ro_holds (hroA x hx) (hst.holds x (hk x hx)) _⟩).mono ?_
  rintro e W' ⟨u, he, env', O', R', h1, h2, h3⟩
  obtain ⟨O2, h4⟩ := hst.over ht (fun b hb => hb) h3 h1 hf;exact ⟨u, he, env', O2, R', h1, h2, h4⟩
theorem FT.needJ {P : Program} {f : Nat} {args : List AV} {take need need' news : List NEnt} {v : AV} (is : List Nat) (hn : At need is need') (h : FT P f args take need' v news) : FT P f args take need v news :=
  fun env w0 M O R0 hst hnd => h env w0 M O R0 hst fun x hx => hnd x (hn.mem x hx)
theorem FT.at {P : Program} {f : Nat} {args : List AV} {take need news : List NEnt} {v : AV} (p q : Nat → Nat) (h : FT P f args take need v news) (hq : (news.map fun x => q x.name).Nodup) (hcl : closedN v news = true)
    (hpq : ((news.map NEnt.name).all fun n => if (take.map NEnt.name).contains n then q n == p n else !((take.map fun x => p x.name).contains (q n))) = true) :
    FT P f (AV.renL p args) (take.map (NEnt.ren p)) (need.map (NEnt.ren p)) (v.ren q) (news.map (NEnt.ren q)) := by
  classical
  intro env w0 M O R0 hst hnd;rw [AV.denL_ren];have htn : (take.map (NEnt.ren p)).map NEnt.name = take.map fun x => p x.name := by
    rw [List.map_map]; congr 1; funext x; exact NEnt.name_ren p x
  have hst' : St ⟨w0, M, R0⟩ (fun n => env (p n)) take w0 (fun n => O (p n)) R0 := hst.sub p (fun x hx => List.mem_map.2 ⟨x, hx, rfl⟩) (by rw [← htn]; exact hst.names);refine (h (fun n => env (p n)) w0 M _ R0 hst' (fun x hx => ?_)).mono ?_
  · have := hnd (x.ren p) (List.mem_map.2 ⟨x, hx, rfl⟩);rw [NEnt.holds_ren] at this;exact ⟨by have := this.1; cases x <;> first | rfl | exact this, this.2⟩
  rintro e W' ⟨u, he, env', O', R', h1, h2, hst2⟩
  have hcl' : ∀ n, (n ∈ v.ns ∨ ∃ x ∈ news, n ∈ x.ns) → ∃ x ∈ news, x.name = n := by
    intro n hn;have := List.all_eq_true.1 hcl n (by rw [List.mem_append, List.mem_flatMap]; exact hn)
    simpa [List.mem_map] using this
  have hinj := nodup_map_name hq
  let inv : Nat → Nat := fun k => if h : ∃ x ∈ news, q x.name = k then (Classical.choose h).name else k
  have hinv : ∀ x ∈ news, inv (q x.name) = x.name := by
    intro x hx;have hex : ∃ y ∈ news, q y.name = q x.name := ⟨x, hx, rfl⟩;simp only [inv, hex, dif_pos];obtain ⟨g1, g2⟩ := Classical.choose_spec hex
    cases Classical.em ((Classical.choose hex).name = x.name) with
    | inl e => exact e
    | inr e => exact absurd g2 (hinj _ g1 x hx e)
  let env2 : Env := fun k => if ∃ x ∈ news, q x.name = k then env' (inv k) else env k
  have henv2 : ∀ n, (n ∈ v.ns ∨ ∃ x ∈ news, n ∈ x.ns) → env2 (q n) = env' n := by
    intro n hn;obtain ⟨x, hx, rfl⟩ := hcl' n hn;have hex : ∃ y ∈ news, q y.name = q x.name := ⟨x, hx, rfl⟩;simp only [env2, hex, if_true, hinv x hx]
  have hpq' : ∀ x ∈ news, (x.name ∈ take.map NEnt.name → q x.name = p x.name) ∧ (x.name ∉ take.map NEnt.name → q x.name ∉ take.map fun x => p x.name) := by
    intro x hx;have := List.all_eq_true.1 hpq x.name (List.mem_map.2 ⟨x, hx, rfl⟩)
    by_cases ht : x.name ∈ take.map NEnt.name
    · simp only [List.contains_eq_mem, ht, decide_true, if_true, beq_iff_eq] at this;exact ⟨fun _ => this, fun h => absurd ht h⟩
    · simp only [List.contains_eq_mem, ht, decide_false, Bool.false_eq_true, if_false, Bool.not_eq_true', decide_eq_false_iff_not] at this;exact ⟨fun h => absurd h ht, fun _ => this⟩
  refine ⟨u, he, env2, fun k => O' (inv k), R', fun n hn => ?_, ?_, hst2.keep, fun y hy => ?_, fun y hy b hb => ?_, fun y hy z hz hne b hb => ?_, hst2.ro, hst2.r0, ?_⟩
  · by_cases hx : ∃ x ∈ news, q x.name = n
    · obtain ⟨x, hx, e⟩ := hx;have e1 : env2 n = env' x.name := by rw [← e]; exact henv2 _ (.inr ⟨x, hx, NEnt.has_ns (NEnt.has_name x)⟩)
      by_cases ht : x.name ∈ take.map NEnt.name
      · have e2 := (hpq' x hx).1 ht;rw [e1, h1 x.name fun y hy hyt e3 => hyt (e3 ▸ ht)];show env (p x.name) = env n;rw [← e2, e]
      · exact absurd e (by
          have := hn (x.ren q) (List.mem_map.2 ⟨x, hx, rfl⟩) (by rw [NEnt.name_ren, htn]; exact (hpq' x hx).2 ht);rw [NEnt.name_ren] at this; exact this)
    · simp only [env2, hx, if_false]
  · rw [h2, AV.den_ren];exact AV.den_congr v fun n hn => (henv2 n (.inl (AV.has_ns v hn))).symm
  · obtain ⟨x, hx, rfl⟩ := List.mem_map.1 hy;rw [NEnt.holds_ren, NEnt.name_ren, hinv x hx];exact NEnt.holds_congr (fun n hn => (henv2 n (.inr ⟨x, hx, NEnt.has_ns hn⟩)).symm) (hst2.holds x hx)
  · obtain ⟨x, hx, rfl⟩ := List.mem_map.1 hy;rw [NEnt.name_ren, hinv x hx] at hb;exact hst2.own x hx b hb
  · obtain ⟨x, hx, rfl⟩ := List.mem_map.1 hy;obtain ⟨x2, hx2, rfl⟩ := List.mem_map.1 hz;rw [NEnt.name_ren, hinv x hx, NEnt.name_ren, hinv x2 hx2] at hb;rw [NEnt.name_ren, NEnt.name_ren] at hne;exact hst2.apart x hx x2 hx2 (fun e => hne (by rw [e])) b hb
  · rw [List.map_map];have : (NEnt.name ∘ NEnt.ren q) = fun x => q x.name := by funext x; exact NEnt.name_ren q x
    rw [this]; exact hq
theorem atT {P : Program} {f : Nat} {args : List AV} {take need news : List NEnt} {v : AV} (p q : List (Nat × Nat)) (h : FT P f args take need v news) (hq : nodupB (news.map fun x => rnA q x.name) = true) (hcl : closedN v news = true)
    (hpq : ((news.map NEnt.name).all fun n => if (take.map NEnt.name).contains n then rnA q n == rnA p n else !((take.map fun x => rnA p x.name).contains (rnA q n))) = true) :
    FT P f (AV.renL (rnA p) args) (take.map (NEnt.ren (rnA p))) (need.map (NEnt.ren (rnA p))) (v.ren (rnA q)) (news.map (NEnt.ren (rnA q))) := FT.at (rnA p) (rnA q) h (nodup_of_B hq) hcl hpq
theorem FT.nil {P : Program} {f : Nat} {args : List AV} {take need news : List NEnt} {v : AV} (k size : Nat) (h : FT P f args take (.ro k size [] :: need) v news) (ht : hasV k take = false) (hk : hasV k need = false) (hv : v.has k = false) (hn : hasV k news = false) :
    FT P f (AV.nlL k args) take need v news := by
  intro env w0 M O R0 hst hnd;rw [AV.denL_nl];have hst' : St ⟨w0, M, R0⟩ (setEnv env k (.slice none 0 0)) take w0 O R0 := ⟨hst.keep, fun x hx => NEnt.holds_congr (fun n hn' => (setEnv_other fun e => by subst e; rw [hasV_mem ht hx] at hn'; cases hn').symm) (hst.holds x hx), hst.own, hst.apart, hst.ro, hst.r0, hst.names⟩;refine (h (setEnv env k (.slice none 0 0)) w0 M O R0 hst' (fun x hx => ?_)).mono ?_
  · rcases List.mem_cons.1 hx with rfl | hx
    · simp only [NEnt.holds, setEnv_same];exact ⟨rfl, none, 0, rfl, Nat.le_refl _, Nat.zero_le _, fun _ => rfl, by simp⟩
    · exact ⟨(hnd x hx).1, NEnt.holds_congr (fun n hn' => (setEnv_other fun e => by subst e; rw [hasV_mem hk hx] at hn'; cases hn').symm) (hnd x hx).2⟩
  rintro e W' ⟨u, he, env', O', R', h1, h2, hst2⟩
  have hc : ∀ n, n ≠ k → setEnv env' k (env k) n = env' n := fun n hne => setEnv_other (Ne.symm hne)
  refine ⟨u, he, setEnv env' k (env k), O', R', fun n hn' => ?_, ?_, hst2.keep, fun x hx => ?_, hst2.own, hst2.apart, hst2.ro, hst2.r0, hst2.names⟩
  · by_cases e : n = k
    · subst e; rw [setEnv_same]
    · rw [hc n e, h1 n hn', setEnv_other (Ne.symm e)]
  · rw [h2];exact AV.den_congr v fun n hn' => (hc n fun e => by subst e; rw [hv] at hn'; cases hn').symm
  · exact NEnt.holds_congr (fun n hn' => (hc n fun e => by subst e; rw [hasV_mem hn hx] at hn'; cases hn').symm) (hst2.holds x hx)
section
variable {P : Program} {s : List (Nat × AV)} {o : Oper}
theorem ts_call {fo : Operand} {as_ : List Operand} {avs fi ca : List AV} {ats : Array TypeId} {f : Nat} {take need news : List NEnt} {v : AV} (ho : o.op = .call { callee := .value fo, args := as_.toArray, argTypes := ats }) (hf : rho s fo = some (.fn f fi ca)) (has : as_.map (rho s) = avs.map some)
    (hc : ∀ args w, (callFunc f args).run P w = .ok (.enter f args) w) (hft : FT P f (fi ++ avs ++ ca) take need v news) (hro : need.all NEnt.isRoB = true) (hnd : nodupB (take.map NEnt.name) = true) : TSpec P o (rho s) take need v news := by
  intro ev c env V W O R hev hst ht hk hnn;have hfo := hev fo _ hf;simp only [AV.den] at hfo;have hargs := args_map hev as_ avs has;have hrun : (execOp ev o).run P W = .ok (.enter f (AV.denL env (fi ++ avs ++ ca)).toArray) W := by
    simp only [execOp, ho, resolve, hfo, Deferred.ofValue, Sem.run_bind, Sem.run_pure, Result.andThen_ok, invoke, hc, List.map_toArray, hargs, denL_append, List.append_toArray]
  rw [hrun];refine (hft.apply hst ht hk hro hnd hnn).mono ?_
  rintro e W' ⟨u, he, env', O2, R', h1, h2, h3⟩
  exact ⟨u, he, env', O2, R', h1, h2, h3⟩
end
def freshT (tn : List Nat) (news : List NEnt) (s : List (Nat × AV)) (V : List NEnt) : Bool := news.all fun x => tn.contains x.name || (!hasS x.name s && !hasV x.name V)
section
variable {P : Program} {c : Ctx} {sz : Fm} {Q : Exit → Act → World → Prop} {t : List Item} {s : List (Nat × AV)} {V V' : List NEnt} {ops : Array Oper} {rest : List Oper} {o : Oper}
theorem opT {take need : List NEnt} {v : AV} {news : List NEnt} (is js : List Nat) (hs : TSpec P o (rho s) take need v news) (hw : Wanted ops s o) (hlt : (match o.dst with | some d => Nat.blt d sz.sz | none => true) = true) (ht : At V is take) (hn : At V js need)
    (hf : freshT (take.map NEnt.name) news s V = true) (hV : news ++ delV (take.map NEnt.name) V = V') (k : TL P c sz Q ops rest t (putS o v s) V') : TL P c sz Q ops (o :: rest) t s V := by
  subst hV;intro env tm W O R hfr hst;have hf' : ∀ x ∈ news, x.name ∈ take.map NEnt.name ∨ (hasS x.name s = false ∧ hasV x.name V = false) := by
    intro x hx;have := List.all_eq_true.1 hf x hx
    simpa using this
  unfold wpListIn;rw [if_pos (wanted_of hfr hw)];refine ((hs _ c env V W O R (fun x a hx => rho_eval hfr hx) hst ht.mem hn.mem (fun y hy => (hf' y hy).imp id And.right)).inn ?_)
  rintro u W' ⟨env', O', R', he, rfl, hg⟩
  have hfr' : Fr env' sz.sz s tm := hfr.congr fun n hn => (he n fun y hy hyt e => by
    rcases hf' y hy with h | h
    · exact hyt h
    · subst e; rw [h.1] at hn; cases hn).symm
  unfold putS at k
  cases hd : o.dst with
  | none =>
    rw [hd] at k;exact k env' tm W' O' R' hfr' hg
  | some d =>
    rw [hd] at k hlt;exact k env' _ W' O' R' (hfr'.put (by simpa [Nat.blt_eq] using hlt)) hg
theorem TC.pin (g n : Nat) (hf : (!hasS g s && !hasV g V) = true) (hg : Nat.beq g n = false) (h : ∀ u, TC P c sz Q t s (.pin g n u :: V)) : TC P c sz Q t s V := by
  simp only [Bool.and_eq_true, Bool.not_eq_true'] at hf;intro env tm W O R hfr hst;have hgn : g ≠ n := fun e => by subst e; rw [Nat.beq_refl] at hg; cases hg
  have hst' := hst.addRo (x := .pin g n (env n)) (v := .bool false) hf.2 fun O => by
    simp only [NEnt.holds, NEnt.name, setEnv_other hgn]
  exact h (env n) _ tm W _ R (hfr.congr fun m hm => (setEnv_other fun e => by subst e; simp only [NEnt.name] at hm; rw [hf.1] at hm; cases hm).symm) hst'
def MarksOk (W : World) (O : Nat → Prop) : List Deferred → Prop
  | [] => True
  | d :: ds => (∃ D, d = { target := .collected D, args := #[] } ∧ O D ∧ W.heap[D]? = some (.deferred (some [])) ∧ ∀ d' ∈ ds, d' ≠ d) ∧ MarksOk W O ds
theorem MarksOk.keep {W W' : World} {O O' : Nat → Prop} : ∀ {ds : List Deferred}, MarksOk W O ds → (∀ b, O b → O' b ∧ ((∃ d ∈ ds, d.target = .collected b) → W'.heap[b]? = W.heap[b]?)) → MarksOk W' O' ds := by
  intro ds
  induction ds with
  | nil => intro _ _; trivial
  | cons d ds ih =>
    rintro ⟨⟨D, rfl, h2, h3, h4⟩, h5⟩ hO
    exact ⟨⟨D, rfl, (hO D h2).1, ((hO D h2).2 ⟨{ target := .collected D, args := #[] }, by simp, rfl⟩).trans h3, h4⟩, ih h5 fun b hb => ⟨(hO b hb).1, fun ⟨d, hd, e⟩ => (hO b hb).2 ⟨d, by simp [hd], e⟩⟩⟩
def marksI (ds : List Deferred) : Inv := ⟨fun W O _ _ => MarksOk W O ds, fun W W' O R R' hO _ v h => MarksOk.keep h fun b hb => ⟨hb, fun _ => hO b hb⟩⟩
theorem leaves_marks {fn : Func} {tmps : Array Value} {R : Ending → World → Prop} {O : Nat → Prop} : ∀ (ds : List Deferred) (w : World), MarksOk w O ds → (∀ w', Keep O w w' → ∃ v, (results fn tmps).run P w' = .ok v w' ∧ R (.returned v) w') →
    LeavesInM Fence.wide 0 P fn tmps R ds .returning w := by
  intro ds
  induction ds with
  | nil => intro w _ h; exact h w (Keep.refl _ _)
  | cons d ds ih =>
    rintro w ⟨⟨D, rfl, h2, h3, h4⟩, h5⟩ h
    have hk : Keep O w (w.putObj D (.deferred none)) := ⟨rfl, rfl, rfl, by simp, fun k hk hn => World.putObj_heap_other (fun e => hn (by rw [e]; exact h2))⟩;refine ⟨by simp, .inl ⟨D, _, rfl, run_takeDeferred h3, ih _ ?_ fun w' hk' => h w' (hk.trans hk' fun _ _ h => h)⟩⟩;refine MarksOk.keep h5 fun b hb => ⟨hb, fun ⟨d, hd, e⟩ => World.putObj_heap_other fun e2 => ?_⟩
    subst e2;have key : ∀ ds : List Deferred, MarksOk w O ds → ∀ d ∈ ds, d.target = .collected b → d = { target := .collected b, args := #[] } := by
      intro ds
      induction ds with
      | nil => intro _ d hd; cases hd
      | cons x l ihl =>
        rintro ⟨⟨D', rfl, _⟩, hl⟩ d hd e
        rcases List.mem_cons.1 hd with rfl | hd
        · simp only [Target.collected.injEq] at e; rw [e]
        · exact ihl hl d hd e
    exact h4 d hd (key ds h5 d hd e)
def trivI : Inv := ⟨fun _ _ _ _ => True, fun _ _ _ _ _ _ _ _ _ => trivial⟩
def PinsOk (p : Nat → Nat) (env0 : Env) (V : List NEnt) : List Nat → Prop
  | [] => True
  | n :: l => (∃ g, NEnt.pin g (p n) (env0 n) ∈ V) ∧ PinsOk p env0 V l
theorem PinsOk.at {p : Nat → Nat} {env0 : Env} {V : List NEnt} : ∀ {l : List Nat}, PinsOk p env0 V l → ∀ n ∈ l, ∃ g, NEnt.pin g (p n) (env0 n) ∈ V := by
  intro l
  induction l with
  | nil => intro _ n hn; cases hn
  | cons m l ih =>
    rintro ⟨h1, h2⟩ n hn
    rcases List.mem_cons.1 hn with rfl | hn
    · exact h1
    · exact ih h2 n hn
theorem PostT.mk {env0 env : Env} {W : World} {O : Nat → Nat → Prop} {R : Nat → Prop} {tn ns : List Nat} (hst : St c env V W O R) (p : Nat → Nat) {v rv : AV} {news : List NEnt} (hv : v.ren p = rv) (hV : SubV p V news) (hn : (news.map fun x => p x.name).Nodup) (hcl : closedN v news = true)
    (hp : PinsOk p env0 V ns) (hns : ((news.map NEnt.name).all fun n => !tn.contains n || ns.contains n) = true) : PostT c env0 tn v news (.returned (rv.den env)) W := by
  classical
  have hcl' : ∀ n, (n ∈ v.ns ∨ ∃ x ∈ news, n ∈ x.ns) → ∃ x ∈ news, x.name = n := by
    intro n hn;have := List.all_eq_true.1 hcl n (by rw [List.mem_append, List.mem_flatMap]; exact hn)
    simpa [List.mem_map] using this
  refine ⟨_, rfl, fun n => if ∃ x ∈ news, x.name = n then env (p n) else env0 n, fun n => O (p n), R, fun n hn => ?_, ?_, ?_⟩
  · by_cases hx : ∃ x ∈ news, x.name = n
    · simp only [hx, if_true];obtain ⟨x, hx, e⟩ := hx
      by_cases ht : x.name ∈ tn
      · have h1 := List.all_eq_true.1 hns x.name (List.mem_map.2 ⟨x, hx, rfl⟩);simp only [Bool.or_eq_true, Bool.not_eq_true', List.contains_eq_mem, decide_eq_true_eq, decide_eq_false_iff_not, ht, not_true, false_or] at h1;obtain ⟨g, hg⟩ := hp.at _ h1;have := hst.holds _ hg;simp only [NEnt.holds] at this;rw [← e]; exact this
      · exact absurd e (hn x hx ht)
    · exact if_neg hx
  · subst hv;rw [AV.den_ren];exact AV.den_congr v fun n hn => by rw [if_pos (hcl' n (.inl (AV.has_ns v hn)))]
  · have h2 := hst.sub p hV.mem hn;exact ⟨h2.keep, fun x hx => NEnt.holds_congr (fun n hn => by rw [if_pos (hcl' n (.inr ⟨x, hx, NEnt.has_ns hn⟩))]) (h2.holds x hx), h2.own, h2.apart, h2.ro, h2.r0, h2.names⟩
end
section
variable {P : Program} {c : Ctx} {nz : Nat} {df : List Deferred} {fn : Func} {t : List Item} {s : List (Nat × AV)} {V : List NEnt}
theorem leave_core {env0 : Env} {tn : List Nat} (p : List (Nat × Nat)) (k gm : Nat) (ns : List Nat) {v : AV} {news : List NEnt} {m : List AV} (hk : V[k]? = some (.inv gm (marksI df))) (hr : ResL P s (V.eraseIdx k) fn.results.toList m) (hv : v.ren (rnA p) = resAV m) (hV : SubV (rnA p) (V.eraseIdx k) news)
    (hn : nodupB (news.map fun x => rnA p x.name) = true) (hcl : closedN v news = true) (hp : PinsOk (rnA p) env0 (V.eraseIdx k) ns) (hns : ((news.map NEnt.name).all fun n => !tn.contains n || ns.contains n) = true)
    {env : Env} {tm : Array Value} {W : World} {O : Nat → Nat → Prop} {R : Nat → Prop} (hf : Fr env nz s tm) (hst : St c env V W O R) : LeavesInM Fence.wide 0 P fn tm (PostT c env0 tn v news) df .returning W := by
  have hm : NEnt.inv gm (marksI df) ∈ V := List.mem_of_getElem? hk;refine leaves_marks df W (hst.holds _ hm) fun w' hkp => ?_
  have hst2 := hst.write k (y := .inv gm trivI) hk hkp rfl trivial;have hst3 : St c env (V.eraseIdx k) w' O R := hst2.sub (V' := V.eraseIdx k) id (fun x hx => by
    rw [NEnt.ren_id];obtain ⟨h1, h2⟩ := mem_erase_cases hst.names hk hx;obtain ⟨i, hi⟩ := List.mem_iff_getElem?.1 h1;refine List.mem_iff_getElem?.2 ⟨i, ?_⟩;rw [List.getElem?_set_ne]
    · exact hi
    · intro e; subst e; rw [hk] at hi; cases hi; exact h2 rfl) (by
    simp only [id]; exact hst.names.sublist ((List.eraseIdx_sublist V k).map NEnt.name))
  refine ⟨(resAV m).den env, ?_, PostT.mk hst3 (rnA p) hv hV (nodup_of_B hn) hcl hp hns⟩;have h := results_run hr hf hst3;simp only [results_eq, Array.mapM_eq_mapM_toList, Sem.run_bind, Sem.run_map, h, Result.andThen_ok]
  cases m with
  | nil => rfl
  | cons a m => cases m with
    | nil => rfl
    | cons b m => rfl
theorem retM {env0 : Env} {tn : List Nat} (p : List (Nat × Nat)) (k gm : Nat) (ns : List Nat) {v : AV} {news : List NEnt} {m : List AV} (hk : V[k]? = some (.inv gm (marksI df))) (hr : ResL P s (V.eraseIdx k) fn.results.toList m) (hv : v.ren (rnA p) = resAV m) (hV : SubV (rnA p) (V.eraseIdx k) news)
    (hn : nodupB (news.map fun x => rnA p x.name) = true) (hcl : closedN v news = true) (hp : PinsOk (rnA p) env0 (V.eraseIdx k) ns) (hns : ((news.map NEnt.name).all fun n => !tn.contains n || ns.contains n) = true) :
    TC P c ⟨nz, none, df⟩ (bodyPostM Fence.wide 0 P fn (PostT c env0 tn v news)) (.code .ret :: t) s V :=
  fun env tm W O R hf hst => Gw.ret (leave_core p k gm ns hk hr hv hV hn hcl hp hns hf hst)
theorem endM {env0 : Env} {tn : List Nat} (p : List (Nat × Nat)) (k gm : Nat) (ns : List Nat) {v : AV} {news : List NEnt} {m : List AV} (hk : V[k]? = some (.inv gm (marksI df))) (hr : ResL P s (V.eraseIdx k) fn.results.toList m) (hv : v.ren (rnA p) = resAV m) (hV : SubV (rnA p) (V.eraseIdx k) news)
    (hn : nodupB (news.map fun x => rnA p x.name) = true) (hcl : closedN v news = true) (hp : PinsOk (rnA p) env0 (V.eraseIdx k) ns) (hns : ((news.map NEnt.name).all fun n => !tn.contains n || ns.contains n) = true) :
    TC P c ⟨nz, none, df⟩ (bodyPostM Fence.wide 0 P fn (PostT c env0 tn v news)) [] s V :=
  fun env tm W O R hf hst => Gw.nil (leave_core p k gm ns hk hr hv hV hn hcl hp hns hf hst)
def pinsOf (env0 : Env) (ps : List (Nat × Nat)) : List NEnt := ps.map fun q => .pin q.1 q.2 (env0 q.2)
theorem introM {f : Nat} {body : Code} {args : List AV} {take need news : List NEnt} {v : AV} (gm : Nat) (ps : List (Nat × Nat)) (hf : P.funcs[f]? = some fn) (hb : fn.body = some body) (hsz : args.length + (fn.ntmps - args.length) = nz) (hnd : nodupB (gm :: ps.map Prod.fst ++ (take ++ need).map NEnt.name) = true)
    (hg : ((gm :: ps.map Prod.fst).all fun n => !AV.hasL n args && !hasV n (take ++ need) && !(ps.map Prod.snd).contains n) = true)
    (h : ∀ (w0 : World) (M R0 : Nat → Prop) (env0 : Env), TC P ⟨w0, M, R0⟩ ⟨nz, none, []⟩ (bodyPostM Fence.wide 0 P fn (PostT ⟨w0, M, R0⟩ env0 (take.map NEnt.name) v news)) [.code body] (args.zipIdx.map fun p => (p.2, p.1)) (.inv gm (marksI []) :: pinsOf env0 ps ++ (take ++ need))) : FT P f args take need v news := by
  intro env w0 M O' R0 hst0 hneed;have hndT : ((take ++ need).map NEnt.name).Nodup := by
    have h1 := nodup_of_B hnd;exact (List.nodup_append.1 h1).2.1
  have hdis : ∀ x ∈ need, x.name ∉ take.map NEnt.name := fun x hx hm => by
    rw [List.map_append, List.nodup_append] at hndT;exact hndT.2.2 _ hm _ (List.mem_map.2 ⟨x, hx, rfl⟩) rfl
  obtain ⟨O, hO⟩ : ∃ O : Nat → Nat → Prop, O = fun n b => n ∈ take.map NEnt.name ∧ O' n b := ⟨_, rfl⟩
  have hst : St ⟨w0, M, R0⟩ env (take ++ need) w0 O R0 := by
    refine ⟨hst0.keep, fun x hx => ?_, fun x hx b hb => ?_, fun x hx y hy hne b hb => ?_, hst0.ro, hst0.r0, hndT⟩
    · rcases List.mem_append.1 hx with hx' | hx'
      · have e : O x.name = O' x.name := by
          funext b; rw [hO]; simp only [eq_iff_iff, and_iff_right_iff_imp]; exact fun _ => List.mem_map.2 ⟨x, hx', rfl⟩
        rw [e]; exact hst0.holds x hx'
      · exact ro_holds (hneed x hx').1 (hneed x hx').2 _
    · rw [hO] at hb;rcases List.mem_append.1 hx with hx' | hx'
      · exact hst0.own x hx' b hb.2
      · exact absurd hb.1 (hdis x hx')
    · rw [hO] at hb;rcases List.mem_append.1 hx with hx' | hx'
      · rcases List.mem_append.1 hy with hy' | hy'
        · exact hst0.apart x hx' y hy' hne b ⟨hb.1.2, hb.2.2⟩
        · exact absurd hb.2.1 (hdis y hy')
      · exact absurd hb.1.1 (hdis x hx')
  refine callsIn_wide.1 (callsIn_of_wp_marks (n := 0) hf hb trivial (Gw.wpIn (ro := none) ?_));have hgs : ∀ n ∈ gm :: ps.map Prod.fst, AV.hasL n args = false ∧ hasV n (take ++ need) = false ∧ n ∉ ps.map Prod.snd := by
    intro n hn;have := List.all_eq_true.1 hg n hn
    simpa [and_assoc] using this
  have hnd' := nodup_of_B hnd;have hx : ∀ x ∈ NEnt.inv gm (marksI []) :: pinsOf env ps, x.name ∈ gm :: ps.map Prod.fst := by
    intro x hx;rcases List.mem_cons.1 hx with rfl | hx
    · simp [NEnt.name]
    · obtain ⟨q, hq, rfl⟩ := List.mem_map.1 hx;simp only [NEnt.name, List.mem_cons, List.mem_map]; exact .inr ⟨q, hq, rfl⟩
  have hno : ∀ x ∈ NEnt.inv gm (marksI []) :: pinsOf env ps, ∀ y ∈ take ++ need, x.name ≠ y.name := by
    intro x hxm y hy e;have := (hgs x.name (hx x hxm)).2.1;rw [e, mem_has hy (NEnt.has_name y)] at this; cases this
  refine h w0 M R0 env env _ w0 (fun n b => n ∉ (gm :: ps.map Prod.fst) ∧ O n b) R0 ⟨by simp [denL_length, ← hsz], fun t a ha => ?_⟩ ⟨Keep.refl _ _, fun x hxm => ?_, fun x hxm b hb => ?_, fun x hxm y hym hne b hb => ?_, hst.ro, hst.r0, ?_⟩
  · have key : ∀ (l : List AV) (k : Nat), look ((l.zipIdx k).map fun p => (p.2, p.1)) t = some a → k ≤ t ∧ l[t - k]? = some a := by
      intro l
      induction l with
      | nil => intro k h; cases h
      | cons b l ih =>
        intro k h;simp only [List.zipIdx_cons, List.map_cons, look] at h
        split at h
        · rename_i e; subst e; cases h; simp
        · obtain ⟨h1, h2⟩ := ih (k + 1) h;refine ⟨by omega, ?_⟩;rw [show t - k = (t - (k + 1)) + 1 by omega]
          simpa using h2
    obtain ⟨_, hk⟩ := key args 0 ha;have := denL_get (e := env) hk;simp only [Nat.sub_zero] at this;rw [Array.getElem?_append_left (by simpa using (List.getElem?_eq_some_iff.1 this).1)]
    simpa using this
  · rcases List.mem_append.1 hxm with hxm | hxm
    · rcases List.mem_cons.1 hxm with rfl | hxm
      · trivial
      · obtain ⟨q, _, rfl⟩ := List.mem_map.1 hxm; rfl
    · have e : (fun b => x.name ∉ (gm :: ps.map Prod.fst) ∧ O x.name b) = O x.name := by
        funext b; simp only [eq_iff_iff, and_iff_right_iff_imp]; intro _ hm
        have := (hgs x.name hm).2.1;rw [mem_has hxm (NEnt.has_name x)] at this; cases this
      rw [e]; exact hst.holds x hxm
  · rcases List.mem_append.1 hxm with hxm | hxm
    · exact absurd (hx x hxm) hb.1
    · exact hst.own x hxm b hb.2
  · rcases List.mem_append.1 hxm with hxm | hxm
    · exact absurd (hx x hxm) hb.1.1
    · rcases List.mem_append.1 hym with hym | hym
      · exact absurd (hx y hym) hb.2.1
      · exact hst.apart x hxm y hym hne b ⟨hb.1.2, hb.2.2⟩
  · have e : (NEnt.inv gm (marksI []) :: pinsOf env ps ++ (take ++ need)).map NEnt.name = gm :: ps.map Prod.fst ++ (take ++ need).map NEnt.name := by
      simp [pinsOf, NEnt.name, Function.comp_def]
    rw [e]; exact hnd'
end
theorem FT.toFC {P : Program} {f : Nat} {args : List AV} {need news : List NEnt} {v : AV} (h : FT P f args [] need v news) (hro : need.all NEnt.isRoB = true) : FC P f args need v news := by
  intro env w0 R0 hn hR;refine (h env w0 (fun _ => False) (fun _ _ => False) R0 (St.refl0 w0 _ R0 env hR) fun x hx => ⟨List.all_eq_true.1 hro x hx, hn x hx⟩).mono ?_
  rintro e W' ⟨u, he, env', O', R', h1, h2, h3⟩
  exact ⟨u, he, env', O', R', fun n hn => h1 n fun y hy _ => hn y hy, h2, h3⟩
end Go.Proofs.Ythgbjhglhejalaa.Sy
end
section
set_option linter.unusedSimpArgs false
set_option linter.unusedVariables false
namespace Go.Proofs.Ythgbjhglhejalaa.Sy
open Go.RowKit
structure Yields (P : Program) {X σ : Type} (ea : X → List AV) (en : X → List NEnt) (step : X → σ → Option (Bool × σ)) (I : σ → Inv) : Prop where
  isFn : ∀ s W O R v, (I s).ok W O R v → oneOf v = v ∧ ∃ g a b, v = .func g a b ∧ ∀ m, g ≠ .method m
  call : ∀ x s c s', step x s = some (c, s') → ∀ (o : Oper) (ev : Operand → Value) (fo : Operand) (as_ : List Operand) (ats : Array TypeId), o.op = .call { callee := .value fo, args := as_.toArray, argTypes := ats } →
    ∀ (env : Env) (W : World) (O R : Nat → Prop), as_.map ev = AV.denL env (ea x) → (∀ y ∈ en x, y.holds env W (fun _ => False) R) → (I s).ok W O R (ev fo) → (∀ b, O b → b < W.heap.size ∧ ¬ R b) → (∀ b, R b → b < W.heap.size) →
    Does P ((execOp ev o).run P W) fun u W' => u = .bool c ∧ ∃ O' R' : Nat → Prop, Keep O W W' ∧ (I s').ok W' O' R' (ev fo) ∧ (∀ b, O' b → b < W'.heap.size ∧ (W.heap.size ≤ b ∨ O b) ∧ ¬ R' b) ∧ (∀ b, R' b → b < W'.heap.size ∧ (W.heap.size ≤ b ∨ R b ∨ O b)) ∧ (∀ b, R b → R' b)
theorem ts_yield {P : Program} {s : List (Nat × AV)} {o : Oper} {X σ : Type} {ea : X → List AV} {en : X → List NEnt} {step : X → σ → Option (Bool × σ)} {I : σ → Inv} (hI : Yields P ea en step I) {x : X} {y y' : σ} {b : Bool} (p : List (Nat × Nat)) {fo : Operand} {as_ : List Operand} {avs : List AV} {ats : Array TypeId} {k : Nat} {need : List NEnt}
    (h : step x y = some (b, y')) (ho : o.op = .call { callee := .value fo, args := as_.toArray, argTypes := ats }) (hf : rho s fo = some (.ref k)) (has : as_.map (rho s) = avs.map some) (ha : avs = AV.renL (rnA p) (ea x)) (hn : need = (en x).map (NEnt.ren (rnA p))) (hro : need.all NEnt.isRoB = true) :
    TSpec P o (rho s) [.inv k (I y)] need (.val (.bool b)) [.inv k (I y')] := by
  subst ha; subst hn;intro ev c env V W O R hev hst ht hk _;have hk1 := ht _ (List.mem_singleton.2 rfl);have hok := hst.holds _ hk1;simp only [NEnt.holds, NEnt.name] at hok;have hone := (hI.isFn _ _ _ _ _ hok).1;have hfo : ev fo = env k := by rw [hev fo _ hf]; exact hone
  have hargs := args_map hev as_ _ has;rw [AV.denL_ren] at hargs;rw [← hfo] at hok;refine (hI.call x y b y' h o ev fo as_ ats ho (fun n => env (rnA p n)) W (O k) R hargs (fun z hz => ?_) hok (fun q hq => ⟨(hst.own _ hk1 q hq).1, (hst.own _ hk1 q hq).2.2⟩) (fun q hq => (hst.ro q hq).1)).mono ?_
  · have hz' : z.ren (rnA p) ∈ (en x).map (NEnt.ren (rnA p)) := List.mem_map.2 ⟨z, hz, rfl⟩;have := ro_holds (List.all_eq_true.1 hro _ hz') (hst.holds _ (hk _ hz')) (fun _ => False);rw [NEnt.holds_ren] at this; exact this
  rintro u W' ⟨rfl, O', R', h1, h2, h3, h4, h5⟩
  have hg : St ⟨W, O k, R⟩ env [.inv k (I y')] W' (fun _ => O') R' := by
    refine ⟨h1, fun z hz => ?_, fun z hz q hq => ?_, fun z hz z2 hz2 hne => ?_, h4, h5, by simp⟩
    · rw [List.mem_singleton] at hz; subst hz;simp only [NEnt.holds]; rw [← hfo]; exact h2
    · exact h3 q hq
    · rw [List.mem_singleton] at hz hz2; subst hz; subst hz2; exact absurd rfl hne
  obtain ⟨O2, h6⟩ := hst.over (take := [.inv k (I y)]) (fun z hz => by rw [List.mem_singleton] at hz; subst hz; exact hk1) (fun q hq => ⟨_, List.mem_singleton.2 rfl, hq⟩) hg (fun _ _ => rfl) (fun z hz => by rw [List.mem_singleton] at hz; subst hz; exact .inl (by simp [NEnt.name]));exact ⟨env, O2, R', fun _ _ => rfl, rfl, h6⟩
def loopStep {X σ : Type} (f : X → σ → Option (Nat × σ)) (x : X) (y : σ × Nat) : Option (Bool × (σ × Nat)) :=
  if y.2 = 0 then (f x y.1).bind fun r => some (r.1 == 0, (r.2, r.1)) else none
def jmp (jl : List Code) (j : Nat) : Option Code := if j = 0 then none else some (jl.getD (j - 1) .ret)
theorem jmp_isNone (jl : List Code) (j : Nat) : (jmp jl j).isNone = (j == 0) := by
  unfold jmp; by_cases h : j = 0 <;> simp [h]
def recI (l : Nat) (r : Loop) : Inv := ⟨fun W O _ _ => O l ∧ W.heap[l]? = some (.loop r), fun W W' O R R' hO _ v h => ⟨h.1, (hO l h.1).trans h.2⟩⟩
def busyR (r : Loop) : Loop := { r with state := .busy }
def mkRec (fn : FuncId) (tm : Array Value) (ps : Array Tmp) (assign body : Code) (D : Nat) (st : LoopState) (pe : Option Code) : Loop := { state := st, pending := pe, fn, tmps := tm, params := ps, assign, body, defers := D }
def loopI {σ : Type} (sz : Nat) (S : List (Nat × AV)) (tm : Array Value) (V : σ → List NEnt) (jl : List Code) (mk : LoopState → Option Code → Loop) (l : Nat) (y : σ × Nat) : Inv where
  ok W O R v := v = .func (.yield l) #[] #[] ∧ O l ∧ W.heap[l]? = some (.loop (mk (if y.2 = 0 then .ready else .done) (jmp jl y.2))) ∧ ∃ (env : Env) (O' : Nat → Nat → Prop), Fr env sz S tm ∧ (∀ x ∈ V y.1, x.holds env W (O' x.name) R) ∧
    (∀ x ∈ V y.1, ∀ b, O' x.name b → O b ∧ b ≠ l) ∧ (∀ x ∈ V y.1, ∀ z ∈ V y.1, x.name ≠ z.name → ∀ b, ¬ (O' x.name b ∧ O' z.name b))
  keep W W' O R R' hO hR v h := by
    obtain ⟨h1, h2, h3, env, O', h4, h5, h6, h7⟩ := h;exact ⟨h1, h2, (hO l h2).trans h3, env, O', h4, fun x hx => NEnt.holds_keep (fun b hb => hO b (h6 x hx b hb).1) hR (h5 x hx), h6, h7⟩
def exitCode : Exit → Option (Option Code)
  | .normal => some none
  | .ret => some (some .ret)
  | .exit id => some (some (.exit id))
  | _ => none
def RoundQ (c : Ctx) (V' : List NEnt) (jl : List Code) (j : Nat) (e : Exit) (_ : Act) (w : World) : Prop :=
  exitCode e = some (jmp jl j) ∧ ∃ env O' R', St c env V' w O' R'
section
variable {P : Program} {c : Ctx} {n : Nat} {ro : Option Nat} {df : List Deferred} {t : List Item} {s : List (Nat × AV)} {V V' : List NEnt} {jl : List Code}
theorem St.subV {env : Env} {W : World} {O : Nat → Nat → Prop} {R : Nat → Prop} (hst : St c env V W O R) (p : List (Nat × Nat)) (hV : SubV (rnA p) V V') (hn : nodupB (V'.map fun x => rnA p x.name) = true) : ∃ env O' R', St c env V' W O' R' :=
  ⟨_, _, _, hst.sub (rnA p) hV.mem (nodup_of_B hn)⟩
theorem bodyEnd (p : List (Nat × Nat)) (hV : SubV (rnA p) V V') (hn : nodupB (V'.map fun x => rnA p x.name) = true) : TC P c ⟨n, ro, df⟩ (RoundQ c V' jl 0) [] s V :=
  fun env tm W O R hf hst => Gw.nil ⟨rfl, hst.subV p hV hn⟩
theorem bodyRet {j : Nat} (hj : jmp jl j = some .ret) (p : List (Nat × Nat)) (hV : SubV (rnA p) V V') (hn : nodupB (V'.map fun x => rnA p x.name) = true) : TC P c ⟨n, ro, df⟩ (RoundQ c V' jl j) (.code .ret :: t) s V :=
  fun env tm W O R hf hst => Gw.ret ⟨by rw [hj]; rfl, hst.subV p hV hn⟩
end
section
variable {P : Program} {c : Ctx} {n : Nat} {ro : Option Nat} {df : List Deferred} {t : List Item} {s : List (Nat × AV)} {V V' : List NEnt} {Q : Exit → Act → World → Prop}
theorem Gw.mono {Q' : Exit → Act → World → Prop} {a : Act} {w : World} (h : Gw P ro t Q a w) (hq : ∀ e a w, Q e a w → Q' e a w) : Gw P ro t Q' a w := fun b k cs hb => by
  obtain ⟨e, a', w', h1, h2⟩ := h b k cs hb;exact ⟨e, a', w', hq _ _ _ h1, h2⟩
theorem Gw.beginRound {l : Nat} {a : Act} {w w' : World} (h : (Instr.beginRound l).run P w = .ok () w') (k : Gw P (some l) t Q a w') : Gw P (some l) (.beginRound :: t) Q a w := by
  intro b k0 cs hb;obtain ⟨e, a', w1, hq, ha⟩ := k b k0 cs hb;exact ⟨e, a', w1, hq, .of_steps (.one (fw_calm rfl) (stepR_beginRound hb h)) ha⟩
theorem TC.beginRound {l g : Nat} {rec : Loop} (k : Nat) (hk : V[k]? = some (.inv g (recI l rec))) (hr : rec.state = .ready) (h : TC P c ⟨n, some l, df⟩ Q t s (V.set k (.inv g (recI l (busyR rec))))) : TC P c ⟨n, some l, df⟩ Q (.beginRound :: t) s V := by
  intro env tm W O R hf hst;obtain ⟨h1, h2⟩ : O g l ∧ W.heap[l]? = some (.loop rec) := hst.holds _ (List.mem_of_getElem? hk);refine Gw.beginRound (run_beginRound h2 hr) (h env tm _ O R hf ?_)
  refine hst.write k hk ⟨rfl, rfl, rfl, by simp, fun b _ hb => World.putObj_heap_other fun e => hb (e ▸ h1)⟩ rfl ⟨h1, ?_⟩;exact World.putObj_heap_same (Array.getElem?_eq_some_iff.1 h2).1
theorem roundIn_of_gw {l : Nat} {f : FuncId} {tmps : Array Value} {assign body : Code} {w : World} {R : Ending → World → Prop} (h : Gw P (some l) [.code assign, .beginRound, .code body] (roundPost P l R) ⟨tmps, []⟩ w) : RoundIn Fence.wide 0 P l f tmps assign body w R := by
  refine ⟨trivial, fun c cs hr => ?_⟩
  let b : Frame := { (default : Frame) with fn := f, kind := .normal, roundOf := some l }
  have hb0 : Frame.round l f tmps assign body .normal = b.atR { tmps := tmps, defers := [] } [.code assign, .beginRound, .code body] := by
    simp [Frame.round, Frame.atR, b]
  have hr' : (Fence.wide.inRound l).room ((c :: cs).length + 1 + 0) := hr;have hF' : (Fence.wide.inRound l).fn b.fn := trivial;rw [hb0];obtain ⟨e₂, a₂, w₃, hq₂, harr₂⟩ := h b [] (c :: cs) rfl;simp only [List.append_nil] at harr₂
  cases e₂ with
  | normal =>
    obtain ⟨v, w₄, hend, hR⟩ := hq₂;exact ⟨.returned v, w₄, hR, StepsIn.trans harr₂ (.one (fenced_calm (fr := b.atR a₂ []) hF' hr' rfl) (stepR_round_end rfl rfl hend))⟩
  | ret =>
    obtain ⟨v, w₄, hend, hR⟩ := hq₂;obtain ⟨k₁, hs⟩ := harr₂.2 rfl;exact ⟨.returned v, w₄, hR, StepsIn.trans hs (.one (fenced_calm (fr := b.atR a₂ (.code .ret :: k₁)) hF' hr' rfl) (stepR_round_ret rfl rfl hend))⟩
  | exit id =>
    obtain ⟨v, w₄, hend, hR⟩ := hq₂;obtain ⟨k₁, hk, hs⟩ := harr₂.2 rfl rfl;exact ⟨.returned v, w₄, hR, StepsIn.trans hs (.one (fenced_calm (fr := b.atR a₂ (.code (.exit id) :: k₁)) hF' hr' rfl) (stepR_round_exit rfl rfl hk hend))⟩
  | goto t =>
    obtain ⟨v, w₄, hend, hR⟩ := hq₂;obtain ⟨k₁, hk, hs⟩ := harr₂.2 rfl rfl;exact ⟨.returned v, w₄, hR, StepsIn.trans hs (.one (fenced_calm (fr := b.atR a₂ (.code (.goto t) :: k₁)) hF' hr' rfl) (stepR_round_goto rfl rfl hk hend))⟩
  | panic chain => exact hq₂.elim
  | outgrown => exact hq₂.elim
end
def pSlots : List Nat → List AV → List (Nat × AV) → List (Nat × AV)
  | p :: ps, a :: as_, s => pSlots ps as_ ((p, a) :: s)
  | _, _, s => s
theorem pSlots_fr {env : Env} {n : Nat} : ∀ (ps : List Nat) (as_ : List AV) (s : List (Nat × AV)) (tm : Array Value), Fr env n s tm → (ps.all fun p => Nat.blt p n) = true → ps.length = as_.length →
    Fr env n (pSlots ps as_ s) ((ps.zip (AV.denL env as_)).foldl (fun t (q : Nat × Value) => t.setIfInBounds q.1 q.2) tm) := by
  intro ps
  induction ps with
  | nil => intro as_ s tm h _ hl; cases as_ <;> first | exact h | cases hl
  | cons p ps ih =>
    intro as_ s tm h hp hl
    cases as_ with
    | nil => cases hl
    | cons a as_ =>
      simp only [List.all_cons, Bool.and_eq_true] at hp;simp only [pSlots, AV.denL, List.zip_cons_cons, List.foldl_cons];exact ih as_ _ _ (h.put (by simpa [Nat.blt_eq] using hp.1)) hp.2 (by simpa using hl)
def PinsIn {σ : Type} (V : σ → List NEnt) (S : List (Nat × AV)) : Prop := ∀ n, hasS n S = true → ∃ g u, ∀ y, NEnt.pin g n u ∈ V y
section
variable {P : Program} {X σ : Type} {n : Nat} {S : List (Nat × AV)} {tm : Array Value} {V : σ → List NEnt} {jl : List Code} {fn : FuncId} {ps : List Nat} {assign body : Code} {D l : Nat} {ea : X → List AV} {en : X → List NEnt} {f : X → σ → Option (Nat × σ)}
theorem loop_yields (grec : Nat) (hpin : PinsIn V S) (hps : (ps.all fun p => Nat.blt p n) = true) (hlen : ∀ x, ps.length = (ea x).length) (hnd : ∀ x y, nodupB (grec :: (en x).map NEnt.name ++ (V y).map NEnt.name) = true)
    (hfr : ∀ x y, ((grec :: (en x).map NEnt.name).all fun k => !hasS k S && !hasV k (V y)) = true) (hcl : ∀ x, closedN (.tup (ea x)) (en x) = true) (hroE : ∀ x, (en x).all NEnt.isRoB = true) (hgE : ∀ x, (!hasV grec (en x)) = true)
    (hbody : ∀ x y r, f x y = some r → ∀ (rec : Loop) (hrd : rec.state = .ready) (w0 : World) (M R0 : Nat → Prop), TC P ⟨w0, M, R0⟩ ⟨n, some l, []⟩ (RoundQ ⟨w0, M, R0⟩ (.inv grec (recI l (busyR rec)) :: V r.2) jl r.1) [.code assign, .beginRound, .code body] (pSlots ps (ea x) S) (.inv grec (recI l rec) :: en x ++ V y)) :
    Yields P ea en (loopStep f) (loopI n S tm V jl (mkRec fn tm ps.toArray assign body D) l) := by
  refine ⟨fun s W O R v h => ?_, ?_⟩
  · obtain ⟨rfl, _⟩ := h;exact ⟨rfl, _, _, _, rfl, fun _ h => nomatch h⟩
  intro x y b y' hstep o ev fo as_ ats ho env W O R hargs hens hok hO hR;obtain ⟨hv, hOl, hrec, envi, Oi, hFr, hhold, hown, hapart⟩ := hok;unfold loopStep at hstep
  split at hstep
  case isFalse => cases hstep
  rename_i hy0
  simp only [hy0, if_true] at hrec;obtain ⟨r, hr, hst⟩ := Option.bind_eq_some_iff.1 hstep;obtain ⟨j, s'⟩ := r;simp only [Option.some.injEq, Prod.mk.injEq] at hst;obtain ⟨rfl, rfl⟩ := hst;have hj0 : jmp jl 0 = none := rfl;rw [hj0] at hrec;have hall : (AV.denL env (ea x)).length = ps.length := by rw [denL_length, hlen x]
  have hyr := run_yield (P := P) (args := (as_.map ev).toArray) hrec (by rw [hargs]; simp [mkRec, hall]);have hrun : (execOp ev o).run P W = .ok (.round l fn ((ps.toArray.zip (AV.denL env (ea x)).toArray).foldl (fun t (q : Tmp × Value) => t.setIfInBounds q.1 q.2) tm) assign body) W := by
    simp only [execOp, ho, resolve, hv, Deferred.ofValue, Sem.run_bind, Sem.run_pure, Result.andThen_ok, invoke, List.map_toArray, Array.append_empty, Array.empty_append];have : (Array.append #[] (as_.map ev).toArray ++ #[]) = (as_.map ev).toArray := by simp
    first
      | (rw [hyr]; simp [mkRec, hargs])
      | (simp only [Array.append_empty, Array.empty_append] at *; rw [hyr]; simp [mkRec, hargs])
      | (simp [hyr]; simp [mkRec, hargs])
  rw [hrun];show RoundIn Fence.wide 0 P l fn _ assign body W _;obtain ⟨rec, hrecE⟩ : ∃ rec : Loop, rec = mkRec fn tm ps.toArray assign body D .ready none := ⟨_, rfl⟩;obtain ⟨busy, hbusy⟩ : ∃ busy : Loop, busy = busyR rec := ⟨_, rfl⟩;rw [← hrecE] at hrec;have hrd : rec.state = .ready := by rw [hrecE]; rfl
  have hlt : l < W.heap.size := (Array.getElem?_eq_some_iff.1 hrec).1;have hRl : ¬ R l := (hO l hOl).2;have hrb : ∀ b, R b → R b ∧ W.heap[b]? = W.heap[b]? := fun b hb => ⟨hb, rfl⟩
  classical
  -- the names of what the round is handed, and those of the loop
  have hfr1 : ∀ k ∈ grec :: (en x).map NEnt.name, hasS k S = false ∧ hasV k (V y.1) = false := by
    intro k hk;have := List.all_eq_true.1 (hfr x y.1) k hk
    simpa using this
  have hgE1 : hasV grec (en x) = false := by have := hgE x; simpa using this
  obtain ⟨e2, he2⟩ : ∃ e2 : Env, e2 = fun k => if k ∈ (en x).map NEnt.name then env k else envi k := ⟨_, rfl⟩
  have heV : ∀ k, (k ∈ (en x).map NEnt.name → False) → e2 k = envi k := fun k hk => by rw [he2]; exact if_neg hk
  have hnotin : ∀ z ∈ V y.1, ∀ k, z.has k = true → k ∈ grec :: (en x).map NEnt.name → False := fun z hz k hzk hk => by
    have := (hfr1 k hk).2; rw [mem_has hz hzk] at this; cases this
  have hclo := hcl x;have hin : ∀ k, (k ∈ AV.nsL (ea x) ∨ ∃ z ∈ en x, k ∈ z.ns) → e2 k = env k := fun k hk => by
    have := List.all_eq_true.1 hclo k (by rw [List.mem_append, List.mem_flatMap]; simpa [AV.ns] using hk);rw [he2]; exact if_pos (by simpa using this)
  have hnd1 := nodup_of_B (hnd x y.1);have hne1 : ∀ z ∈ V y.1, z.name ≠ grec := fun z hz e => hnotin z hz z.name (NEnt.has_name z) (by rw [e]; simp)
  have hne2 : ∀ z ∈ en x, z.name ≠ grec := fun z hz e => by
    have := mem_has hz (NEnt.has_name z); rw [e, hgE1] at this; cases this
  have hstB : St ⟨W, O, R⟩ e2 (.inv grec (recI l rec) :: en x ++ V y.1) W (fun k b => if k = grec then b = l else k ∈ (V y.1).map NEnt.name ∧ Oi k b) R := by
    have hmem : ∀ z ∈ V y.1, z.name ∈ (V y.1).map NEnt.name := fun z hz => List.mem_map.2 ⟨z, hz, rfl⟩
    have hen : ∀ z ∈ en x, z.name ∉ (V y.1).map NEnt.name := fun z hz hm => by
      obtain ⟨w, hw, e⟩ := List.mem_map.1 hm;exact hnotin w hw w.name (NEnt.has_name w) (by rw [e]; exact List.mem_cons_of_mem _ (List.mem_map.2 ⟨z, hz, rfl⟩))
    have hown' : ∀ z ∈ V y.1, ∀ b, Oi z.name b → b < W.heap.size ∧ O b ∧ b ≠ l ∧ ¬ R b := fun z hz b hb => ⟨(hO b (hown z hz b hb).1).1, (hown z hz b hb).1, (hown z hz b hb).2, (hO b (hown z hz b hb).1).2⟩
    have hcase : ∀ z ∈ (.inv grec (recI l rec) :: en x ++ V y.1), z = .inv grec (recI l rec) ∨ z ∈ en x ∨ z ∈ V y.1 := fun z hz => by simpa [or_assoc] using hz
    refine ⟨Keep.refl _ _, fun z hz => ?_, fun z hz b hb => ?_, fun z hz w hw hne b hb => ?_, fun b hb => ⟨hR b hb, .inr (.inl hb)⟩, fun _ h => h, ?_⟩
    · rcases hcase z hz with rfl | hz | hz
      · exact ⟨by simp [NEnt.name], hrec⟩
      · refine ro_holds (O := fun _ => False) (List.all_eq_true.1 (hroE x) z hz) ?_ _;refine NEnt.holds_congr (e := env) (fun k hk => (hin k (.inr ⟨z, hz, NEnt.has_ns hk⟩)).symm) ?_;exact NEnt.holds_keep (fun _ h => h.elim) hrb (hens z hz)
      · have e : (fun b => if z.name = grec then b = l else z.name ∈ (V y.1).map NEnt.name ∧ Oi z.name b) = Oi z.name := by
          funext b; simp only [hne1 z hz, if_false, hmem z hz, true_and]
        rw [e];refine NEnt.holds_congr (e := envi) (fun k hk => (heV k fun h => hnotin z hz k hk (List.mem_cons_of_mem _ h)).symm) ?_;exact NEnt.holds_keep (fun b hb => rfl) hrb (hhold z hz)
    · rcases hcase z hz with rfl | hz | hz
      · simp only [NEnt.name, if_true] at hb; subst hb;exact ⟨hlt, .inr hOl, hRl⟩
      · simp only [hne2 z hz, if_false] at hb; exact absurd hb.1 (hen z hz)
      · simp only [hne1 z hz, if_false] at hb;obtain ⟨h1, h2, h3, h4⟩ := hown' z hz b hb.2;exact ⟨h1, .inr h2, h4⟩
    · rcases hcase z hz with rfl | hz | hz <;> rcases hcase w hw with rfl | hw | hw
      · exact hne rfl
      · simp only [hne2 w hw, if_false] at hb; exact absurd hb.2.1 (hen w hw)
      · have hb2 := hb.2;simp only [hne1 w hw, if_false] at hb2;exact (hown' w hw b hb2.2).2.2.1 (by simpa [NEnt.name] using hb.1)
      · simp only [hne2 z hz, if_false] at hb; exact absurd hb.1.1 (hen z hz)
      · simp only [hne2 z hz, if_false] at hb; exact absurd hb.1.1 (hen z hz)
      · simp only [hne2 z hz, if_false] at hb; exact absurd hb.1.1 (hen z hz)
      · have hb1 := hb.1;simp only [hne1 z hz, if_false] at hb1;exact (hown' z hz b hb1.2).2.2.1 (by simpa [NEnt.name] using hb.2)
      · simp only [hne2 w hw, if_false] at hb; exact absurd hb.2.1 (hen w hw)
      · simp only [hne1 z hz, hne1 w hw, if_false] at hb;exact hapart z hz w hw hne b ⟨hb.1.2, hb.2.2⟩
    · simpa [NEnt.name] using hnd1
  have hFr2 : Fr e2 n (pSlots ps (ea x) S) ((ps.toArray.zip (AV.denL env (ea x)).toArray).foldl (fun t (q : Tmp × Value) => t.setIfInBounds q.1 q.2) tm) := by
    have h1 : Fr e2 n S tm := hFr.congr fun k hk => (heV k fun h => by
      have := (hfr1 k (List.mem_cons_of_mem _ h)).1; rw [hk] at this; cases this).symm
    have h2 := pSlots_fr ps (ea x) S tm h1 hps (hlen x);have h3 : AV.denL e2 (ea x) = AV.denL env (ea x) := AV.denL_congr _ fun k hk => hin k (.inl (AV.hasL_ns _ hk))
    rw [h3] at h2;have : ((ps.toArray.zip (AV.denL env (ea x)).toArray).foldl (fun t (q : Tmp × Value) => t.setIfInBounds q.1 q.2) tm) = ((ps.zip (AV.denL env (ea x))).foldl (fun t (q : Nat × Value) => t.setIfInBounds q.1 q.2) tm) := by
      rw [List.zip_toArray, List.foldl_toArray]
    rw [this]; exact h2
  refine roundIn_of_gw (Gw.mono (hbody x y.1 (j, s') hr rec hrd W O R e2 _ _ _ _ hFr2 hstB) ?_)
  rw [← hbusy]
  rintro e a3 W3 ⟨hex, env3, O3, R3, hst3⟩
  -- the round's end
  have hrec3 := hst3.holds (.inv grec (recI l busy)) (by simp);have hrec3' : O3 grec l ∧ W3.heap[l]? = some (.loop busy) := hrec3;have hkO : Keep O W W3 := hst3.keep;have hend := run_endRound (P := P) (jmp jl j) hrec3'.2;have hok3 : ∀ (W4 : World), W4 = W3.putObj l (.loop { busy with state := if (jmp jl j).isNone then .ready else .done, pending := jmp jl j }) →
      ∃ O' R' : Nat → Prop, Keep O W W4 ∧ (loopI n S tm V jl (mkRec fn tm ps.toArray assign body D) l (s', j)).ok W4 O' R' (ev fo) ∧ (∀ b, O' b → b < W4.heap.size ∧ (W.heap.size ≤ b ∨ O b) ∧ ¬ R' b) ∧ (∀ b, R' b → b < W4.heap.size ∧ (W.heap.size ≤ b ∨ R b ∨ O b)) ∧ (∀ b, R b → R' b) := by
    intro W4 hW4;have hlt3 : l < W3.heap.size := (Array.getElem?_eq_some_iff.1 hrec3'.2).1;have hsz4 : W4.heap.size = W3.heap.size := by rw [hW4]; simp
    have hoth4 : ∀ b, b ≠ l → W4.heap[b]? = W3.heap[b]? := fun b hb => by rw [hW4]; exact World.putObj_heap_other hb
    have hR3l : ¬ R3 l := (hst3.own (.inv grec (recI l busy)) (by simp) l hrec3'.1).2.2;have hown3 : ∀ z ∈ (.inv grec (recI l busy) :: V s'), ∀ b, O3 z.name b → b < W3.heap.size ∧ (W.heap.size ≤ b ∨ O b) ∧ ¬ R3 b := fun z hz b hb => by
      obtain ⟨g1, g2, g3⟩ := hst3.own z hz b hb;exact ⟨g1, g2.imp id id, g3⟩
    have hsl : ∀ z ∈ V s', ∀ b, O3 z.name b → b ≠ l := fun z hz b hb e => by
      have hndr := nodup_of_B (hnd x s');have hzn : z.name ≠ grec := fun e => by
        simp only [List.cons_append, List.nodup_cons, List.mem_append, List.mem_map, not_or, not_exists, not_and] at hndr;exact hndr.1.2 z hz e
      exact hst3.apart z (List.mem_cons_of_mem _ hz) (NEnt.inv grec (recI l busy)) (List.mem_cons_self ..) hzn l ⟨e ▸ hb, (show O3 (NEnt.inv grec (recI l busy)).name l from hrec3'.1)⟩
    refine ⟨fun b => ∃ z ∈ (.inv grec (recI l busy) :: V s'), O3 z.name b, R3, ?_, ⟨hv, ⟨NEnt.inv grec (recI l busy), List.mem_cons_self .., hrec3'.1⟩, ?_, env3, O3, ?_, fun z hz => ?_, fun z hz b hb => ⟨⟨z, by simp [hz], hb⟩, hsl z hz b hb⟩, fun z hz w hw hne => hst3.apart z (by simp [hz]) w (by simp [hw]) hne⟩, fun b hb => ?_, fun b hb => ?_, fun b hb => hst3.r0 b hb⟩
    · exact hkO.trans (show Keep O W3 W4 from by rw [hW4]; exact ⟨rfl, rfl, rfl, by simp, fun k _ hn => World.putObj_heap_other fun e => hn (e ▸ hOl)⟩) fun _ _ h => h
    · rw [hW4, World.putObj_heap_same hlt3, jmp_isNone, hbusy, hrecE]
      by_cases e : j = 0 <;> simp [e, mkRec, busyR]
    · have hp3 := hst3;refine hFr.congr fun k hk => ?_
      obtain ⟨g, u, hgu⟩ := hpin k hk;have g1 := hhold _ (hgu y.1);have g2 := hst3.holds _ (List.mem_cons_of_mem _ (hgu s'));simp only [NEnt.holds] at g1 g2;rw [g1, g2]
    · refine NEnt.holds_keep (fun b hb => hoth4 b (hsl z hz b hb)) (fun b hb => ⟨hb, hoth4 b fun e => hR3l (e ▸ hb)⟩) (hst3.holds z (by simp [hz]))
    · obtain ⟨z, hz, hzb⟩ := hb;rw [hsz4]; exact hown3 z hz b hzb
    · rw [hsz4];obtain ⟨g1, g2⟩ := hst3.ro b hb;refine ⟨g1, g2.imp id id⟩
  have hjb : (jmp jl j).isNone = (j == 0) := jmp_isNone jl j;rw [hjb] at hend;have hok4 := hok3 _ (by rw [hjb])
  cases e with
  | normal =>
    simp only [exitCode, Option.some.injEq] at hex;rw [← hex] at hend hok4;exact ⟨_, _, hend, _, rfl, rfl, hok4⟩
  | ret =>
    simp only [exitCode, Option.some.injEq] at hex;rw [← hex] at hend hok4;exact ⟨_, _, hend, _, rfl, rfl, hok4⟩
  | exit id =>
    simp only [exitCode, Option.some.injEq] at hex;rw [← hex] at hend hok4;exact ⟨_, _, hend, _, rfl, rfl, hok4⟩
  | goto l => simp [exitCode] at hex
  | panic ch => simp [exitCode] at hex
  | outgrown => simp [exitCode] at hex
end
end Go.Proofs.Ythgbjhglhejalaa.Sy
end
section
set_option linter.unusedSimpArgs false
set_option linter.unusedVariables false
namespace Go.Proofs.Ythgbjhglhejalaa.Sy
open Go.RowKit
theorem Gw.rangeFunc {P : Program} {ro : Option Nat} {t : List Item} {g : Operand} {ps : Array Tmp} {assign body : Code} {Q : Exit → Act → World → Prop} {a : Act} {w : World} {gf : Nat} {fs lb : Array Value}
    (hg : a.eval g = .func (.func gf) fs lb) (eg : ∀ args w, (callFunc gf args).run P w = .ok (.enter gf args) w)
    (h : ∀ fn, ∃ (l : Nat) (mark : List Deferred) (w₁ : World), (Instr.enterLoop fn a.tmps ps assign body ro).run P w = .ok (l, mark) w₁ ∧
      Calls P gf (fs ++ #[.func (.yield l) #[] #[]] ++ lb) w₁ fun e w₃ => ∃ v, e = .returned v ∧ ∃ jump w₄, (Instr.endLoop l).run P w₃ = .ok jump w₄ ∧ Gw P ro ((jump.map Item.code).toList ++ t) Q ⟨a.tmps, mark ++ a.defers⟩ w₄) :
    Gw P ro (.code (.rangeFunc g ps assign body) :: t) Q a w := by
  intro b k cs hro;obtain ⟨l, mark, w₁, he, hcall⟩ := h b.fn;rw [← hro] at he;have hres : (resolve a.eval (rangeCall g l) 0).run P w₁ = .ok { target := .fn (.func gf) lb, args := fs ++ #[.func (.yield l) #[] #[]] } w₁ := by
    simp only [resolve, hg]; simp [go_sem]
  have hinv : (invoke (.fn (.func gf) lb) (fs ++ #[.func (.yield l) #[] #[]])).run P w₁ = .ok (.enter gf (fs ++ #[.func (.yield l) #[] #[]] ++ lb)) w₁ := by simp [invoke, go_sem, eg]
  have hr : (fw ro).room (cs.length + 1 + 0) := fw_room _ _;have h0 : (lone (b.atR a (.code (.rangeFunc g ps assign body) :: (t ++ k))) cs w).fenced P (fw ro) := fenced_lone (.inl trivial) (fun f' hf' => trivial) (fw_room _ _);have henter := stepR_rangeFunc (P := P) (b := b) (a := a) (k := t ++ k) (cs := cs) (w := w) he hres hinv;obtain ⟨hFt, hcall'⟩ := callsIn_fw (ro := ro) (n := 0) hcall;obtain ⟨e, w₃, fr, hR, hsteps, hfn, hleave⟩ := hcall' (b.atR { a with defers := mark ++ a.defers } (.inRangeFunc l :: (t ++ k)) :: cs) (fw_room _ _);obtain ⟨v, rfl, jump, w₄, hend, hj⟩ := hR;have hl : (lone fr (b.atR { a with defers := mark ++ a.defers } (.inRangeFunc l :: (t ++ k)) :: cs) w₃).fenced P (fw ro) := fenced_leaving (n := 0) trivial (fw_room _ _) hleave;have sback : StepsIn (Machine.fenced P (fw ro)) P (lone (b.atR a (.code (.rangeFunc g ps assign body) :: (t ++ k))) cs w) (lone (b.atR { a with defers := mark ++ a.defers } ((jump.map Item.code).toList ++ (t ++ k))) cs w₄) := by
    refine .head h0 henter (StepsIn.trans hsteps (.head hl ?_ (.one (fenced_calm (n := 0) (fr := b.atR { a with defers := mark ++ a.defers } (.endRangeFunc l :: (t ++ k))) trivial (fw_room _ _) rfl) (stepR_endRangeFunc hend))));rw [← finish_atR_inRangeFunc l v]; exact step_leave_returned hleave
  obtain ⟨e', a'', w₅, hq, harr⟩ := hj b k cs hro;rw [List.append_assoc] at harr;exact ⟨e', a'', w₅, hq, .of_steps sback harr⟩
section
variable {P : Program} {c : Ctx} {n : Nat} {ro : Option Nat} {df : List Deferred} {Q : Exit → Act → World → Prop} {t : List Item} {s S : List (Nat × AV)} {V needI : List NEnt} {X σ : Type} {jl : List Code} {ps : List Nat} {assign body : Code} {ea : X → List AV} {en : X → List NEnt} {f : X → σ → Option (Nat × σ)} {V0 : σ → List NEnt}
structure LoopOk (P : Program) (n k gm grec : Nat) (s S : List (Nat × AV)) (V needI : List NEnt) (ps : List Nat) (assign body : Code) (jl : List Code) (ea : X → List AV) (en : X → List NEnt) (f : X → σ → Option (Nat × σ)) (V0 : σ → List NEnt) (s0 : σ) : Prop where
  hbody : ∀ x y r, f x y = some r → ∀ (l : Nat) (rec : Loop) (hrd : rec.state = .ready) (w0 : World) (M R0 : Nat → Prop), TC P ⟨w0, M, R0⟩ ⟨n, some l, []⟩ (RoundQ ⟨w0, M, R0⟩ (.inv grec (recI l (busyR rec)) :: V0 r.2) jl r.1) [.code assign, .beginRound, .code body] (pSlots ps (ea x) S) (.inv grec (recI l rec) :: en x ++ V0 y)
  hS : SubS id s S
  hV : ∀ x ∈ V0 s0, x ∈ V
  hN : ∀ x ∈ needI, x ∈ V
  hro : needI.all NEnt.isRoB = true
  hpin : PinsIn V0 S
  hps : (ps.all fun p => Nat.blt p n) = true
  hlen : ∀ x, ps.length = (ea x).length
  hnd : ∀ x y, nodupB (grec :: (en x).map NEnt.name ++ (V0 y).map NEnt.name) = true
  hnv : ∀ y, nodupB ((V0 y).map NEnt.name) = true
  hfr : ∀ x y, ((grec :: (en x).map NEnt.name).all fun k => !hasS k S && !hasV k (V0 y)) = true
  hcl : ∀ x, closedN (.tup (ea x)) (en x) = true
  hroE : ∀ x, (en x).all NEnt.isRoB = true
  hgE : ∀ x, (!hasV grec (en x)) = true
  hk : (!hasS k s && !hasV k V && !Nat.beq k gm) = true
  hgm : (!hasS gm S && !hasV gm needI) = true
  hgm0 : ∀ y, hasV gm (V0 y) = false
  hnn : nodupB (needI.map NEnt.name) = true
theorem B_of_nodup : ∀ {l : List Nat}, l.Nodup → nodupB l = true := by
  intro l
  induction l with
  | nil => intro _; rfl
  | cons a l ih => intro h; rw [List.nodup_cons] at h; simp only [nodupB, Bool.and_eq_true, Bool.not_eq_true', List.contains_eq_mem, decide_eq_false_iff_not]; exact ⟨h.1, ih h.2⟩
structure TakesOk (V needI V0s : List NEnt) (gm : Nat) (T T' : List NEnt) : Prop where
  hV : ∀ x ∈ T, x ∈ V
  hn : nodupB (T.map NEnt.name ++ needI.map NEnt.name) = true
  h0 : ((T.map NEnt.name).all fun n => !(V0s.map NEnt.name).contains n && !Nat.beq n gm) = true
  h1 : ((T'.map NEnt.name).all fun n => (T.map NEnt.name).contains n) = true
theorem takesNil {V needI V0s : List NEnt} {gm : Nat} (hn : nodupB (needI.map NEnt.name) = true) : TakesOk V needI V0s gm [] [] := ⟨fun _ h => (nomatch h), hn, rfl, rfl⟩
def HoldsI {σ : Type} (V0 : σ → List NEnt) (I : σ × Nat → Inv) : Prop := ∀ (y : σ × Nat) (W : World) (O R : Nat → Prop) (v : Value), (I y).ok W O R v → ∃ (env : Env) (O' : Nat → Nat → Prop), ∀ x ∈ V0 y.1, x.holds env W (O' x.name) R
theorem loop_core {k gm grec gf : Nat} {fi caps : List AV} {g : Operand} {s0 yf : σ × Nat} {J J' : Inv} {v : AV} (h : LoopOk P n k gm grec s S V needI ps assign body jl ea en f V0 s0.1) (hs0 : s0.2 = 0) (hg : rho s g = some (.fn gf fi caps)) (eg : ∀ args w, (callFunc gf args).run P w = .ok (.enter gf args) w)
    {T T' : List NEnt} (hT : TakesOk V needI (V0 s0.1) gm T T') (hJ : NEnt.inv gm J ∈ V) (hit : ∀ I : σ × Nat → Inv, Yields P ea en (loopStep f) I → HoldsI V0 I → FT P gf (fi ++ (.ref k :: caps)) (.inv k (I s0) :: T) needI v (.inv k (I yf) :: T'))
    (mark : List Deferred) (hdone : TC P c ⟨n, ro, mark ++ df⟩ Q (((jmp jl yf.2).map Item.code).toList ++ t) S (.inv gm J' :: V0 yf.1))
    {env : Env} {tm : Array Value} {W : World} {O : Nat → Nat → Prop} {R : Nat → Prop} (hfr : Fr env n s tm) (hst : St c env V W O R)
    (henter : ∀ fn, ∃ (l D : Nat) (W2 : World), (Instr.enterLoop fn tm ps.toArray assign body ro).run P W = .ok (l, mark) W2 ∧ W2.heap[l]? = some (.loop (mkRec fn tm ps.toArray assign body D .ready none)) ∧ Keep (fun _ => False) W W2 ∧ W.heap.size ≤ l ∧
      ∃ Oj : Nat → Prop, (∀ R v, J'.ok W2 Oj R v) ∧ ∀ b, Oj b → b < W2.heap.size ∧ b ≠ l ∧ (O gm b ∨ W.heap.size ≤ b)) :
    Gw P ro (.code (.rangeFunc g ps.toArray assign body) :: t) Q ⟨tm, df⟩ W := by
  have hge := rho_eval hfr (df := df) hg;simp only [AV.den, AV.denL] at hge;refine Gw.rangeFunc hge eg fun fn => ?_
  obtain ⟨l, D, W2, he, hrec, hkp, hl, Oj, hJok, hOj⟩ := henter fn;refine ⟨l, mark, W2, he, ?_⟩;have hlt : l < W2.heap.size := (Array.getElem?_eq_some_iff.1 hrec).1;have hksp : hasS k s = false ∧ hasV k V = false ∧ k ≠ gm := by
    have := h.hk;simp only [Bool.and_eq_true, Bool.not_eq_true'] at this;exact ⟨this.1.1, this.1.2, fun e => by subst e; rw [Nat.beq_refl] at this; cases this.2⟩
  have hgmp : hasS gm S = false ∧ hasV gm needI = false := by have := h.hgm; simpa using this
  have hkV : ∀ x ∈ V, x.name ≠ k := fun x hx e => by
    have := mem_has hx (NEnt.has_name x); rw [e, hksp.2.1] at this; cases this
  have hgV0 : ∀ x ∈ V0 s0.1, x.name ≠ gm := fun x hx e => by
    have := mem_has hx (NEnt.has_name x); rw [e, h.hgm0 s0.1] at this; cases this
  have hgN : ∀ x ∈ needI, x.name ≠ gm := fun x hx e => by
    have := mem_has hx (NEnt.has_name x); rw [e, hgmp.2] at this; cases this
  have hroN : ∀ x ∈ needI, x.isRoB = true := fun x hx => List.all_eq_true.1 h.hro x hx
  let I := loopI n S tm V0 jl (mkRec fn tm ps.toArray assign body D) l
  have hY : Yields P ea en (loopStep f) I := loop_yields grec h.hpin h.hps h.hlen h.hnd h.hfr h.hcl h.hroE h.hgE (fun x y r hr rec hrd w0 M R0 => h.hbody x y r hr l rec hrd w0 M R0)
  let yv : Value := .func (.yield l) #[] #[]
  have hkW : ∀ b, b < W.heap.size → W2.heap[b]? = W.heap[b]? := fun b hb => hkp.block b hb (fun x => x)
  have hcongr : ∀ x ∈ V, ∀ m, x.has m = true → env m = setEnv env k yv m := fun x hx m hm => (setEnv_other fun e => by subst e; rw [mem_has hx hm] at hksp; cases hksp.2.1).symm
  have hFrS : Fr env n S tm := ⟨hfr.1, fun t a ha => by
    have := h.hS.look ha;rw [AV.ren_id] at this;exact hfr.2 t a this⟩
  -- the state at the iterator's call
  have hTp : ∀ x ∈ T, x.name ≠ gm ∧ ∀ z ∈ V0 s0.1, z.name ≠ x.name := fun x hx => by
    have := List.all_eq_true.1 hT.h0 x.name (List.mem_map.2 ⟨x, hx, rfl⟩);simp only [Bool.and_eq_true, Bool.not_eq_true'] at this;refine ⟨fun e => (by rw [e, Nat.beq_refl] at this; exact nomatch this.2), fun z hz e => ?_⟩;have h2 : (List.map NEnt.name (V0 s0.1)).contains x.name = true := List.contains_iff_mem.2 (List.mem_map.2 ⟨z, hz, e⟩);rw [h2] at this; cases this.1
  have hTnd := nodup_of_B hT.hn;have hTN : ∀ x ∈ T, ∀ z ∈ needI, x.name ≠ z.name := fun x hx z hz e => (List.nodup_append.1 hTnd).2.2 _ (List.mem_map.2 ⟨x, hx, rfl⟩) _ (List.mem_map.2 ⟨z, hz, rfl⟩) e
  have hcase : ∀ x ∈ (NEnt.inv k (I s0) :: NEnt.inv gm J' :: (T ++ needI)), x = .inv k (I s0) ∨ x = .inv gm J' ∨ x ∈ T ∨ x ∈ needI := fun x hx => by simpa using hx
  obtain ⟨OC, hOC⟩ : ∃ OC : Nat → Nat → Prop, OC = fun m b => if m = k then (b = l ∨ ∃ x ∈ V0 s0.1, O x.name b) else if m = gm then Oj b else m ∈ T.map NEnt.name ∧ O m b := ⟨_, rfl⟩
  have oK : ∀ b, OC k b ↔ (b = l ∨ ∃ x ∈ V0 s0.1, O x.name b) := fun b => by rw [hOC]; simp
  have oG : ∀ b, OC gm b ↔ Oj b := fun b => by rw [hOC]; simp [hksp.2.2.symm]
  have oT : ∀ x ∈ T, ∀ b, OC x.name b ↔ O x.name b := fun x hx b => by
    rw [hOC];simp only [hkV x (hT.hV x hx), (hTp x hx).1, if_false];exact ⟨fun h => h.2, fun h => ⟨List.mem_map.2 ⟨x, hx, rfl⟩, h⟩⟩
  have oN : ∀ x ∈ needI, ∀ b, ¬ OC x.name b := fun x hx b hb => by
    rw [hOC] at hb;simp only [hkV x (h.hN x hx), hgN x hx, if_false] at hb;obtain ⟨z, hz, e⟩ := List.mem_map.1 hb.1;exact hTN z hz x hx e
  have hstC : St c (setEnv env k yv) (.inv k (I s0) :: .inv gm J' :: (T ++ needI)) W2 OC R := by
    refine ⟨hst.keep.trans hkp (fun _ _ x => x.elim), fun x hx => ?_, fun x hx b hb => ?_, fun x hx z hz hne b hb => ?_, fun b hb => ⟨Nat.lt_of_lt_of_le (hst.ro b hb).1 hkp.size, (hst.ro b hb).2⟩, hst.r0, ?_⟩
    · rcases hcase x hx with rfl | rfl | hx | hx
      · simp only [NEnt.holds, NEnt.name, setEnv_same];refine ⟨rfl, (oK l).2 (.inl rfl), by rw [hs0]; exact hrec, env, O, hFrS, fun x hx => ?_, fun x hx b hb => ⟨(oK b).2 (.inr ⟨x, hx, hb⟩), fun e => ?_⟩, fun x hx z hz => hst.apart x (h.hV x hx) z (h.hV z hz)⟩
        · exact NEnt.holds_keep (fun b hb => hkW b (hst.own x (h.hV x hx) b hb).1) (fun b hb => ⟨hb, hkW b (hst.ro b hb).1⟩) (hst.holds x (h.hV x hx))
        · have := (hst.own x (h.hV x hx) b hb).1; omega
      · simp only [NEnt.holds, NEnt.name];have e : OC gm = Oj := funext fun b => propext (oG b)
        rw [e];exact hJok _ _
      · have e : OC x.name = O x.name := funext fun b => propext (oT x hx b)
        rw [e];exact NEnt.holds_congr (hcongr x (hT.hV x hx)) (NEnt.holds_keep (fun b hb => hkW b (hst.own x (hT.hV x hx) b hb).1) (fun b hb => ⟨hb, hkW b (hst.ro b hb).1⟩) (hst.holds x (hT.hV x hx)))
      · refine ro_holds (O := fun _ => False) (hroN x hx) ?_ _;refine NEnt.holds_congr (hcongr x (h.hN x hx)) (ro_holds (hroN x hx) (NEnt.holds_keep (fun b hb => hkW b (hst.own x (h.hN x hx) b hb).1) (fun b hb => ⟨hb, hkW b (hst.ro b hb).1⟩) (hst.holds x (h.hN x hx))) _)
    · rcases hcase x hx with rfl | rfl | hx | hx
      · rcases (oK b).1 hb with rfl | ⟨z, hz, hb⟩
        · exact ⟨hlt, .inl (Nat.le_trans hst.keep.size hl), fun hr => by have := (hst.ro _ hr).1; omega⟩
        · obtain ⟨g1, g2, g3⟩ := hst.own z (h.hV z hz) b hb;exact ⟨Nat.lt_of_lt_of_le g1 hkp.size, g2, g3⟩
      · obtain ⟨g1, g2, g3⟩ := hOj b ((oG b).1 hb);refine ⟨g1, ?_, fun hr => ?_⟩
        · rcases g3 with g3 | g3
          · exact (hst.own _ hJ b g3).2.1
          · exact .inl (Nat.le_trans hst.keep.size g3)
        · rcases g3 with g3 | g3
          · exact (hst.own _ hJ b g3).2.2 hr
          · have := (hst.ro _ hr).1; omega
      · obtain ⟨g1, g2, g3⟩ := hst.own x (hT.hV x hx) b ((oT x hx b).1 hb);exact ⟨Nat.lt_of_lt_of_le g1 hkp.size, g2, g3⟩
      · exact (oN x hx b hb).elim
    · have key : ∀ b, (b = l ∨ ∃ x ∈ V0 s0.1, O x.name b) → Oj b → False := by
        intro b h1 h2;obtain ⟨g1, g2, g3⟩ := hOj b h2;rcases h1 with rfl | ⟨z, hz, h1⟩
        · exact g2 rfl
        · rcases g3 with g3 | g3
          · exact hst.apart z (h.hV z hz) _ hJ (hgV0 z hz) b ⟨h1, g3⟩
          · have := (hst.own z (h.hV z hz) b h1).1; omega
      have keyT : ∀ x ∈ T, ∀ b, O x.name b → (b = l ∨ ∃ z ∈ V0 s0.1, O z.name b) → False := by
        intro x hx b h1 h2;have hb := (hst.own x (hT.hV x hx) b h1).1;rcases h2 with rfl | ⟨z, hz, h2⟩
        · omega
        · exact hst.apart z (h.hV z hz) x (hT.hV x hx) ((hTp x hx).2 z hz) b ⟨h2, h1⟩
      have keyG : ∀ x ∈ T, ∀ b, O x.name b → Oj b → False := by
        intro x hx b h1 h2;obtain ⟨g1, g2, g3⟩ := hOj b h2;have hb := (hst.own x (hT.hV x hx) b h1).1;rcases g3 with g3 | g3
        · exact hst.apart x (hT.hV x hx) _ hJ (hTp x hx).1 b ⟨h1, g3⟩
        · omega
      have two : ∀ (x z : NEnt), x = .inv k (I s0) ∨ x = .inv gm J' ∨ x ∈ T ∨ x ∈ needI → z = .inv k (I s0) ∨ z = .inv gm J' ∨ z ∈ T ∨ z ∈ needI → x.name ≠ z.name → OC x.name b → OC z.name b → False := by
        intro x z hx hz hne h1 h2;rcases hx with rfl | rfl | hx | hx <;> rcases hz with rfl | rfl | hz | hz
        · exact hne rfl
        · exact key b ((oK b).1 h1) ((oG b).1 h2)
        · exact keyT z hz b ((oT z hz b).1 h2) ((oK b).1 h1)
        · exact oN z hz b h2
        · exact key b ((oK b).1 h2) ((oG b).1 h1)
        · exact hne rfl
        · exact keyG z hz b ((oT z hz b).1 h2) ((oG b).1 h1)
        · exact oN z hz b h2
        · exact keyT x hx b ((oT x hx b).1 h1) ((oK b).1 h2)
        · exact keyG x hx b ((oT x hx b).1 h1) ((oG b).1 h2)
        · exact hst.apart x (hT.hV x hx) z (hT.hV z hz) hne b ⟨(oT x hx b).1 h1, (oT z hz b).1 h2⟩
        · exact oN z hz b h2
        · exact oN x hx b h1
        · exact oN x hx b h1
        · exact oN x hx b h1
        · exact oN x hx b h1
      exact two x z (hcase x hx) (hcase z hz) hne hb.1 hb.2
    · simp only [List.map_cons, List.map_append, NEnt.name, List.nodup_cons, List.mem_cons, List.mem_append, List.mem_map, not_or, not_exists, not_and];exact ⟨⟨hksp.2.2, fun x hx => hkV x (hT.hV x hx), fun x hx => hkV x (h.hN x hx)⟩, ⟨fun x hx => (hTp x hx).1, hgN⟩, hTnd⟩
  have hft := hit I hY (fun y W O R v h => by obtain ⟨_, _, _, env, O', _, h5, _⟩ := h; exact ⟨env, O', h5⟩);have hnf : AV.hasL k fi = false ∧ AV.hasL k caps = false := by
    cases g with
    | tmp t =>
      constructor <;> (cases hh : AV.hasL k _ with | false => rfl | true => ?_)
      all_goals
        have h2 := look_has (n := k) (a := .fn gf fi caps) hg (by simp [AV.has, hh]);rw [hksp.1] at h2; cases h2
    | const v => simp [rho] at hg
    | global v => simp [rho] at hg
    | func v =>
      simp only [rho, Option.some.injEq, AV.fn.injEq] at hg;rw [← hg.2.1, ← hg.2.2]; exact ⟨rfl, rfl⟩
  have hargs : (AV.denL (setEnv env k yv) (fi ++ (.ref k :: caps))).toArray = (AV.denL env fi).toArray ++ #[yv] ++ (AV.denL env caps).toArray := by
    rw [denL_append];simp only [AV.denL, AV.den, setEnv_same, oneOf, yv, denL_set hnf.1, denL_set hnf.2];simp
  have hcalls := hft.apply hstC (fun x hx => by
      rcases List.mem_cons.1 hx with rfl | hx
      · simp
      · simp [hx]) (fun x hx => by simp [hx]) h.hro (B_of_nodup (by
      simp only [List.map_cons, NEnt.name, List.nodup_cons, List.mem_map, not_exists, not_and];exact ⟨fun x hx => hkV x (hT.hV x hx), (List.nodup_append.1 hTnd).1⟩)) (fun y hy => by
      rcases List.mem_cons.1 hy with rfl | hy
      · exact .inl (by simp [NEnt.name])
      · have := List.all_eq_true.1 hT.h1 y.name (List.mem_map.2 ⟨y, hy, rfl⟩);exact .inl (List.mem_cons_of_mem _ (List.contains_iff_mem.1 this)))
  rw [hargs] at hcalls;refine hcalls.mono ?_
  rintro e W3 ⟨u, rfl, env3, O3, R3, hev3, -, hst3⟩
  have hk3 : NEnt.inv k (I yf) ∈ (NEnt.inv k (I yf) :: T') ++ delV ((NEnt.inv k (I s0) :: T).map NEnt.name) (NEnt.inv k (I s0) :: NEnt.inv gm J' :: (T ++ needI)) := by simp
  have hg3 : NEnt.inv gm J' ∈ (NEnt.inv k (I yf) :: T') ++ delV ((NEnt.inv k (I s0) :: T).map NEnt.name) (NEnt.inv k (I s0) :: NEnt.inv gm J' :: (T ++ needI)) :=
    List.mem_append_right _ (mem_delV.2 ⟨by simp, by
      simp only [List.map_cons, NEnt.name, List.mem_cons, List.mem_map, not_or, not_exists, not_and];exact ⟨hksp.2.2.symm, fun x hx => (hTp x hx).1⟩⟩)
  have hok3 := hst3.holds _ hk3;simp only [NEnt.holds, NEnt.name] at hok3;obtain ⟨hv3, hOl3, hrec3, envi, Oi, hFri, hholdi, howni, haparti⟩ := hok3;refine ⟨u, rfl, jmp jl yf.2, _, by
    have := run_endLoop (P := P) hrec3 (by simp only [mkRec]; split <;> simp)
    simpa [mkRec] using this, ?_⟩
  -- the state behind the loop
  have hR3l : ¬ R3 l := (hst3.own _ hk3 l hOl3).2.2;have hlt3 : l < W3.heap.size := (Array.getElem?_eq_some_iff.1 hrec3).1;obtain ⟨W4, hW4⟩ : ∃ W4, W4 = W3.putObj l (.loop { mkRec fn tm ps.toArray assign body D (if yf.2 = 0 then .ready else .done) (jmp jl yf.2) with state := .exhausted }) := ⟨_, rfl⟩;have hsz4 : W4.heap.size = W3.heap.size := by rw [hW4]; simp
  have hoth4 : ∀ b, b ≠ l → W4.heap[b]? = W3.heap[b]? := fun b hb => by rw [hW4]; exact World.putObj_heap_other hb
  have hgne : ∀ x ∈ V0 yf.1, x.name ≠ gm := fun x hx e => by
    have := mem_has hx (NEnt.has_name x); rw [e, h.hgm0 yf.1] at this; cases this
  have hgl : ∀ b, O3 gm b → b ≠ l := fun b hb e => hst3.apart _ hg3 _ hk3 (by simpa [NEnt.name] using hksp.2.2.symm) l ⟨e ▸ hb, hOl3⟩
  obtain ⟨e4, he4⟩ : ∃ e4 : Env, e4 = fun m => if m = gm then env3 gm else envi m := ⟨_, rfl⟩
  have he4o : ∀ m, m ≠ gm → e4 m = envi m := fun m hm => by rw [he4]; exact if_neg hm
  have hst4 : St c e4 (.inv gm J' :: V0 yf.1) W4 (fun m b => if m = gm then O3 gm b else Oi m b) R3 := by
    have hownA : ∀ x ∈ V0 yf.1, ∀ b, Oi x.name b → b < W3.heap.size ∧ (c.w0.heap.size ≤ b ∨ c.M b) ∧ ¬ R3 b ∧ b ≠ l := fun x hx b hb => by
      obtain ⟨g1, g2⟩ := howni x hx b hb;obtain ⟨q1, q2, q3⟩ := hst3.own _ hk3 b g1;exact ⟨q1, q2, q3, g2⟩
    refine ⟨hst3.keep.trans (N := fun b => b = l) (by rw [hW4]; exact ⟨rfl, rfl, rfl, by simp, fun q _ hn => World.putObj_heap_other hn⟩) (fun i hi e => ?_), fun x hx => ?_, fun x hx b hb => ?_, fun x hx z hz hne b hb => ?_, fun b hb => by rw [hsz4]; exact hst3.ro b hb, hst3.r0, ?_⟩
    · subst e;rcases (hst3.own _ hk3 i hOl3).2.1 with g | g
      · omega
      · exact g
    · rcases List.mem_cons.1 hx with rfl | hx2
      · have hJ3 := hst3.holds _ hg3;simp only [NEnt.holds, NEnt.name, if_true] at hJ3 ⊢;have e : e4 gm = env3 gm := by rw [he4]; simp
        rw [e];exact J'.keep W3 W4 _ R3 R3 (fun b hb => hoth4 b (hgl b hb)) (fun b hb => ⟨hb, hoth4 b fun e => hR3l (e ▸ hb)⟩) _ hJ3
      · simp only [hgne x hx2, if_false];refine NEnt.holds_congr (e := envi) (fun m hm => (he4o m fun e => by
          have := mem_has hx2 hm; rw [e, h.hgm0 yf.1] at this; cases this).symm) ?_
        exact NEnt.holds_keep (fun b hb => hoth4 b (hownA x hx2 b hb).2.2.2) (fun b hb => ⟨hb, hoth4 b fun e => hR3l (e ▸ hb)⟩) (hholdi x hx2)
    · rcases List.mem_cons.1 hx with rfl | hx
      · have hb' : O3 gm b := by simpa [NEnt.name] using hb
        rw [hsz4]; exact hst3.own _ hg3 b hb'
      · simp only [hgne x hx, if_false] at hb;obtain ⟨q1, q2, q3, _⟩ := hownA x hx b hb;rw [hsz4]; exact ⟨q1, q2, q3⟩
    · rcases List.mem_cons.1 hx with rfl | hx <;> rcases List.mem_cons.1 hz with rfl | hz
      · exact hne rfl
      · have h1 : O3 gm b := by simpa [NEnt.name] using hb.1
        have h2 := hb.2; simp only [hgne z hz, if_false] at h2;exact hst3.apart _ hg3 _ hk3 (by simpa [NEnt.name] using hksp.2.2.symm) b ⟨h1, (howni z hz b h2).1⟩
      · have h1 : O3 gm b := by simpa [NEnt.name] using hb.2
        have h2 := hb.1; simp only [hgne x hx, if_false] at h2;exact hst3.apart _ hg3 _ hk3 (by simpa [NEnt.name] using hksp.2.2.symm) b ⟨h1, (howni x hx b h2).1⟩
      · have h1 := hb.1; have h2 := hb.2;simp only [hgne x hx, hgne z hz, if_false] at h1 h2;exact haparti x hx z hz hne b ⟨h1, h2⟩
    · have hnd := nodup_of_B h.hnn;simp only [List.map_cons, NEnt.name, List.nodup_cons, List.mem_map, not_exists, not_and];refine ⟨hgne, ?_⟩;exact nodup_of_B (h.hnv yf.1)
  have hFr4 : Fr e4 n S tm := hFri.congr fun m hm => (he4o m fun e => by subst e; rw [hgmp.1] at hm; cases hm).symm
  have := hdone e4 tm W4 _ R3 hFr4 hst4;rw [hW4] at this;exact this
theorem MarksOk.lt {W : World} {O : Nat → Prop} : ∀ {ds : List Deferred}, MarksOk W O ds → ∀ d ∈ ds, ∃ D, d = { target := .collected D, args := #[] } ∧ D < W.heap.size := by
  intro ds
  induction ds with
  | nil => intro _ d hd; cases hd
  | cons x l ih =>
    rintro ⟨⟨D, rfl, _, h, _⟩, hl⟩ d hd
    rcases List.mem_cons.1 hd with rfl | hd
    · exact ⟨D, rfl, (Array.getElem?_eq_some_iff.1 h).1⟩
    · exact ih hl d hd
theorem rangeO2 {k gm grec gf : Nat} {fi caps : List AV} {g : Operand} {s0 yf : σ × Nat} {v : AV} (h : LoopOk P n k gm grec s S V needI ps assign body jl ea en f V0 s0.1) (hs0 : s0.2 = 0) (hg : rho s g = some (.fn gf fi caps)) (eg : ∀ args w, (callFunc gf args).run P w = .ok (.enter gf args) w)
    {T T' : List NEnt} (hT : TakesOk V needI (V0 s0.1) gm T T') (i : Nat) (hJ : V[i]? = some (.inv gm (marksI df))) (hit : ∀ I : σ × Nat → Inv, Yields P ea en (loopStep f) I → HoldsI V0 I → FT P gf (fi ++ (.ref k :: caps)) (.inv k (I s0) :: T) needI v (.inv k (I yf) :: T'))
    (hdone : ∀ d : Deferred, TC P c ⟨n, none, d :: df⟩ Q (((jmp jl yf.2).map Item.code).toList ++ t) S (.inv gm (marksI (d :: df)) :: V0 yf.1)) :
    TC P c ⟨n, none, df⟩ Q (.code (.rangeFunc g ps.toArray assign body) :: t) s V := by
  intro env tm W O R hfr hst;have hJm : NEnt.inv gm (marksI df) ∈ V := List.mem_of_getElem? hJ;have hmk : MarksOk W (O gm) df := hst.holds _ hJm;refine loop_core (J' := marksI ({ target := .collected W.heap.size, args := #[] } :: df)) h hs0 hg eg hT hJm hit [{ target := .collected W.heap.size, args := #[] }] (hdone _) hfr hst fun fn => ?_
  refine ⟨W.heap.size + 1, W.heap.size, _, run_enterLoop_outer _ _ _ _ _, ?_, ?_, by omega, fun b => b = W.heap.size ∨ O gm b, ?_, ?_⟩
  · have := World.alloc_heap_new (W.alloc (.deferred (some []))) (.loop (mkRec fn tm ps.toArray assign body W.heap.size .ready none)); rwa [World.size_alloc] at this
  · exact (keep_alloc W _).trans (keep_alloc _ _) fun _ _ h => h
  · intro R v;have hD : ((W.alloc (.deferred (some []))).alloc (.loop (mkRec fn tm ps.toArray assign body W.heap.size .ready none))).heap[W.heap.size]? = some (.deferred (some [])) :=
      (Below.heap_alloc _ _ _ (by simp)).trans (World.alloc_heap_new W _)
    refine ⟨⟨W.heap.size, rfl, .inl rfl, hD, fun d' hd' e => ?_⟩, MarksOk.keep hmk fun b hb => ⟨.inr hb, fun _ => ?_⟩⟩
    · obtain ⟨D, e2, hlt⟩ := hmk.lt d' hd';rw [e2] at e; simp at e; omega
    · have hb' := (hst.own _ hJm b hb).1;exact (Below.heap_alloc _ _ _ (by simp; omega)).trans (Below.heap_alloc _ _ _ hb')
  · rintro b (rfl | hb)
    · exact ⟨by simp only [World.size_alloc]; omega, by omega, .inr (Nat.le_refl _)⟩
    · have hb' := (hst.own _ hJm b hb).1;have : b < W.heap.size := hb';exact ⟨by simp; omega, by omega, .inl hb⟩
theorem rangeO {k gm grec gf : Nat} {fi caps : List AV} {g : Operand} {s0 yf : σ × Nat} {v : AV} (h : LoopOk P n k gm grec s S V needI ps assign body jl ea en f V0 s0.1) (hs0 : s0.2 = 0) (hg : rho s g = some (.fn gf fi caps)) (eg : ∀ args w, (callFunc gf args).run P w = .ok (.enter gf args) w)
    {T T' : List NEnt} (hT : TakesOk V needI (V0 s0.1) gm T T') (i : Nat) (hJ : V[i]? = some (.inv gm (marksI df))) (hit : ∀ I : σ × Nat → Inv, Yields P ea en (loopStep f) I → FT P gf (fi ++ (.ref k :: caps)) (.inv k (I s0) :: T) needI v (.inv k (I yf) :: T'))
    (hdone : ∀ d : Deferred, TC P c ⟨n, none, d :: df⟩ Q (((jmp jl yf.2).map Item.code).toList ++ t) S (.inv gm (marksI (d :: df)) :: V0 yf.1)) :
    TC P c ⟨n, none, df⟩ Q (.code (.rangeFunc g ps.toArray assign body) :: t) s V := rangeO2 h hs0 hg eg hT i hJ (fun I hI _ => hit I hI) hdone
end
section
variable {P : Program} {c : Ctx} {sz : Fm} {Q : Exit → Act → World → Prop} {t : List Item} {s : List (Nat × AV)} {V : List NEnt} {jl : List Code}
theorem done0 {j : Nat} (h : (j == 0) = true) (k : TC P c sz Q t s V) : TC P c sz Q (((jmp jl j).map Item.code).toList ++ t) s V := by
  have : j = 0 := by simpa using h
  subst this; exact k
theorem doneJ {j : Nat} (i : Nat) {x : Code} (h : (j == i) = true) (hi : jmp jl i = some x) (k : TC P c sz Q (.code x :: t) s V) : TC P c sz Q (((jmp jl j).map Item.code).toList ++ t) s V := by
  have : j = i := by simpa using h
  subst this; rw [hi]; exact k
end
def PinsAt {σ : Type} (V : σ → List NEnt) : List Nat → List Nat → Prop
  | n :: ns, i :: is => (∃ g u, ∀ y, (V y)[i]? = some (.pin g n u)) ∧ PinsAt V ns is
  | [], [] => True
  | _, _ => False
theorem PinsAt.get {σ : Type} {V : σ → List NEnt} : ∀ {ns is : List Nat}, PinsAt V ns is → ∀ n ∈ ns, ∃ g u, ∀ y, NEnt.pin g n u ∈ V y := by
  intro ns
  induction ns with
  | nil => intro is _ n hn; cases hn
  | cons m ns ih =>
    intro is h n hn
    cases is with
    | nil => exact h.elim
    | cons i is =>
      rcases List.mem_cons.1 hn with rfl | hn
      · obtain ⟨g, u, h1⟩ := h.1;exact ⟨g, u, fun y => mem_at i (h1 y)⟩
      · exact ih h.2 n hn
def nsS (S : List (Nat × AV)) : List Nat := S.flatMap fun p => p.2.ns
theorem hasS_ns {n : Nat} {S : List (Nat × AV)} (h : hasS n S = true) : n ∈ nsS S := by
  induction S with
  | nil => cases h
  | cons p S ih =>
    obtain ⟨k, a⟩ := p;simp only [hasS, Bool.or_eq_true] at h;simp only [nsS, List.flatMap_cons, List.mem_append];exact h.imp (AV.has_ns a) ih
theorem pinsIn {σ : Type} {V : σ → List NEnt} {S : List (Nat × AV)} (ns is : List Nat) (h : PinsAt V ns is) (hs : (nsS S).all ns.contains = true) : PinsIn V S := fun n hn => by
  have := List.all_eq_true.1 hs n (hasS_ns hn);exact h.get n (by simpa using this)
section
variable {P : Program} {c : Ctx} {sz : Fm} {Q : Exit → Act → World → Prop} {t : List Item} {s : List (Nat × AV)} {V : List NEnt}
theorem nilCellC (k n E size b : Nat) (els : List (List D)) (cells : List AV) {T : TypeId} (he : els = []) (hk : V[k]? = some (.blk b (AV.nlL n cells) T)) (hf : freshN [.row n E size els] s V = true)
    (h : TC P c sz Q t s (.row n E size els :: V.set k (.blk b cells T))) : TC P c sz Q t s V := (nilCellR (ops := #[]) (rest := []) k n E size b els cells he hk hf).1 h
end
end Go.Proofs.Ythgbjhglhejalaa.Sy
end
