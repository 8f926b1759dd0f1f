/- The small logic of symbolic states: function values as arguments. -/
import Derived.Test.YtohjpfkcahlfkaaGreatPbSymJ
set_option linter.unusedSimpArgs false
set_option linter.unusedVariables false
namespace Go.Proofs.YtohjpfkcahlfkaaGreat.Sy
open Go.RowKit
def D.fn (P : Program) {α β : Type} (enc : α → List AV) (dec : β → AV) (f : α → Option β) : D :=
  ⟨fun W R v => ∃ g first caps, v = .func (.func g) first caps ∧ (∀ args w, (callFunc g args).run P w = .ok (.enter g args) w) ∧ ∀ a b, f a = some b → ∀ (env : Env) (W' : World) (R' : Nat → Prop),
      (∀ k, R k → R' k ∧ W'.heap[k]? = W.heap[k]?) → (∀ k, R' k → k < W'.heap.size) → Calls P g (first ++ (AV.denL env (enc a)).toArray ++ caps) W' (Post ⟨W', fun _ => False, R'⟩ env (dec b) []),
   fun W W' R R' hm v ⟨g, first, caps, h1, h2, h3⟩ => ⟨g, first, caps, h1, h2, fun a b hab env W2 R2 hr hs => h3 a b hab env W2 R2 (fun k hk => ⟨(hr k (hm k hk).1).1, ((hr k (hm k hk).1).2).trans (hm k hk).2⟩) hs⟩⟩
section
variable {P : Program} {o : Oper} {ρ : Operand → Option AV}
theorem sp_callF {α β : Type} {enc : α → List AV} {dec : β → AV} {F : α → Option β} {fo : Operand} {as_ : List Operand} {avs : List AV} {ats : Array TypeId} {n : Nat} {v : AV} (a : α) {b : β} (ho : o.op = .call { callee := .value fo, args := as_.toArray, argTypes := ats }) (hf : ρ fo = some (.ref n))
    (has : as_.map ρ = avs.map some) (ha : avs = enc a) (hv : dec b = v) (hab : F a = some b) : OpSpec P o ρ [.any n (D.fn P enc dec F)] v [] := by
  intro ev env W O R hev hn hO hR
  obtain ⟨g, first, caps, h1, h2, h3⟩ := hn _ (List.mem_singleton.2 rfl)
  have hfo := hev fo _ hf
  have h1' : env n = .func (.func g) first caps := h1
  simp only [AV.den, h1', oneOf] at hfo
  have hargs := args_map hev as_ avs has
  have hrun : (execOp ev o).run P W = .ok (.enter g (first ++ (AV.denL env (enc a)).toArray ++ caps)) W := by
    simp only [execOp, ho, resolve, hfo, Deferred.ofValue, Sem.run_bind, Sem.run_pure, Result.andThen_ok, invoke, h2, List.map_toArray, hargs, ha]
  rw [hrun]
  subst hv
  exact (h3 a b hab env W R (fun k hk => ⟨hk, rfl⟩) hR).mono fun e W' ⟨u, he, hg⟩ => ⟨u, he, hg⟩
end
def noName (v : AV) : Bool := v.ns.isEmpty
theorem den_noName {v : AV} (h : noName v = true) (e e' : Env) : v.den e = v.den e' := AV.den_congr v fun n hn => by
  have := AV.has_ns v hn
  simp only [noName, List.isEmpty_iff] at h
  rw [h] at this; cases this
theorem denL_noName {l : List AV} (h : (AV.nsL l).isEmpty = true) (e e' : Env) : AV.denL e l = AV.denL e' l := AV.denL_congr l fun n hn => by
  have := AV.hasL_ns l hn
  simp only [List.isEmpty_iff] at h
  rw [h] at this; cases this
theorem FC.fnArg {P : Program} {α β : Type} {enc : α → List AV} {dec : β → AV} {F : α → Option β} {f g k : Nat} (i : Nat) {args first caps : List AV} {needC need news : List NEnt} {v : AV} (h : FC P f args (.any k (D.fn P enc dec F) :: need) v news)
    (hi : args[i]? = some (.ref k)) (hcall : ∀ args w, (callFunc g args).run P w = .ok (.enter g args) w) (hc : ∀ a b, F a = some b → FC P g (first ++ enc a ++ caps) needC (dec b) [])
    (hro : needC.all NEnt.isRoB = true) (henc : ∀ a, (AV.nsL (enc a)).isEmpty = true) (hdec : ∀ b, noName (dec b) = true)
    (hk : (args.zipIdx.all fun p => p.2 == i || !p.1.has k) = true) (hk2 : hasV k needC = false) (hk3 : hasV k need = false) (hk4 : v.has k = false) (hk5 : hasV k news = false) (hk6 : AV.hasL k first = false) (hk7 : AV.hasL k caps = false) :
    FC P f (args.set i (.fn g first caps)) (needC ++ need) v news := by
  intro env w0 R0 hnd hR
  have hval : AV.denL env (args.set i (.fn g first caps)) = AV.denL (setEnv env k ((AV.fn g first caps).den env)) args := by
    simp only [AV.denL_map]
    apply List.ext_getElem?
    intro j
    simp only [List.getElem?_map, List.getElem?_set]
    split
    · rename_i e; subst e
      rw [if_pos (List.getElem?_eq_some_iff.1 hi).1, hi]
      simp [AV.den, setEnv_same, oneOf]
    · rename_i e
      cases ha : args[j]? with
      | none => rfl
      | some a =>
        have hm : (a, j) ∈ args.zipIdx := List.mem_iff_getElem?.2 ⟨j, by rw [List.getElem?_zipIdx, ha]; simp⟩
        have := List.all_eq_true.1 hk (a, j) hm
        simp only [Bool.or_eq_true, beq_iff_eq, Bool.not_eq_true'] at this
        rcases this with e' | this
        · exact absurd e'.symm e
        · simp only [Option.map_some, Option.some.injEq]
          exact AV.den_congr a fun n hn => (setEnv_other fun e => by subst e; rw [this] at hn; cases hn).symm
  rw [hval]
  have hnC : ∀ x ∈ needC, x.holds env w0 (fun _ => False) R0 := fun x hx => hnd x (by simp [hx])
  refine (h (setEnv env k ((AV.fn g first caps).den env)) w0 R0 (fun x hx => ?_) hR).mono ?_
  · rcases List.mem_cons.1 hx with rfl | hx
    · refine ⟨g, (AV.denL env first).toArray, (AV.denL env caps).toArray, by simp [setEnv_same, AV.den], hcall, fun a b hab env' W' R' hr hs => ?_⟩
      have hcalls := hc a b hab env W' R' (fun x hx => by
        have h1 := hnC x hx
        have hxr := List.all_eq_true.1 hro x hx
        cases x with
        | row n E size els => cases hxr
        | blk n cells T => cases hxr
        | ro n size els => exact NEnt.holds_keep (x := .ro n size els) (fun _ h => h.elim) hr h1
        | rob n cells T => exact NEnt.holds_keep (x := .rob n cells T) (fun _ h => h.elim) hr h1
        | any n d => exact NEnt.holds_keep (x := .any n d) (fun _ h => h.elim) hr h1
        | inv n I => cases hxr
        | pin g n u => exact h1) hs
      rw [denL_append, denL_append, denL_noName (henc a) env env'] at hcalls
      simp only [← List.append_toArray] at hcalls
      refine hcalls.mono ?_
      rintro e W2 ⟨u, he, env2, O2, R2, g1, g2, g3⟩
      refine ⟨u, he, env', fun _ _ => False, R2, fun _ _ => rfl, by rw [g2]; exact den_noName (hdec b) _ _, ⟨g3.keep, by simp, by simp, by simp, g3.ro, g3.r0, by simp⟩⟩
    · exact NEnt.holds_congr (fun n hn' => (setEnv_other fun e => by subst e; rw [hasV_mem hk3 hx] at hn'; cases hn').symm) (hnd x (by simp [hx]))
  rintro e W' ⟨u, he, env', O', R', h1, h2, hst⟩
  have hcn : ∀ n, n ≠ k → setEnv env' k (env k) n = env' n := fun n hne => setEnv_other (Ne.symm hne)
  refine ⟨u, he, setEnv env' k (env k), O', R', fun n hn' => ?_, ?_, hst.keep, fun x hx => ?_, hst.own, hst.apart, hst.ro, hst.r0, hst.names⟩
  · by_cases e : n = k
    · subst e; rw [setEnv_same]
    · rw [hcn n e, h1 n hn', setEnv_other (Ne.symm e)]
  · rw [h2]
    exact AV.den_congr v fun n hn' => (hcn n fun e => by subst e; rw [hk4] at hn'; cases hn').symm
  · exact NEnt.holds_congr (fun n hn' => (hcn n fun e => by subst e; rw [hasV_mem hk5 hx] at hn'; cases hn').symm) (hst.holds x hx)
theorem FC.needJ {P : Program} {f : Nat} {args : List AV} {need need' news : List NEnt} {v : AV} (is : List Nat) (hn : At need is need') (h : FC P f args need' v news) : FC P f args need v news :=
  fun env w0 R0 hnd hR => h env w0 R0 (fun x hx => hnd x (hn.mem x hx)) hR
end Go.Proofs.YtohjpfkcahlfkaaGreat.Sy
