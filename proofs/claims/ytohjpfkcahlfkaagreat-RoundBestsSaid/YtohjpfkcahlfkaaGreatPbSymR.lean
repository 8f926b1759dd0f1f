/- The small logic of symbolic states: arrays in rows, slices of arrays, made slices, strings of bytes, clipped slices, what is nil. -/
import Derived.Test.YtohjpfkcahlfkaaGreatPbSymQ
set_option linter.unusedSimpArgs false
set_option linter.unusedVariables false
namespace Go.Proofs.YtohjpfkcahlfkaaGreat.Sy
open Go.RowKit
section
variable {P : Program} {o : Oper} {ρ : Operand → Option AV}
end
section
variable {P : Program} {o : Oper} {ρ : Operand → Option AV}
end
theorem eq_nil_slice {P : Program} {T E : TypeId} (hT : P.underlying T = some (.slice E)) (a : Option Addr) (l k n : Nat) (W : World) : (Op.equalIn (n + 1) T (.slice a l k) (.slice none 0 0)).run P W = .ok a.isNone W := by
  cases a <;> simp [Op.equalIn, run_underlying hT]
def D.nilb (N : Nat) : D := ⟨fun _ _ v => ∃ b : Bool, v = .bool b ∧ (b = true → N = 0), fun _ _ _ _ _ _ h => h⟩
section
variable {P : Program} {o : Oper} {ρ : Operand → Option AV}
theorem sp_eqNil {T E U : TypeId} {x y : Operand} {n size N : Nat} (m : Nat) {els : List (List D)} {yv : NEnt} (ho : o.op = .binOp .eql T x y U) (hT : P.underlying T = some (.slice E)) (hx : ρ x = some (.ref n)) (hy : ρ y = some (.val (.slice none 0 0))) (hr : IsRow yv n size els) (hl : els.length = N) : OpSpec P o ρ [yv] (.ref m) [.any m (D.nilb N)] := by
  intro ev env W O R he hn _ hR
  subst hl
  obtain ⟨a, cap, h1, h2, h3, h4, h5, h6⟩ : ∃ a cap, env n = .slice a els.length cap ∧ (a = none → els.length = 0) ∧ True ∧ True ∧ True ∧ True := by
    obtain ⟨ad, cap, g1, g2, g3, g4, g5⟩ := row_read hr (hn _ (List.mem_singleton.2 rfl))
    exact ⟨ad, cap, g1, fun h => by have := g4 h; omega, trivial, trivial, trivial, trivial⟩
  have hx' := he x _ hx
  simp only [AV.den, h1, oneOf] at hx'
  have hy' := he y _ hy
  simp only [AV.den] at hy'
  have hrun : (execOp ev o).run P W = .ok (.value (.bool a.isNone)) W := by
    simp [execOp, ho, hx', hy', eqGuard, binOp, run_underlying hT]
    rw [show Op.equal T (Value.slice a els.length cap) (Value.slice none 0 0) = Op.equalIn (9999 + 1) T (Value.slice a els.length cap) (Value.slice none 0 0) from rfl, eq_nil_slice hT]
    rfl
  rw [hrun]
  refine ⟨setEnv env m (.bool a.isNone), fun _ _ => False, R, fun k hk => setEnv_other (hk (.any m (D.nilb els.length)) (by simp)), by simp [AV.den, setEnv_same, oneOf], ?_⟩
  refine St.fresh (Keep.refl _ W) hR ?_ (fun b hb => hb.elim)
  simp only [NEnt.holds, setEnv_same]
  exact ⟨a.isNone, rfl, fun h => h2 (by simpa using h)⟩
end
section
variable {P : Program} {c : Ctx} {sz : Fm} {Q : Exit → Act → World → Prop} {t : List Item} {s : List (Nat × AV)} {V : List NEnt}
theorem condNil {o : Operand} {x y : Code} {n N : Nat} (k : Nat) (hc : rho s o = some (.ref n)) (hk : V[k]? = some (.any n (D.nilb N))) (ht : N = 0 → TC P c sz Q (.code x :: t) s V) (hf : TC P c sz Q (.code y :: t) s V) : TC P c sz Q (.code (.cond o x y) :: t) s V := by
  intro e tm W O R hr hs
  obtain ⟨b, h1, h2⟩ := hs.holds _ (List.mem_of_getElem? hk)
  have hev := rho_eval (df := sz.df) hr hc
  have h1' : e n = .bool b := h1
  simp only [AV.den, h1', oneOf] at hev
  exact Gw.cond (b := b) hev (fun hb => ht (h2 hb) e tm W O R hr hs) (fun hb => hf e tm W O R hr hs)
end
def D.clip (size : Nat) (els : List (List D)) : D := ⟨fun W R v => reads size els W R v ∧ ∃ a n, v = .slice a n n, fun _ _ _ _ hm _ h => ⟨reads_mono hm h.1, h.2⟩⟩
section
variable {P : Program} {o : Oper} {ρ : Operand → Option AV}
theorem sp_clip {T E : TypeId} {size bytes n N : Nat} (m : Nat) {x h1 h2 : Operand} {k1 k2 : IntKind} {els : List (List D)} (hl : els.length = N) (ho : o.op = .slice T x none (some h1) (some h2)) (hx : ρ x = some (.ref n)) (hT : SlT P T E size bytes)
    (hh : ρ h1 = some (.val (.int k1 (N : Int)))) (hm : ρ h2 = some (.val (.int k2 (N : Int)))) : OpSpec P o ρ [.ro n size els] (.ref m) [.any m (D.clip size els)] := by
  subst hl
  intro ev env W O R hev hn _ hR
  have hro : reads size els W R (env n) := hn _ (List.mem_singleton.2 rfl)
  obtain ⟨a, cap, g1, g2, g3, g4, g5⟩ := hro
  obtain ⟨ti, z, hti, _, hts, _, _⟩ := hT.info
  have hx' := hev x _ hx
  simp only [AV.den, g1, oneOf] at hx'
  have hh1 := hev h1 _ hh
  have hh2 := hev h2 _ hm
  simp only [AV.den] at hh1 hh2
  have hrun : (execOp ev o).run P W = .ok (.value (.slice (if els.length = 0 then a else a) els.length els.length)) W := by
    simp [execOp, ho, Instr.sliceAt, Instr.slice, hx', run_underlying hT.under, Instr.sliceBounds, Instr.sliceBound, asIntOf, hh1, hh2, sizeOf, typeInfo, hti, hts, g2]
    try (cases a <;> simp [Addr.add])
    try (split <;> rfl)
  simp only [ite_self] at hrun
  rw [hrun]
  refine ⟨setEnv env m (.slice a els.length els.length), fun _ _ => False, R, fun k hk => setEnv_other (hk (.any m (D.clip size els)) (by simp)), by simp [AV.den, setEnv_same, oneOf], ?_⟩
  refine St.fresh (Keep.refl _ W) hR ?_ (fun b hb => hb.elim)
  simp only [NEnt.holds, setEnv_same]
  refine ⟨⟨a, els.length, rfl, Nat.le_refl _, by omega, fun h => by have := g4 h; omega, fun i el hi => g5 i el hi⟩, a, els.length, rfl⟩
end
section
variable {P : Program} {c : Ctx} {sz : Fm} {Q : Exit → Act → World → Prop} {t : List Item} {s : List (Nat × AV)} {V : List NEnt} {ops : Array Oper} {rest : List Oper}
end
theorem FT.fnArg {P : Program} {α β : Type} {enc : α → List AV} {dec : β → AV} {F : α → Option β} {f g k : Nat} (i : Nat) {args first caps : List AV} {take needC need news : List NEnt} {v : AV} (h : FT P f args take (.any k (D.fn P enc dec F) :: need) v news)
    (hi : args[i]? = some (.ref k)) (hcall : ∀ args w, (callFunc g args).run P w = .ok (.enter g args) w) (hc : ∀ a b, F a = some b → FC P g (first ++ enc a ++ caps) needC (dec b) [])
    (hro : needC.all NEnt.isRoB = true) (henc : ∀ a, (AV.nsL (enc a)).isEmpty = true) (hdec : ∀ b, noName (dec b) = true)
    (hk : (args.zipIdx.all fun p => p.2 == i || !p.1.has k) = true) (hk2 : hasV k needC = false) (hk3 : hasV k need = false) (hk4 : v.has k = false) (hk5 : hasV k news = false) (hk6 : AV.hasL k first = false) (hk7 : AV.hasL k caps = false) (hk8 : hasV k take = false) :
    FT P f (args.set i (.fn g first caps)) take (needC ++ need) v news := by
  intro env w0 M O R0 hst hnd
  have hval : AV.denL env (args.set i (.fn g first caps)) = AV.denL (setEnv env k ((AV.fn g first caps).den env)) args := by
    simp only [AV.denL_map]
    apply List.ext_getElem?
    intro j
    simp only [List.getElem?_map, List.getElem?_set]
    split
    · rename_i e; subst e
      rw [if_pos (List.getElem?_eq_some_iff.1 hi).1, hi]
      simp [AV.den, setEnv_same, oneOf]
    · rename_i e
      cases ha : args[j]? with
      | none => rfl
      | some a =>
        have hm : (a, j) ∈ args.zipIdx := List.mem_iff_getElem?.2 ⟨j, by rw [List.getElem?_zipIdx, ha]; simp⟩
        have := List.all_eq_true.1 hk (a, j) hm
        simp only [Bool.or_eq_true, beq_iff_eq, Bool.not_eq_true'] at this
        rcases this with e' | this
        · exact absurd e'.symm e
        · simp only [Option.map_some, Option.some.injEq]
          exact AV.den_congr a fun n hn => (setEnv_other fun e => by subst e; rw [this] at hn; cases hn).symm
  rw [hval]
  have hnC : ∀ x ∈ needC, x.holds env w0 (fun _ => False) R0 := fun x hx => (hnd x (by simp [hx])).2
  have hst' : St ⟨w0, M, R0⟩ (setEnv env k ((AV.fn g first caps).den env)) take w0 O R0 := ⟨hst.keep, fun x hx => NEnt.holds_congr (fun n hn' => (setEnv_other fun e => by subst e; rw [hasV_mem hk8 hx] at hn'; cases hn').symm) (hst.holds x hx), hst.own, hst.apart, hst.ro, hst.r0, hst.names⟩
  refine (h (setEnv env k ((AV.fn g first caps).den env)) w0 M O R0 hst' (fun x hx => ?_)).mono ?_
  · rcases List.mem_cons.1 hx with rfl | hx
    · refine ⟨rfl, g, (AV.denL env first).toArray, (AV.denL env caps).toArray, by simp [setEnv_same, AV.den], hcall, fun a b hab env' W' R' hr hs => ?_⟩
      have hcalls := hc a b hab env W' R' (fun x hx => ro_holds (List.all_eq_true.1 hro x hx) (NEnt.holds_keep (fun _ h => h.elim) hr (hnC x hx)) _) hs
      rw [denL_append, denL_append, denL_noName (henc a) env env'] at hcalls
      simp only [← List.append_toArray] at hcalls
      refine hcalls.mono ?_
      rintro e W2 ⟨u, he, env2, O2, R2, g1, g2, g3⟩
      refine ⟨u, he, env', fun _ _ => False, R2, fun _ _ => rfl, by rw [g2]; exact den_noName (hdec b) _ _, ⟨g3.keep, by simp, by simp, by simp, g3.ro, g3.r0, by simp⟩⟩
    · exact ⟨(hnd x (by simp [hx])).1, NEnt.holds_congr (fun n hn' => (setEnv_other fun e => by subst e; rw [hasV_mem hk3 hx] at hn'; cases hn').symm) (hnd x (by simp [hx])).2⟩
  rintro e W' ⟨u, he, env', O', R', h1, h2, hst2⟩
  have hcn : ∀ n, n ≠ k → setEnv env' k (env k) n = env' n := fun n hne => setEnv_other (Ne.symm hne)
  refine ⟨u, he, setEnv env' k (env k), O', R', fun n hn' => ?_, ?_, hst2.keep, fun x hx => ?_, hst2.own, hst2.apart, hst2.ro, hst2.r0, hst2.names⟩
  · by_cases e : n = k
    · subst e; rw [setEnv_same]
    · rw [hcn n e, h1 n hn', setEnv_other (Ne.symm e)]
  · rw [h2]
    exact AV.den_congr v fun n hn' => (hcn n fun e => by subst e; rw [hk4] at hn'; cases hn').symm
  · exact NEnt.holds_congr (fun n hn' => (hcn n fun e => by subst e; rw [hasV_mem hk5 hx] at hn'; cases hn').symm) (hst2.holds x hx)
end Go.Proofs.YtohjpfkcahlfkaaGreat.Sy
