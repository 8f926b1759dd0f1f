/- The small logic of symbolic states: the statement 'for .. := range f'. -/
import Derived.Test.YtohjpfkcahlfkaaGreatPbSymN
set_option linter.unusedSimpArgs false
set_option linter.unusedVariables false
namespace Go.Proofs.YtohjpfkcahlfkaaGreat.Sy
open Go.RowKit
theorem Gw.rangeFunc {P : Program} {ro : Option Nat} {t : List Item} {g : Operand} {ps : Array Tmp} {assign body : Code} {Q : Exit → Act → World → Prop} {a : Act} {w : World} {gf : Nat} {fs lb : Array Value}
    (hg : a.eval g = .func (.func gf) fs lb) (eg : ∀ args w, (callFunc gf args).run P w = .ok (.enter gf args) w)
    (h : ∀ fn, ∃ (l : Nat) (mark : List Deferred) (w₁ : World), (Instr.enterLoop fn a.tmps ps assign body ro).run P w = .ok (l, mark) w₁ ∧
      Calls P gf (fs ++ #[.func (.yield l) #[] #[]] ++ lb) w₁ fun e w₃ => ∃ v, e = .returned v ∧ ∃ jump w₄, (Instr.endLoop l).run P w₃ = .ok jump w₄ ∧ Gw P ro ((jump.map Item.code).toList ++ t) Q ⟨a.tmps, mark ++ a.defers⟩ w₄) :
    Gw P ro (.code (.rangeFunc g ps assign body) :: t) Q a w := by
  intro b k cs hro
  obtain ⟨l, mark, w₁, he, hcall⟩ := h b.fn
  rw [← hro] at he
  have hres : (resolve a.eval (rangeCall g l) 0).run P w₁ = .ok { target := .fn (.func gf) lb, args := fs ++ #[.func (.yield l) #[] #[]] } w₁ := by
    simp only [resolve, hg]; simp [go_sem]
  have hinv : (invoke (.fn (.func gf) lb) (fs ++ #[.func (.yield l) #[] #[]])).run P w₁ = .ok (.enter gf (fs ++ #[.func (.yield l) #[] #[]] ++ lb)) w₁ := by simp [invoke, go_sem, eg]
  have hr : (fw ro).room (cs.length + 1 + 0) := fw_room _ _
  have h0 : (lone (b.atR a (.code (.rangeFunc g ps assign body) :: (t ++ k))) cs w).fenced P (fw ro) := fenced_lone (.inl trivial) (fun f' hf' => trivial) (fw_room _ _)
  have henter := stepR_rangeFunc (P := P) (b := b) (a := a) (k := t ++ k) (cs := cs) (w := w) he hres hinv
  obtain ⟨hFt, hcall'⟩ := callsIn_fw (ro := ro) (n := 0) hcall
  obtain ⟨e, w₃, fr, hR, hsteps, hfn, hleave⟩ := hcall' (b.atR { a with defers := mark ++ a.defers } (.inRangeFunc l :: (t ++ k)) :: cs) (fw_room _ _)
  obtain ⟨v, rfl, jump, w₄, hend, hj⟩ := hR
  have hl : (lone fr (b.atR { a with defers := mark ++ a.defers } (.inRangeFunc l :: (t ++ k)) :: cs) w₃).fenced P (fw ro) := fenced_leaving (n := 0) trivial (fw_room _ _) hleave
  have sback : StepsIn (Machine.fenced P (fw ro)) P (lone (b.atR a (.code (.rangeFunc g ps assign body) :: (t ++ k))) cs w) (lone (b.atR { a with defers := mark ++ a.defers } ((jump.map Item.code).toList ++ (t ++ k))) cs w₄) := by
    refine .head h0 henter (StepsIn.trans hsteps (.head hl ?_ (.one (fenced_calm (n := 0) (fr := b.atR { a with defers := mark ++ a.defers } (.endRangeFunc l :: (t ++ k))) trivial (fw_room _ _) rfl) (stepR_endRangeFunc hend))))
    rw [← finish_atR_inRangeFunc l v]; exact step_leave_returned hleave
  obtain ⟨e', a'', w₅, hq, harr⟩ := hj b k cs hro
  rw [List.append_assoc] at harr
  exact ⟨e', a'', w₅, hq, .of_steps sback harr⟩
section
variable {P : Program} {c : Ctx} {n : Nat} {ro : Option Nat} {df : List Deferred} {Q : Exit → Act → World → Prop} {t : List Item} {s S : List (Nat × AV)} {V needI : List NEnt} {X σ : Type} {jl : List Code} {ps : List Nat} {assign body : Code} {ea : X → List AV} {en : X → List NEnt} {f : X → σ → Option (Nat × σ)} {V0 : σ → List NEnt}
structure LoopOk (P : Program) (n k gm grec : Nat) (s S : List (Nat × AV)) (V needI : List NEnt) (ps : List Nat) (assign body : Code) (jl : List Code) (ea : X → List AV) (en : X → List NEnt) (f : X → σ → Option (Nat × σ)) (V0 : σ → List NEnt) (s0 : σ) : Prop where
  hbody : ∀ x y r, f x y = some r → ∀ (l : Nat) (rec : Loop) (hrd : rec.state = .ready) (w0 : World) (M R0 : Nat → Prop), TC P ⟨w0, M, R0⟩ ⟨n, some l, []⟩ (RoundQ ⟨w0, M, R0⟩ (.inv grec (recI l (busyR rec)) :: V0 r.2) jl r.1) [.code assign, .beginRound, .code body] (pSlots ps (ea x) S) (.inv grec (recI l rec) :: en x ++ V0 y)
  hS : SubS id s S
  hV : ∀ x ∈ V0 s0, x ∈ V
  hN : ∀ x ∈ needI, x ∈ V
  hro : needI.all NEnt.isRoB = true
  hpin : PinsIn V0 S
  hps : (ps.all fun p => Nat.blt p n) = true
  hlen : ∀ x, ps.length = (ea x).length
  hnd : ∀ x y, nodupB (grec :: (en x).map NEnt.name ++ (V0 y).map NEnt.name) = true
  hnv : ∀ y, nodupB ((V0 y).map NEnt.name) = true
  hfr : ∀ x y, ((grec :: (en x).map NEnt.name).all fun k => !hasS k S && !hasV k (V0 y)) = true
  hcl : ∀ x, closedN (.tup (ea x)) (en x) = true
  hroE : ∀ x, (en x).all NEnt.isRoB = true
  hgE : ∀ x, (!hasV grec (en x)) = true
  hk : (!hasS k s && !hasV k V && !Nat.beq k gm) = true
  hgm : (!hasS gm S && !hasV gm needI) = true
  hgm0 : ∀ y, hasV gm (V0 y) = false
  hnn : nodupB (needI.map NEnt.name) = true
theorem B_of_nodup : ∀ {l : List Nat}, l.Nodup → nodupB l = true := by
  intro l
  induction l with
  | nil => intro _; rfl
  | cons a l ih => intro h; rw [List.nodup_cons] at h; simp only [nodupB, Bool.and_eq_true, Bool.not_eq_true', List.contains_eq_mem, decide_eq_false_iff_not]; exact ⟨h.1, ih h.2⟩
structure TakesOk (V needI V0s : List NEnt) (gm : Nat) (T T' : List NEnt) : Prop where
  hV : ∀ x ∈ T, x ∈ V
  hn : nodupB (T.map NEnt.name ++ needI.map NEnt.name) = true
  h0 : ((T.map NEnt.name).all fun n => !(V0s.map NEnt.name).contains n && !Nat.beq n gm) = true
  h1 : ((T'.map NEnt.name).all fun n => (T.map NEnt.name).contains n) = true
theorem takesNil {V needI V0s : List NEnt} {gm : Nat} (hn : nodupB (needI.map NEnt.name) = true) : TakesOk V needI V0s gm [] [] := ⟨fun _ h => (nomatch h), hn, rfl, rfl⟩
theorem loop_core {k gm grec gf : Nat} {fi caps : List AV} {g : Operand} {s0 yf : σ × Nat} {J J' : Inv} {v : AV} (h : LoopOk P n k gm grec s S V needI ps assign body jl ea en f V0 s0.1) (hs0 : s0.2 = 0) (hg : rho s g = some (.fn gf fi caps)) (eg : ∀ args w, (callFunc gf args).run P w = .ok (.enter gf args) w)
    {T T' : List NEnt} (hT : TakesOk V needI (V0 s0.1) gm T T') (hJ : NEnt.inv gm J ∈ V) (hit : ∀ I : σ × Nat → Inv, Yields P ea en (loopStep f) I → FT P gf (fi ++ (.ref k :: caps)) (.inv k (I s0) :: T) needI v (.inv k (I yf) :: T'))
    (mark : List Deferred) (hdone : TC P c ⟨n, ro, mark ++ df⟩ Q (((jmp jl yf.2).map Item.code).toList ++ t) S (.inv gm J' :: V0 yf.1))
    {env : Env} {tm : Array Value} {W : World} {O : Nat → Nat → Prop} {R : Nat → Prop} (hfr : Fr env n s tm) (hst : St c env V W O R)
    (henter : ∀ fn, ∃ (l D : Nat) (W2 : World), (Instr.enterLoop fn tm ps.toArray assign body ro).run P W = .ok (l, mark) W2 ∧ W2.heap[l]? = some (.loop (mkRec fn tm ps.toArray assign body D .ready none)) ∧ Keep (fun _ => False) W W2 ∧ W.heap.size ≤ l ∧
      ∃ Oj : Nat → Prop, (∀ R v, J'.ok W2 Oj R v) ∧ ∀ b, Oj b → b < W2.heap.size ∧ b ≠ l ∧ (O gm b ∨ W.heap.size ≤ b)) :
    Gw P ro (.code (.rangeFunc g ps.toArray assign body) :: t) Q ⟨tm, df⟩ W := by
  have hge := rho_eval hfr (df := df) hg
  simp only [AV.den, AV.denL] at hge
  refine Gw.rangeFunc hge eg fun fn => ?_
  obtain ⟨l, D, W2, he, hrec, hkp, hl, Oj, hJok, hOj⟩ := henter fn
  refine ⟨l, mark, W2, he, ?_⟩
  have hlt : l < W2.heap.size := (Array.getElem?_eq_some_iff.1 hrec).1
  have hksp : hasS k s = false ∧ hasV k V = false ∧ k ≠ gm := by
    have := h.hk
    simp only [Bool.and_eq_true, Bool.not_eq_true'] at this
    exact ⟨this.1.1, this.1.2, fun e => by subst e; rw [Nat.beq_refl] at this; cases this.2⟩
  have hgmp : hasS gm S = false ∧ hasV gm needI = false := by have := h.hgm; simpa using this
  have hkV : ∀ x ∈ V, x.name ≠ k := fun x hx e => by
    have := mem_has hx (NEnt.has_name x); rw [e, hksp.2.1] at this; cases this
  have hgV0 : ∀ x ∈ V0 s0.1, x.name ≠ gm := fun x hx e => by
    have := mem_has hx (NEnt.has_name x); rw [e, h.hgm0 s0.1] at this; cases this
  have hgN : ∀ x ∈ needI, x.name ≠ gm := fun x hx e => by
    have := mem_has hx (NEnt.has_name x); rw [e, hgmp.2] at this; cases this
  have hroN : ∀ x ∈ needI, x.isRoB = true := fun x hx => List.all_eq_true.1 h.hro x hx
  let I := loopI n S tm V0 jl (mkRec fn tm ps.toArray assign body D) l
  have hY : Yields P ea en (loopStep f) I := loop_yields grec h.hpin h.hps h.hlen h.hnd h.hfr h.hcl h.hroE h.hgE (fun x y r hr rec hrd w0 M R0 => h.hbody x y r hr l rec hrd w0 M R0)
  let yv : Value := .func (.yield l) #[] #[]
  have hkW : ∀ b, b < W.heap.size → W2.heap[b]? = W.heap[b]? := fun b hb => hkp.block b hb (fun x => x)
  have hcongr : ∀ x ∈ V, ∀ m, x.has m = true → env m = setEnv env k yv m := fun x hx m hm => (setEnv_other fun e => by subst e; rw [mem_has hx hm] at hksp; cases hksp.2.1).symm
  have hFrS : Fr env n S tm := ⟨hfr.1, fun t a ha => by
    have := h.hS.look ha
    rw [AV.ren_id] at this
    exact hfr.2 t a this⟩
  -- the state at the iterator's call
  have hTp : ∀ x ∈ T, x.name ≠ gm ∧ ∀ z ∈ V0 s0.1, z.name ≠ x.name := fun x hx => by
    have := List.all_eq_true.1 hT.h0 x.name (List.mem_map.2 ⟨x, hx, rfl⟩)
    simp only [Bool.and_eq_true, Bool.not_eq_true'] at this
    refine ⟨fun e => (by rw [e, Nat.beq_refl] at this; exact nomatch this.2), fun z hz e => ?_⟩
    have h2 : (List.map NEnt.name (V0 s0.1)).contains x.name = true := List.contains_iff_mem.2 (List.mem_map.2 ⟨z, hz, e⟩)
    rw [h2] at this; cases this.1
  have hTnd := nodup_of_B hT.hn
  have hTN : ∀ x ∈ T, ∀ z ∈ needI, x.name ≠ z.name := fun x hx z hz e => (List.nodup_append.1 hTnd).2.2 _ (List.mem_map.2 ⟨x, hx, rfl⟩) _ (List.mem_map.2 ⟨z, hz, rfl⟩) e
  have hcase : ∀ x ∈ (NEnt.inv k (I s0) :: NEnt.inv gm J' :: (T ++ needI)), x = .inv k (I s0) ∨ x = .inv gm J' ∨ x ∈ T ∨ x ∈ needI := fun x hx => by simpa using hx
  obtain ⟨OC, hOC⟩ : ∃ OC : Nat → Nat → Prop, OC = fun m b => if m = k then (b = l ∨ ∃ x ∈ V0 s0.1, O x.name b) else if m = gm then Oj b else m ∈ T.map NEnt.name ∧ O m b := ⟨_, rfl⟩
  have oK : ∀ b, OC k b ↔ (b = l ∨ ∃ x ∈ V0 s0.1, O x.name b) := fun b => by rw [hOC]; simp
  have oG : ∀ b, OC gm b ↔ Oj b := fun b => by rw [hOC]; simp [hksp.2.2.symm]
  have oT : ∀ x ∈ T, ∀ b, OC x.name b ↔ O x.name b := fun x hx b => by
    rw [hOC]
    simp only [hkV x (hT.hV x hx), (hTp x hx).1, if_false]
    exact ⟨fun h => h.2, fun h => ⟨List.mem_map.2 ⟨x, hx, rfl⟩, h⟩⟩
  have oN : ∀ x ∈ needI, ∀ b, ¬ OC x.name b := fun x hx b hb => by
    rw [hOC] at hb
    simp only [hkV x (h.hN x hx), hgN x hx, if_false] at hb
    obtain ⟨z, hz, e⟩ := List.mem_map.1 hb.1
    exact hTN z hz x hx e
  have hstC : St c (setEnv env k yv) (.inv k (I s0) :: .inv gm J' :: (T ++ needI)) W2 OC R := by
    refine ⟨hst.keep.trans hkp (fun _ _ x => x.elim), fun x hx => ?_, fun x hx b hb => ?_, fun x hx z hz hne b hb => ?_, fun b hb => ⟨Nat.lt_of_lt_of_le (hst.ro b hb).1 hkp.size, (hst.ro b hb).2⟩, hst.r0, ?_⟩
    · rcases hcase x hx with rfl | rfl | hx | hx
      · simp only [NEnt.holds, NEnt.name, setEnv_same]
        refine ⟨rfl, (oK l).2 (.inl rfl), by rw [hs0]; exact hrec, env, O, hFrS, fun x hx => ?_, fun x hx b hb => ⟨(oK b).2 (.inr ⟨x, hx, hb⟩), fun e => ?_⟩, fun x hx z hz => hst.apart x (h.hV x hx) z (h.hV z hz)⟩
        · exact NEnt.holds_keep (fun b hb => hkW b (hst.own x (h.hV x hx) b hb).1) (fun b hb => ⟨hb, hkW b (hst.ro b hb).1⟩) (hst.holds x (h.hV x hx))
        · have := (hst.own x (h.hV x hx) b hb).1; omega
      · simp only [NEnt.holds, NEnt.name]
        have e : OC gm = Oj := funext fun b => propext (oG b)
        rw [e]
        exact hJok _ _
      · have e : OC x.name = O x.name := funext fun b => propext (oT x hx b)
        rw [e]
        exact NEnt.holds_congr (hcongr x (hT.hV x hx)) (NEnt.holds_keep (fun b hb => hkW b (hst.own x (hT.hV x hx) b hb).1) (fun b hb => ⟨hb, hkW b (hst.ro b hb).1⟩) (hst.holds x (hT.hV x hx)))
      · refine ro_holds (O := fun _ => False) (hroN x hx) ?_ _
        refine NEnt.holds_congr (hcongr x (h.hN x hx)) (ro_holds (hroN x hx) (NEnt.holds_keep (fun b hb => hkW b (hst.own x (h.hN x hx) b hb).1) (fun b hb => ⟨hb, hkW b (hst.ro b hb).1⟩) (hst.holds x (h.hN x hx))) _)
    · rcases hcase x hx with rfl | rfl | hx | hx
      · rcases (oK b).1 hb with rfl | ⟨z, hz, hb⟩
        · exact ⟨hlt, .inl (Nat.le_trans hst.keep.size hl), fun hr => by have := (hst.ro _ hr).1; omega⟩
        · obtain ⟨g1, g2, g3⟩ := hst.own z (h.hV z hz) b hb
          exact ⟨Nat.lt_of_lt_of_le g1 hkp.size, g2, g3⟩
      · obtain ⟨g1, g2, g3⟩ := hOj b ((oG b).1 hb)
        refine ⟨g1, ?_, fun hr => ?_⟩
        · rcases g3 with g3 | g3
          · exact (hst.own _ hJ b g3).2.1
          · exact .inl (Nat.le_trans hst.keep.size g3)
        · rcases g3 with g3 | g3
          · exact (hst.own _ hJ b g3).2.2 hr
          · have := (hst.ro _ hr).1; omega
      · obtain ⟨g1, g2, g3⟩ := hst.own x (hT.hV x hx) b ((oT x hx b).1 hb)
        exact ⟨Nat.lt_of_lt_of_le g1 hkp.size, g2, g3⟩
      · exact (oN x hx b hb).elim
    · have key : ∀ b, (b = l ∨ ∃ x ∈ V0 s0.1, O x.name b) → Oj b → False := by
        intro b h1 h2
        obtain ⟨g1, g2, g3⟩ := hOj b h2
        rcases h1 with rfl | ⟨z, hz, h1⟩
        · exact g2 rfl
        · rcases g3 with g3 | g3
          · exact hst.apart z (h.hV z hz) _ hJ (hgV0 z hz) b ⟨h1, g3⟩
          · have := (hst.own z (h.hV z hz) b h1).1; omega
      have keyT : ∀ x ∈ T, ∀ b, O x.name b → (b = l ∨ ∃ z ∈ V0 s0.1, O z.name b) → False := by
        intro x hx b h1 h2
        have hb := (hst.own x (hT.hV x hx) b h1).1
        rcases h2 with rfl | ⟨z, hz, h2⟩
        · omega
        · exact hst.apart z (h.hV z hz) x (hT.hV x hx) ((hTp x hx).2 z hz) b ⟨h2, h1⟩
      have keyG : ∀ x ∈ T, ∀ b, O x.name b → Oj b → False := by
        intro x hx b h1 h2
        obtain ⟨g1, g2, g3⟩ := hOj b h2
        have hb := (hst.own x (hT.hV x hx) b h1).1
        rcases g3 with g3 | g3
        · exact hst.apart x (hT.hV x hx) _ hJ (hTp x hx).1 b ⟨h1, g3⟩
        · omega
      have two : ∀ (x z : NEnt), x = .inv k (I s0) ∨ x = .inv gm J' ∨ x ∈ T ∨ x ∈ needI → z = .inv k (I s0) ∨ z = .inv gm J' ∨ z ∈ T ∨ z ∈ needI → x.name ≠ z.name → OC x.name b → OC z.name b → False := by
        intro x z hx hz hne h1 h2
        rcases hx with rfl | rfl | hx | hx <;> rcases hz with rfl | rfl | hz | hz
        · exact hne rfl
        · exact key b ((oK b).1 h1) ((oG b).1 h2)
        · exact keyT z hz b ((oT z hz b).1 h2) ((oK b).1 h1)
        · exact oN z hz b h2
        · exact key b ((oK b).1 h2) ((oG b).1 h1)
        · exact hne rfl
        · exact keyG z hz b ((oT z hz b).1 h2) ((oG b).1 h1)
        · exact oN z hz b h2
        · exact keyT x hx b ((oT x hx b).1 h1) ((oK b).1 h2)
        · exact keyG x hx b ((oT x hx b).1 h1) ((oG b).1 h2)
        · exact hst.apart x (hT.hV x hx) z (hT.hV z hz) hne b ⟨(oT x hx b).1 h1, (oT z hz b).1 h2⟩
        · exact oN z hz b h2
        · exact oN x hx b h1
        · exact oN x hx b h1
        · exact oN x hx b h1
        · exact oN x hx b h1
      exact two x z (hcase x hx) (hcase z hz) hne hb.1 hb.2
    · simp only [List.map_cons, List.map_append, NEnt.name, List.nodup_cons, List.mem_cons, List.mem_append, List.mem_map, not_or, not_exists, not_and]
      exact ⟨⟨hksp.2.2, fun x hx => hkV x (hT.hV x hx), fun x hx => hkV x (h.hN x hx)⟩, ⟨fun x hx => (hTp x hx).1, hgN⟩, hTnd⟩
  have hft := hit I hY
  have hnf : AV.hasL k fi = false ∧ AV.hasL k caps = false := by
    cases g with
    | tmp t =>
      constructor <;> (cases hh : AV.hasL k _ with | false => rfl | true => ?_)
      all_goals
        have h2 := look_has (n := k) (a := .fn gf fi caps) hg (by simp [AV.has, hh])
        rw [hksp.1] at h2; cases h2
    | const v => simp [rho] at hg
    | global v => simp [rho] at hg
    | func v =>
      simp only [rho, Option.some.injEq, AV.fn.injEq] at hg
      rw [← hg.2.1, ← hg.2.2]; exact ⟨rfl, rfl⟩
  have hargs : (AV.denL (setEnv env k yv) (fi ++ (.ref k :: caps))).toArray = (AV.denL env fi).toArray ++ #[yv] ++ (AV.denL env caps).toArray := by
    rw [denL_append]
    simp only [AV.denL, AV.den, setEnv_same, oneOf, yv, denL_set hnf.1, denL_set hnf.2]
    simp
  have hcalls := hft.apply hstC (fun x hx => by
      rcases List.mem_cons.1 hx with rfl | hx
      · simp
      · simp [hx]) (fun x hx => by simp [hx]) h.hro (B_of_nodup (by
      simp only [List.map_cons, NEnt.name, List.nodup_cons, List.mem_map, not_exists, not_and]
      exact ⟨fun x hx => hkV x (hT.hV x hx), (List.nodup_append.1 hTnd).1⟩)) (fun y hy => by
      rcases List.mem_cons.1 hy with rfl | hy
      · exact .inl (by simp [NEnt.name])
      · have := List.all_eq_true.1 hT.h1 y.name (List.mem_map.2 ⟨y, hy, rfl⟩)
        exact .inl (List.mem_cons_of_mem _ (List.contains_iff_mem.1 this)))
  rw [hargs] at hcalls
  refine hcalls.mono ?_
  rintro e W3 ⟨u, rfl, env3, O3, R3, hev3, -, hst3⟩
  have hk3 : NEnt.inv k (I yf) ∈ (NEnt.inv k (I yf) :: T') ++ delV ((NEnt.inv k (I s0) :: T).map NEnt.name) (NEnt.inv k (I s0) :: NEnt.inv gm J' :: (T ++ needI)) := by simp
  have hg3 : NEnt.inv gm J' ∈ (NEnt.inv k (I yf) :: T') ++ delV ((NEnt.inv k (I s0) :: T).map NEnt.name) (NEnt.inv k (I s0) :: NEnt.inv gm J' :: (T ++ needI)) :=
    List.mem_append_right _ (mem_delV.2 ⟨by simp, by
      simp only [List.map_cons, NEnt.name, List.mem_cons, List.mem_map, not_or, not_exists, not_and]
      exact ⟨hksp.2.2.symm, fun x hx => (hTp x hx).1⟩⟩)
  have hok3 := hst3.holds _ hk3
  simp only [NEnt.holds, NEnt.name] at hok3
  obtain ⟨hv3, hOl3, hrec3, envi, Oi, hFri, hholdi, howni, haparti⟩ := hok3
  refine ⟨u, rfl, jmp jl yf.2, _, by
    have := run_endLoop (P := P) hrec3 (by simp only [mkRec]; split <;> simp)
    simpa [mkRec] using this, ?_⟩
  -- the state behind the loop
  have hR3l : ¬ R3 l := (hst3.own _ hk3 l hOl3).2.2
  have hlt3 : l < W3.heap.size := (Array.getElem?_eq_some_iff.1 hrec3).1
  obtain ⟨W4, hW4⟩ : ∃ W4, W4 = W3.putObj l (.loop { mkRec fn tm ps.toArray assign body D (if yf.2 = 0 then .ready else .done) (jmp jl yf.2) with state := .exhausted }) := ⟨_, rfl⟩
  have hsz4 : W4.heap.size = W3.heap.size := by rw [hW4]; simp
  have hoth4 : ∀ b, b ≠ l → W4.heap[b]? = W3.heap[b]? := fun b hb => by rw [hW4]; exact World.putObj_heap_other hb
  have hgne : ∀ x ∈ V0 yf.1, x.name ≠ gm := fun x hx e => by
    have := mem_has hx (NEnt.has_name x); rw [e, h.hgm0 yf.1] at this; cases this
  have hgl : ∀ b, O3 gm b → b ≠ l := fun b hb e => hst3.apart _ hg3 _ hk3 (by simpa [NEnt.name] using hksp.2.2.symm) l ⟨e ▸ hb, hOl3⟩
  obtain ⟨e4, he4⟩ : ∃ e4 : Env, e4 = fun m => if m = gm then env3 gm else envi m := ⟨_, rfl⟩
  have he4o : ∀ m, m ≠ gm → e4 m = envi m := fun m hm => by rw [he4]; exact if_neg hm
  have hst4 : St c e4 (.inv gm J' :: V0 yf.1) W4 (fun m b => if m = gm then O3 gm b else Oi m b) R3 := by
    have hownA : ∀ x ∈ V0 yf.1, ∀ b, Oi x.name b → b < W3.heap.size ∧ (c.w0.heap.size ≤ b ∨ c.M b) ∧ ¬ R3 b ∧ b ≠ l := fun x hx b hb => by
      obtain ⟨g1, g2⟩ := howni x hx b hb
      obtain ⟨q1, q2, q3⟩ := hst3.own _ hk3 b g1
      exact ⟨q1, q2, q3, g2⟩
    refine ⟨hst3.keep.trans (N := fun b => b = l) (by rw [hW4]; exact ⟨rfl, rfl, rfl, by simp, fun q _ hn => World.putObj_heap_other hn⟩) (fun i hi e => ?_), fun x hx => ?_, fun x hx b hb => ?_, fun x hx z hz hne b hb => ?_, fun b hb => by rw [hsz4]; exact hst3.ro b hb, hst3.r0, ?_⟩
    · subst e
      rcases (hst3.own _ hk3 i hOl3).2.1 with g | g
      · omega
      · exact g
    · rcases List.mem_cons.1 hx with rfl | hx2
      · have hJ3 := hst3.holds _ hg3
        simp only [NEnt.holds, NEnt.name, if_true] at hJ3 ⊢
        have e : e4 gm = env3 gm := by rw [he4]; simp
        rw [e]
        exact J'.keep W3 W4 _ R3 R3 (fun b hb => hoth4 b (hgl b hb)) (fun b hb => ⟨hb, hoth4 b fun e => hR3l (e ▸ hb)⟩) _ hJ3
      · simp only [hgne x hx2, if_false]
        refine NEnt.holds_congr (e := envi) (fun m hm => (he4o m fun e => by
          have := mem_has hx2 hm; rw [e, h.hgm0 yf.1] at this; cases this).symm) ?_
        exact NEnt.holds_keep (fun b hb => hoth4 b (hownA x hx2 b hb).2.2.2) (fun b hb => ⟨hb, hoth4 b fun e => hR3l (e ▸ hb)⟩) (hholdi x hx2)
    · rcases List.mem_cons.1 hx with rfl | hx
      · have hb' : O3 gm b := by simpa [NEnt.name] using hb
        rw [hsz4]; exact hst3.own _ hg3 b hb'
      · simp only [hgne x hx, if_false] at hb
        obtain ⟨q1, q2, q3, _⟩ := hownA x hx b hb
        rw [hsz4]; exact ⟨q1, q2, q3⟩
    · rcases List.mem_cons.1 hx with rfl | hx <;> rcases List.mem_cons.1 hz with rfl | hz
      · exact hne rfl
      · have h1 : O3 gm b := by simpa [NEnt.name] using hb.1
        have h2 := hb.2; simp only [hgne z hz, if_false] at h2
        exact hst3.apart _ hg3 _ hk3 (by simpa [NEnt.name] using hksp.2.2.symm) b ⟨h1, (howni z hz b h2).1⟩
      · have h1 : O3 gm b := by simpa [NEnt.name] using hb.2
        have h2 := hb.1; simp only [hgne x hx, if_false] at h2
        exact hst3.apart _ hg3 _ hk3 (by simpa [NEnt.name] using hksp.2.2.symm) b ⟨h1, (howni x hx b h2).1⟩
      · have h1 := hb.1; have h2 := hb.2
        simp only [hgne x hx, hgne z hz, if_false] at h1 h2
        exact haparti x hx z hz hne b ⟨h1, h2⟩
    · have hnd := nodup_of_B h.hnn
      simp only [List.map_cons, NEnt.name, List.nodup_cons, List.mem_map, not_exists, not_and]
      refine ⟨hgne, ?_⟩
      exact nodup_of_B (h.hnv yf.1)
  have hFr4 : Fr e4 n S tm := hFri.congr fun m hm => (he4o m fun e => by subst e; rw [hgmp.1] at hm; cases hm).symm
  have := hdone e4 tm W4 _ R3 hFr4 hst4
  rw [hW4] at this
  exact this
theorem MarksOk.lt {W : World} {O : Nat → Prop} : ∀ {ds : List Deferred}, MarksOk W O ds → ∀ d ∈ ds, ∃ D, d = { target := .collected D, args := #[] } ∧ D < W.heap.size := by
  intro ds
  induction ds with
  | nil => intro _ d hd; cases hd
  | cons x l ih =>
    rintro ⟨⟨D, rfl, _, h, _⟩, hl⟩ d hd
    rcases List.mem_cons.1 hd with rfl | hd
    · exact ⟨D, rfl, (Array.getElem?_eq_some_iff.1 h).1⟩
    · exact ih hl d hd
theorem rangeO {k gm grec gf : Nat} {fi caps : List AV} {g : Operand} {s0 yf : σ × Nat} {v : AV} (h : LoopOk P n k gm grec s S V needI ps assign body jl ea en f V0 s0.1) (hs0 : s0.2 = 0) (hg : rho s g = some (.fn gf fi caps)) (eg : ∀ args w, (callFunc gf args).run P w = .ok (.enter gf args) w)
    {T T' : List NEnt} (hT : TakesOk V needI (V0 s0.1) gm T T') (i : Nat) (hJ : V[i]? = some (.inv gm (marksI df))) (hit : ∀ I : σ × Nat → Inv, Yields P ea en (loopStep f) I → FT P gf (fi ++ (.ref k :: caps)) (.inv k (I s0) :: T) needI v (.inv k (I yf) :: T'))
    (hdone : ∀ d : Deferred, TC P c ⟨n, none, d :: df⟩ Q (((jmp jl yf.2).map Item.code).toList ++ t) S (.inv gm (marksI (d :: df)) :: V0 yf.1)) :
    TC P c ⟨n, none, df⟩ Q (.code (.rangeFunc g ps.toArray assign body) :: t) s V := by
  intro env tm W O R hfr hst
  have hJm : NEnt.inv gm (marksI df) ∈ V := List.mem_of_getElem? hJ
  have hmk : MarksOk W (O gm) df := hst.holds _ hJm
  refine loop_core (J' := marksI ({ target := .collected W.heap.size, args := #[] } :: df)) h hs0 hg eg hT hJm hit [{ target := .collected W.heap.size, args := #[] }] (hdone _) hfr hst fun fn => ?_
  refine ⟨W.heap.size + 1, W.heap.size, _, run_enterLoop_outer _ _ _ _ _, ?_, ?_, by omega, fun b => b = W.heap.size ∨ O gm b, ?_, ?_⟩
  · have := World.alloc_heap_new (W.alloc (.deferred (some []))) (.loop (mkRec fn tm ps.toArray assign body W.heap.size .ready none)); rwa [World.size_alloc] at this
  · exact (keep_alloc W _).trans (keep_alloc _ _) fun _ _ h => h
  · intro R v
    have hD : ((W.alloc (.deferred (some []))).alloc (.loop (mkRec fn tm ps.toArray assign body W.heap.size .ready none))).heap[W.heap.size]? = some (.deferred (some [])) :=
      (Below.heap_alloc _ _ _ (by simp)).trans (World.alloc_heap_new W _)
    refine ⟨⟨W.heap.size, rfl, .inl rfl, hD, fun d' hd' e => ?_⟩, MarksOk.keep hmk fun b hb => ⟨.inr hb, fun _ => ?_⟩⟩
    · obtain ⟨D, e2, hlt⟩ := hmk.lt d' hd'
      rw [e2] at e; simp at e; omega
    · have hb' := (hst.own _ hJm b hb).1
      exact (Below.heap_alloc _ _ _ (by simp; omega)).trans (Below.heap_alloc _ _ _ hb')
  · rintro b (rfl | hb)
    · exact ⟨by simp only [World.size_alloc]; omega, by omega, .inr (Nat.le_refl _)⟩
    · have hb' := (hst.own _ hJm b hb).1
      have : b < W.heap.size := hb'
      exact ⟨by simp; omega, by omega, .inl hb⟩
end
section
variable {P : Program} {c : Ctx} {sz : Fm} {Q : Exit → Act → World → Prop} {t : List Item} {s : List (Nat × AV)} {V : List NEnt} {jl : List Code}
theorem done0 {j : Nat} (h : (j == 0) = true) (k : TC P c sz Q t s V) : TC P c sz Q (((jmp jl j).map Item.code).toList ++ t) s V := by
  have : j = 0 := by simpa using h
  subst this; exact k
end
def PinsAt {σ : Type} (V : σ → List NEnt) : List Nat → List Nat → Prop
  | n :: ns, i :: is => (∃ g u, ∀ y, (V y)[i]? = some (.pin g n u)) ∧ PinsAt V ns is
  | [], [] => True
  | _, _ => False
theorem PinsAt.get {σ : Type} {V : σ → List NEnt} : ∀ {ns is : List Nat}, PinsAt V ns is → ∀ n ∈ ns, ∃ g u, ∀ y, NEnt.pin g n u ∈ V y := by
  intro ns
  induction ns with
  | nil => intro is _ n hn; cases hn
  | cons m ns ih =>
    intro is h n hn
    cases is with
    | nil => exact h.elim
    | cons i is =>
      rcases List.mem_cons.1 hn with rfl | hn
      · obtain ⟨g, u, h1⟩ := h.1
        exact ⟨g, u, fun y => mem_at i (h1 y)⟩
      · exact ih h.2 n hn
def nsS (S : List (Nat × AV)) : List Nat := S.flatMap fun p => p.2.ns
theorem hasS_ns {n : Nat} {S : List (Nat × AV)} (h : hasS n S = true) : n ∈ nsS S := by
  induction S with
  | nil => cases h
  | cons p S ih =>
    obtain ⟨k, a⟩ := p
    simp only [hasS, Bool.or_eq_true] at h
    simp only [nsS, List.flatMap_cons, List.mem_append]
    exact h.imp (AV.has_ns a) ih
theorem pinsIn {σ : Type} {V : σ → List NEnt} {S : List (Nat × AV)} (ns is : List Nat) (h : PinsAt V ns is) (hs : (nsS S).all ns.contains = true) : PinsIn V S := fun n hn => by
  have := List.all_eq_true.1 hs n (hasS_ns hn)
  exact h.get n (by simpa using this)
section
variable {P : Program} {c : Ctx} {sz : Fm} {Q : Exit → Act → World → Prop} {t : List Item} {s : List (Nat × AV)} {V : List NEnt}
theorem nilCellC (k n E size b : Nat) (els : List (List D)) (cells : List AV) {T : TypeId} (he : els = []) (hk : V[k]? = some (.blk b (AV.nlL n cells) T)) (hf : freshN [.row n E size els] s V = true)
    (h : TC P c sz Q t s (.row n E size els :: V.set k (.blk b cells T))) : TC P c sz Q t s V := (nilCellR (ops := #[]) (rest := []) k n E size b els cells he hk hf).1 h
end
end Go.Proofs.YtohjpfkcahlfkaaGreat.Sy
