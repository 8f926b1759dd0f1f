/- The small logic of symbolic states: arrays at open places, prefixes of a row that is the call's own. -/
import Derived.Test.YtmgcinejodpopaaSymY
set_option linter.unusedSimpArgs false
set_option linter.unusedVariables false
namespace Go.Proofs.Ytmgcinejodpopaa.Sy
open Go.RowKit

/-- sorting that evaluates -/
def ins (x : Int) : List Int → List Int
  | [] => [x]
  | y :: l => if x ≤ y then x :: y :: l else y :: ins x l
def srt : List Int → List Int
  | [] => []
  | x :: l => ins x (srt l)
theorem ins_perm (x : Int) : ∀ l, (ins x l).Perm (x :: l)
  | [] => .refl _
  | y :: l => by
    unfold ins; split
    · exact .refl _
    · exact ((ins_perm x l).cons y).trans (.swap x y l)
theorem srt_perm : ∀ l, (srt l).Perm l
  | [] => .refl _
  | x :: l => (ins_perm x _).trans ((srt_perm l).cons x)
theorem ins_sorted (x : Int) : ∀ l : List Int, l.Pairwise (· ≤ ·) → (ins x l).Pairwise (· ≤ ·)
  | [], _ => by simp [ins]
  | y :: l, h => by
    unfold ins
    have h' := List.pairwise_cons.1 h
    split
    · rename_i hxy
      refine List.pairwise_cons.2 ⟨fun z hz => ?_, h⟩
      rcases List.mem_cons.1 hz with rfl | hz
      · exact hxy
      · exact Int.le_trans hxy (h'.1 z hz)
    · rename_i hxy
      refine List.pairwise_cons.2 ⟨fun z hz => ?_, ins_sorted x l h'.2⟩
      rcases List.mem_cons.1 ((ins_perm x l).mem_iff.1 hz) with rfl | hz
      · omega
      · exact h'.1 z hz
theorem srt_sorted : ∀ l : List Int, (srt l).Pairwise (· ≤ ·)
  | [] => .nil
  | x :: l => ins_sorted x _ (srt_sorted l)
theorem sorted_eq : ∀ {a b : List Int}, a.Perm b → a.Pairwise (· ≤ ·) → b.Pairwise (· ≤ ·) → a = b
  | [], b, p, _, _ => p.nil_eq
  | x :: a, [], p, _, _ => nomatch p.length_eq
  | x :: a, y :: b, p, ha, hb => by
    have h1 := List.pairwise_cons.1 ha
    have h2 := List.pairwise_cons.1 hb
    have e : x = y := by
      have hx : x ∈ y :: b := p.mem_iff.1 (by simp)
      have hy : y ∈ x :: a := p.mem_iff.2 (by simp)
      have i1 : y ≤ x := by
        rcases List.mem_cons.1 hx with e | h
        · omega
        · exact h2.1 x h
      have i2 : x ≤ y := by
        rcases List.mem_cons.1 hy with e | h
        · omega
        · exact h1.1 y h
      omega
    subst e
    rw [sorted_eq ((List.perm_cons x).1 p) h1.2 h2.2]
theorem sortL_srt (zs : List Int) : sortL zs = srt zs := by
  refine sorted_eq ((List.mergeSort_perm zs _).trans (srt_perm zs).symm) ?_ (srt_sorted zs)
  have h := List.pairwise_mergeSort (le := fun x y : Int => decide (x ≤ y)) (fun a b c h1 h2 => by simp at *; omega) (fun a b => by simp; omega) zs
  exact h.imp fun h => of_decide_eq_true h
theorem ft_sortS {P : Program} {ρ : Shelf.Ren} (L : Lays.n189 P ρ) {E : TypeId} {zs : List Int} (hroom : room 8 zs.length = true) :
    FT P (ρ.f 189) [.ref 0] [.row 0 E 1 (zs.map fun z => [D.v (.int .i64 z)])] [] (.tup []) [.row 0 E 1 ((srt zs).map fun z => [D.v (.int .i64 z)])] := by
  rw [← sortL_srt]; exact ft_sortI L hroom
/-- a slice value that is cut -/
def cutV (u : Value) (h : Nat) : Value := match u with
  | .slice a _ c => .slice a h c
  | v => v
section
variable {P : Program} {c : Ctx} {sz : Fm} {Q : Exit → Act → World → Prop} {t : List Item} {s : List (Nat × AV)} {V : List NEnt} {ops : Array Oper} {rest : List Oper} {o : Oper} {ρ : Operand → Option AV}
theorem TL.pin (g n : Nat) (hf : (!hasS g s && !hasV g V) = true) (hg : Nat.beq g n = false) (h : ∀ u, TL P c sz Q ops rest t s (.pin g n u :: V)) : TL P c sz Q ops rest t s V := by
  simp only [Bool.and_eq_true, Bool.not_eq_true'] at hf
  intro env tm W O R hfr hst
  have hgn : g ≠ n := fun e => by subst e; rw [Nat.beq_refl] at hg; cases hg
  have hst' := hst.addRo (x := .pin g n (env n)) (v := .bool false) hf.2 fun O => by
    simp only [NEnt.holds, NEnt.name, setEnv_other hgn]
  exact h (env n) _ tm W _ R (hfr.congr fun m hm => (setEnv_other fun e => by subst e; simp only [NEnt.name] at hm; rw [hf.1] at hm; cases hm).symm) hst'
theorem sp_cutPin {T E size bytes n g N : Nat} {u : Value} {x : Operand} {hi : Option Operand} {h : Int} {els : List (List D)} (hl : els.length = N) (ho : o.op = .slice T x none hi none) (hx : ρ x = some (.ref n)) (hT : SlT P T E size bytes)
    (hhi : Cut ρ hi (N : Int) h) (hb : (decide (0 ≤ h) && decide (h ≤ (N : Int))) = true) : OpSpec P o ρ [.row n E size els, .pin g n u] (.val (cutV u h.toNat)) [] :=
  .pure fun ev env W O R hev hn => by
  subst hl
  have hh := hn (.row n E size els) (by simp)
  have hp : env n = u := hn (.pin g n u) (by simp)
  simp only [Bool.and_eq_true, decide_eq_true_eq] at hb
  obtain ⟨h, rfl⟩ : ∃ h' : Nat, h = h' := ⟨h.toNat, by omega⟩
  simp only [Int.toNat_natCast]
  have hle : h ≤ els.length := by omega
  obtain ⟨hs, cells, hown, hob, hcd⟩ := hh
  obtain ⟨ti, z, hti, _, hts, _, _⟩ := hT.info
  obtain ⟨a, cap, hv, hlc⟩ : ∃ a cap, env n = .slice a els.length cap ∧ els.length ≤ cap := by
    rcases hown.2 with ⟨hv, h0⟩ | ⟨g, cap, cur, hv, _, _, hnc, _⟩
    · exact ⟨none, 0, by rw [h0]; exact hv, by omega⟩
    · exact ⟨_, cap, hv, hnc⟩
  have hx' := hev x _ hx
  simp only [AV.den, hv, oneOf] at hx'
  have hsb : ∀ (w : World), (Instr.sliceBounds true els.length cap none (hi.map ev) none).run P w = .ok (0, h, cap) w := by
    intro w
    have hhc : h ≤ cap := by omega
    cases hi with
    | none => simp only [Cut] at hhi; have : h = els.length := by omega
              simp [Instr.sliceBounds, this]
    | some y => obtain ⟨kk, hk⟩ := hhi; simp [Instr.sliceBounds, hev y _ hk, AV.den, Instr.sliceBound, asIntOf, hhc]
  have hmap : (if cap = 0 then a else a.map (·.add (0 * size))) = a := by
    split
    · rfl
    · cases a with
      | none => rfl
      | some ad => simp [Addr.add]
  rw [← hp, hv]
  simp only [execOp, ho, Instr.sliceAt, Instr.slice, Sem.run_bind, run_underlying hT.under, Result.andThen_ok, hx', Option.map_none, hsb, sizeOf, typeInfo, run_program, hti, hts, Sem.run_pure, Nat.sub_zero, hmap, AV.den, cutV]
theorem owns_cut {E size h : Nat} {els : List (List D)} {W : World} {O R : Nat → Prop} {u : Value} (hu : owns E size els W O R u) (hle : h ≤ els.length) : owns E size (els.take h) W O R (cutV u h) := by
  obtain ⟨hs, cells, hown, hob, hcd⟩ := hu
  obtain ⟨a, cap, hv, hlc⟩ : ∃ a cap, u = .slice a els.length cap ∧ els.length ≤ cap := by
    rcases hown.2 with ⟨hv, h0⟩ | ⟨g, cap, cur, hv, _, _, hnc, _⟩
    · exact ⟨none, 0, by rw [h0]; exact hv, by omega⟩
    · exact ⟨_, cap, hv, hnc⟩
  subst hv
  have hown' : W.ownsRow 0 E size (.slice a h cap) h (cells.take (h * size)) := by
    refine ⟨by rw [List.length_take, hown.1]; exact Nat.min_eq_left (Nat.mul_le_mul_right _ hle), ?_⟩
    rcases hown.2 with ⟨hv2, h0⟩ | ⟨g, cap2, cur, hv2, q1, q2, q3, q4, q5, q6⟩
    · simp only [Value.slice.injEq] at hv2
      obtain ⟨rfl, h0', rfl⟩ := hv2
      exact .inl ⟨by rw [show h = 0 by omega], by omega⟩
    · simp only [Value.slice.injEq, true_and] at hv2
      obtain ⟨rfl, rfl⟩ := hv2
      refine .inr ⟨g, cap, cur, rfl, q1, q2, by omega, q4, q5, ?_⟩
      rw [← q6, List.take_take, Nat.min_eq_left (Nat.mul_le_mul_right _ hle)]
  refine ⟨fun el he => hs el (List.mem_of_mem_take he), cells.take (h * size), by simpa [Nat.min_eq_left hle, cutV] using hown', fun b hb => hob b ?_, fun q d hq => ?_⟩
  · simp only [cutV] at hb
    cases a with
    | none => cases hb
    | some ad => exact hb
  · have hfl := flatten_len els hs
    have hft : (els.take h).flatten = els.flatten.take (h * size) := by
      have e : els.flatten = (els.take h).flatten ++ (els.drop h).flatten := by rw [← List.flatten_append, List.take_append_drop]
      have e2 : (els.take h).flatten.length = h * size := by
        rw [flatten_len (els.take h) fun el he => hs el (List.mem_of_mem_take he), List.length_take, Nat.min_eq_left hle]
      rw [e, ← e2, List.take_left]
    rw [hft, List.getElem?_take] at hq
    split at hq
    · rename_i hlt
      obtain ⟨u, hu, hok'⟩ := hcd q d hq
      exact ⟨u, by rw [List.getElem?_take_of_lt hlt]; exact hu, hok'⟩
    · cases hq
/-- a slice value that is read: its elements are data -/
def Src (size : Nat) (els : List (List D)) (W : World) (R : Nat → Prop) (v : Value) : Prop :=
  ∃ a cap, v = .slice a els.length cap ∧ els.length ≤ cap ∧ cap ≤ maxLen ∧ (a = none → cap = 0) ∧
    ∀ i el, els[i]? = some el → el.length = size ∧ ∀ j d, el[j]? = some d → ∃ b o, a = some ⟨b, o, none⟩ ∧ ∃ u : Value, W.cell? ⟨b, o + (i * size + j), none⟩ = some u ∧ d.ok W R u ∧ u.oneCell' = true
theorem src_row {y : NEnt} {m size : Nat} {els : List (List D)} {env : Env} {W : World} {O R : Nat → Prop} (hy : IsRow y m size els) (h : y.holds env W O R) : Src size els W R (oneOf (env m)) := by
  obtain ⟨a, cap, h1, h2, h3, h4, h5⟩ := row_read hy h
  rw [h1]
  refine ⟨a, cap, rfl, h2, h3, h4, fun i el hi => ⟨(h5 i el hi).1, fun j d hj => ?_⟩⟩
  obtain ⟨b, o, ha, _, u, hu⟩ := (h5 i el hi).2 j d hj
  exact ⟨b, o, ha, u, hu⟩
/-- a part of a slice -/
def viewV (u : Value) (size l h : Nat) : Value := match u with
  | .slice a _ c => .slice (if c = l then a else a.map (·.add (l * size))) (h - l) (c - l)
  | v => v
theorem src_view {y : NEnt} {m size l h : Nat} {els : List (List D)} {env : Env} {W : World} {O R : Nat → Prop} (hy : IsRow y m size els) (hh : y.holds env W O R) (hl : l ≤ h) (hle : h ≤ els.length) : Src size ((els.take h).drop l) W R (viewV (env m) size l h) := by
  obtain ⟨a, cap, h1, h2, h3, h4, h5⟩ := row_read hy hh
  rw [h1]
  have hlen : ((els.take h).drop l).length = h - l := by simp; omega
  refine ⟨_, cap - l, by rw [hlen]; rfl, by omega, by omega, fun hnone => ?_, fun i el hi' => ?_⟩
  · split at hnone
    · omega
    · cases a with
      | none => have := h4 rfl; omega
      | some a => simp at hnone
  · have hget : els[l + i]? = some el := by
      rw [List.getElem?_drop, List.getElem?_take] at hi'
      split at hi'
      · exact hi'
      · cases hi'
    refine ⟨(h5 _ _ hget).1, fun j d hj => ?_⟩
    obtain ⟨b, o', ha, hb', u, hu, hok⟩ := (h5 _ _ hget).2 j d hj
    subst ha
    have hilt : i < h - l := by
      have := (List.getElem?_eq_some_iff.1 hi').1; rw [hlen] at this; exact this
    rw [if_neg (by omega)]
    refine ⟨b, o' + l * size, by simp [add_lit], u, ?_, hok⟩
    rw [show o' + l * size + (i * size + j) = o' + ((l + i) * size + j) by rw [Nat.add_mul]; omega]
    exact hu
theorem src_cells {size : Nat} {els : List (List D)} {W : World} {R : Nat → Prop} {v : Value} (hpos : 0 < size) (h : Src size els W R v) :
    ∃ a cap, v = .slice a els.length cap ∧ (a = none → cap = 0) ∧ (a = none → els = []) ∧ (∀ el ∈ els, el.length = size) ∧ ∃ us : List Value, us.length = els.length * size ∧ (∀ u ∈ us, u.oneCell' = true) ∧
      (∀ ad, a = some ad → ∀ j u, us[j]? = some u → W.cell? (ad.add j) = some u) ∧ ∀ (q : Nat) (d : D), els.flatten[q]? = some d → ∃ u : Value, us[q]? = some u ∧ d.ok W R u := by
  obtain ⟨a, cap, h1, h2, h3, h4, h5⟩ := h
  have hs : ∀ el ∈ els, el.length = size := fun el he => by
    obtain ⟨i, hi⟩ := List.mem_iff_getElem?.1 he
    exact (h5 i el hi).1
  refine ⟨a, cap, h1, h4, fun e => List.eq_nil_of_length_eq_zero (by have := h4 e; omega), hs, ?_⟩
  have key : ∀ q, q < els.length * size → ∃ u : Value, u.oneCell' = true ∧ (∀ ad, a = some ad → W.cell? (ad.add q) = some u) ∧ ∀ d : D, els.flatten[q]? = some d → d.ok W R u := by
    intro q hq
    have hml := Nat.mod_lt q hpos
    have hql : q / size < els.length := by rw [Nat.div_lt_iff_lt_mul hpos]; exact hq
    have hqe : q = q / size * size + q % size := by have := Nat.div_add_mod q size; rw [Nat.mul_comm]; omega
    have hget : els[q / size]? = some els[q / size] := by simp
    have hel := hs _ (List.getElem_mem hql)
    have hd : els[q / size][q % size]? = some (els[q / size][q % size]'(by omega)) := by simp
    obtain ⟨b, o, ha, u, hu, hok, h1c⟩ := (h5 _ _ hget).2 _ _ hd
    refine ⟨u, h1c, fun ad had => ?_, fun d hd' => ?_⟩
    · rw [ha] at had; cases had; rw [add_lit, hqe]
      have : q / size * size + q % size = q := hqe.symm
      rw [← hqe]; rw [this] at hu; exact hu
    · rw [hqe, flatten_get els _ _ _ hs hget hml, hd] at hd'
      cases hd'; exact hok
  obtain ⟨us, hul, hus⟩ : ∃ us : List Value, us.length = els.length * size ∧ ∀ (q : Nat) (u : Value), us[q]? = some u → u.oneCell' = true ∧ (∀ ad, a = some ad → W.cell? (ad.add q) = some u) ∧ ∀ d : D, els.flatten[q]? = some d → d.ok W R u := by
    generalize els.length * size = N at key
    induction N with
    | zero => exact ⟨[], rfl, by simp⟩
    | succ N ih =>
      obtain ⟨us, e1, e2⟩ := ih (fun q hq => key q (by omega))
      obtain ⟨u, hu⟩ := key N (by omega)
      refine ⟨us ++ [u], by simp [e1], fun q v hq => ?_⟩
      rcases Nat.lt_or_ge q us.length with hlt | hge
      · rw [List.getElem?_append_left hlt] at hq; exact e2 q v hq
      · have : q = N := by
          have := (List.getElem?_eq_some_iff.1 hq).1
          simp at this; omega
        subst this
        rw [List.getElem?_append_right hge] at hq
        simp [e1] at hq; subst hq; exact hu
  refine ⟨us, hul, fun u hu => ?_, fun ad had j u hj => (hus j u hj).2.1 ad had, fun q d hq => ?_⟩
  · obtain ⟨j, hj⟩ := List.mem_iff_getElem?.1 hu; exact (hus j u hj).1
  · have hlt : q < us.length := by
      have := (List.getElem?_eq_some_iff.1 hq).1
      rw [flatten_len _ hs] at this; omega
    exact ⟨us[q], by simp, (hus q us[q] (by simp)).2.2 d hq⟩
theorem sp_view {T E size bytes n g N : Nat} {u : Value} {x : Operand} {lo hi : Option Operand} {l h : Int} {els : List (List D)} {y : NEnt} (hl : els.length = N) (ho : o.op = .slice T x lo hi none) (hx : ρ x = some (.ref n)) (hy : IsRow y n size els) (hT : SlT P T E size bytes)
    (hlo : Cut ρ lo 0 l) (hhi : Cut ρ hi (N : Int) h) (hb : (decide (0 ≤ l) && (decide (l ≤ h) && decide (h ≤ (N : Int)))) = true) : OpSpec P o ρ [y, .pin g n u] (.val (viewV u size l.toNat h.toNat)) [] :=
  .pure fun ev env W O R hev hn => by
  subst hl
  have hp : env n = u := hn (.pin g n u) (by simp)
  simp only [Bool.and_eq_true, decide_eq_true_eq] at hb
  obtain ⟨hb1, hb2, hb3⟩ := hb
  obtain ⟨h, rfl⟩ : ∃ h' : Nat, h = h' := ⟨h.toNat, by omega⟩
  obtain ⟨l, rfl⟩ : ∃ l' : Nat, l = l' := ⟨l.toNat, by omega⟩
  obtain ⟨a, cap, h1, h2, h3, h4, h5⟩ := row_read hy (hn y (by simp))
  obtain ⟨ti, z, hti, _, hts, _, _⟩ := hT.info
  have hx' := hev x _ hx
  simp only [AV.den, h1, oneOf] at hx'
  have hhc : h ≤ cap := by omega
  have hsb : ∀ (w : World), (Instr.sliceBounds true els.length cap (lo.map ev) (hi.map ev) none).run P w = .ok (l, h, cap) w := by
    intro w
    have hh : (match hi.map ev, (none : Option Value) with
        | some v, some _ => Instr.sliceBound v cap .slice3B
        | some v, none => Instr.sliceBound v cap .sliceAcap
        | none, none => pure els.length
        | none, some _ => stuck "Slice: max without high").run P w = .ok h w := by
      cases hi with
      | none => simp only [Cut] at hhi; simp; omega
      | some y => obtain ⟨k, hk⟩ := hhi; simp [hev y _ hk, AV.den, Instr.sliceBound, asIntOf, hhc]
    have hl : (match lo.map ev with
        | some v => Instr.sliceBound v h .sliceB
        | none => pure 0).run P w = .ok l w := by
      cases lo with
      | none => simp only [Cut] at hlo; simp; omega
      | some y => obtain ⟨k, hk⟩ := hlo; simp [hev y _ hk, AV.den, Instr.sliceBound, asIntOf, show l ≤ h by omega]
    cases hi <;> cases lo <;> simp [Instr.sliceBounds] at hh hl ⊢ <;> simp [hh, hl]
  rw [← hp, h1]
  simp only [execOp, ho, Instr.sliceAt, Instr.slice, Sem.run_bind, run_underlying hT.under, Result.andThen_ok, hx', Option.map_none, hsb, sizeOf, typeInfo, run_program, hti, hts, Sem.run_pure, AV.den, viewV, Int.toNat_natCast]
/-- where an append goes to: a row, or a prefix of it -/
def Dst (n E size : Nat) (els0 els : List (List D)) (need : List NEnt) (ax : AV) : Prop :=
  ∀ (env : Env) (W : World) (O : Nat → Nat → Prop) (R : Nat → Prop), (NEnt.row n E size els0).holds env W (O n) R → (∀ q ∈ need, q.holds env W (O q.name) R) → owns E size els W (O n) R (ax.den env)
/-- where it comes from -/
def From2 (n E size : Nat) (els0 els2 : List (List D)) (need : List NEnt) (ay : AV) : Prop :=
  ∀ (env : Env) (W : World) (O : Nat → Nat → Prop) (R : Nat → Prop), (NEnt.row n E size els0).holds env W (O n) R → (∀ q ∈ need, q.holds env W (O q.name) R) → Src size els2 W R (ay.den env)
theorem dst_ref {n E size : Nat} {els : List (List D)} {need : List NEnt} : Dst n E size els els need (.ref n) := fun env W O R h _ => by
  have h' : owns E size els W (O n) R (env n) := h
  obtain ⟨_, cells, hown, _⟩ := h
  have : oneOf (env n) = env n := by
    rcases hown.2 with ⟨hv, _⟩ | ⟨g, cap, cur, hv, _⟩ <;> rw [hv] <;> rfl
  simp only [AV.den, this]; exact h'
theorem dst_cut {n E size g h : Nat} {u : Value} {els els' : List (List D)} {need : List NEnt} (k : Nat) (hp : need[k]? = some (.pin g n u)) (hle : Nat.ble h els.length = true) (hc : els.take h = els') : Dst n E size els els' need (.val (cutV u h)) := fun env W O R hh hn => by
  subst hc
  have hpin : env n = u := hn _ (List.mem_of_getElem? hp)
  have h' : owns E size els W (O n) R (env n) := hh
  rw [hpin] at h'
  exact owns_cut h' (Nat.le_of_ble_eq_true hle)
theorem from_ref {n E size m : Nat} {els0 els : List (List D)} {need : List NEnt} {ym : NEnt} (k : Nat) (hk : need[k]? = some ym) (hy : IsRow ym m size els) : From2 n E size els0 els need (.ref m) := fun env W O R _ hn => src_row hy (hn _ (List.mem_of_getElem? hk))
theorem from_view {n E size m g l h : Nat} {u : Value} {els0 els els' : List (List D)} {need : List NEnt} {ym : NEnt} (k j : Nat) (hk : need[k]? = some ym) (hp : need[j]? = some (.pin g m u)) (hy : IsRow ym m size els) (hb : (Nat.ble l h && Nat.ble h els.length) = true) (hc : (els.take h).drop l = els') : From2 n E size els0 els' need (.val (viewV u size l h)) := fun env W O R _ hn => by
  subst hc
  simp only [Bool.and_eq_true] at hb
  have hpin : env m = u := hn _ (List.mem_of_getElem? hp)
  have := src_view hy (hn _ (List.mem_of_getElem? hk)) (Nat.le_of_ble_eq_true hb.1) (Nat.le_of_ble_eq_true hb.2)
  rw [hpin] at this
  exact this
/-- the same row is where it comes from -/
theorem from_self {n E size g l h : Nat} {u : Value} {els els' : List (List D)} {need : List NEnt} (j : Nat) (hp : need[j]? = some (.pin g n u)) (hb : (Nat.ble l h && Nat.ble h els.length) = true) (hc : (els.take h).drop l = els') : From2 n E size els els' need (.val (viewV u size l h)) := fun env W O R hh hn => by
  subst hc
  simp only [Bool.and_eq_true] at hb
  have hpin : env n = u := hn _ (List.mem_of_getElem? hp)
  have := src_view (isOwn (E := E)) hh (Nat.le_of_ble_eq_true hb.1) (Nat.le_of_ble_eq_true hb.2)
  rw [hpin] at this
  exact this
theorem view_ble {α : Type} {els : List α} {N : Nat} {l h : Int} (hl : els.length = N) (hb : (decide (0 ≤ l) && (decide (l ≤ h) && decide (h ≤ (N : Int)))) = true) : (Nat.ble l.toNat h.toNat && Nat.ble h.toNat els.length) = true := by
  simp only [Bool.and_eq_true, decide_eq_true_eq] at hb ⊢
  exact ⟨Nat.ble_eq_true_of_le (by omega), Nat.ble_eq_true_of_le (by omega)⟩
theorem ts_appendG {T E size bytes n N N2 : Nat} (r : Nat) {x y : Operand} {ax ay : AV} {els0 els els2 els3 : List (List D)} {need : List NEnt} (ho : o.op = .call { callee := .builtin .append, args := #[x, y], argTypes := #[T, T] })
    (hx : rho s x = some ax) (hy : rho s y = some ay) (hdst : Dst n E size els0 els need ax) (hsrc : From2 n E size els0 els2 need ay) (hT : SlT P T E size bytes) (hl1 : els.length = N) (hl2 : els2.length = N2) (hroom : room bytes (N + N2) = true) (he3 : els ++ els2 = els3) (hrn : (r == n) = false) :
    TSpec P o (rho s) [.row n E size els0] need (.ref r) [.row r E size els3] := by
  subst hl1; subst hl2; subst he3
  intro ev c env V W O R hev hst ht hk hnn
  have hxm : NEnt.row n E size els0 ∈ V := ht _ (List.mem_singleton.2 rfl)
  have hnd : ∀ q ∈ need, q.holds env W (O q.name) R := fun q hq => hst.holds q (hk q hq)
  obtain ⟨k, hkk⟩ := List.mem_iff_getElem?.1 hxm
  have hrV : hasV r V = false := by
    rcases hnn _ (List.mem_singleton.2 rfl) with h | h
    · simp only [NEnt.name, List.map_cons, List.map_nil, List.mem_singleton] at h
      rw [h] at hrn; simp at hrn
    · exact h
  simp only [room, Bool.and_eq_true, decide_eq_true_eq] at hroom
  obtain ⟨hs, cells, hown, hob, hcd⟩ := hdst env W O R (hst.holds _ hxm) hnd
  obtain ⟨a, cap, hv2, hcap0, hnone, hs2, us, hul, hone, hcell, hok⟩ := src_cells hT.pos (hsrc env W O R (hst.holds _ hxm) hnd)
  obtain ⟨i, z, hi, hz, hsz, hby, hzs⟩ := hT.info
  have hx' := hev _ _ hx
  have hy' := hev _ _ hy
  rw [hv2] at hy'
  generalize ax.den env = w at hown hob hx'
  have hrun : ∃ v' W', (Builtin.append_ #[T, T] o.type #[w, .slice a els2.length cap]).run P W = .ok v' W' ∧ W'.ownsRow 0 E size v' (els.length + els2.length) (cells ++ us) ∧ W.grownBy W' (w).ownBlock ∧
      ∀ b, v'.ownBlock = some b → (w).ownBlock = some b ∨ W.heap.size ≤ b := by
    cases a with
    | none =>
      have he2 := hnone rfl
      subst he2
      have hus : us = [] := List.eq_nil_of_length_eq_zero (by simpa using hul)
      subst hus
      have hc0 : cap = 0 := hcap0 rfl
      subst hc0
      refine ⟨w, W, run_append_owned_none (w := W) 0 T o.type E i size hT.under hi _ _ _ hown, by simpa using hown, ⟨rfl, rfl, rfl, Nat.le_refl _, fun _ _ _ => rfl⟩, fun b hb => .inl hb⟩
    | some ad =>
      obtain ⟨v', W', h1, h2, h3, _⟩ := run_append_own W 0 T o.type E i z size bytes hT.under hi hz hsz hby hzs hT.pos (w) els.length cells hown ad els2.length cap us hul (hcell ad rfl) hone (by simp only [maxLen]; omega) hroom.1 (Nat.zero_le _)
      refine ⟨v', W', h1, h2, h3, fun b hb => ?_⟩
      subst hsz; subst hby
      have h63 : (els.length + els2.length : Nat) ≤ 9223372036854775807 := by omega
      rcases hown.2 with ⟨hv, hn0⟩ | ⟨g, cap2, cur, hv, _, hg, hnc, hcm, hcs, htk⟩
      · rw [hv] at h1
        by_cases h0 : els2.length = 0
        · have hus : us = [] := List.eq_nil_of_length_eq_zero (by simpa [h0] using hul)
          have hl0 : els.length = 0 := hn0
          have : (Builtin.append_ #[T, T] o.type #[.slice none 0 0, .slice (some ad) els2.length cap]).run P W = .ok (.slice none 0 0) W := by
            rw [h0]
            simp [Builtin.append_, run_underlying hT.under, sizeOf, typeInfo, hi, Builtin.lenOf, Builtin.firstCells, loadCells, loadCellsFrom]
          rw [this] at h1
          cases h1
          simp [Value.ownBlock] at hb
        · have hr := run_append_nil (P := P) W T o.type E i z hT.under hi hz ad els2.length cap us hul (hcell ad rfl) (by omega) (by omega) (by have := hroom.1; rw [Nat.add_mul] at this; omega)
          rw [hr] at h1
          cases h1
          simp [Value.ownBlock] at hb
          exact .inr (by omega)
      · rw [hv] at h1 ⊢
        by_cases hroom2 : els.length + els2.length ≤ cap2
        · have hfit : els.length * i.size + us.length ≤ cur.size := by rw [hul, hcs, ← Nat.add_mul]; exact Nat.mul_le_mul_right _ hroom2
          have hr := run_append_room (P := P) W T o.type E i hT.under hi g els.length cap2 cur hg ad els2.length cap us hul (hcell ad rfl) hone hroom2 hfit
          rw [hr] at h1
          cases h1
          exact .inl hb
        · have holds : ∀ j u, cells[j]? = some u → W.cell? ((⟨g, 0, none⟩ : Addr).add j) = some u := World.ownsRow.cells hown (g := g) (by rw [hv]; rfl)
          have hr := run_append_grow (P := P) W T o.type E i z hT.under hi hz ⟨g, 0, none⟩ els.length cap2 cells hown.1 holds ad els2.length cap us hul (hcell ad rfl) (by omega) (by omega) (growslice_fits (by omega) hroom.1)
          rw [hr] at h1
          cases h1
          simp [Value.ownBlock] at hb
          exact .inr (by omega)
  obtain ⟨v', W', hrun, hown', hgrow, hblk⟩ := hrun
  have hexec : (execOp ev o).run P W = .ok (.value v') W' := by
    simp only [execOp, ho, resolve, invoke, builtin, Sem.run_bind, Sem.run_pure, Result.andThen_ok, List.map_toArray, List.map_cons, List.map_nil, hx', hy', hrun]
  rw [hexec]
  have hkeep : Keep (fun b => O n b) W W' := grown_keep hgrow hob
  have hvb : ∀ b, v'.ownBlock = some b → (O n b ∨ W.heap.size ≤ b) ∧ b < W'.heap.size := by
    intro b hb
    exact ⟨(hblk b hb).imp (hob b) id, (hown'.lt b hb).2⟩
  obtain ⟨O', hst'⟩ := hst.replace (y := .row r E size (els ++ els2)) (v := v') (Or := fun b => v'.ownBlock = some b) k hkk hkeep hvb hrV (by
    simp only [NEnt.name, NEnt.holds, setEnv_same]
    refine ⟨fun el he => (List.mem_append.1 he).elim (hs el) (hs2 el), cells ++ us, by simpa using hown', fun b hb => hb, fun q d hq => ?_⟩
    have hRk : ∀ b, R b → R b ∧ W'.heap[b]? = W.heap[b]? := fun b hb => ⟨hb, hkeep.block b (hst.ro b hb).1 (fun ho => (hst.own _ hxm b ho).2.2 hb)⟩
    have hfl := flatten_len els hs
    have hcl : cells.length = els.length * size := hown.1
    rw [List.flatten_append] at hq
    rcases Nat.lt_or_ge q els.flatten.length with hlt | hge
    · rw [List.getElem?_append_left hlt] at hq
      obtain ⟨u, hu, hok', h1⟩ := hcd q d hq
      exact ⟨u, by rw [List.getElem?_append_left (by omega)]; exact hu, d.mono W W' R R hRk u hok', h1⟩
    · rw [List.getElem?_append_right hge] at hq
      obtain ⟨u, hu, hok'⟩ := hok _ d hq
      exact ⟨u, by rw [List.getElem?_append_right (by omega), hcl, ← hfl]; exact hu, d.mono W W' R R hRk u hok', hone u (List.mem_of_getElem? hu)⟩)
  have hone' : oneOf v' = v' := by
    rcases hown'.2 with ⟨hv, _⟩ | ⟨g, cap, cur, hv, _⟩ <;> rw [hv] <;> rfl
  refine ⟨_, O', R, fun q hq => ?_, ?_, hst'.sub (V' := [.row r E size (els ++ els2)] ++ delV [n] V) id (fun z hz => ?_) ?_⟩
  · refine setEnv_other fun e => ?_
    by_cases h : r ∈ [n]
    · simp only [List.mem_singleton] at h
      rw [h] at hrn; simp at hrn
    · exact hq _ (List.mem_singleton.2 rfl) (by simpa [NEnt.name] using h) (by simpa [NEnt.name] using e)
  · show v' = oneOf (setEnv env r v' r)
    rw [setEnv_same, hone']
  · rw [NEnt.ren_id]
    rcases List.mem_append.1 hz with hz | hz
    · exact List.mem_cons.2 (.inl (List.mem_singleton.1 hz))
    · obtain ⟨h1, h2⟩ := mem_delV.1 hz
      refine List.mem_cons_of_mem _ ?_
      obtain ⟨q, hq⟩ := List.mem_iff_getElem?.1 h1
      have hqk : q ≠ k := fun e => by
        subst e; rw [hkk] at hq; cases hq; simp [NEnt.name] at h2
      refine List.mem_iff_getElem?.2 ?_
      rcases Nat.lt_or_gt_of_ne hqk with hlt | hgt
      · exact ⟨q, by rw [List.getElem?_eraseIdx, if_pos hlt]; exact hq⟩
      · exact ⟨q - 1, by rw [List.getElem?_eraseIdx, if_neg (by omega), show q - 1 + 1 = q by omega]; exact hq⟩
  · simp only [id, List.cons_append, List.nil_append, List.map_cons, List.nodup_cons]
    refine ⟨fun hmm => ?_, hst.names.sublist ((delV_sub _ _).map NEnt.name)⟩
    obtain ⟨z, hz, e⟩ := List.mem_map.1 hmm
    have := mem_has (mem_delV.1 hz).1 (NEnt.has_name z)
    rw [e] at this
    simp only [NEnt.name] at this
    rw [hrV] at this; cases this
end
/-- an array of plain data, in a block of its own -/
def arrI {X : Type} (T : TypeId) (enc : X → List Value) (xs : List X) : Inv :=
  ⟨fun W O _ v => ∃ b, v = .pointer (some ⟨b, 0, none⟩) ∧ O b ∧ W.heap[b]? = some (.cells (xs.flatMap enc).toArray T (0, 0)),
   fun W W' O R R' hO _ v h => by obtain ⟨b, h1, h2, h3⟩ := h; exact ⟨b, h1, h2, (hO b h2).trans h3⟩⟩
def IsArr {X : Type} (y : NEnt) (n : Nat) (T : TypeId) (enc : X → List Value) (xs : List X) : Prop := y = .inv n (arrI T enc xs) ∨ y = .any n (arrI T enc xs).froz
section
variable {X : Type} {T' n : Nat} {enc : X → List Value} {xs : List X}
theorem isArrO : IsArr (.inv n (arrI T' enc xs)) n T' enc xs := .inl rfl
theorem isArrR : IsArr (.any n (arrI T' enc xs).froz) n T' enc xs := .inr rfl
theorem arr_holds {y : NEnt} (hy : IsArr y n T' enc xs) {env : Env} {W : World} {O R : Nat → Prop} (h : y.holds env W O R) :
    ∃ b, env n = .pointer (some ⟨b, 0, none⟩) ∧ W.heap[b]? = some (.cells (xs.flatMap enc).toArray T' (0, 0)) := by
  rcases hy with rfl | rfl
  · obtain ⟨b, h1, h2, h3⟩ := h; exact ⟨b, h1, h3⟩
  · obtain ⟨O', _, b, h1, h2, h3⟩ := h; exact ⟨b, h1, h3⟩
theorem flat_get {s : Nat} (hl : ∀ x, (enc x).length = s) {i j : Nat} {x : X} {v : Value} (hx : xs[i]? = some x) (hj : (enc x)[j]? = some v) : (xs.flatMap enc)[i * s + j]? = some v := by
  have h := arr_get (enc := fun x => (enc x).map AV.val) (s := s) (cells := (xs.flatMap fun x => (enc x).map AV.val)) (pre := []) (post := []) (xs := xs) (a := .val v) (i := i) (j := j) (x := x) (fun x => by simp [hl x]) (by
    have := (List.getElem?_eq_some_iff.1 hj).1
    rw [hl] at this
    simp [Nat.blt_eq]; omega) (by simp) hx (by simp [hj])
  have e : (xs.flatMap fun x => (enc x).map AV.val) = (xs.flatMap enc).map AV.val := by rw [List.map_flatMap]
  rw [e] at h
  simpa using h
variable {P : Program} {s : List (Nat × AV)} {o : Oper} {ρ : Operand → Option AV}
theorem sp_nilCheckX {x : Operand} {off : Nat} {y : NEnt} (ho : o.op = .nilCheck x) (hy : IsArr y n T' enc xs) (hx : ρ x = some (.ptr n off)) : OpSpec P o ρ [y] (.ptr n off) [] :=
  .pure fun ev env W O R he hn => by
    obtain ⟨b, hb, _⟩ := arr_holds hy (hn _ (List.mem_singleton.2 rfl))
    simp [execOp, ho, he x _ hx, AV.den, hb, blockOff]
theorem sp_indexX {T E : TypeId} {size len off : Nat} {ag : Bool} {x i : Operand} {k : IntKind} {iv : Int} {y : NEnt} (ho : o.op = .indexAddr T x i) (hy : IsArr y n T' enc xs) (hx : ρ x = some (.ptr n off)) (hi : ρ i = some (.val (.int k iv))) (hT : P.underlying T = some (.array len E)) (hE : VarT P E size ag)
    (h0 : (decide (0 ≤ iv) && decide (iv < len)) = true) : OpSpec P o ρ [y] (.ptr n (off + iv.toNat * size)) [] :=
  .pure fun ev env W O R hev hn => by
    obtain ⟨b, e1, _⟩ := arr_holds hy (hn _ (List.mem_singleton.2 rfl))
    simp only [Bool.and_eq_true, decide_eq_true_eq] at h0
    simp [execOp, ho, hev x _ hx, hev i _ hi, AV.den, e1, blockOff, Instr.indexAt, asIntOf, run_underlying hT, Instr.sureAddr, hE.sizeOf, h0.1, h0.2, add_lit]
theorem sp_loadX {T : TypeId} {x : Operand} {off size i j : Nat} {y : NEnt} {z : X} {v : Value} (ho : o.op = .load T x) (hy : IsArr y n T' enc xs) (hx : ρ x = some (.ptr n off)) (hT : VarT P T 1 false) (hl : ∀ x, (enc x).length = size) (hoff : off = 0 + i * size + j) (hi : xs[i]? = some z) (hj : (enc z)[j]? = some v) :
    OpSpec P o ρ [y] (.val v) [] :=
  .pure fun ev env W O R he hn => by
    rw [Nat.zero_add] at hoff; subst hoff
    obtain ⟨b, h1, h3⟩ := arr_holds hy (hn _ (List.mem_singleton.2 rfl))
    have h4 : W.cell? ⟨b, i * size + j, none⟩ = some v := by simp [World.cell?, h3, flat_get hl hi hj]
    simp [execOp, ho, he x _ hx, AV.den, h1, blockOff, Instr.loadAt, Instr.sureAddr, loadVar, hT.isAgg, h4]
theorem flat_set {enc : X → List Value} {sz : Nat} (hl : ∀ x, (enc x).length = sz) {j : Nat} {z z' : X} {vs : List Value} : ∀ {xs : List X} {i : Nat}, xs[i]? = some z → j + vs.length ≤ sz → enc z' = (enc z).take j ++ vs ++ (enc z).drop (j + vs.length) →
    (xs.flatMap enc).take (i * sz + j) ++ vs ++ (xs.flatMap enc).drop (i * sz + j + vs.length) = (xs.set i z').flatMap enc := by
  intro xs
  induction xs with
  | nil => intro i h; simp at h
  | cons x l ih =>
    intro i hi hle he
    cases i with
    | zero =>
      simp only [List.getElem?_cons_zero, Option.some.injEq] at hi
      subst hi
      have hx := hl x
      simp only [Nat.zero_mul, Nat.zero_add, List.flatMap_cons, List.set_cons_zero, he]
      rw [List.take_append_of_le_length (by omega), List.drop_append_of_le_length (by omega)]
      simp
    | succ i =>
      simp only [List.getElem?_cons_succ] at hi
      have hx := hl x
      have := ih hi hle he
      simp only [List.flatMap_cons, List.set_cons_succ, ← this]
      have e1 : (i + 1) * sz + j = (enc x).length + (i * sz + j) := by rw [hx, Nat.add_mul]; omega
      rw [e1, Nat.add_assoc, List.take_length_add_append, List.drop_length_add_append]
      simp
theorem flat_len {enc : X → List Value} {sz : Nat} (hl : ∀ x, (enc x).length = sz) : ∀ xs : List X, (xs.flatMap enc).length = xs.length * sz
  | [] => by simp
  | x :: l => by rw [List.flatMap_cons, List.length_append, hl x, flat_len hl l, List.length_cons, Nat.add_mul]; omega
theorem ts_storeX {T off size i j N : Nat} {ag : Bool} {x y : Operand} {a : AV} {z z' : X} {vs : List Value} {need : List NEnt} (ho : o.op = .store T x y) (hx : rho s x = some (.ptr n off)) (hy : rho s y = some a) (hfl : a.flat = true) (hcs : a.cs = vs.map .val)
    (hT : VarT P T N ag) (hN : a.cs.length = N) (hl : ∀ x, (enc x).length = size) (hoff : off = 0 + i * size + j) (hi : xs[i]? = some z) (hle : Nat.ble (j + vs.length) size = true) (he : enc z' = (enc z).take j ++ vs ++ (enc z).drop (j + vs.length)) :
    TSpec P o (rho s) [.inv n (arrI T' enc xs)] need (.val undef) [.inv n (arrI T' enc (xs.set i z'))] := by
  rw [Nat.zero_add] at hoff; subst hN; subst hoff
  intro ev c env V W O R hev hst ht _ _
  obtain ⟨k, hk⟩ := List.mem_iff_getElem?.1 (ht _ (List.mem_singleton.2 rfl))
  have hle' := Nat.le_of_ble_eq_true hle
  have hdv : ∀ (e : Env) (l : List Value), AV.denL e (l.map .val) = l := fun e l => by rw [AV.denL_map]; simp [AV.den, Function.comp_def]
  have hst1 := hst.write k (y := .blk n ((xs.flatMap enc).map .val) T') hk (Keep.refl _ W) rfl (by
    obtain ⟨b, h1, h2, h3⟩ := hst.holds _ (List.mem_of_getElem? hk)
    exact ⟨b, h1, h2, by rw [hdv]; exact h3⟩)
  have hlt : k < V.length := (List.getElem?_eq_some_iff.1 hk).1
  have hk1 : (V.set k (NEnt.blk n ((xs.flatMap enc).map .val) T'))[k]? = some (.blk n ((xs.flatMap enc).map .val) T') := by rw [List.getElem?_set_self hlt]
  have hlen : i * size + j + vs.length ≤ (xs.flatMap enc).length := by
    have hv := flat_len hl xs
    have hi' : i < xs.length := (List.getElem?_eq_some_iff.1 hi).1
    have : (i + 1) * size ≤ xs.length * size := Nat.mul_le_mul_right _ hi'
    rw [Nat.add_mul] at this
    omega
  refine (coreB hev hst1 k ho hx hk1 hy hfl hT.sizeOf (by rw [hcs]; simpa using hlen)).mono ?_
  rintro u W' ⟨rfl, h⟩
  rw [List.set_set] at h
  have e : ((xs.flatMap enc).map AV.val).take (i * size + j) ++ a.cs ++ ((xs.flatMap enc).map AV.val).drop (i * size + j + a.cs.length) = ((xs.set i z').flatMap enc).map .val := by
    rw [hcs, ← flat_set hl hi hle' he, List.length_map]
    simp only [List.map_append, List.map_take, List.map_drop]
  rw [e] at h
  have hk2 : (V.set k (NEnt.blk n (((xs.set i z').flatMap enc).map .val) T'))[k]? = some (.blk n (((xs.set i z').flatMap enc).map .val) T') := by rw [List.getElem?_set_self hlt]
  have h2 := h.write k (y := .inv n (arrI T' enc (xs.set i z'))) hk2 (Keep.refl _ W') rfl (by
    obtain ⟨b, h1, h2, h3⟩ := h.holds _ (List.mem_of_getElem? hk2)
    exact ⟨b, h1, h2, by rw [hdv] at h3; exact h3⟩)
  rw [List.set_set] at h2
  exact ⟨env, O, R, fun _ _ => rfl, rfl, St.set_del hk hst.names rfl h2⟩
variable {c : Ctx} {sz : Fm} {Q : Exit → Act → World → Prop} {t : List Item} {V : List NEnt} {ops : Array Oper} {rest : List Oper}
theorem St.toArr {env : Env} {W : World} {O : Nat → Nat → Prop} {R : Nat → Prop} (hst : St c env V W O R) (k : Nat) {cells : List AV} (xs : List X) (hk : V[k]? = some (.blk n cells T')) (hc : cells = (xs.flatMap enc).map .val) : St c env (V.set k (.inv n (arrI T' enc xs))) W O R := by
  subst hc
  have hdv : ∀ (e : Env) (l : List Value), AV.denL e (l.map .val) = l := fun e l => by rw [AV.denL_map]; simp [AV.den, Function.comp_def]
  exact hst.write k hk (Keep.refl _ W) rfl (by
    obtain ⟨b, h1, h2, h3⟩ := hst.holds _ (List.mem_of_getElem? hk)
    exact ⟨b, h1, h2, by rw [hdv] at h3; exact h3⟩)
theorem TC.toArr (k : Nat) {cells : List AV} (xs : List X) (enc : X → List Value) (hk : V[k]? = some (.blk n cells T')) (hc : cells = (xs.flatMap enc).map .val) (h : TC P c sz Q t s (V.set k (.inv n (arrI T' enc xs)))) : TC P c sz Q t s V :=
  fun env tm W O R hf hst => h env tm W O R hf (hst.toArr k xs hk hc)
theorem TL.toArr (k : Nat) {cells : List AV} (xs : List X) (enc : X → List Value) (hk : V[k]? = some (.blk n cells T')) (hc : cells = (xs.flatMap enc).map .val) (h : TL P c sz Q ops rest t s (V.set k (.inv n (arrI T' enc xs)))) : TL P c sz Q ops rest t s V :=
  fun env tm W O R hf hst => h env tm W O R hf (hst.toArr k xs hk hc)
/-- something new that was made of something taken, frozen at once -/
theorem TSpec.froz {P : Program} {o : Oper} {ρ : Operand → Option AV} {take need : List NEnt} {v : AV} {news : List NEnt} {x : NEnt} (j : Nat) (hj : news[j]? = some x) (h : TSpec P o ρ take need v news) : TSpec P o ρ take need v (news.set j x.toRo) := by
  intro ev c env V W O R he hst ht hk hn
  have hnm := set_names (y := x.toRo) hj (NEnt.toRo_name x)
  have hmem : ∀ y ∈ news, ∃ z ∈ news.set j x.toRo, z.name = y.name := fun y hy => by
    have : y.name ∈ (news.set j x.toRo).map NEnt.name := by rw [hnm]; exact List.mem_map.2 ⟨y, hy, rfl⟩
    obtain ⟨z, hz, e⟩ := List.mem_map.1 this
    exact ⟨z, hz, e⟩
  refine (h ev c env V W O R he hst ht hk (fun y hy => by obtain ⟨z, hz, e⟩ := hmem y hy; rw [← e]; exact hn z hz)).mono ?_
  rintro u W' ⟨env', O', R', he', hu, hst'⟩
  have hlt := (List.getElem?_eq_some_iff.1 hj).1
  have hf := hst'.freeze j (x := x) (by rw [List.getElem?_append_left hlt]; exact hj)
  rw [List.set_append_left _ _ hlt] at hf
  refine ⟨env', _, _, fun n hn2 => he' n fun y hy hyt e => ?_, hu, hf⟩
  obtain ⟨z, hz, e2⟩ := hmem y hy
  exact hn2 z hz (by rw [e2]; exact hyt) (by rw [e2]; exact e)
theorem nilCellL (k n E size b : Nat) (els : List (List D)) (cells : List AV) {T : TypeId} (he : els = []) (hk : V[k]? = some (.blk b (AV.nlL n cells) T)) (hf : freshN [.row n E size els] s V = true)
    (h : TL P c sz Q ops rest t s (.row n E size els :: V.set k (.blk b cells T))) : TL P c sz Q ops rest t s V := (nilCellR k n E size b els cells he hk hf).2 h
/-- a slot's row that is read, under a name of its own -/
theorem aliasC (d n m k size : Nat) {els : List (List D)} (hs : look s d = some (.ref n)) (hk : V[k]? = some (.ro n size els)) (hf : freshN [.ro m size els] s V = true)
    (h : TC P c sz Q t ((d, .ref m) :: s) (.ro m size els :: V)) : TC P c sz Q t s V := by
  have hf' : hasS m s = false ∧ hasV m V = false := by simpa [freshN, NEnt.name] using hf
  intro env tm W O R hfr hst
  have hr : reads size els W R (env n) := hst.holds _ (List.mem_of_getElem? hk)
  have hst' := hst.addRo (x := .ro m size els) (v := env n) hf'.2 fun O => by
    simp only [NEnt.holds, NEnt.name, setEnv_same]; exact hr
  refine h (setEnv env m (env n)) tm W _ R ⟨hfr.1, fun t b hb => ?_⟩ hst'
  simp only [look] at hb
  split at hb
  · rename_i e; subst e; cases hb
    rw [hfr.2 _ _ hs]; simp only [AV.den, setEnv_same]
  · rw [hfr.2 t b hb, AV.den_congr b (fun q hq => (setEnv_other (n := m) (m := q) fun e => by subst e; rw [look_has hb hq] at hf'; cases hf'.1).symm)]
theorem cut_ble {α : Type} {els : List α} {N : Nat} {h : Int} (hl : els.length = N) (hb : (decide (0 ≤ h) && decide (h ≤ (N : Int))) = true) : Nat.ble h.toNat els.length = true := by
  simp only [Bool.and_eq_true, decide_eq_true_eq] at hb
  exact Nat.ble_eq_true_of_le (by omega)
end
end Go.Proofs.Ytmgcinejodpopaa.Sy
