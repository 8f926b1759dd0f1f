/- The small logic of symbolic states: append, cuts of slices, calls, returns, the entry of a function. -/
import Derived.Test.YtohjpfkcahlfkaaGreatPbSymD
import Derived.Laws.OwnMore
set_option linter.unusedSimpArgs false
set_option linter.unusedVariables false
namespace Go.Proofs.YtohjpfkcahlfkaaGreat.Sy
open Go.RowKit
def room (bytes n : Nat) : Bool := decide (n * bytes ≤ 140737488355328) && decide (n ≤ 140737488355327)
theorem flatten_len {α : Type} {size : Nat} : ∀ l : List (List α), (∀ x ∈ l, x.length = size) → l.flatten.length = l.length * size := by
  intro l
  induction l with
  | nil => simp
  | cons x l ih => intro hx; simp [hx x (by simp), ih (fun y hy => hx y (by simp [hy])), Nat.add_mul]; omega
theorem row_cells {x : NEnt} {n size : Nat} {els : List (List D)} {env : Env} {W : World} {O R : Nat → Prop} (hx : IsRow x n size els) (hpos : 0 < size) (h : x.holds env W O R) :
    ∃ a cap, env n = .slice a els.length cap ∧ (a = none → els = []) ∧ (∀ el ∈ els, el.length = size) ∧ ∃ us : List Value, us.length = els.length * size ∧ (∀ u ∈ us, u.oneCell' = true) ∧
      (∀ ad, a = some ad → ∀ j u, us[j]? = some u → W.cell? (ad.add j) = some u) ∧ ∀ (q : Nat) (d : D), els.flatten[q]? = some d → ∃ u : Value, us[q]? = some u ∧ d.ok W R u := by
  obtain ⟨a, cap, h1, h2, h3, h4, h5⟩ := row_read hx h
  have hs : ∀ el ∈ els, el.length = size := fun el he => by
    obtain ⟨i, hi⟩ := List.mem_iff_getElem?.1 he
    exact (h5 i el hi).1
  refine ⟨a, cap, h1, fun e => List.eq_nil_of_length_eq_zero (by have := h4 e; omega), hs, ?_⟩
  have key : ∀ q, q < els.length * size → ∃ u : Value, u.oneCell' = true ∧ (∀ ad, a = some ad → W.cell? (ad.add q) = some u) ∧ ∀ d : D, els.flatten[q]? = some d → d.ok W R u := by
    intro q hq
    have hml := Nat.mod_lt q hpos
    have hql : q / size < els.length := by rw [Nat.div_lt_iff_lt_mul hpos]; exact hq
    have hqe : q = q / size * size + q % size := by have := Nat.div_add_mod q size; rw [Nat.mul_comm]; omega
    have hget : els[q / size]? = some els[q / size] := by simp
    have hel := hs _ (List.getElem_mem hql)
    have hd : els[q / size][q % size]? = some (els[q / size][q % size]'(by omega)) := by simp
    obtain ⟨b, o, ha, _, u, hu, hok, h1c⟩ := (h5 _ _ hget).2 _ _ hd
    refine ⟨u, h1c, fun ad had => ?_, fun d hd' => ?_⟩
    · rw [ha] at had; cases had; rw [add_lit, hqe]
      have : q / size * size + q % size = q := hqe.symm
      rw [← hqe]; rw [this] at hu; exact hu
    · rw [hqe, flatten_get els _ _ _ hs hget hml, hd] at hd'
      cases hd'; exact hok
  obtain ⟨us, hul, hus⟩ : ∃ us : List Value, us.length = els.length * size ∧ ∀ (q : Nat) (u : Value), us[q]? = some u → u.oneCell' = true ∧ (∀ ad, a = some ad → W.cell? (ad.add q) = some u) ∧ ∀ d : D, els.flatten[q]? = some d → d.ok W R u := by
    generalize els.length * size = N at key
    induction N with
    | zero => exact ⟨[], rfl, by simp⟩
    | succ N ih =>
      obtain ⟨us, e1, e2⟩ := ih (fun q hq => key q (by omega))
      obtain ⟨u, hu⟩ := key N (by omega)
      refine ⟨us ++ [u], by simp [e1], fun q v hq => ?_⟩
      rcases Nat.lt_or_ge q us.length with hlt | hge
      · rw [List.getElem?_append_left hlt] at hq; exact e2 q v hq
      · have : q = N := by
          have := (List.getElem?_eq_some_iff.1 hq).1
          simp at this; omega
        subst this
        rw [List.getElem?_append_right hge] at hq
        simp [e1] at hq; subst hq; exact hu
  refine ⟨us, hul, fun u hu => ?_, fun ad had j u hj => (hus j u hj).2.1 ad had, fun q d hq => ?_⟩
  · obtain ⟨j, hj⟩ := List.mem_iff_getElem?.1 hu; exact (hus j u hj).1
  · have hlt : q < us.length := by
      have := (List.getElem?_eq_some_iff.1 hq).1
      rw [flatten_len _ hs] at this; omega
    exact ⟨us[q], by simp, (hus q us[q] (by simp)).2.2 d hq⟩
section
variable {P : Program} {c : Ctx} {sz : Fm} {Q : Exit → Act → World → Prop} {t : List Item} {s : List (Nat × AV)} {V : List NEnt} {ops : Array Oper} {rest : List Oper} {o : Oper}
theorem grown_keep {W W' : World} {v : Value} {N : Nat → Prop} (h : W.grownBy W' v.ownBlock) (hN : ∀ b, v.ownBlock = some b → N b) : Keep N W W' :=
  ⟨h.os, h.tape, h.output, h.size, fun k hk hn => h.block k hk (fun e => hn (hN k e.symm))⟩
theorem TL.append (k : Nat) {T E size bytes n m d : Nat} (r : Nat) {x y : Operand} {els els2 : List (List D)} {ym : NEnt} (ho : o.op = .call { callee := .builtin .append, args := #[x, y], argTypes := #[T, T] }) (hd : o.dst = some d) (hw : Wanted ops s o) (hlt : d < sz.sz)
    (hx : rho s x = some (.ref n)) (hk : V[k]? = some (.row n E size els)) (hy : rho s y = some (.ref m)) (hm : ym ∈ V) (hym : IsRow ym m size els2) (hnm : m ≠ n) (hT : SlT P T E size bytes) (hroom : room bytes (els.length + els2.length) = true)
    (hf : freshN [.row r E size (els ++ els2)] s V = true) (h : TL P c sz Q ops rest t ((d, .ref r) :: s) (.row r E size (els ++ els2) :: V.eraseIdx k)) : TL P c sz Q ops (o :: rest) t s V := by
  intro env tm W O R hfr hst
  have hf' : hasS r s = false ∧ hasV r V = false := by simpa [freshN, NEnt.name] using hf
  simp only [room, Bool.and_eq_true, decide_eq_true_eq] at hroom
  have hxm : NEnt.row n E size els ∈ V := List.mem_of_getElem? hk
  obtain ⟨hs, cells, hown, hob, hcd⟩ := hst.holds _ hxm
  obtain ⟨a, cap, hv2, hnone, hs2, us, hul, hone, hcell, hok⟩ := row_cells hym hT.pos (hst.holds _ hm)
  obtain ⟨i, z, hi, hz, hsz, hby, hzs⟩ := hT.info
  have hvx : oneOf (env n) = env n := by
    rcases hown.2 with ⟨hv, _⟩ | ⟨g, cap, cur, hv, _⟩ <;> rw [hv] <;> rfl
  have hx' := rho_eval (df := sz.df) hfr hx
  have hy' := rho_eval (df := sz.df) hfr hy
  simp only [AV.den, hvx] at hx'
  simp only [AV.den, hv2, oneOf] at hy'
  -- what the run comes to
  have hrun : ∃ v' W', (Builtin.append_ #[T, T] o.type #[env n, .slice a els2.length cap]).run P W = .ok v' W' ∧ W'.ownsRow 0 E size v' (els.length + els2.length) (cells ++ us) ∧ W.grownBy W' (env n).ownBlock ∧
      ∀ b, v'.ownBlock = some b → (env n).ownBlock = some b ∨ W.heap.size ≤ b := by
    cases a with
    | none =>
      have he2 := hnone rfl
      subst he2
      have hus : us = [] := List.eq_nil_of_length_eq_zero (by simpa using hul)
      subst hus
      obtain ⟨_, _, h2, _, _, h4, _⟩ := row_read hym (hst.holds _ hm)
      have hc0 : cap = 0 := by
        rw [hv2] at h2; cases h2; exact h4 rfl
      subst hc0
      refine ⟨env n, W, run_append_owned_none (w := W) 0 T o.type E i size hT.under hi _ _ _ hown, by simpa using hown, ⟨rfl, rfl, rfl, Nat.le_refl _, fun _ _ _ => rfl⟩, fun b hb => .inl hb⟩
    | some ad =>
      obtain ⟨v', W', h1, h2, h3, _⟩ := run_append_own W 0 T o.type E i z size bytes hT.under hi hz hsz hby hzs hT.pos (env n) els.length cells hown ad els2.length cap us hul (hcell ad rfl) hone (by simp only [maxLen]; omega) hroom.1 (Nat.zero_le _)
      refine ⟨v', W', h1, h2, h3, fun b hb => ?_⟩
      subst hsz; subst hby
      have h63 : (els.length + els2.length : Nat) ≤ 9223372036854775807 := by omega
      rcases hown.2 with ⟨hv, hn0⟩ | ⟨g, cap2, cur, hv, _, hg, hnc, hcm, hcs, htk⟩
      · rw [hv] at h1
        by_cases h0 : els2.length = 0
        · have hus : us = [] := List.eq_nil_of_length_eq_zero (by simpa [h0] using hul)
          have hl0 : els.length = 0 := hn0
          have : (Builtin.append_ #[T, T] o.type #[.slice none 0 0, .slice (some ad) els2.length cap]).run P W = .ok (.slice none 0 0) W := by
            rw [h0]
            simp [Builtin.append_, run_underlying hT.under, sizeOf, typeInfo, hi, Builtin.lenOf, Builtin.firstCells, loadCells, loadCellsFrom]
          rw [this] at h1
          cases h1
          simp [Value.ownBlock] at hb
        · have hr := run_append_nil (P := P) W T o.type E i z hT.under hi hz ad els2.length cap us hul (hcell ad rfl) (by omega) (by omega) (by have := hroom.1; rw [Nat.add_mul] at this; omega)
          rw [hr] at h1
          cases h1
          simp [Value.ownBlock] at hb
          exact .inr (by omega)
      · rw [hv] at h1 ⊢
        by_cases hroom2 : els.length + els2.length ≤ cap2
        · have hfit : els.length * i.size + us.length ≤ cur.size := by rw [hul, hcs, ← Nat.add_mul]; exact Nat.mul_le_mul_right _ hroom2
          have hr := run_append_room (P := P) W T o.type E i hT.under hi g els.length cap2 cur hg ad els2.length cap us hul (hcell ad rfl) hone hroom2 hfit
          rw [hr] at h1
          cases h1
          exact .inl hb
        · have holds : ∀ j u, cells[j]? = some u → W.cell? ((⟨g, 0, none⟩ : Addr).add j) = some u := World.ownsRow.cells hown (g := g) (by rw [hv]; rfl)
          have hr := run_append_grow (P := P) W T o.type E i z hT.under hi hz ⟨g, 0, none⟩ els.length cap2 cells hown.1 holds ad els2.length cap us hul (hcell ad rfl) (by omega) (by omega) (growslice_fits (by omega) hroom.1)
          rw [hr] at h1
          cases h1
          simp [Value.ownBlock] at hb
          exact .inr (by omega)
  obtain ⟨v', W', hrun, hown', hgrow, hblk⟩ := hrun
  unfold wpListIn
  rw [if_pos (wanted_of hfr hw)]
  have hexec : (execOp (Act.eval ⟨tm, sz.df⟩) o).run P W = .ok (.value v') W' := by
    simp only [execOp, ho, resolve, invoke, builtin, Sem.run_bind, Sem.run_pure, Result.andThen_ok, List.map_toArray, List.map_cons, List.map_nil, hx', hy', hrun]
  refine Does.inn (K := fun u W2 => u = v' ∧ W2 = W') (by rw [hexec]; exact ⟨rfl, rfl⟩) ?_
  rintro u2 W2 ⟨hu2, hW2⟩
  rw [hu2, hW2, hd]
  have hkeep : Keep (fun b => O n b) W W' := grown_keep hgrow hob
  have hOn : ∀ b, (env n).ownBlock = some b → b < W.heap.size := fun b hb => (hst.own _ hxm b (hob b hb)).1
  have hvb : ∀ b, v'.ownBlock = some b → (O n b ∨ W.heap.size ≤ b) ∧ b < W'.heap.size := by
    intro b hb
    exact ⟨(hblk b hb).imp (hob b) id, (hown'.lt b hb).2⟩
  obtain ⟨O', hst'⟩ := hst.replace (y := .row r E size (els ++ els2)) (v := v') (Or := fun b => v'.ownBlock = some b) k hk hkeep hvb hf'.2 (by
    simp only [NEnt.name, NEnt.holds, setEnv_same]
    refine ⟨fun el he => (List.mem_append.1 he).elim (hs el) (hs2 el), cells ++ us, by simpa using hown', fun b hb => hb, fun q d hq => ?_⟩
    have hRk : ∀ b, R b → R b ∧ W'.heap[b]? = W.heap[b]? := fun b hb => ⟨hb, hkeep.block b (hst.ro b hb).1 (fun ho => (hst.own _ hxm b ho).2.2 hb)⟩
    have hfl := flatten_len els hs
    have hcl : cells.length = els.length * size := hown.1
    rw [List.flatten_append] at hq
    rcases Nat.lt_or_ge q els.flatten.length with hlt | hge
    · rw [List.getElem?_append_left hlt] at hq
      obtain ⟨u, hu, hok', h1⟩ := hcd q d hq
      exact ⟨u, by rw [List.getElem?_append_left (by omega)]; exact hu, d.mono W W' R R hRk u hok', h1⟩
    · rw [List.getElem?_append_right hge] at hq
      obtain ⟨u, hu, hok'⟩ := hok _ d hq
      exact ⟨u, by rw [List.getElem?_append_right (by omega), hcl, ← hfl]; exact hu, d.mono W W' R R hRk u hok', hone u (List.mem_of_getElem? hu)⟩)
  have hfr' : Fr (setEnv env r v') sz.sz s tm := hfr.congr fun k hk => (setEnv_other (n := r) (m := k) fun e => by subst e; rw [hf'.1] at hk; cases hk).symm
  have hone' : oneOf v' = v' := by
    rcases hown'.2 with ⟨hv, _⟩ | ⟨g, cap, cur, hv, _⟩ <;> rw [hv] <;> rfl
  have := h _ _ W' O' R ((hfr'.put hlt (a := .ref r))) hst'
  simp only [AV.den, setEnv_same, hone'] at this
  exact this
end
end Go.Proofs.YtohjpfkcahlfkaaGreat.Sy
