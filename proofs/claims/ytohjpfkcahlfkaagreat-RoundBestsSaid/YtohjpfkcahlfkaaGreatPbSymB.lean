/- The small logic of symbolic states: loads, fields, indexes, slices. -/
import Derived.Test.YtohjpfkcahlfkaaGreatPbSymA
set_option linter.unusedSimpArgs false
set_option linter.unusedVariables false
namespace Go.Proofs.YtohjpfkcahlfkaaGreat.Sy
open Go.RowKit
def IsRow (x : NEnt) (n size : Nat) (els : List (List D)) : Prop := x = .ro n size els ∨ ∃ E, x = .row n E size els
theorem IsRow.name {x : NEnt} {n size : Nat} {els : List (List D)} (h : IsRow x n size els) : x.name = n := by
  rcases h with rfl | ⟨E, rfl⟩ <;> rfl
theorem isRo {n size : Nat} {els : List (List D)} : IsRow (.ro n size els) n size els := .inl rfl
theorem isOwn {n E size : Nat} {els : List (List D)} : IsRow (.row n E size els) n size els := .inr ⟨E, rfl⟩
theorem flatten_get {α : Type} {size : Nat} : ∀ (els : List (List α)) (i j : Nat) (el : List α), (∀ x ∈ els, x.length = size) → els[i]? = some el → j < size → els.flatten[i * size + j]? = el[j]? := by
  intro els
  induction els with
  | nil => intro i j el _ h; simp at h
  | cons x l ih =>
    intro i j el hs h hj
    have hx : x.length = size := hs x (by simp)
    cases i with
    | zero =>
      simp at h; subst h
      simp only [Nat.zero_mul, Nat.zero_add, List.flatten_cons]
      rw [List.getElem?_append_left (by omega)]
    | succ i =>
      simp at h
      rw [List.flatten_cons, List.getElem?_append_right (by rw [hx, Nat.add_mul]; omega)]
      rw [show (i + 1) * size + j - x.length = i * size + j by rw [hx, Nat.add_mul]; omega]
      exact ih i j el (fun y hy => hs y (by simp [hy])) h hj
theorem row_read {x : NEnt} {n size : Nat} {els : List (List D)} {env : Env} {W : World} {O R : Nat → Prop} (hx : IsRow x n size els) (h : x.holds env W O R) :
    ∃ a cap, env n = .slice a els.length cap ∧ els.length ≤ cap ∧ cap ≤ maxLen ∧ (a = none → cap = 0) ∧
      ∀ i el, els[i]? = some el → el.length = size ∧ ∀ j d, el[j]? = some d → ∃ b o, a = some ⟨b, o, none⟩ ∧ (R b ∨ O b) ∧ ∃ u : Value, W.cell? ⟨b, o + (i * size + j), none⟩ = some u ∧ d.ok W R u ∧ u.oneCell' = true := by
  rcases hx with rfl | ⟨E, rfl⟩
  · obtain ⟨a, cap, h1, h2, h3, h4, h5⟩ := h
    refine ⟨a, cap, h1, h2, h3, h4, fun i el hi => ⟨(h5 i el hi).1, fun j d hj => ?_⟩⟩
    obtain ⟨b, o, ha, hb, rest⟩ := (h5 i el hi).2 j d hj
    exact ⟨b, o, ha, .inl hb, rest⟩
  · obtain ⟨hs, cells, ho, hb, hd⟩ := h
    rcases ho.2 with ⟨hv, hn⟩ | ⟨g, cap, cur, hv, _, hg, hnc, hcm, hcs, htk⟩
    · have hnil : els = [] := List.eq_nil_of_length_eq_zero hn
      subst hnil
      exact ⟨none, 0, hv, Nat.le_refl _, Nat.zero_le _, fun _ => rfl, fun i el hi => by simp at hi⟩
    · refine ⟨some ⟨g, 0, none⟩, cap, hv, hnc, hcm, by simp, fun i el hi => ?_⟩
      have hel : el.length = size := hs el (List.mem_of_getElem? hi)
      refine ⟨hel, fun j d hj => ?_⟩
      have hjs : j < size := by
        have := (List.getElem?_eq_some_iff.1 hj).1
        omega
      obtain ⟨u, hu, hok, h1c⟩ := hd (i * size + j) d (by rw [flatten_get els i j el hs hi hjs]; exact hj)
      have hc := World.ownsRow.cells ho (g := g) (by rw [hv]; rfl) (i * size + j) u hu
      have hadd : (⟨g, 0, none⟩ : Addr).add (i * size + j) = ⟨g, i * size + j, none⟩ := by unfold Addr.add; split <;> simp_all
      rw [hadd] at hc
      exact ⟨g, 0, rfl, .inr (hb g (by rw [hv]; rfl)), u, by rw [Nat.zero_add]; exact hc, hok, h1c⟩
theorem add_lit (b o k : Nat) : (⟨b, o, none⟩ : Addr).add k = ⟨b, o + k, none⟩ := by unfold Addr.add; split <;> simp_all
theorem cellAt_eq {v : Value} {b o len cap k : Nat} (h : v = .slice (some ⟨b, o, none⟩) len cap) : cellAt v k = .pointer (some ⟨b, o + k, none⟩) := by
  subst h; simp [cellAt, add_lit]
structure VarT (P : Program) (T size : Nat) (agg : Bool) : Prop where
  isAgg : ∀ w, (isAgg T).run P w = .ok agg w
  sizeOf : ∀ w, (sizeOf T).run P w = .ok size w
def FieldT (P : Program) (T f off ft : Nat) : Prop := ∃ fs fd, P.underlying T = some (.struct fs) ∧ fs[f]? = some fd ∧ fd.offset = off ∧ fd.type = ft
inductive DAL : List D → List AV → List NEnt → Prop where
  | nil : DAL [] [] []
  | v {x : Value} {l m ns} : DAL l m ns → DAL (D.v x :: l) (.val x :: m) ns
  | s {n size els l m ns} : DAL l m ns → DAL (D.s size els :: l) (.ref n :: m) (.ro n size els :: ns)
theorem DAL.has {ds : List D} {as_ : List AV} {ns : List NEnt} (h : DAL ds as_ ns) {n : Nat} (hn : AV.hasL n as_ = true) : ∃ x ∈ ns, x.name = n := by
  induction h with
  | nil => cases hn
  | v _ ih => simp only [AV.hasL, AV.has, Bool.false_or] at hn; exact ih hn
  | s _ ih =>
    simp only [AV.hasL, AV.has, Bool.or_eq_true, beq_iff_eq] at hn
    rcases hn with rfl | hn
    · exact ⟨_, List.mem_cons_self, rfl⟩
    · obtain ⟨x, hx, e⟩ := ih hn; exact ⟨x, by simp [hx], e⟩
theorem DAL.onlyName {ds : List D} {as_ : List AV} {ns : List NEnt} (h : DAL ds as_ ns) {x : NEnt} (hx : x ∈ ns) {k : Nat} (hk : x.has k = true) : k = x.name := by
  induction h with
  | nil => cases hx
  | v _ ih => exact ih hx
  | s _ ih =>
    rcases List.mem_cons.1 hx with rfl | hx'
    · simp only [NEnt.has, beq_iff_eq] at hk; exact hk.symm
    · exact ih hx'
theorem DAL.ok {ds : List D} {as_ : List AV} {ns : List NEnt} (h : DAL ds as_ ns) (env : Env) (W : World) (R : Nat → Prop) : ∀ us : List Value, ds.length = us.length →
    (∀ (j : Nat) (d : D), ds[j]? = some d → ∃ u : Value, us[j]? = some u ∧ d.ok W R u) → (ns.map NEnt.name).Nodup →
    ∃ env', (∀ n, (∀ x ∈ ns, x.name ≠ n) → env' n = env n) ∧ AV.denL env' as_ = us ∧ ∀ x ∈ ns, ∀ O, x.holds env' W O R := by
  induction h with
  | nil => intro us hl _ _; exact ⟨env, fun _ _ => rfl, by cases us <;> first | rfl | simp at hl, by simp⟩
  | v _ ih =>
    intro us hl hd hn
    cases us with
    | nil => simp at hl
    | cons u us =>
      obtain ⟨env', h1, h2, h3⟩ := ih us (by simpa using hl) (fun j d hj => by simpa using hd (j + 1) d (by simpa using hj)) hn
      obtain ⟨u', hu', hok⟩ := hd 0 _ (by rfl)
      simp at hu'; subst hu'
      exact ⟨env', h1, by simp only [AV.denL, AV.den, h2]; rw [show u = _ from hok], h3⟩
  | @s n size els l m ns hd' ih =>
    intro us hl hd hn
    cases us with
    | nil => simp at hl
    | cons u us =>
      simp only [List.map_cons, List.nodup_cons] at hn
      obtain ⟨env1, h1, h2, h3⟩ := ih us (by simpa using hl) (fun j d hj => by simpa using hd (j + 1) d (by simpa using hj)) hn.2
      obtain ⟨u', hu', hok⟩ := hd 0 _ (by rfl)
      simp at hu'; subst hu'
      have hno : ∀ x ∈ ns, x.name ≠ n := fun x hx e => hn.1 (List.mem_map.2 ⟨x, hx, e⟩)
      have hnm : AV.hasL n m = false := by
        cases e : AV.hasL n m with
        | false => rfl
        | true => obtain ⟨x, hx, en⟩ := hd'.has e; exact absurd en (hno x hx)
      have hro : reads size els W R u := hok
      refine ⟨setEnv env1 n u, fun k hk => ?_, ?_, ?_⟩
      · rw [setEnv_other (show n ≠ k from hk (.ro n size els) (by simp))]
        exact h1 k fun x hx => hk x (by simp [hx])
      · simp only [AV.denL, AV.den, setEnv_same, denL_set hnm, h2]
        obtain ⟨a, cap, e, _⟩ := hro
        rw [e]; rfl
      · intro x hx O
        rcases List.mem_cons.1 hx with rfl | hx
        · simp only [NEnt.holds, setEnv_same]; exact hro
        · refine NEnt.holds_congr (fun k hk => ?_) (h3 x hx O)
          -- x is an entry of ns: all are slices that are read
          have hxn : ∀ k, x.has k = true → k = x.name := fun k hk => hd'.onlyName hx hk
          rw [setEnv_other (fun e => hno x hx (by rw [← hxn k hk]; exact e.symm))]
def IsBlk (x : NEnt) (n : Nat) (cells : List AV) : Prop := ∃ T, x = .blk n cells T ∨ x = .rob n cells T
theorem isBlk {n : Nat} {cells : List AV} {T : TypeId} : IsBlk (.blk n cells T) n cells := ⟨T, .inl rfl⟩
theorem isRob {n : Nat} {cells : List AV} {T : TypeId} : IsBlk (.rob n cells T) n cells := ⟨T, .inr rfl⟩
theorem blk_cell {x : NEnt} {n : Nat} {cells : List AV} {env : Env} {W : World} {O R : Nat → Prop} (hx : IsBlk x n cells) (h : x.holds env W O R) :
    ∃ b T, env n = .pointer (some ⟨b, 0, none⟩) ∧ W.heap[b]? = some (.cells (AV.denL env cells).toArray T (0, 0)) ∧ ∀ (i : Nat) (a : AV), cells[i]? = some a → W.cell? ⟨b, i, none⟩ = some (a.den env) := by
  obtain ⟨T, rfl | rfl⟩ := hx
  all_goals
    obtain ⟨b, h1, h2, h3⟩ := h
    exact ⟨b, T, h1, h3, fun i a hi => by simp [World.cell?, h3, denL_get hi]⟩
theorem St.roNews {W : World} {R : Nat → Prop} {env : Env} {ns : List NEnt} (hR : ∀ b, R b → b < W.heap.size) (h : ∀ x ∈ ns, ∀ O, x.holds env W O R) (hn : (ns.map NEnt.name).Nodup) :
    St ⟨W, fun _ => False, R⟩ env ns W (fun _ _ => False) R :=
  ⟨Keep.refl _ _, fun x hx => h x hx _, fun _ _ _ h => h.elim, fun _ _ _ _ _ _ h => h.1, fun b h => ⟨hR b h, .inr (.inl h)⟩, fun _ h => h, hn⟩
section
variable {P : Program} {o : Oper} {ρ : Operand → Option AV}
theorem sp_loadB {T : TypeId} {x : Operand} {n off sz : Nat} {cells : List AV} {y : NEnt} {a : AV} (ho : o.op = .load T x) (hy : IsBlk y n cells) (hx : ρ x = some (.ptr n off)) (hT : VarT P T sz false) (hc : cells[off]? = some a) :
    OpSpec P o ρ [y] a [] :=
  .pure fun ev env W O R he hn => by
    obtain ⟨b, T', h1, h3, h4⟩ := blk_cell hy (hn _ (List.mem_singleton.2 rfl))
    simp [execOp, ho, he x _ hx, AV.den, h1, blockOff, Instr.loadAt, Instr.sureAddr, loadVar, hT.isAgg, h4 _ _ hc]
theorem sp_loadBA {T : TypeId} {x : Operand} {n off sz : Nat} {cells as_ : List AV} {y : NEnt} (ho : o.op = .load T x) (hy : IsBlk y n cells) (hx : ρ x = some (.ptr n off)) (hT : VarT P T sz true) (hc : (cells.drop off).take sz = as_) (hl : as_.length = sz) :
    OpSpec P o ρ [y] (.agg as_) [] :=
  .pure fun ev env W O R he hn => by
    obtain ⟨b, T', h1, h3, h4⟩ := blk_cell hy (hn _ (List.mem_singleton.2 rfl))
    have hld := run_loadCells_list (P := P) W ⟨b, off, none⟩ (AV.denL env as_) (fun j v hj => by
      rw [add_lit]
      have hj' : j < sz := by
        have := (List.getElem?_eq_some_iff.1 hj).1
        rw [denL_length] at this; omega
      subst hc
      rw [denL_take, denL_drop, List.getElem?_take_of_lt hj', List.getElem?_drop] at hj
      rw [AV.denL_map, List.getElem?_map] at hj
      cases hcell : cells[off + j]? with
      | none => rw [hcell] at hj; cases hj
      | some a => rw [hcell] at hj; cases hj; exact h4 _ _ hcell)
    rw [denL_length, hl] at hld
    simp [execOp, ho, he x _ hx, AV.den, h1, blockOff, Instr.loadAt, Instr.sureAddr, loadVar, hT.isAgg, hT.sizeOf, hld]
theorem sp_loadR {T : TypeId} {x : Operand} {n size i j k sz : Nat} {els : List (List D)} {el ds : List D} {y : NEnt} {a : AV} {ns : List NEnt} (ho : o.op = .load T x) (hx : ρ x = some (.cell n k)) (hy : IsRow y n size els) (hT : VarT P T sz false)
    (hk : k = i * size + j) (hi : els[i]? = some el) (hj : el[j]? = ds.head?) (hd : DAL ds [a] ns) (hns : (ns.map NEnt.name).Nodup) : OpSpec P o ρ [y] a ns := by
  intro ev env W O R he hn _ hR
  obtain ⟨ad, cap, h1, h2, h3, h4, h5⟩ := row_read hy (hn _ (List.mem_singleton.2 rfl))
  obtain ⟨d, hd1⟩ : ∃ d, ds = [d] := by
    cases hd with
    | v h => cases h; exact ⟨_, rfl⟩
    | s h => cases h; exact ⟨_, rfl⟩
  subst hd1
  obtain ⟨b, off, ha, _, u, hu, hok, _⟩ := (h5 i el hi).2 j d (by simpa using hj)
  subst ha
  obtain ⟨env', e1, e2, e3⟩ := hd.ok env W R [u] rfl (fun j' d' hj' => by
    cases j' with
    | zero => simp at hj'; subst hj'; exact ⟨u, rfl, hok⟩
    | succ j' => simp at hj') hns
  have hx' := he x _ hx
  simp only [AV.den, cellAt_eq h1, hk] at hx'
  have : (execOp ev o).run P W = .ok (.value u) W := by
    simp [execOp, ho, hx', Instr.loadAt, Instr.sureAddr, loadVar, hT.isAgg, hu]
  rw [this]
  refine ⟨env', _, R, e1, ?_, St.roNews hR e3 hns⟩
  simp only [AV.denL, List.cons.injEq] at e2
  exact e2.1.symm
theorem sp_loadRA {T : TypeId} {x : Operand} {n size i j k sz : Nat} {els : List (List D)} {el ds : List D} {y : NEnt} {as_ : List AV} {ns : List NEnt} (ho : o.op = .load T x) (hx : ρ x = some (.cell n k)) (hy : IsRow y n size els) (hT : VarT P T sz true)
    (hk : k = i * size + j) (hi : els[i]? = some el) (hj : (el.drop j).take sz = ds) (hl : ds.length = sz) (h0 : 0 < sz) (hd : DAL ds as_ ns) (hns : (ns.map NEnt.name).Nodup) : OpSpec P o ρ [y] (.agg as_) ns := by
  intro ev env W O R he hn _ hR
  obtain ⟨ad, cap, h1, h2, h3, h4, h5⟩ := row_read hy (hn _ (List.mem_singleton.2 rfl))
  have hget : ∀ (m : Nat) (d : D), ds[m]? = some d → el[j + m]? = some d := by
    intro m d hm
    have hlt : m < sz := by have := (List.getElem?_eq_some_iff.1 hm).1; omega
    subst hj
    rwa [List.getElem?_take_of_lt hlt, List.getElem?_drop] at hm
  obtain ⟨d0, hd0⟩ : ∃ d, ds[0]? = some d := ⟨ds[0]'(by omega), by simp⟩
  obtain ⟨b, off, ha, _⟩ := (h5 i el hi).2 (j + 0) d0 (hget 0 d0 hd0)
  subst ha
  have hu : ∀ m, m < sz → ∃ u, W.cell? ⟨b, off + (i * size + (j + m)), none⟩ = some u ∧ ∀ d, ds[m]? = some d → d.ok W R u := by
    intro m hm
    obtain ⟨d, hdm⟩ : ∃ d, ds[m]? = some d := ⟨ds[m]'(by omega), by simp⟩
    obtain ⟨b', o', ha', _, u, hu, hok, _⟩ := (h5 i el hi).2 (j + m) d (hget m d hdm)
    cases ha'
    exact ⟨u, hu, fun d' hd' => by rw [hdm] at hd'; cases hd'; exact hok⟩
  obtain ⟨us, hul, hus⟩ : ∃ us : List Value, us.length = sz ∧ ∀ m u, us[m]? = some u → W.cell? ⟨b, off + (i * size + (j + m)), none⟩ = some u ∧ ∀ d, ds[m]? = some d → d.ok W R u := by
    clear hd hl hget hd0 hT hj h0
    induction sz with
    | zero => exact ⟨[], rfl, by simp⟩
    | succ sz ih =>
      obtain ⟨us, h1, h2⟩ := ih (fun m hm => hu m (by omega))
      obtain ⟨u, hu1⟩ := hu sz (by omega)
      refine ⟨us ++ [u], by simp [h1], fun m v hm => ?_⟩
      rcases Nat.lt_or_ge m us.length with hlt | hge
      · rw [List.getElem?_append_left hlt] at hm; exact h2 m v hm
      · have : m = sz := by
          have := (List.getElem?_eq_some_iff.1 hm).1
          simp at this; omega
        subst this
        rw [List.getElem?_append_right hge] at hm
        simp [h1] at hm
        subst hm
        exact hu1
  obtain ⟨env', e1, e2, e3⟩ := hd.ok env W R us (by omega) (fun m d hm => by
    have hlt : m < us.length := by have := (List.getElem?_eq_some_iff.1 hm).1; omega
    exact ⟨us[m], by simp, (hus m us[m] (by simp)).2 d hm⟩) hns
  have hld := run_loadCells_list (P := P) W ⟨b, off + k, none⟩ us (fun m v hm => by
    rw [add_lit]
    have := (hus m v hm).1
    rw [hk, show off + (i * size + j) + m = off + (i * size + (j + m)) by omega]; exact this)
  rw [hul] at hld
  have hx' := he x _ hx
  simp only [AV.den, cellAt_eq h1] at hx'
  have : (execOp ev o).run P W = .ok (.value (.agg us.toArray)) W := by
    simp [execOp, ho, hx', Instr.loadAt, Instr.sureAddr, loadVar, hT.isAgg, hT.sizeOf, hld]
  rw [this]
  exact ⟨env', _, R, e1, by simp only [AV.den, e2], St.roNews hR e3 hns⟩
theorem sp_fieldAddrB {T : TypeId} {x : Operand} {f off ft sz n k : Nat} {ag : Bool} {cells : List AV} {y : NEnt} (ho : o.op = .fieldAddr T x f) (hy : IsBlk y n cells) (hx : ρ x = some (.ptr n k)) (hf : FieldT P T f off ft) (hT : VarT P ft sz ag) (h0 : sz ≠ 0) :
    OpSpec P o ρ [y] (.ptr n (k + off)) [] :=
  .pure fun ev env W O R he hn => by
    obtain ⟨fs, fd, h1, h2, h3, h4⟩ := hf
    subst h3; subst h4
    obtain ⟨b, T', e1, _⟩ := blk_cell hy (hn _ (List.mem_singleton.2 rfl))
    simp [execOp, ho, he x _ hx, AV.den, Instr.fieldAt, run_underlying h1, h2, e1, blockOff, Instr.sureAddr, fieldPlace, hT.sizeOf, h0, add_lit]
theorem sp_fieldAddrR {T : TypeId} {x : Operand} {f off ft sz n k size i : Nat} {ag : Bool} {els : List (List D)} {el : List D} {y : NEnt} (ho : o.op = .fieldAddr T x f) (hx : ρ x = some (.cell n k)) (hy : IsRow y n size els) (hf : FieldT P T f off ft) (hT : VarT P ft sz ag) (h0 : sz ≠ 0)
    (hi : els[i]? = some el) (h1 : el ≠ []) : OpSpec P o ρ [y] (.cell n (k + off)) [] :=
  .pure fun ev env W O R he hn => by
    obtain ⟨fs, fd, h1', h2, h3, h4⟩ := hf
    subst h3; subst h4
    obtain ⟨ad, cap, g1, g2, g3, g4, g5⟩ := row_read hy (hn _ (List.mem_singleton.2 rfl))
    obtain ⟨d, hd⟩ : ∃ d, el[0]? = some d := by cases el with | nil => exact absurd rfl h1 | cons d l => exact ⟨d, rfl⟩
    obtain ⟨b, o', ha, _⟩ := (g5 i el hi).2 0 d hd
    subst ha
    simp [execOp, ho, he x _ hx, AV.den, Instr.fieldAt, run_underlying h1', h2, cellAt_eq g1, Instr.sureAddr, fieldPlace, hT.sizeOf, h0, add_lit, Nat.add_assoc]
theorem sp_indexS {T E : TypeId} {size bytes n : Nat} {x i : Operand} {k : IntKind} {iv : Int} {els : List (List D)} {el : List D} {y : NEnt} (ho : o.op = .indexAddr T x i) (hx : ρ x = some (.ref n)) (hi : ρ i = some (.val (.int k iv))) (hy : IsRow y n size els) (hT : SlT P T E size bytes)
    (h0 : decide (0 ≤ iv) = true) (he : els[iv.toNat]? = some el) : OpSpec P o ρ [y] (.cell n (iv.toNat * size)) [] :=
  .pure fun ev env W O R hev hn => by
    obtain ⟨ad, cap, g1, g2, g3, g4, g5⟩ := row_read hy (hn _ (List.mem_singleton.2 rfl))
    obtain ⟨ti, z, hti, _, hts, _, _⟩ := hT.info
    have h0' : 0 ≤ iv := of_decide_eq_true h0
    have hlt : iv.toNat < els.length := (List.getElem?_eq_some_iff.1 he).1
    have hlt' : iv < els.length := by omega
    cases ad with
    | none => have := g4 rfl; omega
    | some ad =>
      have hx' := hev x _ hx
      simp only [AV.den, g1, oneOf] at hx'
      simp [execOp, ho, hx', hev i _ hi, AV.den, Instr.indexAt, asIntOf, run_underlying hT.under, sizeOf, typeInfo, hti, hts, h0', hlt', g1, cellAt]
theorem sp_indexA {T E : TypeId} {size len n off : Nat} {ag : Bool} {x i : Operand} {k : IntKind} {iv : Int} {cells : List AV} {y : NEnt} (ho : o.op = .indexAddr T x i) (hy : IsBlk y n cells) (hx : ρ x = some (.ptr n off)) (hi : ρ i = some (.val (.int k iv))) (hT : P.underlying T = some (.array len E)) (hE : VarT P E size ag)
    (h0 : (decide (0 ≤ iv) && decide (iv < len)) = true) : OpSpec P o ρ [y] (.ptr n (off + iv.toNat * size)) [] :=
  .pure fun ev env W O R hev hn => by
    obtain ⟨b, T', e1, _⟩ := blk_cell hy (hn _ (List.mem_singleton.2 rfl))
    simp only [Bool.and_eq_true, decide_eq_true_eq] at h0
    simp [execOp, ho, hev x _ hx, hev i _ hi, AV.den, e1, blockOff, Instr.indexAt, asIntOf, run_underlying hT, Instr.sureAddr, hE.sizeOf, h0.1, h0.2, add_lit]
theorem sp_nilCheck {x : Operand} {n off : Nat} {cells : List AV} {y : NEnt} (ho : o.op = .nilCheck x) (hy : IsBlk y n cells) (hx : ρ x = some (.ptr n off)) : OpSpec P o ρ [y] (.ptr n off) [] :=
  .pure fun ev env W O R he hn => by
    obtain ⟨b, T', hb, _⟩ := blk_cell hy (hn _ (List.mem_singleton.2 rfl))
    simp [execOp, ho, he x _ hx, AV.den, hb, blockOff]
theorem sp_len {T E : TypeId} {size n : Nat} {x : Operand} {els : List (List D)} {y : NEnt} (ho : o.op = .call { callee := .builtin .len, args := #[x], argTypes := #[T] }) (hx : ρ x = some (.ref n)) (hy : IsRow y n size els) (hT : P.underlying T = some (.slice E)) :
    OpSpec P o ρ [y] (.val (.int .i64 els.length)) [] :=
  .pure fun ev env W O R hev hn => by
    obtain ⟨ad, cap, g1, _⟩ := row_read hy (hn _ (List.mem_singleton.2 rfl))
    have hx' := hev x _ hx
    simp only [AV.den, g1, oneOf] at hx'
    simp [execOp, ho, resolve, invoke, builtin, hx', Builtin.len_, run_underlying hT, goInt, AV.den]
theorem sp_min {T U : TypeId} {x y : Operand} {k : IntKind} {m n : Int} (ho : o.op = .call { callee := .builtin .min, args := #[x, y], argTypes := #[T, U] }) (hx : ρ x = some (.val (.int k m))) (hy : ρ y = some (.val (.int k n))) :
    OpSpec P o ρ [] (.val (.int k (min m n))) [] :=
  .pure fun ev env W O R hev hn => by
    simp [execOp, ho, resolve, invoke, builtin, hev x _ hx, hev y _ hy, Builtin.min_, Builtin.min2, AV.den, List.foldlM]
    first | (rw [Int.min_def]; split <;> split <;> omega)
end
end Go.Proofs.YtohjpfkcahlfkaaGreat.Sy
