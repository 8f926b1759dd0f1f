/- The small logic of symbolic states: append in any place, maps, nil rows that are handed over. -/
import Derived.Test.YtohjpfkcahlfkaaGreatPbSymP
set_option linter.unusedSimpArgs false
set_option linter.unusedVariables false
namespace Go.Proofs.YtohjpfkcahlfkaaGreat.Sy
open Go.RowKit
section
variable {P : Program} {c : Ctx} {s : List (Nat × AV)} {o : Oper}
theorem ts_append {T E size bytes n m N N2 : Nat} (r : Nat) {x y : Operand} {els els2 els3 : List (List D)} {ym : NEnt} (ho : o.op = .call { callee := .builtin .append, args := #[x, y], argTypes := #[T, T] })
    (hx : rho s x = some (.ref n)) (hy : rho s y = some (.ref m)) (hym : IsRow ym m size els2) (hnm : (m == n) = false) (hT : SlT P T E size bytes) (hl1 : els.length = N) (hl2 : els2.length = N2) (hroom : room bytes (N + N2) = true) (he3 : els ++ els2 = els3) (hrn : (r == n) = false) :
    TSpec P o (rho s) [.row n E size els] [ym] (.ref r) [.row r E size els3] := by
  subst hl1; subst hl2; subst he3
  intro ev c env V W O R hev hst ht hk hnn
  have hxm : NEnt.row n E size els ∈ V := ht _ (List.mem_singleton.2 rfl)
  have hm : ym ∈ V := hk _ (List.mem_singleton.2 rfl)
  obtain ⟨k, hkk⟩ := List.mem_iff_getElem?.1 hxm
  have hrV : hasV r V = false := by
    rcases hnn _ (List.mem_singleton.2 rfl) with h | h
    · simp only [NEnt.name, List.map_cons, List.map_nil, List.mem_singleton] at h
      rw [h] at hrn; simp at hrn
    · exact h
  simp only [room, Bool.and_eq_true, decide_eq_true_eq] at hroom
  obtain ⟨hs, cells, hown, hob, hcd⟩ := hst.holds _ hxm
  obtain ⟨a, cap, hv2, hnone, hs2, us, hul, hone, hcell, hok⟩ := row_cells hym hT.pos (hst.holds _ hm)
  obtain ⟨i, z, hi, hz, hsz, hby, hzs⟩ := hT.info
  have hvx : oneOf (env n) = env n := by
    rcases hown.2 with ⟨hv, _⟩ | ⟨g, cap, cur, hv, _⟩ <;> rw [hv] <;> rfl
  have hx' := hev _ _ hx
  have hy' := hev _ _ hy
  simp only [AV.den, hvx] at hx'
  simp only [AV.den, hv2, oneOf] at hy'
  have hrun : ∃ v' W', (Builtin.append_ #[T, T] o.type #[env n, .slice a els2.length cap]).run P W = .ok v' W' ∧ W'.ownsRow 0 E size v' (els.length + els2.length) (cells ++ us) ∧ W.grownBy W' (env n).ownBlock ∧
      ∀ b, v'.ownBlock = some b → (env n).ownBlock = some b ∨ W.heap.size ≤ b := by
    cases a with
    | none =>
      have he2 := hnone rfl
      subst he2
      have hus : us = [] := List.eq_nil_of_length_eq_zero (by simpa using hul)
      subst hus
      obtain ⟨_, _, h2, _, _, h4, _⟩ := row_read hym (hst.holds _ hm)
      have hc0 : cap = 0 := by
        rw [hv2] at h2; cases h2; exact h4 rfl
      subst hc0
      refine ⟨env n, W, run_append_owned_none (w := W) 0 T o.type E i size hT.under hi _ _ _ hown, by simpa using hown, ⟨rfl, rfl, rfl, Nat.le_refl _, fun _ _ _ => rfl⟩, fun b hb => .inl hb⟩
    | some ad =>
      obtain ⟨v', W', h1, h2, h3, _⟩ := run_append_own W 0 T o.type E i z size bytes hT.under hi hz hsz hby hzs hT.pos (env n) els.length cells hown ad els2.length cap us hul (hcell ad rfl) hone (by simp only [maxLen]; omega) hroom.1 (Nat.zero_le _)
      refine ⟨v', W', h1, h2, h3, fun b hb => ?_⟩
      subst hsz; subst hby
      have h63 : (els.length + els2.length : Nat) ≤ 9223372036854775807 := by omega
      rcases hown.2 with ⟨hv, hn0⟩ | ⟨g, cap2, cur, hv, _, hg, hnc, hcm, hcs, htk⟩
      · rw [hv] at h1
        by_cases h0 : els2.length = 0
        · have hus : us = [] := List.eq_nil_of_length_eq_zero (by simpa [h0] using hul)
          have hl0 : els.length = 0 := hn0
          have : (Builtin.append_ #[T, T] o.type #[.slice none 0 0, .slice (some ad) els2.length cap]).run P W = .ok (.slice none 0 0) W := by
            rw [h0]
            simp [Builtin.append_, run_underlying hT.under, sizeOf, typeInfo, hi, Builtin.lenOf, Builtin.firstCells, loadCells, loadCellsFrom]
          rw [this] at h1
          cases h1
          simp [Value.ownBlock] at hb
        · have hr := run_append_nil (P := P) W T o.type E i z hT.under hi hz ad els2.length cap us hul (hcell ad rfl) (by omega) (by omega) (by have := hroom.1; rw [Nat.add_mul] at this; omega)
          rw [hr] at h1
          cases h1
          simp [Value.ownBlock] at hb
          exact .inr (by omega)
      · rw [hv] at h1 ⊢
        by_cases hroom2 : els.length + els2.length ≤ cap2
        · have hfit : els.length * i.size + us.length ≤ cur.size := by rw [hul, hcs, ← Nat.add_mul]; exact Nat.mul_le_mul_right _ hroom2
          have hr := run_append_room (P := P) W T o.type E i hT.under hi g els.length cap2 cur hg ad els2.length cap us hul (hcell ad rfl) hone hroom2 hfit
          rw [hr] at h1
          cases h1
          exact .inl hb
        · have holds : ∀ j u, cells[j]? = some u → W.cell? ((⟨g, 0, none⟩ : Addr).add j) = some u := World.ownsRow.cells hown (g := g) (by rw [hv]; rfl)
          have hr := run_append_grow (P := P) W T o.type E i z hT.under hi hz ⟨g, 0, none⟩ els.length cap2 cells hown.1 holds ad els2.length cap us hul (hcell ad rfl) (by omega) (by omega) (growslice_fits (by omega) hroom.1)
          rw [hr] at h1
          cases h1
          simp [Value.ownBlock] at hb
          exact .inr (by omega)
  obtain ⟨v', W', hrun, hown', hgrow, hblk⟩ := hrun
  have hexec : (execOp ev o).run P W = .ok (.value v') W' := by
    simp only [execOp, ho, resolve, invoke, builtin, Sem.run_bind, Sem.run_pure, Result.andThen_ok, List.map_toArray, List.map_cons, List.map_nil, hx', hy', hrun]
  rw [hexec]
  have hkeep : Keep (fun b => O n b) W W' := grown_keep hgrow hob
  have hvb : ∀ b, v'.ownBlock = some b → (O n b ∨ W.heap.size ≤ b) ∧ b < W'.heap.size := by
    intro b hb
    exact ⟨(hblk b hb).imp (hob b) id, (hown'.lt b hb).2⟩
  obtain ⟨O', hst'⟩ := hst.replace (y := .row r E size (els ++ els2)) (v := v') (Or := fun b => v'.ownBlock = some b) k hkk hkeep hvb hrV (by
    simp only [NEnt.name, NEnt.holds, setEnv_same]
    refine ⟨fun el he => (List.mem_append.1 he).elim (hs el) (hs2 el), cells ++ us, by simpa using hown', fun b hb => hb, fun q d hq => ?_⟩
    have hRk : ∀ b, R b → R b ∧ W'.heap[b]? = W.heap[b]? := fun b hb => ⟨hb, hkeep.block b (hst.ro b hb).1 (fun ho => (hst.own _ hxm b ho).2.2 hb)⟩
    have hfl := flatten_len els hs
    have hcl : cells.length = els.length * size := hown.1
    rw [List.flatten_append] at hq
    rcases Nat.lt_or_ge q els.flatten.length with hlt | hge
    · rw [List.getElem?_append_left hlt] at hq
      obtain ⟨u, hu, hok', h1⟩ := hcd q d hq
      exact ⟨u, by rw [List.getElem?_append_left (by omega)]; exact hu, d.mono W W' R R hRk u hok', h1⟩
    · rw [List.getElem?_append_right hge] at hq
      obtain ⟨u, hu, hok'⟩ := hok _ d hq
      exact ⟨u, by rw [List.getElem?_append_right (by omega), hcl, ← hfl]; exact hu, d.mono W W' R R hRk u hok', hone u (List.mem_of_getElem? hu)⟩)
  have hone' : oneOf v' = v' := by
    rcases hown'.2 with ⟨hv, _⟩ | ⟨g, cap, cur, hv, _⟩ <;> rw [hv] <;> rfl
  refine ⟨_, O', R, fun q hq => ?_, ?_, hst'.sub (V' := [.row r E size (els ++ els2)] ++ delV [n] V) id (fun z hz => ?_) ?_⟩
  · refine setEnv_other fun e => ?_
    by_cases h : r ∈ [n]
    · simp only [List.mem_singleton] at h
      rw [h] at hrn; simp at hrn
    · exact hq _ (List.mem_singleton.2 rfl) (by simpa [NEnt.name] using h) (by simpa [NEnt.name] using e)
  · show v' = oneOf (setEnv env r v' r)
    rw [setEnv_same, hone']
  · rw [NEnt.ren_id]
    rcases List.mem_append.1 hz with hz | hz
    · exact List.mem_cons.2 (.inl (List.mem_singleton.1 hz))
    · obtain ⟨h1, h2⟩ := mem_delV.1 hz
      refine List.mem_cons_of_mem _ ?_
      obtain ⟨q, hq⟩ := List.mem_iff_getElem?.1 h1
      have hqk : q ≠ k := fun e => by
        subst e; rw [hkk] at hq; cases hq; simp [NEnt.name] at h2
      refine List.mem_iff_getElem?.2 ?_
      rcases Nat.lt_or_gt_of_ne hqk with hlt | hgt
      · exact ⟨q, by rw [List.getElem?_eraseIdx, if_pos hlt]; exact hq⟩
      · exact ⟨q - 1, by rw [List.getElem?_eraseIdx, if_neg (by omega), show q - 1 + 1 = q by omega]; exact hq⟩
  · simp only [id, List.cons_append, List.nil_append, List.map_cons, List.nodup_cons]
    refine ⟨fun hmm => ?_, hst.names.sublist ((delV_sub _ _).map NEnt.name)⟩
    obtain ⟨z, hz, e⟩ := List.mem_map.1 hmm
    have := mem_has (mem_delV.1 hz).1 (NEnt.has_name z)
    rw [e] at this
    simp only [NEnt.name] at this
    rw [hrV] at this; cases this
end
theorem FT.nilT {P : Program} {f : Nat} {args : List AV} {take need news : List NEnt} {v : AV} (k E size : Nat) (h : FT P f args (.row k E size [] :: take) need v news) (ht : hasV k take = false) (hk : hasV k need = false) (hv : v.has k = false) (hn : hasV k news = false) :
    FT P f (AV.nlL k args) take need v news := by
  intro env w0 M O R0 hst hnd
  rw [AV.denL_nl]
  have hst' : St ⟨w0, M, R0⟩ (setEnv env k (.slice none 0 0)) (.row k E size [] :: take) w0 (fun n b => n ≠ k ∧ O n b) R0 :=
    hst.addRo (x := .row k E size []) (v := .slice none 0 0) ht fun O => by
      simp only [NEnt.holds, NEnt.name, setEnv_same]
      exact ⟨by simp, [], World.ownsRow_nil _ _ _ _, by simp [Value.ownBlock], by simp⟩
  refine (h (setEnv env k (.slice none 0 0)) w0 M _ R0 hst' (fun x hx => ?_)).mono ?_
  · exact ⟨(hnd x hx).1, NEnt.holds_congr (fun n hn' => (setEnv_other fun e => by subst e; rw [hasV_mem hk hx] at hn'; cases hn').symm) (hnd x hx).2⟩
  rintro e W' ⟨u, he, env', O', R', h1, h2, hst2⟩
  have hc : ∀ n, n ≠ k → setEnv env' k (env k) n = env' n := fun n hne => setEnv_other (Ne.symm hne)
  have hnk : ∀ y ∈ news, y.name ≠ k := fun y hy e => by have := mem_has hy (NEnt.has_name y); rw [e, hn] at this; cases this
  refine ⟨u, he, setEnv env' k (env k), O', R', fun n hn' => ?_, ?_, hst2.keep, fun x hx => ?_, hst2.own, hst2.apart, hst2.ro, hst2.r0, hst2.names⟩
  · by_cases e : n = k
    · subst e; rw [setEnv_same]
    · rw [hc n e, h1 n (fun y hy hyt => hn' y hy fun hm => hyt (by simp [hm])), setEnv_other (Ne.symm e)]
  · rw [h2]
    exact AV.den_congr v fun n hn' => (hc n fun e => by subst e; rw [hv] at hn'; cases hn').symm
  · exact NEnt.holds_congr (fun n hn' => (hc n fun e => by subst e; rw [hasV_mem hn hx] at hn'; cases hn').symm) (hst2.holds x hx)
def VOk (ag : Bool) (ds : List D) (W : World) (R : Nat → Prop) (v : Value) : Prop :=
  ∃ cs : List Value, v.cells = cs.toArray ∧ (v = if ag then .agg cs.toArray else cs.headD undef) ∧ cs.length = ds.length ∧ ∀ (j : Nat) (d : D), ds[j]? = some d → ∃ u : Value, cs[j]? = some u ∧ d.ok W R u ∧ u.oneCell' = true
theorem VOk.keep {ag : Bool} {ds : List D} {W W' : World} {R R' : Nat → Prop} {v : Value} (hm : ∀ b, R b → R' b ∧ W'.heap[b]? = W.heap[b]?) (h : VOk ag ds W R v) : VOk ag ds W' R' v := by
  obtain ⟨cs, h1, h2, h3, h4⟩ := h
  exact ⟨cs, h1, h2, h3, fun j d hj => by obtain ⟨u, g1, g2, g3⟩ := h4 j d hj; exact ⟨u, g1, d.mono W W' R R' hm u g2, g3⟩⟩
inductive EsOk {κ ν : Type} (ek : κ → Value) (ag : Bool) (ev : ν → List D) (W : World) (R : Nat → Prop) : List MapEntry → List (κ × ν) → Prop where
  | nil : EsOk ek ag ev W R [] []
  | cons {e : MapEntry} {x : κ × ν} {es xs} : e.key = ek x.1 → VOk ag (ev x.2) W R e.val → EsOk ek ag ev W R es xs → EsOk ek ag ev W R (e :: es) (x :: xs)
section
variable {κ ν : Type} {ek : κ → Value} {ag : Bool} {ev : ν → List D} {W W' : World} {R R' : Nat → Prop}
theorem EsOk.keep (hm : ∀ b, R b → R' b ∧ W'.heap[b]? = W.heap[b]?) {es : List MapEntry} {xs : List (κ × ν)} (h : EsOk ek ag ev W R es xs) : EsOk ek ag ev W' R' es xs := by
  induction h with
  | nil => exact .nil
  | cons h1 h2 _ ih => exact .cons h1 (h2.keep hm) ih
theorem EsOk.keys {es : List MapEntry} {xs : List (κ × ν)} (h : EsOk ek ag ev W R es xs) : es.map (·.key) = (xs.map (·.1)).map ek := by
  induction h with
  | nil => rfl
  | cons h1 _ _ ih => simp [h1, ih]
theorem EsOk.len {es : List MapEntry} {xs : List (κ × ν)} (h : EsOk ek ag ev W R es xs) : es.length = xs.length := by
  induction h with
  | nil => rfl
  | cons _ _ _ ih => simp [ih]
theorem EsOk.at {es : List MapEntry} {xs : List (κ × ν)} (h : EsOk ek ag ev W R es xs) : ∀ {i : Nat} {x : κ × ν}, xs[i]? = some x → ∃ e, es[i]? = some e ∧ e.key = ek x.1 ∧ VOk ag (ev x.2) W R e.val := by
  induction h with
  | nil => intro i x hi; simp at hi
  | cons h1 h2 _ ih =>
    intro i x hi
    cases i with
    | zero => simp at hi; subst hi; exact ⟨_, rfl, h1, h2⟩
    | succ i => exact ih (by simpa using hi)
theorem EsOk.snoc {es : List MapEntry} {xs : List (κ × ν)} (h : EsOk ek ag ev W R es xs) {e : MapEntry} {x : κ × ν} (h1 : e.key = ek x.1) (h2 : VOk ag (ev x.2) W R e.val) : EsOk ek ag ev W R (es ++ [e]) (xs ++ [x]) := by
  induction h with
  | nil => exact .cons h1 h2 .nil
  | cons g1 g2 _ ih => exact .cons g1 g2 ih
theorem EsOk.set {es : List MapEntry} {xs : List (κ × ν)} (h : EsOk ek ag ev W R es xs) : ∀ (i : Nat) {e : MapEntry} {x : κ × ν}, e.key = ek x.1 → VOk ag (ev x.2) W R e.val → EsOk ek ag ev W R (es.set i e) (xs.set i x) := by
  induction h with
  | nil => intro i e x _ _; exact .nil
  | cons g1 g2 g3 ih =>
    intro i e x h1 h2
    cases i with
    | zero => exact .cons h1 h2 g3
    | succ i => exact .cons g1 g2 (ih i h1 h2)
theorem EsOk.erase {es : List MapEntry} {xs : List (κ × ν)} (h : EsOk ek ag ev W R es xs) : ∀ (i : Nat), EsOk ek ag ev W R (es.eraseIdx i) (xs.eraseIdx i) := by
  induction h with
  | nil => intro i; exact .nil
  | cons g1 g2 g3 ih =>
    intro i
    cases i with
    | zero => exact g3
    | succ i => exact .cons g1 g2 (ih i)
end
def BornOk (es : List MapEntry) (cl : Nat) : Prop := (es.map (·.born)).Nodup ∧ ∀ b ∈ es.map (·.born), b < cl
theorem BornOk.nil (cl : Nat) : BornOk [] cl := ⟨by simp, by simp⟩
theorem BornOk.push {es : List MapEntry} {cl : Nat} (h : BornOk es cl) {e : MapEntry} (he : e.born = cl) : BornOk (es ++ [e]) (cl + 1) := by
  refine ⟨?_, fun b hb => ?_⟩
  · rw [List.map_append, List.nodup_append]
    refine ⟨h.1, by simp, fun x hx y hy => ?_⟩
    have := h.2 x hx
    simp only [List.map_cons, List.map_nil, List.mem_singleton] at hy
    omega
  · rw [List.map_append, List.mem_append] at hb
    rcases hb with hb | hb
    · have := h.2 b hb; omega
    · simp only [List.map_cons, List.map_nil, List.mem_singleton] at hb; omega
theorem BornOk.same {es es' : List MapEntry} {cl : Nat} (h : BornOk es cl) (he : es'.map (·.born) = es.map (·.born)) : BornOk es' cl := by unfold BornOk; rw [he]; exact h
theorem BornOk.erase {es : List MapEntry} {cl : Nat} (h : BornOk es cl) (j : Nat) : BornOk (es.eraseIdx j) cl := by
  have hs : ((es.eraseIdx j).map (·.born)).Sublist (es.map (·.born)) := (List.eraseIdx_sublist _ _).map _
  exact ⟨h.1.sublist hs, fun b hb => h.2 b (hs.subset hb)⟩
def mfind {κ ν : Type} [BEq κ] (xs : List (κ × ν)) (k : κ) : Option Nat := (xs.map (·.1)).findIdx? (· == k)
def mlook {κ ν : Type} [BEq κ] (xs : List (κ × ν)) (k : κ) : Option ν := (mfind xs k).bind fun i => (xs[i]?).map (·.2)
def mput {κ ν : Type} [BEq κ] (xs : List (κ × ν)) (k : κ) (v : ν) : List (κ × ν) := match mfind xs k with
  | some i => xs.set i (k, v)
  | none => xs ++ [(k, v)]
section
variable {κ ν : Type} [BEq κ]
theorem mfind_cons (x : κ × ν) (xs : List (κ × ν)) (k : κ) : mfind (x :: xs) k = if x.1 == k then some 0 else (mfind xs k).map (· + 1) := by
  simp only [mfind, List.map_cons, List.findIdx?_cons]
theorem mlook_nil (k : κ) : mlook ([] : List (κ × ν)) k = none := rfl
theorem mlook_cons (x : κ × ν) (xs : List (κ × ν)) (k : κ) : mlook (x :: xs) k = if x.1 == k then some x.2 else mlook xs k := by
  simp only [mlook, mfind_cons]
  by_cases h : (x.1 == k) = true
  · simp [h]
  · simp only [h, if_false, Bool.false_eq_true]
    cases mfind xs k <;> simp
theorem mput_cons (x : κ × ν) (xs : List (κ × ν)) (k : κ) (v : ν) : mput (x :: xs) k v = if x.1 == k then (k, v) :: xs else x :: mput xs k v := by
  simp only [mput, mfind_cons]
  by_cases h : (x.1 == k) = true
  · simp [h]
  · simp only [h, if_false, Bool.false_eq_true]
    cases mfind xs k <;> simp
variable [LawfulBEq κ]
theorem filter_ne {xs : List (κ × ν)} {k : κ} (h : k ∉ xs.map (·.1)) : xs.filter (fun x => !(x.1 == k)) = xs := by
  rw [List.filter_eq_self]
  intro x hx
  have : x.1 ≠ k := fun e => h (e ▸ List.mem_map.2 ⟨x, hx, rfl⟩)
  simpa using this
theorem mlook_iff {xs : List (κ × ν)} (nd : (xs.map (·.1)).Nodup) (k : κ) (v : ν) : mlook xs k = some v ↔ (k, v) ∈ xs := by
  induction xs with
  | nil => simp [mlook_nil]
  | cons x xs ih =>
    obtain ⟨a, b⟩ := x
    rw [List.map_cons, List.nodup_cons] at nd
    rw [mlook_cons]
    by_cases h : a = k
    · subst h
      have : ∀ w, (a, w) ∉ xs := fun w hw => nd.1 (List.mem_map.2 ⟨_, hw, rfl⟩)
      simp only [BEq.rfl, if_true, Option.some.injEq, List.mem_cons, Prod.mk.injEq, true_and, this, or_false]
      exact eq_comm
    · have h2 : (a == k) = false := by simpa using h
      simp only [h2, Bool.false_eq_true, if_false, ih nd.2, List.mem_cons, Prod.mk.injEq]
      constructor
      · exact .inr
      · rintro (⟨e, _⟩ | h3)
        · exact absurd e.symm h
        · exact h3
theorem mlook_perm {xs ys : List (κ × ν)} (p : ys.Perm xs) (nd : (ys.map (·.1)).Nodup) (k : κ) : mlook ys k = mlook xs k := by
  apply Option.ext
  intro v
  rw [mlook_iff nd, mlook_iff ((p.map _).nodup_iff.1 nd), p.mem_iff]
theorem mput_filter {xs : List (κ × ν)} (nd : (xs.map (·.1)).Nodup) (k : κ) (v : ν) : (mput xs k v).Perm ((k, v) :: xs.filter fun x => !(x.1 == k)) := by
  induction xs with
  | nil => exact .refl _
  | cons x xs ih =>
    obtain ⟨a, b⟩ := x
    rw [List.map_cons, List.nodup_cons] at nd
    rw [mput_cons]
    by_cases h : a = k
    · subst h
      simp only [BEq.rfl, if_true, List.filter_cons, Bool.not_true, Bool.false_eq_true, if_false, filter_ne nd.1]
      exact .refl _
    · have h2 : (a == k) = false := by simpa using h
      simp only [h2, Bool.false_eq_true, if_false, List.filter_cons, Bool.not_false, if_true]
      exact ((ih nd.2).cons _).trans (.swap _ _ _)
theorem nodup_put {xs : List (κ × ν)} (nd : (xs.map (·.1)).Nodup) (k : κ) (v : ν) : ((mput xs k v).map (·.1)).Nodup := by
  rw [((mput_filter nd k v).map (·.1)).nodup_iff, List.map_cons, List.nodup_cons]
  refine ⟨fun h => ?_, nd.sublist (List.filter_sublist.map _)⟩
  obtain ⟨x, hx, e⟩ := List.mem_map.1 h
  have := (List.mem_filter.1 hx).2
  simp only at e
  rw [e] at this
  simp at this
theorem mput_perm {xs ys : List (κ × ν)} (p : ys.Perm xs) (nd : (ys.map (·.1)).Nodup) (k : κ) (v : ν) : (mput ys k v).Perm (mput xs k v) :=
  (mput_filter nd k v).trans (((p.filter _).cons _).trans (mput_filter ((p.map _).nodup_iff.1 nd) k v).symm)
end
def MapOk {κ ν : Type} (es : List MapEntry) (cl : Nat) (ys xs : List (κ × ν)) : Prop := ys.Perm xs ∧ (ys.map (·.1)).Nodup ∧ BornOk es cl
def mapI {κ ν : Type} (ek : κ → Value) (ag : Bool) (ev : ν → List D) (xs : List (κ × ν)) : Inv :=
  ⟨fun W O R v => ∃ r clock es ys, v = .map (some r) ∧ O r ∧ W.heap[r]? = some (.map es clock) ∧ EsOk ek ag ev W R es.toList ys ∧ MapOk es.toList clock ys xs,
   fun W W' O R R' hO hR v ⟨r, cl, es, ys, h1, h2, h3, h4, h5⟩ => ⟨r, cl, es, ys, h1, h2, (hO r h2).trans h3, h4.keep hR, h5⟩⟩
structure MKey (P : Program) (M K V : TypeId) {κ : Type} [BEq κ] (ek : κ → Value) : Prop where
  under : P.underlying M = some (.map K V)
  check : ∀ b k w, (Instr.checkKey b 10000 K (ek k)).run P w = .ok () w
  find : ∀ (k : κ) (es : List MapEntry) (ks : List κ) (w : World), es.map (·.key) = ks.map ek → (Instr.findKey K (ek k) es).run P w = .ok ((ks.findIdx? (· == k)).bind fun i => (es[i]?).map fun e => (i, e.val)) w
  stay : ∀ k w, (Instr.keyThatStays (ek k) (ek k)).run P w = .ok (ek k) w
  eq : ∀ (ks : List κ) k i x, ks.findIdx? (· == k) = some i → ks[i]? = some x → ek x = ek k
def IsMapE {κ ν : Type} (x : NEnt) (n : Nat) (ek : κ → Value) (ag : Bool) (ev : ν → List D) (xs : List (κ × ν)) : Prop := x = .inv n (mapI ek ag ev xs) ∨ x = .any n (mapI ek ag ev xs).froz
theorem isMapO {κ ν : Type} {n : Nat} {ek : κ → Value} {ag : Bool} {ev : ν → List D} {xs : List (κ × ν)} : IsMapE (.inv n (mapI ek ag ev xs)) n ek ag ev xs := .inl rfl
theorem map_read {κ ν : Type} {x : NEnt} {n : Nat} {ek : κ → Value} {ag : Bool} {ev : ν → List D} {xs : List (κ × ν)} {env : Env} {W : World} {O R : Nat → Prop} (hx : IsMapE x n ek ag ev xs) (h : x.holds env W O R) :
    ∃ r clock es ys, env n = .map (some r) ∧ W.heap[r]? = some (.map es clock) ∧ EsOk ek ag ev W R es.toList ys ∧ MapOk es.toList clock ys xs := by
  rcases hx with rfl | rfl
  · obtain ⟨r, cl, es, ys, h1, _, h3, h4⟩ := h; exact ⟨r, cl, es, ys, h1, h3, h4⟩
  · obtain ⟨_, _, r, cl, es, ys, h1, _, h3, h4⟩ := h; exact ⟨r, cl, es, ys, h1, h3, h4⟩
section
variable {P : Program} {o : Oper} {ρ : Operand → Option AV}
theorem sp_makeMap {κ ν : Type} {M : TypeId} (n : Nat) {ek : κ → Value} {ag : Bool} {ev : ν → List D} (xs : List (κ × ν)) (hx : xs = []) (ho : o.op = .makeMap M none) : OpSpec P o ρ [] (.ref n) [.inv n (mapI ek ag ev xs)] := by
  subst hx
  intro evl env W O R he _ _ hR
  have : (execOp evl o).run P W = .ok (.value (.map (some W.heap.size))) (W.alloc (.map #[] 0)) := by
    simp [execOp, ho, Instr.makeMap, run_newObj_alloc]
  rw [this]
  refine ⟨setEnv env n (.map (some W.heap.size)), fun _ b => b = W.heap.size, R, fun m hm => setEnv_other (hm (.inv n (mapI ek ag ev [])) (by simp)), by simp [AV.den, setEnv_same, oneOf], ?_⟩
  refine St.fresh (keep_alloc W _) hR ?_ (fun b hb => by subst hb; simp)
  simp only [NEnt.holds, setEnv_same]
  exact ⟨_, 0, #[], [], rfl, rfl, World.alloc_heap_new W _, .nil, .refl _, List.nodup_nil, BornOk.nil 0⟩
theorem getObj_map {W : World} {r cl : Nat} {es : Array MapEntry} (h : W.heap[r]? = some (.map es cl)) : (getObj r).run P W = .ok (.map es cl) W := by simp [getObj, Sem.run, h]
theorem setObj_map {W : World} {r cl : Nat} {es : Array MapEntry} (o' : Obj) (h : W.heap[r]? = some (.map es cl)) : (setObj r o').run P W = .ok () (W.putObj r o') := by simp [setObj, Sem.run, h, World.putObj]
theorem look_val {κ ν : Type} [BEq κ] {M K V : TypeId} {ek : κ → Value} {ag : Bool} {ev : ν → List D} {xs : List (κ × ν)} {W : World} {R : Nat → Prop} {r cl : Nat} {es : Array MapEntry} (hk : MKey P M K V ek) (h : W.heap[r]? = some (.map es cl)) (hes : EsOk ek ag ev W R es.toList xs) (k : κ) (dflt : ν)
    {z : Value} (hz : ∀ w, (zeroValue V).run P w = .ok z w) (hzo : VOk ag (ev dflt) W R z) (cm : Bool) : ∃ v, VOk ag (ev ((mlook xs k).getD dflt)) W R v ∧ (Instr.lookup M (.map (some r)) (ek k) cm).run P W = .ok (if cm then .tuple #[v, .bool (mlook xs k).isSome] else v) W := by
  have hf := hk.find k es.toList (xs.map (·.1)) W hes.keys
  cases hm : (xs.map (·.1)).findIdx? (· == k) with
  | none =>
    refine ⟨z, by simpa [mlook, mfind, hm] using hzo, ?_⟩
    rw [hm] at hf
    simp only [Instr.lookup, Sem.run_bind, run_underlying hk.under, Result.andThen_ok, getObj_map h, Sem.run_pure, hk.check, hf, Option.bind_none, hz]
    simp [mlook, mfind, hm]
  | some i =>
    have hlt : i < xs.length := by
      have := (List.findIdx?_eq_some_iff_getElem.1 hm).1; simpa using this
    obtain ⟨e, he, _, hv⟩ := hes.at (i := i) (x := xs[i]) (by simp [hlt])
    have hml : mlook xs k = some xs[i].2 := by simp [mlook, mfind, hm, hlt]
    refine ⟨e.val, by rw [hml]; exact hv, ?_⟩
    rw [hm] at hf
    simp only [Option.bind_some, he, Option.map_some] at hf
    simp only [Instr.lookup, Sem.run_bind, run_underlying hk.under, Result.andThen_ok, getObj_map h, Sem.run_pure, hk.check, hf, hml, Option.isSome_some]
def AV.isAgg : AV → Bool
  | .agg _ => true
  | _ => false
theorem vok_of {ag : Bool} {a : AV} {ds : List D} {need : List NEnt} {env : Env} {W : World} {O : Nat → Nat → Prop} {R : Nat → Prop} (hfl : a.flat = true) (hag : a.isAgg = ag) (had : ADL need a.cs ds) (hn : ∀ x ∈ need, x.holds env W (O x.name) R) : VOk ag ds W R (a.den env) := by
  obtain ⟨hl, hk⟩ := had.ok hn
  have hone := denL_one (e := env) (cs_all_one hfl)
  refine ⟨AV.denL env a.cs, AV.den_cells hfl env, ?_, by rw [denL_length]; exact hl, fun j d hj => ?_⟩
  · cases a with
    | agg cs => subst hag; rfl
    | tup cs => cases hfl
    | val v => subst hag; simp [AV.cs, AV.denL, AV.den, AV.isAgg]
    | ref v => subst hag; simp [AV.cs, AV.denL, AV.den, AV.isAgg]
    | ptr n o => subst hag; simp [AV.cs, AV.denL, AV.den, AV.isAgg]
    | cell n o => subst hag; simp [AV.cs, AV.denL, AV.den, AV.isAgg]
    | fn f x y => subst hag; simp [AV.cs, AV.denL, AV.den, AV.isAgg]
  · obtain ⟨u, h1, h2⟩ := hk j d hj
    exact ⟨u, h1, h2, hone u (List.mem_of_getElem? h1)⟩
end
section
variable {P : Program} {s : List (Nat × AV)} {o : Oper}
theorem ts_mapUpdate {κ ν : Type} [BEq κ] [LawfulBEq κ] {M K V n : Nat} {x i y : Operand} {ek : κ → Value} {ag : Bool} {ev : ν → List D} {xs : List (κ × ν)} (k : κ) (d : ν) {ka va : AV} {ys : List (κ × ν)} {need : List NEnt} (ho : o.op = .mapUpdate M x i y) (hx : rho s x = some (.ref n)) (hi : rho s i = some ka) (hka : ∀ e, ka.den e = ek k) (hy : rho s y = some va)
    (hfl : va.flat = true) (hag : va.isAgg = ag) (had : ADL need va.cs (ev d)) (hk : MKey P M K V ek) (hys : (xs.map (·.1)).Nodup → ys.Perm (mput xs k d)) :
    TSpec P o (rho s) [.inv n (mapI ek ag ev xs)] need (.val undef) [.inv n (mapI ek ag ev ys)] := by
  intro evl c env W0 W O R he hst ht hnd _
  have hm := ht _ (List.mem_singleton.2 rfl)
  obtain ⟨kk, hkk⟩ := List.mem_iff_getElem?.1 hm
  obtain ⟨r, cl, es, zs, h1, hOr, h2, h3, hp, hnd', hb⟩ := hst.holds _ hm
  have hys' := hys ((hp.map _).nodup_iff.1 hnd')
  have hx' := he x _ hx
  simp only [AV.den, h1, oneOf] at hx'
  have hi' := he i _ hi
  rw [hka] at hi'
  have hy' := he y _ hy
  have hvo : VOk ag (ev d) W R (va.den env) := vok_of hfl hag had fun z hz => hst.holds z (hnd z hz)
  have hf := hk.find k es.toList (zs.map (·.1)) W h3.keys
  have hR' : ∀ b, R b → b ≠ r := fun b hb e => (hst.own _ hm r hOr).2.2 (e ▸ hb)
  have hlt : r < W.heap.size := (Array.getElem?_eq_some_iff.1 h2).1
  have key : ∀ (es' : Array MapEntry) (cl' : Nat), EsOk ek ag ev W R es'.toList (mput zs k d) → BornOk es'.toList cl' → St c env ([.inv n (mapI ek ag ev ys)] ++ delV [n] W0) (W.putObj r (.map es' cl')) O R := by
    intro es' cl' hes hbo
    refine St.set_del hkk hst.names rfl (hst.write kk hkk ⟨rfl, rfl, rfl, by simp, fun b _ hb => World.putObj_heap_other fun e => hb (e ▸ hOr)⟩ rfl ?_)
    exact ⟨r, cl', es', _, h1, hOr, World.putObj_heap_same hlt, hes.keep fun b hb => ⟨hb, World.putObj_heap_other (hR' b hb)⟩, (mput_perm hp hnd' k d).trans hys'.symm, nodup_put hnd' k d, hbo⟩
  cases hfi : (zs.map (·.1)).findIdx? (· == k) with
  | none =>
    rw [hfi] at hf
    have hrun : (execOp evl o).run P W = .ok .skip (W.putObj r (.map (es.push { key := ek k, val := va.den env, born := cl }) (cl + 1))) := by
      simp only [execOp, ho, Instr.mapUpdate, hx', hi', hy', Sem.run_bind, run_underlying hk.under, Result.andThen_ok, getObj_map h2, hk.check, hf, Option.bind_none, setObj_map _ h2, Sem.run_pure]
    rw [hrun]
    refine ⟨env, O, R, fun _ _ => rfl, rfl, key _ _ ?_ ?_⟩
    · simp only [mput, mfind, hfi, Array.toList_push]
      exact h3.snoc rfl hvo
    · rw [Array.toList_push]; exact hb.push rfl
  | some j =>
    have hjl : j < zs.length := by have := (List.findIdx?_eq_some_iff_getElem.1 hfi).1; simpa using this
    obtain ⟨e, hej, hek, _⟩ := h3.at (i := j) (x := zs[j]) (by simp [hjl])
    rw [hfi] at hf
    simp only [Option.bind_some, hej, Option.map_some] at hf
    have hke : e.key = ek k := by rw [hek]; exact hk.eq _ k j _ hfi (by simp [hjl])
    have hej' : es[j]? = some e := by simpa using hej
    have hrun : (execOp evl o).run P W = .ok .skip (W.putObj r (.map (es.modify j fun e => { e with key := ek k, val := va.den env }) cl)) := by
      simp only [execOp, ho, Instr.mapUpdate, hx', hi', hy', Sem.run_bind, run_underlying hk.under, Result.andThen_ok, getObj_map h2, hk.check, hf, hej', Option.map_some, Option.getD_some, hke, hk.stay, setObj_map _ h2, Sem.run_pure]
    rw [hrun]
    refine ⟨env, O, R, fun _ _ => rfl, rfl, key _ _ ?_ ?_⟩
    rotate_left
    · refine hb.same ?_
      rw [Array.toList_modify]
      apply List.ext_getElem?
      intro q
      rw [List.getElem?_map, List.getElem?_map, List.getElem?_modify]
      by_cases e' : j = q
      · subst e'; cases es.toList[j]? <;> simp
      · simp [e']
    simp only [mput, mfind, hfi, Array.toList_modify]
    have : es.toList.modify j (fun e => { e with key := ek k, val := va.den env }) = es.toList.set j { e with key := ek k, val := va.den env } := by
      apply List.ext_getElem?
      intro q
      rw [List.getElem?_modify, List.getElem?_set]
      by_cases e' : j = q
      · subst e'
        have hq : j < es.toList.length := (List.getElem?_eq_some_iff.1 hej).1
        simp [hej]
        simpa using hq
      · simp [e']
    rw [this]
    exact h3.set j rfl hvo
end
end Go.Proofs.YtohjpfkcahlfkaaGreat.Sy
