/- Texts joined into one: SymQ, SymR, SymS, SymT, SymU, SymV, SymW, SymX, SymY. -/
import Derived.Test.YtgkoldcmbcbbpaaCdSymJJ
import Derived.Laws.OwnMore
import Derived.Shelf.Slices.CompactI
import Derived.Shelf.Sort.Plain
import Derived.Shelf.Slices.In.SortNone
section
set_option linter.unusedSimpArgs false
set_option linter.unusedVariables false
namespace Go.Proofs.Ytgkoldcmbcbbpaa.Sy
open Go.RowKit
section
variable {P : Program} {c : Ctx} {s : List (Nat × AV)} {o : Oper}
theorem ts_append {T E size bytes n m N N2 : Nat} (r : Nat) {x y : Operand} {els els2 els3 : List (List D)} {ym : NEnt} (ho : o.op = .call { callee := .builtin .append, args := #[x, y], argTypes := #[T, T] })
    (hx : rho s x = some (.ref n)) (hy : rho s y = some (.ref m)) (hym : IsRow ym m size els2) (hnm : (m == n) = false) (hT : SlT P T E size bytes) (hl1 : els.length = N) (hl2 : els2.length = N2) (hroom : room bytes (N + N2) = true) (he3 : els ++ els2 = els3) (hrn : (r == n) = false) :
    TSpec P o (rho s) [.row n E size els] [ym] (.ref r) [.row r E size els3] := by
  subst hl1; subst hl2; subst he3;intro ev c env V W O R hev hst ht hk hnn;have hxm : NEnt.row n E size els ∈ V := ht _ (List.mem_singleton.2 rfl);have hm : ym ∈ V := hk _ (List.mem_singleton.2 rfl);obtain ⟨k, hkk⟩ := List.mem_iff_getElem?.1 hxm;have hrV : hasV r V = false := by
    rcases hnn _ (List.mem_singleton.2 rfl) with h | h
    · simp only [NEnt.name, List.map_cons, List.map_nil, List.mem_singleton] at h;rw [h] at hrn; simp at hrn
    · exact h
  simp only [room, Bool.and_eq_true, decide_eq_true_eq] at hroom;obtain ⟨hs, cells, hown, hob, hcd⟩ := hst.holds _ hxm;obtain ⟨a, cap, hv2, hnone, hs2, us, hul, hone, hcell, hok⟩ := row_cells hym hT.pos (hst.holds _ hm);obtain ⟨i, z, hi, hz, hsz, hby, hzs⟩ := hT.info;have hvx : oneOf (env n) = env n := by
    rcases hown.2 with ⟨hv, _⟩ | ⟨g, cap, cur, hv, _⟩ <;> rw [hv] <;> rfl
  have hx' := hev _ _ hx;have hy' := hev _ _ hy;simp only [AV.den, hvx] at hx';simp only [AV.den, hv2, oneOf] at hy';have hrun : ∃ v' W', (Builtin.append_ #[T, T] o.type #[env n, .slice a els2.length cap]).run P W = .ok v' W' ∧ W'.ownsRow 0 E size v' (els.length + els2.length) (cells ++ us) ∧ W.grownBy W' (env n).ownBlock ∧
      ∀ b, v'.ownBlock = some b → (env n).ownBlock = some b ∨ W.heap.size ≤ b := by
    cases a with
    | none =>
      have he2 := hnone rfl;subst he2;have hus : us = [] := List.eq_nil_of_length_eq_zero (by simpa using hul);subst hus;obtain ⟨_, _, h2, _, _, h4, _⟩ := row_read hym (hst.holds _ hm);have hc0 : cap = 0 := by
        rw [hv2] at h2; cases h2; exact h4 rfl
      subst hc0;refine ⟨env n, W, run_append_owned_none (w := W) 0 T o.type E i size hT.under hi _ _ _ hown, by simpa using hown, ⟨rfl, rfl, rfl, Nat.le_refl _, fun _ _ _ => rfl⟩, fun b hb => .inl hb⟩
    | some ad =>
      obtain ⟨v', W', h1, h2, h3, _⟩ := run_append_own W 0 T o.type E i z size bytes hT.under hi hz hsz hby hzs hT.pos (env n) els.length cells hown ad els2.length cap us hul (hcell ad rfl) hone (by simp only [maxLen]; omega) hroom.1 (Nat.zero_le _);refine ⟨v', W', h1, h2, h3, fun b hb => ?_⟩;subst hsz; subst hby
      have h63 : (els.length + els2.length : Nat) ≤ 9223372036854775807 := by omega
      rcases hown.2 with ⟨hv, hn0⟩ | ⟨g, cap2, cur, hv, _, hg, hnc, hcm, hcs, htk⟩
      · rw [hv] at h1
        by_cases h0 : els2.length = 0
        · have hus : us = [] := List.eq_nil_of_length_eq_zero (by simpa [h0] using hul);have hl0 : els.length = 0 := hn0;have : (Builtin.append_ #[T, T] o.type #[.slice none 0 0, .slice (some ad) els2.length cap]).run P W = .ok (.slice none 0 0) W := by
            rw [h0];simp [Builtin.append_, run_underlying hT.under, sizeOf, typeInfo, hi, Builtin.lenOf, Builtin.firstCells, loadCells, loadCellsFrom]
          rw [this] at h1;cases h1;simp [Value.ownBlock] at hb
        · have hr := run_append_nil (P := P) W T o.type E i z hT.under hi hz ad els2.length cap us hul (hcell ad rfl) (by omega) (by omega) (by have := hroom.1; rw [Nat.add_mul] at this; omega);rw [hr] at h1;cases h1;simp [Value.ownBlock] at hb;exact .inr (by omega)
      · rw [hv] at h1 ⊢
        by_cases hroom2 : els.length + els2.length ≤ cap2
        · have hfit : els.length * i.size + us.length ≤ cur.size := by rw [hul, hcs, ← Nat.add_mul]; exact Nat.mul_le_mul_right _ hroom2
          have hr := run_append_room (P := P) W T o.type E i hT.under hi g els.length cap2 cur hg ad els2.length cap us hul (hcell ad rfl) hone hroom2 hfit;rw [hr] at h1;cases h1;exact .inl hb
        · have holds : ∀ j u, cells[j]? = some u → W.cell? ((⟨g, 0, none⟩ : Addr).add j) = some u := World.ownsRow.cells hown (g := g) (by rw [hv]; rfl);have hr := run_append_grow (P := P) W T o.type E i z hT.under hi hz ⟨g, 0, none⟩ els.length cap2 cells hown.1 holds ad els2.length cap us hul (hcell ad rfl) (by omega) (by omega) (growslice_fits (by omega) hroom.1);rw [hr] at h1;cases h1;simp [Value.ownBlock] at hb;exact .inr (by omega)
  obtain ⟨v', W', hrun, hown', hgrow, hblk⟩ := hrun;have hexec : (execOp ev o).run P W = .ok (.value v') W' := by
    simp only [execOp, ho, resolve, invoke, builtin, Sem.run_bind, Sem.run_pure, Result.andThen_ok, List.map_toArray, List.map_cons, List.map_nil, hx', hy', hrun]
  rw [hexec];have hkeep : Keep (fun b => O n b) W W' := grown_keep hgrow hob;have hvb : ∀ b, v'.ownBlock = some b → (O n b ∨ W.heap.size ≤ b) ∧ b < W'.heap.size := by
    intro b hb;exact ⟨(hblk b hb).imp (hob b) id, (hown'.lt b hb).2⟩
  obtain ⟨O', hst'⟩ := hst.replace (y := .row r E size (els ++ els2)) (v := v') (Or := fun b => v'.ownBlock = some b) k hkk hkeep hvb hrV (by
    simp only [NEnt.name, NEnt.holds, setEnv_same];refine ⟨fun el he => (List.mem_append.1 he).elim (hs el) (hs2 el), cells ++ us, by simpa using hown', fun b hb => hb, fun q d hq => ?_⟩;have hRk : ∀ b, R b → R b ∧ W'.heap[b]? = W.heap[b]? := fun b hb => ⟨hb, hkeep.block b (hst.ro b hb).1 (fun ho => (hst.own _ hxm b ho).2.2 hb)⟩
    have hfl := flatten_len els hs;have hcl : cells.length = els.length * size := hown.1;rw [List.flatten_append] at hq;rcases Nat.lt_or_ge q els.flatten.length with hlt | hge
    · rw [List.getElem?_append_left hlt] at hq;obtain ⟨u, hu, hok', h1⟩ := hcd q d hq;exact ⟨u, by rw [List.getElem?_append_left (by omega)]; exact hu, d.mono W W' R R hRk u hok', h1⟩
    · rw [List.getElem?_append_right hge] at hq;obtain ⟨u, hu, hok'⟩ := hok _ d hq;exact ⟨u, by rw [List.getElem?_append_right (by omega), hcl, ← hfl]; exact hu, d.mono W W' R R hRk u hok', hone u (List.mem_of_getElem? hu)⟩)
  have hone' : oneOf v' = v' := by
    rcases hown'.2 with ⟨hv, _⟩ | ⟨g, cap, cur, hv, _⟩ <;> rw [hv] <;> rfl
  refine ⟨_, O', R, fun q hq => ?_, ?_, hst'.sub (V' := [.row r E size (els ++ els2)] ++ delV [n] V) id (fun z hz => ?_) ?_⟩
  · refine setEnv_other fun e => ?_
    by_cases h : r ∈ [n]
    · simp only [List.mem_singleton] at h;rw [h] at hrn; simp at hrn
    · exact hq _ (List.mem_singleton.2 rfl) (by simpa [NEnt.name] using h) (by simpa [NEnt.name] using e)
  · show v' = oneOf (setEnv env r v' r);rw [setEnv_same, hone']
  · rw [NEnt.ren_id];rcases List.mem_append.1 hz with hz | hz
    · exact List.mem_cons.2 (.inl (List.mem_singleton.1 hz))
    · obtain ⟨h1, h2⟩ := mem_delV.1 hz;refine List.mem_cons_of_mem _ ?_;obtain ⟨q, hq⟩ := List.mem_iff_getElem?.1 h1;have hqk : q ≠ k := fun e => by
        subst e; rw [hkk] at hq; cases hq; simp [NEnt.name] at h2
      refine List.mem_iff_getElem?.2 ?_;rcases Nat.lt_or_gt_of_ne hqk with hlt | hgt
      · exact ⟨q, by rw [List.getElem?_eraseIdx, if_pos hlt]; exact hq⟩
      · exact ⟨q - 1, by rw [List.getElem?_eraseIdx, if_neg (by omega), show q - 1 + 1 = q by omega]; exact hq⟩
  · simp only [id, List.cons_append, List.nil_append, List.map_cons, List.nodup_cons];refine ⟨fun hmm => ?_, hst.names.sublist ((delV_sub _ _).map NEnt.name)⟩;obtain ⟨z, hz, e⟩ := List.mem_map.1 hmm;have := mem_has (mem_delV.1 hz).1 (NEnt.has_name z);rw [e] at this;simp only [NEnt.name] at this;rw [hrV] at this; cases this
end
theorem FT.nilT {P : Program} {f : Nat} {args : List AV} {take need news : List NEnt} {v : AV} (k E size : Nat) (h : FT P f args (.row k E size [] :: take) need v news) (ht : hasV k take = false) (hk : hasV k need = false) (hv : v.has k = false) (hn : hasV k news = false) :
    FT P f (AV.nlL k args) take need v news := by
  intro env w0 M O R0 hst hnd;rw [AV.denL_nl];have hst' : St ⟨w0, M, R0⟩ (setEnv env k (.slice none 0 0)) (.row k E size [] :: take) w0 (fun n b => n ≠ k ∧ O n b) R0 :=
    hst.addRo (x := .row k E size []) (v := .slice none 0 0) ht fun O => by
      simp only [NEnt.holds, NEnt.name, setEnv_same];exact ⟨by simp, [], World.ownsRow_nil _ _ _ _, by simp [Value.ownBlock], by simp⟩
  refine (h (setEnv env k (.slice none 0 0)) w0 M _ R0 hst' (fun x hx => ?_)).mono ?_
  · exact ⟨(hnd x hx).1, NEnt.holds_congr (fun n hn' => (setEnv_other fun e => by subst e; rw [hasV_mem hk hx] at hn'; cases hn').symm) (hnd x hx).2⟩
  rintro e W' ⟨u, he, env', O', R', h1, h2, hst2⟩
  have hc : ∀ n, n ≠ k → setEnv env' k (env k) n = env' n := fun n hne => setEnv_other (Ne.symm hne)
  have hnk : ∀ y ∈ news, y.name ≠ k := fun y hy e => by have := mem_has hy (NEnt.has_name y); rw [e, hn] at this; cases this
  refine ⟨u, he, setEnv env' k (env k), O', R', fun n hn' => ?_, ?_, hst2.keep, fun x hx => ?_, hst2.own, hst2.apart, hst2.ro, hst2.r0, hst2.names⟩
  · by_cases e : n = k
    · subst e; rw [setEnv_same]
    · rw [hc n e, h1 n (fun y hy hyt => hn' y hy fun hm => hyt (by simp [hm])), setEnv_other (Ne.symm e)]
  · rw [h2];exact AV.den_congr v fun n hn' => (hc n fun e => by subst e; rw [hv] at hn'; cases hn').symm
  · exact NEnt.holds_congr (fun n hn' => (hc n fun e => by subst e; rw [hasV_mem hn hx] at hn'; cases hn').symm) (hst2.holds x hx)
def VOk (ag : Bool) (ds : List D) (W : World) (R : Nat → Prop) (v : Value) : Prop :=
  ∃ cs : List Value, v.cells = cs.toArray ∧ (v = if ag then .agg cs.toArray else cs.headD undef) ∧ cs.length = ds.length ∧ ∀ (j : Nat) (d : D), ds[j]? = some d → ∃ u : Value, cs[j]? = some u ∧ d.ok W R u ∧ u.oneCell' = true
theorem VOk.keep {ag : Bool} {ds : List D} {W W' : World} {R R' : Nat → Prop} {v : Value} (hm : ∀ b, R b → R' b ∧ W'.heap[b]? = W.heap[b]?) (h : VOk ag ds W R v) : VOk ag ds W' R' v := by
  obtain ⟨cs, h1, h2, h3, h4⟩ := h;exact ⟨cs, h1, h2, h3, fun j d hj => by obtain ⟨u, g1, g2, g3⟩ := h4 j d hj; exact ⟨u, g1, d.mono W W' R R' hm u g2, g3⟩⟩
inductive EsOk {κ ν : Type} (ek : κ → Value) (ag : Bool) (ev : ν → List D) (W : World) (R : Nat → Prop) : List MapEntry → List (κ × ν) → Prop where
  | nil : EsOk ek ag ev W R [] []
  | cons {e : MapEntry} {x : κ × ν} {es xs} : e.key = ek x.1 → VOk ag (ev x.2) W R e.val → EsOk ek ag ev W R es xs → EsOk ek ag ev W R (e :: es) (x :: xs)
section
variable {κ ν : Type} {ek : κ → Value} {ag : Bool} {ev : ν → List D} {W W' : World} {R R' : Nat → Prop}
theorem EsOk.keep (hm : ∀ b, R b → R' b ∧ W'.heap[b]? = W.heap[b]?) {es : List MapEntry} {xs : List (κ × ν)} (h : EsOk ek ag ev W R es xs) : EsOk ek ag ev W' R' es xs := by
  induction h with
  | nil => exact .nil
  | cons h1 h2 _ ih => exact .cons h1 (h2.keep hm) ih
theorem EsOk.keys {es : List MapEntry} {xs : List (κ × ν)} (h : EsOk ek ag ev W R es xs) : es.map (·.key) = (xs.map (·.1)).map ek := by
  induction h with
  | nil => rfl
  | cons h1 _ _ ih => simp [h1, ih]
theorem EsOk.len {es : List MapEntry} {xs : List (κ × ν)} (h : EsOk ek ag ev W R es xs) : es.length = xs.length := by
  induction h with
  | nil => rfl
  | cons _ _ _ ih => simp [ih]
theorem EsOk.at {es : List MapEntry} {xs : List (κ × ν)} (h : EsOk ek ag ev W R es xs) : ∀ {i : Nat} {x : κ × ν}, xs[i]? = some x → ∃ e, es[i]? = some e ∧ e.key = ek x.1 ∧ VOk ag (ev x.2) W R e.val := by
  induction h with
  | nil => intro i x hi; simp at hi
  | cons h1 h2 _ ih =>
    intro i x hi
    cases i with
    | zero => simp at hi; subst hi; exact ⟨_, rfl, h1, h2⟩
    | succ i => exact ih (by simpa using hi)
theorem EsOk.snoc {es : List MapEntry} {xs : List (κ × ν)} (h : EsOk ek ag ev W R es xs) {e : MapEntry} {x : κ × ν} (h1 : e.key = ek x.1) (h2 : VOk ag (ev x.2) W R e.val) : EsOk ek ag ev W R (es ++ [e]) (xs ++ [x]) := by
  induction h with
  | nil => exact .cons h1 h2 .nil
  | cons g1 g2 _ ih => exact .cons g1 g2 ih
theorem EsOk.set {es : List MapEntry} {xs : List (κ × ν)} (h : EsOk ek ag ev W R es xs) : ∀ (i : Nat) {e : MapEntry} {x : κ × ν}, e.key = ek x.1 → VOk ag (ev x.2) W R e.val → EsOk ek ag ev W R (es.set i e) (xs.set i x) := by
  induction h with
  | nil => intro i e x _ _; exact .nil
  | cons g1 g2 g3 ih =>
    intro i e x h1 h2
    cases i with
    | zero => exact .cons h1 h2 g3
    | succ i => exact .cons g1 g2 (ih i h1 h2)
theorem EsOk.erase {es : List MapEntry} {xs : List (κ × ν)} (h : EsOk ek ag ev W R es xs) : ∀ (i : Nat), EsOk ek ag ev W R (es.eraseIdx i) (xs.eraseIdx i) := by
  induction h with
  | nil => intro i; exact .nil
  | cons g1 g2 g3 ih =>
    intro i
    cases i with
    | zero => exact g3
    | succ i => exact .cons g1 g2 (ih i)
end
def BornOk (es : List MapEntry) (cl : Nat) : Prop := (es.map (·.born)).Nodup ∧ ∀ b ∈ es.map (·.born), b < cl
theorem BornOk.nil (cl : Nat) : BornOk [] cl := ⟨by simp, by simp⟩
theorem BornOk.push {es : List MapEntry} {cl : Nat} (h : BornOk es cl) {e : MapEntry} (he : e.born = cl) : BornOk (es ++ [e]) (cl + 1) := by
  refine ⟨?_, fun b hb => ?_⟩
  · rw [List.map_append, List.nodup_append];refine ⟨h.1, by simp, fun x hx y hy => ?_⟩;have := h.2 x hx;simp only [List.map_cons, List.map_nil, List.mem_singleton] at hy
    omega
  · rw [List.map_append, List.mem_append] at hb;rcases hb with hb | hb
    · have := h.2 b hb; omega
    · simp only [List.map_cons, List.map_nil, List.mem_singleton] at hb; omega
theorem BornOk.same {es es' : List MapEntry} {cl : Nat} (h : BornOk es cl) (he : es'.map (·.born) = es.map (·.born)) : BornOk es' cl := by unfold BornOk; rw [he]; exact h
theorem BornOk.erase {es : List MapEntry} {cl : Nat} (h : BornOk es cl) (j : Nat) : BornOk (es.eraseIdx j) cl := by
  have hs : ((es.eraseIdx j).map (·.born)).Sublist (es.map (·.born)) := (List.eraseIdx_sublist _ _).map _;exact ⟨h.1.sublist hs, fun b hb => h.2 b (hs.subset hb)⟩
def mfind {κ ν : Type} [BEq κ] (xs : List (κ × ν)) (k : κ) : Option Nat := (xs.map (·.1)).findIdx? (· == k)
def mlook {κ ν : Type} [BEq κ] (xs : List (κ × ν)) (k : κ) : Option ν := (mfind xs k).bind fun i => (xs[i]?).map (·.2)
def mput {κ ν : Type} [BEq κ] (xs : List (κ × ν)) (k : κ) (v : ν) : List (κ × ν) := match mfind xs k with
  | some i => xs.set i (k, v)
  | none => xs ++ [(k, v)]
section
variable {κ ν : Type} [BEq κ]
theorem mfind_cons (x : κ × ν) (xs : List (κ × ν)) (k : κ) : mfind (x :: xs) k = if x.1 == k then some 0 else (mfind xs k).map (· + 1) := by
  simp only [mfind, List.map_cons, List.findIdx?_cons]
theorem mlook_nil (k : κ) : mlook ([] : List (κ × ν)) k = none := rfl
theorem mlook_cons (x : κ × ν) (xs : List (κ × ν)) (k : κ) : mlook (x :: xs) k = if x.1 == k then some x.2 else mlook xs k := by
  simp only [mlook, mfind_cons]
  by_cases h : (x.1 == k) = true
  · simp [h]
  · simp only [h, if_false, Bool.false_eq_true];cases mfind xs k <;> simp
theorem mput_nil (k : κ) (v : ν) : mput ([] : List (κ × ν)) k v = [(k, v)] := rfl
theorem mput_cons (x : κ × ν) (xs : List (κ × ν)) (k : κ) (v : ν) : mput (x :: xs) k v = if x.1 == k then (k, v) :: xs else x :: mput xs k v := by
  simp only [mput, mfind_cons]
  by_cases h : (x.1 == k) = true
  · simp [h]
  · simp only [h, if_false, Bool.false_eq_true];cases mfind xs k <;> simp
variable [LawfulBEq κ]
theorem filter_ne {xs : List (κ × ν)} {k : κ} (h : k ∉ xs.map (·.1)) : xs.filter (fun x => !(x.1 == k)) = xs := by
  rw [List.filter_eq_self];intro x hx;have : x.1 ≠ k := fun e => h (e ▸ List.mem_map.2 ⟨x, hx, rfl⟩)
  simpa using this
theorem mlook_iff {xs : List (κ × ν)} (nd : (xs.map (·.1)).Nodup) (k : κ) (v : ν) : mlook xs k = some v ↔ (k, v) ∈ xs := by
  induction xs with
  | nil => simp [mlook_nil]
  | cons x xs ih =>
    obtain ⟨a, b⟩ := x;rw [List.map_cons, List.nodup_cons] at nd;rw [mlook_cons]
    by_cases h : a = k
    · subst h;have : ∀ w, (a, w) ∉ xs := fun w hw => nd.1 (List.mem_map.2 ⟨_, hw, rfl⟩)
      simp only [BEq.rfl, if_true, Option.some.injEq, List.mem_cons, Prod.mk.injEq, true_and, this, or_false];exact eq_comm
    · have h2 : (a == k) = false := by simpa using h
      simp only [h2, Bool.false_eq_true, if_false, ih nd.2, List.mem_cons, Prod.mk.injEq]
      constructor
      · exact .inr
      · rintro (⟨e, _⟩ | h3)
        · exact absurd e.symm h
        · exact h3
theorem mlook_perm {xs ys : List (κ × ν)} (p : ys.Perm xs) (nd : (ys.map (·.1)).Nodup) (k : κ) : mlook ys k = mlook xs k := by
  apply Option.ext;intro v;rw [mlook_iff nd, mlook_iff ((p.map _).nodup_iff.1 nd), p.mem_iff]
theorem mput_filter {xs : List (κ × ν)} (nd : (xs.map (·.1)).Nodup) (k : κ) (v : ν) : (mput xs k v).Perm ((k, v) :: xs.filter fun x => !(x.1 == k)) := by
  induction xs with
  | nil => exact .refl _
  | cons x xs ih =>
    obtain ⟨a, b⟩ := x;rw [List.map_cons, List.nodup_cons] at nd;rw [mput_cons]
    by_cases h : a = k
    · subst h;simp only [BEq.rfl, if_true, List.filter_cons, Bool.not_true, Bool.false_eq_true, if_false, filter_ne nd.1];exact .refl _
    · have h2 : (a == k) = false := by simpa using h
      simp only [h2, Bool.false_eq_true, if_false, List.filter_cons, Bool.not_false, if_true];exact ((ih nd.2).cons _).trans (.swap _ _ _)
theorem nodup_put {xs : List (κ × ν)} (nd : (xs.map (·.1)).Nodup) (k : κ) (v : ν) : ((mput xs k v).map (·.1)).Nodup := by
  rw [((mput_filter nd k v).map (·.1)).nodup_iff, List.map_cons, List.nodup_cons];refine ⟨fun h => ?_, nd.sublist (List.filter_sublist.map _)⟩;obtain ⟨x, hx, e⟩ := List.mem_map.1 h;have := (List.mem_filter.1 hx).2;simp only at e;rw [e] at this;simp at this
theorem mput_perm {xs ys : List (κ × ν)} (p : ys.Perm xs) (nd : (ys.map (·.1)).Nodup) (k : κ) (v : ν) : (mput ys k v).Perm (mput xs k v) :=
  (mput_filter nd k v).trans (((p.filter _).cons _).trans (mput_filter ((p.map _).nodup_iff.1 nd) k v).symm)
def mins (lt : κ → κ → Bool) (x : κ × ν) : List (κ × ν) → List (κ × ν)
  | [] => [x]
  | y :: l => if lt x.1 y.1 then x :: y :: l else y :: mins lt x l
def mputS (lt : κ → κ → Bool) (xs : List (κ × ν)) (k : κ) (v : ν) : List (κ × ν) := mins lt (k, v) (xs.filter fun x => !(x.1 == k))
omit [BEq κ] [LawfulBEq κ] in
theorem mins_perm (lt : κ → κ → Bool) (x : κ × ν) (l : List (κ × ν)) : (mins lt x l).Perm (x :: l) := by
  induction l with
  | nil => exact .refl _
  | cons y l ih =>
    simp only [mins]
    split
    · exact .refl _
    · exact (ih.cons _).trans (.swap _ _ _)
theorem mputS_perm (lt : κ → κ → Bool) {xs : List (κ × ν)} (k : κ) (v : ν) (nd : (xs.map (·.1)).Nodup) : (mputS lt xs k v).Perm (mput xs k v) := (mins_perm lt _ _).trans (mput_filter nd k v).symm
end
def MapOk {κ ν : Type} (es : List MapEntry) (cl : Nat) (ys xs : List (κ × ν)) : Prop := ys.Perm xs ∧ (ys.map (·.1)).Nodup ∧ BornOk es cl
def mapI {κ ν : Type} (ek : κ → Value) (ag : Bool) (ev : ν → List D) (xs : List (κ × ν)) : Inv :=
  ⟨fun W O R v => ∃ r clock es ys, v = .map (some r) ∧ O r ∧ W.heap[r]? = some (.map es clock) ∧ EsOk ek ag ev W R es.toList ys ∧ MapOk es.toList clock ys xs,
   fun W W' O R R' hO hR v ⟨r, cl, es, ys, h1, h2, h3, h4, h5⟩ => ⟨r, cl, es, ys, h1, h2, (hO r h2).trans h3, h4.keep hR, h5⟩⟩
structure MKey (P : Program) (M K V : TypeId) {κ : Type} [BEq κ] (ek : κ → Value) : Prop where
  under : P.underlying M = some (.map K V)
  check : ∀ b k w, (Instr.checkKey b 10000 K (ek k)).run P w = .ok () w
  find : ∀ (k : κ) (es : List MapEntry) (ks : List κ) (w : World), es.map (·.key) = ks.map ek → (Instr.findKey K (ek k) es).run P w = .ok ((ks.findIdx? (· == k)).bind fun i => (es[i]?).map fun e => (i, e.val)) w
  stay : ∀ k w, (Instr.keyThatStays (ek k) (ek k)).run P w = .ok (ek k) w
  eq : ∀ (ks : List κ) k i x, ks.findIdx? (· == k) = some i → ks[i]? = some x → ek x = ek k
theorem findNow_int {q : IntKind} (k : Int) : ∀ (es : List MapEntry) (ks : List Int) (i : Nat), es.map (·.key) = ks.map (fun z => Value.int q z) →
    Instr.findNow (.int q) (.int q k) es i = some ((ks.findIdx? (· == k)).bind fun j => (es[j]?).map fun e => (i + j, e.val)) := by
  intro es
  induction es with
  | nil => intro ks i h; cases ks <;> first | rfl | cases h
  | cons e es ih =>
    intro ks i h
    cases ks with
    | nil => cases h
    | cons z ks =>
      simp only [List.map_cons, List.cons.injEq] at h;simp only [Instr.findNow, h.1, Instr.sameNow, if_true, List.findIdx?_cons]
      by_cases hz : k = z
      · subst hz; simp
      · have h1 : (k == z) = false := by simpa using hz
        have h2 : (z == k) = false := by simpa using Ne.symm hz
        simp only [h1, h2, ih ks (i + 1) h.2];cases ks.findIdx? (· == k) <;> simp
        rename_i j
        cases es[j]? <;> simp
        omega
theorem chk_int {P : Program} {K : TypeId} {q : IntKind} (hK : P.underlying K = some (.int q)) (b : Bool) (k : Int) (w : World) (n : Nat) : (Instr.checkKey b (n + 1) K (Value.int q k)).run P w = .ok () w := by
  simp [Instr.checkKey, run_underlying hK]
theorem mkey_int {P : Program} {M K V : TypeId} {q : IntKind} (hu : P.underlying M = some (.map K V)) (hK : P.underlying K = some (.int q)) : MKey P M K V (fun z : Int => Value.int q z) where
  under := hu
  check b k w := chk_int hK b k w 9999
  find k es ks w h := by simp [Instr.findKey, run_underlying hK, findNow_int k es ks 0 h]
  stay k w := by simp [Instr.keyThatStays, Instr.sameBits]
  eq ks k i x h1 h2 := by
    obtain ⟨h3, h4, _⟩ := List.findIdx?_eq_some_iff_getElem.1 h1;rw [List.getElem?_eq_getElem h3] at h2;cases h2;simp only [beq_iff_eq] at h4;rw [h4]
def IsMapE {κ ν : Type} (x : NEnt) (n : Nat) (ek : κ → Value) (ag : Bool) (ev : ν → List D) (xs : List (κ × ν)) : Prop := x = .inv n (mapI ek ag ev xs) ∨ x = .any n (mapI ek ag ev xs).froz
theorem isMapO {κ ν : Type} {n : Nat} {ek : κ → Value} {ag : Bool} {ev : ν → List D} {xs : List (κ × ν)} : IsMapE (.inv n (mapI ek ag ev xs)) n ek ag ev xs := .inl rfl
theorem map_read {κ ν : Type} {x : NEnt} {n : Nat} {ek : κ → Value} {ag : Bool} {ev : ν → List D} {xs : List (κ × ν)} {env : Env} {W : World} {O R : Nat → Prop} (hx : IsMapE x n ek ag ev xs) (h : x.holds env W O R) :
    ∃ r clock es ys, env n = .map (some r) ∧ W.heap[r]? = some (.map es clock) ∧ EsOk ek ag ev W R es.toList ys ∧ MapOk es.toList clock ys xs := by
  rcases hx with rfl | rfl
  · obtain ⟨r, cl, es, ys, h1, _, h3, h4⟩ := h; exact ⟨r, cl, es, ys, h1, h3, h4⟩
  · obtain ⟨_, _, r, cl, es, ys, h1, _, h3, h4⟩ := h; exact ⟨r, cl, es, ys, h1, h3, h4⟩
section
variable {P : Program} {o : Oper} {ρ : Operand → Option AV}
theorem sp_makeMap {κ ν : Type} {M : TypeId} (n : Nat) {ek : κ → Value} {ag : Bool} {ev : ν → List D} (xs : List (κ × ν)) (hx : xs = []) (ho : o.op = .makeMap M none) : OpSpec P o ρ [] (.ref n) [.inv n (mapI ek ag ev xs)] := by
  subst hx;intro evl env W O R he _ _ hR;have : (execOp evl o).run P W = .ok (.value (.map (some W.heap.size))) (W.alloc (.map #[] 0)) := by
    simp [execOp, ho, Instr.makeMap, run_newObj_alloc]
  rw [this];refine ⟨setEnv env n (.map (some W.heap.size)), fun _ b => b = W.heap.size, R, fun m hm => setEnv_other (hm (.inv n (mapI ek ag ev [])) (by simp)), by simp [AV.den, setEnv_same, oneOf], ?_⟩;refine St.fresh (keep_alloc W _) hR ?_ (fun b hb => by subst hb; simp);simp only [NEnt.holds, setEnv_same];exact ⟨_, 0, #[], [], rfl, rfl, World.alloc_heap_new W _, .nil, .refl _, List.nodup_nil, BornOk.nil 0⟩
theorem getObj_map {W : World} {r cl : Nat} {es : Array MapEntry} (h : W.heap[r]? = some (.map es cl)) : (getObj r).run P W = .ok (.map es cl) W := by simp [getObj, Sem.run, h]
theorem setObj_map {W : World} {r cl : Nat} {es : Array MapEntry} (o' : Obj) (h : W.heap[r]? = some (.map es cl)) : (setObj r o').run P W = .ok () (W.putObj r o') := by simp [setObj, Sem.run, h, World.putObj]
theorem sp_lenMap {κ ν : Type} {M K V n : Nat} {x : Operand} {ek : κ → Value} {ag : Bool} {ev : ν → List D} {xs : List (κ × ν)} {y : NEnt} (ho : o.op = .call { callee := .builtin .len, args := #[x], argTypes := #[M] }) (hx : ρ x = some (.ref n)) (hy : IsMapE y n ek ag ev xs) (hM : P.underlying M = some (.map K V)) :
    OpSpec P o ρ [y] (.val (.int .i64 (xs.length : Int))) [] :=
  .pure fun evl env W O R he hn => by
    obtain ⟨r, cl, es, ys, h1, h2, h3, h4⟩ := map_read hy (hn _ (List.mem_singleton.2 rfl));have hx' := he x _ hx;simp only [AV.den, h1, oneOf] at hx';have hl : es.size = xs.length := by rw [← h4.1.length_eq, ← h3.len]; simp
    simp [execOp, ho, resolve, invoke, builtin, hx', Builtin.len_, run_underlying hM, getObj_map h2, goInt, AV.den, hl]
theorem look_val {κ ν : Type} [BEq κ] {M K V : TypeId} {ek : κ → Value} {ag : Bool} {ev : ν → List D} {xs : List (κ × ν)} {W : World} {R : Nat → Prop} {r cl : Nat} {es : Array MapEntry} (hk : MKey P M K V ek) (h : W.heap[r]? = some (.map es cl)) (hes : EsOk ek ag ev W R es.toList xs) (k : κ) (dflt : ν)
    {z : Value} (hz : ∀ w, (zeroValue V).run P w = .ok z w) (hzo : VOk ag (ev dflt) W R z) (cm : Bool) : ∃ v, VOk ag (ev ((mlook xs k).getD dflt)) W R v ∧ (Instr.lookup M (.map (some r)) (ek k) cm).run P W = .ok (if cm then .tuple #[v, .bool (mlook xs k).isSome] else v) W := by
  have hf := hk.find k es.toList (xs.map (·.1)) W hes.keys
  cases hm : (xs.map (·.1)).findIdx? (· == k) with
  | none =>
    refine ⟨z, by simpa [mlook, mfind, hm] using hzo, ?_⟩;rw [hm] at hf;simp only [Instr.lookup, Sem.run_bind, run_underlying hk.under, Result.andThen_ok, getObj_map h, Sem.run_pure, hk.check, hf, Option.bind_none, hz];simp [mlook, mfind, hm]
  | some i =>
    have hlt : i < xs.length := by
      have := (List.findIdx?_eq_some_iff_getElem.1 hm).1; simpa using this
    obtain ⟨e, he, _, hv⟩ := hes.at (i := i) (x := xs[i]) (by simp [hlt]);have hml : mlook xs k = some xs[i].2 := by simp [mlook, mfind, hm, hlt]
    refine ⟨e.val, by rw [hml]; exact hv, ?_⟩;rw [hm] at hf;simp only [Option.bind_some, he, Option.map_some] at hf;simp only [Instr.lookup, Sem.run_bind, run_underlying hk.under, Result.andThen_ok, getObj_map h, Sem.run_pure, hk.check, hf, hml, Option.isSome_some]
theorem sp_lookup {κ ν : Type} [BEq κ] [LawfulBEq κ] {M K V n : Nat} {x i : Operand} {ek : κ → Value} {ag cm : Bool} {ev : ν → List D} {xs : List (κ × ν)} {y : NEnt} (k : κ) (dflt : ν) {ka v : AV} {as_ : List AV} {ns : List NEnt} {z : Value} (ho : o.op = .lookup M x i cm) (hx : ρ x = some (.ref n)) (hi : ρ i = some ka) (hka : ∀ e, ka.den e = ek k) (hy : IsMapE y n ek ag ev xs) (hk : MKey P M K V ek)
    (hz : ∀ w, (zeroValue V).run P w = .ok z w) (hzo : ∀ W R, VOk ag (ev dflt) W R z) (hd : DAL (ev ((mlook xs k).getD dflt)) as_ ns) (hns : nodupB (ns.map NEnt.name) = true) (hv : v = if cm then .tup [if ag then .agg as_ else as_.headD (.val undef), .val (.bool (mlook xs k).isSome)] else if ag then .agg as_ else as_.headD (.val undef)) :
    OpSpec P o ρ [y] v ns := by
  intro evl env W O R he hn _ hR;obtain ⟨r, cl, es, ys, h1, h2, h3, h4⟩ := map_read hy (hn _ (List.mem_singleton.2 rfl));have hx' := he x _ hx;simp only [AV.den, h1, oneOf] at hx';have hi' := he i _ hi;rw [hka] at hi';obtain ⟨u, hu, hrun⟩ := look_val hk h2 h3 k dflt hz (hzo W R) cm;rw [mlook_perm h4.1 h4.2.1] at hu hrun;have : (execOp evl o).run P W = .ok (.value (if cm then .tuple #[u, .bool (mlook xs k).isSome] else u)) W := by
    simp only [execOp, ho, hx', hi', Sem.run_bind, hrun, Result.andThen_ok, Sem.run_pure]
  rw [this];obtain ⟨cs, hc1, hc2, hc3, hc4⟩ := hu;obtain ⟨env', e1, e2, e3⟩ := hd.ok env W R cs (by omega) (fun j d hj => by obtain ⟨u, g1, g2, _⟩ := hc4 j d hj; exact ⟨u, g1, g2⟩) (nodup_of_B hns);refine ⟨env', _, R, e1, ?_, St.roNews hR e3 (nodup_of_B hns)⟩;have hu' : (if ag then AV.agg as_ else as_.headD (.val undef)).den env' = u := by
    rw [hc2];cases ag
    · cases as_ with
      | nil => simp only [AV.denL] at e2; subst e2; rfl
      | cons a l => simp only [AV.denL] at e2; subst e2; rfl
    · simp only [if_true, AV.den, e2]
  subst hv;cases cm
  · simp only [Bool.false_eq_true, if_false]; exact hu'.symm
  · simp only [if_true, AV.den, AV.denL, hu']
def AV.isAgg : AV → Bool
  | .agg _ => true
  | _ => false
theorem vok_of {ag : Bool} {a : AV} {ds : List D} {need : List NEnt} {env : Env} {W : World} {O : Nat → Nat → Prop} {R : Nat → Prop} (hfl : a.flat = true) (hag : a.isAgg = ag) (had : ADL need a.cs ds) (hn : ∀ x ∈ need, x.holds env W (O x.name) R) : VOk ag ds W R (a.den env) := by
  obtain ⟨hl, hk⟩ := had.ok hn;have hone := denL_one (e := env) (cs_all_one hfl);refine ⟨AV.denL env a.cs, AV.den_cells hfl env, ?_, by rw [denL_length]; exact hl, fun j d hj => ?_⟩
  · cases a with
    | agg cs => subst hag; rfl
    | tup cs => cases hfl
    | val v => subst hag; simp [AV.cs, AV.denL, AV.den, AV.isAgg]
    | ref v => subst hag; simp [AV.cs, AV.denL, AV.den, AV.isAgg]
    | ptr n o => subst hag; simp [AV.cs, AV.denL, AV.den, AV.isAgg]
    | cell n o => subst hag; simp [AV.cs, AV.denL, AV.den, AV.isAgg]
    | fn f x y => subst hag; simp [AV.cs, AV.denL, AV.den, AV.isAgg]
  · obtain ⟨u, h1, h2⟩ := hk j d hj;exact ⟨u, h1, h2, hone u (List.mem_of_getElem? h1)⟩
end
section
variable {P : Program} {s : List (Nat × AV)} {o : Oper}
theorem ts_mapUpdate {κ ν : Type} [BEq κ] [LawfulBEq κ] {M K V n : Nat} {x i y : Operand} {ek : κ → Value} {ag : Bool} {ev : ν → List D} {xs : List (κ × ν)} (k : κ) (d : ν) {ka va : AV} {ys : List (κ × ν)} {need : List NEnt} (ho : o.op = .mapUpdate M x i y) (hx : rho s x = some (.ref n)) (hi : rho s i = some ka) (hka : ∀ e, ka.den e = ek k) (hy : rho s y = some va)
    (hfl : va.flat = true) (hag : va.isAgg = ag) (had : ADL need va.cs (ev d)) (hk : MKey P M K V ek) (hys : (xs.map (·.1)).Nodup → ys.Perm (mput xs k d)) :
    TSpec P o (rho s) [.inv n (mapI ek ag ev xs)] need (.val undef) [.inv n (mapI ek ag ev ys)] := by
  intro evl c env W0 W O R he hst ht hnd _;have hm := ht _ (List.mem_singleton.2 rfl);obtain ⟨kk, hkk⟩ := List.mem_iff_getElem?.1 hm;obtain ⟨r, cl, es, zs, h1, hOr, h2, h3, hp, hnd', hb⟩ := hst.holds _ hm;have hys' := hys ((hp.map _).nodup_iff.1 hnd');have hx' := he x _ hx;simp only [AV.den, h1, oneOf] at hx';have hi' := he i _ hi;rw [hka] at hi';have hy' := he y _ hy;have hvo : VOk ag (ev d) W R (va.den env) := vok_of hfl hag had fun z hz => hst.holds z (hnd z hz)
  have hf := hk.find k es.toList (zs.map (·.1)) W h3.keys;have hR' : ∀ b, R b → b ≠ r := fun b hb e => (hst.own _ hm r hOr).2.2 (e ▸ hb)
  have hlt : r < W.heap.size := (Array.getElem?_eq_some_iff.1 h2).1;have key : ∀ (es' : Array MapEntry) (cl' : Nat), EsOk ek ag ev W R es'.toList (mput zs k d) → BornOk es'.toList cl' → St c env ([.inv n (mapI ek ag ev ys)] ++ delV [n] W0) (W.putObj r (.map es' cl')) O R := by
    intro es' cl' hes hbo;refine St.set_del hkk hst.names rfl (hst.write kk hkk ⟨rfl, rfl, rfl, by simp, fun b _ hb => World.putObj_heap_other fun e => hb (e ▸ hOr)⟩ rfl ?_)
    exact ⟨r, cl', es', _, h1, hOr, World.putObj_heap_same hlt, hes.keep fun b hb => ⟨hb, World.putObj_heap_other (hR' b hb)⟩, (mput_perm hp hnd' k d).trans hys'.symm, nodup_put hnd' k d, hbo⟩
  cases hfi : (zs.map (·.1)).findIdx? (· == k) with
  | none =>
    rw [hfi] at hf;have hrun : (execOp evl o).run P W = .ok .skip (W.putObj r (.map (es.push { key := ek k, val := va.den env, born := cl }) (cl + 1))) := by
      simp only [execOp, ho, Instr.mapUpdate, hx', hi', hy', Sem.run_bind, run_underlying hk.under, Result.andThen_ok, getObj_map h2, hk.check, hf, Option.bind_none, setObj_map _ h2, Sem.run_pure]
    rw [hrun];refine ⟨env, O, R, fun _ _ => rfl, rfl, key _ _ ?_ ?_⟩
    · simp only [mput, mfind, hfi, Array.toList_push];exact h3.snoc rfl hvo
    · rw [Array.toList_push]; exact hb.push rfl
  | some j =>
    have hjl : j < zs.length := by have := (List.findIdx?_eq_some_iff_getElem.1 hfi).1; simpa using this
    obtain ⟨e, hej, hek, _⟩ := h3.at (i := j) (x := zs[j]) (by simp [hjl]);rw [hfi] at hf;simp only [Option.bind_some, hej, Option.map_some] at hf;have hke : e.key = ek k := by rw [hek]; exact hk.eq _ k j _ hfi (by simp [hjl])
    have hej' : es[j]? = some e := by simpa using hej
    have hrun : (execOp evl o).run P W = .ok .skip (W.putObj r (.map (es.modify j fun e => { e with key := ek k, val := va.den env }) cl)) := by
      simp only [execOp, ho, Instr.mapUpdate, hx', hi', hy', Sem.run_bind, run_underlying hk.under, Result.andThen_ok, getObj_map h2, hk.check, hf, hej', Option.map_some, Option.getD_some, hke, hk.stay, setObj_map _ h2, Sem.run_pure]
    rw [hrun];refine ⟨env, O, R, fun _ _ => rfl, rfl, key _ _ ?_ ?_⟩
    rotate_left
    · refine hb.same ?_;rw [Array.toList_modify];apply List.ext_getElem?;intro q;rw [List.getElem?_map, List.getElem?_map, List.getElem?_modify]
      by_cases e' : j = q
      · subst e'; cases es.toList[j]? <;> simp
      · simp [e']
    simp only [mput, mfind, hfi, Array.toList_modify];have : es.toList.modify j (fun e => { e with key := ek k, val := va.den env }) = es.toList.set j { e with key := ek k, val := va.den env } := by
      apply List.ext_getElem?;intro q;rw [List.getElem?_modify, List.getElem?_set]
      by_cases e' : j = q
      · subst e';have hq : j < es.toList.length := (List.getElem?_eq_some_iff.1 hej).1;simp [hej]
        simpa using hq
      · simp [e']
    rw [this];exact h3.set j rfl hvo
end
end Go.Proofs.Ytgkoldcmbcbbpaa.Sy
end
section
set_option linter.unusedSimpArgs false
set_option linter.unusedVariables false
namespace Go.Proofs.Ytgkoldcmbcbbpaa.Sy
open Go.RowKit
section
variable {P : Program} {o : Oper} {ρ : Operand → Option AV}
end
section
variable {P : Program} {o : Oper} {ρ : Operand → Option AV}
end
section
variable {P : Program} {o : Oper} {ρ : Operand → Option AV}
end
section
variable {P : Program} {c : Ctx} {sz : Fm} {Q : Exit → Act → World → Prop} {t : List Item} {s : List (Nat × AV)} {V : List NEnt}
end
section
variable {P : Program} {o : Oper} {ρ : Operand → Option AV}
end
section
variable {P : Program} {c : Ctx} {sz : Fm} {Q : Exit → Act → World → Prop} {t : List Item} {s : List (Nat × AV)} {V : List NEnt} {ops : Array Oper} {rest : List Oper}
theorem St.weaken {env : Env} {W : World} {O : Nat → Nat → Prop} {R : Nat → Prop} {k : Nat} {x y : NEnt} (h : St c env V W O R) (hk : V[k]? = some x) (hn : y.name = x.name) (hy : ∀ O R, x.holds env W O R → y.holds env W O R) : St c env (V.set k y) W O R :=
  h.write k hk (Keep.refl _ _) hn (hy _ _ (h.holds _ (List.mem_of_getElem? hk)))
end
theorem FT.fnArg {P : Program} {α β : Type} {enc : α → List AV} {dec : β → AV} {F : α → Option β} {f g k : Nat} (i : Nat) {args first caps : List AV} {take needC need news : List NEnt} {v : AV} (h : FT P f args take (.any k (D.fn P enc dec F) :: need) v news)
    (hi : args[i]? = some (.ref k)) (hcall : ∀ args w, (callFunc g args).run P w = .ok (.enter g args) w) (hc : ∀ a b, F a = some b → FC P g (first ++ enc a ++ caps) needC (dec b) [])
    (hro : needC.all NEnt.isRoB = true) (henc : ∀ a, (AV.nsL (enc a)).isEmpty = true) (hdec : ∀ b, noName (dec b) = true)
    (hk : (args.zipIdx.all fun p => p.2 == i || !p.1.has k) = true) (hk2 : hasV k needC = false) (hk3 : hasV k need = false) (hk4 : v.has k = false) (hk5 : hasV k news = false) (hk6 : AV.hasL k first = false) (hk7 : AV.hasL k caps = false) (hk8 : hasV k take = false) :
    FT P f (args.set i (.fn g first caps)) take (needC ++ need) v news := by
  intro env w0 M O R0 hst hnd;have hval : AV.denL env (args.set i (.fn g first caps)) = AV.denL (setEnv env k ((AV.fn g first caps).den env)) args := by
    simp only [AV.denL_map];apply List.ext_getElem?;intro j;simp only [List.getElem?_map, List.getElem?_set]
    split
    · rename_i e; subst e
      rw [if_pos (List.getElem?_eq_some_iff.1 hi).1, hi];simp [AV.den, setEnv_same, oneOf]
    · rename_i e
      cases ha : args[j]? with
      | none => rfl
      | some a =>
        have hm : (a, j) ∈ args.zipIdx := List.mem_iff_getElem?.2 ⟨j, by rw [List.getElem?_zipIdx, ha]; simp⟩;have := List.all_eq_true.1 hk (a, j) hm;simp only [Bool.or_eq_true, beq_iff_eq, Bool.not_eq_true'] at this;rcases this with e' | this
        · exact absurd e'.symm e
        · simp only [Option.map_some, Option.some.injEq];exact AV.den_congr a fun n hn => (setEnv_other fun e => by subst e; rw [this] at hn; cases hn).symm
  rw [hval];have hnC : ∀ x ∈ needC, x.holds env w0 (fun _ => False) R0 := fun x hx => (hnd x (by simp [hx])).2
  have hst' : St ⟨w0, M, R0⟩ (setEnv env k ((AV.fn g first caps).den env)) take w0 O R0 := ⟨hst.keep, fun x hx => NEnt.holds_congr (fun n hn' => (setEnv_other fun e => by subst e; rw [hasV_mem hk8 hx] at hn'; cases hn').symm) (hst.holds x hx), hst.own, hst.apart, hst.ro, hst.r0, hst.names⟩;refine (h (setEnv env k ((AV.fn g first caps).den env)) w0 M O R0 hst' (fun x hx => ?_)).mono ?_
  · rcases List.mem_cons.1 hx with rfl | hx
    · refine ⟨rfl, g, (AV.denL env first).toArray, (AV.denL env caps).toArray, by simp [setEnv_same, AV.den], hcall, fun a b hab env' W' R' hr hs => ?_⟩;have hcalls := hc a b hab env W' R' (fun x hx => ro_holds (List.all_eq_true.1 hro x hx) (NEnt.holds_keep (fun _ h => h.elim) hr (hnC x hx)) _) hs;rw [denL_append, denL_append, denL_noName (henc a) env env'] at hcalls;simp only [← List.append_toArray] at hcalls;refine hcalls.mono ?_
      rintro e W2 ⟨u, he, env2, O2, R2, g1, g2, g3⟩
      refine ⟨u, he, env', fun _ _ => False, R2, fun _ _ => rfl, by rw [g2]; exact den_noName (hdec b) _ _, ⟨g3.keep, by simp, by simp, by simp, g3.ro, g3.r0, by simp⟩⟩
    · exact ⟨(hnd x (by simp [hx])).1, NEnt.holds_congr (fun n hn' => (setEnv_other fun e => by subst e; rw [hasV_mem hk3 hx] at hn'; cases hn').symm) (hnd x (by simp [hx])).2⟩
  rintro e W' ⟨u, he, env', O', R', h1, h2, hst2⟩
  have hcn : ∀ n, n ≠ k → setEnv env' k (env k) n = env' n := fun n hne => setEnv_other (Ne.symm hne)
  refine ⟨u, he, setEnv env' k (env k), O', R', fun n hn' => ?_, ?_, hst2.keep, fun x hx => ?_, hst2.own, hst2.apart, hst2.ro, hst2.r0, hst2.names⟩
  · by_cases e : n = k
    · subst e; rw [setEnv_same]
    · rw [hcn n e, h1 n hn', setEnv_other (Ne.symm e)]
  · rw [h2];exact AV.den_congr v fun n hn' => (hcn n fun e => by subst e; rw [hk4] at hn'; cases hn').symm
  · exact NEnt.holds_congr (fun n hn' => (hcn n fun e => by subst e; rw [hasV_mem hk5 hx] at hn'; cases hn').symm) (hst2.holds x hx)
end Go.Proofs.Ytgkoldcmbcbbpaa.Sy
end
section
set_option linter.unusedSimpArgs false
set_option linter.unusedVariables false
namespace Go.Proofs.Ytgkoldcmbcbbpaa.Sy
open Go.RowKit
inductive ZL : List Value → List D → Prop where
  | nil : ZL [] []
  | v {x : Value} {l m} : x.oneCell' = true → ZL l m → ZL (x :: l) (D.v x :: m)
  | s {size l m} : ZL l m → ZL (.slice none 0 0 :: l) (D.s size [] :: m)
theorem ZL.ok {cs : List Value} {ds : List D} (h : ZL cs ds) (W : World) (R : Nat → Prop) : cs.length = ds.length ∧ ∀ (j : Nat) (d : D), ds[j]? = some d → ∃ u : Value, cs[j]? = some u ∧ d.ok W R u ∧ u.oneCell' = true := by
  induction h with
  | nil => exact ⟨rfl, fun j d hj => by simp at hj⟩
  | v hx _ ih =>
    refine ⟨by simp [ih.1], fun j d hj => ?_⟩
    cases j with
    | zero => simp at hj; subst hj; exact ⟨_, rfl, rfl, hx⟩
    | succ j => simpa using ih.2 j d (by simpa using hj)
  | s _ ih =>
    refine ⟨by simp [ih.1], fun j d hj => ?_⟩
    cases j with
    | zero => simp at hj; subst hj; exact ⟨_, rfl, ⟨none, 0, rfl, Nat.le_refl _, Nat.zero_le _, fun _ => rfl, fun i el hi => by simp at hi⟩, rfl⟩
    | succ j => simpa using ih.2 j d (by simpa using hj)
theorem zok {ag : Bool} {z : Value} {cs : List Value} {ds : List D} (h : ZL cs ds) (h1 : z.cells = cs.toArray) (h2 : z = if ag then .agg cs.toArray else cs.headD undef) (W : World) (R : Nat → Prop) : VOk ag ds W R z :=
  ⟨cs, h1, h2, (h.ok W R).1, (h.ok W R).2⟩
theorem findNow_struct {fs : Array Field} (k : Value) (es : List MapEntry) (i : Nat) : Instr.findNow (.struct fs) k es i = if es = [] then some none else none := by
  cases es with
  | nil => rfl
  | cons e es =>
    simp only [Instr.findNow];have : Instr.sameNow (.struct fs) k e.key = none := by unfold Instr.sameNow; rfl
    simp [this]
section
variable {P : Program} {c : Ctx} {sz : Fm} {Q : Exit → Act → World → Prop} {t : List Item} {s : List (Nat × AV)} {V : List NEnt}
theorem nilRowC (d n E size : Nat) (els : List (List D)) (he : els = []) (hs : look s d = some (.val (.slice none 0 0))) (hf : freshN [.row n E size els] s V = true)
    (h : TC P c sz Q t ((d, .ref n) :: s) (.row n E size els :: V)) : TC P c sz Q t s V := (nilRowM (ops := #[]) (rest := []) d n E size els he hs hf).1 h
end
end Go.Proofs.Ytgkoldcmbcbbpaa.Sy
end
section
set_option linter.unusedSimpArgs false
set_option linter.unusedVariables false
namespace Go.Proofs.Ytgkoldcmbcbbpaa.Sy
open Go.RowKit
section
variable {P : Program} {o : Oper} {ρ : Operand → Option AV}
theorem sp_makeSlice {T E bytes : Nat} (r : Nat) {x y : Operand} {k1 k2 : IntKind} {n : Int} {els : List (List D)} {z : Value} (ho : o.op = .makeSlice T x y) (hx : ρ x = some (.val (.int k1 n))) (hy : ρ y = some (.val (.int k2 n))) (hT : SlT P T E 1 bytes)
    (h0 : decide (0 ≤ n) = true) (hroom : room bytes n.toNat = true) (hz : ∀ w, (zeroValue E).run P w = .ok z w) (hz1 : z.oneCell' = true) (he : List.replicate n.toNat [D.v z] = els) : OpSpec P o ρ [] (.ref r) [.row r E 1 els] := by
  subst he;intro ev env W O R hev _ _ hR;obtain ⟨i, z0, hi, hz0, hsz, hby, hzs⟩ := hT.info;have hzz : z0 = z := by
    have := hz W;simp [zeroValue, typeInfo, hi, hz0] at this;exact this
  subst hzz;have h0' : 0 ≤ n := of_decide_eq_true h0;simp only [room, Bool.and_eq_true, decide_eq_true_eq] at hroom;have hr := run_make (P := P) W T E i z0 hT.under hi hz0 k1 k2 n n h0' (Int.le_refl _) (by
    rw [hby];have h1 : ((n.toNat * bytes : Nat) : Int) ≤ 140737488355328 := by omega
    rw [Int.natCast_mul, Int.toNat_of_nonneg h0'] at h1;rw [Int.mul_comm]; omega) (by omega)
  have hx' := hev x _ hx;have hy' := hev y _ hy;have hrun : (execOp ev o).run P W = .ok (.value (.slice (some ⟨W.heap.size, 0, none⟩) n.toNat n.toNat)) (W.alloc (.cells (madeCells z0.cells (n.toNat * i.size)) E)) := by
    simp only [execOp, ho, hx', hy', AV.den, Sem.run_bind, hr, Result.andThen_ok, Sem.run_pure]
  rw [hrun];have hmc : madeCells z0.cells (n.toNat * i.size) = (List.replicate n.toNat z0).toArray := by
    rw [cells_one hz1, hsz, Nat.mul_one];apply Array.ext
    · rw [size_madeCells]; simp
    · intro q h1 h2;simp only [madeCells, Array.getElem_map, Array.getElem_range, List.getElem_toArray, List.getElem_replicate, List.size_toArray, List.length_cons, List.length_nil, Nat.zero_add, Nat.mod_one]
      rfl
  rw [hmc];refine ⟨setEnv env r (.slice (some ⟨W.heap.size, 0, none⟩) n.toNat n.toNat), fun _ b => b = W.heap.size, R, fun m hm => setEnv_other (hm (.row r E 1 (List.replicate n.toNat [D.v z0])) (by simp)), by simp [AV.den, setEnv_same, oneOf], ?_⟩;refine St.fresh (keep_alloc W _) hR ?_ (fun b hb => by subst hb; simp);simp only [NEnt.holds, setEnv_same];refine own_new (cells := List.replicate n.toNat z0) (fun el hel => by obtain ⟨_, rfl⟩ := List.mem_replicate.1 hel; rfl) (by simp) (by simp) (by simp only [maxLen]; omega) fun k d hk => ?_
  have hf : (List.replicate n.toNat [D.v z0]).flatten = List.replicate n.toNat (D.v z0) := by
    generalize n.toNat = q
    induction q with
    | zero => rfl
    | succ q ih => simp [List.replicate_succ, ih]
  rw [hf, List.getElem?_replicate] at hk
  split at hk
  · rename_i hlt
    cases hk;exact ⟨z0, by simp [List.getElem?_replicate, hlt], rfl, hz1⟩
  · cases hk
theorem rep_map {α β : Type} (n : Nat) (x : α) (f : α → β) {y : β} (h : f x = y) : List.replicate n y = (List.replicate n x).map f := by simp [h]
theorem arr_get {X : Type} {enc : X → List AV} {s : Nat} (hl : ∀ x, (enc x).length = s) (h0 : Nat.blt 0 s = true) {cells pre post : List AV} {xs : List X} {i j : Nat} {x : X} {a : AV} (hc : cells = pre ++ xs.flatMap enc ++ post) (hx : xs[i]? = some x) (hj : (enc x)[j]? = some a) : cells[pre.length + (i * s + j)]? = some a := by
  subst hc;have hjs : j < s := by rw [← hl x]; exact (List.getElem?_eq_some_iff.1 hj).1
  have hf := flatten_get (xs.map enc) (size := s) i j (enc x) (by intro q hq; obtain ⟨z, _, rfl⟩ := List.mem_map.1 hq; exact hl z) (by simp [hx]) hjs;rw [List.append_assoc, List.getElem?_append_right (by omega), Nat.add_sub_cancel_left];have e : xs.flatMap enc = (xs.map enc).flatten := by rw [List.flatMap_def]
  rw [e];have hlt : i * s + j < (xs.map enc).flatten.length := by
    have h2 : (xs.map enc).flatten[i * s + j]? = some a := hf.trans hj;exact (List.getElem?_eq_some_iff.1 h2).1
  rw [List.getElem?_append_left hlt, hf, hj]
end
end Go.Proofs.Ytgkoldcmbcbbpaa.Sy
end
section
set_option linter.unusedSimpArgs false
set_option linter.unusedVariables false
namespace Go.Proofs.Ytgkoldcmbcbbpaa.Sy
open Go.RowKit
theorem map_take {α β : Type} (xs : List α) (f : α → β) (h : Nat) : (xs.map f).take h = (xs.take h).map f := by simp [List.map_take]
section
variable {P : Program} {o : Oper} {s : List (Nat × AV)}
theorem ts_prefix {T E size bytes n N : Nat} (r : Nat) {x : Operand} {hi : Option Operand} {h : Int} {els els' : List (List D)} (hl : els.length = N) (ho : o.op = .slice T x none hi none) (hx : rho s x = some (.ref n)) (hT : SlT P T E size bytes)
    (hhi : Cut (rho s) hi (N : Int) h) (hb : (decide (0 ≤ h) && decide (h ≤ (N : Int))) = true) (he : els.take h.toNat = els') (hrn : (r == n) = false) : TSpec P o (rho s) [.row n E size els] [] (.ref r) [.row r E size els'] := by
  subst hl; subst he;intro ev c env V W O R hev hst ht _ hnn;have hxm : NEnt.row n E size els ∈ V := ht _ (List.mem_singleton.2 rfl);obtain ⟨k, hkk⟩ := List.mem_iff_getElem?.1 hxm;have hrV : hasV r V = false := by
    rcases hnn _ (List.mem_singleton.2 rfl) with h | h
    · simp only [NEnt.name, List.map_cons, List.map_nil, List.mem_singleton] at h;rw [h] at hrn; simp at hrn
    · exact h
  simp only [Bool.and_eq_true, decide_eq_true_eq] at hb;obtain ⟨h, rfl⟩ : ∃ h' : Nat, h = h' := ⟨h.toNat, by omega⟩;simp only [Int.toNat_natCast];have hle : h ≤ els.length := by omega
  obtain ⟨hs, cells, hown, hob, hcd⟩ := hst.holds _ hxm;obtain ⟨ti, z, hti, _, hts, _, _⟩ := hT.info;obtain ⟨a, cap, hv, hlc⟩ : ∃ a cap, env n = .slice a els.length cap ∧ els.length ≤ cap := by
    rcases hown.2 with ⟨hv, h0⟩ | ⟨g, cap, cur, hv, _, _, hnc, _⟩
    · exact ⟨none, 0, by rw [h0]; exact hv, by omega⟩
    · exact ⟨_, cap, hv, hnc⟩
  have hx' := hev x _ hx;simp only [AV.den, hv, oneOf] at hx';have hrun : (execOp ev o).run P W = .ok (.value (.slice a h cap)) W := by
    have hsb : ∀ (w : World), (Instr.sliceBounds true els.length cap none (hi.map ev) none).run P w = .ok (0, h, cap) w := by
      intro w;have hhc : h ≤ cap := by omega
      cases hi with
      | none => simp only [Cut] at hhi; have : h = els.length := by omega
                simp [Instr.sliceBounds, this]
      | some y => obtain ⟨kk, hk⟩ := hhi; simp [Instr.sliceBounds, hev y _ hk, AV.den, Instr.sliceBound, asIntOf, hhc]
    have hmap : (if cap = 0 then a else a.map (·.add (0 * size))) = a := by
      split
      · rfl
      · cases a with
        | none => rfl
        | some ad => simp [Addr.add]
    simp only [execOp, ho, Instr.sliceAt, Instr.slice, Sem.run_bind, run_underlying hT.under, Result.andThen_ok, hx', Option.map_none, hsb, sizeOf, typeInfo, run_program, hti, hts, Sem.run_pure, Nat.sub_zero, hmap]
  rw [hrun];have hown' : W.ownsRow 0 E size (.slice a h cap) h (cells.take (h * size)) := by
    refine ⟨by rw [List.length_take, hown.1]; exact Nat.min_eq_left (Nat.mul_le_mul_right _ hle), ?_⟩;rcases hown.2 with ⟨hv2, h0⟩ | ⟨g, cap2, cur, hv2, q1, q2, q3, q4, q5, q6⟩
    · have hv3 : env n = .slice none 0 0 := hv2;rw [hv3] at hv;simp only [Value.slice.injEq] at hv;obtain ⟨rfl, h0', rfl⟩ := hv;exact .inl ⟨by rw [show h = 0 by omega], by omega⟩
    · have hv3 : env n = .slice (some ⟨g, 0, none⟩) els.length cap2 := hv2;rw [hv3] at hv;simp only [Value.slice.injEq, true_and] at hv;obtain ⟨rfl, rfl⟩ := hv;refine .inr ⟨g, cap2, cur, rfl, q1, q2, by omega, q4, q5, ?_⟩;rw [← q6, List.take_take, Nat.min_eq_left (Nat.mul_le_mul_right _ hle)]
  have hone' : oneOf (.slice a h cap) = .slice a h cap := rfl;obtain ⟨O', hst'⟩ := hst.replace (y := .row r E size (els.take h)) (v := .slice a h cap) (Or := fun b => (Value.slice a h cap).ownBlock = some b) k hkk (Keep.refl _ W) (fun b hb => by
      refine ⟨.inl (hob b ?_), (hown'.lt b hb).2⟩;show (env n).ownBlock = some b;rw [hv]
      cases a with
      | none => cases hb
      | some ad => exact hb) hrV (by
    simp only [NEnt.name, NEnt.holds, setEnv_same];refine ⟨fun el he => hs el (List.mem_of_mem_take he), cells.take (h * size), by simpa [Nat.min_eq_left hle] using hown', fun b hb => hb, fun q d hq => ?_⟩;have hfl := flatten_len els hs;have hft : (els.take h).flatten = els.flatten.take (h * size) := by
      have e : els.flatten = (els.take h).flatten ++ (els.drop h).flatten := by rw [← List.flatten_append, List.take_append_drop]
      have e2 : (els.take h).flatten.length = h * size := by
        rw [flatten_len (els.take h) fun el he => hs el (List.mem_of_mem_take he), List.length_take, Nat.min_eq_left hle]
      rw [e, ← e2, List.take_left]
    rw [hft, List.getElem?_take] at hq
    split at hq
    · rename_i hlt
      obtain ⟨u, hu, hok'⟩ := hcd q d hq;exact ⟨u, by rw [List.getElem?_take_of_lt hlt]; exact hu, hok'⟩
    · cases hq)
  refine ⟨_, O', R, fun q hq => ?_, ?_, hst'.sub (V' := [.row r E size (els.take h)] ++ delV [n] V) id (fun z hz => ?_) ?_⟩
  · refine setEnv_other fun e => ?_
    by_cases h : r ∈ [n]
    · simp only [List.mem_singleton] at h;rw [h] at hrn; simp at hrn
    · exact hq _ (List.mem_singleton.2 rfl) (by simpa [NEnt.name] using h) (by simpa [NEnt.name] using e)
  · show (.slice a h cap) = oneOf (setEnv env r (.slice a h cap) r);rw [setEnv_same, hone']
  · rw [NEnt.ren_id];rcases List.mem_append.1 hz with hz | hz
    · exact List.mem_cons.2 (.inl (List.mem_singleton.1 hz))
    · obtain ⟨h1, h2⟩ := mem_delV.1 hz;refine List.mem_cons_of_mem _ ?_;obtain ⟨q, hq⟩ := List.mem_iff_getElem?.1 h1;have hqk : q ≠ k := fun e => by
        subst e; rw [hkk] at hq; cases hq; simp [NEnt.name] at h2
      refine List.mem_iff_getElem?.2 ?_;rcases Nat.lt_or_gt_of_ne hqk with hlt | hgt
      · exact ⟨q, by rw [List.getElem?_eraseIdx, if_pos hlt]; exact hq⟩
      · exact ⟨q - 1, by rw [List.getElem?_eraseIdx, if_neg (by omega), show q - 1 + 1 = q by omega]; exact hq⟩
  · simp only [id, List.cons_append, List.nil_append, List.map_cons, List.nodup_cons];refine ⟨fun hmm => ?_, hst.names.sublist ((delV_sub _ _).map NEnt.name)⟩;obtain ⟨z, hz, e⟩ := List.mem_map.1 hmm;have := mem_has (mem_delV.1 hz).1 (NEnt.has_name z);rw [e] at this;simp only [NEnt.name] at this;rw [hrV] at this; cases this
end
end Go.Proofs.Ytgkoldcmbcbbpaa.Sy
end
section
set_option linter.unusedSimpArgs false
set_option linter.unusedVariables false
namespace Go.Proofs.Ytgkoldcmbcbbpaa.Sy
open Go.RowKit
noncomputable def nextAll {α ρ : Type} (L : List α) (f : α → List α → Option ρ) (e : Option ρ) : Option ρ := match L with
  | [] => e
  | a :: l => @ite _ (∀ (j : Nat) (hj : j < (a :: l).length), f (a :: l)[j] ((a :: l).eraseIdx j) = f a l) (Classical.propDecidable _) (f a l) none
theorem nextAll_inv {α ρ : Type} {L : List α} {f : α → List α → Option ρ} {e : Option ρ} {r : ρ} (h : nextAll L f e = some r) : (L = [] → e = some r) ∧ ∀ (j : Nat) (hj : j < L.length), f L[j] (L.eraseIdx j) = some r := by
  cases L with
  | nil => exact ⟨fun _ => h, fun j hj => by simp at hj⟩
  | cons a l =>
    simp only [nextAll] at h
    split at h
    · rename_i hc
      exact ⟨fun h => (nomatch h), fun j hj => by rw [hc j hj]; exact h⟩
    · cases h
theorem erase_perm {α : Type} : ∀ {l : List α} {j : Nat} (hj : j < l.length), (l[j] :: l.eraseIdx j).Perm l := by
  intro l
  induction l with
  | nil => intro j hj; simp at hj
  | cons a l ih =>
    intro j hj
    cases j with
    | zero => exact .refl _
    | succ j =>
      simp only [List.getElem_cons_succ, List.eraseIdx_cons_succ];exact (List.Perm.swap _ _ _).trans ((ih (by simpa using hj)).cons a)
theorem perm_idx {α : Type} {ys xs : List α} (p : ys.Perm xs) {j : Nat} (hj : j < ys.length) : ∃ (i : Nat) (hi : i < xs.length), xs[i] = ys[j] ∧ (ys.eraseIdx j).Perm (xs.eraseIdx i) := by
  obtain ⟨i, hi, e⟩ := List.getElem_of_mem (p.mem_iff.1 (List.getElem_mem hj));refine ⟨i, hi, e, ?_⟩;have h1 := erase_perm hj;have h2 := erase_perm hi;rw [e] at h2;exact (h1.trans (p.trans h2.symm)).cons_inv
def unseen (es : Array MapEntry) (seen : Array Nat) : List MapEntry := es.toList.filter fun e => !seen.contains e.born
theorem find_born : ∀ {es : List MapEntry}, (es.map (·.born)).Nodup → ∀ {e : MapEntry}, e ∈ es → es.find? (fun x => x.born == e.born) = some e := by
  intro es
  induction es with
  | nil => intro _ e h; cases h
  | cons a l ih =>
    intro hn e he;rw [List.map_cons, List.nodup_cons] at hn;rw [List.find?_cons];rcases List.mem_cons.1 he with rfl | he
    · simp
    · have : (a.born == e.born) = false := by
        have : a.born ≠ e.born := fun h => hn.1 (h ▸ List.mem_map.2 ⟨e, he, rfl⟩)
        simpa using this
      simp only [this, ih hn.2 he]
theorem erase_filter {α : Type} [DecidableEq α] {f : MapEntry → α} : ∀ {l : List MapEntry}, (l.map f).Nodup → ∀ (j : Nat) (hj : j < l.length), l.filter (fun e => !(f e == f l[j])) = l.eraseIdx j := by
  intro l
  induction l with
  | nil => intro _ j hj; simp at hj
  | cons a l ih =>
    intro hn j hj;rw [List.map_cons, List.nodup_cons] at hn
    cases j with
    | zero =>
      simp only [List.getElem_cons_zero, List.filter_cons, BEq.rfl, Bool.not_true, Bool.false_eq_true, if_false, List.eraseIdx_zero, List.tail_cons];rw [List.filter_eq_self];intro x hx;have : f x ≠ f a := fun h => hn.1 (h ▸ List.mem_map.2 ⟨x, hx, rfl⟩)
      simpa using this
    | succ j =>
      simp only [List.length_cons, Nat.add_lt_add_iff_right] at hj;simp only [List.getElem_cons_succ, List.eraseIdx_cons_succ, List.filter_cons];have : f a ≠ f l[j] := fun h => hn.1 (h ▸ List.mem_map.2 ⟨_, List.getElem_mem hj, rfl⟩)
      have h2 : (f a == f l[j]) = false := by simpa using this
      simp only [h2, Bool.not_false, if_true, ih hn.2 j hj]
theorem unseen_push {es : Array MapEntry} {seen : Array Nat} (hn : (es.toList.map (·.born)).Nodup) (j : Nat) (hj : j < (unseen es seen).length) : unseen es (seen.push ((unseen es seen)[j]).born) = (unseen es seen).eraseIdx j := by
  refine Eq.trans ?_ (erase_filter (f := MapEntry.born) (l := unseen es seen) (hn.sublist (List.filter_sublist.map _)) j hj)
  generalize ((unseen es seen)[j]).born = q
  simp only [unseen, List.filter_filter]
  congr 1
  funext e
  rw [Array.contains_push];cases seen.contains e.born <;> cases h : (e.born == q) <;> rfl
def mitI {κ ν : Type} (ek : κ → Value) (ag : Bool) (ev : ν → List D) (left : List (κ × ν)) (cur : Option (κ × ν)) : Inv :=
  ⟨fun W O R v => ∃ it m seen cl es ys, v = .pointer (some ⟨it, 0, none⟩) ∧ O it ∧ W.heap[it]? = some (.mapIter (some m) cl seen cl) ∧ R m ∧ W.heap[m]? = some (.map es cl) ∧ BornOk es.toList cl ∧ EsOk ek ag ev W R (unseen es seen) ys ∧ ys.Perm left ∧
      ∀ x, cur = some x → ∃ e, seen.back? = some e.born ∧ e ∈ es.toList ∧ e.key = ek x.1 ∧ VOk ag (ev x.2) W R e.val,
   fun W W' O R R' hO hR v ⟨it, m, seen, cl, es, ys, h1, h2, h3, h4, h5, h6, h7, h8, h9⟩ => ⟨it, m, seen, cl, es, ys, h1, h2, (hO it h2).trans h3, (hR m h4).1, (hR m h4).2.trans h5, h6, h7.keep hR, h8,
      fun x hx => by obtain ⟨e, g1, g2, g3, g4⟩ := h9 x hx; exact ⟨e, g1, g2, g3, g4.keep hR⟩⟩⟩
def drawnW (W : World) (d : Nat) : World := { W with drawn := d }
theorem St.drawn {c : Ctx} {env : Env} {V : List NEnt} {W : World} {O : Nat → Nat → Prop} {R : Nat → Prop} (h : St c env V W O R) (d : Nat) : St c env V (drawnW W d) O R :=
  ⟨⟨h.keep.os, h.keep.tape, h.keep.output, h.keep.size, h.keep.block⟩, fun x hx => NEnt.holds_keep (W := W) (W' := drawnW W d) (fun _ _ => rfl) (fun _ hb => ⟨hb, rfl⟩) (h.holds x hx), h.own, h.apart, h.ro, h.r0, h.names⟩
theorem run_chooseNext {P : Program} {W : World} (n : Nat) (hn : 0 < n) : ∃ j d, j < n ∧ (choose (.mapNext n)).run P W = .ok j (drawnW W d) := by
  by_cases h : n ≤ 1
  · exact ⟨0, W.drawn, hn, by simp [choose, Sem.run, Question.forced, h, drawnW]⟩
  · refine ⟨W.tape W.drawn (.mapNext n) % n, W.drawn + 1, Nat.mod_lt _ hn, ?_⟩;simp only [choose, Sem.run, Question.forced, decide_eq_true_eq, h, if_false, Question.cut, drawnW]
section
variable {P : Program}
theorem run_nextMap {W : World} {it m cl T : Nat} {seen : Array Nat} {es : Array MapEntry} (h1 : W.heap[it]? = some (.mapIter (some m) cl seen cl)) (h2 : W.heap[m]? = some (.map es cl)) (hb : BornOk es.toList cl) :
    ∃ d, (unseen es seen = [] ∧ (Instr.next (.pointer (some ⟨it, 0, none⟩)) false T).run P W = .ok (.tuple #[.bool false]) (drawnW W d)) ∨
      ∃ (j : Nat) (hj : j < (unseen es seen).length), (Instr.next (.pointer (some ⟨it, 0, none⟩)) false T).run P W = .ok (.tuple #[.bool true, ((unseen es seen)[j]).key, ((unseen es seen)[j]).val]) ((drawnW W d).putObj it (.mapIter (some m) cl (seen.push ((unseen es seen)[j]).born) cl)) := by
  have hge : (es.all fun e => decide (e.born ≥ cl)) = true → es.isEmpty = true := by
    intro h
    by_cases h0 : es.toList = []
    · simpa using h0
    · obtain ⟨e, l, he⟩ := List.exists_cons_of_ne_nil h0;have := hb.2 e.born (by rw [he]; simp);rw [← Array.all_toList] at h;have h3 := List.all_eq_true.1 h e (by rw [he]; simp);simp at h3; omega
  have hpre : (!seen.isEmpty && !es.isEmpty && es.all fun e => decide (e.born ≥ cl)) = false := by
    cases h : (es.all fun e => decide (e.born ≥ cl))
    · simp
    · simp [hge h]
  have hg1 : (getObj it).run P W = .ok (.mapIter (some m) cl seen cl) W := by simp [getObj, Sem.run, h1]
  have hg2 : (getObj m).run P W = .ok (.map es cl) W := by simp [getObj, Sem.run, h2]
  obtain ⟨L, hL⟩ : ∃ L, L = es.filter fun e => !seen.contains e.born := ⟨_, rfl⟩
  have hLl : L.toList = unseen es seen := by rw [hL]; simp [unseen]
  have hold : L.filter (fun e => decide (e.born < cl)) = L := by
    apply Array.toList_inj.1;rw [Array.toList_filter, List.filter_eq_self];intro e he;rw [hLl] at he;have := hb.2 e.born (List.mem_map.2 ⟨e, (List.mem_filter.1 he).1, rfl⟩)
    simpa using this
  have hnew : L.filter (fun e => decide (e.born ≥ cl)) = #[] := by
    apply Array.toList_inj.1;rw [Array.toList_filter];show _ = [];rw [List.filter_eq_nil_iff];intro e he;rw [hLl] at he;have := hb.2 e.born (List.mem_map.2 ⟨e, (List.mem_filter.1 he).1, rfl⟩);simp; omega
  have hrun : (Instr.next (.pointer (some ⟨it, 0, none⟩)) false T).run P W = ((choose (.mapNext ((if L.isEmpty then #[none] else #[]) ++ (L ++ #[]).map some).size)).run P W).andThen fun i w =>
      (match ((if L.isEmpty then #[none] else #[]) ++ (L ++ #[]).map some)[i]? with
        | some (some e) => (do setObj it (.mapIter (some m) cl (seen.push e.born) cl); pure (.tuple #[.bool true, e.key, e.val]) : Sem Value)
        | some none => pure (.tuple #[.bool false])
        | none => stuck "Next: no such candidate").run P w := by
    simp only [Instr.next, Sem.run_bind, hg1, Result.andThen_ok, hg2, hpre, Bool.false_eq_true, if_false, Sem.run_pure, ← hL, hold, hnew]
    rfl
  by_cases h0 : unseen es seen = []
  · have hLe : L = #[] := Array.toList_inj.1 (by rw [hLl, h0]);subst hLe;obtain ⟨j, d, hj, hc⟩ := run_chooseNext (P := P) (W := W) 1 (by omega);have : j = 0 := by omega
    subst this;refine ⟨d, .inl ⟨h0, ?_⟩⟩;have hC : ((if (#[] : Array MapEntry).isEmpty then #[none] else #[]) ++ ((#[] : Array MapEntry) ++ #[]).map some) = #[none] := by simp
    rw [hrun, hC, show (#[none] : Array (Option MapEntry)).size = 1 from rfl, hc]
    rfl
  · have hLe : L.isEmpty = false := by
      cases h : L.isEmpty
      · rfl
      · exfalso; apply h0; rw [← hLl]; simpa using h
    have hsz : ((if L.isEmpty then #[none] else #[]) ++ (L ++ #[]).map some).size = L.size := by simp [hLe]
    have hpos : 0 < L.size := by
      rcases Nat.eq_zero_or_pos L.size with h | h
      · exfalso; apply h0; rw [← hLl]; exact List.eq_nil_of_length_eq_zero (by simpa using h)
      · exact h
    obtain ⟨j, d, hj, hc⟩ := run_chooseNext (P := P) (W := W) L.size hpos;have hju : j < (unseen es seen).length := by rw [← hLl]; simpa using hj
    have hLj : L[j]? = some (unseen es seen)[j] := by
      rw [← Array.getElem?_toList, hLl]; exact List.getElem?_eq_getElem hju
    refine ⟨d, .inr ⟨j, hju, ?_⟩⟩;have h1' : (drawnW W d).heap[it]? = some (.mapIter (some m) cl seen cl) := h1;rw [hrun, hsz, hc];simp only [Result.andThen_ok, hLe, Bool.false_eq_true, if_false, Array.empty_append, Array.append_empty, Array.getElem?_map, hLj, Option.map_some, Sem.run_bind];have hset : (setObj it (.mapIter (some m) cl (seen.push ((unseen es seen)[j]).born) cl)).run P (drawnW W d) = .ok () ((drawnW W d).putObj it (.mapIter (some m) cl (seen.push ((unseen es seen)[j]).born) cl)) := by
      simp [setObj, Sem.run, h1', World.putObj]
    simp only [hset, Result.andThen_ok, Sem.run_pure]
end
section
variable {P : Program} {o : Oper} {ρ : Operand → Option AV}
theorem sp_range {κ ν : Type} {M K V m : Nat} (n : Nat) {x : Operand} {ek : κ → Value} {ag : Bool} {ev : ν → List D} {xs : List (κ × ν)} (ho : o.op = .range M x) (hx : ρ x = some (.ref m)) (hM : P.underlying M = some (.map K V)) :
    OpSpec P o ρ [.any m (mapI ek ag ev xs).froz] (.ref n) [.inv n (mitI ek ag ev xs none)] := by
  intro evl env W O R he hn _ hR;obtain ⟨O', hO', r, cl, es, ys, h1, hOr, h2, h3, h4⟩ := hn _ (List.mem_singleton.2 rfl);have hx' := he x _ hx;simp only [AV.den, NEnt.name] at hx' h1;simp only [h1, oneOf] at hx';have : (execOp evl o).run P W = .ok (.value (.pointer (some ⟨W.heap.size, 0, none⟩))) (W.alloc (.mapIter (some r) cl #[] cl)) := by
    simp [execOp, ho, hx', Instr.range, run_underlying hM, getObj_map h2, run_newObj_alloc]
  rw [this];refine ⟨setEnv env n (.pointer (some ⟨W.heap.size, 0, none⟩)), fun _ b => b = W.heap.size, R, fun q hq => setEnv_other (hq _ (List.mem_singleton.2 rfl)), by simp [AV.den, setEnv_same, oneOf], ?_⟩;refine St.fresh (keep_alloc W _) hR ?_ (fun b hb => by subst hb; simp);simp only [NEnt.holds, setEnv_same];have hlt : r < W.heap.size := (Array.getElem?_eq_some_iff.1 h2).1;have hk : ∀ b, R b → R b ∧ (W.alloc (.mapIter (some r) cl #[] cl)).heap[b]? = W.heap[b]? := fun b hb => ⟨hb, Below.heap_alloc _ _ _ (hR b hb)⟩
  refine ⟨_, r, #[], cl, es, ys, rfl, rfl, World.alloc_heap_new W _, hO' r hOr, (Below.heap_alloc _ _ _ hlt).trans h2, h4.2.2, ?_, h4.1, fun x hx => by cases hx⟩;have : unseen es #[] = es.toList := by simp [unseen]
  rw [this];exact h3.keep hk
theorem sp_entry {κ ν : Type} {n : Nat} {x : Operand} {ek : κ → Value} {ag : Bool} {ev : ν → List D} {left : List (κ × ν)} {c : κ × ν} {ka va : AV} {as_ : List AV} {ns : List NEnt} (ho : o.op = .entry x) (hx : ρ x = some (.ref n)) (hka : ∀ e, ka.den e = ek c.1)
    (hd : DAL (ev c.2) as_ ns) (hns : nodupB (ns.map NEnt.name) = true) (hv : va = if ag then .agg as_ else as_.headD (.val undef)) : OpSpec P o ρ [.inv n (mitI ek ag ev left (some c))] (.tup [ka, va]) ns := by
  intro evl env W O R he hn _ hR;obtain ⟨it, m, seen, cl, es, ys, h1, h2, h3, h4, h5, h6, h7, h8, h9⟩ := hn _ (List.mem_singleton.2 rfl);obtain ⟨e, g1, g2, g3, g4⟩ := h9 _ rfl;have hx' := he x _ hx;simp only [AV.den, NEnt.name] at hx' h1;simp only [h1, oneOf] at hx';have hg1 : (getObj it).run P W = .ok (.mapIter (some m) cl seen cl) W := by simp [getObj, Sem.run, h3]
  have hg2 : (getObj m).run P W = .ok (.map es cl) W := by simp [getObj, Sem.run, h5]
  have hf : es.find? (fun x => x.born == e.born) = some e := by rw [← Array.find?_toList]; exact find_born h6.1 g2
  have : (execOp evl o).run P W = .ok (.value (.tuple #[e.key, e.val])) W := by
    simp [execOp, ho, hx', Instr.entry, hg1, hg2, g1, hf]
  rw [this];obtain ⟨cs, hc1, hc2, hc3, hc4⟩ := g4;obtain ⟨env', e1, e2, e3⟩ := hd.ok env W R cs (by omega) (fun j d hj => by obtain ⟨u, g1, g2, _⟩ := hc4 j d hj; exact ⟨u, g1, g2⟩) (nodup_of_B hns);refine ⟨env', _, R, e1, ?_, St.roNews hR e3 (nodup_of_B hns)⟩;have hu' : va.den env' = e.val := by
    subst hv;rw [hc2];cases ag
    · cases as_ with
      | nil => simp only [AV.denL] at e2; subst e2; rfl
      | cons a l => simp only [AV.denL] at e2; subst e2; rfl
    · simp only [if_true, AV.den, e2]
  simp only [AV.den, AV.denL, hu', hka, g3]
end
section
variable {P : Program} {c : Ctx} {sz : Fm} {Q : Exit → Act → World → Prop} {t : List Item} {s : List (Nat × AV)} {V : List NEnt} {ops : Array Oper} {rest : List Oper} {o1 o2 : Oper}
theorem TL.next {κ ν : Type} {n it d1 d2 : Nat} {ek : κ → Value} {ag : Bool} {ev : ν → List D} {left : List (κ × ν)} {cur : Option (κ × ν)} (i : Nat) (hi : V[i]? = some (.inv n (mitI ek ag ev left cur))) (ho1 : o1.op = .next (.tmp it) false) (hg1 : o1.guard = none) (hd1 : o1.dst = some d1)
    (hx : look s it = some (.ref n)) (ho2 : o2.op = .extract (.tmp d1) 0) (hg2 : o2.guard = none) (hd2 : o2.dst = some d2) (hn : look s d1 = none) (hl1 : Nat.blt d1 sz.sz = true) (hl2 : Nat.blt d2 sz.sz = true)
    (h0 : left = [] → TL P c sz Q ops rest t ((d2, .val (.bool false)) :: s) V)
    (h1 : ∀ (j : Nat) (hj : j < left.length), TL P c sz Q ops rest t ((d2, .val (.bool true)) :: s) (V.set i (.inv n (mitI ek ag ev (left.eraseIdx j) (some left[j]))))) :
    TL P c sz Q ops (o1 :: o2 :: rest) t s V := by
  intro env tm W O R hfr hst;rw [Nat.blt_eq] at hl1 hl2;have hm := List.mem_of_getElem? hi;obtain ⟨itb, m, seen, cl, es, ys, e1, hO, g1, hR, g2, hb, hes, hp, hc⟩ := hst.holds _ hm;have hxe : (Act.eval ⟨tm, sz.df⟩ (.tmp it)) = .pointer (some ⟨itb, 0, none⟩) := by
    have := rho_eval (df := sz.df) hfr (x := .tmp it) hx;simp only [AV.den, NEnt.name] at this e1
    simpa [e1, oneOf] using this
  have hw1 : Wanted ops s o1 := by simp only [Wanted, hg1]
  have hw2 : Wanted ops s o2 := by simp only [Wanted, hg2]
  unfold wpListIn;rw [if_pos (wanted_of hfr hw1)];refine Does.inn (K := fun u W' => ∃ b, ((∃ k v, u = .tuple #[.bool true, k, v]) ∨ u = .tuple #[.bool false]) ∧ (b = true ↔ ∃ k v, u = .tuple #[.bool true, k, v]) ∧
      ((left = [] ∧ b = false ∧ St c env V W' O R) ∨ ∃ (j : Nat) (hj : j < left.length), b = true ∧ St c env (V.set i (.inv n (mitI ek ag ev (left.eraseIdx j) (some left[j])))) W' O R)) ?_ ?_
  · have hrun : ∀ u W', (Instr.next (.pointer (some ⟨itb, 0, none⟩)) false o1.type).run P W = .ok u W' → (execOp (Act.eval ⟨tm, sz.df⟩) o1).run P W = .ok (.value u) W' := by
      intro u W' h;simp only [execOp, ho1, hxe, Sem.run_bind, h, Result.andThen_ok, Sem.run_pure]
    obtain ⟨d, hd | ⟨j, hj, hd⟩⟩ := run_nextMap (P := P) (T := o1.type) g1 g2 hb
    · rw [hrun _ _ hd.2];refine ⟨false, .inr rfl, ⟨fun h => (by cases h), fun ⟨k, v, h⟩ => by simp at h⟩, .inl ⟨?_, rfl, hst.drawn d⟩⟩;have h2 := hes.len;rw [hd.1] at h2;exact List.eq_nil_of_length_eq_zero (by rw [← hp.length_eq]; simpa using h2.symm)
    · rw [hrun _ _ hd];have hjy : j < ys.length := by rw [← hes.len]; exact hj
      obtain ⟨i', hi', ex, pe⟩ := perm_idx hp hjy;refine ⟨true, .inl ⟨_, _, rfl⟩, ⟨fun _ => ⟨_, _, rfl⟩, fun _ => rfl⟩, .inr ⟨i', hi', rfl, ?_⟩⟩;have hst' := hst.drawn d;have hmm : m ≠ itb := fun e => (hst.own _ hm itb hO).2.2 (e ▸ hR)
      have hlt : itb < (drawnW W d).heap.size := (Array.getElem?_eq_some_iff.1 g1).1;have hRn : ∀ b, R b → b ≠ itb := fun b hb e => (hst.own _ hm itb hO).2.2 (e ▸ hb)
      refine hst'.write i hi ⟨rfl, rfl, rfl, by simp, fun b _ hb => World.putObj_heap_other fun e => hb (e ▸ hO)⟩ rfl ?_;obtain ⟨e, he, hk, hv⟩ := hes.at (i := j) (x := ys[j]) (List.getElem?_eq_getElem hjy);have hkeep : ∀ b, R b → R b ∧ ((drawnW W d).putObj itb (.mapIter (some m) cl (seen.push ((unseen es seen)[j]).born) cl)).heap[b]? = W.heap[b]? := fun b hb => ⟨hb, World.putObj_heap_other (hRn b hb)⟩
      have hej : (unseen es seen)[j] = e := by rw [List.getElem?_eq_getElem hj] at he; exact Option.some.inj he
      refine ⟨itb, m, _, cl, es, _, e1, hO, World.putObj_heap_same hlt, hR, (World.putObj_heap_other hmm).trans g2, hb, ?_, pe, ?_⟩
      · rw [unseen_push hb.1 j hj];exact (hes.erase j).keep hkeep
      · intro x hx;cases hx;refine ⟨e, by rw [hej]; simp, ?_, by rw [ex]; exact hk, by rw [ex]; exact hv.keep hkeep⟩;rw [← hej];exact (List.mem_filter.1 (List.getElem_mem hj)).1
  rintro u W' ⟨b, hu, hbu, hcase⟩
  rw [hd1];have hfr1 : Fr env sz.sz s (tm.setIfInBounds d1 u) := hfr.putNone hn;have hge : (tm.setIfInBounds d1 u)[d1]? = some u := by rw [Array.getElem?_setIfInBounds, if_pos rfl, if_pos (by rw [hfr.1]; exact hl1)]
  have hu0 : ∃ cs : Array Value, u = .tuple cs ∧ cs[0]? = some (.bool b) := by
    rcases hu with ⟨k, v, rfl⟩ | rfl
    · have : b = true := hbu.2 ⟨_, _, rfl⟩;subst this; exact ⟨_, rfl, rfl⟩
    · cases b
      · exact ⟨_, rfl, rfl⟩
      · obtain ⟨k, v, h⟩ := hbu.1 rfl; simp at h
  obtain ⟨cs, hcs, hc0⟩ := hu0;show wpListIn (fw sz.ro) 0 P ops _ (o2 :: rest) ⟨tm.setIfInBounds d1 u, sz.df⟩ W';unfold wpListIn;rw [if_pos (wanted_of hfr1 hw2)];have hrun2 : (execOp (Act.eval ⟨tm.setIfInBounds d1 u, sz.df⟩) o2).run P W' = .ok (.value (.bool b)) W' := by
    have hg : (tm.setIfInBounds d1 u).getD d1 undef = u := by rw [Array.getD_eq_getD_getElem?, hge]; rfl
    simp only [execOp, ho2, Act.eval, hg, Instr.extract, Sem.run_bind];rw [hcs];simp only [hc0, Sem.run_pure, Result.andThen_ok]
  refine Does.inn (K := fun v w => v = .bool b ∧ w = W') ?_ ?_
  · rw [hrun2]; exact ⟨rfl, rfl⟩
  rintro v w ⟨rfl, rfl⟩
  rw [hd2];rcases hcase with ⟨hl, rfl, hs⟩ | ⟨j, hj, rfl, hs⟩
  · exact h0 hl env _ w O R (hfr1.put hl2 (a := .val (.bool false))) hs
  · exact h1 j hj env _ w O R (hfr1.put hl2 (a := .val (.bool true))) hs
theorem TC.forget {κ ν : Type} {n : Nat} {ek : κ → Value} {ag : Bool} {ev : ν → List D} {left : List (κ × ν)} {cur : Option (κ × ν)} (k : Nat) (hk : V[k]? = some (.inv n (mitI ek ag ev left cur))) (h : TC P c sz Q t s (V.set k (.inv n (mitI ek ag ev left none)))) : TC P c sz Q t s V :=
  fun env tm W O R hf hst => h env tm W O R hf (hst.weaken hk rfl fun O R ⟨it, m, seen, cl, es, ys, h1, h2, h3, h4, h5, h6, h7, h8, _⟩ => ⟨it, m, seen, cl, es, ys, h1, h2, h3, h4, h5, h6, h7, h8, fun x hx => by cases hx⟩)
end
end Go.Proofs.Ytgkoldcmbcbbpaa.Sy
end
section
set_option linter.unusedSimpArgs false
set_option linter.unusedVariables false
namespace Go.Proofs.Ytgkoldcmbcbbpaa.Sy
open Go.RowKit
section
variable {κ ν : Type} [BEq κ]
end
def Inv.at (I : Inv) (val : Value) : Inv := ⟨fun W O R v => v = val ∧ I.ok W O R v, fun W W' O R R' hO hR v h => ⟨h.1, I.keep W W' O R R' hO hR v h.2⟩⟩
section
variable {P : Program} {c : Ctx} {sz : Fm} {Q : Exit → Act → World → Prop} {t : List Item} {s : List (Nat × AV)} {V : List NEnt} {o : Oper} {ops : Array Oper} {rest : List Oper}
end
end Go.Proofs.Ytgkoldcmbcbbpaa.Sy
end
section
set_option linter.unusedSimpArgs false
set_option linter.unusedVariables false
namespace Go.Proofs.Ytgkoldcmbcbbpaa.Sy
open Go.RowKit
def mapO {κ X : Type} (ek : κ → Value) (E size : Nat) (en : X → List D) (xs : List (κ × List X)) (hole : Option κ) : Inv :=
  ⟨fun W O R v => ∃ (r cl : Nat) (es : Array MapEntry) (ys : List (κ × List X)) (Os : Nat → Nat → Prop), v = .map (some r) ∧ O r ∧ W.heap[r]? = some (.map es cl) ∧ MapOk es.toList cl ys xs ∧ es.toList.map (·.key) = (ys.map (·.1)).map ek ∧
      (∀ i b, Os i b → O b ∧ b ≠ r) ∧ (∀ i j b, i ≠ j → Os i b → Os j b → False) ∧ ∀ (i : Nat) (e : MapEntry) (x : κ × List X), es.toList[i]? = some e → ys[i]? = some x → hole ≠ some x.1 → (NEnt.row 0 E size (x.2.map en)).holds (fun _ => e.val) W (Os i) R,
   fun W W' O R R' hO hR v ⟨r, cl, es, ys, Os, h1, h2, h3, h4, h5, h6, h7, h8⟩ => ⟨r, cl, es, ys, Os, h1, h2, (hO r h2).trans h3, h4, h5, h6, h7, fun i e x he hx hh => NEnt.holds_keep (fun b hb => hO b (h6 i b hb).1) hR (h8 i e x he hx hh)⟩⟩
theorem EsOk.of {κ ν : Type} {ek : κ → Value} {ag : Bool} {ev : ν → List D} {W : World} {R : Nat → Prop} : ∀ {es : List MapEntry} {xs : List (κ × ν)}, es.map (·.key) = (xs.map (·.1)).map ek → (∀ (i : Nat) (e : MapEntry) (x : κ × ν), es[i]? = some e → xs[i]? = some x → VOk ag (ev x.2) W R e.val) → EsOk ek ag ev W R es xs := by
  intro es
  induction es with
  | nil => intro xs h _; cases xs with
    | nil => exact .nil
    | cons => simp at h
  | cons a l ih =>
    intro xs h hv
    cases xs with
    | nil => simp at h
    | cons x xs =>
      simp only [List.map_cons, List.cons.injEq] at h;exact .cons h.1 (hv 0 a x rfl rfl) (ih h.2 fun i e y he hy => hv (i + 1) e y he hy)
theorem reads_one {size : Nat} {els : List (List D)} {W : World} {R : Nat → Prop} {v : Value} (h : reads size els W R v) : VOk false [D.s size els] W R v := by
  obtain ⟨a, cap, h1, h2⟩ := h;have hone : v.oneCell' = true := by rw [h1]; rfl
  refine ⟨[v], cells_one hone, rfl, rfl, fun j d hj => ?_⟩
  cases j with
  | zero => simp at hj; subst hj; exact ⟨v, rfl, ⟨a, cap, h1, h2⟩, hone⟩
  | succ j => simp at hj
theorem mapO_froz {κ X : Type} {ek : κ → Value} {E size : Nat} {en : X → List D} {ev : List X → List D} {xs : List (κ × List X)} {W : World} {O R R' : Nat → Prop} {v : Value} (hev : ∀ x, ev x = [D.s size (x.map en)]) (hO : ∀ b, O b → R' b) (hR : ∀ b, R b → R' b) (h : (mapO ek E size en xs none).ok W O R v) :
    (mapI ek false ev xs).froz.ok W R' v := by
  obtain ⟨r, cl, es, ys, Os, h1, h2, h3, h4, h5, h6, h7, h8⟩ := h;refine ⟨fun b => b = r, fun b hb => hb ▸ hO r h2, r, cl, es, ys, h1, rfl, h3, EsOk.of h5 fun i e x he hx => ?_, h4⟩;rw [hev];exact reads_one (row_ro (env := fun _ => e.val) (fun b hb => hO b (h6 i b hb).1) hR (h8 i e x he hx (by simp)))
section
variable {P : Program} {c : Ctx} {sz : Fm} {Q : Exit → Act → World → Prop} {t : List Item} {s : List (Nat × AV)} {V : List NEnt} {ops : Array Oper} {rest : List Oper}
theorem thawO {κ X : Type} {n E size : Nat} {ek : κ → Value} {en : X → List D} {ev : List X → List D} {xs : List (κ × List X)} (k : Nat) (hk : V[k]? = some (.inv n (mapO ek E size en xs none))) (hev : ∀ x, ev x = [D.s size (x.map en)]) {env : Env} {W : World} {O : Nat → Nat → Prop} {R : Nat → Prop} (h : St c env V W O R) :
    ∃ O' R', St c env (V.set k (.any n (mapI ek false ev xs).froz)) W O' R' := by
  have hlt := (List.getElem?_eq_some_iff.1 hk).1;have hh := h.holds _ (List.mem_of_getElem? hk);have h1 := h.freeze k hk;have hk2 : (V.set k (NEnt.inv n (mapO ek E size en xs none)).toRo)[k]? = some (.any n (mapO ek E size en xs none).froz) := by rw [List.getElem?_set_self hlt]; rfl
  have h2 := h1.write (y := .any n (mapI ek false ev xs).froz) k hk2 (Keep.refl _ _) rfl (mapO_froz hev (fun b hb => .inr hb) (fun b hb => .inl hb) hh);rw [List.set_set] at h2;exact ⟨_, _, h2⟩
theorem TC.freezeO {κ X : Type} {n E size : Nat} {ek : κ → Value} {en : X → List D} {ev : List X → List D} {xs : List (κ × List X)} (k : Nat) (hk : V[k]? = some (.inv n (mapO ek E size en xs none))) (hev : ∀ x, ev x = [D.s size (x.map en)]) (h : TC P c sz Q t s (V.set k (.any n (mapI ek false ev xs).froz))) : TC P c sz Q t s V :=
  fun env tm W O R hf hst => by obtain ⟨O', R', h2⟩ := thawO k hk hev hst; exact h env tm W O' R' hf h2
theorem TL.freezeO {κ X : Type} {n E size : Nat} {ek : κ → Value} {en : X → List D} {ev : List X → List D} {xs : List (κ × List X)} (k : Nat) (hk : V[k]? = some (.inv n (mapO ek E size en xs none))) (hev : ∀ x, ev x = [D.s size (x.map en)]) (h : TL P c sz Q ops rest t s (V.set k (.any n (mapI ek false ev xs).froz))) : TL P c sz Q ops rest t s V :=
  fun env tm W O R hf hst => by obtain ⟨O', R', h2⟩ := thawO k hk hev hst; exact h env tm W O' R' hf h2
end
section
variable {P : Program} {s : List (Nat × AV)} {o : Oper} {ρ : Operand → Option AV}
theorem sp_makeMapO {κ X : Type} {M E size : Nat} (n : Nat) {ek : κ → Value} {en : X → List D} (xs : List (κ × List X)) (hx : xs = []) (ho : o.op = .makeMap M none) : OpSpec P o ρ [] (.ref n) [.inv n (mapO ek E size en xs none)] := by
  subst hx;intro evl env W O R he _ _ hR;have : (execOp evl o).run P W = .ok (.value (.map (some W.heap.size))) (W.alloc (.map #[] 0)) := by
    simp [execOp, ho, Instr.makeMap, run_newObj_alloc]
  rw [this];refine ⟨setEnv env n (.map (some W.heap.size)), fun _ b => b = W.heap.size, R, fun m hm => setEnv_other (hm _ (List.mem_singleton.2 rfl)), by simp [AV.den, setEnv_same, oneOf], ?_⟩;refine St.fresh (keep_alloc W _) hR ?_ (fun b hb => by subst hb; simp);simp only [NEnt.holds, setEnv_same];exact ⟨_, 0, #[], [], fun _ _ => False, rfl, rfl, World.alloc_heap_new W _, ⟨.refl _, List.nodup_nil, BornOk.nil 0⟩, rfl, fun _ _ h => h.elim, fun _ _ _ _ h => h.elim, fun i e x he => by simp at he⟩
theorem row_nil_holds (E size : Nat) (env : Env) (n : Nat) (hv : env n = .slice none 0 0) (W : World) (O R : Nat → Prop) : (NEnt.row n E size []).holds env W O R := by
  simp only [NEnt.holds, hv];exact ⟨by simp, [], World.ownsRow_nil _ _ _ _, by simp [Value.ownBlock], by simp⟩
theorem ts_lookupO {κ X : Type} [BEq κ] [LawfulBEq κ] {M K V n E size : Nat} (m : Nat) {x i : Operand} {ek : κ → Value} {en : X → List D} {xs : List (κ × List X)} (k : κ) {ka : AV} {rs : List (List D)} (ho : o.op = .lookup M x i false) (hx : rho s x = some (.ref n)) (hi : rho s i = some ka) (hka : ∀ e, ka.den e = ek k) (hk : MKey P M K V ek)
    (hz : ∀ w, (zeroValue V).run P w = .ok (.slice none 0 0) w) (hrs : rs = ((mlook xs k).getD []).map en) (hmn : (m == n) = false) :
    TSpec P o (rho s) [.inv n (mapO ek E size en xs none)] [] (.ref m) [.inv n (mapO ek E size en xs (some k)), .row m E size rs] := by
  subst hrs;intro evl c env W0 W O R he hst ht hnd hnn;have hm := ht _ (List.mem_singleton.2 rfl);obtain ⟨r, cl, es, ys, Os, h1, hOr, h2, ⟨hp, hnd', hb⟩, hke, hO1, hO2, hrow⟩ := hst.holds _ hm;have hmne : m ≠ n := by simpa using hmn
  have hmV : hasV m W0 = false := by
    rcases hnn (.row m E size (((mlook xs k).getD []).map en)) (by simp) with h | h
    · simp [NEnt.name, hmne] at h
    · exact h
  have hx' := he x _ hx;simp only [AV.den, NEnt.name] at hx' h1;simp only [h1, oneOf] at hx';have hi' := he i _ hi;rw [hka] at hi';have hf := hk.find k es.toList (ys.map (·.1)) W hke;have hnv : ∀ y ∈ [NEnt.inv n (mapO ek E size en xs (some k)), NEnt.row m E size (((mlook xs k).getD []).map en)], y.name ∈ [NEnt.inv n (mapO ek E size en xs none)].map NEnt.name ∨ hasV y.name W0 = false := fun y hy => by
    simp only [List.mem_cons, List.not_mem_nil, or_false] at hy;rcases hy with rfl | rfl
    · exact .inl (by simp [NEnt.name])
    · exact .inr hmV
  -- the split of what is owned
  have key : ∀ (v : Value) (J : Nat → Prop), oneOf v = v → (∀ b, J b → O n b ∧ b ≠ r) → ((NEnt.row m E size (((mlook xs k).getD []).map en)).holds (setEnv env m v) W J R) →
      (∀ (i : Nat) (e : MapEntry) (x : κ × List X), es.toList[i]? = some e → ys[i]? = some x → x.1 ≠ k → ∀ b, Os i b → ¬ J b) →
      (execOp evl o).run P W = .ok (.value v) W → Does P ((execOp evl o).run P W) fun u W' => ∃ env' O' R', (∀ q, (∀ y ∈ [NEnt.inv n (mapO ek E size en xs (some k)), NEnt.row m E size (((mlook xs k).getD []).map en)], y.name ∉ [NEnt.inv n (mapO ek E size en xs none)].map NEnt.name → y.name ≠ q) → env' q = env q) ∧ u = (AV.ref m).den env' ∧
        St c env' ([NEnt.inv n (mapO ek E size en xs (some k)), NEnt.row m E size (((mlook xs k).getD []).map en)] ++ delV ([NEnt.inv n (mapO ek E size en xs none)].map NEnt.name) W0) W' O' R' := by
    intro v J hv1 hJ hholds hdis hrun;rw [hrun]
    have henv : ∀ q, (∀ y ∈ [NEnt.inv n (mapO ek E size en xs (some k)), NEnt.row m E size (((mlook xs k).getD []).map en)], y.name ∉ [NEnt.inv n (mapO ek E size en xs none)].map NEnt.name → y.name ≠ q) → setEnv env m v q = env q := fun q hq =>
      setEnv_other (hq (.row m E size (((mlook xs k).getD []).map en)) (by simp) (by simp [NEnt.name, hmne]))
    have hn1 : setEnv env m v n = env n := setEnv_other hmne
    classical
    suffices hs : ∃ O2, St c (setEnv env m v) ([NEnt.inv n (mapO ek E size en xs (some k)), NEnt.row m E size (((mlook xs k).getD []).map en)] ++ delV ([NEnt.inv n (mapO ek E size en xs none)].map NEnt.name) W0) W O2 R by
      obtain ⟨O2, h⟩ := hs;exact ⟨_, O2, R, henv, by simp only [AV.den, setEnv_same]; exact hv1.symm, h⟩
    refine hst.over (take := [.inv n (mapO ek E size en xs none)]) (M1 := fun b => O n b) (env' := setEnv env m v) (news := [.inv n (mapO ek E size en xs (some k)), .row m E size (((mlook xs k).getD []).map en)]) (W' := W) (R' := R)
      (O' := fun q b => if q = m then J b else O n b ∧ ¬ J b) ht (fun b hb => ⟨_, List.mem_singleton.2 rfl, hb⟩) ⟨Keep.refl _ _, fun y hy => ?_, fun y hy b hb => ?_, fun y hy z hz hne b hb => ?_, fun b hb => ⟨(hst.ro b hb).1, .inr (.inl hb)⟩, fun _ h => h, ?_⟩ henv hnv
    · simp only [List.mem_cons, List.not_mem_nil, or_false] at hy;rcases hy with rfl | rfl
      · simp only [NEnt.holds, NEnt.name, hn1, Ne.symm hmne, if_false];refine ⟨r, cl, es, ys, fun q b => Os q b ∧ ¬ J b, h1, ⟨hOr, fun h => (hJ r h).2 rfl⟩, h2, ⟨hp, hnd', hb⟩, hke, fun q b h => ⟨⟨(hO1 q b h.1).1, h.2⟩, (hO1 q b h.1).2⟩, fun q q' b hne h h' => hO2 q q' b hne h.1 h'.1, fun q e x he hx hh => ?_⟩;have hxk : x.1 ≠ k := fun e => hh (by rw [e])
        have := hrow q e x he hx (by simp);have e2 : (fun b => Os q b ∧ ¬ J b) = Os q := by
          funext b; exact propext ⟨fun h => h.1, fun h => ⟨h, hdis q e x he hx hxk b h⟩⟩
        show (NEnt.row 0 E size (x.2.map en)).holds (fun _ => e.val) W (fun b => Os q b ∧ ¬ J b) R;rw [e2]; exact this
      · simp only [NEnt.name, if_true];exact hholds
    · simp only [List.mem_cons, List.not_mem_nil, or_false] at hy;have hb' : O n b := by
        rcases hy with rfl | rfl
        · simp only [NEnt.name, Ne.symm hmne, if_false] at hb; exact hb.1
        · simp only [NEnt.name, if_true] at hb; exact (hJ b hb).1
      obtain ⟨q1, q2, q3⟩ := hst.own _ hm b hb';exact ⟨q1, .inr hb', q3⟩
    · simp only [List.mem_cons, List.not_mem_nil, or_false] at hy hz;rcases hy with rfl | rfl <;> rcases hz with rfl | rfl
      · exact hne rfl
      · simp only [NEnt.name, Ne.symm hmne, if_false, if_true] at hb; exact hb.1.2 hb.2
      · simp only [NEnt.name, Ne.symm hmne, if_false, if_true] at hb; exact hb.2.2 hb.1
      · exact hne rfl
    · simp [NEnt.name, Ne.symm hmne]
  have hml := mlook_perm hp hnd' k
  cases hfi : (ys.map (·.1)).findIdx? (· == k) with
  | none =>
    rw [hfi] at hf;have hrun : (execOp evl o).run P W = .ok (.value (.slice none 0 0)) W := by
      simp only [execOp, ho, hx', hi', Instr.lookup, Sem.run_bind, run_underlying hk.under, Result.andThen_ok, getObj_map h2, Sem.run_pure, hk.check, hf, Option.bind_none, hz]
      rfl
    have hnone : mlook xs k = none := by rw [← hml]; simp [mlook, mfind, hfi]
    refine key _ (fun _ => False) rfl (fun _ h => h.elim) ?_ (fun _ _ _ _ _ _ _ _ h => h) hrun;rw [hnone];exact row_nil_holds _ _ _ _ (setEnv_same _ _ _) _ _ _
  | some j =>
    have hjl : j < ys.length := by have := (List.findIdx?_eq_some_iff_getElem.1 hfi).1; simpa using this
    have hel : es.toList.length = ys.length := by have := congrArg List.length hke; simpa using this
    have hje : j < es.toList.length := by omega
    have hej : es.toList[j]? = some es.toList[j] := List.getElem?_eq_getElem hje;rw [hfi] at hf;simp only [Option.bind_some, hej, Option.map_some] at hf;have hyj : ys[j]? = some ys[j] := List.getElem?_eq_getElem hjl;have hjk : (ys[j]).1 = k := by
      have := (List.findIdx?_eq_some_iff_getElem.1 hfi).2.1
      simpa using this
    have hsome : mlook xs k = some (ys[j]).2 := by rw [← hml]; simp [mlook, mfind, hfi, hjl]
    have hrj := hrow j _ _ hej hyj (by simp);have hone : oneOf (es.toList[j]).val = (es.toList[j]).val := by
      obtain ⟨a, cap, q1, _⟩ := row_read isOwn hrj;rw [q1]; rfl
    have hrun : (execOp evl o).run P W = .ok (.value (es.toList[j]).val) W := by
      simp only [execOp, ho, hx', hi', Instr.lookup, Sem.run_bind, run_underlying hk.under, Result.andThen_ok, getObj_map h2, Sem.run_pure, hk.check, hf]
      rfl
    refine key _ (Os j) hone (fun b hb => hO1 j b hb) ?_ (fun q e x he hx hxk b hb hJ => ?_) hrun
    · rw [hsome];have := hrj;simp only [NEnt.holds, Option.getD_some, setEnv_same] at this ⊢;exact this
    · have hqj : q ≠ j := fun e => by subst e; rw [hyj] at hx; cases hx; exact hxk hjk
      exact hO2 q j b hqj hb hJ
theorem ts_mapPutO {κ X : Type} [BEq κ] [LawfulBEq κ] {M K V n m E size : Nat} {x i y : Operand} {ek : κ → Value} {en : X → List D} {xs ys : List (κ × List X)} (k : κ) {ka : AV} {rs : List (List D)} (d : List X) (ho : o.op = .mapUpdate M x i y) (hx : rho s x = some (.ref n)) (hi : rho s i = some ka) (hka : ∀ e, ka.den e = ek k) (hy : rho s y = some (.ref m))
    (hk : MKey P M K V ek) (hrs : rs = d.map en) (hmn : (m == n) = false) (hys : (xs.map (·.1)).Nodup → ys.Perm (mput xs k d)) :
    TSpec P o (rho s) [.inv n (mapO ek E size en xs (some k)), .row m E size rs] [] (.val undef) [.inv n (mapO ek E size en ys none)] := by
  subst hrs;intro evl c env W0 W O R he hst ht hnd hnn;have hm := ht (.inv n (mapO ek E size en xs (some k))) (by simp);have hr := ht (.row m E size (d.map en)) (by simp);have hmne : m ≠ n := by simpa using hmn
  obtain ⟨r, cl, es, zs, Os, h1, hOr, h2, ⟨hp, hnd', hb⟩, hke, hO1, hO2, hrow⟩ := hst.holds _ hm;have hrw := hst.holds _ hr;have hys' := hys ((hp.map _).nodup_iff.1 hnd');have hx' := he x _ hx;simp only [AV.den, NEnt.name] at hx' h1 hOr hO1;simp only [h1, oneOf] at hx';have hi' := he i _ hi;rw [hka] at hi';have hy' := he y _ hy;have hone : oneOf (env m) = env m := by
    obtain ⟨a, cap, q1, _⟩ := row_read isOwn hrw;rw [q1]; rfl
  simp only [AV.den, hone] at hy';have hf := hk.find k es.toList (zs.map (·.1)) W hke;have hlt : r < W.heap.size := (Array.getElem?_eq_some_iff.1 h2).1;have hRr : ∀ b, R b → b ≠ r := fun b hb e => (hst.own _ hm r hOr).2.2 (e ▸ hb)
  have hmr : ∀ b, O m b → b ≠ r ∧ ¬ O n b := fun b hb => ⟨fun e => hst.apart _ hm _ hr (by simp [NEnt.name, Ne.symm hmne]) r ⟨hOr, e ▸ hb⟩, fun h => hst.apart _ hm _ hr (by simp [NEnt.name, Ne.symm hmne]) b ⟨h, hb⟩⟩
  have hel : es.toList.length = zs.length := by have := congrArg List.length hke; simpa using this
  have key : ∀ (es' : Array MapEntry) (cl' j : Nat) (zs' : List (κ × List X)), (execOp evl o).run P W = .ok .skip (W.putObj r (.map es' cl')) → zs'.Perm (mput zs k d) → (zs'.map (·.1)).Nodup → BornOk es'.toList cl' → es'.toList.map (·.key) = (zs'.map (·.1)).map ek →
      (∀ (q : Nat) (e : MapEntry) (x : κ × List X), es'.toList[q]? = some e → zs'[q]? = some x → (q = j ∧ e.val = env m ∧ x = (k, d)) ∨ (q ≠ j ∧ es.toList[q]? = some e ∧ zs[q]? = some x ∧ x.1 ≠ k)) →
      Does P ((execOp evl o).run P W) fun u W' => ∃ env' O' R', (∀ q, (∀ y ∈ [NEnt.inv n (mapO ek E size en ys none)], y.name ∉ [NEnt.inv n (mapO ek E size en xs (some k)), NEnt.row m E size (d.map en)].map NEnt.name → y.name ≠ q) → env' q = env q) ∧ u = (AV.val undef).den env' ∧
        St c env' ([NEnt.inv n (mapO ek E size en ys none)] ++ delV ([NEnt.inv n (mapO ek E size en xs (some k)), NEnt.row m E size (d.map en)].map NEnt.name) W0) W' O' R' := by
    intro es' cl' j zs' hrun hpz hndz hbz hkz hcase;rw [hrun];have hkeepR : ∀ b, R b → R b ∧ (W.putObj r (.map es' cl')).heap[b]? = W.heap[b]? := fun b hb => ⟨hb, World.putObj_heap_other (hRr b hb)⟩
    have hp0 : (mput zs k d).Perm (mput xs k d) := mput_perm hp hnd' k d
    classical
    suffices hs : ∃ O2, St c env ([NEnt.inv n (mapO ek E size en ys none)] ++ delV ([NEnt.inv n (mapO ek E size en xs (some k)), NEnt.row m E size (d.map en)].map NEnt.name) W0) (W.putObj r (.map es' cl')) O2 R by
      obtain ⟨O2, h⟩ := hs;exact ⟨env, O2, R, fun _ _ => rfl, rfl, h⟩
    refine hst.over (take := [NEnt.inv n (mapO ek E size en xs (some k)), NEnt.row m E size (d.map en)]) (M1 := fun b => O n b ∨ O m b) (env' := env) (news := [.inv n (mapO ek E size en ys none)]) (W' := W.putObj r (.map es' cl')) (R' := R)
      (O' := fun _ b => O n b ∨ O m b) ht (fun b hb => hb.elim (fun h => ⟨NEnt.inv n (mapO ek E size en xs (some k)), by simp, h⟩) (fun h => ⟨NEnt.row m E size (d.map en), by simp, h⟩)) ⟨⟨rfl, rfl, rfl, by simp, fun b _ hb => World.putObj_heap_other fun e => hb (.inl (e ▸ hOr))⟩, fun y hy => ?_, fun y hy b hb => ?_, fun y hy z hz hne b hb => ?_, fun b hb => ⟨by simpa using (hst.ro b hb).1, .inr (.inl hb)⟩, fun _ h => h, by simp⟩ (fun _ _ => rfl) (fun y hy => by
        simp only [List.mem_singleton] at hy; subst hy; exact .inl (by simp [NEnt.name]))
    · simp only [List.mem_singleton] at hy;subst hy;refine ⟨r, cl', es', zs', fun q b => if q = j then O m b else Os q b ∧ q ≠ j, h1, .inl hOr, World.putObj_heap_same hlt, ⟨(hpz.trans hp0).trans hys'.symm, hndz, hbz⟩, hkz, fun q b hq => ?_, fun q q' b hne hq hq' => ?_, fun q e x he hx _ => ?_⟩
      · dsimp only at hq
        split at hq
        · exact ⟨.inr hq, (hmr b hq).1⟩
        · exact ⟨.inl (hO1 q b hq.1).1, (hO1 q b hq.1).2⟩
      · dsimp only at hq hq'
        split at hq <;> split at hq'
        · rename_i a b; exact hne (a.trans b.symm)
        · exact (hmr b hq).2 (hO1 q' b hq'.1).1
        · exact (hmr b hq').2 (hO1 q b hq.1).1
        · exact hO2 q q' b hne hq.1 hq'.1
      · rcases hcase q e x he hx with ⟨rfl, e2, rfl⟩ | ⟨hqj, e2, e3, hxk⟩
        · simp only [if_true];have : (NEnt.row m E size (d.map en)).holds env (W.putObj r (.map es' cl')) (O m) R := NEnt.holds_keep (fun b hb => World.putObj_heap_other (hmr b hb).1) hkeepR hrw;simp only [NEnt.holds] at this ⊢;rw [e2]; exact this
        · simp only [hqj, if_false];have e4 : (fun b => Os q b ∧ q ≠ j) = Os q := by funext b; exact propext ⟨fun h => h.1, fun h => ⟨h, hqj⟩⟩
          have := hrow q e x e2 e3 (fun h => hxk (by cases h; rfl));have h5 : (NEnt.row 0 E size (x.2.map en)).holds (fun _ => e.val) (W.putObj r (.map es' cl')) (Os q) R := NEnt.holds_keep (fun b hb => World.putObj_heap_other (hO1 q b hb).2) hkeepR this;have e5 : (fun b => if q = j then O m b else Os q b ∧ q ≠ j) = Os q := by funext b; simp [hqj]
          first | exact h5 | (rw [← e4] at h5; exact h5) | (rw [← e5] at h5; exact h5) | (simpa [hqj] using h5)
    · rcases hb with hb | hb
      · obtain ⟨q1, q2, q3⟩ := hst.own _ hm b hb; exact ⟨by simpa using q1, .inr (.inl hb), q3⟩
      · obtain ⟨q1, q2, q3⟩ := hst.own _ hr b hb; exact ⟨by simpa using q1, .inr (.inr hb), q3⟩
    · simp only [List.mem_singleton] at hy hz;subst hy; subst hz; exact hne rfl
  cases hfi : (zs.map (·.1)).findIdx? (· == k) with
  | none =>
    rw [hfi] at hf;have hno : ∀ x ∈ zs, x.1 ≠ k := fun x hx e => by
      have := List.findIdx?_eq_none_iff.1 hfi x.1 (List.mem_map.2 ⟨x, hx, rfl⟩);rw [e] at this; simp at this
    have hrun : (execOp evl o).run P W = .ok .skip (W.putObj r (.map (es.push { key := ek k, val := env m, born := cl }) (cl + 1))) := by
      simp only [execOp, ho, Instr.mapUpdate, hx', hi', hy', Sem.run_bind, run_underlying hk.under, Result.andThen_ok, getObj_map h2, hk.check, hf, Option.bind_none, setObj_map _ h2, Sem.run_pure]
    refine key _ _ es.toList.length (mput zs k d) hrun (.refl _) (nodup_put hnd' k d) (by rw [Array.toList_push]; exact hb.push rfl) ?_ fun q e x he hx => ?_
    · simp only [mput, mfind, hfi, Array.toList_push, List.map_append, hke, List.map_cons, List.map_nil]
    · simp only [mput, mfind, hfi] at hx;rw [Array.toList_push] at he;rcases Nat.lt_trichotomy q es.toList.length with hq | hq | hq
      · rw [List.getElem?_append_left hq] at he;rw [List.getElem?_append_left (by omega)] at hx;exact .inr ⟨by omega, he, hx, hno x (List.mem_of_getElem? hx)⟩
      · subst hq;rw [List.getElem?_append_right (Nat.le_refl _)] at he;rw [List.getElem?_append_right (by omega)] at hx;simp only [Nat.sub_self, List.getElem?_cons_zero, Option.some.injEq, hel] at he hx;subst he; subst hx;exact .inl ⟨rfl, rfl, rfl⟩
      · rw [List.getElem?_eq_none (by simp only [List.length_append, List.length_cons, List.length_nil]; omega)] at he;cases he
  | some j =>
    have hjl : j < zs.length := by have := (List.findIdx?_eq_some_iff_getElem.1 hfi).1; simpa using this
    have hje : j < es.toList.length := by omega
    have hej : es.toList[j]? = some es.toList[j] := List.getElem?_eq_getElem hje;rw [hfi] at hf;simp only [Option.bind_some, hej, Option.map_some] at hf;have hjk : (zs[j]).1 = k := by
      have := (List.findIdx?_eq_some_iff_getElem.1 hfi).2.1
      simpa using this
    have hkey : (es.toList[j]).key = ek k := by
      have := congrArg (fun l => l[j]?) hke;simp only [List.getElem?_map, hej, Option.map_some, List.getElem?_eq_getElem hjl, hjk] at this;exact Option.some.inj this
    have hej' : es[j]? = some es.toList[j] := by rw [← Array.getElem?_toList]; exact hej
    have hrun : (execOp evl o).run P W = .ok .skip (W.putObj r (.map (es.modify j fun e => { e with key := ek k, val := env m }) cl)) := by
      simp only [execOp, ho, Instr.mapUpdate, hx', hi', hy', Sem.run_bind, run_underlying hk.under, Result.andThen_ok, getObj_map h2, hk.check, hf, hej', Option.map_some, Option.getD_some, hkey, hk.stay, setObj_map _ h2, Sem.run_pure]
    have hl : (es.modify j fun e => { e with key := ek k, val := env m }).toList = es.toList.set j { es.toList[j] with key := ek k, val := env m } := by
      rw [Array.toList_modify];apply List.ext_getElem?;intro q;rw [List.getElem?_modify, List.getElem?_set]
      by_cases e' : j = q
      · subst e';simp only [hej, if_true, Option.map_some, if_pos hje]; rfl
      · simp [e']
    refine key _ _ j (mput zs k d) hrun (.refl _) (nodup_put hnd' k d) (hb.same ?_) ?_ fun q e x he hx => ?_
    · rw [hl];apply List.ext_getElem?;intro q;rw [List.getElem?_map, List.getElem?_map, List.getElem?_set]
      by_cases e' : j = q
      · subst e';simp only [if_true, if_pos hje, hej, Option.map_some]
      · simp [e']
    · rw [hl];simp only [mput, mfind, hfi];apply List.ext_getElem?;intro q;have h0 := congrArg (fun l => l[q]?) hke;simp only [List.getElem?_map, List.getElem?_set] at h0 ⊢
      by_cases e' : j = q
      · subst e';simp only [if_true, if_pos hje, if_pos hjl, Option.map_some]
      · simp only [e', if_false]; exact h0
    · rw [hl] at he;simp only [mput, mfind, hfi] at hx;rw [List.getElem?_set] at he hx
      by_cases e' : j = q
      · subst e';simp only [if_true, if_pos hje, if_pos hjl, Option.some.injEq] at he hx;subst he; subst hx;exact .inl ⟨rfl, rfl, rfl⟩
      · simp only [e', if_false] at he hx;refine .inr ⟨Ne.symm e', he, hx, fun e => ?_⟩
        -- each key once
        have h3 : (zs.map (·.1))[q]? = some k := by rw [List.getElem?_map, hx]; simp [e]
        have h4 : (zs.map (·.1))[j]? = some k := by rw [List.getElem?_map, List.getElem?_eq_getElem hjl]; simp [hjk]
        have hq : j < (zs.map (·.1)).length := by simpa using hjl
        exact e' ((List.getElem?_inj hq hnd').1 (h4.trans h3.symm))
end
def Sel {α : Type} (L : List α) (x : α) (l : List α) : Prop := ∃ (j : Nat) (hj : j < L.length), x = L[j] ∧ l = L.eraseIdx j
theorem nextAll_sel {α ρ : Type} {L : List α} {f : α → List α → Option ρ} {e : Option ρ} {r : ρ} (h : nextAll L f e = some r) {x : α} {l : List α} (hs : Sel L x l) : f x l = some r := by
  obtain ⟨j, hj, rfl, rfl⟩ := hs;exact (nextAll_inv h).2 j hj
theorem nextAll_end {α ρ : Type} {L : List α} {f : α → List α → Option ρ} {e : Option ρ} {r : ρ} (h : nextAll L f e = some r) (hL : L = []) : e = some r := (nextAll_inv h).1 hL
section
variable {P : Program} {c : Ctx} {sz : Fm} {Q : Exit → Act → World → Prop} {t : List Item} {s : List (Nat × AV)} {V : List NEnt} {ops : Array Oper} {rest : List Oper} {o1 o2 : Oper}
theorem TL.nextS {κ ν : Type} {n it d1 d2 : Nat} {ek : κ → Value} {ag : Bool} {ev : ν → List D} {left : List (κ × ν)} {cur : Option (κ × ν)} (i : Nat) (hi : V[i]? = some (.inv n (mitI ek ag ev left cur))) (ho1 : o1.op = .next (.tmp it) false) (hg1 : o1.guard = none) (hd1 : o1.dst = some d1)
    (hx : look s it = some (.ref n)) (ho2 : o2.op = .extract (.tmp d1) 0) (hg2 : o2.guard = none) (hd2 : o2.dst = some d2) (hn : look s d1 = none) (hl1 : Nat.blt d1 sz.sz = true) (hl2 : Nat.blt d2 sz.sz = true)
    (h0 : left = [] → TL P c sz Q ops rest t ((d2, .val (.bool false)) :: s) V)
    (h1 : ∀ (x : κ × ν) (l : List (κ × ν)), Sel left x l → TL P c sz Q ops rest t ((d2, .val (.bool true)) :: s) (V.set i (.inv n (mitI ek ag ev l (some x))))) :
    TL P c sz Q ops (o1 :: o2 :: rest) t s V :=
  TL.next i hi ho1 hg1 hd1 hx ho2 hg2 hd2 hn hl1 hl2 h0 fun j hj => h1 _ _ ⟨j, hj, rfl, rfl⟩
end
theorem OpSpec.froz {P : Program} {o : Oper} {ρ : Operand → Option AV} {need : List NEnt} {v : AV} {news : List NEnt} {x : NEnt} (j : Nat) (hj : news[j]? = some x) (h : OpSpec P o ρ need v news) : OpSpec P o ρ need v (news.set j x.toRo) := by
  intro ev env W O R he hn hO hR;refine (h ev env W O R he hn hO hR).mono ?_
  rintro u W' ⟨env', O', R', he', hu, hst⟩
  refine ⟨env', _, _, fun n hn => he' n fun y hy => ?_, hu, hst.freeze j hj⟩;have hnm := set_names (y := x.toRo) hj (NEnt.toRo_name x);have : y.name ∈ (news.set j x.toRo).map NEnt.name := by rw [hnm]; exact List.mem_map.2 ⟨y, hy, rfl⟩
  obtain ⟨z, hz, e⟩ := List.mem_map.1 this;rw [← e]; exact hn z hz
theorem findAsk2 {P : Program} {K : TypeId} {κ : Type} [BEq κ] [LawfulBEq κ] {ek : κ → Value} (hq : ∀ k k' w, (Op.equal K (ek k) (ek k')).run P w = .ok (k == k') w) (k : κ) : ∀ (es : List MapEntry) (ks : List κ) (i : Nat) (w : World), es.map (·.key) = ks.map ek →
    (Instr.findAsking K (ek k) es i).run P w = .ok ((ks.findIdx? (· == k)).bind fun j => (es[j]?).map fun e => (i + j, e.val)) w := by
  intro es
  induction es with
  | nil => intro ks i w h; cases ks <;> first | rfl | cases h
  | cons e es ih =>
    intro ks i w h
    cases ks with
    | nil => cases h
    | cons z ks =>
      simp only [List.map_cons, List.cons.injEq] at h;simp only [Instr.findAsking, h.1, Sem.run_bind, hq, Result.andThen_ok, List.findIdx?_cons]
      by_cases hz : k = z
      · subst hz; simp
      · have h1 : (k == z) = false := by simpa using hz
        have h2 : (z == k) = false := by simpa using Ne.symm hz
        simp only [h1, Bool.false_eq_true, if_false, h2, ih ks (i + 1) w h.2];cases ks.findIdx? (· == k) <;> simp
        rename_i j
        cases es[j]? <;> simp
        omega
theorem mkey_agg2 {P : Program} {M K V : TypeId} {κ : Type} [BEq κ] [LawfulBEq κ] {ek : κ → Value} {dK : TypeDesc} (hu : P.underlying M = some (.map K V)) (hK : P.underlying K = some dK) (hd : ∀ k es i, Instr.findNow dK k es i = if es = [] then some none else none) (hc : ∀ b k w, (Instr.checkKey b 10000 K (ek k)).run P w = .ok () w)
    (hq : ∀ k k' w, (Op.equal K (ek k) (ek k')).run P w = .ok (k == k') w) (hs : ∀ k, Instr.sameBits 10000 (ek k) (ek k) = true) : MKey P M K V ek where
  under := hu
  check := hc
  find k es ks w h := by
    simp only [Instr.findKey, Sem.run_bind, run_underlying hK, Result.andThen_ok, hd]
    cases es with
    | nil => cases ks <;> first | rfl | cases h
    | cons e es =>
      simp only [reduceCtorEq, if_false];have := findAsk2 hq k (e :: es) ks 0 w h
      simpa using this
  stay k w := by simp [Instr.keyThatStays, hs]
  eq ks k i x h1 h2 := by
    obtain ⟨h3, h4, _⟩ := List.findIdx?_eq_some_iff_getElem.1 h1;rw [List.getElem?_eq_getElem h3] at h2;cases h2;simp only [beq_iff_eq] at h4;rw [h4]
end Go.Proofs.Ytgkoldcmbcbbpaa.Sy
end
section
set_option linter.unusedSimpArgs false
set_option linter.unusedVariables false
namespace Go.Proofs.Ytgkoldcmbcbbpaa.Sy
open Go.RowKit
end Go.Proofs.Ytgkoldcmbcbbpaa.Sy
end
