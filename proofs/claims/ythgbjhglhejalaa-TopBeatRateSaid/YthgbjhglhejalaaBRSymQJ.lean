/- Texts joined into one: SymQ, SymR, SymS, SymT, SymU, SymV, SymW, SymX, SymY, SymZ, SymPt, SymRR, SymRS, SymTu, SymBe, SymGr, SymRM, SymRN, SymTb. -/
import Derived.Test.YthgbjhglhejalaaBRSymIJ
import Derived.Laws.OwnMore
import Derived.Shelf.Slices.CompactI
import Derived.Shelf.Sort.Plain
import Derived.Shelf.Slices.In.SortNone
import Derived.Shelf.Spec.SlicesGrow
section
set_option linter.unusedSimpArgs false
set_option linter.unusedVariables false
namespace Go.Proofs.Ythgbjhglhejalaa.Sy
open Go.RowKit
section
variable {P : Program} {c : Ctx} {s : List (Nat × AV)} {o : Oper}
theorem ts_append {T E size bytes n m N N2 : Nat} (r : Nat) {x y : Operand} {els els2 els3 : List (List D)} {ym : NEnt} (ho : o.op = .call { callee := .builtin .append, args := #[x, y], argTypes := #[T, T] })
    (hx : rho s x = some (.ref n)) (hy : rho s y = some (.ref m)) (hym : IsRow ym m size els2) (hnm : (m == n) = false) (hT : SlT P T E size bytes) (hl1 : els.length = N) (hl2 : els2.length = N2) (hroom : room bytes (N + N2) = true) (he3 : els ++ els2 = els3) (hrn : (r == n) = false) :
    TSpec P o (rho s) [.row n E size els] [ym] (.ref r) [.row r E size els3] := by
  subst hl1; subst hl2; subst he3;intro ev c env V W O R hev hst ht hk hnn;have hxm : NEnt.row n E size els ∈ V := ht _ (List.mem_singleton.2 rfl);have hm : ym ∈ V := hk _ (List.mem_singleton.2 rfl);obtain ⟨k, hkk⟩ := List.mem_iff_getElem?.1 hxm;have hrV : hasV r V = false := by
    rcases hnn _ (List.mem_singleton.2 rfl) with h | h
    · simp only [NEnt.name, List.map_cons, List.map_nil, List.mem_singleton] at h;rw [h] at hrn; simp at hrn
    · exact h
  simp only [room, Bool.and_eq_true, decide_eq_true_eq] at hroom;obtain ⟨hs, cells, hown, hob, hcd⟩ := hst.holds _ hxm;obtain ⟨a, cap, hv2, hnone, hs2, us, hul, hone, hcell, hok⟩ := row_cells hym hT.pos (hst.holds _ hm);obtain ⟨i, z, hi, hz, hsz, hby, hzs⟩ := hT.info;have hvx : oneOf (env n) = env n := by
    rcases hown.2 with ⟨hv, _⟩ | ⟨g, cap, cur, hv, _⟩ <;> rw [hv] <;> rfl
  have hx' := hev _ _ hx;have hy' := hev _ _ hy;simp only [AV.den, hvx] at hx';simp only [AV.den, hv2, oneOf] at hy';have hrun : ∃ v' W', (Builtin.append_ #[T, T] o.type #[env n, .slice a els2.length cap]).run P W = .ok v' W' ∧ W'.ownsRow 0 E size v' (els.length + els2.length) (cells ++ us) ∧ W.grownBy W' (env n).ownBlock ∧
      ∀ b, v'.ownBlock = some b → (env n).ownBlock = some b ∨ W.heap.size ≤ b := by
    cases a with
    | none =>
      have he2 := hnone rfl;subst he2;have hus : us = [] := List.eq_nil_of_length_eq_zero (by simpa using hul);subst hus;obtain ⟨_, _, h2, _, _, h4, _⟩ := row_read hym (hst.holds _ hm);have hc0 : cap = 0 := by
        rw [hv2] at h2; cases h2; exact h4 rfl
      subst hc0;refine ⟨env n, W, run_append_owned_none (w := W) 0 T o.type E i size hT.under hi _ _ _ hown, by simpa using hown, ⟨rfl, rfl, rfl, Nat.le_refl _, fun _ _ _ => rfl⟩, fun b hb => .inl hb⟩
    | some ad =>
      obtain ⟨v', W', h1, h2, h3, _⟩ := run_append_own W 0 T o.type E i z size bytes hT.under hi hz hsz hby hzs hT.pos (env n) els.length cells hown ad els2.length cap us hul (hcell ad rfl) hone (by simp only [maxLen]; omega) hroom.1 (Nat.zero_le _);refine ⟨v', W', h1, h2, h3, fun b hb => ?_⟩;subst hsz; subst hby
      have h63 : (els.length + els2.length : Nat) ≤ 9223372036854775807 := by omega
      rcases hown.2 with ⟨hv, hn0⟩ | ⟨g, cap2, cur, hv, _, hg, hnc, hcm, hcs, htk⟩
      · rw [hv] at h1
        by_cases h0 : els2.length = 0
        · have hus : us = [] := List.eq_nil_of_length_eq_zero (by simpa [h0] using hul);have hl0 : els.length = 0 := hn0;have : (Builtin.append_ #[T, T] o.type #[.slice none 0 0, .slice (some ad) els2.length cap]).run P W = .ok (.slice none 0 0) W := by
            rw [h0];simp [Builtin.append_, run_underlying hT.under, sizeOf, typeInfo, hi, Builtin.lenOf, Builtin.firstCells, loadCells, loadCellsFrom]
          rw [this] at h1;cases h1;simp [Value.ownBlock] at hb
        · have hr := run_append_nil (P := P) W T o.type E i z hT.under hi hz ad els2.length cap us hul (hcell ad rfl) (by omega) (by omega) (by have := hroom.1; rw [Nat.add_mul] at this; omega);rw [hr] at h1;cases h1;simp [Value.ownBlock] at hb;exact .inr (by omega)
      · rw [hv] at h1 ⊢
        by_cases hroom2 : els.length + els2.length ≤ cap2
        · have hfit : els.length * i.size + us.length ≤ cur.size := by rw [hul, hcs, ← Nat.add_mul]; exact Nat.mul_le_mul_right _ hroom2
          have hr := run_append_room (P := P) W T o.type E i hT.under hi g els.length cap2 cur hg ad els2.length cap us hul (hcell ad rfl) hone hroom2 hfit;rw [hr] at h1;cases h1;exact .inl hb
        · have holds : ∀ j u, cells[j]? = some u → W.cell? ((⟨g, 0, none⟩ : Addr).add j) = some u := World.ownsRow.cells hown (g := g) (by rw [hv]; rfl);have hr := run_append_grow (P := P) W T o.type E i z hT.under hi hz ⟨g, 0, none⟩ els.length cap2 cells hown.1 holds ad els2.length cap us hul (hcell ad rfl) (by omega) (by omega) (growslice_fits (by omega) hroom.1);rw [hr] at h1;cases h1;simp [Value.ownBlock] at hb;exact .inr (by omega)
  obtain ⟨v', W', hrun, hown', hgrow, hblk⟩ := hrun;have hexec : (execOp ev o).run P W = .ok (.value v') W' := by
    simp only [execOp, ho, resolve, invoke, builtin, Sem.run_bind, Sem.run_pure, Result.andThen_ok, List.map_toArray, List.map_cons, List.map_nil, hx', hy', hrun]
  rw [hexec];have hkeep : Keep (fun b => O n b) W W' := grown_keep hgrow hob;have hvb : ∀ b, v'.ownBlock = some b → (O n b ∨ W.heap.size ≤ b) ∧ b < W'.heap.size := by
    intro b hb;exact ⟨(hblk b hb).imp (hob b) id, (hown'.lt b hb).2⟩
  obtain ⟨O', hst'⟩ := hst.replace (y := .row r E size (els ++ els2)) (v := v') (Or := fun b => v'.ownBlock = some b) k hkk hkeep hvb hrV (by
    simp only [NEnt.name, NEnt.holds, setEnv_same];refine ⟨fun el he => (List.mem_append.1 he).elim (hs el) (hs2 el), cells ++ us, by simpa using hown', fun b hb => hb, fun q d hq => ?_⟩;have hRk : ∀ b, R b → R b ∧ W'.heap[b]? = W.heap[b]? := fun b hb => ⟨hb, hkeep.block b (hst.ro b hb).1 (fun ho => (hst.own _ hxm b ho).2.2 hb)⟩
    have hfl := flatten_len els hs;have hcl : cells.length = els.length * size := hown.1;rw [List.flatten_append] at hq;rcases Nat.lt_or_ge q els.flatten.length with hlt | hge
    · rw [List.getElem?_append_left hlt] at hq;obtain ⟨u, hu, hok', h1⟩ := hcd q d hq;exact ⟨u, by rw [List.getElem?_append_left (by omega)]; exact hu, d.mono W W' R R hRk u hok', h1⟩
    · rw [List.getElem?_append_right hge] at hq;obtain ⟨u, hu, hok'⟩ := hok _ d hq;exact ⟨u, by rw [List.getElem?_append_right (by omega), hcl, ← hfl]; exact hu, d.mono W W' R R hRk u hok', hone u (List.mem_of_getElem? hu)⟩)
  have hone' : oneOf v' = v' := by
    rcases hown'.2 with ⟨hv, _⟩ | ⟨g, cap, cur, hv, _⟩ <;> rw [hv] <;> rfl
  refine ⟨_, O', R, fun q hq => ?_, ?_, hst'.sub (V' := [.row r E size (els ++ els2)] ++ delV [n] V) id (fun z hz => ?_) ?_⟩
  · refine setEnv_other fun e => ?_
    by_cases h : r ∈ [n]
    · simp only [List.mem_singleton] at h;rw [h] at hrn; simp at hrn
    · exact hq _ (List.mem_singleton.2 rfl) (by simpa [NEnt.name] using h) (by simpa [NEnt.name] using e)
  · show v' = oneOf (setEnv env r v' r);rw [setEnv_same, hone']
  · rw [NEnt.ren_id];rcases List.mem_append.1 hz with hz | hz
    · exact List.mem_cons.2 (.inl (List.mem_singleton.1 hz))
    · obtain ⟨h1, h2⟩ := mem_delV.1 hz;refine List.mem_cons_of_mem _ ?_;obtain ⟨q, hq⟩ := List.mem_iff_getElem?.1 h1;have hqk : q ≠ k := fun e => by
        subst e; rw [hkk] at hq; cases hq; simp [NEnt.name] at h2
      refine List.mem_iff_getElem?.2 ?_;rcases Nat.lt_or_gt_of_ne hqk with hlt | hgt
      · exact ⟨q, by rw [List.getElem?_eraseIdx, if_pos hlt]; exact hq⟩
      · exact ⟨q - 1, by rw [List.getElem?_eraseIdx, if_neg (by omega), show q - 1 + 1 = q by omega]; exact hq⟩
  · simp only [id, List.cons_append, List.nil_append, List.map_cons, List.nodup_cons];refine ⟨fun hmm => ?_, hst.names.sublist ((delV_sub _ _).map NEnt.name)⟩;obtain ⟨z, hz, e⟩ := List.mem_map.1 hmm;have := mem_has (mem_delV.1 hz).1 (NEnt.has_name z);rw [e] at this;simp only [NEnt.name] at this;rw [hrV] at this; cases this
end
def VOk (ag : Bool) (ds : List D) (W : World) (R : Nat → Prop) (v : Value) : Prop :=
  ∃ cs : List Value, v.cells = cs.toArray ∧ (v = if ag then .agg cs.toArray else cs.headD undef) ∧ cs.length = ds.length ∧ ∀ (j : Nat) (d : D), ds[j]? = some d → ∃ u : Value, cs[j]? = some u ∧ d.ok W R u ∧ u.oneCell' = true
theorem VOk.keep {ag : Bool} {ds : List D} {W W' : World} {R R' : Nat → Prop} {v : Value} (hm : ∀ b, R b → R' b ∧ W'.heap[b]? = W.heap[b]?) (h : VOk ag ds W R v) : VOk ag ds W' R' v := by
  obtain ⟨cs, h1, h2, h3, h4⟩ := h;exact ⟨cs, h1, h2, h3, fun j d hj => by obtain ⟨u, g1, g2, g3⟩ := h4 j d hj; exact ⟨u, g1, d.mono W W' R R' hm u g2, g3⟩⟩
inductive EsOk {κ ν : Type} (ek : κ → Value) (ag : Bool) (ev : ν → List D) (W : World) (R : Nat → Prop) : List MapEntry → List (κ × ν) → Prop where
  | nil : EsOk ek ag ev W R [] []
  | cons {e : MapEntry} {x : κ × ν} {es xs} : e.key = ek x.1 → VOk ag (ev x.2) W R e.val → EsOk ek ag ev W R es xs → EsOk ek ag ev W R (e :: es) (x :: xs)
section
variable {κ ν : Type} {ek : κ → Value} {ag : Bool} {ev : ν → List D} {W W' : World} {R R' : Nat → Prop}
theorem EsOk.keep (hm : ∀ b, R b → R' b ∧ W'.heap[b]? = W.heap[b]?) {es : List MapEntry} {xs : List (κ × ν)} (h : EsOk ek ag ev W R es xs) : EsOk ek ag ev W' R' es xs := by
  induction h with
  | nil => exact .nil
  | cons h1 h2 _ ih => exact .cons h1 (h2.keep hm) ih
theorem EsOk.keys {es : List MapEntry} {xs : List (κ × ν)} (h : EsOk ek ag ev W R es xs) : es.map (·.key) = (xs.map (·.1)).map ek := by
  induction h with
  | nil => rfl
  | cons h1 _ _ ih => simp [h1, ih]
theorem EsOk.len {es : List MapEntry} {xs : List (κ × ν)} (h : EsOk ek ag ev W R es xs) : es.length = xs.length := by
  induction h with
  | nil => rfl
  | cons _ _ _ ih => simp [ih]
theorem EsOk.at {es : List MapEntry} {xs : List (κ × ν)} (h : EsOk ek ag ev W R es xs) : ∀ {i : Nat} {x : κ × ν}, xs[i]? = some x → ∃ e, es[i]? = some e ∧ e.key = ek x.1 ∧ VOk ag (ev x.2) W R e.val := by
  induction h with
  | nil => intro i x hi; simp at hi
  | cons h1 h2 _ ih =>
    intro i x hi
    cases i with
    | zero => simp at hi; subst hi; exact ⟨_, rfl, h1, h2⟩
    | succ i => exact ih (by simpa using hi)
theorem EsOk.snoc {es : List MapEntry} {xs : List (κ × ν)} (h : EsOk ek ag ev W R es xs) {e : MapEntry} {x : κ × ν} (h1 : e.key = ek x.1) (h2 : VOk ag (ev x.2) W R e.val) : EsOk ek ag ev W R (es ++ [e]) (xs ++ [x]) := by
  induction h with
  | nil => exact .cons h1 h2 .nil
  | cons g1 g2 _ ih => exact .cons g1 g2 ih
theorem EsOk.set {es : List MapEntry} {xs : List (κ × ν)} (h : EsOk ek ag ev W R es xs) : ∀ (i : Nat) {e : MapEntry} {x : κ × ν}, e.key = ek x.1 → VOk ag (ev x.2) W R e.val → EsOk ek ag ev W R (es.set i e) (xs.set i x) := by
  induction h with
  | nil => intro i e x _ _; exact .nil
  | cons g1 g2 g3 ih =>
    intro i e x h1 h2
    cases i with
    | zero => exact .cons h1 h2 g3
    | succ i => exact .cons g1 g2 (ih i h1 h2)
theorem EsOk.erase {es : List MapEntry} {xs : List (κ × ν)} (h : EsOk ek ag ev W R es xs) : ∀ (i : Nat), EsOk ek ag ev W R (es.eraseIdx i) (xs.eraseIdx i) := by
  induction h with
  | nil => intro i; exact .nil
  | cons g1 g2 g3 ih =>
    intro i
    cases i with
    | zero => exact g3
    | succ i => exact .cons g1 g2 (ih i)
end
def BornOk (es : List MapEntry) (cl : Nat) : Prop := (es.map (·.born)).Nodup ∧ ∀ b ∈ es.map (·.born), b < cl
theorem BornOk.nil (cl : Nat) : BornOk [] cl := ⟨by simp, by simp⟩
theorem BornOk.push {es : List MapEntry} {cl : Nat} (h : BornOk es cl) {e : MapEntry} (he : e.born = cl) : BornOk (es ++ [e]) (cl + 1) := by
  refine ⟨?_, fun b hb => ?_⟩
  · rw [List.map_append, List.nodup_append];refine ⟨h.1, by simp, fun x hx y hy => ?_⟩;have := h.2 x hx;simp only [List.map_cons, List.map_nil, List.mem_singleton] at hy
    omega
  · rw [List.map_append, List.mem_append] at hb;rcases hb with hb | hb
    · have := h.2 b hb; omega
    · simp only [List.map_cons, List.map_nil, List.mem_singleton] at hb; omega
theorem BornOk.same {es es' : List MapEntry} {cl : Nat} (h : BornOk es cl) (he : es'.map (·.born) = es.map (·.born)) : BornOk es' cl := by unfold BornOk; rw [he]; exact h
theorem BornOk.erase {es : List MapEntry} {cl : Nat} (h : BornOk es cl) (j : Nat) : BornOk (es.eraseIdx j) cl := by
  have hs : ((es.eraseIdx j).map (·.born)).Sublist (es.map (·.born)) := (List.eraseIdx_sublist _ _).map _;exact ⟨h.1.sublist hs, fun b hb => h.2 b (hs.subset hb)⟩
def mfind {κ ν : Type} [BEq κ] (xs : List (κ × ν)) (k : κ) : Option Nat := (xs.map (·.1)).findIdx? (· == k)
def mlook {κ ν : Type} [BEq κ] (xs : List (κ × ν)) (k : κ) : Option ν := (mfind xs k).bind fun i => (xs[i]?).map (·.2)
def mput {κ ν : Type} [BEq κ] (xs : List (κ × ν)) (k : κ) (v : ν) : List (κ × ν) := match mfind xs k with
  | some i => xs.set i (k, v)
  | none => xs ++ [(k, v)]
section
variable {κ ν : Type} [BEq κ]
theorem mfind_cons (x : κ × ν) (xs : List (κ × ν)) (k : κ) : mfind (x :: xs) k = if x.1 == k then some 0 else (mfind xs k).map (· + 1) := by
  simp only [mfind, List.map_cons, List.findIdx?_cons]
theorem mlook_nil (k : κ) : mlook ([] : List (κ × ν)) k = none := rfl
theorem mlook_cons (x : κ × ν) (xs : List (κ × ν)) (k : κ) : mlook (x :: xs) k = if x.1 == k then some x.2 else mlook xs k := by
  simp only [mlook, mfind_cons]
  by_cases h : (x.1 == k) = true
  · simp [h]
  · simp only [h, if_false, Bool.false_eq_true];cases mfind xs k <;> simp
theorem mput_nil (k : κ) (v : ν) : mput ([] : List (κ × ν)) k v = [(k, v)] := rfl
theorem mput_cons (x : κ × ν) (xs : List (κ × ν)) (k : κ) (v : ν) : mput (x :: xs) k v = if x.1 == k then (k, v) :: xs else x :: mput xs k v := by
  simp only [mput, mfind_cons]
  by_cases h : (x.1 == k) = true
  · simp [h]
  · simp only [h, if_false, Bool.false_eq_true];cases mfind xs k <;> simp
variable [LawfulBEq κ]
theorem filter_ne {xs : List (κ × ν)} {k : κ} (h : k ∉ xs.map (·.1)) : xs.filter (fun x => !(x.1 == k)) = xs := by
  rw [List.filter_eq_self];intro x hx;have : x.1 ≠ k := fun e => h (e ▸ List.mem_map.2 ⟨x, hx, rfl⟩)
  simpa using this
theorem mlook_iff {xs : List (κ × ν)} (nd : (xs.map (·.1)).Nodup) (k : κ) (v : ν) : mlook xs k = some v ↔ (k, v) ∈ xs := by
  induction xs with
  | nil => simp [mlook_nil]
  | cons x xs ih =>
    obtain ⟨a, b⟩ := x;rw [List.map_cons, List.nodup_cons] at nd;rw [mlook_cons]
    by_cases h : a = k
    · subst h;have : ∀ w, (a, w) ∉ xs := fun w hw => nd.1 (List.mem_map.2 ⟨_, hw, rfl⟩)
      simp only [BEq.rfl, if_true, Option.some.injEq, List.mem_cons, Prod.mk.injEq, true_and, this, or_false];exact eq_comm
    · have h2 : (a == k) = false := by simpa using h
      simp only [h2, Bool.false_eq_true, if_false, ih nd.2, List.mem_cons, Prod.mk.injEq]
      constructor
      · exact .inr
      · rintro (⟨e, _⟩ | h3)
        · exact absurd e.symm h
        · exact h3
theorem mlook_perm {xs ys : List (κ × ν)} (p : ys.Perm xs) (nd : (ys.map (·.1)).Nodup) (k : κ) : mlook ys k = mlook xs k := by
  apply Option.ext;intro v;rw [mlook_iff nd, mlook_iff ((p.map _).nodup_iff.1 nd), p.mem_iff]
theorem mput_filter {xs : List (κ × ν)} (nd : (xs.map (·.1)).Nodup) (k : κ) (v : ν) : (mput xs k v).Perm ((k, v) :: xs.filter fun x => !(x.1 == k)) := by
  induction xs with
  | nil => exact .refl _
  | cons x xs ih =>
    obtain ⟨a, b⟩ := x;rw [List.map_cons, List.nodup_cons] at nd;rw [mput_cons]
    by_cases h : a = k
    · subst h;simp only [BEq.rfl, if_true, List.filter_cons, Bool.not_true, Bool.false_eq_true, if_false, filter_ne nd.1];exact .refl _
    · have h2 : (a == k) = false := by simpa using h
      simp only [h2, Bool.false_eq_true, if_false, List.filter_cons, Bool.not_false, if_true];exact ((ih nd.2).cons _).trans (.swap _ _ _)
theorem nodup_put {xs : List (κ × ν)} (nd : (xs.map (·.1)).Nodup) (k : κ) (v : ν) : ((mput xs k v).map (·.1)).Nodup := by
  rw [((mput_filter nd k v).map (·.1)).nodup_iff, List.map_cons, List.nodup_cons];refine ⟨fun h => ?_, nd.sublist (List.filter_sublist.map _)⟩;obtain ⟨x, hx, e⟩ := List.mem_map.1 h;have := (List.mem_filter.1 hx).2;simp only at e;rw [e] at this;simp at this
theorem mput_perm {xs ys : List (κ × ν)} (p : ys.Perm xs) (nd : (ys.map (·.1)).Nodup) (k : κ) (v : ν) : (mput ys k v).Perm (mput xs k v) :=
  (mput_filter nd k v).trans (((p.filter _).cons _).trans (mput_filter ((p.map _).nodup_iff.1 nd) k v).symm)
end
def MapOk {κ ν : Type} (es : List MapEntry) (cl : Nat) (ys xs : List (κ × ν)) : Prop := ys.Perm xs ∧ (ys.map (·.1)).Nodup ∧ BornOk es cl
def mapI {κ ν : Type} (ek : κ → Value) (ag : Bool) (ev : ν → List D) (xs : List (κ × ν)) : Inv :=
  ⟨fun W O R v => ∃ r clock es ys, v = .map (some r) ∧ O r ∧ W.heap[r]? = some (.map es clock) ∧ EsOk ek ag ev W R es.toList ys ∧ MapOk es.toList clock ys xs,
   fun W W' O R R' hO hR v ⟨r, cl, es, ys, h1, h2, h3, h4, h5⟩ => ⟨r, cl, es, ys, h1, h2, (hO r h2).trans h3, h4.keep hR, h5⟩⟩
structure MKey (P : Program) (M K V : TypeId) {κ : Type} [BEq κ] (ek : κ → Value) : Prop where
  under : P.underlying M = some (.map K V)
  check : ∀ b k w, (Instr.checkKey b 10000 K (ek k)).run P w = .ok () w
  find : ∀ (k : κ) (es : List MapEntry) (ks : List κ) (w : World), es.map (·.key) = ks.map ek → (Instr.findKey K (ek k) es).run P w = .ok ((ks.findIdx? (· == k)).bind fun i => (es[i]?).map fun e => (i, e.val)) w
  stay : ∀ k w, (Instr.keyThatStays (ek k) (ek k)).run P w = .ok (ek k) w
  eq : ∀ (ks : List κ) k i x, ks.findIdx? (· == k) = some i → ks[i]? = some x → ek x = ek k
def IsMapE {κ ν : Type} (x : NEnt) (n : Nat) (ek : κ → Value) (ag : Bool) (ev : ν → List D) (xs : List (κ × ν)) : Prop := x = .inv n (mapI ek ag ev xs) ∨ x = .any n (mapI ek ag ev xs).froz
theorem isMapO {κ ν : Type} {n : Nat} {ek : κ → Value} {ag : Bool} {ev : ν → List D} {xs : List (κ × ν)} : IsMapE (.inv n (mapI ek ag ev xs)) n ek ag ev xs := .inl rfl
theorem map_read {κ ν : Type} {x : NEnt} {n : Nat} {ek : κ → Value} {ag : Bool} {ev : ν → List D} {xs : List (κ × ν)} {env : Env} {W : World} {O R : Nat → Prop} (hx : IsMapE x n ek ag ev xs) (h : x.holds env W O R) :
    ∃ r clock es ys, env n = .map (some r) ∧ W.heap[r]? = some (.map es clock) ∧ EsOk ek ag ev W R es.toList ys ∧ MapOk es.toList clock ys xs := by
  rcases hx with rfl | rfl
  · obtain ⟨r, cl, es, ys, h1, _, h3, h4⟩ := h; exact ⟨r, cl, es, ys, h1, h3, h4⟩
  · obtain ⟨_, _, r, cl, es, ys, h1, _, h3, h4⟩ := h; exact ⟨r, cl, es, ys, h1, h3, h4⟩
section
variable {P : Program} {o : Oper} {ρ : Operand → Option AV}
theorem sp_makeMap {κ ν : Type} {M : TypeId} (n : Nat) {ek : κ → Value} {ag : Bool} {ev : ν → List D} (xs : List (κ × ν)) (hx : xs = []) (ho : o.op = .makeMap M none) : OpSpec P o ρ [] (.ref n) [.inv n (mapI ek ag ev xs)] := by
  subst hx;intro evl env W O R he _ _ hR;have : (execOp evl o).run P W = .ok (.value (.map (some W.heap.size))) (W.alloc (.map #[] 0)) := by
    simp [execOp, ho, Instr.makeMap, run_newObj_alloc]
  rw [this];refine ⟨setEnv env n (.map (some W.heap.size)), fun _ b => b = W.heap.size, R, fun m hm => setEnv_other (hm (.inv n (mapI ek ag ev [])) (by simp)), by simp [AV.den, setEnv_same, oneOf], ?_⟩;refine St.fresh (keep_alloc W _) hR ?_ (fun b hb => by subst hb; simp);simp only [NEnt.holds, setEnv_same];exact ⟨_, 0, #[], [], rfl, rfl, World.alloc_heap_new W _, .nil, .refl _, List.nodup_nil, BornOk.nil 0⟩
theorem getObj_map {W : World} {r cl : Nat} {es : Array MapEntry} (h : W.heap[r]? = some (.map es cl)) : (getObj r).run P W = .ok (.map es cl) W := by simp [getObj, Sem.run, h]
theorem setObj_map {W : World} {r cl : Nat} {es : Array MapEntry} (o' : Obj) (h : W.heap[r]? = some (.map es cl)) : (setObj r o').run P W = .ok () (W.putObj r o') := by simp [setObj, Sem.run, h, World.putObj]
theorem look_val {κ ν : Type} [BEq κ] {M K V : TypeId} {ek : κ → Value} {ag : Bool} {ev : ν → List D} {xs : List (κ × ν)} {W : World} {R : Nat → Prop} {r cl : Nat} {es : Array MapEntry} (hk : MKey P M K V ek) (h : W.heap[r]? = some (.map es cl)) (hes : EsOk ek ag ev W R es.toList xs) (k : κ) (dflt : ν)
    {z : Value} (hz : ∀ w, (zeroValue V).run P w = .ok z w) (hzo : VOk ag (ev dflt) W R z) (cm : Bool) : ∃ v, VOk ag (ev ((mlook xs k).getD dflt)) W R v ∧ (Instr.lookup M (.map (some r)) (ek k) cm).run P W = .ok (if cm then .tuple #[v, .bool (mlook xs k).isSome] else v) W := by
  have hf := hk.find k es.toList (xs.map (·.1)) W hes.keys
  cases hm : (xs.map (·.1)).findIdx? (· == k) with
  | none =>
    refine ⟨z, by simpa [mlook, mfind, hm] using hzo, ?_⟩;rw [hm] at hf;simp only [Instr.lookup, Sem.run_bind, run_underlying hk.under, Result.andThen_ok, getObj_map h, Sem.run_pure, hk.check, hf, Option.bind_none, hz];simp [mlook, mfind, hm]
  | some i =>
    have hlt : i < xs.length := by
      have := (List.findIdx?_eq_some_iff_getElem.1 hm).1; simpa using this
    obtain ⟨e, he, _, hv⟩ := hes.at (i := i) (x := xs[i]) (by simp [hlt]);have hml : mlook xs k = some xs[i].2 := by simp [mlook, mfind, hm, hlt]
    refine ⟨e.val, by rw [hml]; exact hv, ?_⟩;rw [hm] at hf;simp only [Option.bind_some, he, Option.map_some] at hf;simp only [Instr.lookup, Sem.run_bind, run_underlying hk.under, Result.andThen_ok, getObj_map h, Sem.run_pure, hk.check, hf, hml, Option.isSome_some]
def AV.isAgg : AV → Bool
  | .agg _ => true
  | _ => false
end
section
variable {P : Program} {s : List (Nat × AV)} {o : Oper}
end
end Go.Proofs.Ythgbjhglhejalaa.Sy
end
section
set_option linter.unusedSimpArgs false
set_option linter.unusedVariables false
namespace Go.Proofs.Ythgbjhglhejalaa.Sy
open Go.RowKit
section
variable {P : Program} {o : Oper} {ρ : Operand → Option AV}
theorem sp_indexAR {T E : TypeId} {size len n k rs q : Nat} {ag : Bool} {x i : Operand} {kk : IntKind} {iv : Int} {els : List (List D)} {el : List D} {y : NEnt} (ho : o.op = .indexAddr T x i) (hx : ρ x = some (.cell n k)) (hi : ρ i = some (.val (.int kk iv))) (hy : IsRow y n rs els) (hT : P.underlying T = some (.array len E)) (hE : VarT P E size ag)
    (h0 : (decide (0 ≤ iv) && decide (iv < len)) = true) (he : els[q]? = some el) (h1 : el ≠ []) : OpSpec P o ρ [y] (.cell n (k + iv.toNat * size)) [] :=
  .pure fun ev env W O R hev hn => by
    obtain ⟨ad, cap, g1, g2, g3, g4, g5⟩ := row_read hy (hn _ (List.mem_singleton.2 rfl));obtain ⟨d, hd⟩ : ∃ d, el[0]? = some d := by cases el with | nil => exact absurd rfl h1 | cons d l => exact ⟨d, rfl⟩
    obtain ⟨b, o', ha, _⟩ := (g5 q el he).2 0 d hd;subst ha;simp only [Bool.and_eq_true, decide_eq_true_eq] at h0;simp [execOp, ho, hev x _ hx, hev i _ hi, AV.den, cellAt_eq g1, Instr.indexAt, asIntOf, run_underlying hT, Instr.sureAddr, hE.sizeOf, h0.1, h0.2, add_lit, Nat.add_assoc]
end
section
variable {P : Program} {o : Oper} {ρ : Operand → Option AV}
end
section
variable {P : Program} {o : Oper} {ρ : Operand → Option AV}
end
section
variable {P : Program} {c : Ctx} {sz : Fm} {Q : Exit → Act → World → Prop} {t : List Item} {s : List (Nat × AV)} {V : List NEnt}
end
section
variable {P : Program} {o : Oper} {ρ : Operand → Option AV}
end
section
variable {P : Program} {c : Ctx} {sz : Fm} {Q : Exit → Act → World → Prop} {t : List Item} {s : List (Nat × AV)} {V : List NEnt} {ops : Array Oper} {rest : List Oper}
end
theorem FT.fnArg {P : Program} {α β : Type} {enc : α → List AV} {dec : β → AV} {F : α → Option β} {f g k : Nat} (i : Nat) {args first caps : List AV} {take needC need news : List NEnt} {v : AV} (h : FT P f args take (.any k (D.fn P enc dec F) :: need) v news)
    (hi : args[i]? = some (.ref k)) (hcall : ∀ args w, (callFunc g args).run P w = .ok (.enter g args) w) (hc : ∀ a b, F a = some b → FC P g (first ++ enc a ++ caps) needC (dec b) [])
    (hro : needC.all NEnt.isRoB = true) (henc : ∀ a, (AV.nsL (enc a)).isEmpty = true) (hdec : ∀ b, noName (dec b) = true)
    (hk : (args.zipIdx.all fun p => p.2 == i || !p.1.has k) = true) (hk2 : hasV k needC = false) (hk3 : hasV k need = false) (hk4 : v.has k = false) (hk5 : hasV k news = false) (hk6 : AV.hasL k first = false) (hk7 : AV.hasL k caps = false) (hk8 : hasV k take = false) :
    FT P f (args.set i (.fn g first caps)) take (needC ++ need) v news := by
  intro env w0 M O R0 hst hnd;have hval : AV.denL env (args.set i (.fn g first caps)) = AV.denL (setEnv env k ((AV.fn g first caps).den env)) args := by
    simp only [AV.denL_map];apply List.ext_getElem?;intro j;simp only [List.getElem?_map, List.getElem?_set]
    split
    · rename_i e; subst e
      rw [if_pos (List.getElem?_eq_some_iff.1 hi).1, hi];simp [AV.den, setEnv_same, oneOf]
    · rename_i e
      cases ha : args[j]? with
      | none => rfl
      | some a =>
        have hm : (a, j) ∈ args.zipIdx := List.mem_iff_getElem?.2 ⟨j, by rw [List.getElem?_zipIdx, ha]; simp⟩;have := List.all_eq_true.1 hk (a, j) hm;simp only [Bool.or_eq_true, beq_iff_eq, Bool.not_eq_true'] at this;rcases this with e' | this
        · exact absurd e'.symm e
        · simp only [Option.map_some, Option.some.injEq];exact AV.den_congr a fun n hn => (setEnv_other fun e => by subst e; rw [this] at hn; cases hn).symm
  rw [hval];have hnC : ∀ x ∈ needC, x.holds env w0 (fun _ => False) R0 := fun x hx => (hnd x (by simp [hx])).2
  have hst' : St ⟨w0, M, R0⟩ (setEnv env k ((AV.fn g first caps).den env)) take w0 O R0 := ⟨hst.keep, fun x hx => NEnt.holds_congr (fun n hn' => (setEnv_other fun e => by subst e; rw [hasV_mem hk8 hx] at hn'; cases hn').symm) (hst.holds x hx), hst.own, hst.apart, hst.ro, hst.r0, hst.names⟩;refine (h (setEnv env k ((AV.fn g first caps).den env)) w0 M O R0 hst' (fun x hx => ?_)).mono ?_
  · rcases List.mem_cons.1 hx with rfl | hx
    · refine ⟨rfl, g, (AV.denL env first).toArray, (AV.denL env caps).toArray, by simp [setEnv_same, AV.den], hcall, fun a b hab env' W' R' hr hs => ?_⟩;have hcalls := hc a b hab env W' R' (fun x hx => ro_holds (List.all_eq_true.1 hro x hx) (NEnt.holds_keep (fun _ h => h.elim) hr (hnC x hx)) _) hs;rw [denL_append, denL_append, denL_noName (henc a) env env'] at hcalls;simp only [← List.append_toArray] at hcalls;refine hcalls.mono ?_
      rintro e W2 ⟨u, he, env2, O2, R2, g1, g2, g3⟩
      refine ⟨u, he, env', fun _ _ => False, R2, fun _ _ => rfl, by rw [g2]; exact den_noName (hdec b) _ _, ⟨g3.keep, by simp, by simp, by simp, g3.ro, g3.r0, by simp⟩⟩
    · exact ⟨(hnd x (by simp [hx])).1, NEnt.holds_congr (fun n hn' => (setEnv_other fun e => by subst e; rw [hasV_mem hk3 hx] at hn'; cases hn').symm) (hnd x (by simp [hx])).2⟩
  rintro e W' ⟨u, he, env', O', R', h1, h2, hst2⟩
  have hcn : ∀ n, n ≠ k → setEnv env' k (env k) n = env' n := fun n hne => setEnv_other (Ne.symm hne)
  refine ⟨u, he, setEnv env' k (env k), O', R', fun n hn' => ?_, ?_, hst2.keep, fun x hx => ?_, hst2.own, hst2.apart, hst2.ro, hst2.r0, hst2.names⟩
  · by_cases e : n = k
    · subst e; rw [setEnv_same]
    · rw [hcn n e, h1 n hn', setEnv_other (Ne.symm e)]
  · rw [h2];exact AV.den_congr v fun n hn' => (hcn n fun e => by subst e; rw [hk4] at hn'; cases hn').symm
  · exact NEnt.holds_congr (fun n hn' => (hcn n fun e => by subst e; rw [hasV_mem hk5 hx] at hn'; cases hn').symm) (hst2.holds x hx)
end Go.Proofs.Ythgbjhglhejalaa.Sy
end
section
set_option linter.unusedSimpArgs false
set_option linter.unusedVariables false
namespace Go.Proofs.Ythgbjhglhejalaa.Sy
open Go.RowKit
inductive ZL : List Value → List D → Prop where
  | nil : ZL [] []
  | v {x : Value} {l m} : x.oneCell' = true → ZL l m → ZL (x :: l) (D.v x :: m)
  | s {size l m} : ZL l m → ZL (.slice none 0 0 :: l) (D.s size [] :: m)
theorem ZL.ok {cs : List Value} {ds : List D} (h : ZL cs ds) (W : World) (R : Nat → Prop) : cs.length = ds.length ∧ ∀ (j : Nat) (d : D), ds[j]? = some d → ∃ u : Value, cs[j]? = some u ∧ d.ok W R u ∧ u.oneCell' = true := by
  induction h with
  | nil => exact ⟨rfl, fun j d hj => by simp at hj⟩
  | v hx _ ih =>
    refine ⟨by simp [ih.1], fun j d hj => ?_⟩
    cases j with
    | zero => simp at hj; subst hj; exact ⟨_, rfl, rfl, hx⟩
    | succ j => simpa using ih.2 j d (by simpa using hj)
  | s _ ih =>
    refine ⟨by simp [ih.1], fun j d hj => ?_⟩
    cases j with
    | zero => simp at hj; subst hj; exact ⟨_, rfl, ⟨none, 0, rfl, Nat.le_refl _, Nat.zero_le _, fun _ => rfl, fun i el hi => by simp at hi⟩, rfl⟩
    | succ j => simpa using ih.2 j d (by simpa using hj)
theorem findNow_struct {fs : Array Field} (k : Value) (es : List MapEntry) (i : Nat) : Instr.findNow (.struct fs) k es i = if es = [] then some none else none := by
  cases es with
  | nil => rfl
  | cons e es =>
    simp only [Instr.findNow];have : Instr.sameNow (.struct fs) k e.key = none := by unfold Instr.sameNow; rfl
    simp [this]
section
variable {P : Program} {c : Ctx} {sz : Fm} {Q : Exit → Act → World → Prop} {t : List Item} {s : List (Nat × AV)} {V : List NEnt}
end
end Go.Proofs.Ythgbjhglhejalaa.Sy
end
section
set_option linter.unusedSimpArgs false
set_option linter.unusedVariables false
namespace Go.Proofs.Ythgbjhglhejalaa.Sy
open Go.RowKit
section
variable {P : Program} {o : Oper} {ρ : Operand → Option AV}
theorem arr_get {X : Type} {enc : X → List AV} {s : Nat} (hl : ∀ x, (enc x).length = s) (h0 : Nat.blt 0 s = true) {cells pre post : List AV} {xs : List X} {i j : Nat} {x : X} {a : AV} (hc : cells = pre ++ xs.flatMap enc ++ post) (hx : xs[i]? = some x) (hj : (enc x)[j]? = some a) : cells[pre.length + (i * s + j)]? = some a := by
  subst hc;have hjs : j < s := by rw [← hl x]; exact (List.getElem?_eq_some_iff.1 hj).1
  have hf := flatten_get (xs.map enc) (size := s) i j (enc x) (by intro q hq; obtain ⟨z, _, rfl⟩ := List.mem_map.1 hq; exact hl z) (by simp [hx]) hjs;rw [List.append_assoc, List.getElem?_append_right (by omega), Nat.add_sub_cancel_left];have e : xs.flatMap enc = (xs.map enc).flatten := by rw [List.flatMap_def]
  rw [e];have hlt : i * s + j < (xs.map enc).flatten.length := by
    have h2 : (xs.map enc).flatten[i * s + j]? = some a := hf.trans hj;exact (List.getElem?_eq_some_iff.1 h2).1
  rw [List.getElem?_append_left hlt, hf, hj]
end
end Go.Proofs.Ythgbjhglhejalaa.Sy
end
section
set_option linter.unusedSimpArgs false
set_option linter.unusedVariables false
namespace Go.Proofs.Ythgbjhglhejalaa.Sy
open Go.RowKit
theorem map_take {α β : Type} (xs : List α) (f : α → β) (h : Nat) : (xs.map f).take h = (xs.take h).map f := by simp [List.map_take]
section
variable {P : Program} {o : Oper} {s : List (Nat × AV)}
end
end Go.Proofs.Ythgbjhglhejalaa.Sy
end
section
set_option linter.unusedSimpArgs false
set_option linter.unusedVariables false
namespace Go.Proofs.Ythgbjhglhejalaa.Sy
open Go.RowKit
theorem erase_perm {α : Type} : ∀ {l : List α} {j : Nat} (hj : j < l.length), (l[j] :: l.eraseIdx j).Perm l := by
  intro l
  induction l with
  | nil => intro j hj; simp at hj
  | cons a l ih =>
    intro j hj
    cases j with
    | zero => exact .refl _
    | succ j =>
      simp only [List.getElem_cons_succ, List.eraseIdx_cons_succ];exact (List.Perm.swap _ _ _).trans ((ih (by simpa using hj)).cons a)
theorem perm_idx {α : Type} {ys xs : List α} (p : ys.Perm xs) {j : Nat} (hj : j < ys.length) : ∃ (i : Nat) (hi : i < xs.length), xs[i] = ys[j] ∧ (ys.eraseIdx j).Perm (xs.eraseIdx i) := by
  obtain ⟨i, hi, e⟩ := List.getElem_of_mem (p.mem_iff.1 (List.getElem_mem hj));refine ⟨i, hi, e, ?_⟩;have h1 := erase_perm hj;have h2 := erase_perm hi;rw [e] at h2;exact (h1.trans (p.trans h2.symm)).cons_inv
def unseen (es : Array MapEntry) (seen : Array Nat) : List MapEntry := es.toList.filter fun e => !seen.contains e.born
theorem erase_filter {α : Type} [DecidableEq α] {f : MapEntry → α} : ∀ {l : List MapEntry}, (l.map f).Nodup → ∀ (j : Nat) (hj : j < l.length), l.filter (fun e => !(f e == f l[j])) = l.eraseIdx j := by
  intro l
  induction l with
  | nil => intro _ j hj; simp at hj
  | cons a l ih =>
    intro hn j hj;rw [List.map_cons, List.nodup_cons] at hn
    cases j with
    | zero =>
      simp only [List.getElem_cons_zero, List.filter_cons, BEq.rfl, Bool.not_true, Bool.false_eq_true, if_false, List.eraseIdx_zero, List.tail_cons];rw [List.filter_eq_self];intro x hx;have : f x ≠ f a := fun h => hn.1 (h ▸ List.mem_map.2 ⟨x, hx, rfl⟩)
      simpa using this
    | succ j =>
      simp only [List.length_cons, Nat.add_lt_add_iff_right] at hj;simp only [List.getElem_cons_succ, List.eraseIdx_cons_succ, List.filter_cons];have : f a ≠ f l[j] := fun h => hn.1 (h ▸ List.mem_map.2 ⟨_, List.getElem_mem hj, rfl⟩)
      have h2 : (f a == f l[j]) = false := by simpa using this
      simp only [h2, Bool.not_false, if_true, ih hn.2 j hj]
theorem unseen_push {es : Array MapEntry} {seen : Array Nat} (hn : (es.toList.map (·.born)).Nodup) (j : Nat) (hj : j < (unseen es seen).length) : unseen es (seen.push ((unseen es seen)[j]).born) = (unseen es seen).eraseIdx j := by
  refine Eq.trans ?_ (erase_filter (f := MapEntry.born) (l := unseen es seen) (hn.sublist (List.filter_sublist.map _)) j hj)
  generalize ((unseen es seen)[j]).born = q
  simp only [unseen, List.filter_filter]
  congr 1
  funext e
  rw [Array.contains_push];cases seen.contains e.born <;> cases h : (e.born == q) <;> rfl
def mitI {κ ν : Type} (ek : κ → Value) (ag : Bool) (ev : ν → List D) (left : List (κ × ν)) (cur : Option (κ × ν)) : Inv :=
  ⟨fun W O R v => ∃ it m seen cl es ys, v = .pointer (some ⟨it, 0, none⟩) ∧ O it ∧ W.heap[it]? = some (.mapIter (some m) cl seen cl) ∧ R m ∧ W.heap[m]? = some (.map es cl) ∧ BornOk es.toList cl ∧ EsOk ek ag ev W R (unseen es seen) ys ∧ ys.Perm left ∧
      ∀ x, cur = some x → ∃ e, seen.back? = some e.born ∧ e ∈ es.toList ∧ e.key = ek x.1 ∧ VOk ag (ev x.2) W R e.val,
   fun W W' O R R' hO hR v ⟨it, m, seen, cl, es, ys, h1, h2, h3, h4, h5, h6, h7, h8, h9⟩ => ⟨it, m, seen, cl, es, ys, h1, h2, (hO it h2).trans h3, (hR m h4).1, (hR m h4).2.trans h5, h6, h7.keep hR, h8,
      fun x hx => by obtain ⟨e, g1, g2, g3, g4⟩ := h9 x hx; exact ⟨e, g1, g2, g3, g4.keep hR⟩⟩⟩
def drawnW (W : World) (d : Nat) : World := { W with drawn := d }
theorem St.drawn {c : Ctx} {env : Env} {V : List NEnt} {W : World} {O : Nat → Nat → Prop} {R : Nat → Prop} (h : St c env V W O R) (d : Nat) : St c env V (drawnW W d) O R :=
  ⟨⟨h.keep.os, h.keep.tape, h.keep.output, h.keep.size, h.keep.block⟩, fun x hx => NEnt.holds_keep (W := W) (W' := drawnW W d) (fun _ _ => rfl) (fun _ hb => ⟨hb, rfl⟩) (h.holds x hx), h.own, h.apart, h.ro, h.r0, h.names⟩
theorem run_chooseNext {P : Program} {W : World} (n : Nat) (hn : 0 < n) : ∃ j d, j < n ∧ (choose (.mapNext n)).run P W = .ok j (drawnW W d) := by
  by_cases h : n ≤ 1
  · exact ⟨0, W.drawn, hn, by simp [choose, Sem.run, Question.forced, h, drawnW]⟩
  · refine ⟨W.tape W.drawn (.mapNext n) % n, W.drawn + 1, Nat.mod_lt _ hn, ?_⟩;simp only [choose, Sem.run, Question.forced, decide_eq_true_eq, h, if_false, Question.cut, drawnW]
section
variable {P : Program}
theorem run_nextMap {W : World} {it m cl T : Nat} {seen : Array Nat} {es : Array MapEntry} (h1 : W.heap[it]? = some (.mapIter (some m) cl seen cl)) (h2 : W.heap[m]? = some (.map es cl)) (hb : BornOk es.toList cl) :
    ∃ d, (unseen es seen = [] ∧ (Instr.next (.pointer (some ⟨it, 0, none⟩)) false T).run P W = .ok (.tuple #[.bool false]) (drawnW W d)) ∨
      ∃ (j : Nat) (hj : j < (unseen es seen).length), (Instr.next (.pointer (some ⟨it, 0, none⟩)) false T).run P W = .ok (.tuple #[.bool true, ((unseen es seen)[j]).key, ((unseen es seen)[j]).val]) ((drawnW W d).putObj it (.mapIter (some m) cl (seen.push ((unseen es seen)[j]).born) cl)) := by
  have hge : (es.all fun e => decide (e.born ≥ cl)) = true → es.isEmpty = true := by
    intro h
    by_cases h0 : es.toList = []
    · simpa using h0
    · obtain ⟨e, l, he⟩ := List.exists_cons_of_ne_nil h0;have := hb.2 e.born (by rw [he]; simp);rw [← Array.all_toList] at h;have h3 := List.all_eq_true.1 h e (by rw [he]; simp);simp at h3; omega
  have hpre : (!seen.isEmpty && !es.isEmpty && es.all fun e => decide (e.born ≥ cl)) = false := by
    cases h : (es.all fun e => decide (e.born ≥ cl))
    · simp
    · simp [hge h]
  have hg1 : (getObj it).run P W = .ok (.mapIter (some m) cl seen cl) W := by simp [getObj, Sem.run, h1]
  have hg2 : (getObj m).run P W = .ok (.map es cl) W := by simp [getObj, Sem.run, h2]
  obtain ⟨L, hL⟩ : ∃ L, L = es.filter fun e => !seen.contains e.born := ⟨_, rfl⟩
  have hLl : L.toList = unseen es seen := by rw [hL]; simp [unseen]
  have hold : L.filter (fun e => decide (e.born < cl)) = L := by
    apply Array.toList_inj.1;rw [Array.toList_filter, List.filter_eq_self];intro e he;rw [hLl] at he;have := hb.2 e.born (List.mem_map.2 ⟨e, (List.mem_filter.1 he).1, rfl⟩)
    simpa using this
  have hnew : L.filter (fun e => decide (e.born ≥ cl)) = #[] := by
    apply Array.toList_inj.1;rw [Array.toList_filter];show _ = [];rw [List.filter_eq_nil_iff];intro e he;rw [hLl] at he;have := hb.2 e.born (List.mem_map.2 ⟨e, (List.mem_filter.1 he).1, rfl⟩);simp; omega
  have hrun : (Instr.next (.pointer (some ⟨it, 0, none⟩)) false T).run P W = ((choose (.mapNext ((if L.isEmpty then #[none] else #[]) ++ (L ++ #[]).map some).size)).run P W).andThen fun i w =>
      (match ((if L.isEmpty then #[none] else #[]) ++ (L ++ #[]).map some)[i]? with
        | some (some e) => (do setObj it (.mapIter (some m) cl (seen.push e.born) cl); pure (.tuple #[.bool true, e.key, e.val]) : Sem Value)
        | some none => pure (.tuple #[.bool false])
        | none => stuck "Next: no such candidate").run P w := by
    simp only [Instr.next, Sem.run_bind, hg1, Result.andThen_ok, hg2, hpre, Bool.false_eq_true, if_false, Sem.run_pure, ← hL, hold, hnew]
    rfl
  by_cases h0 : unseen es seen = []
  · have hLe : L = #[] := Array.toList_inj.1 (by rw [hLl, h0]);subst hLe;obtain ⟨j, d, hj, hc⟩ := run_chooseNext (P := P) (W := W) 1 (by omega);have : j = 0 := by omega
    subst this;refine ⟨d, .inl ⟨h0, ?_⟩⟩;have hC : ((if (#[] : Array MapEntry).isEmpty then #[none] else #[]) ++ ((#[] : Array MapEntry) ++ #[]).map some) = #[none] := by simp
    rw [hrun, hC, show (#[none] : Array (Option MapEntry)).size = 1 from rfl, hc]
    rfl
  · have hLe : L.isEmpty = false := by
      cases h : L.isEmpty
      · rfl
      · exfalso; apply h0; rw [← hLl]; simpa using h
    have hsz : ((if L.isEmpty then #[none] else #[]) ++ (L ++ #[]).map some).size = L.size := by simp [hLe]
    have hpos : 0 < L.size := by
      rcases Nat.eq_zero_or_pos L.size with h | h
      · exfalso; apply h0; rw [← hLl]; exact List.eq_nil_of_length_eq_zero (by simpa using h)
      · exact h
    obtain ⟨j, d, hj, hc⟩ := run_chooseNext (P := P) (W := W) L.size hpos;have hju : j < (unseen es seen).length := by rw [← hLl]; simpa using hj
    have hLj : L[j]? = some (unseen es seen)[j] := by
      rw [← Array.getElem?_toList, hLl]; exact List.getElem?_eq_getElem hju
    refine ⟨d, .inr ⟨j, hju, ?_⟩⟩;have h1' : (drawnW W d).heap[it]? = some (.mapIter (some m) cl seen cl) := h1;rw [hrun, hsz, hc];simp only [Result.andThen_ok, hLe, Bool.false_eq_true, if_false, Array.empty_append, Array.append_empty, Array.getElem?_map, hLj, Option.map_some, Sem.run_bind];have hset : (setObj it (.mapIter (some m) cl (seen.push ((unseen es seen)[j]).born) cl)).run P (drawnW W d) = .ok () ((drawnW W d).putObj it (.mapIter (some m) cl (seen.push ((unseen es seen)[j]).born) cl)) := by
      simp [setObj, Sem.run, h1', World.putObj]
    simp only [hset, Result.andThen_ok, Sem.run_pure]
end
section
variable {P : Program} {o : Oper} {ρ : Operand → Option AV}
end
section
variable {P : Program} {c : Ctx} {sz : Fm} {Q : Exit → Act → World → Prop} {t : List Item} {s : List (Nat × AV)} {V : List NEnt} {ops : Array Oper} {rest : List Oper} {o1 o2 : Oper}
theorem TL.next {κ ν : Type} {n it d1 d2 : Nat} {ek : κ → Value} {ag : Bool} {ev : ν → List D} {left : List (κ × ν)} {cur : Option (κ × ν)} (i : Nat) (hi : V[i]? = some (.inv n (mitI ek ag ev left cur))) (ho1 : o1.op = .next (.tmp it) false) (hg1 : o1.guard = none) (hd1 : o1.dst = some d1)
    (hx : look s it = some (.ref n)) (ho2 : o2.op = .extract (.tmp d1) 0) (hg2 : o2.guard = none) (hd2 : o2.dst = some d2) (hn : look s d1 = none) (hl1 : Nat.blt d1 sz.sz = true) (hl2 : Nat.blt d2 sz.sz = true)
    (h0 : left = [] → TL P c sz Q ops rest t ((d2, .val (.bool false)) :: s) V)
    (h1 : ∀ (j : Nat) (hj : j < left.length), TL P c sz Q ops rest t ((d2, .val (.bool true)) :: s) (V.set i (.inv n (mitI ek ag ev (left.eraseIdx j) (some left[j]))))) :
    TL P c sz Q ops (o1 :: o2 :: rest) t s V := by
  intro env tm W O R hfr hst;rw [Nat.blt_eq] at hl1 hl2;have hm := List.mem_of_getElem? hi;obtain ⟨itb, m, seen, cl, es, ys, e1, hO, g1, hR, g2, hb, hes, hp, hc⟩ := hst.holds _ hm;have hxe : (Act.eval ⟨tm, sz.df⟩ (.tmp it)) = .pointer (some ⟨itb, 0, none⟩) := by
    have := rho_eval (df := sz.df) hfr (x := .tmp it) hx;simp only [AV.den, NEnt.name] at this e1
    simpa [e1, oneOf] using this
  have hw1 : Wanted ops s o1 := by simp only [Wanted, hg1]
  have hw2 : Wanted ops s o2 := by simp only [Wanted, hg2]
  unfold wpListIn;rw [if_pos (wanted_of hfr hw1)];refine Does.inn (K := fun u W' => ∃ b, ((∃ k v, u = .tuple #[.bool true, k, v]) ∨ u = .tuple #[.bool false]) ∧ (b = true ↔ ∃ k v, u = .tuple #[.bool true, k, v]) ∧
      ((left = [] ∧ b = false ∧ St c env V W' O R) ∨ ∃ (j : Nat) (hj : j < left.length), b = true ∧ St c env (V.set i (.inv n (mitI ek ag ev (left.eraseIdx j) (some left[j])))) W' O R)) ?_ ?_
  · have hrun : ∀ u W', (Instr.next (.pointer (some ⟨itb, 0, none⟩)) false o1.type).run P W = .ok u W' → (execOp (Act.eval ⟨tm, sz.df⟩) o1).run P W = .ok (.value u) W' := by
      intro u W' h;simp only [execOp, ho1, hxe, Sem.run_bind, h, Result.andThen_ok, Sem.run_pure]
    obtain ⟨d, hd | ⟨j, hj, hd⟩⟩ := run_nextMap (P := P) (T := o1.type) g1 g2 hb
    · rw [hrun _ _ hd.2];refine ⟨false, .inr rfl, ⟨fun h => (by cases h), fun ⟨k, v, h⟩ => by simp at h⟩, .inl ⟨?_, rfl, hst.drawn d⟩⟩;have h2 := hes.len;rw [hd.1] at h2;exact List.eq_nil_of_length_eq_zero (by rw [← hp.length_eq]; simpa using h2.symm)
    · rw [hrun _ _ hd];have hjy : j < ys.length := by rw [← hes.len]; exact hj
      obtain ⟨i', hi', ex, pe⟩ := perm_idx hp hjy;refine ⟨true, .inl ⟨_, _, rfl⟩, ⟨fun _ => ⟨_, _, rfl⟩, fun _ => rfl⟩, .inr ⟨i', hi', rfl, ?_⟩⟩;have hst' := hst.drawn d;have hmm : m ≠ itb := fun e => (hst.own _ hm itb hO).2.2 (e ▸ hR)
      have hlt : itb < (drawnW W d).heap.size := (Array.getElem?_eq_some_iff.1 g1).1;have hRn : ∀ b, R b → b ≠ itb := fun b hb e => (hst.own _ hm itb hO).2.2 (e ▸ hb)
      refine hst'.write i hi ⟨rfl, rfl, rfl, by simp, fun b _ hb => World.putObj_heap_other fun e => hb (e ▸ hO)⟩ rfl ?_;obtain ⟨e, he, hk, hv⟩ := hes.at (i := j) (x := ys[j]) (List.getElem?_eq_getElem hjy);have hkeep : ∀ b, R b → R b ∧ ((drawnW W d).putObj itb (.mapIter (some m) cl (seen.push ((unseen es seen)[j]).born) cl)).heap[b]? = W.heap[b]? := fun b hb => ⟨hb, World.putObj_heap_other (hRn b hb)⟩
      have hej : (unseen es seen)[j] = e := by rw [List.getElem?_eq_getElem hj] at he; exact Option.some.inj he
      refine ⟨itb, m, _, cl, es, _, e1, hO, World.putObj_heap_same hlt, hR, (World.putObj_heap_other hmm).trans g2, hb, ?_, pe, ?_⟩
      · rw [unseen_push hb.1 j hj];exact (hes.erase j).keep hkeep
      · intro x hx;cases hx;refine ⟨e, by rw [hej]; simp, ?_, by rw [ex]; exact hk, by rw [ex]; exact hv.keep hkeep⟩;rw [← hej];exact (List.mem_filter.1 (List.getElem_mem hj)).1
  rintro u W' ⟨b, hu, hbu, hcase⟩
  rw [hd1];have hfr1 : Fr env sz.sz s (tm.setIfInBounds d1 u) := hfr.putNone hn;have hge : (tm.setIfInBounds d1 u)[d1]? = some u := by rw [Array.getElem?_setIfInBounds, if_pos rfl, if_pos (by rw [hfr.1]; exact hl1)]
  have hu0 : ∃ cs : Array Value, u = .tuple cs ∧ cs[0]? = some (.bool b) := by
    rcases hu with ⟨k, v, rfl⟩ | rfl
    · have : b = true := hbu.2 ⟨_, _, rfl⟩;subst this; exact ⟨_, rfl, rfl⟩
    · cases b
      · exact ⟨_, rfl, rfl⟩
      · obtain ⟨k, v, h⟩ := hbu.1 rfl; simp at h
  obtain ⟨cs, hcs, hc0⟩ := hu0;show wpListIn (fw sz.ro) 0 P ops _ (o2 :: rest) ⟨tm.setIfInBounds d1 u, sz.df⟩ W';unfold wpListIn;rw [if_pos (wanted_of hfr1 hw2)];have hrun2 : (execOp (Act.eval ⟨tm.setIfInBounds d1 u, sz.df⟩) o2).run P W' = .ok (.value (.bool b)) W' := by
    have hg : (tm.setIfInBounds d1 u).getD d1 undef = u := by rw [Array.getD_eq_getD_getElem?, hge]; rfl
    simp only [execOp, ho2, Act.eval, hg, Instr.extract, Sem.run_bind];rw [hcs];simp only [hc0, Sem.run_pure, Result.andThen_ok]
  refine Does.inn (K := fun v w => v = .bool b ∧ w = W') ?_ ?_
  · rw [hrun2]; exact ⟨rfl, rfl⟩
  rintro v w ⟨rfl, rfl⟩
  rw [hd2];rcases hcase with ⟨hl, rfl, hs⟩ | ⟨j, hj, rfl, hs⟩
  · exact h0 hl env _ w O R (hfr1.put hl2 (a := .val (.bool false))) hs
  · exact h1 j hj env _ w O R (hfr1.put hl2 (a := .val (.bool true))) hs
end
end Go.Proofs.Ythgbjhglhejalaa.Sy
end
section
set_option linter.unusedSimpArgs false
set_option linter.unusedVariables false
namespace Go.Proofs.Ythgbjhglhejalaa.Sy
open Go.RowKit
section
variable {κ ν : Type} [BEq κ]
end
def Inv.at (I : Inv) (val : Value) : Inv := ⟨fun W O R v => v = val ∧ I.ok W O R v, fun W W' O R R' hO hR v h => ⟨h.1, I.keep W W' O R R' hO hR v h.2⟩⟩
theorem St.rename {c : Ctx} {env : Env} {V : List NEnt} {W : World} {O : Nat → Nat → Prop} {R : Nat → Prop} {k : Nat} {x y : NEnt} (h : St c env V W O R) (hk : V[k]? = some x) (hyn : y.name ∉ V.map NEnt.name) (hy : y.holds env W (O x.name) R) :
    ∃ O2, St c env (V.set k y) W O2 R := by
  classical
  have hx : x ∈ V := List.mem_of_getElem? hk;have hne : y.name ≠ x.name := fun e => hyn (e ▸ List.mem_map.2 ⟨x, hx, rfl⟩)
  have hc : ∀ z ∈ V.set k y, z = y ∨ (z ∈ V ∧ z.name ≠ x.name ∧ z.name ≠ y.name) := fun z hz => by
    rcases mem_set_cases h.names hk hz with e | ⟨h1, h2⟩
    · exact .inl e
    · exact .inr ⟨h1, h2, fun e => hyn (e ▸ List.mem_map.2 ⟨z, h1, rfl⟩)⟩
  refine ⟨fun n b => if n = y.name then O x.name b else O n b, h.keep, fun z hz => ?_, fun z hz b hb => ?_, fun z hz z2 hz2 hn b hb => ?_, h.ro, h.r0, ?_⟩
  · rcases hc z hz with rfl | ⟨h1, h2, h3⟩
    · simp only [if_true]; exact hy
    · simp only [h3, if_false]; exact h.holds z h1
  · rcases hc z hz with rfl | ⟨h1, h2, h3⟩
    · simp only [if_true] at hb; exact h.own x hx b hb
    · simp only [h3, if_false] at hb; exact h.own z h1 b hb
  · rcases hc z hz with rfl | ⟨h1, h2, h3⟩ <;> rcases hc z2 hz2 with rfl | ⟨g1, g2, g3⟩
    · exact hn rfl
    · simp only [if_true, g3, if_false] at hb; exact h.apart x hx z2 g1 (Ne.symm g2) b hb
    · simp only [if_true, h3, if_false] at hb; exact h.apart z h1 x hx h2 b hb
    · simp only [h3, g3, if_false] at hb; exact h.apart z h1 z2 g1 hn b hb
  · have : (V.set k y).map NEnt.name = (V.map NEnt.name).set k y.name := List.map_set;rw [this];have hlt := (List.getElem?_eq_some_iff.1 hk).1;rw [List.nodup_iff_pairwise_ne, List.pairwise_iff_getElem];have hnd := List.pairwise_iff_getElem.1 (List.nodup_iff_pairwise_ne.1 h.names);have hm : ∀ i (hi : i < (V.map NEnt.name).length), (V.map NEnt.name)[i] ≠ y.name := fun i hi e => hyn (e ▸ List.getElem_mem hi)
    intro i j hi hj hij;rw [List.length_set] at hi hj;rw [List.getElem_set, List.getElem_set]
    split <;> split
    · omega
    · exact (hm j hj).symm
    · exact hm i hi
    · exact hnd i j hi hj hij
section
variable {P : Program} {c : Ctx} {sz : Fm} {Q : Exit → Act → World → Prop} {t : List Item} {s : List (Nat × AV)} {V : List NEnt} {o : Oper} {ops : Array Oper} {rest : List Oper}
end
end Go.Proofs.Ythgbjhglhejalaa.Sy
end
section
set_option linter.unusedSimpArgs false
set_option linter.unusedVariables false
namespace Go.Proofs.Ythgbjhglhejalaa.Sy
open Go.RowKit
theorem EsOk.of {κ ν : Type} {ek : κ → Value} {ag : Bool} {ev : ν → List D} {W : World} {R : Nat → Prop} : ∀ {es : List MapEntry} {xs : List (κ × ν)}, es.map (·.key) = (xs.map (·.1)).map ek → (∀ (i : Nat) (e : MapEntry) (x : κ × ν), es[i]? = some e → xs[i]? = some x → VOk ag (ev x.2) W R e.val) → EsOk ek ag ev W R es xs := by
  intro es
  induction es with
  | nil => intro xs h _; cases xs with
    | nil => exact .nil
    | cons => simp at h
  | cons a l ih =>
    intro xs h hv
    cases xs with
    | nil => simp at h
    | cons x xs =>
      simp only [List.map_cons, List.cons.injEq] at h;exact .cons h.1 (hv 0 a x rfl rfl) (ih h.2 fun i e y he hy => hv (i + 1) e y he hy)
section
variable {P : Program} {c : Ctx} {sz : Fm} {Q : Exit → Act → World → Prop} {t : List Item} {s : List (Nat × AV)} {V : List NEnt} {ops : Array Oper} {rest : List Oper}
end
section
variable {P : Program} {s : List (Nat × AV)} {o : Oper} {ρ : Operand → Option AV}
end
section
variable {P : Program} {c : Ctx} {sz : Fm} {Q : Exit → Act → World → Prop} {t : List Item} {s : List (Nat × AV)} {V : List NEnt} {ops : Array Oper} {rest : List Oper} {o1 o2 : Oper}
end
theorem OpSpec.froz {P : Program} {o : Oper} {ρ : Operand → Option AV} {need : List NEnt} {v : AV} {news : List NEnt} {x : NEnt} (j : Nat) (hj : news[j]? = some x) (h : OpSpec P o ρ need v news) : OpSpec P o ρ need v (news.set j x.toRo) := by
  intro ev env W O R he hn hO hR;refine (h ev env W O R he hn hO hR).mono ?_
  rintro u W' ⟨env', O', R', he', hu, hst⟩
  refine ⟨env', _, _, fun n hn => he' n fun y hy => ?_, hu, hst.freeze j hj⟩;have hnm := set_names (y := x.toRo) hj (NEnt.toRo_name x);have : y.name ∈ (news.set j x.toRo).map NEnt.name := by rw [hnm]; exact List.mem_map.2 ⟨y, hy, rfl⟩
  obtain ⟨z, hz, e⟩ := List.mem_map.1 this;rw [← e]; exact hn z hz
theorem findAsk2 {P : Program} {K : TypeId} {κ : Type} [BEq κ] [LawfulBEq κ] {ek : κ → Value} (hq : ∀ k k' w, (Op.equal K (ek k) (ek k')).run P w = .ok (k == k') w) (k : κ) : ∀ (es : List MapEntry) (ks : List κ) (i : Nat) (w : World), es.map (·.key) = ks.map ek →
    (Instr.findAsking K (ek k) es i).run P w = .ok ((ks.findIdx? (· == k)).bind fun j => (es[j]?).map fun e => (i + j, e.val)) w := by
  intro es
  induction es with
  | nil => intro ks i w h; cases ks <;> first | rfl | cases h
  | cons e es ih =>
    intro ks i w h
    cases ks with
    | nil => cases h
    | cons z ks =>
      simp only [List.map_cons, List.cons.injEq] at h;simp only [Instr.findAsking, h.1, Sem.run_bind, hq, Result.andThen_ok, List.findIdx?_cons]
      by_cases hz : k = z
      · subst hz; simp
      · have h1 : (k == z) = false := by simpa using hz
        have h2 : (z == k) = false := by simpa using Ne.symm hz
        simp only [h1, Bool.false_eq_true, if_false, h2, ih ks (i + 1) w h.2];cases ks.findIdx? (· == k) <;> simp
        rename_i j
        cases es[j]? <;> simp
        omega
theorem mkey_agg2 {P : Program} {M K V : TypeId} {κ : Type} [BEq κ] [LawfulBEq κ] {ek : κ → Value} {dK : TypeDesc} (hu : P.underlying M = some (.map K V)) (hK : P.underlying K = some dK) (hd : ∀ k es i, Instr.findNow dK k es i = if es = [] then some none else none) (hc : ∀ b k w, (Instr.checkKey b 10000 K (ek k)).run P w = .ok () w)
    (hq : ∀ k k' w, (Op.equal K (ek k) (ek k')).run P w = .ok (k == k') w) (hs : ∀ k, Instr.sameBits 10000 (ek k) (ek k) = true) : MKey P M K V ek where
  under := hu
  check := hc
  find k es ks w h := by
    simp only [Instr.findKey, Sem.run_bind, run_underlying hK, Result.andThen_ok, hd]
    cases es with
    | nil => cases ks <;> first | rfl | cases h
    | cons e es =>
      simp only [reduceCtorEq, if_false];have := findAsk2 hq k (e :: es) ks 0 w h
      simpa using this
  stay k w := by simp [Instr.keyThatStays, hs]
  eq ks k i x h1 h2 := by
    obtain ⟨h3, h4, _⟩ := List.findIdx?_eq_some_iff_getElem.1 h1;rw [List.getElem?_eq_getElem h3] at h2;cases h2;simp only [beq_iff_eq] at h4;rw [h4]
end Go.Proofs.Ythgbjhglhejalaa.Sy
end
section
set_option linter.unusedSimpArgs false
set_option linter.unusedVariables false
namespace Go.Proofs.Ythgbjhglhejalaa.Sy
open Go.RowKit
end Go.Proofs.Ythgbjhglhejalaa.Sy
end
section
set_option linter.unusedSimpArgs false
set_option linter.unusedVariables false
namespace Go.Proofs.Ythgbjhglhejalaa.Sy
open Go.RowKit
section
variable {P : Program} {c : Ctx} {sz : Fm} {Q : Exit → Act → World → Prop} {t : List Item} {s : List (Nat × AV)} {V : List NEnt} {ops : Array Oper} {rest : List Oper} {o : Oper} {ρ : Operand → Option AV}
theorem TL.pin (g n : Nat) (hf : (!hasS g s && !hasV g V) = true) (hg : Nat.beq g n = false) (h : ∀ u, TL P c sz Q ops rest t s (.pin g n u :: V)) : TL P c sz Q ops rest t s V := by
  simp only [Bool.and_eq_true, Bool.not_eq_true'] at hf;intro env tm W O R hfr hst;have hgn : g ≠ n := fun e => by subst e; rw [Nat.beq_refl] at hg; cases hg
  have hst' := hst.addRo (x := .pin g n (env n)) (v := .bool false) hf.2 fun O => by
    simp only [NEnt.holds, NEnt.name, setEnv_other hgn]
  exact h (env n) _ tm W _ R (hfr.congr fun m hm => (setEnv_other fun e => by subst e; simp only [NEnt.name] at hm; rw [hf.1] at hm; cases hm).symm) hst'
end
def arrI {X : Type} (T : TypeId) (enc : X → List Value) (xs : List X) : Inv :=
  ⟨fun W O _ v => ∃ b, v = .pointer (some ⟨b, 0, none⟩) ∧ O b ∧ W.heap[b]? = some (.cells (xs.flatMap enc).toArray T (0, 0)),
   fun W W' O R R' hO _ v h => by obtain ⟨b, h1, h2, h3⟩ := h; exact ⟨b, h1, h2, (hO b h2).trans h3⟩⟩
def IsArr {X : Type} (y : NEnt) (n : Nat) (T : TypeId) (enc : X → List Value) (xs : List X) : Prop := y = .inv n (arrI T enc xs) ∨ y = .any n (arrI T enc xs).froz
section
variable {X : Type} {T' n : Nat} {enc : X → List Value} {xs : List X}
theorem isArrO : IsArr (.inv n (arrI T' enc xs)) n T' enc xs := .inl rfl
theorem isArrR : IsArr (.any n (arrI T' enc xs).froz) n T' enc xs := .inr rfl
theorem arr_holds {y : NEnt} (hy : IsArr y n T' enc xs) {env : Env} {W : World} {O R : Nat → Prop} (h : y.holds env W O R) :
    ∃ b, env n = .pointer (some ⟨b, 0, none⟩) ∧ W.heap[b]? = some (.cells (xs.flatMap enc).toArray T' (0, 0)) := by
  rcases hy with rfl | rfl
  · obtain ⟨b, h1, h2, h3⟩ := h; exact ⟨b, h1, h3⟩
  · obtain ⟨O', _, b, h1, h2, h3⟩ := h; exact ⟨b, h1, h3⟩
theorem flat_get {s : Nat} (hl : ∀ x, (enc x).length = s) {i j : Nat} {x : X} {v : Value} (hx : xs[i]? = some x) (hj : (enc x)[j]? = some v) : (xs.flatMap enc)[i * s + j]? = some v := by
  have h := arr_get (enc := fun x => (enc x).map AV.val) (s := s) (cells := (xs.flatMap fun x => (enc x).map AV.val)) (pre := []) (post := []) (xs := xs) (a := .val v) (i := i) (j := j) (x := x) (fun x => by simp [hl x]) (by
    have := (List.getElem?_eq_some_iff.1 hj).1;rw [hl] at this;simp [Nat.blt_eq]; omega) (by simp) hx (by simp [hj])
  have e : (xs.flatMap fun x => (enc x).map AV.val) = (xs.flatMap enc).map AV.val := by rw [List.map_flatMap]
  rw [e] at h
  simpa using h
variable {P : Program} {s : List (Nat × AV)} {o : Oper} {ρ : Operand → Option AV}
theorem sp_nilCheckX {x : Operand} {off : Nat} {y : NEnt} (ho : o.op = .nilCheck x) (hy : IsArr y n T' enc xs) (hx : ρ x = some (.ptr n off)) : OpSpec P o ρ [y] (.ptr n off) [] :=
  .pure fun ev env W O R he hn => by
    obtain ⟨b, hb, _⟩ := arr_holds hy (hn _ (List.mem_singleton.2 rfl));simp [execOp, ho, he x _ hx, AV.den, hb, blockOff]
theorem sp_loadX {T : TypeId} {x : Operand} {off size i j : Nat} {y : NEnt} {z : X} {v : Value} (ho : o.op = .load T x) (hy : IsArr y n T' enc xs) (hx : ρ x = some (.ptr n off)) (hT : VarT P T 1 false) (hl : ∀ x, (enc x).length = size) (hoff : off = 0 + i * size + j) (hi : xs[i]? = some z) (hj : (enc z)[j]? = some v) :
    OpSpec P o ρ [y] (.val v) [] :=
  .pure fun ev env W O R he hn => by
    rw [Nat.zero_add] at hoff; subst hoff;obtain ⟨b, h1, h3⟩ := arr_holds hy (hn _ (List.mem_singleton.2 rfl));have h4 : W.cell? ⟨b, i * size + j, none⟩ = some v := by simp [World.cell?, h3, flat_get hl hi hj]
    simp [execOp, ho, he x _ hx, AV.den, h1, blockOff, Instr.loadAt, Instr.sureAddr, loadVar, hT.isAgg, h4]
theorem flat_set {enc : X → List Value} {sz : Nat} (hl : ∀ x, (enc x).length = sz) {j : Nat} {z z' : X} {vs : List Value} : ∀ {xs : List X} {i : Nat}, xs[i]? = some z → j + vs.length ≤ sz → enc z' = (enc z).take j ++ vs ++ (enc z).drop (j + vs.length) →
    (xs.flatMap enc).take (i * sz + j) ++ vs ++ (xs.flatMap enc).drop (i * sz + j + vs.length) = (xs.set i z').flatMap enc := by
  intro xs
  induction xs with
  | nil => intro i h; simp at h
  | cons x l ih =>
    intro i hi hle he
    cases i with
    | zero =>
      simp only [List.getElem?_cons_zero, Option.some.injEq] at hi;subst hi;have hx := hl x;simp only [Nat.zero_mul, Nat.zero_add, List.flatMap_cons, List.set_cons_zero, he];rw [List.take_append_of_le_length (by omega), List.drop_append_of_le_length (by omega)];simp
    | succ i =>
      simp only [List.getElem?_cons_succ] at hi;have hx := hl x;have := ih hi hle he;simp only [List.flatMap_cons, List.set_cons_succ, ← this];have e1 : (i + 1) * sz + j = (enc x).length + (i * sz + j) := by rw [hx, Nat.add_mul]; omega
      rw [e1, Nat.add_assoc, List.take_length_add_append, List.drop_length_add_append];simp
theorem flat_len {enc : X → List Value} {sz : Nat} (hl : ∀ x, (enc x).length = sz) : ∀ xs : List X, (xs.flatMap enc).length = xs.length * sz
  | [] => by simp
  | x :: l => by rw [List.flatMap_cons, List.length_append, hl x, flat_len hl l, List.length_cons, Nat.add_mul]; omega
theorem ts_storeX {T off size i j N : Nat} {ag : Bool} {x y : Operand} {a : AV} {z z' : X} {vs : List Value} {need : List NEnt} (ho : o.op = .store T x y) (hx : rho s x = some (.ptr n off)) (hy : rho s y = some a) (hfl : a.flat = true) (hcs : a.cs = vs.map .val)
    (hT : VarT P T N ag) (hN : a.cs.length = N) (hl : ∀ x, (enc x).length = size) (hoff : off = 0 + i * size + j) (hi : xs[i]? = some z) (hle : Nat.ble (j + vs.length) size = true) (he : enc z' = (enc z).take j ++ vs ++ (enc z).drop (j + vs.length)) :
    TSpec P o (rho s) [.inv n (arrI T' enc xs)] need (.val undef) [.inv n (arrI T' enc (xs.set i z'))] := by
  rw [Nat.zero_add] at hoff; subst hN; subst hoff;intro ev c env V W O R hev hst ht _ _;obtain ⟨k, hk⟩ := List.mem_iff_getElem?.1 (ht _ (List.mem_singleton.2 rfl));have hle' := Nat.le_of_ble_eq_true hle;have hdv : ∀ (e : Env) (l : List Value), AV.denL e (l.map .val) = l := fun e l => by rw [AV.denL_map]; simp [AV.den, Function.comp_def]
  have hst1 := hst.write k (y := .blk n ((xs.flatMap enc).map .val) T') hk (Keep.refl _ W) rfl (by
    obtain ⟨b, h1, h2, h3⟩ := hst.holds _ (List.mem_of_getElem? hk);exact ⟨b, h1, h2, by rw [hdv]; exact h3⟩)
  have hlt : k < V.length := (List.getElem?_eq_some_iff.1 hk).1;have hk1 : (V.set k (NEnt.blk n ((xs.flatMap enc).map .val) T'))[k]? = some (.blk n ((xs.flatMap enc).map .val) T') := by rw [List.getElem?_set_self hlt]
  have hlen : i * size + j + vs.length ≤ (xs.flatMap enc).length := by
    have hv := flat_len hl xs;have hi' : i < xs.length := (List.getElem?_eq_some_iff.1 hi).1;have : (i + 1) * size ≤ xs.length * size := Nat.mul_le_mul_right _ hi';rw [Nat.add_mul] at this
    omega
  refine (coreB hev hst1 k ho hx hk1 hy hfl hT.sizeOf (by rw [hcs]; simpa using hlen)).mono ?_
  rintro u W' ⟨rfl, h⟩
  rw [List.set_set] at h;have e : ((xs.flatMap enc).map AV.val).take (i * size + j) ++ a.cs ++ ((xs.flatMap enc).map AV.val).drop (i * size + j + a.cs.length) = ((xs.set i z').flatMap enc).map .val := by
    rw [hcs, ← flat_set hl hi hle' he, List.length_map];simp only [List.map_append, List.map_take, List.map_drop]
  rw [e] at h;have hk2 : (V.set k (NEnt.blk n (((xs.set i z').flatMap enc).map .val) T'))[k]? = some (.blk n (((xs.set i z').flatMap enc).map .val) T') := by rw [List.getElem?_set_self hlt]
  have h2 := h.write k (y := .inv n (arrI T' enc (xs.set i z'))) hk2 (Keep.refl _ W') rfl (by
    obtain ⟨b, h1, h2, h3⟩ := h.holds _ (List.mem_of_getElem? hk2);exact ⟨b, h1, h2, by rw [hdv] at h3; exact h3⟩)
  rw [List.set_set] at h2;exact ⟨env, O, R, fun _ _ => rfl, rfl, St.set_del hk hst.names rfl h2⟩
variable {c : Ctx} {sz : Fm} {Q : Exit → Act → World → Prop} {t : List Item} {V : List NEnt} {ops : Array Oper} {rest : List Oper}
theorem TSpec.froz {P : Program} {o : Oper} {ρ : Operand → Option AV} {take need : List NEnt} {v : AV} {news : List NEnt} {x : NEnt} (j : Nat) (hj : news[j]? = some x) (h : TSpec P o ρ take need v news) : TSpec P o ρ take need v (news.set j x.toRo) := by
  intro ev c env V W O R he hst ht hk hn;have hnm := set_names (y := x.toRo) hj (NEnt.toRo_name x);have hmem : ∀ y ∈ news, ∃ z ∈ news.set j x.toRo, z.name = y.name := fun y hy => by
    have : y.name ∈ (news.set j x.toRo).map NEnt.name := by rw [hnm]; exact List.mem_map.2 ⟨y, hy, rfl⟩
    obtain ⟨z, hz, e⟩ := List.mem_map.1 this;exact ⟨z, hz, e⟩
  refine (h ev c env V W O R he hst ht hk (fun y hy => by obtain ⟨z, hz, e⟩ := hmem y hy; rw [← e]; exact hn z hz)).mono ?_
  rintro u W' ⟨env', O', R', he', hu, hst'⟩
  have hlt := (List.getElem?_eq_some_iff.1 hj).1;have hf := hst'.freeze j (x := x) (by rw [List.getElem?_append_left hlt]; exact hj);rw [List.set_append_left _ _ hlt] at hf;refine ⟨env', _, _, fun n hn2 => he' n fun y hy hyt e => ?_, hu, hf⟩;obtain ⟨z, hz, e2⟩ := hmem y hy;exact hn2 z hz (by rw [e2]; exact hyt) (by rw [e2]; exact e)
end
end Go.Proofs.Ythgbjhglhejalaa.Sy
end
section
set_option linter.unusedSimpArgs false
set_option linter.unusedVariables false
namespace Go.Proofs.Ythgbjhglhejalaa.Sy
open Go.RowKit Instr
section
variable {P : Program} {o : Oper} {ρ : Operand → Option AV}
theorem sp_nilCheckC {x : Operand} {n size k i : Nat} {els : List (List D)} {el : List D} {y : NEnt} (ho : o.op = .nilCheck x) (hx : ρ x = some (.cell n k)) (hy : IsRow y n size els) (hi : els[i]? = some el) (h1 : el ≠ []) : OpSpec P o ρ [y] (.cell n k) [] :=
  .pure fun ev env W O R he hn => by
    obtain ⟨ad, cap, g1, g2, g3, g4, g5⟩ := row_read hy (hn _ (List.mem_singleton.2 rfl));obtain ⟨d, hd⟩ : ∃ d, el[0]? = some d := by cases el with | nil => exact absurd rfl h1 | cons d l => exact ⟨d, rfl⟩
    obtain ⟨b, o', ha, _⟩ := (g5 i el hi).2 0 d hd;subst ha;simp [execOp, ho, he x _ hx, AV.den, cellAt_eq g1]
def evO {ν : Type} (ev : ν → List D) : Option ν → List D
  | none => [D.v (.pointer none)]
  | some v => ev v
theorem EsOk.opt {κ ν : Type} {ek : κ → Value} {ag : Bool} {ev : ν → List D} {W : World} {R : Nat → Prop} {es : List MapEntry} {xs : List (κ × ν)} (h : EsOk ek ag ev W R es xs) : EsOk ek ag (evO ev) W R es (xs.map fun x => (x.1, some x.2)) := by
  induction h with
  | nil => exact .nil
  | cons h1 h2 _ ih => exact .cons h1 h2 ih
theorem mfind_opt {κ ν : Type} [BEq κ] (xs : List (κ × ν)) (k : κ) : mfind (xs.map fun x => (x.1, some x.2)) k = mfind xs k := by
  simp [mfind, List.map_map, Function.comp_def]
theorem mlook_opt {κ ν : Type} [BEq κ] (xs : List (κ × ν)) (k : κ) : mlook (xs.map fun x => (x.1, some x.2)) k = (mlook xs k).map some := by
  simp only [mlook, mfind_opt]
  cases mfind xs k with
  | none => rfl
  | some i => simp [List.getElem?_map]; cases xs[i]? <;> rfl
theorem look_ptr {κ ν : Type} [BEq κ] {M K V : TypeId} {ek : κ → Value} {ev : ν → List D} {xs : List (κ × ν)} {W : World} {R : Nat → Prop} {r cl : Nat} {es : Array MapEntry} (hk : MKey P M K V ek) (h : W.heap[r]? = some (.map es cl)) (hes : EsOk ek false ev W R es.toList xs) (k : κ)
    (hz : ∀ w, (zeroValue V).run P w = .ok (.pointer none) w) : ∃ v, VOk false (evO ev (mlook xs k)) W R v ∧ (Instr.lookup M (.map (some r)) (ek k) true).run P W = .ok (.tuple #[v, .bool (mlook xs k).isSome]) W := by
  obtain ⟨v, h1, h2⟩ := look_val hk h hes.opt k none (z := .pointer none) hz ⟨[.pointer none], rfl, rfl, rfl, fun j d hj => by
    cases j with
    | zero => simp [evO] at hj; subst hj; exact ⟨_, rfl, rfl, rfl⟩
    | succ j => simp [evO] at hj⟩ true
  rw [mlook_opt] at h1 h2;have e : ((mlook xs k).map some).getD none = mlook xs k := by cases mlook xs k <;> rfl
  have e2 : ((mlook xs k).map some).isSome = (mlook xs k).isSome := by cases mlook xs k <;> rfl
  rw [e] at h1;rw [e2] at h2;exact ⟨v, h1, h2⟩
theorem sp_lookupN {κ ν : Type} [BEq κ] [LawfulBEq κ] {M K V n : Nat} {x i : Operand} {ek : κ → Value} {ev : ν → List D} {xs : List (κ × ν)} {y : NEnt} (k : κ) {ka : AV} (hN : mlook xs k = none) (ho : o.op = .lookup M x i true) (hx : ρ x = some (.ref n)) (hi : ρ i = some ka) (hka : ∀ e, ka.den e = ek k) (hy : IsMapE y n ek false ev xs) (hk : MKey P M K V ek)
    (hz : ∀ w, (zeroValue V).run P w = .ok (.pointer none) w) : OpSpec P o ρ [y] (.tup [.val (.pointer none), .val (.bool false)]) [] := by
  intro evl env W O R he hn _ hR;obtain ⟨r, cl, es, ys, h1, h2, h3, h4⟩ := map_read hy (hn _ (List.mem_singleton.2 rfl));have hx' := he x _ hx;simp only [AV.den, h1, oneOf] at hx';have hi' := he i _ hi;rw [hka] at hi';obtain ⟨u, hu, hrun⟩ := look_ptr hk h2 h3 k hz;rw [mlook_perm h4.1 h4.2.1, hN] at hu hrun;have : (execOp evl o).run P W = .ok (.value (.tuple #[u, .bool false])) W := by
    simp only [execOp, ho, hx', hi', Sem.run_bind, hrun, Result.andThen_ok, Sem.run_pure, Option.isSome_none]
  rw [this];obtain ⟨cs, hc1, hc2, hc3, hc4⟩ := hu;obtain ⟨u0, g1, g2, _⟩ := hc4 0 (D.v (.pointer none)) rfl;have hu : u = .pointer none := by
    rw [hc2]
    cases cs with
    | nil => simp at g1
    | cons c l => simp at g1; subst g1; exact g2
  subst hu;exact ⟨env, _, R, fun _ _ => rfl, by simp only [AV.den, AV.denL], St.roNews hR (by simp) (by simp)⟩
end
section
variable {P : Program} {c : Ctx} {sz : Fm} {Q : Exit → Act → World → Prop} {t : List Item} {s : List (Nat × AV)} {V : List NEnt}
end
def lookW {α β : Type} (o : Option α) (e1 : Option β) (e2 : α → Option β) : Option β := match o with
  | none => e1
  | some p => e2 p
theorem lookW_inv {α β : Type} {o : Option α} {e1 : Option β} {e2 : α → Option β} {r : β} (h : lookW o e1 e2 = some r) : (o = none ∧ e1 = some r) ∨ ∃ p, o = some p ∧ e2 p = some r := by
  cases o with
  | none => exact .inl ⟨rfl, h⟩
  | some p => exact .inr ⟨p, rfl, h⟩
end Go.Proofs.Ythgbjhglhejalaa.Sy
end
section
set_option linter.unusedSimpArgs false
set_option linter.unusedVariables false
namespace Go.Proofs.Ythgbjhglhejalaa.Sy
open Go.RowKit
section
variable {P : Program} {c : Ctx} {sz : Fm} {Q : Exit → Act → World → Prop} {t : List Item} {s : List (Nat × AV)} {V : List NEnt} {ops : Array Oper} {rest : List Oper}
end
section
variable {P : Program} {s : List (Nat × AV)} {o : Oper} {ρ : Operand → Option AV}
end
end Go.Proofs.Ythgbjhglhejalaa.Sy
end
section
set_option linter.unusedSimpArgs false
set_option linter.unusedVariables false
namespace Go.Proofs.Ythgbjhglhejalaa.Sy
open Go.RowKit
section
variable {P : Program} {c : Ctx} {sz : Fm} {Q : Exit → Act → World → Prop} {t : List Item} {s : List (Nat × AV)} {V : List NEnt} {ops : Array Oper} {rest : List Oper}
end
section
variable {P : Program} {s : List (Nat × AV)} {o : Oper} {ρ : Operand → Option AV}
end
end Go.Proofs.Ythgbjhglhejalaa.Sy
end
section
set_option linter.unusedSimpArgs false
set_option linter.unusedVariables false
namespace Go.Proofs.Ythgbjhglhejalaa.Sy
open Go.RowKit
section
variable {X : Type} {P : Program} {c : Ctx} {sz : Fm} {Q : Exit → Act → World → Prop} {t : List Item} {s : List (Nat × AV)} {V : List NEnt} {ops : Array Oper} {rest : List Oper} {T' n : Nat} {enc : X → List Value} {xs : List X}
end
section
variable {P : Program} {o : Oper} {ρ : Operand → Option AV}
theorem sp_sliceA0 {T E : TypeId} {size n len m : Nat} {ag : Bool} {x : Operand} {cells : List AV} {T' : TypeId} {els : List (List D)} {need : List NEnt} (ho : o.op = .slice T x none none none) (hx : ρ x = some (.ptr n 0)) (hT : P.underlying T = some (.array len E)) (hE : VarT P E size ag)
    (hsz : ∀ el ∈ els, el.length = size) (hl : els.length = len) (hm : Nat.ble len 140737488355327 = true) (hp : Nat.blt 0 len = true) (hcl : cells.length = len * size) (had : ADL need cells els.flatten) (hone : cells.all AV.one = true) (hps : Nat.blt 0 size = true) : OpSpec P o ρ (.rob n cells T' :: need) (.ref m) [.ro m size els] := by
  intro ev env W O R hev hn _ hR;obtain ⟨b, h1, h2, h3⟩ := hn (.rob n cells T') (by simp);have hx' := hev x _ hx;simp only [AV.den, h1, blockOff] at hx';have hp' : 0 < len := by simpa [Nat.blt_eq] using hp
  have hrun : (execOp ev o).run P W = .ok (.value (.slice (some ⟨b, 0, none⟩) len len)) W := by
    simp [execOp, ho, Instr.sliceAt, Instr.slice, hx', run_underlying hT, Instr.sliceBounds, Instr.sliceBound, asIntOf, hE.sizeOf, Nat.ne_of_gt hp', Instr.sureAddr, add_lit]
  rw [hrun];obtain ⟨hal, hak⟩ := had.ok (fun z hz => hn z (by simp [hz]));refine ⟨setEnv env m (.slice (some ⟨b, 0, none⟩) len len), fun _ _ => False, R, fun k hk => setEnv_other (hk (.ro m size els) (by simp)), by simp [AV.den, setEnv_same, oneOf], ?_⟩;refine St.fresh (Keep.refl _ W) hR ?_ (fun b hb => hb.elim);simp only [NEnt.holds, setEnv_same];refine ⟨some ⟨b, 0, none⟩, len, by rw [hl], by omega, (by have := Nat.le_of_ble_eq_true hm; simp only [maxLen]; omega), (fun h => nomatch h), fun i el hi => ⟨hsz el (List.mem_of_getElem? hi), fun j d hj => ⟨b, 0, rfl, h2, ?_⟩⟩⟩;have hjs : j < size := by
    have := (List.getElem?_eq_some_iff.1 hj).1; rw [hsz el (List.mem_of_getElem? hi)] at this; exact this
  have hf := flatten_get els i j el hsz hi hjs;obtain ⟨u, hu, hok⟩ := hak (i * size + j) d (by rw [hf]; exact hj);refine ⟨u, ?_, hok, denL_one hone u (List.mem_of_getElem? hu)⟩;simp only [World.cell?, h3, Nat.zero_add]
  simpa using hu
end
end Go.Proofs.Ythgbjhglhejalaa.Sy
end
section
set_option linter.unusedSimpArgs false
set_option linter.unusedVariables false
namespace Go.Proofs.Ythgbjhglhejalaa.Sy
open Go.RowKit
section
variable {P : Program} {c : Ctx} {sz : Fm} {Q : Exit → Act → World → Prop} {t : List Item} {s : List (Nat × AV)} {V : List NEnt} {ops : Array Oper} {rest : List Oper} {o : Oper} {ρ : Operand → Option AV}
theorem TC.pinPtr (k i : Nat) {g n T : Nat} {u : Value} {cells : List AV} (hk : V[k]? = some (.pin g n u)) (hi : V[i]? = some (.blk n cells T)) (h : ∀ b : Nat, u = .pointer (some ⟨b, 0, none⟩) → TC P c sz Q t s V) : TC P c sz Q t s V := by
  intro env tm W O R hfr hst;have h1 : env n = u := hst.holds _ (List.mem_of_getElem? hk);obtain ⟨b, h2, _⟩ := hst.holds _ (List.mem_of_getElem? hi);exact h b (h1.symm.trans h2) env tm W O R hfr hst
theorem TC.pinRow (k i : Nat) {g n E size N : Nat} {u : Value} {els : List (List D)} (hl : els.length = N) (h0 : Nat.blt 0 N = true) (hk : V[k]? = some (.pin g n u)) (hi : V[i]? = some (.row n E size els)) (h : ∀ b cap : Nat, u = .slice (some ⟨b, 0, none⟩) N cap → TC P c sz Q t s V) : TC P c sz Q t s V := by
  subst hl;intro env tm W O R hfr hst;have h1 : env n = u := hst.holds _ (List.mem_of_getElem? hk);obtain ⟨hs, cells, hown, hob, hcd⟩ := hst.holds _ (List.mem_of_getElem? hi);rcases hown.2 with ⟨hv, hn⟩ | ⟨b, cap, cur, hv, _⟩
  · rw [hn] at h0; cases h0
  · exact h b cap (h1.symm.trans hv) env tm W O R hfr hst
def rawV (b0 bg A S : Nat) (x : Bool × Nat) : Value := .pointer (some ⟨cond x.1 b0 bg, cond x.1 (A + x.2 * S) (x.2 * S), none⟩)
theorem TC.rawPtr {x : Bool × Nat} {b0 bg A S i g n : Nat} (d k : Nat) (off : Nat) (hs : look s d = some (.val (rawV b0 bg A S x))) (h1 : x.1 = true) (h2 : (x.2 == i) = true) (ho : A + i * S = off) (hk : V[k]? = some (.pin g n (.pointer (some ⟨b0, 0, none⟩)))) (h : TC P c sz Q t ((d, .ptr n off) :: s) V) : TC P c sz Q t s V := by
  intro env tm W O R hfr hst;have hp : env n = .pointer (some ⟨b0, 0, none⟩) := hst.holds _ (List.mem_of_getElem? hk);refine h env tm W O R ⟨hfr.1, fun t a ha => ?_⟩ hst;simp only [look] at ha
  split at ha
  · rename_i e; subst e; cases ha
    rw [hfr.2 _ _ hs];have h3 : x.2 = i := by simpa using h2
    simp only [AV.den, rawV, h1, h3, cond_true, ho, hp, blockOff]
  · exact hfr.2 t a ha
theorem TC.rawCell {x : Bool × Nat} {b0 bg A S g n len cap : Nat} (d k : Nat) (hs : look s d = some (.val (rawV b0 bg A S x))) (h1 : x.1 = false) (hk : V[k]? = some (.pin g n (.slice (some ⟨bg, 0, none⟩) len cap))) (h : TC P c sz Q t ((d, .cell n (((x.2 : Nat) : Int).toNat * S)) :: s) V) : TC P c sz Q t s V := by
  intro env tm W O R hfr hst;have hp : env n = .slice (some ⟨bg, 0, none⟩) len cap := hst.holds _ (List.mem_of_getElem? hk);refine h env tm W O R ⟨hfr.1, fun t a ha => ?_⟩ hst;simp only [look] at ha
  split at ha
  · rename_i e; subst e; cases ha
    rw [hfr.2 _ _ hs];simp only [AV.den, rawV, h1, cond_false, hp, cellAt, add_lit, Nat.zero_add, Int.toNat_natCast]
  · exact hfr.2 t a ha
theorem TC.fnRaw (d k : Nat) {f g n b : Nat} (hs : look s d = some (.fn f [.ptr n 0] [])) (hk : V[k]? = some (.pin g n (.pointer (some ⟨b, 0, none⟩)))) (h : TC P c sz Q t ((d, .fn f [.val (.pointer (some ⟨b, 0, none⟩))] []) :: s) V) : TC P c sz Q t s V := by
  intro env tm W O R hfr hst;have hp : env n = .pointer (some ⟨b, 0, none⟩) := hst.holds _ (List.mem_of_getElem? hk);refine h env tm W O R ⟨hfr.1, fun t a ha => ?_⟩ hst;simp only [look] at ha
  split at ha
  · rename_i e; subst e; cases ha
    rw [hfr.2 _ _ hs];simp only [AV.den, AV.denL, hp, blockOff]
  · exact hfr.2 t a ha
def Peek {σ : Type} (I : σ → Inv) (b T off : Nat) (hv : Value) : Prop := ∀ (y : σ) (W : World) (O R : Nat → Prop) (v : Value), (I y).ok W O R v → ∃ cells : Array Value, W.heap[b]? = some (.cells cells T (0, 0)) ∧ cells[off]? = some hv
theorem peek_of {σ : Type} {V0 : σ → List NEnt} {I : σ × Nat → Inv} (hI : HoldsI V0 I) {n gn m gm b T off : Nat} {hv : Value} {cells : σ → List AV} (hb : ∀ y, NEnt.blk n (cells y) T ∈ V0 y) (hp : ∀ y, NEnt.pin gn n (.pointer (some ⟨b, 0, none⟩)) ∈ V0 y) (hc : ∀ y, (cells y)[off]? = some (.ref m)) (hq : ∀ y, NEnt.pin gm m hv ∈ V0 y) (h1 : oneOf hv = hv) : Peek I b T off hv := by
  intro y W O R v h;obtain ⟨env, O', hh⟩ := hI y W O R v h;obtain ⟨b', e1, _, e3⟩ := hh _ (hb y.1);have e2 : env n = .pointer (some ⟨b, 0, none⟩) := hh _ (hp y.1);have e4 : env m = hv := hh _ (hq y.1);rw [e2] at e1;cases e1
  exact ⟨_, e3, by simp only [List.getElem?_toArray, denL_get (hc y.1), AV.den, e4, h1]⟩
theorem sp_nilCheckV {x : Operand} {a : Addr} (ho : o.op = .nilCheck x) (hx : ρ x = some (.val (.pointer (some a)))) : OpSpec P o ρ [] (.val (.pointer (some a))) [] :=
  .pure fun ev env W O R he hn => by simp [execOp, ho, he x _ hx, AV.den]
theorem sp_fieldAddrV {T : TypeId} {x : Operand} {f off ft sz b k : Nat} {ag : Bool} (ho : o.op = .fieldAddr T x f) (hx : ρ x = some (.val (.pointer (some ⟨b, k, none⟩)))) (hf : FieldT P T f off ft) (hT : VarT P ft sz ag) (h0 : sz ≠ 0) : OpSpec P o ρ [] (.val (.pointer (some ⟨b, k + off, none⟩))) [] :=
  .pure fun ev env W O R he hn => by
    obtain ⟨fs, fd, h1, h2, h3, h4⟩ := hf;subst h3; subst h4;simp [execOp, ho, he x _ hx, AV.den, Instr.fieldAt, run_underlying h1, h2, Instr.sureAddr, fieldPlace, hT.sizeOf, h0, add_lit]
theorem sp_loadPk {σ : Type} {I : σ → Inv} {y : σ} {T : TypeId} {x : Operand} {n b T' off : Nat} {hv : Value} (hpk : Peek I b T' off hv) (ho : o.op = .load T x) (hx : ρ x = some (.val (.pointer (some ⟨b, off, none⟩)))) (hT : VarT P T 1 false) : OpSpec P o ρ [.inv n (I y)] (.val hv) [] :=
  .pure fun ev env W O R he hn => by
    obtain ⟨cells, h1, h2⟩ := hpk _ _ _ _ _ (hn _ (List.mem_singleton.2 rfl));have h3 : W.cell? ⟨b, off, none⟩ = some hv := by simp [World.cell?, h1, h2]
    simp [execOp, ho, he x _ hx, AV.den, Instr.loadAt, Instr.sureAddr, loadVar, hT.isAgg, h3]
theorem sp_lenV {T E : TypeId} {x : Operand} {a : Option Addr} {len cap : Nat} (ho : o.op = .call { callee := .builtin .len, args := #[x], argTypes := #[T] }) (hx : ρ x = some (.val (.slice a len cap))) (hT : P.underlying T = some (.slice E)) : OpSpec P o ρ [] (.val (.int .i64 len)) [] :=
  .pure fun ev env W O R hev hn => by
    simp [execOp, ho, resolve, invoke, builtin, hev x _ hx, AV.den, Builtin.len_, run_underlying hT, goInt]
theorem sp_indexV {T E : TypeId} {size bytes b len cap : Nat} {x i : Operand} {k : IntKind} {iv : Int} (ho : o.op = .indexAddr T x i) (hx : ρ x = some (.val (.slice (some ⟨b, 0, none⟩) len cap))) (hi : ρ i = some (.val (.int k iv))) (hT : SlT P T E size bytes)
    (h0 : (decide (0 ≤ iv) && decide (iv < (len : Int))) = true) : OpSpec P o ρ [] (.val (.pointer (some ⟨b, iv.toNat * size, none⟩))) [] :=
  .pure fun ev env W O R hev hn => by
    obtain ⟨ti, z, hti, _, hts, _, _⟩ := hT.info;simp only [Bool.and_eq_true, decide_eq_true_eq] at h0;simp [execOp, ho, hev x _ hx, hev i _ hi, AV.den, Instr.indexAt, asIntOf, run_underlying hT.under, sizeOf, typeInfo, hti, hts, h0.1, h0.2, add_lit]
theorem sp_indexAV {T E : TypeId} {size len b off : Nat} {ag : Bool} {x i : Operand} {k : IntKind} {iv : Int} (ho : o.op = .indexAddr T x i) (hx : ρ x = some (.val (.pointer (some ⟨b, off, none⟩)))) (hi : ρ i = some (.val (.int k iv))) (hT : P.underlying T = some (.array len E)) (hE : VarT P E size ag)
    (h0 : (decide (0 ≤ iv) && decide (iv < len)) = true) : OpSpec P o ρ [] (.val (.pointer (some ⟨b, off + iv.toNat * size, none⟩))) [] :=
  .pure fun ev env W O R hev hn => by
    simp only [Bool.and_eq_true, decide_eq_true_eq] at h0;simp [execOp, ho, hev x _ hx, hev i _ hi, AV.den, Instr.indexAt, asIntOf, run_underlying hT, Instr.sureAddr, hE.sizeOf, h0.1, h0.2, add_lit]
end
def altW {γ : Type} (x y : Option γ) : Option γ := match x with
  | some a => some a
  | none => y
theorem alt_inv {γ : Type} {x y : Option γ} {r : γ} (h : altW x y = some r) : x = some r ∨ y = some r := by
  cases x with
  | none => exact .inr h
  | some a => exact .inl h
def yeP (b0 bg A S : Nat) : Bool × Nat → List AV := fun x => [.val (rawV b0 bg A S x)]
def ynP : Bool × Nat → List NEnt := fun _ => []
end Go.Proofs.Ythgbjhglhejalaa.Sy
end
section
set_option linter.unusedSimpArgs false
set_option linter.unusedVariables false
namespace Go.Proofs.Ythgbjhglhejalaa.Sy
open Go.RowKit Go.Shelf
theorem fc_growNil {P : Program} {ρ : Shelf.Ren} (L : Lays8.n4 P ρ) {T size bytes : Nat} (hT : SlT P T (ρ.t 25) size bytes) {k : Int} {m : Nat} (h0 : decide (0 ≤ k) = true) (hr : room bytes k.toNat = true) : FC P (ρ.f 4) [.val (.slice none 0 0), .val (.int .i64 k)] [] (.ref m) [.row m (ρ.t 25) size []] := by
  have h0' := of_decide_eq_true h0;obtain ⟨k, rfl⟩ : ∃ j : Nat, k = j := ⟨k.toNat, by omega⟩;simp only [Int.toNat_natCast, room, Bool.and_eq_true, decide_eq_true_eq] at hr;obtain ⟨i, z, hi, hz, hs, hb, hzs⟩ := hT.info;have hpos := hT.pos;intro env w0 R0 _ hR;have ha : (AV.denL env [AV.val (.slice none 0 0), AV.val (.int .i64 k)]).toArray = #[.slice none 0 0, .int .i64 k] := rfl;rw [ha]
  by_cases hk : k = 0
  · subst hk;refine (Any8.slices_Grow_room L none 0 0 0 w0 (Nat.le_refl _) (by omega) (by omega) (Nat.le_refl _)).mono ?_
    rintro e w' ⟨rfl, rfl⟩
    refine ⟨_, rfl, setEnv env m (.slice none 0 0), fun _ _ => False, R0, fun n hn => setEnv_other (hn (.row m (ρ.t 25) size []) (by simp)), by simp [AV.den, setEnv_same, oneOf], ?_⟩;refine St.fresh (Keep.refl _ _) hR ?_ (fun b hb => hb.elim);simp only [NEnt.holds, setEnv_same];exact ⟨by simp, [], ⟨by simp, .inl ⟨rfl, rfl⟩⟩, fun b hb => (by cases hb), fun q d hd => (by simp at hd)⟩
  · have hcm : grownCap w0 (0 + k) 0 (ρ.t 25) ≤ maxLen := grownCap_le_maxLen w0 (0 + k) 0 (ρ.t 25) (by simp only [maxLen]; omega);have hcg := grownCap_ge w0 (0 + k) 0 (ρ.t 25);refine (Any8.slices_Grow_grow L i z hi hz (by rw [hs]; exact hpos) none 0 0 k [] w0 (Nat.le_refl _) (by omega) (by rw [hb]; simp only [Nat.zero_add]; omega) (by omega) (by simp) (fun _ => rfl) (fun a ha => (by cases ha))).mono ?_
    rintro e w' ⟨rfl, rfl⟩
    refine ⟨_, rfl, setEnv env m (.slice (some ⟨w0.heap.size, 0, none⟩) 0 (grownCap w0 (0 + k) 0 (ρ.t 25))), fun _ b => b = w0.heap.size, R0, fun n hn => setEnv_other (hn (.row m (ρ.t 25) size []) (by simp)), by simp [AV.den, setEnv_same, oneOf], ?_⟩;refine St.fresh (Keep.of_below (((Below.refl _ w0).drew).alloc (Nat.le_refl _) _)) hR ?_ (fun b hb => by subst hb; exact ⟨Nat.le_refl _, by show _ < (Array.push w0.heap _).size; rw [Array.size_push]; exact Nat.lt_succ_self _⟩);simp only [NEnt.holds, setEnv_same];refine ⟨by simp, [], ⟨by simp, .inr ⟨w0.heap.size, grownCap w0 (0 + k) 0 (ρ.t 25), _, rfl, Nat.zero_le _, World.alloc_heap_new w0.drew _, Nat.zero_le _, hcm, ?_, by simp⟩⟩, fun b hb => ?_, fun q d hd => (by simp at hd)⟩
    · rw [Array.size_append, Array.size_append];simp [Builtin.zeroCells, hzs];rw [← Nat.add_mul]
      congr 1
      simp only [Nat.zero_add] at *
      omega
    · simp [Value.ownBlock] at hb; exact hb.symm
end Go.Proofs.Ythgbjhglhejalaa.Sy
end
section
set_option linter.unusedSimpArgs false
set_option linter.unusedVariables false
namespace Go.Proofs.Ythgbjhglhejalaa.Sy
open Go.RowKit
section
variable {P : Program} {c : Ctx} {sz : Fm} {Q : Exit → Act → World → Prop} {t : List Item} {s : List (Nat × AV)} {V : List NEnt} {ops : Array Oper} {rest : List Oper} {o : Oper} {ρ : Operand → Option AV}
end
end Go.Proofs.Ythgbjhglhejalaa.Sy
end
section
set_option linter.unusedSimpArgs false
set_option linter.unusedVariables false
namespace Go.Proofs.Ythgbjhglhejalaa.Sy
open Go.RowKit
section
variable {P : Program} {o : Oper} {ρ : Operand → Option AV}
end
def mitM {κ ν : Type} (ek : κ → Value) (ag : Bool) (ev : ν → List D) (u : Value) (xs left : List (κ × ν)) (cur : Option (κ × ν)) : Inv :=
  ⟨fun W O R v => ∃ (it m : Nat) (seen : Array Nat) (cl : Nat) (es : Array MapEntry) (zs ys : List (κ × ν)), v = .pointer (some ⟨it, 0, none⟩) ∧ u = .map (some m) ∧ O it ∧ O m ∧ it ≠ m ∧ W.heap[it]? = some (.mapIter (some m) cl seen cl) ∧ W.heap[m]? = some (.map es cl) ∧ EsOk ek ag ev W R es.toList zs ∧ MapOk es.toList cl zs xs ∧
      EsOk ek ag ev W R (unseen es seen) ys ∧ ys.Perm left ∧ ∀ x, cur = some x → ∃ e, seen.back? = some e.born ∧ e ∈ es.toList ∧ e.key = ek x.1 ∧ VOk ag (ev x.2) W R e.val,
   fun W W' O R R' hO hR v ⟨it, m, seen, cl, es, zs, ys, h1, h2, h3, h4, h5, h6, h7, h8, h9, h10, h11, h12⟩ => ⟨it, m, seen, cl, es, zs, ys, h1, h2, h3, h4, h5, (hO it h3).trans h6, (hO m h4).trans h7, h8.keep hR, h9, h10.keep hR, h11,
      fun x hx => by obtain ⟨e, g1, g2, g3, g4⟩ := h12 x hx; exact ⟨e, g1, g2, g3, g4.keep hR⟩⟩⟩
section
variable {P : Program} {o : Oper} {ρ : Operand → Option AV}
end
section
variable {P : Program} {c : Ctx} {sz : Fm} {Q : Exit → Act → World → Prop} {t : List Item} {s : List (Nat × AV)} {V : List NEnt} {ops : Array Oper} {rest : List Oper} {o o1 o2 : Oper}
theorem TL.endM {κ ν : Type} {n m g : Nat} {ek : κ → Value} {ag : Bool} {ev : ν → List D} {u0 : Value} {xs left : List (κ × ν)} {cur : Option (κ × ν)} (i j : Nat) (hi : V[i]? = some (.inv n (mitM ek ag ev u0 xs left cur))) (hj : V[j]? = some (.pin g m u0)) (hij : Nat.beq i j = false) (hn : ((V.map NEnt.name).contains m) = false)
    (h : TL P c sz Q ops rest t s (V.set i (.inv m (mapI ek ag ev xs)))) : TL P c sz Q ops rest t s V := by
  intro env tm W O R hfr hst;have hv := hst.holds _ (List.mem_of_getElem? hi);have hp : env m = u0 := hst.holds _ (List.mem_of_getElem? hj);obtain ⟨O2, h2⟩ := hst.rename (y := .inv m (mapI ek ag ev xs)) hi (fun h => by have h := List.contains_iff_mem.2 (show m ∈ V.map NEnt.name from h); rw [hn] at h; cases h) (by
    obtain ⟨it, r, seen, cl, es, zs, ys, h1, h2, h3, h4, h5, h6, h7, h8, h9, _⟩ := hv;exact ⟨r, cl, es, zs, by rw [hp]; exact h2, h4, h7, h8, h9⟩)
  exact h env tm W O2 R hfr h2
end
end Go.Proofs.Ythgbjhglhejalaa.Sy
end
section
set_option linter.unusedSimpArgs false
set_option linter.unusedVariables false
namespace Go.Proofs.Ythgbjhglhejalaa.Sy
open Go.RowKit
section
variable {P : Program} {o : Oper} {ρ : Operand → Option AV} {X : Type} {T' n : Nat} {enc : X → List Value} {xs : List X}
theorem sp_fieldAddrX {T : TypeId} {x : Operand} {f off ft sz k : Nat} {ag : Bool} {y : NEnt} (ho : o.op = .fieldAddr T x f) (hy : IsArr y n T' enc xs) (hx : ρ x = some (.ptr n k)) (hf : FieldT P T f off ft) (hT : VarT P ft sz ag) (h0 : sz ≠ 0) : OpSpec P o ρ [y] (.ptr n (k + off)) [] :=
  .pure fun ev env W O R he hn => by
    obtain ⟨fs, fd, h1, h2, h3, h4⟩ := hf;subst h3; subst h4;obtain ⟨b, hb, _⟩ := arr_holds hy (hn _ (List.mem_singleton.2 rfl));simp [execOp, ho, he x _ hx, AV.den, hb, blockOff, Instr.fieldAt, run_underlying h1, h2, Instr.sureAddr, fieldPlace, hT.sizeOf, h0, add_lit]
theorem sp_buildZ {T : Nat} {cs : List Value} (ho : o.op = .build T #[]) (hb : P.built T [] = some cs.toArray) : OpSpec P o ρ [] (.val (.agg cs.toArray)) [] :=
  .pure fun ev env W O R he _ => by
    have h3 := run_build W T (#[] : Array (Nat × Value)) _ hb;simp only [execOp, ho, Sem.run_bind, Sem.run_pure, Result.andThen_ok, AV.den];have e : (#[] : Array (Nat × Operand)).map (fun x => (x.1, ev x.2)) = #[] := by simp
    rw [e, h3]
    rfl
theorem sp_boxX {T N : Nat} {x : Operand} {cs : List Value} (m : Nat) (z0 : X) (ho : o.op = .box T x) (hx : ρ x = some (.val (.agg cs.toArray))) (hc : cs = (List.replicate N z0).flatMap enc) : OpSpec P o ρ [] (.ptr m 0) [.inv m (arrI T enc (List.replicate N z0))] := by
  intro ev env W O R he hn _ hR;have : (execOp ev o).run P W = .ok (.value (.pointer (some ⟨W.heap.size, 0, none⟩))) (W.alloc (.cells cs.toArray T (0, 0))) := by
    have hx' := he x _ hx;simp only [AV.den] at hx';simp [execOp, ho, Instr.box, newVar, newRow, hx', Value.cells]
  rw [this];refine ⟨setEnv env m (.pointer (some ⟨W.heap.size, 0, none⟩)), fun _ b => b = W.heap.size, R, fun q hq => setEnv_other (hq _ (List.mem_singleton.2 rfl)), by simp [AV.den, setEnv_same, blockOff], ?_⟩;refine St.fresh (keep_alloc W _) hR ?_ (fun b hb => by subst hb; simp);simp only [NEnt.holds, setEnv_same];exact ⟨_, rfl, rfl, by rw [← hc]; exact World.alloc_heap_new W _⟩
theorem FC.atPtr {f off k : Nat} {i : AV} {y : NEnt} (hy : ∀ (env : Env) (W : World) (R : Nat → Prop), y.holds env W (fun _ => False) R → ∃ b, env n = .pointer (some ⟨b, 0, none⟩)) (h : ∀ b, FC P f [.val (.pointer (some ⟨b, off, none⟩)), i] [] (.val (.pointer (some ⟨b, off + k, none⟩))) []) :
    FC P f [.ptr n off, i] [y] (.ptr n (off + k)) [] := by
  intro env w0 R0 hn hR;obtain ⟨b, hb⟩ := hy env w0 R0 (hn _ (List.mem_singleton.2 rfl));have h2 := h b env w0 R0 (by simp) hR;have e : AV.denL env [.ptr n off, i] = AV.denL env [.val (.pointer (some ⟨b, off, none⟩)), i] := by simp [AV.denL, AV.den, hb, blockOff]
  rw [e];refine h2.mono ?_
  rintro en w' ⟨u, he, env', O', R', ha, hu, hst⟩
  refine ⟨u, he, env', O', R', ha, ?_, hst⟩;have hn' : env' n = env n := ha n (by simp);rw [hu];simp [AV.den, hn', hb, blockOff]
theorem FC.atX {f off k : Nat} {i : AV} {y : NEnt} (hy : ∀ {env : Env} {W : World} {R : Nat → Prop}, y.holds env W (fun _ => False) R → ∃ b, env n = .pointer (some ⟨b, 0, none⟩)) (h : ∀ b, FC P f [.val (.pointer (some ⟨b, off, none⟩)), i] [] (.val (.pointer (some ⟨b, off + k, none⟩))) []) :
    FC P f [.ptr n off, i] [y] (.ptr n (0 + ((off + k) * 1))) [] := by
  rw [Nat.zero_add, Nat.mul_one];exact FC.atPtr (fun _ _ _ => hy) h
theorem arrR_ptr {env : Env} {W : World} {R : Nat → Prop} (h : (NEnt.any n (arrI T' enc xs).froz).holds env W (fun _ => False) R) : ∃ b, env n = .pointer (some ⟨b, 0, none⟩) := by
  obtain ⟨O, _, b, h1, _⟩ := h;exact ⟨b, h1⟩
theorem sp_lookupA {κ ν Y : Type} [BEq κ] [LawfulBEq κ] {M K V n T : Nat} {x i : Operand} {ek : κ → Value} {ev : ν → List D} {xs : List (κ × ν)} {y : NEnt} (m : Nat) (k : κ) (p : ν) {encY : Y → List Value} {ps : List Y} {ka : AV} (hS : mlook xs k = some p) (ho : o.op = .lookup M x i true) (hx : ρ x = some (.ref n)) (hi : ρ i = some ka) (hka : ∀ e, ka.den e = ek k) (hy : IsMapE y n ek false ev xs) (hk : MKey P M K V ek)
    (hz : ∀ w, (zeroValue V).run P w = .ok (.pointer none) w) (hev : ev p = [(arrI T encY ps).froz]) : OpSpec P o ρ [y] (.tup [.ptr m 0, .val (.bool true)]) [.any m (arrI T encY ps).froz] := by
  intro evl env W O R he hn _ hR;obtain ⟨r, cl, es, ys, h1, h2, h3, h4⟩ := map_read hy (hn _ (List.mem_singleton.2 rfl));have hx' := he x _ hx;simp only [AV.den, h1, oneOf] at hx';have hi' := he i _ hi;rw [hka] at hi';obtain ⟨u, hu, hrun⟩ := look_ptr hk h2 h3 k hz;rw [mlook_perm h4.1 h4.2.1, hS] at hu hrun;have : (execOp evl o).run P W = .ok (.value (.tuple #[u, .bool true])) W := by
    simp only [execOp, ho, hx', hi', Sem.run_bind, hrun, Result.andThen_ok, Sem.run_pure, Option.isSome_some]
  rw [this];obtain ⟨cs, hc1, hc2, hc3, hc4⟩ := hu;simp only [evO, hev] at hc3 hc4;obtain ⟨u0, g1, hdok, _⟩ := hc4 0 _ rfl;have hd2 := hdok;obtain ⟨O', hO', b, q1, q2, q3⟩ := hdok;have hu : u = .pointer (some ⟨b, 0, none⟩) := by
    rw [hc2]
    cases cs with
    | nil => simp at g1
    | cons c l => simp at g1; subst g1; exact q1
  subst hu;rw [q1] at hd2;refine ⟨setEnv env m (.pointer (some ⟨b, 0, none⟩)), _, R, fun k hk => setEnv_other (hk _ (List.mem_singleton.2 rfl)), by simp [AV.den, AV.denL, setEnv_same, blockOff], St.roNews hR (fun z hz O => ?_) (by simp)⟩;rw [List.mem_singleton] at hz;subst hz;simp only [NEnt.holds, setEnv_same];exact hd2
end
theorem vok_arr {Y : Type} {m T : Nat} {encY : Y → List Value} {ps : List Y} {env : Env} {W : World} {O R : Nat → Prop} (h : (NEnt.any m (arrI T encY ps).froz).holds env W O R) : VOk false [(arrI T encY ps).froz] W R ((AV.ptr m 0).den env) := by
  have h' := h;obtain ⟨O', hO', b, h1, h2, h3⟩ := h;have e : (AV.ptr m 0).den env = .pointer (some ⟨b, 0, none⟩) := by simp [AV.den, h1, blockOff]
  rw [e];refine ⟨[.pointer (some ⟨b, 0, none⟩)], by simp [Value.cells], rfl, rfl, fun j d hj => ?_⟩
  cases j with
  | succ j => simp at hj
  | zero =>
    simp at hj;subst hj;exact ⟨_, rfl, ⟨O', hO', b, rfl, h2, h3⟩, rfl⟩
section
variable {P : Program} {o : Oper} {s : List (Nat × AV)}
theorem ts_mapUpdateV {κ ν : Type} [BEq κ] [LawfulBEq κ] {M K V n : Nat} {x i y : Operand} {ek : κ → Value} {ag : Bool} {ev : ν → List D} {xs : List (κ × ν)} (k : κ) (d : ν) {ka va : AV} {ys : List (κ × ν)} {need : List NEnt} (ho : o.op = .mapUpdate M x i y) (hx : rho s x = some (.ref n)) (hi : rho s i = some ka) (hka : ∀ e, ka.den e = ek k) (hy : rho s y = some va)
    (hvk : ∀ (env : Env) (W : World) (O : Nat → Nat → Prop) (R : Nat → Prop), (∀ z ∈ need, z.holds env W (O z.name) R) → VOk ag (ev d) W R (va.den env)) (hk : MKey P M K V ek) (hys : (xs.map (·.1)).Nodup → ys.Perm (mput xs k d)) :
    TSpec P o (rho s) [.inv n (mapI ek ag ev xs)] need (.val undef) [.inv n (mapI ek ag ev ys)] := by
  intro evl c env W0 W O R he hst ht hnd _;have hm := ht _ (List.mem_singleton.2 rfl);obtain ⟨kk, hkk⟩ := List.mem_iff_getElem?.1 hm;obtain ⟨r, cl, es, zs, h1, hOr, h2, h3, hp, hnd', hb⟩ := hst.holds _ hm;have hys' := hys ((hp.map _).nodup_iff.1 hnd');have hx' := he x _ hx;simp only [AV.den, h1, oneOf] at hx';have hi' := he i _ hi;rw [hka] at hi';have hy' := he y _ hy;have hvo : VOk ag (ev d) W R (va.den env) := hvk env W O R fun z hz => hst.holds z (hnd z hz)
  have hf := hk.find k es.toList (zs.map (·.1)) W h3.keys;have hR' : ∀ b, R b → b ≠ r := fun b hb e => (hst.own _ hm r hOr).2.2 (e ▸ hb)
  have hlt : r < W.heap.size := (Array.getElem?_eq_some_iff.1 h2).1;have key : ∀ (es' : Array MapEntry) (cl' : Nat), EsOk ek ag ev W R es'.toList (mput zs k d) → BornOk es'.toList cl' → St c env ([.inv n (mapI ek ag ev ys)] ++ delV [n] W0) (W.putObj r (.map es' cl')) O R := by
    intro es' cl' hes hbo;refine St.set_del hkk hst.names rfl (hst.write kk hkk ⟨rfl, rfl, rfl, by simp, fun b _ hb => World.putObj_heap_other fun e => hb (e ▸ hOr)⟩ rfl ?_)
    exact ⟨r, cl', es', _, h1, hOr, World.putObj_heap_same hlt, hes.keep fun b hb => ⟨hb, World.putObj_heap_other (hR' b hb)⟩, (mput_perm hp hnd' k d).trans hys'.symm, nodup_put hnd' k d, hbo⟩
  cases hfi : (zs.map (·.1)).findIdx? (· == k) with
  | none =>
    rw [hfi] at hf;have hrun : (execOp evl o).run P W = .ok .skip (W.putObj r (.map (es.push { key := ek k, val := va.den env, born := cl }) (cl + 1))) := by
      simp only [execOp, ho, Instr.mapUpdate, hx', hi', hy', Sem.run_bind, run_underlying hk.under, Result.andThen_ok, getObj_map h2, hk.check, hf, Option.bind_none, setObj_map _ h2, Sem.run_pure]
    rw [hrun];refine ⟨env, O, R, fun _ _ => rfl, rfl, key _ _ ?_ ?_⟩
    · simp only [mput, mfind, hfi, Array.toList_push];exact h3.snoc rfl hvo
    · rw [Array.toList_push]; exact hb.push rfl
  | some j =>
    have hjl : j < zs.length := by have := (List.findIdx?_eq_some_iff_getElem.1 hfi).1; simpa using this
    obtain ⟨e, hej, hek, _⟩ := h3.at (i := j) (x := zs[j]) (by simp [hjl]);rw [hfi] at hf;simp only [Option.bind_some, hej, Option.map_some] at hf;have hke : e.key = ek k := by rw [hek]; exact hk.eq _ k j _ hfi (by simp [hjl])
    have hej' : es[j]? = some e := by simpa using hej
    have hrun : (execOp evl o).run P W = .ok .skip (W.putObj r (.map (es.modify j fun e => { e with key := ek k, val := va.den env }) cl)) := by
      simp only [execOp, ho, Instr.mapUpdate, hx', hi', hy', Sem.run_bind, run_underlying hk.under, Result.andThen_ok, getObj_map h2, hk.check, hf, hej', Option.map_some, Option.getD_some, hke, hk.stay, setObj_map _ h2, Sem.run_pure]
    rw [hrun];refine ⟨env, O, R, fun _ _ => rfl, rfl, key _ _ ?_ ?_⟩
    rotate_left
    · refine hb.same ?_;rw [Array.toList_modify];apply List.ext_getElem?;intro q;rw [List.getElem?_map, List.getElem?_map, List.getElem?_modify]
      by_cases e' : j = q
      · subst e'; cases es.toList[j]? <;> simp
      · simp [e']
    simp only [mput, mfind, hfi, Array.toList_modify];have : es.toList.modify j (fun e => { e with key := ek k, val := va.den env }) = es.toList.set j { e with key := ek k, val := va.den env } := by
      apply List.ext_getElem?;intro q;rw [List.getElem?_modify, List.getElem?_set]
      by_cases e' : j = q
      · subst e';have hq : j < es.toList.length := (List.getElem?_eq_some_iff.1 hej).1;simp [hej]
        simpa using hq
      · simp [e']
    rw [this];exact h3.set j rfl hvo
end
end Go.Proofs.Ythgbjhglhejalaa.Sy
end
