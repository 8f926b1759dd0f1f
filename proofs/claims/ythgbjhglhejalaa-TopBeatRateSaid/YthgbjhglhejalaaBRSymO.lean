/- Arguments that came in, opened by their types, as entries of a symbolic state. -/
import Derived.Test.YthgbjhglhejalaaBRSymIJ
import Derived.OpenShut
import Derived.Deep.SlicePairs
set_option linter.unusedSimpArgs false
set_option linter.unusedVariables false
namespace Go.Proofs.Ythgbjhglhejalaa.Sy
open Go.RowKit Go.Deep Go.ChangeShapes Go.WideShapes
def OkL (w : World) : List Value → List D → Prop
  | [], [] => True
  | u :: us, d :: ds => (d.ok w (fun b => b < w.heap.size) u ∧ u.oneCell' = true) ∧ OkL w us ds
  | _, _ => False
theorem okL_cons {w : World} {cs : List Value} {d : D} {ds : List D} (h : OkL w cs (d :: ds)) : ∃ u us, cs = u :: us ∧ d.ok w (fun b => b < w.heap.size) u ∧ OkL w us ds := by
  cases cs with
  | nil => exact h.elim
  | cons u us => exact ⟨u, us, rfl, h.1.1, h.2⟩
theorem okL_nil {w : World} {cs : List Value} (h : OkL w cs []) : cs = [] := by
  cases cs with
  | nil => rfl
  | cons u us => exact h.elim
theorem OkL.append {w : World} : ∀ {cs : List Value} {ds : List D} {cs' : List Value} {ds' : List D}, OkL w cs ds → OkL w cs' ds' → OkL w (cs ++ cs') (ds ++ ds') := by
  intro cs
  induction cs with
  | nil => intro ds cs' ds' h k; cases ds with
    | nil => exact k
    | cons d ds => exact h.elim
  | cons u us ih => intro ds cs' ds' h k; cases ds with
    | nil => exact h.elim
    | cons d ds => exact ⟨h.1, ih h.2 k⟩
theorem OkL.len {w : World} : ∀ {cs : List Value} {ds : List D}, OkL w cs ds → cs.length = ds.length := by
  intro cs
  induction cs with
  | nil => intro ds h; cases ds with
    | nil => rfl
    | cons d ds => exact h.elim
  | cons u us ih => intro ds h; cases ds with
    | nil => exact h.elim
    | cons d ds => simp [ih h.2]
theorem OkL.at {w : World} : ∀ {cs : List Value} {ds : List D}, OkL w cs ds → ∀ (j : Nat) (d : D), ds[j]? = some d → ∃ u : Value, cs[j]? = some u ∧ d.ok w (fun b => b < w.heap.size) u ∧ u.oneCell' = true := by
  intro cs
  induction cs with
  | nil => intro ds h j d hd; cases ds with
    | nil => simp at hd
    | cons d ds => exact h.elim
  | cons u us ih => intro ds h j d hd; cases ds with
    | nil => exact h.elim
    | cons d0 ds => cases j with
      | zero => simp at hd; subst hd; exact ⟨u, rfl, h.1⟩
      | succ j => obtain ⟨u', h1, h2⟩ := ih h.2 j d (by simpa using hd); exact ⟨u', by simpa using h1, h2⟩
def Opens (P : Program) (T : TypeId) (size : Nat) {α : Type} (en : α → List D) (wf : α → Prop) : Prop :=
  P.cellsOf T = size ∧ ∀ {H : Type} (enc : TypeId × Value → H) (w : World) (base : Nat) (spare : Nat → Bool) (held : Bool) (n : Nat) (cs : List Value) (x : DataW H × List MemPlace),
    DataW.trod enc P w base spare held n T cs = some x → ∃ a, wf a ∧ OkL w cs (en a)
theorem Opens.map {P : Program} {T : TypeId} {size : Nat} {α β : Type} {en : α → List D} {wf : α → Prop} (h : Opens P T size en wf) (f : α → β) {en' : β → List D} {wf' : β → Prop} (he : ∀ a, en a = en' (f a)) (hw : ∀ a, wf a → wf' (f a)) : Opens P T size en' wf' :=
  ⟨h.1, fun enc w base spare held n cs x hx => by
    obtain ⟨a, h1, h2⟩ := h.2 enc w base spare held n cs x hx;exact ⟨f a, hw a h1, by rw [← he]; exact h2⟩⟩
theorem opens_int {P : Program} {T : TypeId} {k : IntKind} (hu : P.underlying T = some (.int k)) (hc : P.cellsOf T = 1) : Opens P T 1 (fun z : Int => [D.v (.int k z)]) (fun z => (Lit.int k z).wf = true) := by
  refine ⟨hc, fun enc w base spare held n cs x hx => ?_⟩;obtain ⟨z, rfl, _, hw⟩ := DataW.trod_int hu hx;exact ⟨z, hw, ⟨rfl, rfl⟩, trivial⟩
theorem choose_list {β : Type} {p : Nat → β → Prop} : ∀ n : Nat, (∀ i, i < n → ∃ q, p i q) → ∃ l : List β, l.length = n ∧ ∀ i q, l[i]? = some q → p i q := by
  intro n
  induction n with
  | zero => intro _; exact ⟨[], rfl, by simp⟩
  | succ n ih =>
    intro h;obtain ⟨l, h1, h2⟩ := ih fun i hi => h i (by omega)
    obtain ⟨q, hq⟩ := h n (by omega);refine ⟨l ++ [q], by simp [h1], fun i q' hi => ?_⟩;rcases Nat.lt_or_ge i n with hlt | hge
    · rw [List.getElem?_append_left (by omega)] at hi; exact h2 i q' hi
    · rw [List.getElem?_append_right (by omega)] at hi;have : i - l.length = 0 := by
        have := (List.getElem?_eq_some_iff.1 hi).1;simp at this; omega
      rw [this] at hi; simp at hi; subst hi;have : i = n := by omega
      subst this; exact hq
theorem opens_slice {P : Program} {T E : TypeId} {size : Nat} {α : Type} {en : α → List D} {wf : α → Prop} (hu : P.underlying T = some (.slice E)) (hc : P.cellsOf T = 1) (hs : 0 < size) (he : Opens P E size en wf) :
    Opens P T 1 (fun xs : List α => [D.s size (xs.map en)]) (fun xs => xs.length ≤ maxLen ∧ ∀ x ∈ xs, wf x) := by
  refine ⟨hc, fun enc w base spare held n cs x hx => ?_⟩;rcases open_slice hu hx with ⟨rfl, _⟩ | ⟨a, len, cap, m, n', D', Pl, rfl, hb, hl, hm, hmm, _, hel⟩
  · exact ⟨[], ⟨by simp [maxLen], by simp⟩, ⟨⟨none, 0, rfl, by simp, by simp [maxLen], fun _ => rfl, fun i el h => by simp at h⟩, rfl⟩, trivial⟩
  · have hlm : len ≤ m := by rw [hmm]; split <;> omega
    have each : ∀ i, i < len → ∃ q : α × List Value, wf q.1 ∧ OkL w q.2 (en q.1) ∧ q.2.length = size ∧ w.cells? base (a.add (i * size)) size = some q.2 := by
      intro i hi;obtain ⟨cs', h1, h2⟩ := hel i (by omega);rw [he.1] at h1;obtain ⟨_, hlen, _⟩ := World.cells?_some h1;obtain ⟨q, hq, hok⟩ := he.2 enc w base spare held n' cs' _ h2;exact ⟨(q, cs'), hq, hok, hlen, h1⟩
    obtain ⟨q, hql, hq⟩ := choose_list len each;refine ⟨q.map Prod.fst, ⟨by simp [hql]; omega, fun x hx => ?_⟩, ⟨⟨some a, cap, by simp [hql], by simp [hql, hl], hm, (fun h => by cases h), fun i el hi => ?_⟩, rfl⟩, trivial⟩
    · obtain ⟨y, hy, rfl⟩ := List.mem_map.1 hx;obtain ⟨i, hi⟩ := List.mem_iff_getElem?.1 hy;exact (hq i y hi).1
    · rw [List.map_map, List.getElem?_map] at hi;obtain ⟨y, hy, hel'⟩ := Option.map_eq_some_iff.1 hi;obtain ⟨h1, h2, h3, h4⟩ := hq i y hy;simp only [Function.comp] at hel';subst hel';refine ⟨by rw [← h2.len, h3], fun j d hj => ?_⟩;obtain ⟨u, hu1, hu2, hu3⟩ := h2.at j d hj;have hjs : j < size := by rw [← h3]; exact (List.getElem?_eq_some_iff.1 hu1).1
      obtain ⟨_, hlen, hcell⟩ := World.cells?_some h4;have hc1 := hcell j (by omega);rw [add_add] at hc1;have hu' : y.2[j]? = some u := hu1;have hc2 : w.cell? (a.add (i * size + j)) = some u := by
        rw [hc1]; exact hu'
      obtain ⟨b, o, sp⟩ := a;have hsp : sp = none := by
        have h0l : 0 < q.length := by have := (List.getElem?_eq_some_iff.1 hy).1; omega
        obtain ⟨_, _, g3, g4⟩ := hq 0 q[0] (by simp [h0l]);obtain ⟨_, glen, gcell⟩ := World.cells?_some g4;have g5 := gcell 0 hs;rw [List.getElem?_eq_getElem (by omega)] at g5
        simpa [Addr.add] using World.cell?_spot g5
      subst hsp;have e1 : (⟨b, o, none⟩ : Addr).add (i * size + j) = ⟨b, o + (i * size + j), none⟩ := by unfold Addr.add; split <;> simp_all
      rw [e1] at hc2;refine ⟨b, o, rfl, ?_, u, hc2, hu2, hu3⟩;rcases Nat.lt_or_ge b w.heap.size with g | g
      · exact g
      · rw [World.cell?, Array.getElem?_eq_none g] at hc2; cases hc2
def offs (parts : List (TypeId × Nat)) (i : Nat) : Nat := ((parts.take i).map Prod.snd).sum
def OpensP (P : Program) (parts : List (TypeId × Nat)) (size : Nat) {α : Type} (en : α → List D) (wf : α → Prop) : Prop :=
  ∀ {H : Type} (enc : TypeId × Value → H) (w : World) (base : Nat) (spare : Nat → Bool) (held : Bool) (n : Nat) (cs : List Value), cs.length = size →
    (∀ i T s, parts[i]? = some (T, s) → ∃ x, DataW.trod enc P w base spare held n T ((cs.drop (offs parts i)).take s) = some x) → ∃ a, wf a ∧ OkL w cs (en a)
theorem parts_nil {P : Program} : OpensP P [] 0 (fun _ : Unit => []) (fun _ => True) := by
  intro H enc w base spare held n cs hl _;have : cs = [] := List.length_eq_zero_iff.1 hl;subst this;exact ⟨(), trivial, trivial⟩
theorem parts_cons {P : Program} {T : TypeId} {s size : Nat} {parts : List (TypeId × Nat)} {α β : Type} {en : α → List D} {wf : α → Prop} {en' : β → List D} {wf' : β → Prop} (h : Opens P T s en wf) (hs : OpensP P parts size en' wf') :
    OpensP P ((T, s) :: parts) (s + size) (fun p : α × β => en p.1 ++ en' p.2) (fun p => wf p.1 ∧ wf' p.2) := by
  intro H enc w base spare held n cs hl hp;obtain ⟨x, hx⟩ := hp 0 T s rfl;obtain ⟨a, h1, h2⟩ := h.2 enc w base spare held n _ x hx;obtain ⟨b, h3, h4⟩ := hs enc w base spare held n (cs.drop s) (by simp [hl]) (fun i T' s' hi => by
    obtain ⟨y, hy⟩ := hp (i + 1) T' s' (by simpa using hi);refine ⟨y, ?_⟩;rw [List.drop_drop]
    simpa [offs] using hy)
  refine ⟨(a, b), ⟨h1, h3⟩, ?_⟩;have := h2.append h4
  simpa [offs] using this
def chkF (P : Program) : List Field → Nat → List (TypeId × Nat) → Bool
  | [], _, [] => true
  | f :: fs, off, (T, s) :: ps => f.type == T && P.cellsOf f.type == s && f.offset == off && chkF P fs (off + s) ps
  | _, _, _ => false
theorem chkF_at {P : Program} : ∀ {fs : List Field} {off : Nat} {ps : List (TypeId × Nat)}, chkF P fs off ps = true → ∀ i T s, ps[i]? = some (T, s) → ∃ f, fs[i]? = some f ∧ f.type = T ∧ P.cellsOf f.type = s ∧ f.offset = off + offs ps i := by
  intro fs
  induction fs with
  | nil => intro off ps h i T s hi; cases ps with
    | nil => simp at hi
    | cons p ps => cases h
  | cons f fs ih =>
    intro off ps h i T s hi
    cases ps with
    | nil => simp at hi
    | cons p ps =>
      obtain ⟨T0, s0⟩ := p;simp only [chkF, Bool.and_eq_true, beq_iff_eq] at h;obtain ⟨⟨⟨h1, h2⟩, h3⟩, h4⟩ := h
      cases i with
      | zero => simp at hi; obtain ⟨rfl, rfl⟩ := hi; exact ⟨f, rfl, h1, h2, by simp [offs, h3]⟩
      | succ i =>
        obtain ⟨g, g1, g2, g3, g4⟩ := ih h4 i T s (by simpa using hi);exact ⟨g, by simpa using g1, g2, g3, by rw [g4]; simp [offs]; omega⟩
theorem opens_struct {P : Program} {T : TypeId} {fs : Array Field} {parts : List (TypeId × Nat)} {size : Nat} {α : Type} {en : α → List D} {wf : α → Prop} (hu : P.underlying T = some (.struct fs)) (hc : P.cellsOf T = size) (hf : chkF P fs.toList 0 parts = true) (hp : OpensP P parts size en wf) : Opens P T size en wf := by
  refine ⟨hc, fun enc w base spare held n cs x hx => ?_⟩;obtain ⟨xs, k, _, _, hl, hxl, hx'⟩ := DataW.trod_struct hu hx;refine hp enc w base spare held k cs (by rw [hl, hc]) fun i T' s hi => ?_
  obtain ⟨f, h1, h2, h3, h4⟩ := chkF_at hf i T' s hi;have h5 := hx' i f (by simpa using h1);have hi' : i < fs.size := by simpa using (List.getElem?_eq_some_iff.1 h1).1
  rw [h2, ← h2, h3, h4, Nat.zero_add, h2] at h5;exact ⟨xs[i]'(by omega), by rw [h5]; simp [hxl, hi']⟩
theorem offs_replicate {E s n : Nat} : ∀ {i : Nat}, i ≤ n → offs (List.replicate n (E, s)) i = i * s := by
  intro i hi;simp [offs, List.take_replicate, Nat.min_eq_left hi]
theorem opens_array {P : Program} {T E : TypeId} {m s size : Nat} {α : Type} {en : α → List D} {wf : α → Prop} (hu : P.underlying T = some (.array m E)) (hc : P.cellsOf T = size) (he : P.cellsOf E = s) (hp : OpensP P (List.replicate m (E, s)) size en wf) : Opens P T size en wf := by
  refine ⟨hc, fun enc w base spare held n cs x hx => ?_⟩;obtain ⟨xs, k, _, _, hl, hxl, hx'⟩ := DataW.trod_array hu hx;refine hp enc w base spare held k cs (by rw [hl, hc]) fun i T' s' hi => ?_
  have hlt : i < m := by simpa using (List.getElem?_eq_some_iff.1 hi).1
  simp [List.getElem?_replicate, hlt] at hi;obtain ⟨rfl, rfl⟩ := hi;have h5 := hx' i hlt;rw [he] at h5;rw [offs_replicate (Nat.le_of_lt hlt)];exact ⟨xs[i]'(by omega), by rw [h5]; simp [hxl, hlt]⟩
section
variable {H : Type} {enc : TypeId × Value → H} {P : Program} {w : World} {base b0 : Nat} {spare : Nat → Bool} {held : Bool} {t : TypeId} {r : Reach} {v : Value} {d : DataW H} {p : List MemPlace}
theorem arg_agg {size : Nat} {α : Type} {en : α → List D} {wf : α → Prop} (hv : ∃ cs, v = .agg cs) (ho : Opens P t size en wf) (h : DataW.Trod enc P w base spare held t v d p) :
    ∃ (a : α) (cs : List Value), wf a ∧ v = .agg cs.toArray ∧ OkL w cs (en a) := by
  obtain ⟨cs, rfl⟩ := hv;obtain ⟨n, hn⟩ := h;obtain ⟨a, h1, h2⟩ := ho.2 enc w base spare held n _ _ hn;exact ⟨a, cs.toList, h1, by simp, by simpa [Value.cells] using h2⟩
theorem agg_array {n : Nat} {e : TypeId} (ht : P.underlying t = some (.array n e)) (h : Value.okWide P w r b0 t v) : ∃ cs, v = .agg cs := by
  simp only [Value.okWide, ht] at h;obtain ⟨cs, h1, _⟩ := h;exact ⟨cs, h1⟩
theorem agg_struct {fs : Array Field} (ht : P.underlying t = some (.struct fs)) (h : Value.okWide P w r b0 t v) : ∃ cs, v = .agg cs := by
  simp only [Value.okWide, ht] at h;obtain ⟨cs, h1, _⟩ := h;exact ⟨cs, h1⟩
end
theorem reads_slice {size : Nat} {els : List (List D)} {W : World} {R : Nat → Prop} {v : Value} (h : reads size els W R v) : ∃ a n cap, v = .slice a n cap := by
  obtain ⟨a, cap, h, _⟩ := h;exact ⟨a, _, cap, h⟩
theorem FC.run {P : Program} {f : Nat} {args : List AV} {need : List NEnt} {b : Bool} {vs : Array Value} {W : World} (h : FC P f args need (.val (.bool b)) []) (env : Env) (hvs : (AV.denL env args).toArray = vs) (hn : ∀ x ∈ need, x.holds env W (fun _ => False) (fun b => b < W.heap.size)) :
    Calls P f vs W fun e W' => e = .returned (.bool b) ∧ Below W.heap.size W W' := by
  subst hvs;refine (h env W (fun b => b < W.heap.size) hn (fun _ h => h)).mono ?_
  rintro e W' ⟨u, rfl, env', O', R', _, rfl, hst⟩
  exact ⟨rfl, hst.keep.below⟩
end Go.Proofs.Ythgbjhglhejalaa.Sy
