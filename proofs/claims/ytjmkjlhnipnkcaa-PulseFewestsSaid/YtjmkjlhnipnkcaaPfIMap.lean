/- Maps of integers as functions to options: laws at the operations, whatever the type of the key. -/
import Derived.Test.YtjmkjlhnipnkcaaPfRange
import Derived.Maps.RangeWalk
set_option linter.unusedSimpArgs false
set_option linter.unusedVariables false
set_option linter.unusedSectionVars false
namespace Go.Proofs.Ytjmkjlhnipnkcaa
open Go.RowKit Go.Shelf Go.Maps
structure KeyEnc (P : Program) (k : TypeId) (κ : Type) where
  K : Keyed P k
  kv : κ → Value
  kl : κ → Lit
  ok : κ → Prop
  enc : ∀ d, ok d → keyOf P k (kv d) = some (kl d)
  dec : ∀ v l, keyOf P k v = some l → ∃ d, ok d ∧ v = kv d
  inj : ∀ d d', kv d = kv d' → d = d'
section
variable {P : Program} {k e : TypeId} {κ : Type} (E : KeyEnc P k κ)
theorem KeyEnc.dec' {v : Value} {l : Lit} (h : keyOf P k v = some l) : ∃ d, E.ok d ∧ v = E.kv d ∧ l = E.kl d := by
  obtain ⟨d, hd, rfl⟩ := E.dec v l h;exact ⟨d, hd, rfl, by rw [E.enc d hd] at h; exact (Option.some.inj h).symm⟩
theorem KeyEnc.klinj {d d' : κ} (h : E.ok d) (h' : E.ok d') (he : E.kl d = E.kl d') : d = d' :=
  E.inj _ _ (E.K.inj (E.enc d h) (by rw [he]; exact E.enc d' h'))
theorem KeyEnc.isKey {d : κ} (h : E.ok d) : WideAt.IsKeyLit (E.kl d) := E.K.key (E.enc d h)
structure Tells (D : DataW Unit) (f : κ → Option Int) : Prop where
  from' : ∀ l, Maps.has D l = true → ∃ d, E.ok d ∧ l = E.kl d ∧ (f d).isSome = true
  to : ∀ d c, f d = some c → E.ok d ∧ (Lit.int .i64 c).wf = true ∧ ∀ z, D.atKey (E.kl d) z = .lit (.int .i64 c)
def IMap (e : TypeId) (w : World) (b n : Nat) (f : κ → Option Int) : Prop := ∃ D, w.ownsMap P k (plainElem (H := Unit) P e) b n D ∧ Tells E D f
def IRange (e : TypeId) (w : World) (b r n : Nat) (f : κ → Option Int) (left : κ → Prop) (cnt : Nat) : Prop :=
  ∃ D L, w.ranges P k (plainElem (H := Unit) P e) b r n D L cnt ∧ Tells E D f ∧ ∀ d, E.ok d → (left d ↔ L (E.kl d) = true)
variable {E} {w w' : World} {b r n : Nat} {f : κ → Option Int}
theorem Tells.has {D : DataW Unit} (h : Tells E D f) (d : κ) (hd : E.ok d) : Maps.has D (E.kl d) = (f d).isSome := by
  cases hf : f d with
  | some c => rw [has_true_of_atKey ((h.to d c hf).2.2)]; rfl
  | none =>
    cases hh : Maps.has D (E.kl d)
    · rfl
    · obtain ⟨d', h1, h2, h3⟩ := h.from' _ hh;rw [← E.klinj hd h1 h2, hf] at h3;cases h3
def upd [DecidableEq κ] (f : κ → Option Int) (d : κ) (c : Option Int) : κ → Option Int := fun y => if y = d then c else f y
theorem Tells.put [DecidableEq κ] {D : DataW Unit} (h : Tells E D f) (hm : IsMap D) {d : κ} (hd : E.ok d) {c : Int} (hc : (Lit.int .i64 c).wf = true) : Tells E (D.put (E.kl d) (.lit (.int .i64 c))) (upd f d (some c)) := by
  refine ⟨fun l hl => ?_, fun y x hy => ?_⟩
  · by_cases q : l = E.kl d
    · exact ⟨d, hd, q, by simp [upd]⟩
    · rw [has_put_other q] at hl;obtain ⟨y, h1, h2, h3⟩ := h.from' l hl;exact ⟨y, h1, h2, by unfold upd; split; rfl; exact h3⟩
  · unfold upd at hy
    split at hy
    · rename_i q; subst q; cases hy
      exact ⟨hd, hc, fun z => atKey_put_same hm (E.isKey hd) _ _⟩
    · rename_i q
      obtain ⟨h1, h2, h3⟩ := h.to y x hy;exact ⟨h1, h2, fun z => by rw [atKey_put_other (fun e => q (E.klinj h1 hd e))]; exact h3 z⟩
theorem Tells.del [DecidableEq κ] {D : DataW Unit} (h : Tells E D f) {d : κ} (hd : E.ok d) : Tells E (D.del (E.kl d)) (upd f d none) := by
  refine ⟨fun l hl => ?_, fun y x hy => ?_⟩
  · by_cases q : l = E.kl d
    · rw [q, has_del_same] at hl; cases hl
    · rw [has_del_other q] at hl;obtain ⟨y, h1, h2, h3⟩ := h.from' l hl;refine ⟨y, h1, h2, ?_⟩;unfold upd;rw [if_neg (fun e => q (by rw [h2, e]))];exact h3
  · unfold upd at hy
    split at hy
    · cases hy
    · rename_i q
      obtain ⟨h1, h2, h3⟩ := h.to y x hy;exact ⟨h1, h2, fun z => by rw [atKey_del_other (fun e => q (E.klinj h1 hd e))]; exact h3 z⟩
theorem IMap.made (E : KeyEnc P k κ) (w : World) : IMap E e (w.alloc (.map #[] 0)) w.heap.size 0 (fun _ => none) :=
  ⟨_, World.ownsMap_made w P k _, ⟨fun l h => (by cases h), fun d c h => (by cases h)⟩⟩
theorem IMap.lt (h : IMap E e w b n f) : b < w.heap.size := let ⟨_, h, _⟩ := h; h.lt
theorem IMap.mono (h : IMap E e w b n f) {n' : Nat} (hn : n ≤ n') : IMap E e w b n' f := let ⟨D, h, t⟩ := h; ⟨D, h.mono hn, t⟩
theorem IMap.ok (h : IMap E e w b n f) {d : κ} {c : Int} (hd : f d = some c) : E.ok d ∧ (Lit.int .i64 c).wf = true := let ⟨_, _, t⟩ := h; ⟨(t.to d c hd).1, (t.to d c hd).2.1⟩
theorem IMap.of_heap (h : IMap E e w b n f) (hh : w'.heap[b]? = w.heap[b]?) : IMap E e w' b n f := by
  obtain ⟨D, ⟨es, clock, hb, F, hs, hD⟩, t⟩ := h;exact ⟨D, ⟨es, clock, hh.trans hb, F, hs, hD⟩, t⟩
theorem IMap.below (h : IMap E e w b n f) (hb : Below w.heap.size w w') : IMap E e w' b n f := h.of_heap (hb.block b h.lt)
theorem IMap.keeps {O : Nat → Prop} (h : IMap E e w b n f) (hk : Keeps O w w') (hO : ¬ O b) : IMap E e w' b n f := h.of_heap (hk.same b h.lt hO)
theorem IMap.alloc (h : IMap E e w b n f) (o : Obj) : IMap E e (w.alloc o) b n f := h.of_heap (Below.heap_alloc w o b h.lt)
theorem IMap.drew (h : IMap E e w b n f) : IMap E e w.drew b n f := h.of_heap rfl
theorem IMap.setCell (h : IMap E e w b n f) (a : Addr) (v : Value) (ha : b ≠ a.block) : IMap E e (w.setCell a v) b n f := h.of_heap (Below.heap_setCell w a v b ha)
theorem IRange.owns {left : κ → Prop} {cnt : Nat} (h : IRange E e w b r n f left cnt) : IMap E e w b n f := let ⟨D, _, h, t, _⟩ := h; ⟨D, h.owns, t⟩
theorem IRange.lt {left : κ → Prop} {cnt : Nat} (h : IRange E e w b r n f left cnt) : r < w.heap.size := let ⟨_, _, h, _, _⟩ := h; h.lt
theorem IRange.ne {left : κ → Prop} {cnt : Nat} (h : IRange E e w b r n f left cnt) : r ≠ b := let ⟨_, _, h, _, _⟩ := h; h.ne
theorem IRange.left_eq {left : κ → Prop} {cnt : Nat} (h : IRange E e w b r n f left cnt) : w.rangeLeft b r = cnt := let ⟨_, _, h, _, _⟩ := h; h.left_eq
theorem IRange.of_heap {left : κ → Prop} {cnt : Nat} (h : IRange E e w b r n f left cnt) (hb' : w'.heap[b]? = w.heap[b]?) (hr' : w'.heap[r]? = w.heap[r]?) : IRange E e w' b r n f left cnt := by
  obtain ⟨D, L, ⟨es, clock, since, seen, c0, hb, F, hs, hD, hr, rest⟩, t, hl⟩ := h;exact ⟨D, L, ⟨es, clock, since, seen, c0, hb'.trans hb, F, hs, hD, hr'.trans hr, rest⟩, t, hl⟩
theorem IRange.below {left : κ → Prop} {cnt : Nat} (h : IRange E e w b r n f left cnt) (hb : Below w.heap.size w w') : IRange E e w' b r n f left cnt := h.of_heap (hb.block b h.owns.lt) (hb.block r h.lt)
theorem IRange.keeps {O : Nat → Prop} {left : κ → Prop} {cnt : Nat} (h : IRange E e w b r n f left cnt) (hk : Keeps O w w') (hO : ¬ O b) (hR : ¬ O r) : IRange E e w' b r n f left cnt := h.of_heap (hk.same b h.owns.lt hO) (hk.same r h.lt hR)
theorem IRange.alloc {left : κ → Prop} {cnt : Nat} (h : IRange E e w b r n f left cnt) (o : Obj) : IRange E e (w.alloc o) b r n f left cnt := h.of_heap (Below.heap_alloc w o b h.owns.lt) (Below.heap_alloc w o r h.lt)
theorem IRange.iff {left left' : κ → Prop} {cnt : Nat} (h : IRange E e w b r n f left cnt) (hl : ∀ d, E.ok d → (left d ↔ left' d)) : IRange E e w b r n f left' cnt := by
  obtain ⟨D, L, h1, t, h2⟩ := h;exact ⟨D, L, h1, t, fun d hd => (hl d hd).symm.trans (h2 d hd)⟩
theorem Keeps.grown (row : Option Nat) (h : w.grownBy w' row) : Keeps (fun x => some x = row) w w' :=
  ⟨⟨h.os, h.tape, h.output, h.size, fun i hi => by omega⟩, fun i hi ho => h.block i hi ho⟩
theorem Keeps.none (h : w.grownBy w' Option.none) (O : Nat → Prop) : Keeps O w w' := (Keeps.grown _ h).mono (fun b _ h => by cases h)
theorem Keeps.one {x : Nat} (h : w.grownBy w' (some x)) : Keeps (fun y => y = x) w w' := (Keeps.grown _ h).mono (fun b _ h => by cases h; rfl)
theorem nodup_le : ∀ (N : Nat) (l : List Nat), l.Pairwise (· ≠ ·) → (∀ x ∈ l, x < N) → l.length ≤ N
  | 0, l, _, h => by cases l with | nil => simp | cons x r => exact absurd (h x (by simp)) (by omega)
  | N + 1, l, hp, h => by
    have h1 := nodup_le N (l.filter (· != N)) (hp.filter _) (fun x hx => by
      obtain ⟨h1, h2⟩ := List.mem_filter.1 hx;have := h x h1;simp at h2
      omega)
    have h2 : l.length ≤ (l.filter (· != N)).length + 1 := by
      clear h h1
      induction l with
      | nil => simp
      | cons x r ih =>
        obtain ⟨h1, h2⟩ := List.pairwise_cons.1 hp
        by_cases q : x = N
        · subst q;have hr : r.filter (· != x) = r := List.filter_eq_self.2 (fun y hy => by simpa using (h1 y hy).symm);have : (x :: r).filter (· != x) = r := by rw [List.filter_cons]; simp [hr]
          rw [this];simp
        · have := ih h2;have e : (x :: r).filter (· != N) = x :: r.filter (· != N) := by rw [List.filter_cons]; simp [q]
          rw [e];simp at *
          omega
    omega
theorem IMap.bound (h : IMap E e w b n f) (N : Nat) (num : κ → Nat) (hn : ∀ d c, f d = some c → num d < N) (hi : ∀ d d' c c', f d = some c → f d' = some c' → num d = num d' → d = d') : IMap E e w b N f := by
  obtain ⟨D, hown, t⟩ := h;obtain ⟨es, hD, hp, hk⟩ := hown.entries E.K;have hmem : ∀ p ∈ es, ∃ d c, E.ok d ∧ p.1 = E.kl d ∧ f d = some c := fun p hp' => by
    obtain ⟨d, h1, h2, h3⟩ := t.from' p.1 (by rw [hD]; exact List.any_eq_true.2 ⟨p, hp', WideAt.sameKey_self (hk p hp')⟩);obtain ⟨c, hc⟩ := Option.isSome_iff_exists.1 h3;exact ⟨d, c, h1, h2, hc⟩
  have hsize : es.length ≤ N := by
    have key : ∀ l : List (Lit × DataW Unit), l.Pairwise (fun p q => p.1 ≠ q.1) → (∀ p ∈ l, ∃ d c, E.ok d ∧ p.1 = E.kl d ∧ f d = some c) → ∃ ns : List Nat, ns.length = l.length ∧ ns.Pairwise (· ≠ ·) ∧ (∀ x ∈ ns, x < N) ∧ ∀ x ∈ ns, ∃ p ∈ l, ∃ d c, p.1 = E.kl d ∧ f d = some c ∧ num d = x := by
      intro l
      induction l with
      | nil => intro _ _; exact ⟨[], rfl, List.Pairwise.nil, by simp, by simp⟩
      | cons p l ih =>
        intro h1 h2;obtain ⟨a1, a2⟩ := List.pairwise_cons.1 h1;obtain ⟨ns, b1, b2, b3, b4⟩ := ih a2 (fun q hq => h2 q (by simp [hq]));obtain ⟨d, c, c1, c2, c3⟩ := h2 p (by simp);refine ⟨num d :: ns, by simp [b1], List.pairwise_cons.2 ⟨fun x hx e1 => ?_, b2⟩, fun x hx => ?_, fun x hx => ?_⟩
        · obtain ⟨q, hq, d', c', d1, d2, d3⟩ := b4 x hx;have := hi d d' c c' c3 d2 (by rw [d3]; exact e1);subst this;exact a1 q hq (by rw [c2, d1])
        · rcases List.mem_cons.1 hx with rfl | hx
          · exact hn d c c3
          · exact b3 x hx
        · rcases List.mem_cons.1 hx with rfl | hx
          · exact ⟨p, by simp, d, c, c2, c3, rfl⟩
          · obtain ⟨q, hq, r⟩ := b4 x hx;exact ⟨q, by simp [hq], r⟩
    obtain ⟨ns, h1, h2, h3, _⟩ := key es hp hmem;rw [← h1];exact nodup_le N ns h2 h3
  obtain ⟨es', clock, hb, F, hs, hD'⟩ := hown;refine ⟨D, ⟨es', clock, hb, F, ?_, hD'⟩, t⟩;have := hD.symm.trans hD'
  injection this with this
  have hl := congrArg List.length this;rw [length_read] at hl
  omega
end
section
variable {P : Program} {k e : TypeId} {κ : Type} [DecidableEq κ] (E : KeyEnc P k κ) (w : World) {ops : Array Oper} {rest : List Oper} {o : Oper} {a : Act} {Q : Exit → Act → World → Prop}
theorem wpList_imap_look (hg : o.guard = none) (m x : Operand) (t : TypeId) (hop : o.op = Op.lookup t m x true) (e : TypeId) (ht : P.underlying t = some (.map k e)) (he : P.underlying e = some (.int .i64)) (hz : (zeroValue e).run P w = .ok (.int .i64 0) w)
    (b n : Nat) (f : κ → Option Int) (hm : a.eval m = .map (some b)) (h : IMap E e w b n f) (d : κ) (hx : a.eval x = E.kv d) (hd : E.ok d)
    (hK : wpList P ops Q rest (a.put o.dst (.tuple #[.int .i64 ((f d).getD 0), .bool (f d).isSome])) w) : wpList P ops Q (o :: rest) a w := by
  obtain ⟨D, hown, hT⟩ := h;refine wpList_lookup_own_ok_int w hg m x t hop k e .i64 E.K ht he hz b n D hm hown (E.kv d) (E.kl d) hx (E.enc d hd) (fun c hat hwc => ?_)
  rw [hT.has d hd]
  cases hf : f d with
  | some c' =>
    rw [(hT.to d c' hf).2.2] at hat;cases hat;rw [hf] at hK;exact hK
  | none =>
    have hh := hT.has d hd;rw [hf] at hh;rw [atKey_of_not_has hh] at hat;cases hat;rw [hf] at hK;exact hK
theorem wpList_imap_set (hg : o.guard = none) (m x v : Operand) (t : TypeId) (hop : o.op = Op.mapUpdate t m x v) (e : TypeId) (ht : P.underlying t = some (.map k e)) (he : P.underlying e = some (.int .i64))
    (b n : Nat) (f : κ → Option Int) (hm : a.eval m = .map (some b)) (h : IMap E e w b n f) (hn : n < maxLen) (d : κ) (c : Int) (hx : a.eval x = E.kv d) (hv : a.eval v = .int .i64 c) (hd : E.ok d) (hc : (Lit.int .i64 c).wf = true)
    (hK : ∀ w', IMap E e w' b (n + 1) (upd f d (some c)) → Keeps (fun y => y = b) w w' → wpList P ops Q rest (a.put o.dst undef) w') : wpList P ops Q (o :: rest) a w := by
  obtain ⟨D, hown, hT⟩ := h;exact wpList_mapUpdate_own w hg m x v t hop k e E.K ht (plainElem P e) b n D hm hown hn (E.kv d) (.int .i64 c) (E.kl d) hx hv (E.enc d hd) (.lit (.int .i64 c)) [] (plainElem_int he hc)
    (fun w' h1 h2 => hK w' ⟨_, h1, hT.put hown.isMap hd hc⟩ (Keeps.one h2))
theorem wpList_imap_insert (hg : o.guard = none) (m x v : Operand) (t : TypeId) (hop : o.op = Op.insert t m x v) (e : TypeId) (ht : P.underlying t = some (.map k e)) (he : P.underlying e = some (.int .i64))
    (b n : Nat) (f : κ → Option Int) (hm : a.eval m = .map (some b)) (h : IMap E e w b n f) (hn : n < maxLen) (d : κ) (c : Int) (hx : a.eval x = E.kv d) (hv : a.eval v = .int .i64 c) (hd : E.ok d) (hc : (Lit.int .i64 c).wf = true)
    (hK : ∀ w', IMap E e w' b (n + 1) (upd f d (some c)) → Keeps (fun y => y = b) w w' → wpList P ops Q rest (a.put o.dst undef) w') : wpList P ops Q (o :: rest) a w := by
  obtain ⟨D, hown, hT⟩ := h;refine wpList_plain hg fun K' hK' => ?_
  obtain ⟨w', hrun, r1, r2⟩ := hown.update E.K ht hn (E.enc d hd) (plainElem_int he hc);unfold Oper.wp;simp [execOp, hop, hm, hx, hv, hrun, Result.andThen];exact hK' _ _ (hK w' ⟨_, r1, hT.put hown.isMap hd hc⟩ (Keeps.one r2))
theorem IMap.len {w : World} {E : KeyEnc P k κ} {e t : TypeId} (ht : P.underlying t = some (.map k e)) {b n : Nat} {f : κ → Option Int} (h : IMap E e w b n f) :
    ∃ s : Nat, s ≤ n ∧ ((0 < s) ↔ ∃ d c, f d = some c) ∧ ∀ ty, (Builtin.len_ #[t] ty #[.map (some b)]).run P w = .ok (.int .i64 s) w := by
  obtain ⟨D, hown, hT⟩ := h;refine ⟨_, hown.size_le, ?_, fun ty => hown.len ht ty⟩;obtain ⟨es, hD, hp, hk⟩ := hown.entries E.K;rw [hD, size_eq]
  constructor
  · intro h0;have hmem : es[0] ∈ es := List.getElem_mem h0;obtain ⟨d, h1, h2, h3⟩ := hT.from' es[0].1 (by rw [hD]; exact List.any_eq_true.2 ⟨_, hmem, WideAt.sameKey_self (hk _ hmem)⟩);obtain ⟨c, hc⟩ := Option.isSome_iff_exists.1 h3;exact ⟨d, c, hc⟩
  · rintro ⟨d, c, hd⟩
    have := hT.has d (hT.to d c hd).1;rw [hd, hD, has_eq] at this
    cases es with
    | nil => cases this
    | cons x r => simp
theorem wpList_imap_range (hg : o.guard = none) (m : Operand) (t : TypeId) (hop : o.op = Op.range t m) (e : TypeId) (ht : P.underlying t = some (.map k e))
    (b n : Nat) (f : κ → Option Int) (hm : a.eval m = .map (some b)) (h : IMap E e w b n f)
    (hK : ∀ w' cnt, IRange E e w' b w.heap.size n f (fun d => ∃ c, f d = some c) cnt → cnt ≤ n → Below w.heap.size w w' → w'.heap.size = w.heap.size + 1 → wpList P ops Q rest (a.put o.dst (.pointer (some ⟨w.heap.size, 0, none⟩))) w') : wpList P ops Q (o :: rest) a w := by
  obtain ⟨D, hown, hT⟩ := h;refine wpList_range_own w hg m t hop k e E.K ht (plainElem P e) b n D hm hown (fun w' h1 h2 h3 => ?_)
  have hext := Keeps.none h2 (fun _ => False);exact hK w' _ ⟨D, _, h1, hT, fun d hd => by rw [hT.has d hd, Option.isSome_iff_exists]⟩ hown.size_le (hext.to_below (Nat.le_refl _) (fun b h => h.elim)) h3
theorem wpList_imap_next (hg : o.guard = none) (it : Operand) (hop : o.op = Op.next it false) (e : TypeId) (he : P.underlying e = some (.int .i64))
    (b r n : Nat) (f : κ → Option Int) (left : κ → Prop) (cnt : Nat) (hit : a.eval it = .pointer (some ⟨r, 0, none⟩)) (h : IRange E e w b r n f left cnt)
    (hDone : (∀ d, E.ok d → ¬ left d) → wpList P ops Q rest (a.put o.dst (.tuple #[.bool false])) w)
    (hMore : ∀ (d : κ) (c : Int) (w' : World) (cnt' : Nat), E.ok d → f d = some c → left d → IRange E e w' b r n f (fun y => left y ∧ y ≠ d) cnt' → cnt' < cnt → Keeps (fun y => y = r) w w' → w'.heap.size = w.heap.size →
      (Instr.entry (.pointer (some ⟨r, 0, none⟩))).run P w' = .ok (.tuple #[E.kv d, .int .i64 c]) w' → wpList P ops Q rest (a.put o.dst (.tuple #[.bool true, E.kv d, .int .i64 c])) w') :
    wpList P ops Q (o :: rest) a w := by
  obtain ⟨D, L, hr, hT, hL⟩ := h;refine wpList_next_ranges w hg it hop k E.K (plainElem P e) E.kv (Value.int .i64) (fun key kl hkey => by obtain ⟨x, _, rfl⟩ := E.dec key kl hkey; exact ⟨x, rfl⟩)
    (fun v y hv => by obtain ⟨c, rfl, _⟩ := plainElem_int_inv he hv; exact ⟨c, rfl⟩) b r n D L cnt hit hr (fun _ hl => hDone (fun d hd hh => by have := (hL d hd).1 hh; rw [hl] at this; cases this)) ?_
  intro d c kl y w' cnt' hkey hlk hv hat hrg hlt hgr hsz hen;obtain ⟨d', h1, h2, h3⟩ := E.dec' hkey;obtain rfl := E.inj _ _ h2;subst h3;obtain ⟨c', ec, ey, hwc⟩ := plainElem_int_inv he hv;cases ec
  have hf : f d = some c := by
    have hh : Maps.has D (E.kl d) = true := has_true_of_atKey hat;rw [hT.has d h1] at hh;obtain ⟨c', hc⟩ := Option.isSome_iff_exists.1 hh;have := (hT.to d c' hc).2.2 .nil;rw [hat, ey] at this;cases this
    exact hc
  refine hMore d c w' cnt' h1 hf ((hL d h1).2 hlk) ⟨D, _, hrg, hT, fun x hx => ?_⟩ hlt (Keeps.one hgr) hsz hen;dsimp only;rw [hL x hx];simp only [Bool.and_eq_true, Bool.not_eq_true', ne_eq]
  constructor
  · rintro ⟨q1, q2⟩
    exact ⟨q1, sameKey_ne (fun e => q2 (E.klinj hx h1 e))⟩
  · rintro ⟨q1, q2⟩
    refine ⟨q1, fun e => ?_⟩;subst e;rw [WideAt.sameKey_self (E.isKey hx)] at q2;cases q2
theorem wpList_imap_delete (hg : o.guard = none) (m x : Operand) (t : TypeId) (hop : o.op = Op.call { callee := Callee.builtin Builtin.delete, args := #[m, x], argTypes := #[t, k] })
    (e : TypeId) (ht : P.underlying t = some (.map k e)) (b r n : Nat) (f : κ → Option Int) (left : κ → Prop) (cnt : Nat)
    (hm : a.eval m = .map (some b)) (h : IRange E e w b r n f left cnt) (d : κ) (hx : a.eval x = E.kv d) (hd : E.ok d)
    (hK : ∀ w' cnt', IRange E e w' b r n (upd f d none) (fun y => left y ∧ y ≠ d) cnt' → cnt' ≤ cnt → Keeps (fun y => y = b) w w' → w'.heap.size = w.heap.size → wpList P ops Q rest (a.put o.dst (.tuple #[])) w') :
    wpList P ops Q (o :: rest) a w := by
  obtain ⟨D, L, hr, hT, hL⟩ := h;refine wpList_delete_ranges w hg m x t k hop e E.K ht (plainElem P e) b r n D L cnt hm hr (E.kv d) (E.kl d) hx (E.enc d hd) (fun w' cnt' h1 h2 h3 => ?_)
  have hz : w'.heap.size = w.heap.size := by obtain ⟨es, clock, es', clock', _, rfl⟩ := h3; simp [ChangeMaps.setBlock]
  refine hK w' cnt' ⟨_, _, h1, hT.del hd, fun y hy => ?_⟩ h2 (Keeps.one h3.grown) hz;dsimp only;rw [hL y hy];simp only [Bool.and_eq_true, Bool.not_eq_true', ne_eq]
  constructor
  · rintro ⟨q1, q2⟩
    exact ⟨q1, sameKey_ne (fun e => q2 (E.klinj hy hd e))⟩
  · rintro ⟨q1, q2⟩
    refine ⟨q1, fun e => ?_⟩;subst e;rw [WideAt.sameKey_self (E.isKey hy)] at q2;cases q2
end
end Go.Proofs.Ytjmkjlhnipnkcaa
