/- A range over a function: the iterator's promise, to every loop body; the loop's rule, for a body that always ends normally. Blocks are split by who may turn them: the iterator's set O, which grows by new blocks alone. -/
import Derived.Test.YtjmkjlhnipnkcaaPfBase
import Derived.RangeFuncOwn
import Derived.RangeFuncSeq
set_option linter.unusedSimpArgs false
set_option linter.unusedVariables false
namespace Go.Proofs.Ytjmkjlhnipnkcaa
open Go.RowKit Go.Shelf
structure Keeps (O : Nat → Prop) (W W' : World) : Prop where
  low : Below 0 W W'
  same : ∀ k, k < W.heap.size → ¬ O k → W'.heap[k]? = W.heap[k]?
theorem Keeps.size {O : Nat → Prop} {A B : World} (h : Keeps O A B) : A.heap.size ≤ B.heap.size := h.low.size
theorem Keeps.refl (O : Nat → Prop) (W : World) : Keeps O W W := ⟨Below.refl 0 W, fun _ _ _ => rfl⟩
theorem Keeps.trans {O : Nat → Prop} {A B C : World} (h : Keeps O A B) (k : Keeps O B C) : Keeps O A C :=
  ⟨h.low.trans k.low, fun i hi ho => (k.same i (Nat.lt_of_lt_of_le hi h.size) ho).trans (h.same i hi ho)⟩
theorem Keeps.mono {O O' : Nat → Prop} {A B : World} (h : Keeps O A B) (hO : ∀ b, b < A.heap.size → O b → O' b) : Keeps O' A B :=
  ⟨h.low, fun i hi ho => h.same i hi (fun x => ho (hO i hi x))⟩
theorem Keeps.alloc (O : Nat → Prop) (W : World) (o : Obj) : Keeps O W (W.alloc o) :=
  ⟨(Below.refl 0 W).alloc (Nat.zero_le _) o, fun i hi _ => Below.heap_alloc W o i hi⟩
theorem Keeps.setCell {O : Nat → Prop} (W : World) (a : Addr) (v : Value) (h : O a.block) : Keeps O W (W.setCell a v) :=
  ⟨(Below.refl 0 W).setCell (Nat.zero_le _) v, fun i hi ho => Below.heap_setCell W a v i (fun e => ho (by rw [e]; exact h))⟩
theorem Keeps.putObj {O : Nat → Prop} (W : World) (r : Nat) (o : Obj) (h : O r) : Keeps O W (W.putObj r o) :=
  ⟨⟨rfl, rfl, rfl, by simp, fun k hk => by omega⟩, fun i hi ho => World.putObj_heap_other (fun e => ho (by rw [e]; exact h))⟩
theorem Keeps.below {O : Nat → Prop} {W W' : World} (h : Below W.heap.size W W') : Keeps O W W' :=
  ⟨h.mono (Nat.zero_le _), fun i hi _ => h.block i hi⟩
theorem Keeps.drew (O : Nat → Prop) (W : World) : Keeps O W W.drew := ⟨⟨rfl, rfl, rfl, Nat.le_refl _, fun _ _ => rfl⟩, fun _ _ _ => rfl⟩
theorem Keeps.to_below {O : Nat → Prop} {W W' : World} {n : Nat} (h : Keeps O W W') (hn : n ≤ W.heap.size) (ho : ∀ b, O b → n ≤ b) : Below n W W' :=
  ⟨h.low.os, h.low.tape, h.low.output, h.low.size, fun k hk => h.same k (by omega) (fun x => by have := ho k x; omega)⟩
theorem Keeps.blk {O : Nat → Prop} {W W' : World} (h : Keeps O W W') {b : Nat} {vs : Array Value} {t : TypeId} (hb : Blk W b vs t) (ho : ¬ O b) : Blk W' b vs t :=
  (h.same b hb.lt ho).trans hb
theorem Keeps.heap {O : Nat → Prop} {W W' : World} (h : Keeps O W W') {b : Nat} {o : Obj} (hb : W.heap[b]? = some o) (ho : ¬ O b) : W'.heap[b]? = some o :=
  (h.same b (Array.getElem?_eq_some_iff.1 hb).1 ho).trans hb
def Abide (J : Nat → (Nat → Prop) → World → Prop) : Prop :=
  ∀ k O O' W W', J k O W → Keeps O' W W' → (∀ b, O b → O' b) → (∀ b, O' b → O b ∨ W.heap.size ≤ b) → J k O' W'
def Iterates {α : Type} (P : Program) (gf : Nat) (lb : Array Value) (xs : List α) (enc : α → Array Value) (S R : Nat → Prop) (W0 : World) : Prop :=
  ∀ (L : Nat) (J : Nat → (Nat → Prop) → World → Prop) (W : World), Below W0.heap.size W0 W → Abide J →
    (∀ k O W1 (hk : k < xs.length), (∀ b, S b → O b) → J k O W1 →
      YieldAt Fence.wide 0 P L (enc xs[k]) W1 fun e W2 => e = .returned (.bool true) ∧ J (k + 1) O W2 ∧ Keeps (fun b => ¬ O b ∧ ¬ R b) W1 W2) →
    J 0 S W → CallsIn Fence.wide 0 P gf (#[.func (.yield L) #[] #[]] ++ lb) W fun e W' => (∃ v, e = .returned v) ∧ ∃ O, (∀ b, S b → O b) ∧ J xs.length O W'
theorem rangeFunc_wide {α : Type} {P : Program} {g : Operand} {ps : Array Tmp} {assign body : Code} {Q : Exit → Act → World → Prop} {a : Act} {w : World} {gf : Nat} {lb : Array Value}
    {xs : List α} {enc : α → Array Value} {S R : Nat → Prop} (hg : a.eval g = .func (.func gf) #[] lb) (eg : ∀ args w, (callFunc gf args).run P w = .ok (.enter gf args) w)
    (hit : Iterates P gf lb xs enc S R w) (hS : ∀ b, S b → b < w.heap.size) (hR : ∀ b, R b → b < w.heap.size) (hps : ∀ x, (enc x).size = ps.size)
    (I : Nat → (Nat → Prop) → World → Prop) (hI : Abide I) (h0 : I 0 S w)
    (hround : ∀ (l : Nat) (O : Nat → Prop) (k : Nat) (W : World) (hk : k < xs.length), I k O W → (∀ b, S b → O b) → O l → l < W.heap.size →
      assign.wpIn (Fence.wide.inRound l) 0 P (Exit.then (fun a₁ W1 => Keeps (fun b => ¬ O b ∧ ¬ R b) W W1 ∧ I k O W1 ∧ ∀ W2, Keeps (fun b => b = l) W1 W2 → I k O W2 →
          body.wpIn (Fence.wide.inRound l) 0 P (fun e _ W' => e = .normal ∧ I (k + 1) O W' ∧ Keeps (fun b => ¬ O b ∧ ¬ R b) W2 W') a₁ W2) (fun _ _ _ => False))
        { tmps := (ps.zip (enc xs[k])).foldl (fun t (p, v) => t.setIfInBounds p v) a.tmps, defers := [] } W)
    (hdone : ∀ (D : Nat) (O : Nat → Prop) (W : World), I xs.length O W → (∀ b, S b → O b) → O D → w.heap.size ≤ D → W.heap[D]? = some (.deferred (some [])) →
      Q .normal { a with defers := { target := .collected D, args := #[] } :: a.defers } W) :
    (Code.rangeFunc g ps assign body).wpIn Fence.wide 0 P Q a w := by
  refine wpIn_rangeFunc ?_;intro fn hfn;obtain ⟨rec, hrec⟩ : ∃ rec : LoopState → Option Code → Loop, rec = fun st pe => { state := st, pending := pe, fn, tmps := a.tmps, params := ps, assign, body, defers := w.heap.size } := ⟨_, rfl⟩
  obtain ⟨W1, hW1⟩ : ∃ W1, (w.alloc (.deferred (some []))).alloc (.loop (rec .ready none)) = W1 := ⟨_, rfl⟩;have hL1 : W1.heap[w.heap.size + 1]? = some (.loop (rec .ready none)) := by
    rw [← hW1]; have := World.alloc_heap_new (w.alloc (.deferred (some []))) (.loop (rec .ready none)); rwa [World.size_alloc] at this
  have hK1 : W1.heap[w.heap.size]? = some (.deferred (some [])) := by
    rw [← hW1]; exact (Below.heap_alloc _ _ _ (by simp)).trans (World.alloc_heap_new w _)
  have hb1 : Below w.heap.size w W1 := by
    rw [← hW1]; exact ((Below.refl _ w).alloc (Nat.le_refl _) _).alloc (by simp) _
  have hz1 : W1.heap.size = w.heap.size + 2 := by rw [← hW1]; simp
  -- the iterator's set, and the loop's two blocks
  let up : (Nat → Prop) → Nat → Prop := fun O b => O b ∨ b = w.heap.size ∨ b = w.heap.size + 1
  have hI1 : I 0 (up S) W1 := hI 0 S (up S) w W1 h0 (Keeps.below hb1) (fun b h => .inl h) (fun b h => by rcases h with h | h | h <;> first | exact .inl h | exact .inr (by omega));refine ⟨w.heap.size + 1, [{ target := .collected w.heap.size, args := #[] }], W1, { target := .fn (.func gf) lb, args := #[.func (.yield (w.heap.size + 1)) #[] #[]] }, W1, gf,
    #[.func (.yield (w.heap.size + 1)) #[] #[]] ++ lb, W1, ?_, ?_, ?_, ?_, fun h => (by cases h), ?_⟩
  · rw [← hW1, hrec]; exact run_enterLoop_outer _ _ _ _ _
  · simp only [resolve, hg];simp [go_sem]
  · intro f' hf'; trivial
  · simp [invoke, go_sem, eg]
  · refine (hit (w.heap.size + 1)
      (fun k O W => I k (up O) W ∧ (¬ O w.heap.size ∧ ¬ O (w.heap.size + 1)) ∧ W.heap[w.heap.size + 1]? = some (.loop (rec .ready none)) ∧ W.heap[w.heap.size]? = some (.deferred (some [])))
      W1 hb1 ?_ ?_ ⟨hI1, ⟨fun h => by have := hS _ h; omega, fun h => by have := hS _ h; omega⟩, hL1, hK1⟩).mono ?_
    · -- it abides
      rintro k O O' A B ⟨hi, hn, hl, hk⟩ hkp hO hO'
      have n0 : ¬ O' w.heap.size := fun h => by
        rcases hO' _ h with h | h
        · exact hn.1 h
        · have := (Array.getElem?_eq_some_iff.1 hk).1; omega
      have n1 : ¬ O' (w.heap.size + 1) := fun h => by
        rcases hO' _ h with h | h
        · exact hn.2 h
        · have := (Array.getElem?_eq_some_iff.1 hl).1; omega
      refine ⟨hI k (up O) (up O') A B hi (hkp.mono fun b _ h => .inl h) (fun b h => h.elim (fun h => .inl (hO b h)) .inr) (fun b h => ?_), ⟨n0, n1⟩, hkp.heap hl n1, hkp.heap hk n0⟩;rcases h with h | h
      · rcases hO' b h with h | h
        · exact .inl (.inl h)
        · exact .inr h
      · exact .inl (.inr h)
    · -- one round
      rintro k O W hlen hSO ⟨hi, hn, hl, hk⟩
      have hlt : w.heap.size + 1 < W.heap.size := (Array.getElem?_eq_some_iff.1 hl).1;have hy := run_yield (P := P) (args := enc xs[k]) hl (by rw [hrec]; exact hps _);rw [hrec] at hy;refine ⟨fn, _, assign, body, hy, roundIn_of_wpIn hfn (wpIn_mono (hround _ (up O) k W hlen hi (fun b h => .inl (hSO b h)) (.inr (.inr rfl)) hlt) ?_)⟩;intro e1 a1 W1 h1;cases e1
      case normal =>
       obtain ⟨hkp, hi1, hbd⟩ := h1;have hl1 := hkp.heap hl (fun h => h.1 (.inr (.inr rfl)));have hk1 := hkp.heap hk (fun h => h.1 (.inr (.inl rfl)));have hlt1 := (Array.getElem?_eq_some_iff.1 hl1).1;refine ⟨_, run_beginRound hl1 (by rw [hrec]), ?_⟩;have hl2 : (W1.putObj (w.heap.size + 1) (.loop { rec .ready none with state := .busy })).heap[w.heap.size + 1]? = some (.loop { rec .ready none with state := .busy }) := World.putObj_heap_same hlt1;have hk2 : (W1.putObj (w.heap.size + 1) (.loop { rec .ready none with state := .busy })).heap[w.heap.size]? = some (.deferred (some [])) := (World.putObj_heap_other (by omega)).trans hk1;refine wpIn_mono (hbd _ (Keeps.putObj _ _ _ rfl) ?_) ?_
       · exact hI k (up O) (up O) W1 _ hi1 (Keeps.putObj _ _ _ (.inr (.inr rfl))) (fun _ h => h) (fun _ h => .inl h)
       rintro e a3 W3 ⟨rfl, hi3, hk3⟩
       have hl3 := hk3.heap hl2 (fun h => h.1 (.inr (.inr rfl)));have hk3' := hk3.heap hk2 (fun h => h.1 (.inr (.inl rfl)));have hr := run_endRound (P := P) none hl3;have hx : ¬ O (w.heap.size + 1) ∧ ¬ R (w.heap.size + 1) := ⟨hn.2, fun h => by have := hR _ h; omega⟩;refine ⟨_, _, hr, rfl, ⟨hI (k + 1) (up O) (up O) W3 _ hi3 (Keeps.putObj _ _ _ (.inr (.inr rfl))) (fun _ h => h) (fun _ h => .inl h), hn, ?_, (World.putObj_heap_other (by omega)).trans hk3'⟩, ?_⟩
       · rw [World.putObj_heap_same (Array.getElem?_eq_some_iff.1 hl3).1, hrec]; rfl
       · exact (((hkp.mono fun b _ h => ⟨fun hb => h.1 (.inl hb), h.2⟩).trans (Keeps.putObj W1 (w.heap.size + 1) _ (O := fun b => ¬ O b ∧ ¬ R b) hx)).trans (hk3.mono fun b _ h => ⟨fun hb => h.1 (.inl hb), h.2⟩)).trans (Keeps.putObj _ _ _ hx)
      all_goals exact h1.elim
    · -- behind the iterator
      rintro e W2 ⟨⟨v, rfl⟩, O, hSO, hi, hn, hl, hk⟩
      refine ⟨none, _, by have := run_endLoop (P := P) hl (by rw [hrec]; simp); rw [hrec] at this; exact this, ?_⟩;exact hdone _ (up O) _ (hI _ (up O) (up O) W2 _ hi (Keeps.putObj _ _ _ (.inr (.inr rfl))) (fun _ h => h) (fun _ h => .inl h)) (fun b h => .inl (hSO b h)) (.inr (.inl rfl)) (Nat.le_refl _) ((World.putObj_heap_other (by omega)).trans hk)
theorem wpIn_name {F : Fence} {n : Nat} {P : Program} {c : Code} {Q : Exit → Act → World → Prop} {a : Act} {w : World} (h : ∀ W, W = w → c.wpIn F n P Q a W) : c.wpIn F n P Q a w := h w rfl
theorem leave_mark {P : Program} {fn : Func} {R : Ending → World → Prop} {a : Act} {w : World} {D : Nat} {v : Value} (hd : a.defers = [{ target := .collected D, args := #[] }])
    (hD : w.heap[D]? = some (.deferred (some []))) (hres : (results fn a.tmps).run P (w.putObj D (.deferred none)) = .ok v (w.putObj D (.deferred none))) (hR : R (.returned v) (w.putObj D (.deferred none))) :
    bodyPostM Fence.wide 0 P fn R .ret a w := by
  show LeavesInM Fence.wide 0 P fn a.tmps R a.defers .returning w;rw [hd];refine ⟨by simp, .inl ⟨D, _, rfl, run_takeDeferred hD, ?_⟩⟩;exact ⟨v, hres, hR⟩
end Go.Proofs.Ytjmkjlhnipnkcaa
