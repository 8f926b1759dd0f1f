/- A range over a function whose elements come in an order that is told only as they come: the iterator's promise, to every loop body; the loop's rule. -/
import Derived.Test.YtjmkjlhnipnkcaaPfRange
set_option linter.unusedSimpArgs false
set_option linter.unusedVariables false
namespace Go.Proofs.Ytjmkjlhnipnkcaa
open Go.RowKit Go.Shelf
theorem foldp1 (p : Tmp) (x : Value) (t : Array Value) : (#[p].zip #[x]).foldl (fun t (p, v) => t.setIfInBounds p v) t = t.setIfInBounds p x := by simp
def AbideP {α : Type} (J : List α → (Nat → Prop) → World → Prop) : Prop :=
  ∀ pre O O' W W', J pre O W → Keeps O' W W' → (∀ b, O b → O' b) → (∀ b, O' b → O b ∨ (W.heap.size ≤ b ∧ b < W'.heap.size)) → J pre O' W'
def IteratesP {α : Type} (P : Program) (gf : Nat) (lb : Array Value) (Part All : List α → Prop) (enc : α → Array Value) (S R : Nat → Prop) (W0 : World) : Prop :=
  ∀ (L : Nat) (J : List α → (Nat → Prop) → World → Prop) (W : World), Below W0.heap.size W0 W → AbideP J →
    (∀ pre x O W1, Part (pre ++ [x]) → (∀ b, S b → O b) → J pre O W1 →
      YieldAt Fence.wide 0 P L (enc x) W1 fun e W2 => e = .returned (.bool true) ∧ J (pre ++ [x]) O W2 ∧ Keeps (fun b => ¬ O b ∧ ¬ R b) W1 W2) →
    J [] S W → CallsIn Fence.wide 0 P gf (#[.func (.yield L) #[] #[]] ++ lb) W fun e W' => (∃ v, e = .returned v) ∧ ∃ O xs, All xs ∧ (∀ b, S b → O b) ∧ J xs O W'
theorem rangeFunc_wideP {α : Type} {P : Program} {g : Operand} {ps : Array Tmp} {assign body : Code} {Q : Exit → Act → World → Prop} {a : Act} {w : World} {gf : Nat} {lb : Array Value}
    {Part All : List α → Prop} {enc : α → Array Value} {S R : Nat → Prop} (hg : a.eval g = .func (.func gf) #[] lb) (eg : ∀ args w, (callFunc gf args).run P w = .ok (.enter gf args) w)
    (hit : IteratesP P gf lb Part All enc S R w) (hS : ∀ b, S b → b < w.heap.size) (hR : ∀ b, R b → b < w.heap.size) (hps : ∀ x, (enc x).size = ps.size)
    (I : List α → (Nat → Prop) → World → Prop) (hI : AbideP I) (h0 : I [] S w)
    (hround : ∀ (l : Nat) (O : Nat → Prop) (k : List α) (x : α) (W : World) (hk : Part (k ++ [x])), I k O W → (∀ b, S b → O b) → O l → l < W.heap.size →
      assign.wpIn (Fence.wide.inRound l) 0 P (Exit.then (fun a₁ W1 => Keeps (fun b => ¬ O b ∧ ¬ R b) W W1 ∧ I k O W1 ∧ ∀ W2, Keeps (fun b => b = l) W1 W2 → I k O W2 →
          body.wpIn (Fence.wide.inRound l) 0 P (fun e _ W' => e = .normal ∧ I (k ++ [x]) O W' ∧ Keeps (fun b => ¬ O b ∧ ¬ R b) W2 W') a₁ W2) (fun _ _ _ => False))
        { tmps := (ps.zip (enc x)).foldl (fun t (p, v) => t.setIfInBounds p v) a.tmps, defers := [] } W)
    (hdone : ∀ (D : Nat) (O : Nat → Prop) (xs : List α) (W : World), All xs → I xs O W → (∀ b, S b → O b) → O D → w.heap.size ≤ D → W.heap[D]? = some (.deferred (some [])) →
      Q .normal { a with defers := { target := .collected D, args := #[] } :: a.defers } W) :
    (Code.rangeFunc g ps assign body).wpIn Fence.wide 0 P Q a w := by
  refine wpIn_rangeFunc ?_;intro fn hfn;obtain ⟨rec, hrec⟩ : ∃ rec : LoopState → Option Code → Loop, rec = fun st pe => { state := st, pending := pe, fn, tmps := a.tmps, params := ps, assign, body, defers := w.heap.size } := ⟨_, rfl⟩
  obtain ⟨W1, hW1⟩ : ∃ W1, (w.alloc (.deferred (some []))).alloc (.loop (rec .ready none)) = W1 := ⟨_, rfl⟩;have hL1 : W1.heap[w.heap.size + 1]? = some (.loop (rec .ready none)) := by
    rw [← hW1]; have := World.alloc_heap_new (w.alloc (.deferred (some []))) (.loop (rec .ready none)); rwa [World.size_alloc] at this
  have hK1 : W1.heap[w.heap.size]? = some (.deferred (some [])) := by
    rw [← hW1]; exact (Below.heap_alloc _ _ _ (by simp)).trans (World.alloc_heap_new w _)
  have hb1 : Below w.heap.size w W1 := by
    rw [← hW1]; exact ((Below.refl _ w).alloc (Nat.le_refl _) _).alloc (by simp) _
  have hz1 : W1.heap.size = w.heap.size + 2 := by rw [← hW1]; simp
  -- the iterator's set, and the loop's two blocks
  let up : (Nat → Prop) → Nat → Prop := fun O b => O b ∨ b = w.heap.size ∨ b = w.heap.size + 1
  have hI1 : I [] (up S) W1 := hI [] S (up S) w W1 h0 (Keeps.below hb1) (fun b h => .inl h) (fun b h => by rcases h with h | h | h <;> first | exact .inl h | exact .inr (by omega));refine ⟨w.heap.size + 1, [{ target := .collected w.heap.size, args := #[] }], W1, { target := .fn (.func gf) lb, args := #[.func (.yield (w.heap.size + 1)) #[] #[]] }, W1, gf,
    #[.func (.yield (w.heap.size + 1)) #[] #[]] ++ lb, W1, ?_, ?_, ?_, ?_, fun h => (by cases h), ?_⟩
  · rw [← hW1, hrec]; exact run_enterLoop_outer _ _ _ _ _
  · simp only [resolve, hg];simp [go_sem]
  · intro f' hf'; trivial
  · simp [invoke, go_sem, eg]
  · refine (hit (w.heap.size + 1)
      (fun k O W => I k (up O) W ∧ (¬ O w.heap.size ∧ ¬ O (w.heap.size + 1)) ∧ W.heap[w.heap.size + 1]? = some (.loop (rec .ready none)) ∧ W.heap[w.heap.size]? = some (.deferred (some [])))
      W1 hb1 ?_ ?_ ⟨hI1, ⟨fun h => by have := hS _ h; omega, fun h => by have := hS _ h; omega⟩, hL1, hK1⟩).mono ?_
    · -- it abides
      rintro k O O' A B ⟨hi, hn, hl, hk⟩ hkp hO hO'
      have n0 : ¬ O' w.heap.size := fun h => by
        rcases hO' _ h with h | h
        · exact hn.1 h
        · have := (Array.getElem?_eq_some_iff.1 hk).1; omega
      have n1 : ¬ O' (w.heap.size + 1) := fun h => by
        rcases hO' _ h with h | h
        · exact hn.2 h
        · have := (Array.getElem?_eq_some_iff.1 hl).1; omega
      refine ⟨hI k (up O) (up O') A B hi (hkp.mono fun b _ h => .inl h) (fun b h => h.elim (fun h => .inl (hO b h)) .inr) (fun b h => ?_), ⟨n0, n1⟩, hkp.heap hl n1, hkp.heap hk n0⟩;rcases h with h | h
      · rcases hO' b h with h | h
        · exact .inl (.inl h)
        · exact .inr h
      · exact .inl (.inr h)
    · -- one round
      rintro k x O W hlen hSO ⟨hi, hn, hl, hk⟩
      have hlt : w.heap.size + 1 < W.heap.size := (Array.getElem?_eq_some_iff.1 hl).1;have hy := run_yield (P := P) (args := enc x) hl (by rw [hrec]; exact hps _);rw [hrec] at hy;refine ⟨fn, _, assign, body, hy, roundIn_of_wpIn hfn (wpIn_mono (hround _ (up O) k x W hlen hi (fun b h => .inl (hSO b h)) (.inr (.inr rfl)) hlt) ?_)⟩;intro e1 a1 W1 h1;cases e1
      case normal =>
       obtain ⟨hkp, hi1, hbd⟩ := h1;have hl1 := hkp.heap hl (fun h => h.1 (.inr (.inr rfl)));have hk1 := hkp.heap hk (fun h => h.1 (.inr (.inl rfl)));have hlt1 := (Array.getElem?_eq_some_iff.1 hl1).1;refine ⟨_, run_beginRound hl1 (by rw [hrec]), ?_⟩;have hl2 : (W1.putObj (w.heap.size + 1) (.loop { rec .ready none with state := .busy })).heap[w.heap.size + 1]? = some (.loop { rec .ready none with state := .busy }) := World.putObj_heap_same hlt1;have hk2 : (W1.putObj (w.heap.size + 1) (.loop { rec .ready none with state := .busy })).heap[w.heap.size]? = some (.deferred (some [])) := (World.putObj_heap_other (by omega)).trans hk1;refine wpIn_mono (hbd _ (Keeps.putObj _ _ _ rfl) ?_) ?_
       · exact hI k (up O) (up O) W1 _ hi1 (Keeps.putObj _ _ _ (.inr (.inr rfl))) (fun _ h => h) (fun _ h => .inl h)
       rintro e a3 W3 ⟨rfl, hi3, hk3⟩
       have hl3 := hk3.heap hl2 (fun h => h.1 (.inr (.inr rfl)));have hk3' := hk3.heap hk2 (fun h => h.1 (.inr (.inl rfl)));have hr := run_endRound (P := P) none hl3;have hx : ¬ O (w.heap.size + 1) ∧ ¬ R (w.heap.size + 1) := ⟨hn.2, fun h => by have := hR _ h; omega⟩;refine ⟨_, _, hr, rfl, ⟨hI (k ++ [x]) (up O) (up O) W3 _ hi3 (Keeps.putObj _ _ _ (.inr (.inr rfl))) (fun _ h => h) (fun _ h => .inl h), hn, ?_, (World.putObj_heap_other (by omega)).trans hk3'⟩, ?_⟩
       · rw [World.putObj_heap_same (Array.getElem?_eq_some_iff.1 hl3).1, hrec]; rfl
       · exact (((hkp.mono fun b _ h => ⟨fun hb => h.1 (.inl hb), h.2⟩).trans (Keeps.putObj W1 (w.heap.size + 1) _ (O := fun b => ¬ O b ∧ ¬ R b) hx)).trans (hk3.mono fun b _ h => ⟨fun hb => h.1 (.inl hb), h.2⟩)).trans (Keeps.putObj _ _ _ hx)
      all_goals exact h1.elim
    · -- behind the iterator
      rintro e W2 ⟨⟨v, rfl⟩, O, xs, hall, hSO, hi, hn, hl, hk⟩
      refine ⟨none, _, by have := run_endLoop (P := P) hl (by rw [hrec]; simp); rw [hrec] at this; exact this, ?_⟩;exact hdone _ (up O) xs _ hall (hI _ (up O) (up O) W2 _ hi (Keeps.putObj _ _ _ (.inr (.inr rfl))) (fun _ h => h) (fun _ h => .inl h)) (fun b h => .inl (hSO b h)) (.inr (.inl rfl)) (Nat.le_refl _) ((World.putObj_heap_other (by omega)).trans hk)
end Go.Proofs.Ytjmkjlhnipnkcaa
