/- A region that draws its order: its first operations only read, or call what leaves alone what was there; the last ones come behind all of these, one after another. One walk in the text's order. -/
import Derived.Test.YtjmkjlhnipnkcaaPfBase
import Derived.StillTail
set_option linter.unusedSimpArgs false
set_option linter.unusedVariables false
namespace Go.Proofs.Ytjmkjlhnipnkcaa
open Go.RowKit Go.Shelf
section
variable {P : Program} {ops : Array Oper} {C : World → Prop} {n : Nat}
def HeadAny (P : Program) (ops : Array Oper) (C : World → Prop) (n : Nat) (L : Array Bool → Act → Prop) : Nat → Array Bool → Act → Prop
  | 0, s, a => L s a
  | f + 1, s, a => Region.ready .any ops s ≠ [] ∧ ∀ i ∈ Region.ready .any ops s, i < n ∧ qOp P ops C i (HeadAny P ops C n L f (s.setIfInBounds i true)) a
theorem headAny_any {g : Nat} {L : Array Bool → Act → Prop} {Q : Exit → Act → World → Prop} (hL : ∀ s a w, C w → L s a → wpAny P .any ops Q g s a w) (f : Nat) :
    ∀ s a w, C w → HeadAny P ops C n L f s a → wpAny P .any ops Q (f + g) s a w := by
  induction f with
  | zero => intro s a w hw h; rw [Nat.zero_add]; exact hL s a w hw h
  | succ f ih =>
    intro s a w hw h;rw [show f + 1 + g = f + g + 1 by omega];refine ⟨fun h0 => absurd h0 h.1, fun i hi => ?_⟩;exact wpOp_of_qOp hw (fun a' w' hw' h' => ih _ a' w' hw' h') (h.2 i hi).2
theorem headAny_take {i : Nat} {o : Oper} {v : Value} {L : Array Bool → Act → Prop} (hi : ops[i]? = some o) (hin : i < n)
    (hsel : ∀ (j : Nat) (x : Oper) cs b, ops[j]? = some x → x.op ≠ .select cs b)
    (hs : Region.sinkB .any ops n = true) (hc : Region.chainB .any ops n = true) (hn : n < ops.size)
    (hL : ∀ s a, L s a → ∀ j ∈ Region.ready .any ops s, n ≤ j) (f : Nat) :
    ∀ s a, HeadInv .any ops n s → i ∈ Region.ready .any ops s → YieldsIn P ops C o v a →
      (∀ j x, ops[j]? = some x → j ≠ i → s.getD j true = false → (∀ e ∈ x.after, Region.binds .any e = true → e.on ≠ i) → o.apart ops x = true) →
      HeadAny P ops C n L f (s.setIfInBounds i true) (a.put o.dst v) → HeadAny P ops C n L (f + 1) s a := by
  have early : ∀ s, HeadInv .any ops n s → i ∈ Region.ready .any ops s → ∀ j ∈ Region.ready .any ops s, j < n := by
    intro s inv hr j hj;rcases Nat.lt_or_ge j n with h | h
    · exact h
    · exact absurd hj (tail_waits hs hc hn inv _ i rfl hin (mem_ready.1 hr).1 j h)
  induction f with
  | zero =>
    intro s a inv hr hy _ H;refine ⟨List.ne_nil_of_mem hr, fun j hj => ⟨early s inv hr j hj, ?_⟩⟩
    by_cases e : j = i
    · subst e; exact hy.qOp hi H
    · have := hL _ _ H j (ready_mono hj e);have := early s inv hr j hj
      omega
  | succ f ih =>
    intro s a inv hr hy hfree H;refine ⟨List.ne_nil_of_mem hr, fun j hj => ⟨early s inv hr j hj, ?_⟩⟩
    by_cases e : j = i
    · subst e; exact hy.qOp hi H
    · obtain ⟨hun, x, hx, hall⟩ := mem_ready.1 hj;have hfirst : ∀ y ∈ x.after, Region.binds .any y = true → y.on ≠ i := by
        intro y hy1 hy2 hy3;have h1 := hall y hy1 hy2;rw [hy3, getD_both (mem_ready.1 hr).1] at h1;cases h1
      have step := qOp_put hx (hfree j x hx e hun hfirst) (fun cs b => hsel i o cs b hi) (fun cs b => hsel j x cs b hx) hy (H.2 j (ready_mono hj e)).2;refine qOp_mono (fun a' h' => ih (s.setIfInBounds j true) a' (inv.set hj (early s inv hr j hj)) (ready_mono hr (Ne.symm e)) h'.1 ?_ ?_) step
      · intro k y hk hki hku hno;refine hfree k y hk hki ?_ hno
        by_cases q : j = k
        · subst q; exact hun
        · rwa [getD_set_ne true q] at hku
      · rw [Array.setIfInBounds_comm _ _ e]; exact h'.2
theorem headAny_walk {g : Nat} {Lq : Act → Prop} (hsel : Region.noSelect ops = true) (hs : Region.sinkB .any ops n = true) (hc : Region.chainB .any ops n = true) (hn : n < ops.size) (l : List Oper) :
    ∀ (k : Nat) s a, (∀ j, j < l.length → l[j]? = ops[k + j]?) → k + l.length = n → HeadInv .any ops n s → Region.lexHead .any ops g l.length k s = true →
      wpQuiet P ops C Lq l a → HeadAny P ops C n (fun s' a' => Region.seqB .any ops g n s' = true ∧ Lq a') l.length s a := by
  induction l with
  | nil =>
    intro k s a _ hk _ hB h;have hB' : Region.seqB .any ops g k s = true := hB;rw [show k = n by simpa using hk] at hB';exact ⟨hB', h⟩
  | cons o l ih =>
    intro k s a hl hk inv hB h;have ho : ops[k]? = some o := by simpa using (hl 0 (by simp)).symm
    simp only [List.length_cons, Region.lexHead, Bool.and_eq_true] at hB;obtain ⟨⟨hr0, hf⟩, hB'⟩ := hB;have hr : k ∈ Region.ready .any ops s := by simpa using hr0
    have hkn : k < n := by simp only [List.length_cons] at hk; omega
    obtain ⟨v, hy, hK⟩ := yieldsIn_of_qOp ho (show qOp P ops C k (wpQuiet P ops C Lq l) a by unfold qOp; simp only [ho]; exact h);refine headAny_take ho hkn (Region.noSelect_spec hsel) hs hc hn (fun s' a' hL => seqB_ready hL.1) l.length s a inv hr hy (Region.free_spec ho hf) ?_;exact ih (k + 1) _ _ (fun j hj => by have := hl (j + 1) (by simp; omega); simpa [Nat.add_assoc, Nat.add_comm 1 j] using this) (by simp only [List.length_cons] at hk; omega) (inv.set hr hkn) hB' hK
theorem wp_region_tail {id : Nat} {Q : Exit → Act → World → Prop} {a : Act} {w : World} {l : List Oper} (n : Nat) (hm : P.follows .mixedOrders = true) (hB : Region.lexTailB .any l.toArray n = true)
    (h : wpQuiet P l.toArray (fun w' => ∃ x : Later w, w' = x.1) (fun a' => ∀ w', (∃ x : Later w, w' = x.1) → wpList P l.toArray Q (l.drop n) a' w') (l.take n) a) : (Code.region id l.toArray true).wp P Q a w := by
  simp only [Region.lexTailB, Bool.and_eq_true, decide_eq_true_eq] at hB;obtain ⟨⟨⟨⟨hsel, hn⟩, hs⟩, hc⟩, hlex⟩ := hB;have hn' : n < l.length := by simpa using hn
  have htl : (l.take n).length = n := by simp; omega
  have hdl : (l.drop n).length = l.toArray.size - n := by simp
  have inv0 : HeadInv .any l.toArray n (Array.replicate l.toArray.size false) :=
    ⟨by simp, fun j x _ hl => (by rw [getD_replicate_false] at hl; cases hl), fun t _ ht => getD_in (by simpa using ht) (getD_replicate_false _ _)⟩
  have H := headAny_walk (g := l.toArray.size - n) hsel hs hc hn (l.take n) 0 _ a (fun j hj => by
    have hj' : j < n := by rw [htl] at hj; exact hj
    simp [hj']) (by simpa using htl) inv0 (by rw [htl]; exact hlex) h
  refine wp_region_any hm ?_;have R := headAny_any (Q := Q) (g := l.toArray.size - n) (fun s' a' w' hw' hL => by
    have := wpAny_of_seq (md := .any) (Q' := Q) (l.drop n) n s' a' w' (fun j => by simp [List.getElem?_drop]) (by rw [hdl]; exact hL.1) (hL.2 w' hw')
    rwa [hdl] at this) _ _ _ { w with drawn := w.drawn + 1 } ⟨⟨_, (Below.refl _ w).drew⟩, rfl⟩ H
  rw [htl, show n + (l.toArray.size - n) = l.toArray.size by omega] at R;exact R
end
end Go.Proofs.Ytjmkjlhnipnkcaa
