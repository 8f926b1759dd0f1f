/- The comparison of two blows of the chime, in any world: it answers by their places and tracks, and lays blocks at most. -/
import Derived.Test.YtgkoldcmbcbbpaaCdTail
import Derived.Sort.Grow
import Derived.Shelf.SlSortCmp.WholeK
import Derived.Shelf.SlSortCmp.NoneTotal
set_option linter.unusedSimpArgs false
set_option linter.unusedVariables false
namespace Go.Proofs.Ytgkoldcmbcbbpaa
open Go.RowKit Go.Shelf Go.Sort
theorem wp_region_tailN {P : Program} {id : Nat} {Q : Exit → Act → World → Prop} {a : Act} {w : World} {l : List Oper} (n : Nat) (hm : P.follows .mixedOrders = true) (hB : Region.lexTailB .any l.toArray n = true)
    (h : wpQuiet P l.toArray (fun w' => ∃ k, w' = w.drewN k) (fun a' => ∀ w', (∃ k, w' = w.drewN k) → wpList P l.toArray Q (l.drop n) a' w') (l.take n) a) : (Code.region id l.toArray true).wp P Q a w := by
  simp only [Region.lexTailB, Bool.and_eq_true, decide_eq_true_eq] at hB;obtain ⟨⟨⟨⟨hsel, hn⟩, hs⟩, hc⟩, hlex⟩ := hB;have hn' : n < l.length := by simpa using hn
  have htl : (l.take n).length = n := by simp; omega
  have hdl : (l.drop n).length = l.toArray.size - n := by simp
  have inv0 : HeadInv .any l.toArray n (Array.replicate l.toArray.size false) :=
    ⟨by simp, fun j x _ hl => (by rw [getD_replicate_false] at hl; cases hl), fun t _ ht => getD_in (by simpa using ht) (getD_replicate_false _ _)⟩
  have H := headAny_walk (g := l.toArray.size - n) hsel hs hc hn (l.take n) 0 _ a (fun j hj => by
    have hj' : j < n := by rw [htl] at hj; exact hj
    simp [hj']) (by simpa using htl) inv0 (by rw [htl]; exact hlex) h
  refine wp_region_any hm ?_;have R := headAny_any (Q := Q) (g := l.toArray.size - n) (fun s' a' w' hw' hL => by
    have := wpAny_of_seq (md := .any) (Q' := Q) (l.drop n) n s' a' w' (fun j => by simp [List.getElem?_drop]) (by rw [hdl]; exact hL.1) (hL.2 w' hw')
    rwa [hdl] at this) _ _ _ { w with drawn := w.drawn + 1 } ⟨1, rfl⟩ H
  rw [htl, show n + (l.toArray.size - n) = l.toArray.size by omega] at R;exact R
def cmpI (a b : Int) : Int := if a < b then -1 else if b < a then 1 else 0
theorem isNaN_c (a : Int) (w : World) : Calls Try.prog 300 #[.int .i64 a] w fun e w' => e = .returned (.bool false) ∧ w' = w := by
  go_enter Try.func300, Try.ntmps300
  go_wp2
  go_ret
  simp
theorem compare_c (a b : Int) (w : World) : Calls Try.prog 213 #[.int .i64 a, .int .i64 b] w fun e w' => e = .returned (.int .i64 (cmpI a b)) ∧ w' = w := by
  by_cases h1 : a < b
  · have e : cmpI a b = -1 := if_pos h1;rw [e]
    go_enter Try.func213, Try.ntmps213
    go_wp2_with (go_at_call 300; refine (isNaN_c _ _).mono ?_; rintro e w1 ⟨rfl, rfl⟩)
    all_goals go_ret
    all_goals simp
  · by_cases h2 : b < a
    · have e : cmpI a b = 1 := by unfold cmpI; rw [if_neg h1, if_pos h2]
      rw [e]
      go_enter Try.func213, Try.ntmps213
      go_wp2_with (go_at_call 300; refine (isNaN_c _ _).mono ?_; rintro e w1 ⟨rfl, rfl⟩)
      all_goals go_ret
      all_goals simp
    · have e : cmpI a b = 0 := by unfold cmpI; rw [if_neg h1, if_neg h2]
      rw [e]
      go_enter Try.func213, Try.ntmps213
      go_wp2_with (go_at_call 300; refine (isNaN_c _ _).mono ?_; rintro e w1 ⟨rfl, rfl⟩)
      all_goals go_ret
      all_goals simp
def orI (a b : Int) : Int := if a = 0 then b else a
theorem or_c (a b : Int) (blk : Nat) (w : World) (h0 : w.cell? ⟨blk, 0, none⟩ = some (.int .i64 a)) (h1 : w.cell? ⟨blk, 1, none⟩ = some (.int .i64 b)) :
    Calls Try.prog 212 #[.slice (some ⟨blk, 0, none⟩) 2 2] w fun e w' => e = .returned (.int .i64 (orI a b)) ∧ w' = w := by
  by_cases ha : a = 0
  · have e : orI a b = b := if_pos ha;rw [e];subst ha
    by_cases hb : b = 0
    · subst hb
      go_enter Try.func212, Try.ntmps212
      go_wp2
      refine wp_loop_rounds 3 ?_;rw [rounds_succ]
      go_wp2
      rw [rounds_succ]
      go_wp2
      rw [rounds_succ]
      go_wp2
      go_ret
      simp
    · go_enter Try.func212, Try.ntmps212
      go_wp2
      refine wp_loop_rounds 3 ?_;rw [rounds_succ]
      go_wp2
      rw [rounds_succ]
      go_wp2
      go_ret
      simp
  · have e : orI a b = a := if_neg ha;rw [e]
    go_enter Try.func212, Try.ntmps212
    go_wp2
    refine wp_loop_rounds 3 ?_;rw [rounds_succ]
    go_wp2
    go_ret
    simp
theorem cell_new2 (X : World) (a b : Value) (T n : Nat) (h : n = X.heap.size) : (X.alloc (.cells #[a, b] T)).cell? ⟨n, 0, none⟩ = some a ∧ (X.alloc (.cells #[a, b] T)).cell? ⟨n, 1, none⟩ = some b := by
  subst h;have h := World.alloc_heap_new X (.cells #[a, b] T)
  constructor <;> simp only [World.cell?, h] <;> rfl
def cfCh (x y : Int × Int × Int) : Int := orI (cmpI x.1 y.1) (cmpI x.2.2 y.2.2)
def encCh (x : Int × Int × Int) : List Value := [.int .i64 x.1, .int .i64 x.2.1, .int .i64 x.2.2]
theorem closure_ch (x y : Int × Int × Int) (w : World) : Calls Try.prog 211 #[.agg #[.int .i64 x.1, .int .i64 x.2.1, .int .i64 x.2.2], .agg #[.int .i64 y.1, .int .i64 y.2.1, .int .i64 y.2.2]] w fun e w' => e = .returned (.int .i64 (cfCh x y)) ∧ ∃ q os', w' = grow (w.drewN q) os' := by
  obtain ⟨x1, x2, x3⟩ := x;obtain ⟨y1, y2, y3⟩ := y;have HC := Lib.hid compare_c
  go_enter Try.func211, Try.ntmps211
  go_wp2
  refine wp_region_tailN 12 (by kernel_rfl) (by kernel_rfl) ?_;simp only [List.take_succ_cons, List.take_zero, List.drop_succ_cons, List.drop_zero]
  repeat (any_goals (first | go_big_quiet_step ((go_at_call 213; exact Calls.quiet_of_same (HC.out _ _ _))) | quiet_step ((go_at_call 213; exact Calls.quiet_of_same (HC.out _ _ _)))))
  refine wpQuiet_nil ?_;intro _ hw';obtain ⟨nq, hw''⟩ := hw';subst hw''
  go_wp2_with (go_at_call 212; refine (or_c _ _ _ _ (cell_new2 _ _ _ _ _ (by simp)).1 (cell_new2 _ _ _ _ _ (by simp)).2).mono ?_; rintro e w1 ⟨rfl, rfl⟩)
  go_ret
  refine ⟨rfl, nq, #[.cells #[.int .i64 x1, .int .i64 x2, .int .i64 x3] 402, .cells #[.int .i64 y1, .int .i64 y2, .int .i64 y3] 402, .cells #[.int .i64 (cmpI x1 y1), .int .i64 (cmpI x3 y3)] 3], ?_⟩;simp only [alloc_eq_grow];unfold grow World.drewN;simp;apply Array.ext';simp
theorem cmpLays_ch (blk off size : Nat) (w : World) : CmpLays Try.prog 211 #[] encCh 3 cfCh blk off size w := fun _ _ _ _ x y => by
  have h := closure_ch x y;exact h _
theorem lt_ch (x y : Int × Int × Int) : ltOf cfCh x y = (decide (x.1 < y.1) || (decide (x.1 = y.1) && decide (x.2.2 < y.2.2))) := by
  have c : ∀ a b : Int, (a < b ∧ cmpI a b = -1) ∨ (a = b ∧ cmpI a b = 0) ∨ (b < a ∧ cmpI a b = 1) := fun a b => by
    unfold cmpI
    split
    · exact .inl ⟨by assumption, rfl⟩
    · split
      · exact .inr (.inr ⟨by assumption, rfl⟩)
      · exact .inr (.inl ⟨by omega, rfl⟩)
  unfold ltOf cfCh orI;rcases c x.1 y.1 with ⟨h, e⟩ | ⟨h, e⟩ | ⟨h, e⟩ <;> rw [e]
  · simp [h]
  · rcases c x.2.2 y.2.2 with ⟨h2, e2⟩ | ⟨h2, e2⟩ | ⟨h2, e2⟩ <;> rw [e2] <;> simp [h, h2]
    omega
  · have h3 : ¬ x.1 < y.1 := by omega
    have h4 : ¬ x.1 = y.1 := by omega
    simp [h3, h4]
theorem swo_ch : SWO (ltOf cfCh) where
  irrefl x := by rw [lt_ch]; simp
  trans x y z h1 h2 := by rw [lt_ch] at *; simp at *; omega
  ntrans x y z h1 h2 := by rw [lt_ch] at *; simp at *; omega
end Go.Proofs.Ytgkoldcmbcbbpaa
